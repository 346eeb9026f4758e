/- Part 5 of 6 of the proof: laws on memory and data, then what the functions compute, in the order in which they build on each other; conditions: those that each theorem names. -/
import Derived.Lib.SliceRun
import Derived.Test.YtidfloikpieggaaGreatP4
set_option maxRecDepth 100000
set_option maxHeartbeats 1600000

namespace Go.Proofs.YtidfloikpieggaaGreat
set_option linter.unusedVariables false
set_option linter.unusedSimpArgs false
open Go.RowKit
def clsV (ar : List Arr) (s : Stm) (p : List Int) : List Int := if stmG ar s p = true then (rdE s.2).map fun a => cellG a p ar 0 else []
def wrV (ar : List Arr) (s : Stm) (p : List Int) : Int := if stmG ar s p = true then cellG s.1 p ar 0 else 0
def cntP (ar : List Arr) (q : Prt) : Int := if prtV ar q = true then (((npR q.1).length * q.2.length : Nat) : Int) else 0
theorem cls_no {ar : List Arr} {s : Stm} {p : List Int} (h : stmG ar s p = false) : clsV ar s p = [] ∧ wrV ar s p = 0 := ⟨if_neg (by rw [h]; simp), if_neg (by rw [h]; simp)⟩
theorem cls_yes {ar : List Arr} {s : Stm} {p : List Int} (h : stmG ar s p = true) : clsV ar s p = (rdE s.2).map (fun a => cellG a p ar 0) ∧ wrV ar s p = cellG s.1 p ar 0 := ⟨if_pos h, if_pos h⟩
theorem accG_no {ar : List Arr} {p : List Int} {a : Acc} (h : cellG a p ar 0 < 0) : accG ar p a = false := decide_eq_false (by omega)
theorem accG_yes {ar : List Arr} {p : List Int} {a : Acc} (h : ¬ cellG a p ar 0 < 0) : accG ar p a = true := decide_eq_true (by omega)
theorem stmG_r {ar : List Arr} {s : Stm} {p : List Int} {a : Acc} (ha : a ∈ rdE s.2) (h : cellG a p ar 0 < 0) : stmG ar s p = false := Bool.eq_false_iff.2 fun h2 => by
  rw [stmG, Bool.and_eq_true] at h2
  have := List.all_eq_true.1 h2.2 a ha
  rw [accG_no h] at this; cases this
theorem stmG_w {ar : List Arr} {s : Stm} {p : List Int} (h : cellG s.1 p ar 0 < 0) : stmG ar s p = false := by rw [stmG, accG_no h]; rfl
theorem stmG_t {ar : List Arr} {s : Stm} {p : List Int} (h : ¬ cellG s.1 p ar 0 < 0) (h2 : ∀ (j : Nat) a, j < (rdE s.2).length → (rdE s.2)[j]? = some a → accG ar p a = true) : stmG ar s p = true := by
  rw [stmG, accG_yes h, Bool.true_and]
  exact all_of fun j a h => h2 j a (List.getElem?_eq_some_iff.1 h).1 h
theorem cntP_no {ar : List Arr} {q : Prt} (h : prtV ar q = false) : cntP ar q = 0 := if_neg (by rw [h]; simp)
theorem cntP_yes {ar : List Arr} {q : Prt} (h : prtV ar q = true) : cntP ar q = (((npR q.1).length * q.2.length : Nat) : Int) := if_pos h
theorem cntP_len {ar : List Arr} {q : Prt} (h : prtV ar q = true) (k : Nat) : cntP ar q = ((insP k q).length : Nat) ∧ (insP k q).length ≤ 480 := by
  obtain ⟨h1, h2⟩ := insP_len (k := k) (prtV_iff.1 h).2.1.2
  exact ⟨by rw [cntP_yes h, h1], h2⟩
theorem np_pts {ns : List Lp} (h : okP ns = true) : nsV ns = true ∧ npR ns = ptsF ns [] [] := by
  have hv := (okP_iff.1 h).1
  exact ⟨hv, (np_yes hv (fun h2 => by rw [np_no1 h2] at h; cases h) (fun h2 => by rw [np_no2 h2] at h; cases h)).2⟩

theorem l4Cells_fn {ar : List Arr} (hv : arrsV ar = true) {D : Int} {s : Stm} {p : List Int} (hs : stmtV D s = true) (hz : szS s ≤ 1073741824) (hS : Small p) (hn : p.length ≤ 4) : Fn Tryz.prog 88 [] [vD (dRs ar), ad (rS s), vD (dIs p)] (.tup [vD (dIs (clsV ar s p)), nat1 (wrV ar s p), bo1 (stmG ar s p)]) [] := by
  obtain ⟨ha, hr, hrl⟩ := stm_accs hs
  have hz2 : szE s.2 ≤ 1073741824 := by have : szS s = szC s.1 + szE s.2 := rfl; omega
  refine Fn.code0 Tryz.func88 rfl rfl rfl rfl ?_
  refine .seq <| .region <| .cons (St1.boxP rfl rfl rfl rfl rfl rfl) <| .cons (.asg rfl rfl) <| .cons (.asg rfl rfl) <| .cons (.asg rfl rfl) <| .nil <| ks_n <| .seq <| .region <| .cons (St1.lit0 (k' := 114) (e := 3) (sz := 1) (b := true) rfl rfl rfl rfl (by kernel_rfl) rfl rfl) ?_
  refine .cons (.asg rfl rfl) <| .nil <| ks_n <| .seq <| .region <| .cons (St1.lit0 (k' := 115) (e := 89) (sz := 2) (b := true) rfl rfl rfl rfl (by kernel_rfl) rfl rfl) ?_
  refine .cons (.fP 2 6 true rfl rfl) <| .cons (.lN 7 rfl rfl rfl) <| .cons (.cO [.tmp 15, .tmp 17] [(0, 115), (1000, 118)] rfl rfl rfl rfl (l3Reads_fn s.2 hz2 [] (by simp; omega)) rfl ⟨rfl, trivial⟩ (hbL_flat _ _) (hbL_flat _ _) (hbL_HB _ _) outS_one) ?_
  refine .cons (.asg rfl rfl) <| .nil <| ks_n <| .seq <| .seq <| .region <| .cons (.asg rfl rfl) <| .nil <| ks_n <| .block ?_
  refine .loopK (fun m σ => (∃ i : Nat, m = (rdE s.2).length - i ∧ (i ≤ (rdE s.2).length) ∧ (∀ j a, j < i → (rdE s.2)[j]? = some a → accG ar p a = true) ∧ σ = [(.t 0, .v (.o (vD (dRs ar)))), (.t 2, .v (.o (vD (dIs p)))), (.t 4, .v (.o (.c (.ptr (rS s))))), (.t 9, .v (.o (.c (.own 110 1 (i))))), (.t 10, .v (.o (vD (dCs (rdE s.2))))), (.t 11, .v (.o (nat1 (i : Nat)))), (.b 110, .b 3 1 (dR (((rdE s.2).take i).map fun a => rI (cellG a p ar 0)))), (.u 110, .u)])) [(110, 114)] ⟨0, rfl, by omega, fun j a hj _ => absurd hj (by omega), rfl⟩ ⟨ks rfl .dt, ks rfl .dt, ks rfl .dt, ks rfl (.c .ow), ks rfl (.c (.fz rfl rfl (by simp) (by simp; omega))), ks rfl .dt, kb 114 rfl (.dt rfl (by first | exact dR_take (fun a : Acc => rI (cellG a p ar 0)) hx1 | exact dR_take1 (fun a : Acc => rI (cellG a p ar 0)) hx1 | rfl | (simp [dR]; done))), trivial⟩ ?_
  rintro m σ ⟨i, hm0, hi, hF, rfl⟩
  refine .seq <| .seq <| .region <| .cons (.mv rfl rfl) <| .cons (.mv rfl rfl) <| .cons (.ln 89 2 40 rfl rfl rfl) <| .cons (.ls rfl rfl rfl) <| .nil <| ks_n ?_
  refine .cD rfl (fun h22 => ?_) (fun h22 => ?_)
  · skip
    obtain ⟨x, hx1⟩ : ∃ x_, (rdE s.2)[i]? = some x_ := ⟨_, List.getElem?_eq_getElem (by omega)⟩
    refine .skip <| ks_n <| .seq <| .block <| .seq <| .region <| .cons (.mv rfl rfl) <| .cons (.mv rfl rfl) <| .cons (.mv rfl rfl) <| .cons (.xL 89 2 40 rfl rfl rfl rfl rfl) ?_
    refine .cons (.lN 2 rfl rfl rfl) <| .cons (.mv rfl rfl) <| .cons (.cP [.tmp 25, .tmp 29, .tmp 30] rfl rfl rfl rfl (l4Cell_fn hv (hr x (List.mem_of_getElem? hx1)) hS hn) rfl) ?_
    refine .cons (.asg rfl rfl) <| .nil <| ks_n <| .seq <| .seq <| .region <| .cons (.mv rfl rfl) <| .cons (.ls rfl rfl rfl) <| .nil <| ks_n ?_
    refine .cD rfl (fun h33 => ?_) (fun h33 => ?_)
    · skip
      refine .seq ?_
      have hG := stmG_r (List.mem_of_getElem? hx1) h33
      obtain ⟨hC, hW⟩ := cls_no hG
      refine .region <| .cons (St1.lit0D (e := 3) (sz := 1) (b := true) rfl rfl rfl rfl (by kernel_rfl)) ?_
      refine .cons (.asg rfl rfl) <| .cons (.asg rfl rfl) <| .cons (.asg rfl rfl) <| .nil <| ks_n <| .ret <| ks_r <| kb_r <| ks_r <| kl_r <| kb_r <| ks_r ?_
      refine kf_wret [(.t 6, .v (.o (vD (dIs (clsV ar s p))))), (.t 7, .v (.o (nat1 (wrV ar s p)))), (.t 8, .v (.o (bo1 (stmG ar s p))))] (Wk.keep [] rfl rfl ⟨ks rfl (.dt (by rw [hC]; rfl)), ks rfl (.dt (by rw [hW])), ks rfl (.dt (by rw [hG])), trivial⟩) rfl ?_ nobox
      rfl
    · skip
      refine .skip <| ks_n <| .region <| .cons (.mv rfl rfl) <| .cons (.mv rfl rfl) <| .cons (.li 3 0 0 [.tmp 36] rfl rfl rfl rfl rfl rfl) <| .cons (St1.appB (k' := 138) (e := 3) (sz := 0) (by' := 8) rfl rfl rfl rfl rfl (by kernel_rfl) rfl rfl rfl rfl (by first | (simp [dR]; done) | (simp [dR]; omega)) (by first | (simp [dR]; done) | (simp [dR]; omega)) rfl rfl rfl) ?_
      refine .cons (.asg rfl rfl) <| .nil <| kb_n <| ks_n <| .region <| .cons (.mv rfl rfl) <| .cons (.pl rfl rfl rfl) <| .cons (.asg rfl rfl) <| .nil ?_
      refine kl_k [(110, 138)] ⟨i + 1, rfl, by omega, fun j a' hj h' => (Nat.lt_succ_iff_lt_or_eq.1 hj).elim (fun h => hF j a' h h') (fun h => by subst h; rw [hx1] at h'; cases h'; exact accG_yes h33), rfl⟩ ⟨ks rfl .dt, ks rfl .dt, ks rfl .dt, ks rfl (.c .ow), ks rfl .dt, ks rfl .dt, kb 138 rfl (.dt rfl (by first | exact dR_take (fun a : Acc => rI (cellG a p ar 0)) hx1 | exact dR_take1 (fun a : Acc => rI (cellG a p ar 0)) hx1 | rfl | (simp [dR]; done))), trivial⟩
  · skip
    obtain rfl : i = (rdE s.2).length := by omega
    refine .exit <| ks_e <| kl_e <| kb_hit <| ks_n <| .seq <| .region <| .cons (.mv rfl rfl) <| .cons (.fP 0 1 true rfl rfl) <| .cons (.lN 2 rfl rfl rfl) <| .cons (.mv rfl rfl) <| .cons (.cP [.tmp 39, .tmp 41, .tmp 42] rfl rfl rfl rfl (l4Cell_fn hv ha hS hn) rfl) ?_
    refine .cons (.asg rfl rfl) <| .nil <| ks_n <| .seq <| .seq <| .region <| .cons (.mv rfl rfl) <| .cons (.ls rfl rfl rfl) <| .nil <| ks_n ?_
    refine .cD rfl (fun h45 => ?_) (fun h45 => ?_)
    · skip
      refine .seq ?_
      have hG : stmG ar s p = false := stmG_w h45
      obtain ⟨hC, hW⟩ := cls_no hG
      refine .region <| .cons (St1.lit0D (e := 3) (sz := 1) (b := true) rfl rfl rfl rfl (by kernel_rfl)) ?_
      refine .cons (.asg rfl rfl) <| .cons (.asg rfl rfl) <| .cons (.asg rfl rfl) <| .nil <| ks_n <| .ret <| ks_r ?_
      refine kf_wret [(.t 6, .v (.o (vD (dIs (clsV ar s p))))), (.t 7, .v (.o (nat1 (wrV ar s p)))), (.t 8, .v (.o (bo1 (stmG ar s p))))] (Wk.keep [] rfl rfl ⟨ks rfl (.dt (by rw [hC]; rfl)), ks rfl (.dt (by rw [hW])), ks rfl (.dt (by rw [hG])), trivial⟩) rfl ?_ nobox
      rfl
    · skip
      refine .skip <| ks_n <| .seq ?_
      have hG := stmG_t h45 hF
      obtain ⟨hC, hW⟩ := cls_yes hG
      refine .region <| .cons (.mv rfl rfl) <| .cons (.mv rfl rfl) <| .cons (.asg rfl rfl) <| .cons (.asg rfl rfl) <| .cons (.asg rfl rfl) <| .nil <| ks_n <| .ret ?_
      refine kf_wret [(.t 6, .v (.o (vD (dIs (clsV ar s p))))), (.t 7, .v (.o (nat1 (wrV ar s p)))), (.t 8, .v (.o (bo1 (stmG ar s p))))] (Wk.keep [] rfl rfl ⟨ks rfl (.c (.fz rfl (by rw [hC]; first | rfl | (rw [List.take_length, List.map_map]; rfl)) (by rw [hC]; simp) (by omega))), ks rfl (.dt (by rw [hW])), ks rfl (.dt (by rw [hG])), trivial⟩) rfl ?_ nobox
      rfl

theorem l4Part_fn {ar : List Arr} (hv : arrsV ar = true) {q : Prt} (hs : szPt q ≤ 1073741824) : Fn Tryz.prog 87 [] [vD (dRs ar), ad (rP q)] (.tup [nat1 (cntP ar q), bo1 (prtV ar q)]) [] := by
 have hqe : szPt q = szLs q.1 + szO szS q.2 := rfl
 have hbg := sz_bg (ns := q.1) (by omega)
 have hql := szO_len (f := szS) q.2
 have hnl := npR_len q.1
 refine Fn.code0 Tryz.func87 rfl rfl rfl rfl ?_
 refine .seq <| .region <| .cons (St1.boxP rfl rfl rfl rfl rfl rfl) <| .cons (.asg rfl rfl) <| .cons (.asg rfl rfl) <| .nil <| ks_n <| .seq <| .region <| .cons (.fP 0 0 false rfl rfl) <| .cons (.l1 1 rfl rfl) <| .cons (.cP [.tmp 15] rfl rfl rfl rfl (specNestPts_B q.1 hbg) rfl) ?_
 refine .cons (.mv rfl rfl) <| .cons (.ex rfl rfl rfl) <| .cons (.ex rfl rfl rfl) <| .cons (.asg rfl rfl) <| .cons (.asg rfl rfl) <| .nil <| ks_n <| .seq <| .seq <| .region <| .cons (.mv rfl rfl) <| .cons (.nt rfl rfl) <| .cons (.mv rfl rfl) ?_
 refine AOps.cases 21 _ rfl (fun g21 => ?_) (fun g21 => ?_)
 ·try simp only [zs1, zs2, zs3, zs4, zs5, zs6, zs7] at g21
  refine .cons (.gF rfl rfl rfl) <| .cons (.gF rfl rfl rfl) <| .cons (.gF rfl rfl rfl) <| .cons (.gF rfl rfl rfl) <| .cons (.pT rfl rfl rfl) <| .cons (.mv rfl rfl) <| .cons (.gF rfl rfl rfl) <| .cons (.gF rfl rfl rfl) <| .cons (.gF rfl rfl rfl) <| .cons (.gF rfl rfl rfl) <| .cons (.pT rfl rfl rfl) <| .nil <| ks_n ?_
  refine ACode.condT rfl (fun _ => ?_) (fun h => by first | (cases h; done) | (simp [*] at h; done) | (exfalso; simp_all; done))
  refine .seq ?_
  have hP : prtV ar q = false := by first | exact prtV_f1 (by assumption) | exact prtV_f2 (by omega)
  have hC := cntP_no hP
  refine .region <| .cons (.asg rfl rfl) <| .cons (.asg rfl rfl) <| .nil <| ks_n <| .ret <| ks_r ?_
  refine kf_wret [(.t 4, .v (.o (nat1 (cntP ar q)))), (.t 5, .v (.o (bo1 (prtV ar q))))] (Wk.keep [] rfl rfl ⟨ks rfl (.dt (by first | (rw [hC]; done) | (rw [hC]; rfl) | (rw [hC]; exact congrArg (fun z => V.o (nat1 z)) (by rw [Int.natCast_mul])))), ks rfl (.dt (by rw [hP])), trivial⟩) rfl ?_ nobox
  rfl
 ·try simp only [zs1, zs2, zs3, zs4, zs5, zs6, zs7] at g21
  refine .cons (.gT rfl rfl rfl (.fP 1 0 false rfl rfl)) <| .cons (.gT rfl rfl rfl (.l1 1 rfl rfl)) <| .cons (.gT rfl rfl rfl (.ln 96 9 152 rfl rfl rfl)) <| .cons (.gT rfl rfl rfl (.ls rfl rfl rfl)) <| .cons (.pF rfl rfl rfl) <| .cons (.mv rfl rfl) ?_
  refine AOps.cases 27 _ rfl (fun g27 => ?_) (fun g27 => ?_)
  ·try simp only [zs1, zs2, zs3, zs4, zs5, zs6, zs7] at g27
   refine .cons (.gF rfl rfl rfl) <| .cons (.gF rfl rfl rfl) <| .cons (.gF rfl rfl rfl) <| .cons (.gF rfl rfl rfl) <| .cons (.pT rfl rfl rfl) <| .nil <| ks_n ?_
   refine ACode.condT rfl (fun _ => ?_) (fun h => by first | (cases h; done) | (simp [*] at h; done) | (exfalso; simp_all; done))
   refine .seq ?_
   have hP : prtV ar q = false := by first | exact prtV_f1 (by assumption) | exact prtV_f2 (by omega)
   have hC := cntP_no hP
   refine .region <| .cons (.asg rfl rfl) <| .cons (.asg rfl rfl) <| .nil <| ks_n <| .ret <| ks_r ?_
   refine kf_wret [(.t 4, .v (.o (nat1 (cntP ar q)))), (.t 5, .v (.o (bo1 (prtV ar q))))] (Wk.keep [] rfl rfl ⟨ks rfl (.dt (by first | (rw [hC]; done) | (rw [hC]; rfl) | (rw [hC]; exact congrArg (fun z => V.o (nat1 z)) (by rw [Int.natCast_mul])))), ks rfl (.dt (by rw [hP])), trivial⟩) rfl ?_ nobox
   rfl
  ·try simp only [zs1, zs2, zs3, zs4, zs5, zs6, zs7] at g27
   refine .cons (.gT rfl rfl rfl (.fP 1 0 false rfl rfl)) <| .cons (.gT rfl rfl rfl (.l1 1 rfl rfl)) <| .cons (.gT rfl rfl rfl (.ln 96 9 152 rfl rfl rfl)) <| .cons (.gT rfl rfl rfl (.gt rfl rfl rfl)) <| .cons (.pF rfl rfl rfl) <| .nil <| ks_n ?_
   refine ACode.condT rfl (fun h32 => ?_) (fun h32 => ?_)
   ·try simp only [zs1, zs2, zs3, zs4, zs5, zs6, zs7] at h32
    refine .seq ?_
    have hP : prtV ar q = false := by first | exact prtV_f1 (by assumption) | exact prtV_f2 (by omega)
    have hC := cntP_no hP
    refine .region <| .cons (.asg rfl rfl) <| .cons (.asg rfl rfl) <| .nil <| ks_n <| .ret <| ks_r ?_
    refine kf_wret [(.t 4, .v (.o (nat1 (cntP ar q)))), (.t 5, .v (.o (bo1 (prtV ar q))))] (Wk.keep [] rfl rfl ⟨ks rfl (.dt (by first | (rw [hC]; done) | (rw [hC]; rfl) | (rw [hC]; exact congrArg (fun z => V.o (nat1 z)) (by rw [Int.natCast_mul])))), ks rfl (.dt (by rw [hP])), trivial⟩) rfl ?_ nobox
    rfl
   ·try simp only [zs1, zs2, zs3, zs4, zs5, zs6, zs7] at h32
    have hv1 : okP q.1 = true := by first | assumption | simp_all
    have hv2 : 1 ≤ q.2.length ∧ q.2.length ≤ 4 := by omega
    have hmb := Nat.mul_le_mul hnl hv2.2
    refine .skip <| ks_n <| .seq <| .seq <| .region <| .cons (.asg rfl rfl) <| .nil <| ks_n <| .block ?_
    refine .loopK (fun m σ => (∃ i : Nat, m = q.2.length - i ∧ (i ≤ q.2.length) ∧ (∀ j s, j < i → q.2[j]? = some s → stmtV (q.1.length : Nat) s = true ∧ ∀ p ∈ npR q.1, stmG ar s p = true ∧ isPt p = true) ∧ σ = [(.t 0, .v (.o (vD (dRs ar)))), (.t 3, .v (.o (.c (.ptr (rP q))))), (.t 6, .v (.o (vD (dPs (npR q.1))))), (.t 8, .v (.o (nat1 (i : Nat))))])) [] ⟨0, rfl, by omega, fun j s hj _ => absurd hj (by omega), rfl⟩ ⟨ks rfl .dt, ks rfl .dt, ks rfl .dt, ks rfl .dt, trivial⟩ ?_
    rintro m σ ⟨i, hm0, hi, hF, rfl⟩
    refine .seq <| .seq <| .region <| .cons (.mv rfl rfl) <| .cons (.fP 1 0 false rfl rfl) <| .cons (.l1 1 rfl rfl) <| .cons (.ln 96 9 152 rfl rfl rfl) <| .cons (.ls rfl rfl rfl) <| .nil <| ks_n ?_
    refine .cD rfl (fun h37 => ?_) (fun h37 => ?_)
    ·skip
     obtain ⟨s, hs1⟩ : ∃ x_, q.2[i]? = some x_ := ⟨_, List.getElem?_eq_getElem (by omega)⟩
     have hsm := List.mem_of_getElem? hs1
     have hss := szO_mem (f := szS) hsm
     refine .skip <| ks_n <| .seq <| .block <| .seq <| .seq ?_
     refine ACode.drawK (by kernel_rfl) (by kernel_rfl) ?_
     refine .cons (.fP 1 0 false rfl rfl) <| .cons (.l1 1 rfl rfl) <| .cons (.mv rfl rfl) <| .cons (.xL 96 9 152 rfl rfl rfl rfl rfl) ?_
     refine .cons (.lN 9 rfl rfl rfl) <| .cons (.fP 0 0 false rfl rfl) <| .cons (.l1 1 rfl rfl) <| .cons (.ln 172 2 48 rfl rfl rfl) <| .cons (.cP [.tmp 44, .tmp 47] rfl rfl rfl rfl (specStmtV_fn (q.1.length : Nat) s (by omega)) rfl) ?_
     refine .cons (.nt rfl rfl) ?_
     refine .nil ⟨by kernel_rfl, ?_⟩
     refine ks_n ?_
     refine ACode.condT rfl (fun h49 => ?_) (fun h49 => ?_)
     ·try simp only [zs1, zs2, zs3, zs4, zs5, zs6, zs7] at h49
      refine .seq ?_
      have hP := prtV_f3 (ar := ar) hsm (by assumption)
      have hC := cntP_no hP
      refine .region <| .cons (.asg rfl rfl) <| .cons (.asg rfl rfl) <| .nil <| ks_n <| .ret <| ks_r <| kb_r <| ks_r <| kl_r <| kb_r <| ks_r ?_
      refine kf_wret [(.t 4, .v (.o (nat1 (cntP ar q)))), (.t 5, .v (.o (bo1 (prtV ar q))))] (Wk.keep [] rfl rfl ⟨ks rfl (.dt (by first | (rw [hC]; done) | (rw [hC]; rfl) | (rw [hC]; exact congrArg (fun z => V.o (nat1 z)) (by rw [Int.natCast_mul])))), ks rfl (.dt (by rw [hP])), trivial⟩) rfl ?_ nobox
      rfl
     ·try simp only [zs1, zs2, zs3, zs4, zs5, zs6, zs7] at h49
      have hsv : stmtV (q.1.length : Nat) s = true := by assumption
      refine .skip <| ks_n <| .seq <| .region <| .cons (.asg rfl rfl) <| .nil <| ks_n <| .block ?_
      refine .loopK (fun m σ => (∃ k : Nat, m = (npR q.1).length - k ∧ (k ≤ (npR q.1).length) ∧ (∀ j p, j < k → (npR q.1)[j]? = some p → stmG ar s p = true ∧ isPt p = true) ∧ σ = [(.t 0, .v (.o (vD (dRs ar)))), (.t 3, .v (.o (.c (.ptr (rP q))))), (.t 6, .v (.o (vD (dPs (npR q.1))))), (.t 8, .v (.o (nat1 (i : Nat)))), (.t 9, .v (.o (nat1 (k : Nat))))])) [] ⟨0, rfl, by omega, fun j p hj _ => absurd hj (by omega), rfl⟩ ⟨ks rfl .dt, ks rfl .dt, ks rfl .dt, ks rfl .dt, ks rfl .dt, trivial⟩ ?_
      rintro m σ ⟨k, hm0, hk, hG, rfl⟩
      refine .seq <| .seq <| .region <| .cons (.mv rfl rfl) <| .cons (.mv rfl rfl) <| .cons (.ln 35 1 24 rfl rfl rfl) <| .cons (.ls rfl rfl rfl) <| .nil <| ks_n ?_
      refine .cD rfl (fun h53 => ?_) (fun h53 => ?_)
      ·skip
       obtain ⟨p, hp1⟩ : ∃ x_, (npR q.1)[k]? = some x_ := ⟨_, List.getElem?_eq_getElem (by omega)⟩
       have hpm := List.mem_of_getElem? hp1
       have hpt := npR_pt hpm
       refine .skip <| ks_n <| .seq <| .block <| .seq ?_
       refine ACode.drawK (by kernel_rfl) (by kernel_rfl) ?_
       refine .cons (.mv rfl rfl) <| .cons (.fP 1 0 false rfl rfl) <| .cons (.l1 1 rfl rfl) <| .cons (.mv rfl rfl) <| .cons (.xL 96 9 152 rfl rfl rfl rfl rfl) ?_
       refine .cons (.lN 9 rfl rfl rfl) <| .cons (.mv rfl rfl) <| .cons (.mv rfl rfl) <| .cons (.xL 35 1 24 rfl rfl rfl rfl rfl) ?_
       refine .cons (.l1 1 rfl rfl) <| .cons (.cP [.tmp 57, .tmp 62, .tmp 66] rfl rfl rfl rfl (l4Cells_fn hv hsv (by omega) hpt.1 hpt.2) rfl) ?_
       refine .cons (.mv rfl rfl) <| .cons (.ex rfl rfl rfl) <| .cons (.ex rfl rfl rfl) <| .cons (.ex rfl rfl rfl) <| .cons (.asg rfl rfl) <| .cons (.asg rfl rfl) <| .cons (.asg rfl rfl) ?_
       refine .nil ⟨by kernel_rfl, ?_⟩
       refine ks_n <| .seq <| .region <| .cons (.mv rfl rfl) <| .cons (.nt rfl rfl) <| .cons (.mv rfl rfl) ?_
       refine AOps.cases 73 _ rfl (fun g73 => ?_) (fun g73 => ?_)
       ·try simp only [zs1, zs2, zs3, zs4, zs5, zs6, zs7] at g73
        refine .cons (.gF rfl rfl rfl) <| .cons (.gF rfl rfl rfl) <| .cons (.gF rfl rfl rfl) <| .cons (.gF rfl rfl rfl) <| .cons (.gF rfl rfl rfl) <| .cons (.gF rfl rfl rfl) <| .cons (.pT rfl rfl rfl) <| .nil <| ks_n ?_
        refine ACode.condT rfl (fun _ => ?_) (fun h => by first | (cases h; done) | (simp [*] at h; done) | (exfalso; simp_all; done))
        refine .seq ?_
        have hP : prtV ar q = false := by first | exact prtV_f5 hpm hsm (by assumption) | exact prtV_f4 hpm (by assumption)
        have hC := cntP_no hP
        refine .region <| .cons (.asg rfl rfl) <| .cons (.asg rfl rfl) <| .nil <| ks_n <| .ret <| kb_r <| ks_r <| kl_r <| kb_r <| kb_r <| ks_r <| kl_r <| kb_r <| ks_r ?_
        refine kf_wret [(.t 4, .v (.o (nat1 (cntP ar q)))), (.t 5, .v (.o (bo1 (prtV ar q))))] (Wk.keep [] rfl rfl ⟨ks rfl (.dt (by first | (rw [hC]; done) | (rw [hC]; rfl) | (rw [hC]; exact congrArg (fun z => V.o (nat1 z)) (by rw [Int.natCast_mul])))), ks rfl (.dt (by rw [hP])), trivial⟩) rfl ?_ nobox
        rfl
       ·try simp only [zs1, zs2, zs3, zs4, zs5, zs6, zs7] at g73
        refine .cons (.gT rfl rfl rfl (.mv rfl rfl)) <| .cons (.gT rfl rfl rfl (.mv rfl rfl)) <| .cons (.gT rfl rfl rfl (.xL 35 1 24 rfl rfl rfl rfl rfl)) ?_
        refine .cons (.gT rfl rfl rfl (.l1 1 rfl rfl)) <| .cons (.gT rfl rfl rfl (.cP [.tmp 77] rfl rfl rfl rfl (l1Point_fn _) rfl)) ?_
        refine .cons (.gT rfl rfl rfl (.nt rfl rfl)) <| .cons (.pF rfl rfl rfl) <| .nil <| ks_n ?_
        refine ACode.condT rfl (fun h80 => ?_) (fun h80 => ?_)
        ·try simp only [zs1, zs2, zs3, zs4, zs5, zs6, zs7] at h80
         refine .seq ?_
         have hP : prtV ar q = false := by first | exact prtV_f5 hpm hsm (by assumption) | exact prtV_f4 hpm (by assumption)
         have hC := cntP_no hP
         refine .region <| .cons (.asg rfl rfl) <| .cons (.asg rfl rfl) <| .nil <| ks_n <| .ret <| kb_r <| ks_r <| kl_r <| kb_r <| kb_r <| ks_r <| kl_r <| kb_r <| ks_r ?_
         refine kf_wret [(.t 4, .v (.o (nat1 (cntP ar q)))), (.t 5, .v (.o (bo1 (prtV ar q))))] (Wk.keep [] rfl rfl ⟨ks rfl (.dt (by first | (rw [hC]; done) | (rw [hC]; rfl) | (rw [hC]; exact congrArg (fun z => V.o (nat1 z)) (by rw [Int.natCast_mul])))), ks rfl (.dt (by rw [hP])), trivial⟩) rfl ?_ nobox
         rfl
        ·try simp only [zs1, zs2, zs3, zs4, zs5, zs6, zs7] at h80
         have hSG : stmG ar s p = true := by first | assumption | simp_all
         have hPT : isPt p = true := by first | assumption | simp_all
         refine .skip <| kb_n <| ks_n <| .region <| .cons (.mv rfl rfl) <| .cons (.pl rfl rfl rfl) <| .cons (.asg rfl rfl) <| .nil ?_
         refine kl_k [] ⟨k + 1, rfl, by omega, fun j p' hj h' => (Nat.lt_succ_iff_lt_or_eq.1 hj).elim (fun h => hG j p' h h') (fun h => by subst h; rw [hp1] at h'; cases h'; exact ⟨hSG, hPT⟩), rfl⟩ ⟨ks rfl .dt, ks rfl .dt, ks rfl .dt, ks rfl .dt, ks rfl .dt, trivial⟩
      ·skip
       have hAll : ∀ p ∈ npR q.1, stmG ar s p = true ∧ isPt p = true := fun p hp => by obtain ⟨j, hj⟩ := List.mem_iff_getElem?.1 hp; exact hG j p (by have := (List.getElem?_eq_some_iff.1 hj).1; omega) hj
       refine .exit <| ks_e <| kl_e <| kb_hit <| kb_n <| ks_n <| .region <| .cons (.mv rfl rfl) <| .cons (.pl rfl rfl rfl) <| .cons (.asg rfl rfl) <| .nil ?_
       refine kl_k [] ⟨i + 1, rfl, by omega, fun j s' hj h' => (Nat.lt_succ_iff_lt_or_eq.1 hj).elim (fun h => hF j s' h h') (fun h => by subst h; rw [hs1] at h'; cases h'; exact ⟨hsv, hAll⟩), rfl⟩ ⟨ks rfl .dt, ks rfl .dt, ks rfl .dt, ks rfl .dt, trivial⟩
    ·skip
     have hP : prtV ar q = true := prtV_iff.2 ⟨hv1, hv2, fun s hs => by obtain ⟨j, hj⟩ := List.mem_iff_getElem?.1 hs; exact (hF j s (by have := (List.getElem?_eq_some_iff.1 hj).1; omega) hj).1, fun p hp => ⟨by obtain ⟨s, hs⟩ : ∃ s, q.2[0]? = some s := ⟨_, List.getElem?_eq_getElem (by omega)⟩; exact ((hF 0 s (by omega) hs).2 p hp).2, fun s hs => by obtain ⟨j, hj⟩ := List.mem_iff_getElem?.1 hs; exact ((hF j s (by have := (List.getElem?_eq_some_iff.1 hj).1; omega) hj).2 p hp).1⟩⟩
     have hC := cntP_yes hP
     refine .exit <| ks_e <| kl_e <| kb_hit <| ks_n <| .seq <| .region <| .cons (.mv rfl rfl) <| .cons (.ln 35 1 24 rfl rfl rfl) <| .cons (.fP 1 0 false rfl rfl) <| .cons (.l1 1 rfl rfl) <| .cons (.ln 96 9 152 rfl rfl rfl) <| .cons (.ml rfl rfl rfl (by omega)) ?_
     refine .cons (.asg rfl rfl) <| .cons (.asg rfl rfl) <| .nil <| ks_n <| .ret ?_
     refine kf_wret [(.t 4, .v (.o (nat1 (cntP ar q)))), (.t 5, .v (.o (bo1 (prtV ar q))))] (Wk.keep [] rfl rfl ⟨ks rfl (.dt (by first | (rw [hC]; done) | (rw [hC]; rfl) | (rw [hC]; exact congrArg (fun z => V.o (nat1 z)) (by rw [Int.natCast_mul])))), ks rfl (.dt (by rw [hP])), trivial⟩) rfl ?_ nobox
     rfl

theorem specPV_fn {g : Prg} (hs : szG g ≤ 1073741824) : Fn Tryz.prog 50 [] [ad (rG g)] (.o (bo1 (prgV g))) [] := by
 have h1 := szO_len (f := szR) g.1
 have h2 := szO_len (f := szPt) g.2
 have hsz : szG g = szO szR g.1 + szO szPt g.2 := rfl
 refine Fn.code0 Tryz.func50 rfl rfl rfl rfl ?_
 refine .seq <| .region <| .cons (St1.boxP rfl rfl rfl rfl rfl rfl) <| .cons (.asg rfl rfl) <| .nil <| ks_n <| .seq <| .seq <| .region <| .cons (.fP 0 0 false rfl rfl) <| .cons (.l1 1 rfl rfl) <| .cons (.cP [.tmp 8] rfl rfl rfl rfl (l4Arrays_fn g.1 (by omega) (fun x hx => by have := szO_mem (f := szR) hx; have e : szR x = x.1.size + x.2.length := rfl; omega)) rfl) ?_
 refine .cons (.nt rfl rfl) <| .cons (.mv rfl rfl) ?_
 refine AOps.cases 11 _ rfl (fun g11 => ?_) (fun g11 => ?_)
 ·try simp only [zs1, zs2, zs3, zs4, zs5, zs6, zs7] at g11
  refine .cons (.gF rfl rfl rfl) <| .cons (.gF rfl rfl rfl) <| .cons (.gF rfl rfl rfl) <| .cons (.gF rfl rfl rfl) <| .cons (.pT rfl rfl rfl) <| .nil <| ks_n ?_
  refine ACode.condT rfl (fun _ => ?_) (fun h => by first | (cases h; done) | (simp [*] at h; done) | (exfalso; simp_all; done))
  refine .seq ?_
  obtain ⟨hO, hN⟩ := prgV_f (g := g) (by first | exact prgS_f2 (show ¬ g.2.length ≤ 4 by omega) | exact prgS_f1 (by assumption))
  refine .region <| .cons (.asg rfl rfl) <| .nil <| ks_n <| .ret <| ks_r ?_
  refine kf_ret rfl ?_ nobox
  exact leafB (by rw [hO]; try (rw [decide_eq_decide]; omega))
 ·try simp only [zs1, zs2, zs3, zs4, zs5, zs6, zs7] at g11
  refine .cons (.gT rfl rfl rfl (.fP 1 0 false rfl rfl)) <| .cons (.gT rfl rfl rfl (.l1 1 rfl rfl)) <| .cons (.gT rfl rfl rfl (.ln 104 2 48 rfl rfl rfl)) <| .cons (.gT rfl rfl rfl (.gt rfl rfl rfl)) <| .cons (.pF rfl rfl rfl) <| .nil <| ks_n ?_
  refine ACode.condT rfl (fun h16 => ?_) (fun h16 => ?_)
  ·try simp only [zs1, zs2, zs3, zs4, zs5, zs6, zs7] at h16
   refine .seq ?_
   obtain ⟨hO, hN⟩ := prgV_f (g := g) (by first | exact prgS_f2 (show ¬ g.2.length ≤ 4 by omega) | exact prgS_f1 (by assumption))
   refine .region <| .cons (.asg rfl rfl) <| .nil <| ks_n <| .ret <| ks_r ?_
   refine kf_ret rfl ?_ nobox
   exact leafB (by rw [hO]; try (rw [decide_eq_decide]; omega))
  ·try simp only [zs1, zs2, zs3, zs4, zs5, zs6, zs7] at h16
   have hA : arrsV g.1 = true := by first | assumption | simp_all
   have h4 : g.2.length ≤ 4 := by omega
   refine .skip <| ks_n <| .seq <| .region <| .cons (.asg rfl rfl) <| .nil <| ks_n <| .seq <| .seq <| .region <| .cons (.asg rfl rfl) <| .nil <| ks_n <| .block ?_
   refine .loopK (fun m σ => (∃ (k : Nat) (t : Int), m = g.2.length - k ∧ (k ≤ g.2.length) ∧ (∀ j q, j < k → g.2[j]? = some q → prtV g.1 q = true) ∧ (t = ((insG 0 (g.2.take k)).length : Nat)) ∧ (0 ≤ t ∧ t ≤ 480 * k) ∧ σ = [(.t 1, .v (.o (.c (.ptr (rG g))))), (.t 2, .v (.o (bo1 false))), (.t 3, .v (.o (nat1 t))), (.t 4, .v (.o (nat1 (k : Nat))))])) [] ⟨0, 0, rfl, by omega, fun j q hj _ => absurd hj (by omega), rfl, by omega, rfl⟩ ⟨ks rfl .dt, ks rfl .dt, ks rfl .dt, ks rfl .dt, trivial⟩ ?_
   rintro m σ ⟨k, t, hm0, hk, hF, hT, hb, rfl⟩
   refine .seq <| .seq <| .region <| .cons (.mv rfl rfl) <| .cons (.fP 1 0 false rfl rfl) <| .cons (.l1 1 rfl rfl) <| .cons (.ln 104 2 48 rfl rfl rfl) <| .cons (.ls rfl rfl rfl) <| .nil <| ks_n ?_
   refine .cD rfl (fun h21 => ?_) (fun h21 => ?_)
   ·skip
    obtain ⟨q, hq1⟩ : ∃ x_, g.2[k]? = some x_ := ⟨_, List.getElem?_eq_getElem (by omega)⟩
    have hqm := List.mem_of_getElem? hq1
    have hqs := szO_mem (f := szPt) hqm
    refine .skip <| ks_n <| .seq <| .block <| .seq ?_
    refine ACode.drawK (by kernel_rfl) (by kernel_rfl) ?_
    refine .cons (.fP 0 0 false rfl rfl) <| .cons (.l1 1 rfl rfl) <| .cons (.fP 1 0 false rfl rfl) <| .cons (.l1 1 rfl rfl) <| .cons (.mv rfl rfl) <| .cons (.xL 104 2 48 rfl rfl rfl rfl rfl) ?_
    refine .cons (.lN 2 rfl rfl rfl) <| .cons (.cP [.tmp 26, .tmp 31] rfl rfl rfl rfl (l4Part_fn hA (by omega)) rfl) ?_
    refine .cons (.mv rfl rfl) <| .cons (.ex rfl rfl rfl) <| .cons (.ex rfl rfl rfl) <| .cons (.asg rfl rfl) <| .cons (.asg rfl rfl) ?_
    refine .nil ⟨by kernel_rfl, ?_⟩
    refine ks_n <| .seq <| .seq <| .region <| .cons (.mv rfl rfl) <| .cons (.nt rfl rfl) <| .nil <| ks_n ?_
    refine ACode.condT rfl (fun h36 => ?_) (fun h36 => ?_)
    ·try simp only [zs1, zs2, zs3, zs4, zs5, zs6, zs7] at h36
     refine .seq ?_
     obtain ⟨hO, hN⟩ := prgV_f (prgS_f3 hqm (by assumption))
     refine .region <| .cons (.asg rfl rfl) <| .nil <| ks_n <| .ret <| ks_r <| kb_r <| ks_r <| kl_r <| kb_r <| ks_r ?_
     refine kf_ret rfl ?_ nobox
     exact leafB (by rw [hO]; try (rw [decide_eq_decide]; omega))
    ·try simp only [zs1, zs2, zs3, zs4, zs5, zs6, zs7] at h36
     have hPV : prtV g.1 q = true := by assumption
     have hcl := cntP_len hPV k
     refine .skip <| ks_n <| .region <| .cons (.mv rfl rfl) <| .cons (.mv rfl rfl) <| .cons (.pl rfl rfl rfl) <| .cons (.asg rfl rfl) <| .nil <| kb_n <| ks_n <| .region <| .cons (.mv rfl rfl) <| .cons (.pl rfl rfl rfl) <| .cons (.asg rfl rfl) <| .nil ?_
     refine kl_k [] ⟨k + 1, t + cntP g.1 q, rfl, by omega, fun j q' hj h' => (Nat.lt_succ_iff_lt_or_eq.1 hj).elim (fun h => hF j q' h h') (fun h => by subst h; rw [hq1] at h'; cases h'; exact hPV), by rw [insG_take hq1, List.length_append, hT, hcl.1]; omega, by omega, rfl⟩ ⟨ks rfl .dt, ks rfl .dt, ks rfl .dt, ks rfl .dt, trivial⟩
   ·skip
    obtain rfl : k = g.2.length := by omega
    rw [List.take_length] at hT
    obtain ⟨hO, hN⟩ := prgV_t (prgS_eq hA h4 hF)
    refine .exit <| ks_e <| kl_e <| kb_hit <| ks_n <| .seq <| .region <| .cons (.mv rfl rfl) <| .cons (.le rfl rfl rfl) <| .cons (.asg rfl rfl) <| .nil <| ks_n <| .ret ?_
    refine kf_ret rfl ?_ nobox
    exact leafB (by rw [hO]; try (rw [decide_eq_decide]; omega))

theorem l4Instances_fn {g : Prg} (hg : prgS g = true) : Fn Tryz.prog 69 [] [ad (rG g)] (.o (vD (dNs (insG 0 g.2)))) [] := by
  obtain ⟨hA, h4, hP⟩ := prgS_iff.1 hg
  refine Fn.code0 Tryz.func69 rfl rfl rfl rfl ?_
  refine .seq <| .region <| .cons (St1.boxP rfl rfl rfl rfl rfl rfl) <| .cons (.asg rfl rfl) <| .nil <| ks_n <| .seq <| .region <| .cons (St1.lit0 (k' := 108) (e := 86) (sz := 3) (b := true) rfl rfl rfl rfl (by kernel_rfl) rfl rfl) ?_
  refine .cons (.asg rfl rfl) <| .nil <| ks_n <| .seq <| .seq <| .region <| .cons (.asg rfl rfl) <| .nil <| ks_n <| .block ?_
  refine .loopK (fun m σ => (∃ (k : Nat) (o : List Ins), m = g.2.length - k ∧ (k ≤ g.2.length) ∧ (insG 0 (g.2.take k) = o) ∧ (o.length ≤ 480 * k) ∧ σ = [(.t 1, .v (.o (.c (.ptr (rG g))))), (.t 3, .v (.o (.c (.own 110 3 (o.length))))), (.t 4, .v (.o (nat1 (k : Nat)))), (.b 110, .b 86 3 (dR (o.map rN))), (.u 110, .u)])) [(110, 108)] ⟨0, [], rfl, by omega, rfl, by simp, rfl⟩ ⟨ks rfl .dt, ks rfl (.c .ow), ks rfl .dt, kb 108 rfl (.dt rfl (by first | rfl | (simp [dR, rN, dI]; done) | (simp [dR, rN, dI]; rfl))), trivial⟩ ?_
  rintro m σ ⟨k, o, hm0, hk, hE, ho, rfl⟩
  refine .seq <| .seq <| .region <| .cons (.mv rfl rfl) <| .cons (.fP 1 0 false rfl rfl) <| .cons (.l1 1 rfl rfl) <| .cons (.ln 104 2 48 rfl rfl rfl) <| .cons (.ls rfl rfl rfl) <| .nil <| ks_n ?_
  refine .cD rfl (fun h13 => ?_) (fun h13 => ?_)
  · skip
    obtain ⟨q, hq1⟩ : ∃ x_, g.2[k]? = some x_ := ⟨_, List.getElem?_eq_getElem (by omega)⟩
    have hqm := List.mem_of_getElem? hq1
    have hqv := prtV_iff.1 (hP q hqm)
    have hnp := np_pts hqv.1
    have hnl := npR_len q.1
    have hq4 := hqv.2.1
    refine .skip <| ks_n <| .seq <| .block <| .seq <| .region <| .cons (St1.lit0 (k' := 116) (e := 35) (sz := 1) (b := true) rfl rfl rfl rfl (by kernel_rfl) rfl rfl) ?_
    refine .cons (.fP 1 0 false rfl rfl) <| .cons (.l1 1 rfl rfl) <| .cons (.mv rfl rfl) <| .cons (.xL 104 2 48 rfl rfl rfl rfl rfl) ?_
    refine .cons (.fP 0 0 false rfl rfl) <| .cons (.l1 1 rfl rfl) <| .cons (.cO [.tmp 16, .tmp 22, .const (.slice none 0 0)] [(0, 116), (1000, 123)] rfl rfl rfl rfl (Fn.nilArg (pre := [.c (.own 0 1 0), vD (dLs q.1)]) (post := []) (sz := 1) (l2Points_fn hnp.1 q.1 [] [] rfl (by simp) PB.nil (by simp))) rfl (hbIn_one rfl) (hbPt_flat _ _) (hbPt_flat _ _) (hbPt_HB _ _) outS_one) ?_
    refine .cons (.asg rfl rfl) <| .nil <| ks_n <| .seq <| .region <| .cons (.asg rfl rfl) <| .nil <| ks_n <| .block ?_
    refine .loopK (fun m σ => (∃ (i : Nat) (o2 : List Ins), m = (npR q.1).length - i ∧ (i ≤ (npR q.1).length) ∧ (o ++ insT k q.2.length ((npR q.1).take i) = o2) ∧ (o2.length ≤ 480 * k + 4 * i) ∧ σ = [(.t 1, .v (.o (.c (.ptr (rG g))))), (.t 3, .v (.o (.c (.own 120 3 (o2.length))))), (.t 4, .v (.o (nat1 (k : Nat)))), (.t 5, .v (.o (vD (dPs (npR q.1))))), (.t 6, .v (.o (nat1 (i : Nat)))), (.b 120, .b 86 3 (dR (o2.map rN))), (.u 120, .u)])) [(120, 110)] ⟨0, o, rfl, by omega, by simp [insT], by omega, rfl⟩ ⟨ks rfl .dt, ks rfl (.c .ow), ks rfl .dt, ks rfl (.c (.fz rfl (by first | (rw [hnp.2]; done) | (rw [hnp.2]; rfl)) (by rw [hnp.2, List.length_map]) (by rw [← hnp.2]; omega))), ks rfl .dt, kb 110 rfl (.dt rfl (by first | rfl | (simp [dR, rN, dI]; done) | (simp [dR, rN, dI]; rfl))), trivial⟩ ?_
    rintro m σ ⟨i, o2, hm0, hi, hEo, ho2, rfl⟩
    refine .seq <| .seq <| .region <| .cons (.mv rfl rfl) <| .cons (.mv rfl rfl) <| .cons (.ln 35 1 24 rfl rfl rfl) <| .cons (.ls rfl rfl rfl) <| .nil <| ks_n ?_
    refine .cD rfl (fun h27 => ?_) (fun h27 => ?_)
    · skip
      obtain ⟨p, hp1⟩ : ∃ x_, (npR q.1)[i]? = some x_ := ⟨_, List.getElem?_eq_getElem (by omega)⟩
      have hpt := npR_pt (List.mem_of_getElem? hp1)
      refine .skip <| ks_n <| .seq <| .block <| .seq <| .region <| .cons (.asg rfl rfl) <| .nil <| ks_n <| .block ?_
      refine .loopK (fun m σ => (∃ (j : Nat) (o3 : List Ins), m = q.2.length - j ∧ (j ≤ q.2.length) ∧ (o2 ++ rowI k j p = o3) ∧ (o3.length ≤ 480 * k + 4 * i + j) ∧ σ = [(.t 1, .v (.o (.c (.ptr (rG g))))), (.t 3, .v (.o (.c (.own 130 3 (o3.length))))), (.t 4, .v (.o (nat1 (k : Nat)))), (.t 5, .v (.o (vD (dPs (npR q.1))))), (.t 6, .v (.o (nat1 (i : Nat)))), (.t 7, .v (.o (nat1 (j : Nat)))), (.b 130, .b 86 3 (dR (o3.map rN))), (.u 130, .u)])) [(130, 120)] ⟨0, o2, rfl, by omega, by simp [rowI_zero], by omega, rfl⟩ ⟨ks rfl .dt, ks rfl (.c .ow), ks rfl .dt, ks rfl .dt, ks rfl .dt, ks rfl .dt, kb 120 rfl (.dt rfl (by first | rfl | (simp [dR, rN, dI]; done) | (simp [dR, rN, dI]; rfl))), trivial⟩ ?_
      rintro m σ ⟨j, o3, hm0, hj, hEp, ho3, rfl⟩
      refine .seq <| .seq <| .region <| .cons (.mv rfl rfl) <| .cons (.fP 1 0 false rfl rfl) <| .cons (.l1 1 rfl rfl) <| .cons (.mv rfl rfl) <| .cons (.xL 104 2 48 rfl rfl rfl rfl rfl) ?_
      refine .cons (.fP 1 0 false rfl rfl) <| .cons (.l1 1 rfl rfl) <| .cons (.ln 96 9 152 rfl rfl rfl) <| .cons (.ls rfl rfl rfl) <| .nil <| ks_n ?_
      refine .cD rfl (fun h38 => ?_) (fun h38 => ?_)
      · skip
        refine .skip <| ks_n <| .seq <| .block <| .region <| .cons (.mv rfl rfl) <| .cons (.mv rfl rfl) <| .cons (.mv rfl rfl) <| .cons (St1.lit0 (k' := 144) (e := 3) (sz := 1) (b := true) rfl rfl rfl rfl (by kernel_rfl) rfl rfl) ?_
        refine .cons (.mv rfl rfl) <| .cons (.mv rfl rfl) <| .cons (.xL 35 1 24 rfl rfl rfl rfl rfl) ?_
        refine .cons (.l1 1 rfl rfl) <| .cons (St1.appD (rows := []) (e := 3) (sz := 0) (by' := 8) rfl rfl rfl rfl rfl (by kernel_rfl) rfl rfl rfl rfl (by simp) (by simp; omega) rfl) ?_
        refine .cons (.bu [(0, .tmp 42), (1, .tmp 43), (2, .tmp 49)] [(0, 1), (1, 1), (2, 1)] [.int .i64 0, .int .i64 0, .slice none 0 0] rfl rfl rfl rfl rfl) <| .cons (.li 86 2 0 [.tmp 50] rfl rfl rfl rfl rfl rfl) <| .cons (St1.appB (k' := 152) (e := 86) (sz := 2) (by' := 40) rfl rfl rfl rfl rfl (by kernel_rfl) rfl rfl rfl rfl (by first | (simp [dR]; done) | (simp [dR]; omega)) (by first | (simp [dR]; done) | (simp [dR]; omega)) rfl rfl rfl) ?_
        refine .cons (.asg rfl rfl) <| .nil <| kb_n <| ks_n <| .region <| .cons (.mv rfl rfl) <| .cons (.pl rfl rfl rfl) <| .cons (.asg rfl rfl) <| .nil ?_
        refine kl_k [(130, 152)] ⟨j + 1, o3 ++ [((k : Int), ((j : Nat) : Int), p)], rfl, by omega, by rw [rowI_snoc, ← List.append_assoc, hEp], by rw [List.length_append, List.length_singleton]; omega, rfl⟩ ⟨ks rfl .dt, ks rfl (.c .ow), ks rfl .dt, ks rfl .dt, ks rfl .dt, ks rfl .dt, kb 152 rfl (.dt rfl (by first | rfl | (simp [dR, rN, dI]; done) | (simp [dR, rN, dI]; rfl))), trivial⟩
      · skip
        obtain rfl : j = q.2.length := by omega
        refine .exit <| ks_e <| kl_e <| kb_hit <| kb_n <| ks_n <| .region <| .cons (.mv rfl rfl) <| .cons (.pl rfl rfl rfl) <| .cons (.asg rfl rfl) <| .nil ?_
        refine kl_k [(120, 130)] ⟨i + 1, o3, rfl, by omega, by rw [insT_take hp1, ← List.append_assoc, hEo]; exact hEp, by omega, rfl⟩ ⟨ks rfl .dt, ks rfl (.c .ow), ks rfl .dt, ks rfl .dt, ks rfl .dt, kb 130 rfl (.dt rfl (by first | rfl | (simp [dR, rN, dI]; done) | (simp [dR, rN, dI]; rfl))), trivial⟩
    · skip
      obtain rfl : i = (npR q.1).length := by omega
      rw [List.take_length] at hEo
      refine .exit <| ks_e <| kl_e <| kb_hit <| kb_n <| ks_n <| .region <| .cons (.mv rfl rfl) <| .cons (.pl rfl rfl rfl) <| .cons (.asg rfl rfl) <| .nil ?_
      refine kl_k [(110, 120)] ⟨k + 1, o2, rfl, by omega, by rw [insG_take hq1, hE]; exact hEo, by omega, rfl⟩ ⟨ks rfl .dt, ks rfl (.c .ow), ks rfl .dt, kb 120 rfl (.dt rfl (by first | rfl | (simp [dR, rN, dI]; done) | (simp [dR, rN, dI]; rfl))), trivial⟩
  · skip
    obtain rfl : k = g.2.length := by omega
    rw [List.take_length] at hE
    refine .exit <| ks_e <| kl_e <| kb_hit <| ks_n <| .seq <| .region <| .cons (.mv rfl rfl) <| .cons (.asg rfl rfl) <| .nil <| ks_n <| .ret ?_
    refine kf_wret [(.t 2, .v (.o (vD (dNs (insG 0 g.2)))))] (Wk.keep [] rfl rfl ⟨ks rfl (.c (.fz rfl (by rw [hE]) (by rw [hE, List.length_map]) (by omega))), trivial⟩) rfl ?_ nobox
    rfl
/-- The statement of an instance. -/
def stI (g : Prg) (x : Ins) : Stm := match (g.2[x.1.toNat]?).bind fun q => q.2[x.2.1.toNat]? with | some s => s | none => ((ByteArray.empty, []), .mk 0 0 ([], 0) (ByteArray.empty, []) [])
theorem stI_eq {g : Prg} {x : Ins} {k c : Nat} {q : Prt} {s : Stm} (h1 : x.1 = (k : Int)) (hq : g.2[k]? = some q) (h2 : x.2.1 = (c : Int)) (hs : q.2[c]? = some s) : stI g x = s := by
  rw [stI, h1, h2, Int.toNat_natCast, Int.toNat_natCast, hq, Option.bind_some, hs]
structure InsOk (g : Prg) (x : Ins) (k c : Nat) (q : Prt) : Prop where
  e1 : x.1 = (k : Int)
  hq : g.2[k]? = some q
  e2 : x.2.1 = (c : Int)
  hs : q.2[c]? = some (stI g x)
  pt : x.2.2 ∈ npR q.1
  sv : stmtV (q.1.length : Nat) (stI g x) = true
  ok : stmG g.1 (stI g x) x.2.2 = true
  ip : isPt x.2.2 = true
  hk : k < g.2.length
  hc : c < q.2.length
theorem ins_at {g : Prg} {x : Ins} (hg : prgS g = true) (hx : x ∈ insG 0 g.2) : ∃ k c q, InsOk g x k c q := by
  obtain ⟨k, q, c, h1, h2, h3, h4, h5⟩ := insG_mem hx
  rw [Nat.zero_add] at h2
  obtain ⟨s, hs⟩ : ∃ s, q.2[c]? = some s := ⟨_, List.getElem?_eq_getElem h4⟩
  have e := stI_eq h2 h1 h3 hs
  have hp := prtV_iff.1 ((prgS_iff.1 hg).2.2 q (List.mem_of_getElem? h1))
  have hm := List.mem_of_getElem? hs
  exact ⟨k, c, q, h2, h1, h3, by rw [e]; exact hs, h5, by rw [e]; exact hp.2.2.1 s hm, by rw [e]; exact (hp.2.2.2 _ h5).2 s hm, (hp.2.2.2 _ h5).1, (List.getElem?_eq_some_iff.1 h1).1, h4⟩
theorem stI_sz {g : Prg} {x : Ins} {k c : Nat} {q : Prt} (h : InsOk g x k c q) : szS (stI g x) ≤ szG g := by
  have h1 := szO_mem (f := szS) (List.mem_of_getElem? h.hs)
  have h2 := szO_mem (f := szPt) (List.mem_of_getElem? h.hq)
  have e1 : szPt q = szLs q.1 + szO szS q.2 := rfl
  have e2 : szG g = szO szR g.1 + szO szPt g.2 := rfl
  omega

theorem stmt_fn {g : Prg} {x : Ins} {k c : Nat} {q : Prt} (h : InsOk g x k c q) : Fn Tryz.prog 60 [] [ad (rG g), ad (rN x)] (.o (ad (rS (stI g x)))) [] := by
 refine Fn.code0 Tryz.func60 rfl rfl rfl rfl ?_
 refine .seq <| .region <| .cons (St1.boxP rfl rfl rfl rfl rfl rfl) <| .cons (St1.boxP rfl rfl rfl rfl rfl rfl) <| .cons (.al 104 [.string ByteArray.empty, .slice none 0 0, .int .i64 0, .int .i64 0, .slice none 0 0, .int .i64 0, .string ByteArray.empty, .slice none 0 0, .slice none 0 0] rfl rfl rfl) <| .nil <| ks_n <| .seq ?_
 refine ACode.drawK (by kernel_rfl) (by kernel_rfl) ?_
 refine .cons (.fP 1 0 false rfl rfl) <| .cons (.l1 1 rfl rfl) <| .cons (.fP 0 0 false rfl rfl) <| .cons (.l1 1 rfl rfl) <| .cons (.xL 104 2 48 (i := k) rfl rfl rfl rfl h.e1 (map_at h.hq)) ?_
 refine .cons (.fP 1 0 false rfl rfl) <| .cons (.l1 1 rfl rfl) <| .cons (.fP 1 0 false rfl rfl) <| .cons (.l1 1 rfl rfl) <| .cons (.xL 96 9 152 (i := c) rfl rfl rfl rfl h.e2 (map_at h.hs)) ?_
 refine .cons (.lN 9 rfl rfl rfl) <| .cons (.sT 9 true rfl rfl rfl rfl rfl rfl rfl) ?_
 refine .nil ⟨by kernel_rfl, ?_⟩
 refine ks_n <| .ret ?_
 refine kf_ret rfl ?_ nobox
 rfl
/-- The cells that an instance reads, the one that it writes. -/
def usR (g : Prg) (x : Ins) : List Int := (rdE (stI g x).2).map fun a => cellG a x.2.2 g.1 0
def usW (g : Prg) (x : Ins) : Int := cellG (stI g x).1 x.2.2 g.1 0
def usRs (g : Prg) : Pts := (insG 0 g.2).map (usR g)
def usWs (g : Prg) : List Int := (insG 0 g.2).map (usW g)
def rU (u : List Int × Int) : List D := [dIs u.1, dI u.2]
def dUs (l : List (List Int × Int)) : D := .list 2 (l.map rU)
def usG (g : Prg) (x : Ins) : List Int × Int := (usR g x, usW g x)
def usL (g : Prg) : List (List Int × Int) := (insG 0 g.2).map (usG g)
/-- A traced program. -/
def rT (g : Prg) : List D := [dRs g.1, dPts g.2, dNs (insG 0 g.2), dPs (usRs g), dIs (usWs g)]
theorem usR_len {g : Prg} {x : Ins} {k c : Nat} {q : Prt} (h : InsOk g x k c q) : (usR g x).length ≤ 12 := by
  rw [usR, List.length_map]; exact (stm_accs h.sv).2.2




theorem insG_len {g : Prg} (h : prgS g = true) : (insG 0 g.2).length ≤ 1920 := by
  obtain ⟨_, h4, hP⟩ := prgS_iff.1 h
  have key : ∀ (l : List Prt) (n : Nat), (∀ q ∈ l, prtV g.1 q = true) → (insG n l).length ≤ 480 * l.length := by
    intro l
    induction l with
    | nil => intro n _; simp [insG]
    | cons q l ih =>
      intro n hq
      have h1 := (cntP_len (hq q (by simp)) n).2
      have h2 := ih (n + 1) fun q' h' => hq q' (by simp [h'])
      rw [insG, List.length_append, List.length_cons]; omega
  have := key g.2 0 hP
  omega
theorem touched_fn {g : Prg} (hv : arrsV g.1 = true) {x : Ins} {k c : Nat} {q : Prt} (hI : InsOk g x k c q) : Fn Tryz.prog 76 [] [ad (rG g), ad (rN x)] (.tup [vD (dIs (usR g x)), nat1 (usW g x)]) [] := by
  obtain ⟨ha, hr, hrl⟩ := stm_accs hI.sv
  have hpt := npR_pt hI.pt
  refine Fn.code0 Tryz.func76 rfl rfl rfl rfl ?_
  refine .seq <| .region <| .cons (St1.boxP rfl rfl rfl rfl rfl rfl) <| .cons (St1.boxP rfl rfl rfl rfl rfl rfl) <| .cons (.asg rfl rfl) <| .cons (.asg rfl rfl) <| .nil <| ks_n <| .seq <| .region <| .cons (.lN 2 rfl rfl rfl) <| .cons (.lN 3 rfl rfl rfl) <| .cons (.cP [.tmp 10, .tmp 11] rfl rfl rfl rfl (stmt_fn hI) rfl) ?_
  refine .cons (.al 106 [.string ByteArray.empty, .slice none 0 0, .int .i64 0, .int .i64 0, .slice none 0 0, .int .i64 0, .string ByteArray.empty, .slice none 0 0, .slice none 0 0] rfl rfl rfl) <| .cons (.sT 9 true rfl rfl rfl rfl rfl rfl rfl) <| .nil <| ks_n <| .seq <| .region <| .cons (.asg rfl rfl) <| .nil <| ks_n <| .seq <| .seq <| .region <| .cons (.fB 2 6 true rfl rfl rfl) <| .cons (.bN 7 rfl rfl rfl rfl rfl rfl) <| .cons (.cP [.tmp 14] rfl rfl rfl rfl (reads_fn (L := 5) _ (by omega) (stmtV_ex hI.sv).1) rfl) ?_
  refine .cons (.ln 89 2 40 rfl rfl rfl) <| .cons (.mv rfl rfl) <| .nil <| ks_n <| .block ?_
  refine .loopK (fun m σ => (∃ i : Nat, m = (rdE (stI g x).2).length - i ∧ (i = 0) ∧ σ = [(.t 2, .v (.o (.c (.ptr (rG g))))), (.t 3, .v (.o (.c (.ptr (rN x))))), (.t 6, .v (.o (.c (.ptr (rS (stI g x)))))), (.t 7, .v (.o (.c (.d (.val (.slice none 0 0)))))), (.t 15, .v (.o (vD (dCs (rdE (stI g x).2))))), (.t 16, .v (.o (nat1 ((rdE (stI g x).2).length : Nat)))), (.t 17, .v (.o (nat1 (i : Nat))))]) ∨ (∃ i : Nat, m = (rdE (stI g x).2).length - i ∧ (1 ≤ i) ∧ (i ≤ (rdE (stI g x).2).length) ∧ σ = [(.t 2, .v (.o (.c (.ptr (rG g))))), (.t 3, .v (.o (.c (.ptr (rN x))))), (.t 6, .v (.o (.c (.ptr (rS (stI g x)))))), (.t 7, .v (.o (.c (.own 110 1 (i))))), (.t 15, .v (.o (vD (dCs (rdE (stI g x).2))))), (.t 16, .v (.o (nat1 ((rdE (stI g x).2).length : Nat)))), (.t 17, .v (.o (nat1 (i : Nat)))), (.b 110, .b 3 1 (dR (((rdE (stI g x).2).take i).map (fun a : Acc => rI (cellG a x.2.2 g.1 0))))), (.u 110, .u)])) [] (.inl ⟨0, rfl, rfl, rfl⟩) ⟨ks rfl .dt, ks rfl .dt, ks rfl (.c (.frzP _ _ _ _ _ _ _ _ rfl (show _ = dR [rS (stI g x)] from rfl) rfl rfl rfl)), ks rfl .dt, ks rfl .dt, ks rfl .dt, ks rfl .dt, trivial⟩ ?_
  rintro m σ (⟨i, hm0, rfl, rfl⟩ | ⟨i, hm0, hi1, hi, rfl⟩)
  · skip
    refine .seq <| .region <| .cons (.ls rfl rfl rfl) <| .nil <| ks_n <| .seq ?_
    refine .cD rfl (fun h18 => ?_) (fun h18 => ?_)
    · skip
      obtain ⟨a, ha1⟩ : ∃ x_, (rdE (stI g x).2)[0]? = some x_ := ⟨_, List.getElem?_eq_getElem (by omega)⟩
      refine .skip <| ks_n <| .seq <| .block <| .seq <| .region <| .cons (.xL 89 2 40 rfl rfl rfl rfl rfl) ?_
      refine .cons (.lN 2 rfl rfl rfl) <| .cons (.al 109 [.string ByteArray.empty, .slice none 0 0] rfl rfl rfl) <| .cons (.sT 2 true rfl rfl rfl rfl rfl rfl rfl) <| .nil <| ks_n <| .region <| .cons (.mv rfl rfl) <| .cons (.lN 2 rfl rfl rfl) <| .cons (.bN 2 rfl rfl rfl rfl rfl rfl) <| .cons (.fP 2 0 false rfl rfl) <| .cons (.l1 1 rfl rfl) <| .cons (.cP [.tmp 22, .tmp 23, .tmp 25] rfl rfl rfl rfl (cell_fn hv (hr a (List.mem_of_getElem? ha1)) hpt.1 hpt.2) rfl) ?_
      refine .cons (.li 3 0 0 [.tmp 26] rfl rfl rfl rfl rfl rfl) <| .cons (St1.appN (k' := 128) (e := 3) (sz := 0) (by' := 8) rfl rfl rfl rfl rfl (by kernel_rfl) rfl rfl rfl (by simp) (by first | (simp [dR]; done) | (simp [dR]; omega)) rfl rfl) ?_
      refine .cons (.asg rfl rfl) <| .nil <| kb_n <| ks_n <| .region <| .cons (.pl rfl rfl rfl) <| .cons (.mv rfl rfl) <| .nil ?_
      refine kl_k [(110, 128)] (.inr ⟨1, rfl, by omega, by omega, rfl⟩) ⟨ks rfl .dt, ks rfl .dt, ks rfl .dt, ks rfl (.c .ow), ks rfl .dt, ks rfl .dt, ks rfl .dt, kb 128 rfl (.dt rfl (by first | exact dR_take (fun a : Acc => rI (cellG a x.2.2 g.1 0)) ha1 | exact dR_take1 (fun a : Acc => rI (cellG a x.2.2 g.1 0)) ha1 | rfl | (simp [dR]; done))), trivial⟩
    · skip
      have hn : usR g x = [] := by rw [usR, List.eq_nil_of_length_eq_zero (show (rdE (stI g x).2).length = 0 by omega)]; rfl
      refine .exit <| ks_e <| kl_e <| kb_hit <| ks_n <| .seq <| .region <| .cons (.mv rfl rfl) <| .cons (.lN 2 rfl rfl rfl) <| .cons (.fP 0 1 true rfl rfl) <| .cons (.lN 2 rfl rfl rfl) <| .cons (.fP 2 0 false rfl rfl) <| .cons (.l1 1 rfl rfl) <| .cons (.cP [.tmp 31, .tmp 33, .tmp 35] rfl rfl rfl rfl (cell_fn hv ha hpt.1 hpt.2) rfl) ?_
      refine .cons (.asg rfl rfl) <| .cons (.asg rfl rfl) <| .nil <| ks_n <| .ret ?_
      refine kf_wret [(.t 4, .v (.o (vD (dIs (usR g x))))), (.t 5, .v (.o (nat1 (usW g x))))] (Wk.keep [] rfl rfl ⟨ks rfl (.c (Cto.nilE 1 (by rw [hn]; rfl))), ks rfl .dt, trivial⟩) rfl ?_ nobox
      rfl
  · skip
    refine .seq <| .region <| .cons (.ls rfl rfl rfl) <| .nil <| ks_n <| .seq ?_
    refine .cD rfl (fun h18 => ?_) (fun h18 => ?_)
    · skip
      obtain ⟨a, ha1⟩ : ∃ x_, (rdE (stI g x).2)[i]? = some x_ := ⟨_, List.getElem?_eq_getElem (by omega)⟩
      refine .skip <| ks_n <| .seq <| .block <| .seq <| .region <| .cons (.xL 89 2 40 rfl rfl rfl rfl rfl) ?_
      refine .cons (.lN 2 rfl rfl rfl) <| .cons (.al 109 [.string ByteArray.empty, .slice none 0 0] rfl rfl rfl) <| .cons (.sT 2 true rfl rfl rfl rfl rfl rfl rfl) <| .nil <| ks_n <| .region <| .cons (.mv rfl rfl) <| .cons (.lN 2 rfl rfl rfl) <| .cons (.bN 2 rfl rfl rfl rfl rfl rfl) <| .cons (.fP 2 0 false rfl rfl) <| .cons (.l1 1 rfl rfl) <| .cons (.cP [.tmp 22, .tmp 23, .tmp 25] rfl rfl rfl rfl (cell_fn hv (hr a (List.mem_of_getElem? ha1)) hpt.1 hpt.2) rfl) ?_
      refine .cons (.li 3 0 0 [.tmp 26] rfl rfl rfl rfl rfl rfl) <| .cons (St1.appB (k' := 128) (e := 3) (sz := 0) (by' := 8) rfl rfl rfl rfl rfl (by kernel_rfl) rfl rfl rfl rfl (by first | (simp [dR]; done) | (simp [dR]; omega)) (by first | (simp [dR]; done) | (simp [dR]; omega)) rfl rfl rfl) ?_
      refine .cons (.asg rfl rfl) <| .nil <| kb_n <| ks_n <| .region <| .cons (.pl rfl rfl rfl) <| .cons (.mv rfl rfl) <| .nil ?_
      refine kl_k [(110, 128)] (.inr ⟨i + 1, rfl, by omega, by omega, rfl⟩) ⟨ks rfl .dt, ks rfl .dt, ks rfl .dt, ks rfl (.c .ow), ks rfl .dt, ks rfl .dt, ks rfl .dt, kb 128 rfl (.dt rfl (by first | exact dR_take (fun a : Acc => rI (cellG a x.2.2 g.1 0)) ha1 | exact dR_take1 (fun a : Acc => rI (cellG a x.2.2 g.1 0)) ha1 | rfl | (simp [dR]; done))), trivial⟩
    · skip
      obtain rfl : i = (rdE (stI g x).2).length := by omega
      refine .exit <| ks_e <| kl_e <| kb_hit <| ks_n <| .seq <| .region <| .cons (.mv rfl rfl) <| .cons (.lN 2 rfl rfl rfl) <| .cons (.fP 0 1 true rfl rfl) <| .cons (.lN 2 rfl rfl rfl) <| .cons (.fP 2 0 false rfl rfl) <| .cons (.l1 1 rfl rfl) <| .cons (.cP [.tmp 31, .tmp 33, .tmp 35] rfl rfl rfl rfl (cell_fn hv ha hpt.1 hpt.2) rfl) ?_
      refine .cons (.asg rfl rfl) <| .cons (.asg rfl rfl) <| .nil <| ks_n <| .ret ?_
      refine kf_wret [(.t 4, .v (.o (vD (dIs (usR g x))))), (.t 5, .v (.o (nat1 (usW g x))))] (Wk.keep [] rfl rfl ⟨ks rfl (.c (.fz rfl (by rw [List.take_length, usR, List.map_map]; rfl) (by simp [usR]) (by omega))), ks rfl .dt, trivial⟩) rfl ?_ nobox
      rfl

theorem trace_no {g : Prg} (hs : szG g ≤ 1073741824) (hV : prgV g = false) : Fn Tryz.prog 38 [] [ad (rG g)] (.tup [.c (.d (.val (.pointer none))), bo1 false]) [] := by
 refine Fn.code0 Tryz.func38 rfl rfl rfl rfl ?_
 refine .seq <| .region <| .cons (St1.boxP rfl rfl rfl rfl rfl rfl) <| .cons (.asg rfl rfl) <| .cons (.asg rfl rfl) <| .nil <| ks_n <| .seq <| .region <| .cons (.lN 2 rfl rfl rfl) <| .cons (.cP [.tmp 12] rfl rfl rfl rfl (instances_fn hs) rfl) ?_
 refine .cons (.mv rfl rfl) <| .cons (.ex rfl rfl rfl) <| .cons (.ex rfl rfl rfl) <| .cons (.asg rfl rfl) <| .cons (.asg rfl rfl) <| .nil <| ks_n <| .seq <| .seq <| .region <| .cons (.mv rfl rfl) <| .cons (.nt rfl rfl) <| .nil <| ks_n ?_
 refine ACode.condT rfl (fun h17 => ?_) (fun h17 => ?_)
 ·try simp only [zs1, zs2, zs3, zs4, zs5, zs6, zs7] at h17
  refine .seq <| .region <| .cons (.asg rfl rfl) <| .cons (.asg rfl rfl) <| .nil <| ks_n <| .ret <| ks_r ?_
  refine kf_ret rfl ?_ nobox
  rfl
 ·try simp only [zs1, zs2, zs3, zs4, zs5, zs6, zs7] at h17
  rw [hV] at h17; cases h17

theorem trace_fn {g : Prg} (hs : szG g ≤ 1073741824) (hV : prgV g = true) : Fn Tryz.prog 38 [] [ad (rG g)] (.tup [.c (.ptr (rT g)), bo1 true]) [] := by
 obtain ⟨hS, hN, hL⟩ := prgV_s hV
 have hv := (prgS_iff.1 hS).1
 refine Fn.code0 Tryz.func38 rfl rfl rfl rfl ?_
 refine .seq <| .region <| .cons (St1.boxP rfl rfl rfl rfl rfl rfl) <| .cons (.asg rfl rfl) <| .cons (.asg rfl rfl) <| .nil <| ks_n <| .seq <| .region <| .cons (.lN 2 rfl rfl rfl) <| .cons (.cP [.tmp 12] rfl rfl rfl rfl (instances_fn hs) rfl) ?_
 refine .cons (.mv rfl rfl) <| .cons (.ex rfl rfl rfl) <| .cons (.ex rfl rfl rfl) <| .cons (.asg rfl rfl) <| .cons (.asg rfl rfl) <| .nil <| ks_n <| .seq <| .seq <| .region <| .cons (.mv rfl rfl) <| .cons (.nt rfl rfl) <| .nil <| ks_n ?_
 refine ACode.condT rfl (fun h17 => ?_) (fun h17 => ?_)
 ·try simp only [zs1, zs2, zs3, zs4, zs5, zs6, zs7] at h17
  rw [hV] at h17; cases h17
 ·try simp only [zs1, zs2, zs3, zs4, zs5, zs6, zs7] at h17
  rw [hN]
  refine .skip <| ks_n <| .seq <| .region <| .cons (.lN 2 rfl rfl rfl) <| .cons (.mv rfl rfl) <| .cons (.bu [(0, .tmp 18), (1, .tmp 19)] [(0, 2), (2, 1), (3, 1), (4, 1)] [.slice none 0 0, .slice none 0 0, .slice none 0 0, .slice none 0 0, .slice none 0 0] rfl rfl rfl rfl rfl) <| .cons (St1.boxB (k' := 121) rfl rfl rfl rfl rfl rfl rfl) <| .cons (.asg rfl rfl) <| .nil <| ks_n <| .seq <| .seq <| .region <| .cons (.mv rfl rfl) <| .cons (.ln 86 3 40 rfl rfl rfl) <| .cons (.mv rfl rfl) <| .nil <| ks_n <| .block ?_
  refine .loopK (fun m σ => (∃ i : Nat, m = (insG 0 g.2).length - i ∧ (i = 0) ∧ σ = [(.t 1, .v (.o (.c (.ptr (rG g))))), (.t 6, .v (.o (.c (.box 110 5 0 0)))), (.t 22, .v (.o (vD (dNs (insG 0 g.2))))), (.t 23, .v (.o (nat1 ((insG 0 g.2).length : Nat)))), (.t 24, .v (.o (nat1 (i : Nat)))), (.b 110, .b 74 5 [[.d (dRs g.1), .d (dPts g.2), .d (dNs (insG 0 g.2)), .d (.val (.slice none 0 0)), .d (.val (.slice none 0 0))]]), (.u 110, .u)]) ∨ (∃ i : Nat, m = (insG 0 g.2).length - i ∧ (1 ≤ i) ∧ (i ≤ (insG 0 g.2).length) ∧ σ = [(.t 1, .v (.o (.c (.ptr (rG g))))), (.t 6, .v (.o (.c (.box 110 5 0 0)))), (.t 22, .v (.o (vD (dNs (insG 0 g.2))))), (.t 23, .v (.o (nat1 ((insG 0 g.2).length : Nat)))), (.t 24, .v (.o (nat1 (i : Nat)))), (.b 111, .b 35 1 (dR (((insG 0 g.2).take i).map (fun x => rIs (usR g x))))), (.u 111, .u), (.b 112, .b 3 1 (dR (((insG 0 g.2).take i).map (fun x => rI (usW g x))))), (.u 112, .u), (.b 110, .b 74 5 [[.d (dRs g.1), .d (dPts g.2), .d (dNs (insG 0 g.2)), .own 111 1 (i), .own 112 1 (i)]]), (.u 110, .u)])) [(110, 121)] (.inl ⟨0, rfl, rfl, rfl⟩) ⟨ks rfl .dt, ks rfl (.c .bx), ks rfl .dt, ks rfl .dt, ks rfl .dt, kb 121 rfl (.cons (.cons .dt (.cons .dt (.cons .dt (.cons .dt (.cons .dt Ctos.nil))))) .nil), trivial⟩ ?_
  rintro m σ (⟨i, hm0, rfl, rfl⟩ | ⟨i, hm0, hi1, hi, rfl⟩)
  ·skip
   refine .seq <| .region <| .cons (.ls rfl rfl rfl) <| .nil <| ks_n <| .seq ?_
   refine .cD rfl (fun h25 => ?_) (fun h25 => ?_)
   ·skip
    obtain ⟨x, hx1⟩ : ∃ x_, (insG 0 g.2)[0]? = some x_ := ⟨_, List.getElem?_eq_getElem (by omega)⟩
    obtain ⟨k, c, q, hI⟩ := ins_at hS (List.mem_of_getElem? hx1)
    have hsz := stI_sz hI
    refine .skip <| ks_n <| .seq <| .block <| .seq <| .region <| .cons (.xL 86 3 40 rfl rfl rfl rfl rfl) ?_
    refine .cons (.lN 3 rfl rfl rfl) <| .cons (.al 108 [.int .i64 0, .int .i64 0, .slice none 0 0] rfl rfl rfl) <| .cons (.sT 3 true rfl rfl rfl rfl rfl rfl rfl) <| .nil <| ks_n <| .seq <| .region <| .cons (.lN 2 rfl rfl rfl) <| .cons (.bN 3 rfl rfl rfl rfl rfl rfl) <| .cons (.cP [.tmp 29, .tmp 30] rfl rfl rfl rfl (touched_fn hv hI) rfl) ?_
    refine .cons (.mv rfl rfl) <| .cons (.ex rfl rfl rfl) <| .cons (.ex rfl rfl rfl) <| .cons (.asg rfl rfl) <| .cons (.asg rfl rfl) <| .nil <| ks_n ?_
    refine ACode.drawK (by kernel_rfl) (by kernel_rfl) ?_
    refine .cons (.mv rfl rfl) <| .cons (.mv rfl rfl) <| .cons (.mv rfl rfl) <| .cons (.nB rfl rfl rfl) <| .cons (.fB 3 0 false rfl rfl rfl) <| .cons (.b1 1 rfl rfl rfl rfl rfl rfl) <| .cons (.mv rfl rfl) <| .cons (.li 35 0 0 [.tmp 40] rfl rfl rfl rfl rfl rfl) <| .cons (St1.appN (k' := 142) (e := 35) (sz := 0) (by' := 24) rfl rfl rfl rfl rfl (by kernel_rfl) rfl rfl rfl (by simp) (by first | (simp [dR]; done) | (simp [dR]; omega)) rfl rfl) ?_
    refine .cons (.mv rfl rfl) <| .cons (.nB rfl rfl rfl) <| .cons (.fB 4 0 false rfl rfl rfl) <| .cons (.b1 1 rfl rfl rfl rfl rfl rfl) <| .cons (.mv rfl rfl) <| .cons (.li 3 0 0 [.tmp 47] rfl rfl rfl rfl rfl rfl) <| .cons (St1.appN (k' := 149) (e := 3) (sz := 0) (by' := 8) rfl rfl rfl rfl rfl (by kernel_rfl) rfl rfl rfl (by simp) (by first | (simp [dR]; done) | (simp [dR]; omega)) rfl rfl) ?_
    refine .cons (.nB rfl rfl rfl) <| .cons (.fB 3 0 false rfl rfl rfl) <| .cons (.sT 1 false rfl rfl rfl rfl rfl rfl rfl) <| .cons (.nB rfl rfl rfl) <| .cons (.fB 4 0 false rfl rfl rfl) <| .cons (.sT 1 false rfl rfl rfl rfl rfl rfl rfl) ?_
    refine .nil ⟨by kernel_rfl, ?_⟩
    refine kb_n <| ks_n <| .region <| .cons (.pl rfl rfl rfl) <| .cons (.mv rfl rfl) <| .nil ?_
    refine kl_k [(110, 110), (111, 142), (112, 149)] (.inr ⟨1, rfl, by omega, by omega, rfl⟩) ⟨ks rfl .dt, ks rfl (.c .bx), ks rfl .dt, ks rfl .dt, ks rfl .dt, kb 142 rfl (.dt rfl (by first | exact dR_take (fun x => rIs (usR g x)) hx1 | exact dR_take1 (fun x => rIs (usR g x)) hx1 | rfl | (simp [dR]; done))), kb 149 rfl (.dt rfl (by first | exact dR_take (fun x => rI (usW g x)) hx1 | exact dR_take1 (fun x => rI (usW g x)) hx1 | rfl | (simp [dR]; done))), kb 110 rfl (.cons (.cons .dt (.cons .dt (.cons .dt (.cons .ow (.cons .ow Ctos.nil))))) .nil), trivial⟩
   ·skip
    have hn : insG 0 g.2 = [] := List.eq_nil_of_length_eq_zero (by omega)
    refine .exit <| ks_e <| kl_e <| kb_hit <| ks_n <| .seq ?_
    refine .keep [(.t 6, .v (.o (.c (.box 810 5 0 0)))), (.b 810, .b 74 5 [[.d (dRs g.1), .d (dPts g.2), .d (dNs (insG 0 g.2)), .d (dPs (usRs g)), .d (dIs (usWs g))]]), (.u 810, .u)] [(810, 110)] ⟨ks rfl (.c .bx), kb 110 rfl (.cons (.cons .dt (.cons .dt (.cons .dt (.cons (Cto.nilE 1 (by rw [usRs, hn]; rfl)) (.cons (Cto.nilE 1 (by rw [usWs, hn]; rfl)) Ctos.nil))))) .nil), trivial⟩ ?_
    refine .region <| .cons (.mv rfl rfl) <| .cons (.asg rfl rfl) <| .cons (.asg rfl rfl) <| .nil <| ks_n <| .ret ?_
    refine kf_wret [(.t 2, .v (.o (.c (.ptr (rT g))))), (.t 3, .v (.o (bo1 true)))] (Wk.keep [] rfl rfl ⟨ks rfl (.c (.frzP _ _ _ _ _ _ _ _ rfl (show _ = dR [rT g] from rfl) rfl rfl rfl)), ks rfl .dt, trivial⟩) rfl ?_ nobox
    rfl
  ·skip
   refine .seq <| .region <| .cons (.ls rfl rfl rfl) <| .nil <| ks_n <| .seq ?_
   refine .cD rfl (fun h25 => ?_) (fun h25 => ?_)
   ·skip
    obtain ⟨x, hx1⟩ : ∃ x_, (insG 0 g.2)[i]? = some x_ := ⟨_, List.getElem?_eq_getElem (by omega)⟩
    obtain ⟨k, c, q, hI⟩ := ins_at hS (List.mem_of_getElem? hx1)
    have hsz := stI_sz hI
    refine .skip <| ks_n <| .seq <| .block <| .seq <| .region <| .cons (.xL 86 3 40 rfl rfl rfl rfl rfl) ?_
    refine .cons (.lN 3 rfl rfl rfl) <| .cons (.al 108 [.int .i64 0, .int .i64 0, .slice none 0 0] rfl rfl rfl) <| .cons (.sT 3 true rfl rfl rfl rfl rfl rfl rfl) <| .nil <| ks_n <| .seq <| .region <| .cons (.lN 2 rfl rfl rfl) <| .cons (.bN 3 rfl rfl rfl rfl rfl rfl) <| .cons (.cP [.tmp 29, .tmp 30] rfl rfl rfl rfl (touched_fn hv hI) rfl) ?_
    refine .cons (.mv rfl rfl) <| .cons (.ex rfl rfl rfl) <| .cons (.ex rfl rfl rfl) <| .cons (.asg rfl rfl) <| .cons (.asg rfl rfl) <| .nil <| ks_n ?_
    refine ACode.drawK (by kernel_rfl) (by kernel_rfl) ?_
    refine .cons (.mv rfl rfl) <| .cons (.mv rfl rfl) <| .cons (.mv rfl rfl) <| .cons (.nB rfl rfl rfl) <| .cons (.fB 3 0 false rfl rfl rfl) <| .cons (.b1 1 rfl rfl rfl rfl rfl rfl) <| .cons (.mv rfl rfl) <| .cons (.li 35 0 0 [.tmp 40] rfl rfl rfl rfl rfl rfl) <| .cons (St1.appB (k' := 142) (e := 35) (sz := 0) (by' := 24) rfl rfl rfl rfl rfl (by kernel_rfl) rfl rfl rfl rfl (by first | (simp [dR]; done) | (simp [dR]; omega)) (by first | (simp [dR]; done) | (simp [dR]; omega)) rfl rfl rfl) ?_
    refine .cons (.mv rfl rfl) <| .cons (.nB rfl rfl rfl) <| .cons (.fB 4 0 false rfl rfl rfl) <| .cons (.b1 1 rfl rfl rfl rfl rfl rfl) <| .cons (.mv rfl rfl) <| .cons (.li 3 0 0 [.tmp 47] rfl rfl rfl rfl rfl rfl) <| .cons (St1.appB (k' := 149) (e := 3) (sz := 0) (by' := 8) rfl rfl rfl rfl rfl (by kernel_rfl) rfl rfl rfl rfl (by first | (simp [dR]; done) | (simp [dR]; omega)) (by first | (simp [dR]; done) | (simp [dR]; omega)) rfl rfl rfl) ?_
    refine .cons (.nB rfl rfl rfl) <| .cons (.fB 3 0 false rfl rfl rfl) <| .cons (.sT 1 false rfl rfl rfl rfl rfl rfl rfl) <| .cons (.nB rfl rfl rfl) <| .cons (.fB 4 0 false rfl rfl rfl) <| .cons (.sT 1 false rfl rfl rfl rfl rfl rfl rfl) ?_
    refine .nil ⟨by kernel_rfl, ?_⟩
    refine kb_n <| ks_n <| .region <| .cons (.pl rfl rfl rfl) <| .cons (.mv rfl rfl) <| .nil ?_
    refine kl_k [(110, 110), (111, 142), (112, 149)] (.inr ⟨i + 1, rfl, by omega, by omega, rfl⟩) ⟨ks rfl .dt, ks rfl (.c .bx), ks rfl .dt, ks rfl .dt, ks rfl .dt, kb 142 rfl (.dt rfl (by first | exact dR_take (fun x => rIs (usR g x)) hx1 | exact dR_take1 (fun x => rIs (usR g x)) hx1 | rfl | (simp [dR]; done))), kb 149 rfl (.dt rfl (by first | exact dR_take (fun x => rI (usW g x)) hx1 | exact dR_take1 (fun x => rI (usW g x)) hx1 | rfl | (simp [dR]; done))), kb 110 rfl (.cons (.cons .dt (.cons .dt (.cons .dt (.cons .ow (.cons .ow Ctos.nil))))) .nil), trivial⟩
   ·skip
    obtain rfl : i = (insG 0 g.2).length := by omega
    refine .exit <| ks_e <| kl_e <| kb_hit <| ks_n <| .seq ?_
    refine .keep [(.t 6, .v (.o (.c (.box 810 5 0 0)))), (.b 810, .b 74 5 [[.d (dRs g.1), .d (dPts g.2), .d (dNs (insG 0 g.2)), .d (dPs (usRs g)), .d (dIs (usWs g))]]), (.u 810, .u)] [(810, 110)] ⟨ks rfl (.c .bx), kb 110 rfl (.cons (.cons .dt (.cons .dt (.cons .dt (.cons (.fz rfl (by rw [List.take_length, usRs, List.map_map]; rfl) (by simp [usRs]) (by omega)) (.cons (.fz rfl (by rw [List.take_length, usWs, List.map_map]; rfl) (by simp [usWs]) (by omega)) Ctos.nil))))) .nil), trivial⟩ ?_
    refine .region <| .cons (.mv rfl rfl) <| .cons (.asg rfl rfl) <| .cons (.asg rfl rfl) <| .nil <| ks_n <| .ret ?_
    refine kf_wret [(.t 2, .v (.o (.c (.ptr (rT g))))), (.t 3, .v (.o (bo1 true)))] (Wk.keep [] rfl rfl ⟨ks rfl (.c (.frzP _ _ _ _ _ _ _ _ rfl (show _ = dR [rT g] from rfl) rfl rfl rfl)), ks rfl .dt, trivial⟩) rfl ?_ nobox
    rfl

theorem l6Uses_fn {g : Prg} (hs : szG g ≤ 1073741824) (hS : prgS g = true) : Fn Tryz.prog 51 [] [ad (rG g)] (.o (vD (dUs (usL g)))) [] := by
 have hL := insG_len hS
 have hv := (prgS_iff.1 hS).1
 refine Fn.code0 Tryz.func51 rfl rfl rfl rfl ?_
 refine .seq <| .region <| .cons (St1.boxP rfl rfl rfl rfl rfl rfl) <| .cons (.asg rfl rfl) <| .nil <| ks_n <| .seq <| .region <| .cons (St1.lit0 (k' := 109) (e := 71) (sz := 2) (b := true) rfl rfl rfl rfl (by kernel_rfl) rfl rfl) ?_
 refine .cons (.asg rfl rfl) <| .nil <| ks_n <| .seq <| .region <| .cons (.lN 2 rfl rfl rfl) <| .cons (.cP [.tmp 10] rfl rfl rfl rfl (l4Instances_fn hS) rfl) ?_
 refine .cons (.asg rfl rfl) <| .nil <| ks_n <| .seq <| .seq <| .region <| .cons (.asg rfl rfl) <| .nil <| ks_n <| .block ?_
 refine .loopK (fun m σ => (∃ i : Nat, m = (insG 0 g.2).length - i ∧ (i ≤ (insG 0 g.2).length) ∧ (True) ∧ σ = [(.t 1, .v (.o (.c (.ptr (rG g))))), (.t 3, .v (.o (.c (.own 110 2 (i))))), (.t 4, .v (.o (vD (dNs (insG 0 g.2))))), (.t 5, .v (.o (nat1 (i : Nat)))), (.b 110, .b 71 2 (dR (((insG 0 g.2).take i).map (fun x => rU (usG g x))))), (.u 110, .u)])) [(110, 109)] ⟨0, rfl, by omega, trivial, rfl⟩ ⟨ks rfl .dt, ks rfl (.c .ow), ks rfl .dt, ks rfl .dt, kb 109 rfl (.dt rfl (by first | exact dR_take (fun x => rU (usG g x)) hx1 | exact dR_take1 (fun x => rU (usG g x)) hx1 | rfl | (simp [dR]; done))), trivial⟩ ?_
 rintro m σ ⟨i, hm0, hi, hF, rfl⟩
 refine .seq <| .seq <| .region <| .cons (.mv rfl rfl) <| .cons (.mv rfl rfl) <| .cons (.ln 86 3 40 rfl rfl rfl) <| .cons (.ls rfl rfl rfl) <| .nil <| ks_n ?_
 refine .cD rfl (fun h15 => ?_) (fun h15 => ?_)
 ·skip
  obtain ⟨x, hx1⟩ : ∃ x_, (insG 0 g.2)[i]? = some x_ := ⟨_, List.getElem?_eq_getElem (by omega)⟩
  obtain ⟨k, c, q, hI⟩ := ins_at hS (List.mem_of_getElem? hx1)
  have hsz := stI_sz hI
  have hpt := npR_pt hI.pt
  obtain ⟨hC, hW⟩ := cls_yes hI.ok
  refine .skip <| ks_n <| .seq <| .block <| .seq ?_
  refine ACode.drawK (by kernel_rfl) (by kernel_rfl) ?_
  refine .cons (.fP 0 0 false rfl rfl) <| .cons (.l1 1 rfl rfl) <| .cons (.fP 1 0 false rfl rfl) <| .cons (.l1 1 rfl rfl) <| .cons (.mv rfl rfl) <| .cons (.mv rfl rfl) <| .cons (.xL 86 3 40 rfl rfl rfl rfl rfl) ?_
  refine .cons (.fP 0 0 false rfl rfl) <| .cons (.l1 1 rfl rfl) <| .cons (.xL 104 2 48 (i := k) rfl rfl rfl rfl hI.e1 (map_at hI.hq)) ?_
  refine .cons (.fP 1 0 false rfl rfl) <| .cons (.l1 1 rfl rfl) <| .cons (.mv rfl rfl) <| .cons (.mv rfl rfl) <| .cons (.xL 86 3 40 rfl rfl rfl rfl rfl) ?_
  refine .cons (.fP 1 0 false rfl rfl) <| .cons (.l1 1 rfl rfl) <| .cons (.xL 96 9 152 (i := c) rfl rfl rfl rfl hI.e2 (map_at hI.hs)) ?_
  refine .cons (.lN 9 rfl rfl rfl) <| .cons (.mv rfl rfl) <| .cons (.mv rfl rfl) <| .cons (.xL 86 3 40 rfl rfl rfl rfl rfl) ?_
  refine .cons (.fP 2 0 false rfl rfl) <| .cons (.l1 1 rfl rfl) <| .cons (.cP [.tmp 20, .tmp 37, .tmp 42] rfl rfl rfl rfl (l4Cells_fn hv hI.sv (by omega) hpt.1 hpt.2) rfl) ?_
  refine .cons (.mv rfl rfl) <| .cons (.ex rfl rfl rfl) <| .cons (.ex rfl rfl rfl) <| .cons (.ex rfl rfl rfl) <| .cons (.asg rfl rfl) <| .cons (.asg rfl rfl) <| .cons (.asg rfl rfl) ?_
  refine .nil ⟨by kernel_rfl, ?_⟩
  refine ks_n ?_
  refine .keep [(.t 1, .v (.o (.c (.ptr (rG g))))), (.t 3, .v (.o (.c (.own 770 2 (i))))), (.t 4, .v (.o (vD (dNs (insG 0 g.2))))), (.t 5, .v (.o (nat1 (i : Nat)))), (.t 6, .v (.o (vD (dIs (usR g x))))), (.t 7, .v (.o (nat1 (usW g x)))), (.b 770, .b 71 2 (dR (((insG 0 g.2).take i).map (fun x => rU (usG g x))))), (.u 770, .u)] [(770, 110)] ⟨ks rfl .dt, ks rfl (.c .ow), ks rfl .dt, ks rfl .dt, ks rfl (.dt (by rw [hC]; rfl)), ks rfl (.dt (by rw [hW]; rfl)), kb 110 rfl (.dt rfl (by first | exact dR_take (fun x => rU (usG g x)) hx1 | exact dR_take1 (fun x => rU (usG g x)) hx1 | rfl | (simp [dR]; done))), trivial⟩ ?_
  refine .region <| .cons (.mv rfl rfl) <| .cons (.mv rfl rfl) <| .cons (.mv rfl rfl) <| .cons (.bu [(0, .tmp 48), (1, .tmp 49)] [(0, 1), (1, 1)] [.slice none 0 0, .int .i64 0] rfl rfl rfl rfl rfl) <| .cons (.li 71 1 0 [.tmp 50] rfl rfl rfl rfl rfl rfl) <| .cons (St1.appB (k' := 152) (e := 71) (sz := 1) (by' := 32) rfl rfl rfl rfl rfl (by kernel_rfl) rfl rfl rfl rfl (by first | (simp [dR]; done) | (simp [dR]; omega)) (by first | (simp [dR]; done) | (simp [dR]; omega)) rfl rfl rfl) ?_
  refine .cons (.asg rfl rfl) <| .nil <| kb_n <| ks_n <| .region <| .cons (.mv rfl rfl) <| .cons (.pl rfl rfl rfl) <| .cons (.asg rfl rfl) <| .nil ?_
  refine kl_k [(110, 152)] ⟨i + 1, rfl, by omega, trivial, rfl⟩ ⟨ks rfl .dt, ks rfl (.c .ow), ks rfl .dt, ks rfl .dt, kb 152 rfl (.dt rfl (by first | exact dR_take (fun x => rU (usG g x)) hx1 | exact dR_take1 (fun x => rU (usG g x)) hx1 | rfl | (simp [dR]; done))), trivial⟩
 ·skip
  obtain rfl : i = (insG 0 g.2).length := by omega
  refine .exit <| ks_e <| kl_e <| kb_hit <| ks_n <| .seq <| .region <| .cons (.mv rfl rfl) <| .cons (.asg rfl rfl) <| .nil <| ks_n <| .ret ?_
  refine kf_wret [(.t 2, .v (.o (vD (dUs (usL g)))))] (Wk.keep [] rfl rfl ⟨ks rfl (.c (.fz rfl (by rw [List.take_length, usL, List.map_map]; rfl) (by simp [usL]) (by omega))), trivial⟩) rfl ?_ nobox
  rfl
section
variable {P : Program} {n : Nat} {ops : Array Oper} {o : Oper} {σ : St} {d : Nat} {t e : TypeId} {x y : Operand} {k sz by' m i : Nat} {p : Int} {rows : List (List C)}
theorem St1.sliceToB (h4 : (o.op, o.guard, o.dst, Nat.blt d n) = (Op.slice t x none (some y) none, none, some d, true)) (ht : tyS P t = some (e, sz, by')) (hx : ev σ x = some (.o (.c (.own k sz m)))) (hb : lk σ (.b k) = .b e sz rows) (hy : ev σ y = some (.o (nat1 p))) (hp : p = (i : Int)) (hi : i ≤ m) :
    St1 P n ops o σ ((rd x ++ rd y) ++ [.b k]) [.t d] ((.t d, .v (.o (.c (.own k sz i)))) :: σ) := by
  simp only [Prod.mk.injEq] at h4
  obtain ⟨ho, hg, hd, hn⟩ := h4
  exact St1.value hg hd hn fun E bx τ a w hR hs => by
    subst hp
    have hk : τ (.b k) = .b e sz rows := (rd_r hR _ (by simp)).trans hb
    obtain ⟨cap, e1, c1, c2, c3⟩ := ev_own hx (rd_l (rd_l hR)) hs (Al_of hk)
    obtain ⟨hu, _⟩ := tyS_out ht
    have hrefs := (ev_ok hx (rd_l (rd_l hR)) hs).2
    refine ⟨⟨.slice (some ⟨(bx k).1, 0, none⟩) i cap, ?_, ⟨rfl, fun _ => ⟨cap, rfl, by omega, c2, c3⟩⟩⟩, hrefs⟩
    have hbd : 0 ≤ (i : Int) ∧ (i : Int) ≤ (cap : Int) := by omega
    simp [execOp, ho, e1, ev_val hy (rd_r (rd_l hR)) hs, sliceAt_list ht, Instr.slice, run_underlying hu, Instr.sliceBounds, Instr.sliceBound, asIntOf, hbd, run_sizeE ht]
    rw [if_pos (by omega)]
    simp [Addr.add]
/-! ### The last rows of a slice of the call's own, read on -/
theorem Cto.of {σ : St} {inv : Inv} {k k' sz i n m : Nat} (hn : n = m := by first | rfl | omega) (h : (k', k) ∈ inv := by first | decide | simp) : Cto σ inv (.off k sz i n) (.off k' sz i m) := .off _ _ _ _ _ _ h hn
end
/-- A leaf: one cell, no slice. -/
def nsl : Value → Bool
  | .slice .. => false
  | v => v.oneCell'
theorem nsl_one {v : Value} (h : nsl v = true) : v.oneCell' = true := by
  cases v <;> first | rfl | exact h
/-- The value v reads as x; all of it lies in blocks from lo on, and may be written. -/
inductive DrN (lo : Nat) (w : World) : D → Value → Prop
  | val (v : Value) (h : nsl v = true) : DrN lo w (.val v) v
  | list (sz : Nat) (rows : List (List D)) (a : Option Addr) (n cap b off : Nat) (f : Nat → Nat → Value) (hn : n = rows.length) (h1 : n ≤ cap) (h2 : n ≤ 17592186044416) (h3 : a = none → cap = 0)
      (h4 : 0 < n → a = some ⟨b, off, none⟩) (h5 : ∀ (i : Nat) r, rows[i]? = some r → r.length = sz)
      (h6 : ∀ (i : Nat) r (j : Nat) x, rows[i]? = some r → r[j]? = some x → lo ≤ b ∧ w.cell? ⟨b, off + (i * sz + j), none⟩ = some (f i j) ∧ w.frozen? ⟨b, off + (i * sz + j), none⟩ = false)
      (h7 : ∀ (i : Nat) r (j : Nat) x, rows[i]? = some r → r[j]? = some x → DrN lo w x (f i j)) : DrN lo w (.list sz rows) (.slice a n cap)
section
variable {lo lo' : Nat} {w w' : World} {x : D} {v : Value}
theorem DrN.dr (h : DrN lo w x v) : Dr (fun b => lo ≤ b) w x v := by
  induction h with
  | val v h => exact .val v (nsl_one h)
  | list sz rows a n cap b off f hn h1 h2 h3 h4 h5 h6 h7 ih =>
    exact .list sz rows a n cap b off f hn h1 h2 h3 h4 h5 (fun i r j x hr hx => ⟨(h6 i r j x hr hx).1, (h6 i r j x hr hx).2.1⟩) ih
theorem DrN.one (h : DrN lo w x v) : v.oneCell' = true := h.dr.one
theorem DrN.frame (hs : Same (fun b => lo ≤ b) w w') (h : DrN lo w x v) : DrN lo w' x v := by
  induction h with
  | val v h => exact .val v h
  | list sz rows a n cap b off f hn h1 h2 h3 h4 h5 h6 h7 ih =>
    refine .list sz rows a n cap b off f hn h1 h2 h3 h4 h5 (fun i r j x hr hx => ?_) ih
    obtain ⟨g1, g2, g3⟩ := h6 i r j x hr hx
    exact ⟨g1, hs.cell g1 g2, (World.frozen?_of_block (a := ⟨b, off + (i * sz + j), none⟩) (hs b g1 (World.block_lt_of_cell? _ _ g2))).trans g3⟩
theorem DrN.mono (hl : lo' ≤ lo) (h : DrN lo w x v) : DrN lo' w x v := by
  induction h with
  | val v h => exact .val v h
  | list sz rows a n cap b off f hn h1 h2 h3 h4 h5 h6 h7 ih =>
    exact .list sz rows a n cap b off f hn h1 h2 h3 h4 h5 (fun i r j x hr hx => ⟨Nat.le_trans hl (h6 i r j x hr hx).1, (h6 i r j x hr hx).2⟩) ih
theorem DrN.fwd (h : DrN lo w x v) (hb : Below w.heap.size w w') : DrN lo w' x v := h.frame (below_sameAll hb _)
end
/-- The values vs, one by one. -/
def DrNs (lo : Nat) (w : World) (ds : List D) (vs : List Value) : Prop := vs.length = ds.length ∧ ∀ (i : Nat) d u, ds[i]? = some d → vs[i]? = some u → DrN lo w d u
/-- A row of the call's own: its first k rows read as told; what they lead to lies behind it. -/
def Grid (w : World) (g : Nat) (e : TypeId) (sz n k : Nat) (rows : List (List D)) : Prop :=
  ∃ cur : Array Value, w.heap[g]? = some (.cells cur e (0, 0)) ∧ cur.size = n * sz ∧ ∀ (i : Nat) r (j : Nat) x, i < k → rows[i]? = some r → r[j]? = some x → ∃ u, cur[i * sz + j]? = some u ∧ DrN (g + 1) w x u
section
variable {w w' : World} {g : Nat} {e : TypeId} {sz n k : Nat} {rows : List (List D)}
theorem Grid.lt (h : Grid w g e sz n k rows) : g < w.heap.size := by
  obtain ⟨cur, h1, _⟩ := h
  exact (Array.getElem?_eq_some_iff.1 h1).1
theorem Grid.new (w : World) (e : TypeId) (sz n : Nat) (zs : Array Value) (rows : List (List D)) : Grid (w.alloc (.cells (madeCells zs (n * sz)) e)) w.heap.size e sz n 0 rows :=
  ⟨_, heap_alloc_new w _, size_madeCells _ _, fun i r j x hi => absurd hi (by omega)⟩
theorem Grid.fwd (h : Grid w g e sz n k rows) (hb : Below w.heap.size w w') : Grid w' g e sz n k rows := by
  have hl := h.lt
  obtain ⟨cur, h1, h2, h3⟩ := h
  refine ⟨cur, (hb.block g hl).trans h1, h2, fun i r j x hi hr hx => ?_⟩
  obtain ⟨u, h4, h5⟩ := h3 i r j x hi hr hx
  exact ⟨u, h4, h5.fwd hb⟩
theorem Grid.cell (h : Grid w g e sz n k rows) {o : Nat} (ho : o < n * sz) : ∃ u, w.cell? ⟨g, o, none⟩ = some u := by
  obtain ⟨cur, h1, h2, _⟩ := h
  exact ⟨cur[o]'(by omega), by rw [cell_of_row w _ _ _ _ _ h1]; exact Array.getElem?_eq_getElem _⟩
theorem Grid.frozen (h : Grid w g e sz n k rows) (o : Nat) : w.frozen? ⟨g, o, none⟩ = false := by
  obtain ⟨cur, h1, _, _⟩ := h
  simp [World.frozen?, h1]
theorem Grid.done (h : Grid w g e sz n rows.length rows) (hn : n = rows.length) (hb : n ≤ 17592186044416) (hl : ∀ r ∈ rows, r.length = sz) : DrN g w (.list sz rows) (.slice (some ⟨g, 0, none⟩) n n) := by
  have hfr := h.frozen
  obtain ⟨cur, h1, h2, h3⟩ := h
  have hlt : ∀ {i : Nat} {r}, rows[i]? = some r → i < rows.length := fun h => (List.getElem?_eq_some_iff.1 h).1
  refine .list sz rows _ _ _ g 0 (fun i j => cur.getD (i * sz + j) undef) hn (Nat.le_refl _) hb (fun h => by cases h) (fun _ => rfl) (fun i r hr => hl r (List.mem_of_getElem? hr)) (fun i r j x hr hx => ?_) (fun i r j x hr hx => ?_)
  · obtain ⟨u, h4, h5⟩ := h3 i r j x (hlt hr) hr hx
    refine ⟨Nat.le_refl _, ?_, hfr _⟩
    rw [cell_of_row w _ _ _ _ _ h1, Nat.zero_add, h4, Array.getD_eq_getD_getElem?, h4]; rfl
  · obtain ⟨u, h4, h5⟩ := h3 i r j x (hlt hr) hr hx
    rw [Array.getD_eq_getD_getElem?, h4]
    exact h5.mono (Nat.le_succ _)
end

/-- The value v reads as x but for its leaves; all of it lies in blocks of S, and may be written. -/
inductive DrK (S : Nat → Prop) (w : World) : D → Value → Prop
  | val (v u : Value) (h : nsl u = true) : DrK S w (.val v) u
  | list (sz : Nat) (rows : List (List D)) (a : Option Addr) (n cap b off : Nat) (f : Nat → Nat → Value) (hn : n = rows.length) (h1 : n ≤ cap) (h2 : n ≤ 17592186044416)
      (h4 : 0 < n → a = some ⟨b, off, none⟩) (h5 : ∀ (i : Nat) r, rows[i]? = some r → r.length = sz)
      (h6 : ∀ (i : Nat) r (j : Nat) x, rows[i]? = some r → r[j]? = some x → S b ∧ w.cell? ⟨b, off + (i * sz + j), none⟩ = some (f i j) ∧ w.frozen? ⟨b, off + (i * sz + j), none⟩ = false)
      (h7 : ∀ (i : Nat) r (j : Nat) x, rows[i]? = some r → r[j]? = some x → DrK S w x (f i j)) : DrK S w (.list sz rows) (.slice a n cap)
/-- From w to w' leaves in the blocks of S were turned, and new blocks made, no more. -/
structure Marked (S : Nat → Prop) (w w' : World) : Prop where
  os : w'.os = w.os
  tape : w'.tape = w.tape
  output : w'.output = w.output
  size : w.heap.size ≤ w'.heap.size
  old : ∀ b, b < w.heap.size → ¬ S b → w'.heap[b]? = w.heap[b]?
  cell : ∀ b o u, w.cell? ⟨b, o, none⟩ = some u → ∃ u', w'.cell? ⟨b, o, none⟩ = some u' ∧ (u' = u ∨ (nsl u = true ∧ nsl u' = true))
  frz : ∀ b o, b < w.heap.size → w'.frozen? ⟨b, o, none⟩ = w.frozen? ⟨b, o, none⟩
section
variable {S S' : Nat → Prop} {w w' w'' : World} {x : D} {v : Value}
theorem DrN.k {lo : Nat} (h : DrN lo w x v) (hS : ∀ b, lo ≤ b → b < w.heap.size → S b) : DrK S w x v := by
  induction h with
  | val v h => exact .val v v h
  | list sz rows a n cap b off f hn h1 h2 h3 h4 h5 h6 h7 ih =>
    exact .list sz rows a n cap b off f hn h1 h2 h4 h5 (fun i r j x hr hx => ⟨hS b (h6 i r j x hr hx).1 (World.block_lt_of_cell? _ _ (h6 i r j x hr hx).2.1), (h6 i r j x hr hx).2⟩) ih
theorem DrK.mark (hm : Marked S' w w') (h : DrK S w x v) : DrK S w' x v := by
  induction h with
  | val v u h => exact .val v u h
  | list sz rows a n cap b off f hn h1 h2 h4 h5 h6 h7 ih =>
    refine .list sz rows a n cap b off (fun i j => (w'.cell? ⟨b, off + (i * sz + j), none⟩).getD undef) hn h1 h2 h4 h5 (fun i r j x hr hx => ?_) (fun i r j x hr hx => ?_)
    · obtain ⟨g1, g2, g3⟩ := h6 i r j x hr hx
      obtain ⟨u, g4, _⟩ := hm.cell _ _ _ g2
      exact ⟨g1, by rw [g4]; rfl, (hm.frz _ _ (World.block_lt_of_cell? _ _ g2)).trans g3⟩
    · obtain ⟨g1, g2, g3⟩ := h6 i r j x hr hx
      obtain ⟨u, g4, g5⟩ := hm.cell _ _ _ g2
      rw [g4, Option.getD_some]
      rcases g5 with rfl | ⟨g5, g6⟩
      · exact ih i r j x hr hx
      · have h8 := ih i r j x hr hx
        generalize f i j = u0 at h8 g5
        cases h8 with
        | val v u h => exact .val v _ g6
        | list => cases g5
theorem Marked.refl (S : Nat → Prop) (w : World) : Marked S w w := ⟨rfl, rfl, rfl, Nat.le_refl _, fun _ _ _ => rfl, fun _ _ u h => ⟨u, h, .inl rfl⟩, fun _ _ _ => rfl⟩
theorem Marked.trans (h : Marked S w w') (h' : Marked S w' w'') : Marked S w w'' := by
  refine ⟨h'.os.trans h.os, h'.tape.trans h.tape, h'.output.trans h.output, Nat.le_trans h.size h'.size, fun b hb hS => (h'.old b (Nat.lt_of_lt_of_le hb h.size) hS).trans (h.old b hb hS), fun b o u hu => ?_, fun b o hb => (h'.frz b o (Nat.lt_of_lt_of_le hb h.size)).trans (h.frz b o hb)⟩
  obtain ⟨u1, h1, h2⟩ := h.cell b o u hu
  obtain ⟨u2, h3, h4⟩ := h'.cell b o u1 h1
  refine ⟨u2, h3, ?_⟩
  rcases h2 with rfl | ⟨h2, h5⟩
  · exact h4
  · rcases h4 with rfl | ⟨h4, h6⟩
    · exact .inr ⟨h2, h5⟩
    · exact .inr ⟨h2, h6⟩
theorem marked_of (h : Below w.heap.size w w') (S : Nat → Prop) : Marked S w w' :=
  ⟨h.os, h.tape, h.output, h.size, fun b hb _ => h.block b hb, fun b o u hu => ⟨u, (h.cell (p := ⟨b, o, none⟩) (World.block_lt_of_cell? _ _ hu)).trans hu, .inl rfl⟩, fun b o hb => World.frozen?_of_block (a := ⟨b, o, none⟩) (h.block b hb)⟩
theorem Marked.set {b o : Nat} {u t : Value} (hS : S b) (hc : w.cell? ⟨b, o, none⟩ = some u) (hu : nsl u = true) (ht : nsl t = true) : Marked S w (w.setCell ⟨b, o, none⟩ t) := by
  refine ⟨rfl, rfl, rfl, by simp [World.setCell], fun c hc hn => Below.heap_setCell _ _ _ _ (fun e => hn (by rw [e]; exact hS)), fun c p v hv => ?_, fun _ _ _ => World.frozen?_setCell _ _ _ _⟩
  by_cases e : (⟨b, o, none⟩ : Addr) = ⟨c, p, none⟩
  · cases e
    rw [hc] at hv; cases hv
    exact ⟨t, World.cell?_setCell_same _ _ _ hc, .inr ⟨hu, ht⟩⟩
  · exact ⟨v, by rw [World.cell?_setCell_other _ _ _ _ e]; exact hv, .inl rfl⟩
theorem Marked.same {B : Nat → Prop} (h : Marked S w w') (hB : ∀ b, B b → b < w.heap.size → ¬ S b) : Same B w w' := fun b hb hl => h.old b hl (hB b hb hl)
/-- A slice whose leaves may be marked. -/
theorem DrK.slice {sz : Nat} {rows : List (List D)} (h : DrK S w (.list sz rows) v) : ∃ ad cap, v = .slice ad rows.length cap ∧ rows.length ≤ 17592186044416 := by
  cases h with
  | list _ _ a n cap b off f hn h1 h2 h4 h5 h6 h7 => subst hn; exact ⟨a, cap, rfl, h2⟩
theorem DrK.at {sz : Nat} {rows : List (List D)} {ad : Option Addr} {n cap : Nat} (h : DrK S w (.list sz rows) (.slice ad n cap)) {i : Nat} {r : List D} (hi : rows[i]? = some r) (hr : 0 < r.length) :
    ∃ b off, ad = some ⟨b, off, none⟩ ∧ S b ∧ r.length = sz ∧ ∀ (j : Nat) x, r[j]? = some x → ∃ u, w.cell? ⟨b, off + (i * sz + j), none⟩ = some u ∧ w.frozen? ⟨b, off + (i * sz + j), none⟩ = false ∧ DrK S w x u := by
  cases h with
  | list _ _ a n cap b off f hn h1 h2 h4 h5 h6 h7 =>
    have hl := (List.getElem?_eq_some_iff.1 hi).1
    exact ⟨b, off, h4 (by omega), (h6 i r 0 _ hi (List.getElem?_eq_getElem hr)).1, h5 i r hi, fun j x hx => ⟨f i j, (h6 i r j x hi hx).2.1, (h6 i r j x hi hx).2.2, h7 i r j x hi hx⟩⟩
theorem DrK.row {sz n cap b off : Nat} {rows : List (List D)} (h : DrK S w (.list sz rows) (.slice (some ⟨b, off, none⟩) n cap)) {i : Nat} {r : List D} (hi : rows[i]? = some r) (j : Nat) {x : D} (hx : r[j]? = some x) {o : Nat} (ho : off + (i * sz + j) = o) :
    ∃ u, w.cell? ⟨b, o, none⟩ = some u ∧ w.frozen? ⟨b, o, none⟩ = false ∧ DrK S w x u := by
  obtain ⟨b', off', e, _, _, h1⟩ := h.at hi (by have := (List.getElem?_eq_some_iff.1 hx).1; omega)
  cases e
  obtain ⟨u, h2⟩ := h1 j x hx
  rw [ho] at h2
  exact ⟨u, h2⟩
theorem DrK.leaf {u v : Value} (h : DrK S w (.val u) v) : nsl v = true := by cases h; assumption
end
mutual
/-- The number of leaves. -/
def wgt : D → Nat
  | .val _ => 1
  | .list _ rows => wgtR rows
def wgtR : List (List D) → Nat
  | [] => 0
  | r :: rs => wgtL r + wgtR rs
def wgtL : List D → Nat
  | [] => 0
  | d :: ds => wgt d + wgtL ds
end
theorem wgtR_append (a b : List (List D)) : wgtR (a ++ b) = wgtR a + wgtR b := by
  induction a with
  | nil => simp [wgtR]
  | cons r a ih => rw [List.cons_append, wgtR, wgtR, ih]; omega
theorem wgtR_take {rows : List (List D)} {i : Nat} {r : List D} (h : rows[i]? = some r) : wgtR (rows.take (i + 1)) = wgtR (rows.take i) + wgtL r := by
  obtain ⟨hl, h⟩ := List.getElem?_eq_some_iff.1 h
  rw [List.take_succ_eq_append_getElem hl, wgtR_append, h]; simp [wgtR]
theorem wgtR_le (rows : List (List D)) (i : Nat) : wgtR (rows.take i) ≤ wgtR rows := by
  have := wgtR_append (rows.take i) (rows.drop i)
  rw [List.take_append_drop] at this
  omega
/-- What a function that marks does: it counts c from k on. -/
def MarkN (P : Program) (f : FuncId) (x : D) (c : Nat) : Prop := ∀ (S : Nat → Prop) (w : World) (v : Value) (k : Int), DrK S w x v → 0 ≤ k → k + c ≤ 4611686018427387904 →
  Calls P f #[v, .int .i64 k] w fun e w' => e = .returned (.int .i64 (k + c)) ∧ Marked S w w'
/-- What a function that marks does: it counts the leaves from k on. -/
def MarkC (P : Program) (f : FuncId) (x : D) : Prop := MarkN P f x (wgt x)
/-- What a function that copies does: its answer lies in new memory. -/
def CopyC (P : Program) (f : FuncId) (x : D) : Prop := ∀ (B : Nat → Prop) (w : World) (v : Value), Dr B w x v →
  Calls P f #[v] w fun e w' => ∃ v', e = .returned v' ∧ Below w.heap.size w w' ∧ DrN w.heap.size w' x v'
/-- The same of a struct. -/
def CopyS (P : Program) (f : FuncId) (ds : List D) : Prop := ∀ (B : Nat → Prop) (w : World) (vs : List Value), vs.length = ds.length → (∀ (i : Nat) d u, ds[i]? = some d → vs[i]? = some u → Dr B w d u) →
  Calls P f #[.agg vs.toArray] w fun e w' => ∃ vs' : List Value, e = .returned (.agg vs'.toArray) ∧ Below w.heap.size w w' ∧ DrNs w.heap.size w' ds vs'
theorem wrap64_inM {n : Int} (h : -9223372036854775808 ≤ n) (h2 : n ≤ 9223372036854775807) : wrap64 n = n := by unfold wrap64; omega
/-- A text of few digits. -/
structure TextOk (j : Int) (t : ByteArray) : Prop where
  size : t.size ≤ 64
  le : j ≤ 4611686018427387904
  pow : 0 < j → j.toNat * 2 ^ t.size ≤ 4611686018427387904
theorem TextOk.start {k : Int} (h0 : 0 ≤ k) (h1 : k ≤ 4611686018427387904) : TextOk k ⟨#[]⟩ := ⟨by decide, h1, fun _ => by
  show k.toNat * 2 ^ 0 ≤ _
  omega⟩
theorem TextOk.next {j : Int} {t t' : ByteArray} (h : TextOk j t) (hj : 0 < j) (ht : t'.size = t.size + 1) : TextOk (j / 10) t' := by
  have h1 := h.pow hj
  have h2 : 1 * 2 ^ t.size ≤ j.toNat * 2 ^ t.size := Nat.mul_le_mul_right _ (by omega)
  have h3 : t.size ≤ 62 := by
    rcases Nat.lt_or_ge 62 t.size with h | h
    · have := Nat.pow_le_pow_right (n := 2) (by omega) (show 63 ≤ t.size from h)
      have e : (2 : Nat) ^ 63 = 9223372036854775808 := by decide
      omega
    · exact h
  have h5 := h.le
  refine ⟨by omega, by omega, fun _ => ?_⟩
  rw [ht, Nat.pow_succ]
  have h4 : (j / 10).toNat * 2 ≤ j.toNat := by omega
  calc (j / 10).toNat * (2 ^ t.size * 2) = ((j / 10).toNat * 2) * 2 ^ t.size := by rw [Nat.mul_comm (2 ^ t.size) 2, Nat.mul_assoc]
    _ ≤ j.toNat * 2 ^ t.size := Nat.mul_le_mul_right _ h4
    _ ≤ _ := h1
theorem markText_k (k : Int) (w : World) (h0 : 0 ≤ k) (h1 : k ≤ 4611686018427387904) : Calls Tryz.prog 83 #[.int .i64 k] w fun e w' => ∃ s, e = .returned (.string s) ∧ Below w.heap.size w w' := by
  by_cases hk : k = 0
  · subst hk
    go_enter Tryz.func83, Tryz.ntmps83
    go_wp2
    go_ret
    exact ⟨_, rfl, Below.refl _ _⟩
  · have hk1 : decide (k ≤ 0) = false := by simp; omega
    go_enter Tryz.func83, Tryz.ntmps83
    go_wp2
    go_loopw [0, 3] (fun i s wr => ∃ (j : Int) (t : ByteArray), 0 ≤ j ∧ i = .int .i64 j ∧ s = .string t ∧ Hid (TextOk j t) ∧ Below w.heap.size w wr) (fun i _ _ => (intOf i).toNat)
    case atStart => exact ⟨k, _, h0, rfl, rfl, hid (TextOk.start h0 h1), Below.refl _ _⟩
    case round =>
      obtain ⟨j, t, hj, rfl, rfl, ht, hb⟩ := hrel
      have hsz := ht.out.size
      by_cases hlt : 0 < j
      · have hd : decide (0 < j) = true := by simpa using hlt
        have hcv : (convert 169 9 (.slice (some ⟨wr.heap.size, 0, none⟩) 1 1)).run Tryz.prog (wr.alloc (.cells #[.int .u8 (48 + j % 10)] 5)) = .ok (.string (strOfNums [48 + j % 10])) (wr.alloc (.cells #[.int .u8 (48 + j % 10)] 5)) :=
          run_convert_bytes_arg _ 169 5 Tryz.underlying169 Tryz.underlying5 wr.heap.size 0 1 1 [48 + j % 10] rfl (fun i hi => by
            obtain rfl : i = 0 := by omega
            exact cell_of_row _ _ 0 _ _ _ (heap_alloc_new wr _)) 9 Tryz.underlying9
        have hs3 : (strOfNums [48 + j % 10]).size = 1 := rfl
        have hs2 : (strOfNums [48 + j % 10] ++ t).size = t.size + 1 := by rw [ByteArray.size_append, hs3]; omega
        have hq : wrap64 (j.tdiv 10) = j / 10 := by
          have := ht.out.le
          rw [Int.tdiv_eq_ediv_of_nonneg hj, wrap64_inM (by omega) (by omega)]
        have Hn := hid (ht.out.next hlt hs2)
        go_wp2
        rw [hq]
        exact ⟨⟨j / 10, _, by omega, rfl, rfl, Hn, hb.alloc hb.size _⟩, by simp [intOf]; omega⟩
      · have hd : decide (0 < j) = false := by simpa using hlt
        go_wp2
        go_ret
        exact ⟨⟨_, rfl⟩, hb⟩

theorem wgtR_leafs {rows : List (List D)} (h : ∀ r ∈ rows, ∃ u, r = [.val u]) : wgtR rows = rows.length := by
  induction rows with
  | nil => rfl
  | cons r rows ih =>
    obtain ⟨u, rfl⟩ := h r (by simp)
    rw [wgtR, ih (fun r hr => h r (by simp [hr]))]
    simp [wgtL, wgt]; omega

theorem markIntS_k {rows : List (List D)} (h : ∀ r ∈ rows, ∃ u, r = [.val u]) : MarkC Tryz.prog 19 (.list 1 rows) := by
  intro S w v k hx hk0 hk1
  obtain ⟨ad, cap, rfl, hle⟩ := hx.slice
  obtain ⟨n, hn⟩ : ∃ n, n = rows.length := ⟨_, rfl⟩
  rw [← hn] at hx hle ⊢
  have Hn := hid hn; clear hn
  rw [wgt] at hk1 ⊢
  have Hx := hid hx; clear hx
  have Hk := hid hk1; clear hk1
  go_enter Tryz.func19, Tryz.ntmps19
  go_wp2
  go_loopw [1, 5] (fun q i wr => ∃ (j : Nat) (K : Int), j ≤ n ∧ i = .int .i64 j ∧ q = .int .i64 K ∧ Hid (K = k + wgtR (rows.take j)) ∧ Marked S w wr) (fun _ i _ => n - (intOf i).toNat)
  case atStart => exact ⟨0, k, Nat.zero_le _, rfl, rfl, hid (by simp [wgtR]), Marked.refl _ _⟩
  case round =>
    obtain ⟨j, K, hj, rfl, rfl, HK, hm⟩ := hrel
    by_cases hlt : j < n
    · obtain ⟨r, hr⟩ : ∃ r, rows[j]? = some r := ⟨_, List.getElem?_eq_getElem (by rw [← Hn.out]; exact hlt)⟩
      have hs := wgtR_take hr
      obtain ⟨u, rfl⟩ := h r (List.mem_of_getElem? hr)
      obtain ⟨b, off, rfl, hS, _, hcell⟩ := (Hx.out.mark hm).at hr (by simp)
      obtain ⟨u0, c0, f0, d0⟩ := hcell 0 _ rfl
      have d0 := d0.leaf
      have Hs := hid hs; clear hs hr hcell
      simp only [Nat.mul_one, Nat.add_zero] at c0 f0
      have hb1 := Hk.out; have hb2 := HK.out
      have hK0 : 0 ≤ K := by omega
      have hK1 : K + 1 ≤ 4611686018427387904 := by have := Hs.out; have := wgtR_le rows (j + 1); simp [wgtL, wgt] at *; omega
      clear hb1 hb2
      have m1 := hm.trans (Marked.set (t := .int .i64 K) hS c0 d0 rfl)
      go_wp2
      exact ⟨⟨j + 1, K + 1, by omega, rfl, rfl, hid (by rw [HK.out, Hs.out]; simp [wgtL, wgt]; omega), m1⟩, by simp [intOf]; omega⟩
    · have : j = n := by omega
      subst this
      go_wp2
      go_ret
      exact ⟨ret_int (by rw [HK.out, Hn.out, List.take_length]), hm⟩
section
variable {B : Nat → Prop} {w w' : World} {x : D} {v : Value}
theorem Dr.ba {sz : Nat} {rows : List (List D)} {ad : Option Addr} {n cap : Nat} (h : Dr B w (.list sz rows) (.slice ad n cap)) {i : Nat} {r : List D} (hi : rows[i]? = some r) : ∃ b off, ad = some ⟨b, off, none⟩ := by
  cases h with
  | list _ _ a n cap b off f hn h1 h2 h3 h4 h5 h6 h7 =>
    have hl := (List.getElem?_eq_some_iff.1 hi).1
    exact ⟨b, off, h4 (by omega)⟩
theorem Dr.row {sz n cap b off : Nat} {rows : List (List D)} (h : Dr B w (.list sz rows) (.slice (some ⟨b, off, none⟩) n cap)) {i : Nat} {r : List D} (hi : rows[i]? = some r) (j : Nat) {x : D} (hx : r[j]? = some x) {o : Nat} (ho : off + (i * sz + j) = o) :
    ∃ u, w.cell? ⟨b, o, none⟩ = some u ∧ Dr B w x u := by
  cases h with
  | list _ _ a n cap b' off' f hn h1 h2 h3 h4 h5 h6 h7 =>
    have hl := (List.getElem?_eq_some_iff.1 hi).1
    cases h4 (by omega)
    exact ⟨f i j, by rw [← ho]; exact (h6 i r j x hi hx).2, h7 i r j x hi hx⟩
/-- The values vs, stored one behind the other. -/
def setRow (w : World) (g o : Nat) : List Value → World
  | [] => w
  | v :: vs => setRow (w.setCell ⟨g, o, none⟩ v) g (o + 1) vs
theorem setRow_same {g : Nat} : ∀ (vs : List Value) (o : Nat) (w : World) (cur : Array Value) (e : TypeId), w.heap[g]? = some (.cells cur e (0, 0)) → o + vs.length ≤ cur.size →
    ∃ cur', (setRow w g o vs).heap[g]? = some (.cells cur' e (0, 0)) ∧ cur'.size = cur.size ∧ (∀ i, i < o ∨ o + vs.length ≤ i → cur'[i]? = cur[i]?) ∧ ∀ j v, vs[j]? = some v → cur'[o + j]? = some v
  | [], o, w, cur, e, h, _ => ⟨cur, h, rfl, fun i _ => rfl, fun j v hv => by cases hv⟩
  | v :: vs, o, w, cur, e, h, hl => by
    rw [List.length_cons] at hl
    obtain ⟨cur', h1, h2, h3, h4⟩ := setRow_same vs (o + 1) (w.setCell ⟨g, o, none⟩ v) (cur.setIfInBounds o v) e (heap_setCell_same w g o cur e _ h) (by simp; omega)
    refine ⟨cur', h1, by rw [h2]; simp, fun i hi => ?_, fun j u hu => ?_⟩
    · rw [h3 i (by rw [List.length_cons] at hi; omega), Array.getElem?_setIfInBounds_ne (by rw [List.length_cons] at hi; omega)]
    · cases j with
      | zero =>
        simp at hu; subst hu
        rw [Nat.add_zero, h3 o (by omega), Array.getElem?_setIfInBounds_self_of_lt (by omega)]
      | succ j =>
        have := h4 j u (by simpa using hu)
        rwa [show o + (j + 1) = o + 1 + j by omega]
theorem setRow_below {n g : Nat} {w0 : World} : ∀ (vs : List Value) (o : Nat) (w : World), Below n w0 w → n ≤ g → Below n w0 (setRow w g o vs)
  | [], _, _, h, _ => h
  | v :: vs, o, w, h, hg => setRow_below vs (o + 1) _ (h.setCell (p := ⟨g, o, none⟩) hg v) hg
theorem setRow_other {g k : Nat} (hk : k ≠ g) : ∀ (vs : List Value) (o : Nat) (w : World), (setRow w g o vs).heap[k]? = w.heap[k]?
  | [], _, _ => rfl
  | v :: vs, o, w => (setRow_other hk vs (o + 1) _).trans (Below.heap_setCell _ _ _ _ hk)
theorem Grid.store {g : Nat} {e : TypeId} {sz n k : Nat} {rows : List (List D)} {r : List D} {vs : List Value} (h : Grid w g e sz n k rows) (hr : rows[k]? = some r) (hk : k < n) (hs : vs.length = sz) (hl : ∀ r ∈ rows, r.length = sz) (hv : DrNs (g + 1) w r vs) :
    Grid (setRow w g (k * sz) vs) g e sz n (k + 1) rows := by
  obtain ⟨cur, h1, h2, h3⟩ := h
  have hle : k * sz + vs.length ≤ cur.size := by
    rw [h2, hs, ← Nat.succ_mul]; exact Nat.mul_le_mul_right _ hk
  obtain ⟨cur', q1, q2, q3, q4⟩ := setRow_same vs (k * sz) w cur e h1 hle
  have hf : ∀ {x u}, DrN (g + 1) w x u → DrN (g + 1) (setRow w g (k * sz) vs) x u := fun h => h.frame fun b hb _ => setRow_other (by omega) _ _ _
  refine ⟨cur', q1, q2.trans h2, fun i r' j x hi hr' hx => ?_⟩
  by_cases e1 : i = k
  · subst e1
    rw [hr] at hr'; cases hr'
    have hj : j < vs.length := by rw [hv.1]; exact (List.getElem?_eq_some_iff.1 hx).1
    exact ⟨vs[j], q4 j _ (List.getElem?_eq_getElem hj), hf (hv.2 j x _ hx (List.getElem?_eq_getElem hj))⟩
  · obtain ⟨u, h4, h5⟩ := h3 i r' j x (by omega) hr' hx
    by_cases hj : i * sz + j < k * sz ∨ k * sz + vs.length ≤ i * sz + j
    · exact ⟨u, (q3 _ hj).trans h4, hf h5⟩
    · -- a cell of the row k: then it holds what was stored; rows are disjoint
      exfalso
      have hj' : j < sz := by rw [← hl r' (List.mem_of_getElem? hr')]; exact (List.getElem?_eq_some_iff.1 hx).1
      have : (i + 1) * sz ≤ k * sz := Nat.mul_le_mul_right _ (by omega)
      rw [Nat.succ_mul] at this
      omega
end

theorem DrNs.mono {lo lo' : Nat} {w : World} {ds : List D} {vs : List Value} (hl : lo' ≤ lo) (h : DrNs lo w ds vs) : DrNs lo' w ds vs := ⟨h.1, fun i d u hd hu => (h.2 i d u hd hu).mono hl⟩
theorem len_cons {α : Type} {l : List α} {n : Nat} (h : l.length = n + 1) : ∃ x l', l = x :: l' ∧ l'.length = n := by
  cases l with
  | nil => cases h
  | cons x l => exact ⟨x, l, rfl, by simpa using h⟩
theorem len_zero {α : Type} {l : List α} (h : l.length = 0) : l = [] := List.eq_nil_of_length_eq_zero h
/-- Three new blocks: what came in, the answer, the local variable. -/
structure R3 (w : World) (g : Nat) (A B C : List Value) (e1 e2 : TypeId) : Prop where
  a : w.heap[g]? = some (.cells A.toArray e1 (0, 0))
  b : w.heap[g + 1]? = some (.cells B.toArray e2 (0, 0))
  c : w.heap[g + 1 + 1]? = some (.cells C.toArray e2 (0, 0))
theorem R3.start (w : World) (A B C : List Value) (e1 e2 : TypeId) : R3 (((w.alloc (.cells A.toArray e1)).alloc (.cells B.toArray e2)).alloc (.cells C.toArray e2)) w.heap.size A B C e1 e2 := by
  have h1 := heap_alloc_new w (.cells A.toArray e1)
  have h2 := heap_alloc_new (w.alloc (.cells A.toArray e1)) (.cells B.toArray e2)
  have h3 := heap_alloc_new ((w.alloc (.cells A.toArray e1)).alloc (.cells B.toArray e2)) (.cells C.toArray e2)
  have z1 : (w.alloc (.cells A.toArray e1)).heap.size = w.heap.size + 1 := by simp
  have z2 : ((w.alloc (.cells A.toArray e1)).alloc (.cells B.toArray e2)).heap.size = w.heap.size + 1 + 1 := by simp
  rw [z1] at h2
  rw [z2] at h3
  exact ⟨by rw [Below.heap_alloc _ _ _ (by omega), Below.heap_alloc _ _ _ (by omega)]; exact h1, by rw [Below.heap_alloc _ _ _ (by omega)]; exact h2, h3⟩
section
variable {w w' : World} {g : Nat} {A B C : List Value} {e1 e2 : TypeId}
theorem blk_lt {b : Nat} {o : Obj} (h : w.heap[b]? = some o) : b < w.heap.size := (Array.getElem?_eq_some_iff.1 h).1
theorem R3.fwd (h : R3 w g A B C e1 e2) (hb : Below w.heap.size w w') : R3 w' g A B C e1 e2 :=
  ⟨(hb.block _ (blk_lt h.a)).trans h.a, (hb.block _ (blk_lt h.b)).trans h.b, (hb.block _ (blk_lt h.c)).trans h.c⟩
theorem R3.set (h : R3 w g A B C e1 e2) (j : Nat) (v : Value) : R3 (w.setCell ⟨g + 1 + 1, j, none⟩ v) g A B (C.set j v) e1 e2 :=
  ⟨by rw [Below.heap_setCell _ _ _ _ (by show g ≠ g + 1 + 1; omega)]; exact h.a, by rw [Below.heap_setCell _ _ _ _ (by show g + 1 ≠ g + 1 + 1; omega)]; exact h.b, by
    have := heap_setCell_same w (g + 1 + 1) j C.toArray e2 v h.c
    rwa [List.setIfInBounds_toArray] at this⟩
theorem R3.setb (h : R3 w g A B C e1 e2) (j : Nat) (v : Value) : R3 (w.setCell ⟨g + 1, j, none⟩ v) g A (B.set j v) C e1 e2 :=
  ⟨by rw [Below.heap_setCell _ _ _ _ (by show g ≠ g + 1; omega)]; exact h.a, by
    have := heap_setCell_same w (g + 1) j B.toArray e2 v h.b
    rwa [List.setIfInBounds_toArray] at this, by rw [Below.heap_setCell _ _ _ _ (by show g + 1 + 1 ≠ g + 1; omega)]; exact h.c⟩
theorem R3.c1 (h : R3 w g A B C e1 e2) (j : Nat) {v : Value} (hv : A[j]? = some v) : w.cell? ⟨g, j, none⟩ = some v := by
  rw [cell_of_row w _ _ _ _ _ h.a, List.getElem?_toArray]; exact hv
theorem R3.c2 (h : R3 w g A B C e1 e2) (j : Nat) {v : Value} (hv : B[j]? = some v) : w.cell? ⟨g + 1, j, none⟩ = some v := by
  rw [cell_of_row w _ _ _ _ _ h.b, List.getElem?_toArray]; exact hv
theorem R3.c3 (h : R3 w g A B C e1 e2) (j : Nat) {v : Value} (hv : C[j]? = some v) : w.cell? ⟨g + 1 + 1, j, none⟩ = some v := by
  rw [cell_of_row w _ _ _ _ _ h.c, List.getElem?_toArray]; exact hv
theorem R3.f2 (h : R3 w g A B C e1 e2) (j : Nat) : w.frozen? ⟨g + 1, j, none⟩ = false := by simp [World.frozen?, h.b]
theorem R3.f3 (h : R3 w g A B C e1 e2) (j : Nat) : w.frozen? ⟨g + 1 + 1, j, none⟩ = false := by simp [World.frozen?, h.c]
/-- From block m on what was there stays. -/
structure Past (m : Nat) (w w' : World) : Prop where
  size : w.heap.size ≤ w'.heap.size
  same : ∀ b, m ≤ b → b < w.heap.size → w'.heap[b]? = w.heap[b]?
theorem Past.refl (m : Nat) (w : World) : Past m w w := ⟨Nat.le_refl _, fun _ _ _ => rfl⟩
theorem Past.fwd {m : Nat} {w0 : World} (h : Past m w0 w) (hb : Below w.heap.size w w') : Past m w0 w' := ⟨Nat.le_trans h.size hb.size, fun b h1 h2 => (hb.block b (Nat.lt_of_lt_of_le h2 h.size)).trans (h.same b h1 h2)⟩
theorem Past.set {m : Nat} {w0 : World} (h : Past m w0 w) {b : Nat} (hb : b < m) (j : Nat) (v : Value) : Past m w0 (w.setCell ⟨b, j, none⟩ v) :=
  ⟨Nat.le_trans h.size (by simp [World.setCell]), fun c h1 h2 => (Below.heap_setCell _ _ _ _ (by show c ≠ b; omega)).trans (h.same c h1 h2)⟩
theorem DrN.past {lo m : Nat} {x : D} {v : Value} (h : DrN lo w x v) (hm : m ≤ lo) (hp : Past m w w') : DrN lo w' x v := h.frame fun b h1 h2 => hp.same b (Nat.le_trans hm h1) h2
end
theorem info_make {t e : TypeId} {z : Value} {sz bytes : Nat} (ht : Tryz.prog.underlying t = some (.slice e)) (h : (Tryz.prog.info? e).map (fun i => (i.zero, i.size, i.bytes)) = some (some z, sz, bytes)) (n : Nat) (hn : bytes * n ≤ 281474976710656) (hn2 : n ≤ 1048576) (w : World) :
    (Instr.makeSlice t (.int .i64 (n : Int)) (.int .i64 (n : Int))).run Tryz.prog w = .ok (.slice (some ⟨w.heap.size, 0, none⟩) n n) (w.alloc (.cells (madeCells z.cells (n * sz)) e)) := by
  obtain ⟨i, hi, hz0, hz1, hz2⟩ := info_parts h
  have := run_make (P := Tryz.prog) w t e i _ ht hi hz0 .i64 .i64 n n (by omega) (by omega) (by rw [hz2, ← Int.natCast_mul]; exact Int.ofNat_le.2 hn) (by omega)
  simpa [hz1] using this
/-- The value v reads as x; all of it lies in blocks of S, no cell is used twice, and it may be written. -/
inductive DrU (w : World) : (Nat → Prop) → D → Value → Prop
  | val (S : Nat → Prop) (v : Value) (h : nsl v = true) : DrU w S (.val v) v
  | list (S : Nat → Prop) (sz : Nat) (rows : List (List D)) (a : Option Addr) (n cap b off : Nat) (f : Nat → Nat → Value) (T : Nat → Nat → Nat → Prop) (hn : n = rows.length) (h1 : n ≤ cap) (h2 : n ≤ 17592186044416) (h3 : a = none → cap = 0)
      (h4 : 0 < n → a = some ⟨b, off, none⟩) (h5 : ∀ (i : Nat) r, rows[i]? = some r → r.length = sz)
      (h6 : ∀ (i : Nat) r (j : Nat) x, rows[i]? = some r → r[j]? = some x → S b ∧ w.cell? ⟨b, off + (i * sz + j), none⟩ = some (f i j) ∧ w.frozen? ⟨b, off + (i * sz + j), none⟩ = false)
      (hT : ∀ i j c, T i j c → S c ∧ c ≠ b) (hD : ∀ i j i' j' c, T i j c → T i' j' c → i = i' ∧ j = j')
      (h7 : ∀ (i : Nat) r (j : Nat) x, rows[i]? = some r → r[j]? = some x → DrU w (T i j) x (f i j)) : DrU w S (.list sz rows) (.slice a n cap)
section
variable {S S' : Nat → Prop} {w w' w'' : World} {x y : D} {v : Value}
theorem DrK.sub (hs : ∀ b, S b → S' b) (h : DrK S w x v) : DrK S' w x v := by
  induction h with
  | val v u h => exact .val v u h
  | list sz rows a n cap b off f hn h1 h2 h4 h5 h6 h7 ih =>
    exact .list sz rows a n cap b off f hn h1 h2 h4 h5 (fun i r j x hr hx => ⟨hs _ (h6 i r j x hr hx).1, (h6 i r j x hr hx).2⟩) ih
theorem DrU.k (h : DrU w S x v) : DrK S w x v := by
  induction h with
  | val S v h => exact .val v v h
  | list S sz rows a n cap b off f T hn h1 h2 h3 h4 h5 h6 hT hD h7 ih =>
    refine .list sz rows a n cap b off f hn h1 h2 h4 h5 h6 fun i r j x hr hx => ?_
    exact (ih i r j x hr hx).sub fun c hc => (hT i j c hc).1
theorem DrU.dr (h : DrU w S x v) : Dr S w x v := by
  induction h with
  | val S v h => exact .val v (nsl_one h)
  | list S sz rows a n cap b off f T hn h1 h2 h3 h4 h5 h6 hT hD h7 ih =>
    exact .list sz rows a n cap b off f hn h1 h2 h3 h4 h5 (fun i r j x hr hx => ⟨(h6 i r j x hr hx).1, (h6 i r j x hr hx).2.1⟩) fun i r j x hr hx => (ih i r j x hr hx).mono fun c hc _ => (hT i j c hc).1
theorem DrU.sub (hs : ∀ b, S b → S' b) (h : DrU w S x v) : DrU w S' x v := by
  cases h with
  | val S v h => exact .val S' v h
  | list S sz rows a n cap b off f T hn h1 h2 h3 h4 h5 h6 hT hD h7 =>
    exact .list S' sz rows a n cap b off f T hn h1 h2 h3 h4 h5 (fun i r j x hr hx => ⟨hs _ (h6 i r j x hr hx).1, (h6 i r j x hr hx).2⟩) (fun i j c hc => ⟨hs _ (hT i j c hc).1, (hT i j c hc).2⟩) hD h7
theorem DrU.frame (hs : ∀ b, S b → b < w.heap.size → w'.heap[b]? = w.heap[b]?) (h : DrU w S x v) : DrU w' S x v := by
  induction h with
  | val S v h => exact .val S v h
  | list S sz rows a n cap b off f T hn h1 h2 h3 h4 h5 h6 hT hD h7 ih =>
    refine .list S sz rows a n cap b off f T hn h1 h2 h3 h4 h5 (fun i r j x hr hx => ?_) hT hD fun i r j x hr hx => ih i r j x hr hx fun b hb hl => hs b (hT i j b hb).1 hl
    obtain ⟨g1, g2, g3⟩ := h6 i r j x hr hx
    have hb := World.block_lt_of_cell? _ _ g2
    exact ⟨g1, (World.cell?_of_block (a := ⟨b, off + (i * sz + j), none⟩) (hs b g1 hb)).trans g2, (World.frozen?_of_block (a := ⟨b, off + (i * sz + j), none⟩) (hs b g1 hb)).trans g3⟩
theorem DrU.fwd (h : DrU w S x v) (hb : Below w.heap.size w w') : DrU w' S x v := h.frame fun b _ hl => hb.block b hl
theorem DrU.one (h : DrU w S x v) : v.oneCell' = true := h.dr.one
theorem DrU.leaf {u v : Value} (h : DrU w S (.val u) v) : v = u ∧ nsl v = true := by cases h; exact ⟨rfl, by assumption⟩
theorem DrU.slice {sz : Nat} {rows : List (List D)} (h : DrU w S (.list sz rows) v) : ∃ ad cap, v = .slice ad rows.length cap ∧ rows.length ≤ cap ∧ rows.length ≤ 17592186044416 ∧ (ad = none → cap = 0) := by
  cases h with
  | list _ sz rows a n cap b off f T hn h1 h2 h3 h4 h5 h6 hT hD h7 => subst hn; exact ⟨a, cap, rfl, h1, h2, h3⟩
/-- One row of a tree: its cells, and what a change of one of them makes. -/
theorem DrU.at {sz n cap : Nat} {rows : List (List D)} {ad : Option Addr} (h : DrU w S (.list sz rows) (.slice ad n cap)) {i : Nat} {r : List D} (hi : rows[i]? = some r) (hr : 0 < r.length) :
    ∃ b off, ad = some ⟨b, off, none⟩ ∧ S b ∧ b < w.heap.size ∧ r.length = sz := by
  cases h with
  | list _ sz rows a n cap b off f T hn h1 h2 h3 h4 h5 h6 hT hD h7 =>
    have hl := (List.getElem?_eq_some_iff.1 hi).1
    obtain ⟨g1, g2, _⟩ := h6 i r 0 r[0] hi (List.getElem?_eq_getElem hr)
    exact ⟨b, off, h4 (by omega), g1, World.block_lt_of_cell? _ _ g2, h5 i r hi⟩
theorem DrU.row {sz n cap b off : Nat} {rows : List (List D)} (h : DrU w S (.list sz rows) (.slice (some ⟨b, off, none⟩) n cap)) {i : Nat} {r : List D} (hi : rows[i]? = some r) {j : Nat} {x : D} (hx : r[j]? = some x) {o : Nat} (ho : off + (i * sz + j) = o) :
    ∃ u T, w.cell? ⟨b, o, none⟩ = some u ∧ w.frozen? ⟨b, o, none⟩ = false ∧ DrU w T x u ∧ (∀ c, T c → S c ∧ c ≠ b) ∧
      (∀ w' y, Marked T w w' → DrU w' T y u → DrU w' S (.list sz (rows.set i (r.set j y))) (.slice (some ⟨b, off, none⟩) n cap)) ∧
      (∀ t, nsl t = true → nsl u = true → DrU (w.setCell ⟨b, o, none⟩ t) S (.list sz (rows.set i (r.set j (.val t)))) (.slice (some ⟨b, off, none⟩) n cap)) := by
  subst ho
  cases h with
  | list _ sz rows a n cap b' off' f T hn h1 h2 h3 h4 h5 h6 hT hD h7 =>
    have hl := (List.getElem?_eq_some_iff.1 hi).1
    have hjl := (List.getElem?_eq_some_iff.1 hx).1
    cases h4 (by omega)
    have hrl := h5 i r hi
    obtain ⟨g1, g2, g3⟩ := h6 i r j x hi hx
    have hbl := World.block_lt_of_cell? _ _ g2
    have hset : ∀ y (i' : Nat) r' (j' : Nat) x', (rows.set i (r.set j y))[i']? = some r' → r'[j']? = some x' → (i' = i ∧ j' = j ∧ x' = y) ∨ (¬ (i' = i ∧ j' = j) ∧ ∃ r0, rows[i']? = some r0 ∧ r0[j']? = some x') := by
      intro y i' r' j' x' hi' hx'
      rw [List.getElem?_set] at hi'
      by_cases e : i = i'
      · subst e
        rw [if_pos rfl, if_pos hl] at hi'; cases hi'
        rw [List.getElem?_set] at hx'
        by_cases e2 : j = j'
        · subst e2; rw [if_pos rfl, if_pos hjl] at hx'; cases hx'; exact .inl ⟨rfl, rfl, rfl⟩
        · rw [if_neg e2] at hx'; exact .inr ⟨fun h => e2 h.2.symm, r, hi, hx'⟩
      · rw [if_neg e] at hi'; exact .inr ⟨fun h => e h.1.symm, r', hi', hx'⟩
    have hlen : ∀ y (i' : Nat) r', (rows.set i (r.set j y))[i']? = some r' → r'.length = sz := by
      intro y i' r' hi'
      rw [List.getElem?_set] at hi'
      by_cases e : i = i'
      · subst e; rw [if_pos rfl, if_pos hl] at hi'; cases hi'; rw [List.length_set]; exact hrl
      · rw [if_neg e] at hi'; exact h5 i' r' hi'
    refine ⟨f i j, T i j, g2, g3, h7 i r j x hi hx, hT i j, fun w' y hm hy => ?_, fun t ht hu => ?_⟩
    · refine .list S sz _ _ n cap b off f T (by rw [List.length_set]; exact hn) h1 h2 h3 (fun _ => rfl) (hlen y) (fun i' r' j' x' hi' hx' => ?_) hT hD fun i' r' j' x' hi' hx' => ?_
      · have key : ∀ r0 x0, rows[i']? = some r0 → r0[j']? = some x0 → S b ∧ w'.cell? ⟨b, off + (i' * sz + j'), none⟩ = some (f i' j') ∧ w'.frozen? ⟨b, off + (i' * sz + j'), none⟩ = false := fun r0 x0 q1 q2 => by
          obtain ⟨g4, g5, g6⟩ := h6 i' r0 j' x0 q1 q2
          have hold := hm.old b hbl fun hb => (hT i j b hb).2 rfl
          exact ⟨g4, (World.cell?_of_block (a := ⟨b, off + (i' * sz + j'), none⟩) hold).trans g5, (hm.frz _ _ hbl).trans g6⟩
        rcases hset y i' r' j' x' hi' hx' with ⟨rfl, rfl, _⟩ | ⟨_, r0, q1, q2⟩
        · exact key r x hi hx
        · exact key r0 x' q1 q2
      · rcases hset y i' r' j' x' hi' hx' with ⟨rfl, rfl, rfl⟩ | ⟨hne, r0, q1, q2⟩
        · exact hy
        · refine (h7 i' r0 j' x' q1 q2).frame fun c hc hcl => hm.old c hcl fun hc' => hne ?_
          obtain ⟨e1, e2⟩ := hD i' j' i j c hc hc'
          exact ⟨e1, e2⟩
    · have hlt : ∀ {i' j' : Nat} {r0 : List D} {x0 : D}, rows[i']? = some r0 → r0[j']? = some x0 → j' < sz := fun q1 q2 => by rw [← h5 _ _ q1]; exact (List.getElem?_eq_some_iff.1 q2).1
      have hidx : ∀ {i' j' : Nat}, j' < sz → j < sz → i' * sz + j' = i * sz + j → i' = i ∧ j' = j := fun {i' j'} q1 q2 e => by
        have e1 : (i' * sz + j') / sz = (i * sz + j) / sz := by rw [e]
        rw [Nat.mul_comm, Nat.mul_add_div (by omega), Nat.div_eq_of_lt q1, Nat.mul_comm, Nat.mul_add_div (by omega), Nat.div_eq_of_lt q2] at e1
        have : i' = i := by omega
        subst this
        exact ⟨rfl, by omega⟩
      refine .list S sz _ _ n cap b off (fun i' j' => if i' = i ∧ j' = j then t else f i' j') (fun i' j' c => ¬ (i' = i ∧ j' = j) ∧ T i' j' c) (by rw [List.length_set]; exact hn) h1 h2 h3 (fun _ => rfl) (hlen _) (fun i' r' j' x' hi' hx' => ?_) (fun i' j' c hc => hT i' j' c hc.2) (fun i1 j1 i2 j2 c q1 q2 => hD i1 j1 i2 j2 c q1.2 q2.2) fun i' r' j' x' hi' hx' => ?_
      · rcases hset _ i' r' j' x' hi' hx' with ⟨rfl, rfl, _⟩ | ⟨hne, r0, q1, q2⟩
        · exact ⟨g1, by rw [if_pos ⟨rfl, rfl⟩]; exact World.cell?_setCell_same _ _ _ g2, (World.frozen?_setCell _ _ _ _).trans g3⟩
        · obtain ⟨g4, g5, g6⟩ := h6 i' r0 j' x' q1 q2
          refine ⟨g4, ?_, (World.frozen?_setCell _ _ _ _).trans g6⟩
          rw [if_neg hne]
          exact (World.cell?_setCell_other _ _ _ _ (by intro e; simp only [Addr.mk.injEq] at e; exact hne (hidx (hlt q1 q2) (hlt hi hx) (by omega)))).trans g5
      · rcases hset _ i' r' j' x' hi' hx' with ⟨rfl, rfl, rfl⟩ | ⟨hne, r0, q1, q2⟩
        · simp only [and_self, if_true]; exact .val _ _ ht
        · simp only [if_neg hne]
          refine ((h7 i' r0 j' x' q1 q2).frame fun c hc _ => ?_).sub fun c hc => ⟨hne, hc⟩
          exact Below.heap_setCell _ _ _ _ (by show c ≠ b; exact (hT i' j' c hc).2)
end

mutual
/-- The tree with marks for leaves, from k on. -/
def mkD (tx : Int → ByteArray) : Int → D → D
  | k, .val (.string _) => .val (.string (tx k))
  | k, .val _ => .val (.int .i64 k)
  | k, .list sz rows => .list sz (mkR tx k rows)
def mkR (tx : Int → ByteArray) : Int → List (List D) → List (List D)
  | _, [] => []
  | k, r :: rs => mkL tx k r :: mkR tx (k + wgtL r) rs
def mkL (tx : Int → ByteArray) : Int → List D → List D
  | _, [] => []
  | k, d :: ds => mkD tx k d :: mkL tx (k + wgt d) ds
end
theorem mkR_len (tx : Int → ByteArray) : ∀ (rows : List (List D)) (k : Int), (mkR tx k rows).length = rows.length
  | [], _ => rfl
  | r :: rs, k => by rw [mkR, List.length_cons, mkR_len tx rs, List.length_cons]
theorem mkR_at (tx : Int → ByteArray) : ∀ (rows : List (List D)) (k : Int) (i : Nat) (r : List D), rows[i]? = some r → (mkR tx k rows)[i]? = some (mkL tx (k + wgtR (rows.take i)) r)
  | [], _, i, r, h => by simp at h
  | q :: rs, k, 0, r, h => by simp at h; subst h; rw [mkR]; simp [wgtR]
  | q :: rs, k, i + 1, r, h => by
    rw [mkR, List.getElem?_cons_succ, mkR_at tx rs _ i r (by simpa using h), List.take_succ_cons, wgtR]
    congr 2; omega
/-- The rows, the first j of them marked. -/
def mkT (tx : Int → ByteArray) (k : Int) (rows : List (List D)) (j : Nat) : List (List D) := (mkR tx k rows).take j ++ rows.drop j
theorem mkT_zero {tx : Int → ByteArray} {k : Int} {rows : List (List D)} : mkT tx k rows 0 = rows := by simp [mkT]
theorem mkT_end {tx : Int → ByteArray} {k : Int} {rows : List (List D)} {n : Nat} (h : n = rows.length) : mkT tx k rows n = mkR tx k rows := by
  rw [mkT, List.take_of_length_le (by rw [mkR_len]; omega), List.drop_of_length_le (by omega), List.append_nil]
theorem mkT_at {tx : Int → ByteArray} {k : Int} {rows : List (List D)} {j : Nat} {r : List D} (h : rows[j]? = some r) : (mkT tx k rows j)[j]? = some r := by
  have hl := (List.getElem?_eq_some_iff.1 h).1
  rw [mkT, List.getElem?_append_right (by rw [List.length_take, mkR_len]; omega), List.length_take, mkR_len, Nat.min_eq_left (by omega), Nat.sub_self, List.getElem?_drop, Nat.add_zero]; exact h
theorem mkT_next {tx : Int → ByteArray} {k K : Int} {rows : List (List D)} {j : Nat} {r r' : List D} (h : rows[j]? = some r) (hK : K = k + wgtR (rows.take j)) (hr : r' = mkL tx K r) : (mkT tx k rows j).set j r' = mkT tx k rows (j + 1) := by
  have hl := (List.getElem?_eq_some_iff.1 h).1
  have h1 := mkR_at tx rows k j r h
  rw [← hK, ← hr] at h1
  have hd : rows.drop j = r :: rows.drop (j + 1) := by rw [List.drop_eq_getElem_cons hl, (List.getElem?_eq_some_iff.1 h).2]
  rw [mkT, mkT, List.set_append, if_neg (by rw [List.length_take, mkR_len]; omega), List.length_take, mkR_len, Nat.min_eq_left (by omega), Nat.sub_self, hd, List.set_cons_zero, List.take_add_one, h1, List.append_assoc]
  rfl
/-- What a function that marks does with a tree of the own. -/
def MarkU (P : Program) (tx : Int → ByteArray) (f : FuncId) (x : D) (c : Nat) : Prop := ∀ (S : Nat → Prop) (w : World) (v : Value) (k : Int), DrU w S x v → 0 ≤ k → k + c ≤ 4611686018427387904 →
  Calls P f #[v, .int .i64 k] w fun e w' => e = .returned (.int .i64 (k + c)) ∧ Marked S w w' ∧ DrU w' S (mkD tx k x) v
/-- The digits of a number, put before a text. -/
def dgI (j : Int) (t : ByteArray) : ByteArray := if 0 < j then dgI (j / 10) (strOfNums [48 + j % 10] ++ t) else t
termination_by j.toNat
decreasing_by omega
/-- The text of a mark. -/
def mTx (k : Int) : ByteArray := if k = 0 then ⟨#[109, 48]⟩ else ⟨#[109]⟩ ++ dgI k ⟨#[]⟩
/-- The same of rows of which one is told. -/
theorem DrU.rowS {S : Nat → Prop} {w : World} {sz n cap b off i : Nat} {R : List (List D)} {q : List D} (h : DrU w S (.list sz (R.set i q)) (.slice (some ⟨b, off, none⟩) n cap)) (hi : i < R.length) {j : Nat} {x : D} (hx : q[j]? = some x) {o : Nat} (ho : off + (i * sz + j) = o) :
    ∃ u T, w.cell? ⟨b, o, none⟩ = some u ∧ w.frozen? ⟨b, o, none⟩ = false ∧ DrU w T x u ∧ (∀ c, T c → S c ∧ c ≠ b) ∧
      (∀ w' y, Marked T w w' → DrU w' T y u → DrU w' S (.list sz (R.set i (q.set j y))) (.slice (some ⟨b, off, none⟩) n cap)) ∧
      (∀ t, nsl t = true → nsl u = true → DrU (w.setCell ⟨b, o, none⟩ t) S (.list sz (R.set i (q.set j (.val t)))) (.slice (some ⟨b, off, none⟩) n cap)) := by
  have hq : (R.set i q)[i]? = some q := by rw [List.getElem?_set, if_pos rfl, if_pos hi]
  obtain ⟨u, T, h1, h2, h3, h4, h5, h6⟩ := h.row hq hx ho
  simp only [List.set_set] at h5 h6
  exact ⟨u, T, h1, h2, h3, h4, h5, h6⟩
theorem set_same {α : Type} {l : List α} {i : Nat} {x : α} (h : l[i]? = some x) : l.set i x = l := by
  apply List.ext_getElem?
  intro j
  rw [List.getElem?_set]
  by_cases e : i = j
  · subst e; rw [if_pos rfl, h, if_pos (List.getElem?_eq_some_iff.1 h).1]
  · rw [if_neg e]
theorem mkT_len {tx : Int → ByteArray} {k : Int} {rows : List (List D)} {j : Nat} (h : j ≤ rows.length) : (mkT tx k rows j).length = rows.length := by
  rw [mkT, List.length_append, List.length_take, List.length_drop, mkR_len]; omega
theorem markIntS_u {rows : List (List D)} (h : ∀ r ∈ rows, ∃ z, r = [.val (.int .i64 z)]) : MarkU Tryz.prog mTx 19 (.list 1 rows) (wgtR rows) := by
  intro S w v k hx hk0 hk1
  obtain ⟨ad, cap, rfl, _, hle, _⟩ := hx.slice
  obtain ⟨n, hn⟩ : ∃ n, n = rows.length := ⟨_, rfl⟩
  rw [← hn] at hx hle ⊢
  have Hn := hid hn; clear hn
  have Hx := hid hx; clear hx
  have Hk := hid hk1; clear hk1
  go_enter Tryz.func19, Tryz.ntmps19
  go_wp2
  go_loopw [1, 5] (fun q i wr => ∃ (j : Nat) (K : Int), j ≤ n ∧ i = .int .i64 j ∧ q = .int .i64 K ∧ Hid (K = k + wgtR (rows.take j)) ∧ Marked S w wr ∧ DrU wr S (.list 1 (mkT mTx k rows j)) (.slice ad n cap)) (fun _ i _ => n - (intOf i).toNat)
  case atStart => exact ⟨0, k, Nat.zero_le _, rfl, rfl, hid (by simp [wgtR]), Marked.refl _ _, by rw [mkT_zero]; exact Hx.out⟩
  case round =>
    obtain ⟨j, K, hj, rfl, rfl, HK, hm, hdu⟩ := hrel
    by_cases hlt : j < n
    · obtain ⟨r, hr⟩ : ∃ r, rows[j]? = some r := ⟨_, List.getElem?_eq_getElem (by rw [← Hn.out]; exact hlt)⟩
      have hs := wgtR_take hr
      obtain ⟨z, rfl⟩ := h r (List.mem_of_getElem? hr)
      obtain ⟨b, off, rfl, hS, _, _⟩ := hdu.at (mkT_at hr) (by simp)
      rw [← set_same (mkT_at (tx := mTx) (k := k) hr)] at hdu
      obtain ⟨u0, T0, c0, f0, d0, s0, _, l0⟩ := hdu.rowS (by rw [mkT_len (by have := Hn.out; omega)]; have := Hn.out; omega) (j := 0) rfl (o := off + j) (by omega)
      have e0 := d0.leaf.2
      have hd1 := l0 (.int .i64 K) rfl e0
      rw [mkT_next (tx := mTx) (k := k) (K := K) (r' := [D.val (.int .i64 z)].set 0 (.val (.int .i64 K))) hr HK.out rfl] at hd1
      have hd1 := hid hd1
      have Hs := hid hs; clear hs hr l0 hdu
      have hb1 := Hk.out; have hb2 := HK.out
      have hK0 : 0 ≤ K := by omega
      have hK1 : K + 1 ≤ 4611686018427387904 := by have := Hs.out; have := wgtR_le rows (j + 1); simp [wgtL, wgt] at *; omega
      clear hb1 hb2
      have m1 := hm.trans (Marked.set (t := .int .i64 K) hS c0 e0 rfl)
      go_wp2
      exact ⟨⟨j + 1, K + 1, by omega, rfl, rfl, hid (by rw [HK.out, Hs.out]; simp [wgtL, wgt]; omega), m1, hd1.out⟩, by simp [intOf]; omega⟩
    · have : j = n := by omega
      subst this
      go_wp2
      go_ret
      exact ⟨ret_int (by rw [HK.out, Hn.out, List.take_length]), hm, by rw [mkD, ← mkT_end Hn.out]; exact hdu⟩

theorem all1 {R : D → Value → Prop} {x0 : D} {u0 : Value} (h0 : R x0 u0) : ∀ (i : Nat) d u, [x0][i]? = some d → [u0][i]? = some u → R d u := fun i d u hd hu => by
  match i with
  | 0 => cases hd; cases hu; exact h0
theorem all2 {R : D → Value → Prop} {x0 x1 : D} {u0 u1 : Value} (h0 : R x0 u0) (h1 : R x1 u1) : ∀ (i : Nat) d u, [x0, x1][i]? = some d → [u0, u1][i]? = some u → R d u := fun i d u hd hu => by
  match i with
  | 0 => cases hd; cases hu; exact h0
  | 1 => cases hd; cases hu; exact h1
theorem all7 {R : D → Value → Prop} {x0 x1 x2 x3 x4 x5 x6 : D} {u0 u1 u2 u3 u4 u5 u6 : Value} (h0 : R x0 u0) (h1 : R x1 u1) (h2 : R x2 u2) (h3 : R x3 u3) (h4 : R x4 u4) (h5 : R x5 u5) (h6 : R x6 u6) : ∀ (i : Nat) d u, [x0, x1, x2, x3, x4, x5, x6][i]? = some d → [u0, u1, u2, u3, u4, u5, u6][i]? = some u → R d u := fun i d u hd hu => by
  match i with
  | 0 => cases hd; cases hu; exact h0
  | 1 => cases hd; cases hu; exact h1
  | 2 => cases hd; cases hu; exact h2
  | 3 => cases hd; cases hu; exact h3
  | 4 => cases hd; cases hu; exact h4
  | 5 => cases hd; cases hu; exact h5
  | 6 => cases hd; cases hu; exact h6
theorem all9 {R : D → Value → Prop} {x0 x1 x2 x3 x4 x5 x6 x7 x8 : D} {u0 u1 u2 u3 u4 u5 u6 u7 u8 : Value} (h0 : R x0 u0) (h1 : R x1 u1) (h2 : R x2 u2) (h3 : R x3 u3) (h4 : R x4 u4) (h5 : R x5 u5) (h6 : R x6 u6) (h7 : R x7 u7) (h8 : R x8 u8) : ∀ (i : Nat) d u, [x0, x1, x2, x3, x4, x5, x6, x7, x8][i]? = some d → [u0, u1, u2, u3, u4, u5, u6, u7, u8][i]? = some u → R d u := fun i d u hd hu => by
  match i with
  | 0 => cases hd; cases hu; exact h0
  | 1 => cases hd; cases hu; exact h1
  | 2 => cases hd; cases hu; exact h2
  | 3 => cases hd; cases hu; exact h3
  | 4 => cases hd; cases hu; exact h4
  | 5 => cases hd; cases hu; exact h5
  | 6 => cases hd; cases hu; exact h6
  | 7 => cases hd; cases hu; exact h7
  | 8 => cases hd; cases hu; exact h8
theorem Tryz.infoCint : (Tryz.prog.info? 3).map (fun i => (i.zero, i.size, i.bytes)) = some (some (.int .i64 0), 1, 8) := by kernel_rfl
theorem Tryz.infoCArray : (Tryz.prog.info? 78).map (fun i => (i.zero, i.size, i.bytes)) = some (some (.agg #[.string ⟨#[]⟩, .slice none 0 0]), 2, 40) := by kernel_rfl
theorem Tryz.infoCAffine : (Tryz.prog.info? 91).map (fun i => (i.zero, i.size, i.bytes)) = some (some (.agg #[.slice none 0 0, .int .i64 0]), 2, 32) := by kernel_rfl
theorem Tryz.infoCLoop : (Tryz.prog.info? 172).map (fun i => (i.zero, i.size, i.bytes)) = some (some (.agg #[.slice none 0 0, .slice none 0 0]), 2, 48) := by kernel_rfl
theorem Tryz.infoCExpr : (Tryz.prog.info? 94).map (fun i => (i.zero, i.size, i.bytes)) = some (some (.agg #[.int .i64 0, .int .i64 0, .slice none 0 0, .int .i64 0, .string ⟨#[]⟩, .slice none 0 0, .slice none 0 0]), 7, 112) := by kernel_rfl
theorem Tryz.infoCStmt : (Tryz.prog.info? 96).map (fun i => (i.zero, i.size, i.bytes)) = some (some (.agg #[.string ⟨#[]⟩, .slice none 0 0, .int .i64 0, .int .i64 0, .slice none 0 0, .int .i64 0, .string ⟨#[]⟩, .slice none 0 0, .slice none 0 0]), 9, 152) := by kernel_rfl
theorem Tryz.infoCPart : (Tryz.prog.info? 104).map (fun i => (i.zero, i.size, i.bytes)) = some (some (.agg #[.slice none 0 0, .slice none 0 0]), 2, 48) := by kernel_rfl
set_option maxHeartbeats 3200000 in
theorem toIntS_c {rows : List (List D)} (h : ∀ r ∈ rows, ∃ z, r = [.val (.int .i64 z)]) (hl : rows.length ≤ 1048576) : CopyC Tryz.prog 116 (.list 1 rows) := by
  intro B w v hx
  obtain ⟨ad, cap, rfl, _⟩ := hx.slice
  obtain ⟨n, hn⟩ : ∃ n, n = rows.length := ⟨_, rfl⟩
  rw [← hn] at hl hx ⊢
  have Hn := hid hn; clear hn
  have Hx := hid hx; clear hx
  have hmk := info_make Tryz.underlying35 Tryz.infoCint n (by omega) hl
  go_enter Tryz.func116, Tryz.ntmps116
  go_wp2
  go_loopw [4] (fun i wr => ∃ k : Nat, k ≤ n ∧ i = .int .i64 k ∧ Grid wr w.heap.size 3 1 n k rows ∧ Below w.heap.size w wr) (fun i _ => n - (intOf i).toNat)
  case atStart => exact ⟨0, Nat.zero_le _, rfl, by have := Grid.new w 3 1 n #[.int .i64 0] rows; rw [Nat.mul_one] at this; exact this, (Below.refl _ _).alloc (Nat.le_refl _) _⟩
  case round =>
    obtain ⟨k, hk, rfl, ho, hb⟩ := hrel
    clear hmk
    by_cases hlt : k < n
    · obtain ⟨r, hr⟩ : ∃ r, rows[k]? = some r := ⟨_, List.getElem?_eq_getElem (by rw [← Hn.out]; exact hlt)⟩
      obtain ⟨z, rfl⟩ := h r (List.mem_of_getElem? hr)
      have hX := Hx.out.frame (below_sameAll hb _)
      obtain ⟨ba, oa, rfl⟩ := hX.ba hr
      obtain ⟨u0, c0, d0⟩ := hX.row hr 0 rfl (o := oa + k) (by omega)
      have Hr := hid hr; clear hr hX
      obtain rfl : u0 = .int .i64 z := by cases d0; rfl
      have f0 := ho.frozen k
      obtain ⟨z0, e0⟩ := ho.cell (o := k) (by omega)
      clear d0
      go_wp2_with fail
      exact ⟨⟨k + 1, by omega, rfl, by have := ho.store (vs := [.int .i64 z]) Hr.out hlt rfl (fun r hr => by obtain ⟨_, rfl⟩ := h r hr; rfl) ⟨rfl, all1 (DrN.val (.int .i64 z) rfl)⟩; rw [Nat.mul_one] at this; exact this, setRow_below [.int .i64 z] _ _ hb (Nat.le_refl _)⟩, by simp [intOf]; omega⟩
    · have : k = n := by omega
      subst this
      go_wp2
      go_ret
      exact ⟨_, rfl, hb, by have := ho; rw [Hn.out] at this ⊢; exact this.done rfl (by have := Hn.out; omega) (fun r hr => by obtain ⟨_, rfl⟩ := h r hr; rfl)⟩
set_option maxHeartbeats 3200000 in
theorem toArrayS_c {rows : List (List D)} (h : ∀ r ∈ rows, ∃ x0 x1, r = [x0, x1] ∧ CopyS Tryz.prog 74 [x0, x1]) (hl : rows.length ≤ 1048576) : CopyC Tryz.prog 36 (.list 2 rows) := by
  intro B w v hx
  obtain ⟨ad, cap, rfl, _⟩ := hx.slice
  obtain ⟨n, hn⟩ : ∃ n, n = rows.length := ⟨_, rfl⟩
  rw [← hn] at hl hx ⊢
  have Hn := hid hn; clear hn
  have Hx := hid hx; clear hx
  have hmk := info_make Tryz.underlying28 Tryz.infoCArray n (by omega) hl
  go_enter Tryz.func36, Tryz.ntmps36
  go_wp2
  go_loopw [4] (fun i wr => ∃ k : Nat, k ≤ n ∧ i = .int .i64 k ∧ Grid wr w.heap.size 78 2 n k rows ∧ Below w.heap.size w wr) (fun i _ => n - (intOf i).toNat)
  case atStart => exact ⟨0, Nat.zero_le _, rfl, Grid.new w 78 2 n _ rows, (Below.refl _ _).alloc (Nat.le_refl _) _⟩
  case round =>
    obtain ⟨k, hk, rfl, ho, hb⟩ := hrel
    clear hmk
    by_cases hlt : k < n
    · obtain ⟨r, hr⟩ : ∃ r, rows[k]? = some r := ⟨_, List.getElem?_eq_getElem (by rw [← Hn.out]; exact hlt)⟩
      obtain ⟨x0, x1, rfl, q⟩ := h r (List.mem_of_getElem? hr)
      have hX := Hx.out.frame (below_sameAll hb _)
      obtain ⟨ba, oa, rfl⟩ := hX.ba hr
      obtain ⟨u0, c0, d0⟩ := hX.row hr 0 rfl (o := oa + k * 2) (by omega)
      obtain ⟨u1, c1, d1⟩ := hX.row hr 1 rfl (o := oa + k * 2 + 1) (by omega)
      have Hr := hid hr; clear hr hX
      go_wp2_with fail
      refine (q B _ [u0, u1] rfl (all2 d0 d1)).mono ?_
      rintro e w1 ⟨vs, rfl, b1, hv⟩
      have Hv := hid hv
      have hv0 := hv.1
      obtain ⟨y0, l0, rfl, hv1⟩ := len_cons hv0
      obtain ⟨y1, l1, rfl, hv2⟩ := len_cons hv1
      obtain rfl := len_zero hv2
      have o1 := ho.fwd b1
      have f0 := o1.frozen (k * 2)
      obtain ⟨z0, e0⟩ := o1.cell (o := k * 2) (by omega)
      have f1 := o1.frozen (k * 2 + 1)
      obtain ⟨z1, e1⟩ := o1.cell (o := k * 2 + 1) (by omega)
      have p0 := fun a m w => run_store Tryz.prog w a y0 m (hv.2 0 _ _ rfl rfl).one
      have p1 := fun a m w => run_store Tryz.prog w a y1 m (hv.2 1 _ _ rfl rfl).one
      clear hv hv0 hv1 hv2
      go_wp2_with fail
      exact ⟨⟨k + 1, by omega, rfl, o1.store (vs := [y0, y1]) Hr.out hlt rfl (fun r hr => by obtain ⟨_, _, rfl, _⟩ := h r hr; rfl) (Hv.out.mono ho.lt), setRow_below [y0, y1] _ _ (hb.trans (b1.mono hb.size)) (Nat.le_refl _)⟩, by simp [intOf]; omega⟩
    · have : k = n := by omega
      subst this
      go_wp2
      go_ret
      exact ⟨_, rfl, hb, by have := ho; rw [Hn.out] at this ⊢; exact this.done rfl (by have := Hn.out; omega) (fun r hr => by obtain ⟨_, _, rfl, _⟩ := h r hr; rfl)⟩
set_option maxHeartbeats 3200000 in
theorem toAffineS_c {rows : List (List D)} (h : ∀ r ∈ rows, ∃ x0 x1, r = [x0, x1] ∧ CopyS Tryz.prog 235 [x0, x1]) (hl : rows.length ≤ 1048576) : CopyC Tryz.prog 202 (.list 2 rows) := by
  intro B w v hx
  obtain ⟨ad, cap, rfl, _⟩ := hx.slice
  obtain ⟨n, hn⟩ : ∃ n, n = rows.length := ⟨_, rfl⟩
  rw [← hn] at hl hx ⊢
  have Hn := hid hn; clear hn
  have Hx := hid hx; clear hx
  have hmk := info_make Tryz.underlying87 Tryz.infoCAffine n (by omega) hl
  go_enter Tryz.func202, Tryz.ntmps202
  go_wp2
  go_loopw [4] (fun i wr => ∃ k : Nat, k ≤ n ∧ i = .int .i64 k ∧ Grid wr w.heap.size 91 2 n k rows ∧ Below w.heap.size w wr) (fun i _ => n - (intOf i).toNat)
  case atStart => exact ⟨0, Nat.zero_le _, rfl, Grid.new w 91 2 n _ rows, (Below.refl _ _).alloc (Nat.le_refl _) _⟩
  case round =>
    obtain ⟨k, hk, rfl, ho, hb⟩ := hrel
    clear hmk
    by_cases hlt : k < n
    · obtain ⟨r, hr⟩ : ∃ r, rows[k]? = some r := ⟨_, List.getElem?_eq_getElem (by rw [← Hn.out]; exact hlt)⟩
      obtain ⟨x0, x1, rfl, q⟩ := h r (List.mem_of_getElem? hr)
      have hX := Hx.out.frame (below_sameAll hb _)
      obtain ⟨ba, oa, rfl⟩ := hX.ba hr
      obtain ⟨u0, c0, d0⟩ := hX.row hr 0 rfl (o := oa + k * 2) (by omega)
      obtain ⟨u1, c1, d1⟩ := hX.row hr 1 rfl (o := oa + k * 2 + 1) (by omega)
      have Hr := hid hr; clear hr hX
      go_wp2_with fail
      refine (q B _ [u0, u1] rfl (all2 d0 d1)).mono ?_
      rintro e w1 ⟨vs, rfl, b1, hv⟩
      have Hv := hid hv
      have hv0 := hv.1
      obtain ⟨y0, l0, rfl, hv1⟩ := len_cons hv0
      obtain ⟨y1, l1, rfl, hv2⟩ := len_cons hv1
      obtain rfl := len_zero hv2
      have o1 := ho.fwd b1
      have f0 := o1.frozen (k * 2)
      obtain ⟨z0, e0⟩ := o1.cell (o := k * 2) (by omega)
      have f1 := o1.frozen (k * 2 + 1)
      obtain ⟨z1, e1⟩ := o1.cell (o := k * 2 + 1) (by omega)
      have p0 := fun a m w => run_store Tryz.prog w a y0 m (hv.2 0 _ _ rfl rfl).one
      have p1 := fun a m w => run_store Tryz.prog w a y1 m (hv.2 1 _ _ rfl rfl).one
      clear hv hv0 hv1 hv2
      go_wp2_with fail
      exact ⟨⟨k + 1, by omega, rfl, o1.store (vs := [y0, y1]) Hr.out hlt rfl (fun r hr => by obtain ⟨_, _, rfl, _⟩ := h r hr; rfl) (Hv.out.mono ho.lt), setRow_below [y0, y1] _ _ (hb.trans (b1.mono hb.size)) (Nat.le_refl _)⟩, by simp [intOf]; omega⟩
    · have : k = n := by omega
      subst this
      go_wp2
      go_ret
      exact ⟨_, rfl, hb, by have := ho; rw [Hn.out] at this ⊢; exact this.done rfl (by have := Hn.out; omega) (fun r hr => by obtain ⟨_, _, rfl, _⟩ := h r hr; rfl)⟩
set_option maxHeartbeats 3200000 in
theorem toLoopS_c {rows : List (List D)} (h : ∀ r ∈ rows, ∃ x0 x1, r = [x0, x1] ∧ CopyS Tryz.prog 163 [x0, x1]) (hl : rows.length ≤ 1048576) : CopyC Tryz.prog 117 (.list 2 rows) := by
  intro B w v hx
  obtain ⟨ad, cap, rfl, _⟩ := hx.slice
  obtain ⟨n, hn⟩ : ∃ n, n = rows.length := ⟨_, rfl⟩
  rw [← hn] at hl hx ⊢
  have Hn := hid hn; clear hn
  have Hx := hid hx; clear hx
  have hmk := info_make Tryz.underlying101 Tryz.infoCLoop n (by omega) hl
  go_enter Tryz.func117, Tryz.ntmps117
  go_wp2
  go_loopw [4] (fun i wr => ∃ k : Nat, k ≤ n ∧ i = .int .i64 k ∧ Grid wr w.heap.size 172 2 n k rows ∧ Below w.heap.size w wr) (fun i _ => n - (intOf i).toNat)
  case atStart => exact ⟨0, Nat.zero_le _, rfl, Grid.new w 172 2 n _ rows, (Below.refl _ _).alloc (Nat.le_refl _) _⟩
  case round =>
    obtain ⟨k, hk, rfl, ho, hb⟩ := hrel
    clear hmk
    by_cases hlt : k < n
    · obtain ⟨r, hr⟩ : ∃ r, rows[k]? = some r := ⟨_, List.getElem?_eq_getElem (by rw [← Hn.out]; exact hlt)⟩
      obtain ⟨x0, x1, rfl, q⟩ := h r (List.mem_of_getElem? hr)
      have hX := Hx.out.frame (below_sameAll hb _)
      obtain ⟨ba, oa, rfl⟩ := hX.ba hr
      obtain ⟨u0, c0, d0⟩ := hX.row hr 0 rfl (o := oa + k * 2) (by omega)
      obtain ⟨u1, c1, d1⟩ := hX.row hr 1 rfl (o := oa + k * 2 + 1) (by omega)
      have Hr := hid hr; clear hr hX
      go_wp2_with fail
      refine (q B _ [u0, u1] rfl (all2 d0 d1)).mono ?_
      rintro e w1 ⟨vs, rfl, b1, hv⟩
      have Hv := hid hv
      have hv0 := hv.1
      obtain ⟨y0, l0, rfl, hv1⟩ := len_cons hv0
      obtain ⟨y1, l1, rfl, hv2⟩ := len_cons hv1
      obtain rfl := len_zero hv2
      have o1 := ho.fwd b1
      have f0 := o1.frozen (k * 2)
      obtain ⟨z0, e0⟩ := o1.cell (o := k * 2) (by omega)
      have f1 := o1.frozen (k * 2 + 1)
      obtain ⟨z1, e1⟩ := o1.cell (o := k * 2 + 1) (by omega)
      have p0 := fun a m w => run_store Tryz.prog w a y0 m (hv.2 0 _ _ rfl rfl).one
      have p1 := fun a m w => run_store Tryz.prog w a y1 m (hv.2 1 _ _ rfl rfl).one
      clear hv hv0 hv1 hv2
      go_wp2_with fail
      exact ⟨⟨k + 1, by omega, rfl, o1.store (vs := [y0, y1]) Hr.out hlt rfl (fun r hr => by obtain ⟨_, _, rfl, _⟩ := h r hr; rfl) (Hv.out.mono ho.lt), setRow_below [y0, y1] _ _ (hb.trans (b1.mono hb.size)) (Nat.le_refl _)⟩, by simp [intOf]; omega⟩
    · have : k = n := by omega
      subst this
      go_wp2
      go_ret
      exact ⟨_, rfl, hb, by have := ho; rw [Hn.out] at this ⊢; exact this.done rfl (by have := Hn.out; omega) (fun r hr => by obtain ⟨_, _, rfl, _⟩ := h r hr; rfl)⟩
set_option maxHeartbeats 3200000 in
theorem toExprS_c {rows : List (List D)} (h : ∀ r ∈ rows, ∃ x0 x1 x2 x3 x4 x5 x6, r = [x0, x1, x2, x3, x4, x5, x6] ∧ CopyS Tryz.prog 204 [x0, x1, x2, x3, x4, x5, x6]) (hl : rows.length ≤ 1048576) : CopyC Tryz.prog 236 (.list 7 rows) := by
  intro B w v hx
  obtain ⟨ad, cap, rfl, _⟩ := hx.slice
  obtain ⟨n, hn⟩ : ∃ n, n = rows.length := ⟨_, rfl⟩
  rw [← hn] at hl hx ⊢
  have Hn := hid hn; clear hn
  have Hx := hid hx; clear hx
  have hmk := info_make Tryz.underlying92 Tryz.infoCExpr n (by omega) hl
  go_enter Tryz.func236, Tryz.ntmps236
  go_wp2
  go_loopw [4] (fun i wr => ∃ k : Nat, k ≤ n ∧ i = .int .i64 k ∧ Grid wr w.heap.size 94 7 n k rows ∧ Below w.heap.size w wr) (fun i _ => n - (intOf i).toNat)
  case atStart => exact ⟨0, Nat.zero_le _, rfl, Grid.new w 94 7 n _ rows, (Below.refl _ _).alloc (Nat.le_refl _) _⟩
  case round =>
    obtain ⟨k, hk, rfl, ho, hb⟩ := hrel
    clear hmk
    by_cases hlt : k < n
    · obtain ⟨r, hr⟩ : ∃ r, rows[k]? = some r := ⟨_, List.getElem?_eq_getElem (by rw [← Hn.out]; exact hlt)⟩
      obtain ⟨x0, x1, x2, x3, x4, x5, x6, rfl, q⟩ := h r (List.mem_of_getElem? hr)
      have hX := Hx.out.frame (below_sameAll hb _)
      obtain ⟨ba, oa, rfl⟩ := hX.ba hr
      obtain ⟨u0, c0, d0⟩ := hX.row hr 0 rfl (o := oa + k * 7) (by omega)
      obtain ⟨u1, c1, d1⟩ := hX.row hr 1 rfl (o := oa + k * 7 + 1) (by omega)
      obtain ⟨u2, c2, d2⟩ := hX.row hr 2 rfl (o := oa + k * 7 + 2) (by omega)
      obtain ⟨u3, c3, d3⟩ := hX.row hr 3 rfl (o := oa + k * 7 + 3) (by omega)
      obtain ⟨u4, c4, d4⟩ := hX.row hr 4 rfl (o := oa + k * 7 + 4) (by omega)
      obtain ⟨u5, c5, d5⟩ := hX.row hr 5 rfl (o := oa + k * 7 + 5) (by omega)
      obtain ⟨u6, c6, d6⟩ := hX.row hr 6 rfl (o := oa + k * 7 + 6) (by omega)
      have Hr := hid hr; clear hr hX
      go_wp2_with fail
      refine (q B _ [u0, u1, u2, u3, u4, u5, u6] rfl (all7 d0 d1 d2 d3 d4 d5 d6)).mono ?_
      rintro e w1 ⟨vs, rfl, b1, hv⟩
      have Hv := hid hv
      have hv0 := hv.1
      obtain ⟨y0, l0, rfl, hv1⟩ := len_cons hv0
      obtain ⟨y1, l1, rfl, hv2⟩ := len_cons hv1
      obtain ⟨y2, l2, rfl, hv3⟩ := len_cons hv2
      obtain ⟨y3, l3, rfl, hv4⟩ := len_cons hv3
      obtain ⟨y4, l4, rfl, hv5⟩ := len_cons hv4
      obtain ⟨y5, l5, rfl, hv6⟩ := len_cons hv5
      obtain ⟨y6, l6, rfl, hv7⟩ := len_cons hv6
      obtain rfl := len_zero hv7
      have o1 := ho.fwd b1
      have f0 := o1.frozen (k * 7)
      obtain ⟨z0, e0⟩ := o1.cell (o := k * 7) (by omega)
      have f1 := o1.frozen (k * 7 + 1)
      obtain ⟨z1, e1⟩ := o1.cell (o := k * 7 + 1) (by omega)
      have f2 := o1.frozen (k * 7 + 2)
      obtain ⟨z2, e2⟩ := o1.cell (o := k * 7 + 2) (by omega)
      have f3 := o1.frozen (k * 7 + 3)
      obtain ⟨z3, e3⟩ := o1.cell (o := k * 7 + 3) (by omega)
      have f4 := o1.frozen (k * 7 + 4)
      obtain ⟨z4, e4⟩ := o1.cell (o := k * 7 + 4) (by omega)
      have f5 := o1.frozen (k * 7 + 5)
      obtain ⟨z5, e5⟩ := o1.cell (o := k * 7 + 5) (by omega)
      have f6 := o1.frozen (k * 7 + 6)
      obtain ⟨z6, e6⟩ := o1.cell (o := k * 7 + 6) (by omega)
      have p0 := fun a m w => run_store Tryz.prog w a y0 m (hv.2 0 _ _ rfl rfl).one
      have p1 := fun a m w => run_store Tryz.prog w a y1 m (hv.2 1 _ _ rfl rfl).one
      have p2 := fun a m w => run_store Tryz.prog w a y2 m (hv.2 2 _ _ rfl rfl).one
      have p3 := fun a m w => run_store Tryz.prog w a y3 m (hv.2 3 _ _ rfl rfl).one
      have p4 := fun a m w => run_store Tryz.prog w a y4 m (hv.2 4 _ _ rfl rfl).one
      have p5 := fun a m w => run_store Tryz.prog w a y5 m (hv.2 5 _ _ rfl rfl).one
      have p6 := fun a m w => run_store Tryz.prog w a y6 m (hv.2 6 _ _ rfl rfl).one
      clear hv hv0 hv1 hv2 hv3 hv4 hv5 hv6 hv7
      go_wp2_with fail
      exact ⟨⟨k + 1, by omega, rfl, o1.store (vs := [y0, y1, y2, y3, y4, y5, y6]) Hr.out hlt rfl (fun r hr => by obtain ⟨_, _, _, _, _, _, _, rfl, _⟩ := h r hr; rfl) (Hv.out.mono ho.lt), setRow_below [y0, y1, y2, y3, y4, y5, y6] _ _ (hb.trans (b1.mono hb.size)) (Nat.le_refl _)⟩, by simp [intOf]; omega⟩
    · have : k = n := by omega
      subst this
      go_wp2
      go_ret
      exact ⟨_, rfl, hb, by have := ho; rw [Hn.out] at this ⊢; exact this.done rfl (by have := Hn.out; omega) (fun r hr => by obtain ⟨_, _, _, _, _, _, _, rfl, _⟩ := h r hr; rfl)⟩
set_option maxHeartbeats 3200000 in
theorem toStmtS_c {rows : List (List D)} (h : ∀ r ∈ rows, ∃ x0 x1 x2 x3 x4 x5 x6 x7 x8, r = [x0, x1, x2, x3, x4, x5, x6, x7, x8] ∧ CopyS Tryz.prog 164 [x0, x1, x2, x3, x4, x5, x6, x7, x8]) (hl : rows.length ≤ 1048576) : CopyC Tryz.prog 118 (.list 9 rows) := by
  intro B w v hx
  obtain ⟨ad, cap, rfl, _⟩ := hx.slice
  obtain ⟨n, hn⟩ : ∃ n, n = rows.length := ⟨_, rfl⟩
  rw [← hn] at hl hx ⊢
  have Hn := hid hn; clear hn
  have Hx := hid hx; clear hx
  have hmk := info_make Tryz.underlying102 Tryz.infoCStmt n (by omega) hl
  go_enter Tryz.func118, Tryz.ntmps118
  go_wp2
  go_loopw [4] (fun i wr => ∃ k : Nat, k ≤ n ∧ i = .int .i64 k ∧ Grid wr w.heap.size 96 9 n k rows ∧ Below w.heap.size w wr) (fun i _ => n - (intOf i).toNat)
  case atStart => exact ⟨0, Nat.zero_le _, rfl, Grid.new w 96 9 n _ rows, (Below.refl _ _).alloc (Nat.le_refl _) _⟩
  case round =>
    obtain ⟨k, hk, rfl, ho, hb⟩ := hrel
    clear hmk
    by_cases hlt : k < n
    · obtain ⟨r, hr⟩ : ∃ r, rows[k]? = some r := ⟨_, List.getElem?_eq_getElem (by rw [← Hn.out]; exact hlt)⟩
      obtain ⟨x0, x1, x2, x3, x4, x5, x6, x7, x8, rfl, q⟩ := h r (List.mem_of_getElem? hr)
      have hX := Hx.out.frame (below_sameAll hb _)
      obtain ⟨ba, oa, rfl⟩ := hX.ba hr
      obtain ⟨u0, c0, d0⟩ := hX.row hr 0 rfl (o := oa + k * 9) (by omega)
      obtain ⟨u1, c1, d1⟩ := hX.row hr 1 rfl (o := oa + k * 9 + 1) (by omega)
      obtain ⟨u2, c2, d2⟩ := hX.row hr 2 rfl (o := oa + k * 9 + 2) (by omega)
      obtain ⟨u3, c3, d3⟩ := hX.row hr 3 rfl (o := oa + k * 9 + 3) (by omega)
      obtain ⟨u4, c4, d4⟩ := hX.row hr 4 rfl (o := oa + k * 9 + 4) (by omega)
      obtain ⟨u5, c5, d5⟩ := hX.row hr 5 rfl (o := oa + k * 9 + 5) (by omega)
      obtain ⟨u6, c6, d6⟩ := hX.row hr 6 rfl (o := oa + k * 9 + 6) (by omega)
      obtain ⟨u7, c7, d7⟩ := hX.row hr 7 rfl (o := oa + k * 9 + 7) (by omega)
      obtain ⟨u8, c8, d8⟩ := hX.row hr 8 rfl (o := oa + k * 9 + 8) (by omega)
      have Hr := hid hr; clear hr hX
      go_wp2_with fail
      refine (q B _ [u0, u1, u2, u3, u4, u5, u6, u7, u8] rfl (all9 d0 d1 d2 d3 d4 d5 d6 d7 d8)).mono ?_
      rintro e w1 ⟨vs, rfl, b1, hv⟩
      have Hv := hid hv
      have hv0 := hv.1
      obtain ⟨y0, l0, rfl, hv1⟩ := len_cons hv0
      obtain ⟨y1, l1, rfl, hv2⟩ := len_cons hv1
      obtain ⟨y2, l2, rfl, hv3⟩ := len_cons hv2
      obtain ⟨y3, l3, rfl, hv4⟩ := len_cons hv3
      obtain ⟨y4, l4, rfl, hv5⟩ := len_cons hv4
      obtain ⟨y5, l5, rfl, hv6⟩ := len_cons hv5
      obtain ⟨y6, l6, rfl, hv7⟩ := len_cons hv6
      obtain ⟨y7, l7, rfl, hv8⟩ := len_cons hv7
      obtain ⟨y8, l8, rfl, hv9⟩ := len_cons hv8
      obtain rfl := len_zero hv9
      have o1 := ho.fwd b1
      have f0 := o1.frozen (k * 9)
      obtain ⟨z0, e0⟩ := o1.cell (o := k * 9) (by omega)
      have f1 := o1.frozen (k * 9 + 1)
      obtain ⟨z1, e1⟩ := o1.cell (o := k * 9 + 1) (by omega)
      have f2 := o1.frozen (k * 9 + 2)
      obtain ⟨z2, e2⟩ := o1.cell (o := k * 9 + 2) (by omega)
      have f3 := o1.frozen (k * 9 + 3)
      obtain ⟨z3, e3⟩ := o1.cell (o := k * 9 + 3) (by omega)
      have f4 := o1.frozen (k * 9 + 4)
      obtain ⟨z4, e4⟩ := o1.cell (o := k * 9 + 4) (by omega)
      have f5 := o1.frozen (k * 9 + 5)
      obtain ⟨z5, e5⟩ := o1.cell (o := k * 9 + 5) (by omega)
      have f6 := o1.frozen (k * 9 + 6)
      obtain ⟨z6, e6⟩ := o1.cell (o := k * 9 + 6) (by omega)
      have f7 := o1.frozen (k * 9 + 7)
      obtain ⟨z7, e7⟩ := o1.cell (o := k * 9 + 7) (by omega)
      have f8 := o1.frozen (k * 9 + 8)
      obtain ⟨z8, e8⟩ := o1.cell (o := k * 9 + 8) (by omega)
      have p0 := fun a m w => run_store Tryz.prog w a y0 m (hv.2 0 _ _ rfl rfl).one
      have p1 := fun a m w => run_store Tryz.prog w a y1 m (hv.2 1 _ _ rfl rfl).one
      have p2 := fun a m w => run_store Tryz.prog w a y2 m (hv.2 2 _ _ rfl rfl).one
      have p3 := fun a m w => run_store Tryz.prog w a y3 m (hv.2 3 _ _ rfl rfl).one
      have p4 := fun a m w => run_store Tryz.prog w a y4 m (hv.2 4 _ _ rfl rfl).one
      have p5 := fun a m w => run_store Tryz.prog w a y5 m (hv.2 5 _ _ rfl rfl).one
      have p6 := fun a m w => run_store Tryz.prog w a y6 m (hv.2 6 _ _ rfl rfl).one
      have p7 := fun a m w => run_store Tryz.prog w a y7 m (hv.2 7 _ _ rfl rfl).one
      have p8 := fun a m w => run_store Tryz.prog w a y8 m (hv.2 8 _ _ rfl rfl).one
      clear hv hv0 hv1 hv2 hv3 hv4 hv5 hv6 hv7 hv8 hv9
      go_wp2_with fail
      exact ⟨⟨k + 1, by omega, rfl, o1.store (vs := [y0, y1, y2, y3, y4, y5, y6, y7, y8]) Hr.out hlt rfl (fun r hr => by obtain ⟨_, _, _, _, _, _, _, _, _, rfl, _⟩ := h r hr; rfl) (Hv.out.mono ho.lt), setRow_below [y0, y1, y2, y3, y4, y5, y6, y7, y8] _ _ (hb.trans (b1.mono hb.size)) (Nat.le_refl _)⟩, by simp [intOf]; omega⟩
    · have : k = n := by omega
      subst this
      go_wp2
      go_ret
      exact ⟨_, rfl, hb, by have := ho; rw [Hn.out] at this ⊢; exact this.done rfl (by have := Hn.out; omega) (fun r hr => by obtain ⟨_, _, _, _, _, _, _, _, _, rfl, _⟩ := h r hr; rfl)⟩
set_option maxHeartbeats 3200000 in
theorem toPartS_c {rows : List (List D)} (h : ∀ r ∈ rows, ∃ x0 x1, r = [x0, x1] ∧ CopyS Tryz.prog 75 [x0, x1]) (hl : rows.length ≤ 1048576) : CopyC Tryz.prog 37 (.list 2 rows) := by
  intro B w v hx
  obtain ⟨ad, cap, rfl, _⟩ := hx.slice
  obtain ⟨n, hn⟩ : ∃ n, n = rows.length := ⟨_, rfl⟩
  rw [← hn] at hl hx ⊢
  have Hn := hid hn; clear hn
  have Hx := hid hx; clear hx
  have hmk := info_make Tryz.underlying29 Tryz.infoCPart n (by omega) hl
  go_enter Tryz.func37, Tryz.ntmps37
  go_wp2
  go_loopw [4] (fun i wr => ∃ k : Nat, k ≤ n ∧ i = .int .i64 k ∧ Grid wr w.heap.size 104 2 n k rows ∧ Below w.heap.size w wr) (fun i _ => n - (intOf i).toNat)
  case atStart => exact ⟨0, Nat.zero_le _, rfl, Grid.new w 104 2 n _ rows, (Below.refl _ _).alloc (Nat.le_refl _) _⟩
  case round =>
    obtain ⟨k, hk, rfl, ho, hb⟩ := hrel
    clear hmk
    by_cases hlt : k < n
    · obtain ⟨r, hr⟩ : ∃ r, rows[k]? = some r := ⟨_, List.getElem?_eq_getElem (by rw [← Hn.out]; exact hlt)⟩
      obtain ⟨x0, x1, rfl, q⟩ := h r (List.mem_of_getElem? hr)
      have hX := Hx.out.frame (below_sameAll hb _)
      obtain ⟨ba, oa, rfl⟩ := hX.ba hr
      obtain ⟨u0, c0, d0⟩ := hX.row hr 0 rfl (o := oa + k * 2) (by omega)
      obtain ⟨u1, c1, d1⟩ := hX.row hr 1 rfl (o := oa + k * 2 + 1) (by omega)
      have Hr := hid hr; clear hr hX
      go_wp2_with fail
      refine (q B _ [u0, u1] rfl (all2 d0 d1)).mono ?_
      rintro e w1 ⟨vs, rfl, b1, hv⟩
      have Hv := hid hv
      have hv0 := hv.1
      obtain ⟨y0, l0, rfl, hv1⟩ := len_cons hv0
      obtain ⟨y1, l1, rfl, hv2⟩ := len_cons hv1
      obtain rfl := len_zero hv2
      have o1 := ho.fwd b1
      have f0 := o1.frozen (k * 2)
      obtain ⟨z0, e0⟩ := o1.cell (o := k * 2) (by omega)
      have f1 := o1.frozen (k * 2 + 1)
      obtain ⟨z1, e1⟩ := o1.cell (o := k * 2 + 1) (by omega)
      have p0 := fun a m w => run_store Tryz.prog w a y0 m (hv.2 0 _ _ rfl rfl).one
      have p1 := fun a m w => run_store Tryz.prog w a y1 m (hv.2 1 _ _ rfl rfl).one
      clear hv hv0 hv1 hv2
      go_wp2_with fail
      exact ⟨⟨k + 1, by omega, rfl, o1.store (vs := [y0, y1]) Hr.out hlt rfl (fun r hr => by obtain ⟨_, _, rfl, _⟩ := h r hr; rfl) (Hv.out.mono ho.lt), setRow_below [y0, y1] _ _ (hb.trans (b1.mono hb.size)) (Nat.le_refl _)⟩, by simp [intOf]; omega⟩
    · have : k = n := by omega
      subst this
      go_wp2
      go_ret
      exact ⟨_, rfl, hb, by have := ho; rw [Hn.out] at this ⊢; exact this.done rfl (by have := Hn.out; omega) (fun r hr => by obtain ⟨_, _, rfl, _⟩ := h r hr; rfl)⟩
set_option maxHeartbeats 3200000 in
theorem toArray_c {c0 : ByteArray} {sz1 : Nat} {x1 : List (List D)} (q1 : CopyC Tryz.prog 116 (.list sz1 x1)) : CopyS Tryz.prog 74 [.val (.string c0), .list sz1 x1] := by
  intro B w vs hl hx
  obtain ⟨u0, l0, rfl, hl0⟩ := len_cons hl
  obtain ⟨u1, l1, rfl, hl1⟩ := len_cons hl0
  obtain rfl := len_zero hl1
  have d0 := hx 0 _ _ rfl rfl
  obtain rfl : u0 = .string c0 := by cases d0; rfl
  clear d0
  have D1 := hid (hx 1 _ _ rfl rfl)
  clear hx hl hl0 hl1
  have R := R3.start w [.string c0, u1] [.string ⟨#[]⟩, .slice none 0 0] [.string c0, .slice none 0 0] 109 78
  have W := (((Below.refl w.heap.size w).alloc (Nat.le_refl _) (.cells [.string c0, u1].toArray 109)).alloc (by simp) (.cells [.string ⟨#[]⟩, .slice none 0 0].toArray 78)).alloc (by simp; omega) (.cells [.string c0, .slice none 0 0].toArray 78)
  have HR := hid R; have HW := hid W; clear R W
  go_enter Tryz.func74, Tryz.ntmps74
  go_wp2_with fail
  refine (q1 B _ _ (D1.out.frame (below_sameAll HW.out _))).mono ?_
  rintro e w1 ⟨y1, rfl, b1, n1⟩
  obtain ⟨ad1, cap1, rfl, _⟩ := n1.dr.slice
  obtain ⟨ln1, hln1⟩ : ∃ n, n = x1.length := ⟨_, rfl⟩
  rw [← hln1] at n1 ⊢; clear hln1
  have lo1 : w.heap.size + 1 + 1 + 1 ≤ _ := blk_lt HR.out.c
  have n1 := n1.mono lo1
  have N1 := hid n1; clear n1
  have RR1 := (HR.out).fwd b1
  have WW1 := (HW.out).trans (b1.mono (HW.out).size)
  have HRR1 := hid RR1; have HWW1 := hid WW1; clear RR1 WW1 lo1
  have b1_0 := HRR1.out.c3 0 rfl
  have g1_0 := HRR1.out.f3 0
  have e1_0 := HRR1.out.c2 0 rfl
  have h1_0 := HRR1.out.f2 0
  have b1_1 := HRR1.out.c3 1 rfl
  have g1_1 := HRR1.out.f3 1
  have e1_1 := HRR1.out.c2 1 rfl
  have h1_1 := HRR1.out.f2 1
  go_wp2_with fail
  have R1 : R3 _ w.heap.size [.string c0, u1] [.string ⟨#[]⟩, .slice none 0 0] [.string c0, .slice ad1 ln1 cap1] 109 78 := (HRR1.out).set 1 (.slice ad1 ln1 cap1)
  have W1 := (HWW1.out).setCell (p := ⟨w.heap.size + 1 + 1, 1, none⟩) (by show w.heap.size ≤ w.heap.size + 1 + 1; omega) (.slice ad1 ln1 cap1)
  have HR1 := hid R1; have HW1 := hid W1; clear R1 W1
  have P1_0 := (Past.refl (w.heap.size + 1 + 1 + 1) w1).set (b := w.heap.size + 1 + 1) (by omega) 1 (.slice ad1 ln1 cap1)
  have RB0 : R3 _ w.heap.size [.string c0, u1] [.string c0, .slice none 0 0] [.string c0, .slice ad1 ln1 cap1] 109 78 := (HR1.out).setb 0 (.string c0)
  have RB1 : R3 _ w.heap.size [.string c0, u1] [.string c0, .slice ad1 ln1 cap1] [.string c0, .slice ad1 ln1 cap1] 109 78 := RB0.setb 1 (.slice ad1 ln1 cap1)
  have pp0 := RB1.c2 0 rfl
  have pp1 := RB1.c2 1 rfl
  refine bodyPost_ret (v := .agg #[.string c0, .slice ad1 ln1 cap1]) (by simp [results, Tryz.results74, go_sem, pp0, pp1]) rfl ?_
  have Z := setRow_below (g := w.heap.size + 1) [.string c0, .slice ad1 ln1 cap1] 0 _ (HW1.out) (by omega)
  have Y0 := ((P1_0.set (b := w.heap.size + 1) (by omega) 0 (.string c0)).set (b := w.heap.size + 1) (by omega) 1 (.slice ad1 ln1 cap1))
  exact ⟨[.string c0, .slice ad1 ln1 cap1], rfl, Z, rfl, all2 (DrN.val (.string c0) rfl) ((N1.out.past (Nat.le_refl _) Y0).mono (by omega))⟩
set_option maxHeartbeats 3200000 in
theorem toAffine_c {sz0 : Nat} {x0 : List (List D)} (q0 : CopyC Tryz.prog 116 (.list sz0 x0)) {c1 : Int} : CopyS Tryz.prog 235 [.list sz0 x0, .val (.int .i64 c1)] := by
  intro B w vs hl hx
  obtain ⟨u0, l0, rfl, hl0⟩ := len_cons hl
  obtain ⟨u1, l1, rfl, hl1⟩ := len_cons hl0
  obtain rfl := len_zero hl1
  have D0 := hid (hx 0 _ _ rfl rfl)
  have d1 := hx 1 _ _ rfl rfl
  obtain rfl : u1 = .int .i64 c1 := by cases d1; rfl
  clear d1
  clear hx hl hl0 hl1
  have R := R3.start w [u0, .int .i64 c1] [.slice none 0 0, .int .i64 0] [.slice none 0 0, .int .i64 0] 201 91
  have W := (((Below.refl w.heap.size w).alloc (Nat.le_refl _) (.cells [u0, .int .i64 c1].toArray 201)).alloc (by simp) (.cells [.slice none 0 0, .int .i64 0].toArray 91)).alloc (by simp; omega) (.cells [.slice none 0 0, .int .i64 0].toArray 91)
  have HR := hid R; have HW := hid W; clear R W
  go_enter Tryz.func235, Tryz.ntmps235
  go_wp2_with fail
  refine (q0 B _ _ (D0.out.frame (below_sameAll HW.out _))).mono ?_
  rintro e w1 ⟨y0, rfl, b1, n0⟩
  obtain ⟨ad0, cap0, rfl, _⟩ := n0.dr.slice
  obtain ⟨ln0, hln0⟩ : ∃ n, n = x0.length := ⟨_, rfl⟩
  rw [← hln0] at n0 ⊢; clear hln0
  have lo1 : w.heap.size + 1 + 1 + 1 ≤ _ := blk_lt HR.out.c
  have n0 := n0.mono lo1
  have N0 := hid n0; clear n0
  have RR1 := (HR.out).fwd b1
  have WW1 := (HW.out).trans (b1.mono (HW.out).size)
  have HRR1 := hid RR1; have HWW1 := hid WW1; clear RR1 WW1 lo1
  have a1_1 := HRR1.out.c1 1 rfl
  have b1_0 := HRR1.out.c3 0 rfl
  have g1_0 := HRR1.out.f3 0
  have e1_0 := HRR1.out.c2 0 rfl
  have h1_0 := HRR1.out.f2 0
  have b1_1 := HRR1.out.c3 1 rfl
  have g1_1 := HRR1.out.f3 1
  have e1_1 := HRR1.out.c2 1 rfl
  have h1_1 := HRR1.out.f2 1
  go_wp2_with fail
  have R1 : R3 _ w.heap.size [u0, .int .i64 c1] [.slice none 0 0, .int .i64 0] [.slice ad0 ln0 cap0, .int .i64 0] 201 91 := (HRR1.out).set 0 (.slice ad0 ln0 cap0)
  have W1 := (HWW1.out).setCell (p := ⟨w.heap.size + 1 + 1, 0, none⟩) (by show w.heap.size ≤ w.heap.size + 1 + 1; omega) (.slice ad0 ln0 cap0)
  have HR1 := hid R1; have HW1 := hid W1; clear R1 W1
  have P1_0 := (Past.refl (w.heap.size + 1 + 1 + 1) w1).set (b := w.heap.size + 1 + 1) (by omega) 0 (.slice ad0 ln0 cap0)
  have R2 : R3 _ w.heap.size [u0, .int .i64 c1] [.slice none 0 0, .int .i64 0] [.slice ad0 ln0 cap0, .int .i64 c1] 201 91 := (HR1.out).set 1 (.int .i64 c1)
  have W2 := (HW1.out).setCell (p := ⟨w.heap.size + 1 + 1, 1, none⟩) (by show w.heap.size ≤ w.heap.size + 1 + 1; omega) (.int .i64 c1)
  have HR2 := hid R2; have HW2 := hid W2; clear R2 W2
  have P2_0 := P1_0.set (b := w.heap.size + 1 + 1) (by omega) 1 (.int .i64 c1)
  have RB0 : R3 _ w.heap.size [u0, .int .i64 c1] [.slice ad0 ln0 cap0, .int .i64 0] [.slice ad0 ln0 cap0, .int .i64 c1] 201 91 := (HR2.out).setb 0 (.slice ad0 ln0 cap0)
  have RB1 : R3 _ w.heap.size [u0, .int .i64 c1] [.slice ad0 ln0 cap0, .int .i64 c1] [.slice ad0 ln0 cap0, .int .i64 c1] 201 91 := RB0.setb 1 (.int .i64 c1)
  have pp0 := RB1.c2 0 rfl
  have pp1 := RB1.c2 1 rfl
  refine bodyPost_ret (v := .agg #[.slice ad0 ln0 cap0, .int .i64 c1]) (by simp [results, Tryz.results235, go_sem, pp0, pp1]) rfl ?_
  have Z := setRow_below (g := w.heap.size + 1) [.slice ad0 ln0 cap0, .int .i64 c1] 0 _ (HW2.out) (by omega)
  have Y0 := ((P2_0.set (b := w.heap.size + 1) (by omega) 0 (.slice ad0 ln0 cap0)).set (b := w.heap.size + 1) (by omega) 1 (.int .i64 c1))
  exact ⟨[.slice ad0 ln0 cap0, .int .i64 c1], rfl, Z, rfl, all2 ((N0.out.past (Nat.le_refl _) Y0).mono (by omega)) (DrN.val (.int .i64 c1) rfl)⟩
set_option maxHeartbeats 3200000 in
theorem toLoop_c {sz0 : Nat} {x0 : List (List D)} (q0 : CopyC Tryz.prog 202 (.list sz0 x0)) {sz1 : Nat} {x1 : List (List D)} (q1 : CopyC Tryz.prog 202 (.list sz1 x1)) : CopyS Tryz.prog 163 [.list sz0 x0, .list sz1 x1] := by
  intro B w vs hl hx
  obtain ⟨u0, l0, rfl, hl0⟩ := len_cons hl
  obtain ⟨u1, l1, rfl, hl1⟩ := len_cons hl0
  obtain rfl := len_zero hl1
  have D0 := hid (hx 0 _ _ rfl rfl)
  have D1 := hid (hx 1 _ _ rfl rfl)
  clear hx hl hl0 hl1
  have R := R3.start w [u0, u1] [.slice none 0 0, .slice none 0 0] [.slice none 0 0, .slice none 0 0] 197 172
  have W := (((Below.refl w.heap.size w).alloc (Nat.le_refl _) (.cells [u0, u1].toArray 197)).alloc (by simp) (.cells [.slice none 0 0, .slice none 0 0].toArray 172)).alloc (by simp; omega) (.cells [.slice none 0 0, .slice none 0 0].toArray 172)
  have HR := hid R; have HW := hid W; clear R W
  go_enter Tryz.func163, Tryz.ntmps163
  go_wp2_with fail
  refine (q0 B _ _ (D0.out.frame (below_sameAll HW.out _))).mono ?_
  rintro e w1 ⟨y0, rfl, b1, n0⟩
  obtain ⟨ad0, cap0, rfl, _⟩ := n0.dr.slice
  obtain ⟨ln0, hln0⟩ : ∃ n, n = x0.length := ⟨_, rfl⟩
  rw [← hln0] at n0 ⊢; clear hln0
  have lo1 : w.heap.size + 1 + 1 + 1 ≤ _ := blk_lt HR.out.c
  have n0 := n0.mono lo1
  have N0 := hid n0; clear n0
  have RR1 := (HR.out).fwd b1
  have WW1 := (HW.out).trans (b1.mono (HW.out).size)
  have HRR1 := hid RR1; have HWW1 := hid WW1; clear RR1 WW1 lo1
  have a1_1 := HRR1.out.c1 1 rfl
  have b1_0 := HRR1.out.c3 0 rfl
  have g1_0 := HRR1.out.f3 0
  have b1_1 := HRR1.out.c3 1 rfl
  have g1_1 := HRR1.out.f3 1
  go_wp2_with fail
  clear a1_1 b1_0 b1_1 g1_0 g1_1
  have R1 : R3 _ w.heap.size [u0, u1] [.slice none 0 0, .slice none 0 0] [.slice ad0 ln0 cap0, .slice none 0 0] 197 172 := (HRR1.out).set 0 (.slice ad0 ln0 cap0)
  have W1 := (HWW1.out).setCell (p := ⟨w.heap.size + 1 + 1, 0, none⟩) (by show w.heap.size ≤ w.heap.size + 1 + 1; omega) (.slice ad0 ln0 cap0)
  have HR1 := hid R1; have HW1 := hid W1; clear R1 W1
  have P1_0 := (Past.refl (w.heap.size + 1 + 1 + 1) w1).set (b := w.heap.size + 1 + 1) (by omega) 0 (.slice ad0 ln0 cap0)
  refine (q1 B _ _ (D1.out.frame (below_sameAll HW1.out _))).mono ?_
  rintro e w2 ⟨y1, rfl, b2, n1⟩
  obtain ⟨ad1, cap1, rfl, _⟩ := n1.dr.slice
  obtain ⟨ln1, hln1⟩ : ∃ n, n = x1.length := ⟨_, rfl⟩
  rw [← hln1] at n1 ⊢; clear hln1
  have lo2 : w.heap.size + 1 + 1 + 1 ≤ _ := blk_lt HR1.out.c
  have n1 := n1.mono lo2
  have N1 := hid n1; clear n1
  have F2_0 := P1_0.fwd b2
  have RR2 := (HR1.out).fwd b2
  have WW2 := (HW1.out).trans (b2.mono (HW1.out).size)
  have HRR2 := hid RR2; have HWW2 := hid WW2; clear RR2 WW2 lo2
  have b2_0 := HRR2.out.c3 0 rfl
  have g2_0 := HRR2.out.f3 0
  have e2_0 := HRR2.out.c2 0 rfl
  have h2_0 := HRR2.out.f2 0
  have b2_1 := HRR2.out.c3 1 rfl
  have g2_1 := HRR2.out.f3 1
  have e2_1 := HRR2.out.c2 1 rfl
  have h2_1 := HRR2.out.f2 1
  go_wp2_with fail
  have R2 : R3 _ w.heap.size [u0, u1] [.slice none 0 0, .slice none 0 0] [.slice ad0 ln0 cap0, .slice ad1 ln1 cap1] 197 172 := (HRR2.out).set 1 (.slice ad1 ln1 cap1)
  have W2 := (HWW2.out).setCell (p := ⟨w.heap.size + 1 + 1, 1, none⟩) (by show w.heap.size ≤ w.heap.size + 1 + 1; omega) (.slice ad1 ln1 cap1)
  have HR2 := hid R2; have HW2 := hid W2; clear R2 W2
  have P2_0 := F2_0.set (b := w.heap.size + 1 + 1) (by omega) 1 (.slice ad1 ln1 cap1)
  have P2_1 := (Past.refl (w.heap.size + 1 + 1 + 1) w2).set (b := w.heap.size + 1 + 1) (by omega) 1 (.slice ad1 ln1 cap1)
  have RB0 : R3 _ w.heap.size [u0, u1] [.slice ad0 ln0 cap0, .slice none 0 0] [.slice ad0 ln0 cap0, .slice ad1 ln1 cap1] 197 172 := (HR2.out).setb 0 (.slice ad0 ln0 cap0)
  have RB1 : R3 _ w.heap.size [u0, u1] [.slice ad0 ln0 cap0, .slice ad1 ln1 cap1] [.slice ad0 ln0 cap0, .slice ad1 ln1 cap1] 197 172 := RB0.setb 1 (.slice ad1 ln1 cap1)
  have pp0 := RB1.c2 0 rfl
  have pp1 := RB1.c2 1 rfl
  refine bodyPost_ret (v := .agg #[.slice ad0 ln0 cap0, .slice ad1 ln1 cap1]) (by simp [results, Tryz.results163, go_sem, pp0, pp1]) rfl ?_
  have Z := setRow_below (g := w.heap.size + 1) [.slice ad0 ln0 cap0, .slice ad1 ln1 cap1] 0 _ (HW2.out) (by omega)
  have Y0 := ((P2_0.set (b := w.heap.size + 1) (by omega) 0 (.slice ad0 ln0 cap0)).set (b := w.heap.size + 1) (by omega) 1 (.slice ad1 ln1 cap1))
  have Y1 := ((P2_1.set (b := w.heap.size + 1) (by omega) 0 (.slice ad0 ln0 cap0)).set (b := w.heap.size + 1) (by omega) 1 (.slice ad1 ln1 cap1))
  exact ⟨[.slice ad0 ln0 cap0, .slice ad1 ln1 cap1], rfl, Z, rfl, all2 ((N0.out.past (Nat.le_refl _) Y0).mono (by omega)) ((N1.out.past (Nat.le_refl _) Y1).mono (by omega))⟩
set_option maxHeartbeats 3200000 in
theorem toAccess_c {c0 : ByteArray} {sz1 : Nat} {x1 : List (List D)} (q1 : CopyC Tryz.prog 202 (.list sz1 x1)) : CopyS Tryz.prog 203 [.val (.string c0), .list sz1 x1] := by
  intro B w vs hl hx
  obtain ⟨u0, l0, rfl, hl0⟩ := len_cons hl
  obtain ⟨u1, l1, rfl, hl1⟩ := len_cons hl0
  obtain rfl := len_zero hl1
  have d0 := hx 0 _ _ rfl rfl
  obtain rfl : u0 = .string c0 := by cases d0; rfl
  clear d0
  have D1 := hid (hx 1 _ _ rfl rfl)
  clear hx hl hl0 hl1
  have R := R3.start w [.string c0, u1] [.string ⟨#[]⟩, .slice none 0 0] [.string c0, .slice none 0 0] 200 89
  have W := (((Below.refl w.heap.size w).alloc (Nat.le_refl _) (.cells [.string c0, u1].toArray 200)).alloc (by simp) (.cells [.string ⟨#[]⟩, .slice none 0 0].toArray 89)).alloc (by simp; omega) (.cells [.string c0, .slice none 0 0].toArray 89)
  have HR := hid R; have HW := hid W; clear R W
  go_enter Tryz.func203, Tryz.ntmps203
  go_wp2_with fail
  refine (q1 B _ _ (D1.out.frame (below_sameAll HW.out _))).mono ?_
  rintro e w1 ⟨y1, rfl, b1, n1⟩
  obtain ⟨ad1, cap1, rfl, _⟩ := n1.dr.slice
  obtain ⟨ln1, hln1⟩ : ∃ n, n = x1.length := ⟨_, rfl⟩
  rw [← hln1] at n1 ⊢; clear hln1
  have lo1 : w.heap.size + 1 + 1 + 1 ≤ _ := blk_lt HR.out.c
  have n1 := n1.mono lo1
  have N1 := hid n1; clear n1
  have RR1 := (HR.out).fwd b1
  have WW1 := (HW.out).trans (b1.mono (HW.out).size)
  have HRR1 := hid RR1; have HWW1 := hid WW1; clear RR1 WW1 lo1
  have b1_0 := HRR1.out.c3 0 rfl
  have g1_0 := HRR1.out.f3 0
  have e1_0 := HRR1.out.c2 0 rfl
  have h1_0 := HRR1.out.f2 0
  have b1_1 := HRR1.out.c3 1 rfl
  have g1_1 := HRR1.out.f3 1
  have e1_1 := HRR1.out.c2 1 rfl
  have h1_1 := HRR1.out.f2 1
  go_wp2_with fail
  have R1 : R3 _ w.heap.size [.string c0, u1] [.string ⟨#[]⟩, .slice none 0 0] [.string c0, .slice ad1 ln1 cap1] 200 89 := (HRR1.out).set 1 (.slice ad1 ln1 cap1)
  have W1 := (HWW1.out).setCell (p := ⟨w.heap.size + 1 + 1, 1, none⟩) (by show w.heap.size ≤ w.heap.size + 1 + 1; omega) (.slice ad1 ln1 cap1)
  have HR1 := hid R1; have HW1 := hid W1; clear R1 W1
  have P1_0 := (Past.refl (w.heap.size + 1 + 1 + 1) w1).set (b := w.heap.size + 1 + 1) (by omega) 1 (.slice ad1 ln1 cap1)
  have RB0 : R3 _ w.heap.size [.string c0, u1] [.string c0, .slice none 0 0] [.string c0, .slice ad1 ln1 cap1] 200 89 := (HR1.out).setb 0 (.string c0)
  have RB1 : R3 _ w.heap.size [.string c0, u1] [.string c0, .slice ad1 ln1 cap1] [.string c0, .slice ad1 ln1 cap1] 200 89 := RB0.setb 1 (.slice ad1 ln1 cap1)
  have pp0 := RB1.c2 0 rfl
  have pp1 := RB1.c2 1 rfl
  refine bodyPost_ret (v := .agg #[.string c0, .slice ad1 ln1 cap1]) (by simp [results, Tryz.results203, go_sem, pp0, pp1]) rfl ?_
  have Z := setRow_below (g := w.heap.size + 1) [.string c0, .slice ad1 ln1 cap1] 0 _ (HW1.out) (by omega)
  have Y0 := ((P1_0.set (b := w.heap.size + 1) (by omega) 0 (.string c0)).set (b := w.heap.size + 1) (by omega) 1 (.slice ad1 ln1 cap1))
  exact ⟨[.string c0, .slice ad1 ln1 cap1], rfl, Z, rfl, all2 (DrN.val (.string c0) rfl) ((N1.out.past (Nat.le_refl _) Y0).mono (by omega))⟩
set_option maxHeartbeats 3200000 in
theorem toExpr_c {c0 : Int} {c1 : Int} {x2 x3 : D} (q2 : CopyS Tryz.prog 235 [x2, x3]) {x4 x5 : D} (q4 : CopyS Tryz.prog 203 [x4, x5]) {sz6 : Nat} {x6 : List (List D)} (q6 : CopyC Tryz.prog 236 (.list sz6 x6)) : CopyS Tryz.prog 204 [.val (.int .i64 c0), .val (.int .i64 c1), x2, x3, x4, x5, .list sz6 x6] := by
  intro B w vs hl hx
  obtain ⟨u0, l0, rfl, hl0⟩ := len_cons hl
  obtain ⟨u1, l1, rfl, hl1⟩ := len_cons hl0
  obtain ⟨u2, l2, rfl, hl2⟩ := len_cons hl1
  obtain ⟨u3, l3, rfl, hl3⟩ := len_cons hl2
  obtain ⟨u4, l4, rfl, hl4⟩ := len_cons hl3
  obtain ⟨u5, l5, rfl, hl5⟩ := len_cons hl4
  obtain ⟨u6, l6, rfl, hl6⟩ := len_cons hl5
  obtain rfl := len_zero hl6
  have d0 := hx 0 _ _ rfl rfl
  obtain rfl : u0 = .int .i64 c0 := by cases d0; rfl
  clear d0
  have d1 := hx 1 _ _ rfl rfl
  obtain rfl : u1 = .int .i64 c1 := by cases d1; rfl
  clear d1
  have D2 := hid (hx 2 _ _ rfl rfl)
  have D3 := hid (hx 3 _ _ rfl rfl)
  have D4 := hid (hx 4 _ _ rfl rfl)
  have D5 := hid (hx 5 _ _ rfl rfl)
  have D6 := hid (hx 6 _ _ rfl rfl)
  clear hx hl hl0 hl1 hl2 hl3 hl4 hl5 hl6
  have R := R3.start w [.int .i64 c0, .int .i64 c1, u2, u3, u4, u5, u6] [.int .i64 0, .int .i64 0, .slice none 0 0, .int .i64 0, .string ⟨#[]⟩, .slice none 0 0, .slice none 0 0] [.int .i64 c0, .int .i64 c1, .slice none 0 0, .int .i64 0, .string ⟨#[]⟩, .slice none 0 0, .slice none 0 0] 204 94
  have W := (((Below.refl w.heap.size w).alloc (Nat.le_refl _) (.cells [.int .i64 c0, .int .i64 c1, u2, u3, u4, u5, u6].toArray 204)).alloc (by simp) (.cells [.int .i64 0, .int .i64 0, .slice none 0 0, .int .i64 0, .string ⟨#[]⟩, .slice none 0 0, .slice none 0 0].toArray 94)).alloc (by simp; omega) (.cells [.int .i64 c0, .int .i64 c1, .slice none 0 0, .int .i64 0, .string ⟨#[]⟩, .slice none 0 0, .slice none 0 0].toArray 94)
  have HR := hid R; have HW := hid W; clear R W
  go_enter Tryz.func204, Tryz.ntmps204
  go_wp2_with fail
  refine (q2 B _ [u2, u3] rfl (all2 (D2.out.frame (below_sameAll HW.out _)) (D3.out.frame (below_sameAll HW.out _)))).mono ?_
  rintro e w1 ⟨vs, rfl, b1, hv⟩
  have hv0 := hv.1
  obtain ⟨y2, l0, rfl, hv1⟩ := len_cons hv0
  obtain ⟨y3, l1, rfl, hv2⟩ := len_cons hv1
  obtain rfl := len_zero hv2
  have n2 := hv.2 0 _ _ rfl rfl
  have s2 := fun a m w => run_store Tryz.prog w a y2 m n2.one
  have n3 := hv.2 1 _ _ rfl rfl
  have s3 := fun a m w => run_store Tryz.prog w a y3 m n3.one
  clear hv hv0 hv1 hv2
  have lo1 : w.heap.size + 1 + 1 + 1 ≤ _ := blk_lt HR.out.c
  have n2 := n2.mono lo1
  have n3 := n3.mono lo1
  have N2 := hid n2; clear n2; have N3 := hid n3; clear n3
  have RR1 := (HR.out).fwd b1
  have WW1 := (HW.out).trans (b1.mono (HW.out).size)
  have HRR1 := hid RR1; have HWW1 := hid WW1; clear RR1 WW1 lo1
  have a1_4 := HRR1.out.c1 4 rfl
  have a1_5 := HRR1.out.c1 5 rfl
  have b1_0 := HRR1.out.c3 0 rfl
  have g1_0 := HRR1.out.f3 0
  have b1_1 := HRR1.out.c3 1 rfl
  have g1_1 := HRR1.out.f3 1
  have b1_2 := HRR1.out.c3 2 rfl
  have g1_2 := HRR1.out.f3 2
  have b1_3 := HRR1.out.c3 3 rfl
  have g1_3 := HRR1.out.f3 3
  have b1_4 := HRR1.out.c3 4 rfl
  have g1_4 := HRR1.out.f3 4
  have b1_5 := HRR1.out.c3 5 rfl
  have g1_5 := HRR1.out.f3 5
  have b1_6 := HRR1.out.c3 6 rfl
  have g1_6 := HRR1.out.f3 6
  go_wp2_with fail
  clear a1_4 a1_5 b1_0 b1_1 b1_2 b1_3 b1_4 b1_5 b1_6 g1_0 g1_1 g1_2 g1_3 g1_4 g1_5 g1_6
  have R1 : R3 _ w.heap.size [.int .i64 c0, .int .i64 c1, u2, u3, u4, u5, u6] [.int .i64 0, .int .i64 0, .slice none 0 0, .int .i64 0, .string ⟨#[]⟩, .slice none 0 0, .slice none 0 0] [.int .i64 c0, .int .i64 c1, y2, .int .i64 0, .string ⟨#[]⟩, .slice none 0 0, .slice none 0 0] 204 94 := (HRR1.out).set 2 (y2)
  have W1 := (HWW1.out).setCell (p := ⟨w.heap.size + 1 + 1, 2, none⟩) (by show w.heap.size ≤ w.heap.size + 1 + 1; omega) (y2)
  have HR1 := hid R1; have HW1 := hid W1; clear R1 W1
  have P1_0 := (Past.refl (w.heap.size + 1 + 1 + 1) w1).set (b := w.heap.size + 1 + 1) (by omega) 2 (y2)
  have R2 : R3 _ w.heap.size [.int .i64 c0, .int .i64 c1, u2, u3, u4, u5, u6] [.int .i64 0, .int .i64 0, .slice none 0 0, .int .i64 0, .string ⟨#[]⟩, .slice none 0 0, .slice none 0 0] [.int .i64 c0, .int .i64 c1, y2, y3, .string ⟨#[]⟩, .slice none 0 0, .slice none 0 0] 204 94 := (HR1.out).set 3 (y3)
  have W2 := (HW1.out).setCell (p := ⟨w.heap.size + 1 + 1, 3, none⟩) (by show w.heap.size ≤ w.heap.size + 1 + 1; omega) (y3)
  have HR2 := hid R2; have HW2 := hid W2; clear R2 W2
  have P2_0 := P1_0.set (b := w.heap.size + 1 + 1) (by omega) 3 (y3)
  refine (q4 B _ [u4, u5] rfl (all2 (D4.out.frame (below_sameAll HW2.out _)) (D5.out.frame (below_sameAll HW2.out _)))).mono ?_
  rintro e w2 ⟨vs, rfl, b2, hv⟩
  have hv0 := hv.1
  obtain ⟨y4, l0, rfl, hv1⟩ := len_cons hv0
  obtain ⟨y5, l1, rfl, hv2⟩ := len_cons hv1
  obtain rfl := len_zero hv2
  have n4 := hv.2 0 _ _ rfl rfl
  have s4 := fun a m w => run_store Tryz.prog w a y4 m n4.one
  have n5 := hv.2 1 _ _ rfl rfl
  have s5 := fun a m w => run_store Tryz.prog w a y5 m n5.one
  clear hv hv0 hv1 hv2
  have lo2 : w.heap.size + 1 + 1 + 1 ≤ _ := blk_lt HR2.out.c
  have n4 := n4.mono lo2
  have n5 := n5.mono lo2
  have N4 := hid n4; clear n4; have N5 := hid n5; clear n5
  have F2_0 := P2_0.fwd b2
  have RR2 := (HR2.out).fwd b2
  have WW2 := (HW2.out).trans (b2.mono (HW2.out).size)
  have HRR2 := hid RR2; have HWW2 := hid WW2; clear RR2 WW2 lo2
  have a2_6 := HRR2.out.c1 6 rfl
  have b2_0 := HRR2.out.c3 0 rfl
  have g2_0 := HRR2.out.f3 0
  have b2_1 := HRR2.out.c3 1 rfl
  have g2_1 := HRR2.out.f3 1
  have b2_2 := HRR2.out.c3 2 rfl
  have g2_2 := HRR2.out.f3 2
  have b2_3 := HRR2.out.c3 3 rfl
  have g2_3 := HRR2.out.f3 3
  have b2_4 := HRR2.out.c3 4 rfl
  have g2_4 := HRR2.out.f3 4
  have b2_5 := HRR2.out.c3 5 rfl
  have g2_5 := HRR2.out.f3 5
  have b2_6 := HRR2.out.c3 6 rfl
  have g2_6 := HRR2.out.f3 6
  go_wp2_with fail
  clear a2_6 b2_0 b2_1 b2_2 b2_3 b2_4 b2_5 b2_6 g2_0 g2_1 g2_2 g2_3 g2_4 g2_5 g2_6
  have R3 : R3 _ w.heap.size [.int .i64 c0, .int .i64 c1, u2, u3, u4, u5, u6] [.int .i64 0, .int .i64 0, .slice none 0 0, .int .i64 0, .string ⟨#[]⟩, .slice none 0 0, .slice none 0 0] [.int .i64 c0, .int .i64 c1, y2, y3, y4, .slice none 0 0, .slice none 0 0] 204 94 := (HRR2.out).set 4 (y4)
  have W3 := (HWW2.out).setCell (p := ⟨w.heap.size + 1 + 1, 4, none⟩) (by show w.heap.size ≤ w.heap.size + 1 + 1; omega) (y4)
  have HR3 := hid R3; have HW3 := hid W3; clear R3 W3
  have P3_0 := F2_0.set (b := w.heap.size + 1 + 1) (by omega) 4 (y4)
  have P3_1 := (Past.refl (w.heap.size + 1 + 1 + 1) w2).set (b := w.heap.size + 1 + 1) (by omega) 4 (y4)
  have R4 : R3 _ w.heap.size [.int .i64 c0, .int .i64 c1, u2, u3, u4, u5, u6] [.int .i64 0, .int .i64 0, .slice none 0 0, .int .i64 0, .string ⟨#[]⟩, .slice none 0 0, .slice none 0 0] [.int .i64 c0, .int .i64 c1, y2, y3, y4, y5, .slice none 0 0] 204 94 := (HR3.out).set 5 (y5)
  have W4 := (HW3.out).setCell (p := ⟨w.heap.size + 1 + 1, 5, none⟩) (by show w.heap.size ≤ w.heap.size + 1 + 1; omega) (y5)
  have HR4 := hid R4; have HW4 := hid W4; clear R4 W4
  have P4_0 := P3_0.set (b := w.heap.size + 1 + 1) (by omega) 5 (y5)
  have P4_1 := P3_1.set (b := w.heap.size + 1 + 1) (by omega) 5 (y5)
  refine (q6 B _ _ (D6.out.frame (below_sameAll HW4.out _))).mono ?_
  rintro e w3 ⟨y6, rfl, b3, n6⟩
  obtain ⟨ad6, cap6, rfl, _⟩ := n6.dr.slice
  obtain ⟨ln6, hln6⟩ : ∃ n, n = x6.length := ⟨_, rfl⟩
  rw [← hln6] at n6 ⊢; clear hln6
  have lo3 : w.heap.size + 1 + 1 + 1 ≤ _ := blk_lt HR4.out.c
  have n6 := n6.mono lo3
  have N6 := hid n6; clear n6
  have F3_0 := P4_0.fwd b3
  have F3_1 := P4_1.fwd b3
  have RR3 := (HR4.out).fwd b3
  have WW3 := (HW4.out).trans (b3.mono (HW4.out).size)
  have HRR3 := hid RR3; have HWW3 := hid WW3; clear RR3 WW3 lo3
  have b3_0 := HRR3.out.c3 0 rfl
  have g3_0 := HRR3.out.f3 0
  have e3_0 := HRR3.out.c2 0 rfl
  have h3_0 := HRR3.out.f2 0
  have b3_1 := HRR3.out.c3 1 rfl
  have g3_1 := HRR3.out.f3 1
  have e3_1 := HRR3.out.c2 1 rfl
  have h3_1 := HRR3.out.f2 1
  have b3_2 := HRR3.out.c3 2 rfl
  have g3_2 := HRR3.out.f3 2
  have e3_2 := HRR3.out.c2 2 rfl
  have h3_2 := HRR3.out.f2 2
  have b3_3 := HRR3.out.c3 3 rfl
  have g3_3 := HRR3.out.f3 3
  have e3_3 := HRR3.out.c2 3 rfl
  have h3_3 := HRR3.out.f2 3
  have b3_4 := HRR3.out.c3 4 rfl
  have g3_4 := HRR3.out.f3 4
  have e3_4 := HRR3.out.c2 4 rfl
  have h3_4 := HRR3.out.f2 4
  have b3_5 := HRR3.out.c3 5 rfl
  have g3_5 := HRR3.out.f3 5
  have e3_5 := HRR3.out.c2 5 rfl
  have h3_5 := HRR3.out.f2 5
  have b3_6 := HRR3.out.c3 6 rfl
  have g3_6 := HRR3.out.f3 6
  have e3_6 := HRR3.out.c2 6 rfl
  have h3_6 := HRR3.out.f2 6
  go_wp2_with fail
  have R5 : R3 _ w.heap.size [.int .i64 c0, .int .i64 c1, u2, u3, u4, u5, u6] [.int .i64 0, .int .i64 0, .slice none 0 0, .int .i64 0, .string ⟨#[]⟩, .slice none 0 0, .slice none 0 0] [.int .i64 c0, .int .i64 c1, y2, y3, y4, y5, .slice ad6 ln6 cap6] 204 94 := (HRR3.out).set 6 (.slice ad6 ln6 cap6)
  have W5 := (HWW3.out).setCell (p := ⟨w.heap.size + 1 + 1, 6, none⟩) (by show w.heap.size ≤ w.heap.size + 1 + 1; omega) (.slice ad6 ln6 cap6)
  have HR5 := hid R5; have HW5 := hid W5; clear R5 W5
  have P5_0 := F3_0.set (b := w.heap.size + 1 + 1) (by omega) 6 (.slice ad6 ln6 cap6)
  have P5_1 := F3_1.set (b := w.heap.size + 1 + 1) (by omega) 6 (.slice ad6 ln6 cap6)
  have P5_2 := (Past.refl (w.heap.size + 1 + 1 + 1) w3).set (b := w.heap.size + 1 + 1) (by omega) 6 (.slice ad6 ln6 cap6)
  have RB0 : R3 _ w.heap.size [.int .i64 c0, .int .i64 c1, u2, u3, u4, u5, u6] [.int .i64 c0, .int .i64 0, .slice none 0 0, .int .i64 0, .string ⟨#[]⟩, .slice none 0 0, .slice none 0 0] [.int .i64 c0, .int .i64 c1, y2, y3, y4, y5, .slice ad6 ln6 cap6] 204 94 := (HR5.out).setb 0 (.int .i64 c0)
  have RB1 : R3 _ w.heap.size [.int .i64 c0, .int .i64 c1, u2, u3, u4, u5, u6] [.int .i64 c0, .int .i64 c1, .slice none 0 0, .int .i64 0, .string ⟨#[]⟩, .slice none 0 0, .slice none 0 0] [.int .i64 c0, .int .i64 c1, y2, y3, y4, y5, .slice ad6 ln6 cap6] 204 94 := RB0.setb 1 (.int .i64 c1)
  have RB2 : R3 _ w.heap.size [.int .i64 c0, .int .i64 c1, u2, u3, u4, u5, u6] [.int .i64 c0, .int .i64 c1, y2, .int .i64 0, .string ⟨#[]⟩, .slice none 0 0, .slice none 0 0] [.int .i64 c0, .int .i64 c1, y2, y3, y4, y5, .slice ad6 ln6 cap6] 204 94 := RB1.setb 2 (y2)
  have RB3 : R3 _ w.heap.size [.int .i64 c0, .int .i64 c1, u2, u3, u4, u5, u6] [.int .i64 c0, .int .i64 c1, y2, y3, .string ⟨#[]⟩, .slice none 0 0, .slice none 0 0] [.int .i64 c0, .int .i64 c1, y2, y3, y4, y5, .slice ad6 ln6 cap6] 204 94 := RB2.setb 3 (y3)
  have RB4 : R3 _ w.heap.size [.int .i64 c0, .int .i64 c1, u2, u3, u4, u5, u6] [.int .i64 c0, .int .i64 c1, y2, y3, y4, .slice none 0 0, .slice none 0 0] [.int .i64 c0, .int .i64 c1, y2, y3, y4, y5, .slice ad6 ln6 cap6] 204 94 := RB3.setb 4 (y4)
  have RB5 : R3 _ w.heap.size [.int .i64 c0, .int .i64 c1, u2, u3, u4, u5, u6] [.int .i64 c0, .int .i64 c1, y2, y3, y4, y5, .slice none 0 0] [.int .i64 c0, .int .i64 c1, y2, y3, y4, y5, .slice ad6 ln6 cap6] 204 94 := RB4.setb 5 (y5)
  have RB6 : R3 _ w.heap.size [.int .i64 c0, .int .i64 c1, u2, u3, u4, u5, u6] [.int .i64 c0, .int .i64 c1, y2, y3, y4, y5, .slice ad6 ln6 cap6] [.int .i64 c0, .int .i64 c1, y2, y3, y4, y5, .slice ad6 ln6 cap6] 204 94 := RB5.setb 6 (.slice ad6 ln6 cap6)
  have pp0 := RB6.c2 0 rfl
  have pp1 := RB6.c2 1 rfl
  have pp2 := RB6.c2 2 rfl
  have pp3 := RB6.c2 3 rfl
  have pp4 := RB6.c2 4 rfl
  have pp5 := RB6.c2 5 rfl
  have pp6 := RB6.c2 6 rfl
  refine bodyPost_ret (v := .agg #[.int .i64 c0, .int .i64 c1, y2, y3, y4, y5, .slice ad6 ln6 cap6]) (by simp [results, Tryz.results204, go_sem, pp0, pp1, pp2, pp3, pp4, pp5, pp6]) rfl ?_
  have Z := setRow_below (g := w.heap.size + 1) [.int .i64 c0, .int .i64 c1, y2, y3, y4, y5, .slice ad6 ln6 cap6] 0 _ (HW5.out) (by omega)
  have Y0 := (((((((P5_0.set (b := w.heap.size + 1) (by omega) 0 (.int .i64 c0)).set (b := w.heap.size + 1) (by omega) 1 (.int .i64 c1)).set (b := w.heap.size + 1) (by omega) 2 (y2)).set (b := w.heap.size + 1) (by omega) 3 (y3)).set (b := w.heap.size + 1) (by omega) 4 (y4)).set (b := w.heap.size + 1) (by omega) 5 (y5)).set (b := w.heap.size + 1) (by omega) 6 (.slice ad6 ln6 cap6))
  have Y1 := (((((((P5_1.set (b := w.heap.size + 1) (by omega) 0 (.int .i64 c0)).set (b := w.heap.size + 1) (by omega) 1 (.int .i64 c1)).set (b := w.heap.size + 1) (by omega) 2 (y2)).set (b := w.heap.size + 1) (by omega) 3 (y3)).set (b := w.heap.size + 1) (by omega) 4 (y4)).set (b := w.heap.size + 1) (by omega) 5 (y5)).set (b := w.heap.size + 1) (by omega) 6 (.slice ad6 ln6 cap6))
  have Y2 := (((((((P5_2.set (b := w.heap.size + 1) (by omega) 0 (.int .i64 c0)).set (b := w.heap.size + 1) (by omega) 1 (.int .i64 c1)).set (b := w.heap.size + 1) (by omega) 2 (y2)).set (b := w.heap.size + 1) (by omega) 3 (y3)).set (b := w.heap.size + 1) (by omega) 4 (y4)).set (b := w.heap.size + 1) (by omega) 5 (y5)).set (b := w.heap.size + 1) (by omega) 6 (.slice ad6 ln6 cap6))
  exact ⟨[.int .i64 c0, .int .i64 c1, y2, y3, y4, y5, .slice ad6 ln6 cap6], rfl, Z, rfl, all7 (DrN.val (.int .i64 c0) rfl) (DrN.val (.int .i64 c1) rfl) ((N2.out.past (Nat.le_refl _) Y0).mono (by omega)) ((N3.out.past (Nat.le_refl _) Y0).mono (by omega)) ((N4.out.past (Nat.le_refl _) Y1).mono (by omega)) ((N5.out.past (Nat.le_refl _) Y1).mono (by omega)) ((N6.out.past (Nat.le_refl _) Y2).mono (by omega))⟩
set_option maxHeartbeats 3200000 in
theorem toStmt_c {x0 x1 : D} (q0 : CopyS Tryz.prog 203 [x0, x1]) {x2 x3 x4 x5 x6 x7 x8 : D} (q2 : CopyS Tryz.prog 204 [x2, x3, x4, x5, x6, x7, x8]) : CopyS Tryz.prog 164 [x0, x1, x2, x3, x4, x5, x6, x7, x8] := by
  intro B w vs hl hx
  obtain ⟨u0, l0, rfl, hl0⟩ := len_cons hl
  obtain ⟨u1, l1, rfl, hl1⟩ := len_cons hl0
  obtain ⟨u2, l2, rfl, hl2⟩ := len_cons hl1
  obtain ⟨u3, l3, rfl, hl3⟩ := len_cons hl2
  obtain ⟨u4, l4, rfl, hl4⟩ := len_cons hl3
  obtain ⟨u5, l5, rfl, hl5⟩ := len_cons hl4
  obtain ⟨u6, l6, rfl, hl6⟩ := len_cons hl5
  obtain ⟨u7, l7, rfl, hl7⟩ := len_cons hl6
  obtain ⟨u8, l8, rfl, hl8⟩ := len_cons hl7
  obtain rfl := len_zero hl8
  have D0 := hid (hx 0 _ _ rfl rfl)
  have D1 := hid (hx 1 _ _ rfl rfl)
  have D2 := hid (hx 2 _ _ rfl rfl)
  have D3 := hid (hx 3 _ _ rfl rfl)
  have D4 := hid (hx 4 _ _ rfl rfl)
  have D5 := hid (hx 5 _ _ rfl rfl)
  have D6 := hid (hx 6 _ _ rfl rfl)
  have D7 := hid (hx 7 _ _ rfl rfl)
  have D8 := hid (hx 8 _ _ rfl rfl)
  clear hx hl hl0 hl1 hl2 hl3 hl4 hl5 hl6 hl7 hl8
  have R := R3.start w [u0, u1, u2, u3, u4, u5, u6, u7, u8] [.string ⟨#[]⟩, .slice none 0 0, .int .i64 0, .int .i64 0, .slice none 0 0, .int .i64 0, .string ⟨#[]⟩, .slice none 0 0, .slice none 0 0] [.string ⟨#[]⟩, .slice none 0 0, .int .i64 0, .int .i64 0, .slice none 0 0, .int .i64 0, .string ⟨#[]⟩, .slice none 0 0, .slice none 0 0] 206 96
  have W := (((Below.refl w.heap.size w).alloc (Nat.le_refl _) (.cells [u0, u1, u2, u3, u4, u5, u6, u7, u8].toArray 206)).alloc (by simp) (.cells [.string ⟨#[]⟩, .slice none 0 0, .int .i64 0, .int .i64 0, .slice none 0 0, .int .i64 0, .string ⟨#[]⟩, .slice none 0 0, .slice none 0 0].toArray 96)).alloc (by simp; omega) (.cells [.string ⟨#[]⟩, .slice none 0 0, .int .i64 0, .int .i64 0, .slice none 0 0, .int .i64 0, .string ⟨#[]⟩, .slice none 0 0, .slice none 0 0].toArray 96)
  have HR := hid R; have HW := hid W; clear R W
  go_enter Tryz.func164, Tryz.ntmps164
  go_wp2_with fail
  refine (q0 B _ [u0, u1] rfl (all2 (D0.out.frame (below_sameAll HW.out _)) (D1.out.frame (below_sameAll HW.out _)))).mono ?_
  rintro e w1 ⟨vs, rfl, b1, hv⟩
  have hv0 := hv.1
  obtain ⟨y0, l0, rfl, hv1⟩ := len_cons hv0
  obtain ⟨y1, l1, rfl, hv2⟩ := len_cons hv1
  obtain rfl := len_zero hv2
  have n0 := hv.2 0 _ _ rfl rfl
  have s0 := fun a m w => run_store Tryz.prog w a y0 m n0.one
  have n1 := hv.2 1 _ _ rfl rfl
  have s1 := fun a m w => run_store Tryz.prog w a y1 m n1.one
  clear hv hv0 hv1 hv2
  have lo1 : w.heap.size + 1 + 1 + 1 ≤ _ := blk_lt HR.out.c
  have n0 := n0.mono lo1
  have n1 := n1.mono lo1
  have N0 := hid n0; clear n0; have N1 := hid n1; clear n1
  have RR1 := (HR.out).fwd b1
  have WW1 := (HW.out).trans (b1.mono (HW.out).size)
  have HRR1 := hid RR1; have HWW1 := hid WW1; clear RR1 WW1 lo1
  have a1_2 := HRR1.out.c1 2 rfl
  have a1_3 := HRR1.out.c1 3 rfl
  have a1_4 := HRR1.out.c1 4 rfl
  have a1_5 := HRR1.out.c1 5 rfl
  have a1_6 := HRR1.out.c1 6 rfl
  have a1_7 := HRR1.out.c1 7 rfl
  have a1_8 := HRR1.out.c1 8 rfl
  have b1_0 := HRR1.out.c3 0 rfl
  have g1_0 := HRR1.out.f3 0
  have b1_1 := HRR1.out.c3 1 rfl
  have g1_1 := HRR1.out.f3 1
  have b1_2 := HRR1.out.c3 2 rfl
  have g1_2 := HRR1.out.f3 2
  have b1_3 := HRR1.out.c3 3 rfl
  have g1_3 := HRR1.out.f3 3
  have b1_4 := HRR1.out.c3 4 rfl
  have g1_4 := HRR1.out.f3 4
  have b1_5 := HRR1.out.c3 5 rfl
  have g1_5 := HRR1.out.f3 5
  have b1_6 := HRR1.out.c3 6 rfl
  have g1_6 := HRR1.out.f3 6
  have b1_7 := HRR1.out.c3 7 rfl
  have g1_7 := HRR1.out.f3 7
  have b1_8 := HRR1.out.c3 8 rfl
  have g1_8 := HRR1.out.f3 8
  go_wp2_with fail
  clear a1_2 a1_3 a1_4 a1_5 a1_6 a1_7 a1_8 b1_0 b1_1 b1_2 b1_3 b1_4 b1_5 b1_6 b1_7 b1_8 g1_0 g1_1 g1_2 g1_3 g1_4 g1_5 g1_6 g1_7 g1_8
  have R1 : R3 _ w.heap.size [u0, u1, u2, u3, u4, u5, u6, u7, u8] [.string ⟨#[]⟩, .slice none 0 0, .int .i64 0, .int .i64 0, .slice none 0 0, .int .i64 0, .string ⟨#[]⟩, .slice none 0 0, .slice none 0 0] [y0, .slice none 0 0, .int .i64 0, .int .i64 0, .slice none 0 0, .int .i64 0, .string ⟨#[]⟩, .slice none 0 0, .slice none 0 0] 206 96 := (HRR1.out).set 0 (y0)
  have W1 := (HWW1.out).setCell (p := ⟨w.heap.size + 1 + 1, 0, none⟩) (by show w.heap.size ≤ w.heap.size + 1 + 1; omega) (y0)
  have HR1 := hid R1; have HW1 := hid W1; clear R1 W1
  have P1_0 := (Past.refl (w.heap.size + 1 + 1 + 1) w1).set (b := w.heap.size + 1 + 1) (by omega) 0 (y0)
  have R2 : R3 _ w.heap.size [u0, u1, u2, u3, u4, u5, u6, u7, u8] [.string ⟨#[]⟩, .slice none 0 0, .int .i64 0, .int .i64 0, .slice none 0 0, .int .i64 0, .string ⟨#[]⟩, .slice none 0 0, .slice none 0 0] [y0, y1, .int .i64 0, .int .i64 0, .slice none 0 0, .int .i64 0, .string ⟨#[]⟩, .slice none 0 0, .slice none 0 0] 206 96 := (HR1.out).set 1 (y1)
  have W2 := (HW1.out).setCell (p := ⟨w.heap.size + 1 + 1, 1, none⟩) (by show w.heap.size ≤ w.heap.size + 1 + 1; omega) (y1)
  have HR2 := hid R2; have HW2 := hid W2; clear R2 W2
  have P2_0 := P1_0.set (b := w.heap.size + 1 + 1) (by omega) 1 (y1)
  refine (q2 B _ [u2, u3, u4, u5, u6, u7, u8] rfl (all7 (D2.out.frame (below_sameAll HW2.out _)) (D3.out.frame (below_sameAll HW2.out _)) (D4.out.frame (below_sameAll HW2.out _)) (D5.out.frame (below_sameAll HW2.out _)) (D6.out.frame (below_sameAll HW2.out _)) (D7.out.frame (below_sameAll HW2.out _)) (D8.out.frame (below_sameAll HW2.out _)))).mono ?_
  rintro e w2 ⟨vs, rfl, b2, hv⟩
  have hv0 := hv.1
  obtain ⟨y2, l0, rfl, hv1⟩ := len_cons hv0
  obtain ⟨y3, l1, rfl, hv2⟩ := len_cons hv1
  obtain ⟨y4, l2, rfl, hv3⟩ := len_cons hv2
  obtain ⟨y5, l3, rfl, hv4⟩ := len_cons hv3
  obtain ⟨y6, l4, rfl, hv5⟩ := len_cons hv4
  obtain ⟨y7, l5, rfl, hv6⟩ := len_cons hv5
  obtain ⟨y8, l6, rfl, hv7⟩ := len_cons hv6
  obtain rfl := len_zero hv7
  have n2 := hv.2 0 _ _ rfl rfl
  have s2 := fun a m w => run_store Tryz.prog w a y2 m n2.one
  have n3 := hv.2 1 _ _ rfl rfl
  have s3 := fun a m w => run_store Tryz.prog w a y3 m n3.one
  have n4 := hv.2 2 _ _ rfl rfl
  have s4 := fun a m w => run_store Tryz.prog w a y4 m n4.one
  have n5 := hv.2 3 _ _ rfl rfl
  have s5 := fun a m w => run_store Tryz.prog w a y5 m n5.one
  have n6 := hv.2 4 _ _ rfl rfl
  have s6 := fun a m w => run_store Tryz.prog w a y6 m n6.one
  have n7 := hv.2 5 _ _ rfl rfl
  have s7 := fun a m w => run_store Tryz.prog w a y7 m n7.one
  have n8 := hv.2 6 _ _ rfl rfl
  have s8 := fun a m w => run_store Tryz.prog w a y8 m n8.one
  clear hv hv0 hv1 hv2 hv3 hv4 hv5 hv6 hv7
  have lo2 : w.heap.size + 1 + 1 + 1 ≤ _ := blk_lt HR2.out.c
  have n2 := n2.mono lo2
  have n3 := n3.mono lo2
  have n4 := n4.mono lo2
  have n5 := n5.mono lo2
  have n6 := n6.mono lo2
  have n7 := n7.mono lo2
  have n8 := n8.mono lo2
  have N2 := hid n2; clear n2; have N3 := hid n3; clear n3; have N4 := hid n4; clear n4; have N5 := hid n5; clear n5; have N6 := hid n6; clear n6; have N7 := hid n7; clear n7; have N8 := hid n8; clear n8
  have F2_0 := P2_0.fwd b2
  have RR2 := (HR2.out).fwd b2
  have WW2 := (HW2.out).trans (b2.mono (HW2.out).size)
  have HRR2 := hid RR2; have HWW2 := hid WW2; clear RR2 WW2 lo2
  have b2_0 := HRR2.out.c3 0 rfl
  have g2_0 := HRR2.out.f3 0
  have e2_0 := HRR2.out.c2 0 rfl
  have h2_0 := HRR2.out.f2 0
  have b2_1 := HRR2.out.c3 1 rfl
  have g2_1 := HRR2.out.f3 1
  have e2_1 := HRR2.out.c2 1 rfl
  have h2_1 := HRR2.out.f2 1
  have b2_2 := HRR2.out.c3 2 rfl
  have g2_2 := HRR2.out.f3 2
  have e2_2 := HRR2.out.c2 2 rfl
  have h2_2 := HRR2.out.f2 2
  have b2_3 := HRR2.out.c3 3 rfl
  have g2_3 := HRR2.out.f3 3
  have e2_3 := HRR2.out.c2 3 rfl
  have h2_3 := HRR2.out.f2 3
  have b2_4 := HRR2.out.c3 4 rfl
  have g2_4 := HRR2.out.f3 4
  have e2_4 := HRR2.out.c2 4 rfl
  have h2_4 := HRR2.out.f2 4
  have b2_5 := HRR2.out.c3 5 rfl
  have g2_5 := HRR2.out.f3 5
  have e2_5 := HRR2.out.c2 5 rfl
  have h2_5 := HRR2.out.f2 5
  have b2_6 := HRR2.out.c3 6 rfl
  have g2_6 := HRR2.out.f3 6
  have e2_6 := HRR2.out.c2 6 rfl
  have h2_6 := HRR2.out.f2 6
  have b2_7 := HRR2.out.c3 7 rfl
  have g2_7 := HRR2.out.f3 7
  have e2_7 := HRR2.out.c2 7 rfl
  have h2_7 := HRR2.out.f2 7
  have b2_8 := HRR2.out.c3 8 rfl
  have g2_8 := HRR2.out.f3 8
  have e2_8 := HRR2.out.c2 8 rfl
  have h2_8 := HRR2.out.f2 8
  go_wp2_with fail
  have R3 : R3 _ w.heap.size [u0, u1, u2, u3, u4, u5, u6, u7, u8] [.string ⟨#[]⟩, .slice none 0 0, .int .i64 0, .int .i64 0, .slice none 0 0, .int .i64 0, .string ⟨#[]⟩, .slice none 0 0, .slice none 0 0] [y0, y1, y2, .int .i64 0, .slice none 0 0, .int .i64 0, .string ⟨#[]⟩, .slice none 0 0, .slice none 0 0] 206 96 := (HRR2.out).set 2 (y2)
  have W3 := (HWW2.out).setCell (p := ⟨w.heap.size + 1 + 1, 2, none⟩) (by show w.heap.size ≤ w.heap.size + 1 + 1; omega) (y2)
  have HR3 := hid R3; have HW3 := hid W3; clear R3 W3
  have P3_0 := F2_0.set (b := w.heap.size + 1 + 1) (by omega) 2 (y2)
  have P3_1 := (Past.refl (w.heap.size + 1 + 1 + 1) w2).set (b := w.heap.size + 1 + 1) (by omega) 2 (y2)
  have R4 : R3 _ w.heap.size [u0, u1, u2, u3, u4, u5, u6, u7, u8] [.string ⟨#[]⟩, .slice none 0 0, .int .i64 0, .int .i64 0, .slice none 0 0, .int .i64 0, .string ⟨#[]⟩, .slice none 0 0, .slice none 0 0] [y0, y1, y2, y3, .slice none 0 0, .int .i64 0, .string ⟨#[]⟩, .slice none 0 0, .slice none 0 0] 206 96 := (HR3.out).set 3 (y3)
  have W4 := (HW3.out).setCell (p := ⟨w.heap.size + 1 + 1, 3, none⟩) (by show w.heap.size ≤ w.heap.size + 1 + 1; omega) (y3)
  have HR4 := hid R4; have HW4 := hid W4; clear R4 W4
  have P4_0 := P3_0.set (b := w.heap.size + 1 + 1) (by omega) 3 (y3)
  have P4_1 := P3_1.set (b := w.heap.size + 1 + 1) (by omega) 3 (y3)
  have R5 : R3 _ w.heap.size [u0, u1, u2, u3, u4, u5, u6, u7, u8] [.string ⟨#[]⟩, .slice none 0 0, .int .i64 0, .int .i64 0, .slice none 0 0, .int .i64 0, .string ⟨#[]⟩, .slice none 0 0, .slice none 0 0] [y0, y1, y2, y3, y4, .int .i64 0, .string ⟨#[]⟩, .slice none 0 0, .slice none 0 0] 206 96 := (HR4.out).set 4 (y4)
  have W5 := (HW4.out).setCell (p := ⟨w.heap.size + 1 + 1, 4, none⟩) (by show w.heap.size ≤ w.heap.size + 1 + 1; omega) (y4)
  have HR5 := hid R5; have HW5 := hid W5; clear R5 W5
  have P5_0 := P4_0.set (b := w.heap.size + 1 + 1) (by omega) 4 (y4)
  have P5_1 := P4_1.set (b := w.heap.size + 1 + 1) (by omega) 4 (y4)
  have R6 : R3 _ w.heap.size [u0, u1, u2, u3, u4, u5, u6, u7, u8] [.string ⟨#[]⟩, .slice none 0 0, .int .i64 0, .int .i64 0, .slice none 0 0, .int .i64 0, .string ⟨#[]⟩, .slice none 0 0, .slice none 0 0] [y0, y1, y2, y3, y4, y5, .string ⟨#[]⟩, .slice none 0 0, .slice none 0 0] 206 96 := (HR5.out).set 5 (y5)
  have W6 := (HW5.out).setCell (p := ⟨w.heap.size + 1 + 1, 5, none⟩) (by show w.heap.size ≤ w.heap.size + 1 + 1; omega) (y5)
  have HR6 := hid R6; have HW6 := hid W6; clear R6 W6
  have P6_0 := P5_0.set (b := w.heap.size + 1 + 1) (by omega) 5 (y5)
  have P6_1 := P5_1.set (b := w.heap.size + 1 + 1) (by omega) 5 (y5)
  have R7 : R3 _ w.heap.size [u0, u1, u2, u3, u4, u5, u6, u7, u8] [.string ⟨#[]⟩, .slice none 0 0, .int .i64 0, .int .i64 0, .slice none 0 0, .int .i64 0, .string ⟨#[]⟩, .slice none 0 0, .slice none 0 0] [y0, y1, y2, y3, y4, y5, y6, .slice none 0 0, .slice none 0 0] 206 96 := (HR6.out).set 6 (y6)
  have W7 := (HW6.out).setCell (p := ⟨w.heap.size + 1 + 1, 6, none⟩) (by show w.heap.size ≤ w.heap.size + 1 + 1; omega) (y6)
  have HR7 := hid R7; have HW7 := hid W7; clear R7 W7
  have P7_0 := P6_0.set (b := w.heap.size + 1 + 1) (by omega) 6 (y6)
  have P7_1 := P6_1.set (b := w.heap.size + 1 + 1) (by omega) 6 (y6)
  have R8 : R3 _ w.heap.size [u0, u1, u2, u3, u4, u5, u6, u7, u8] [.string ⟨#[]⟩, .slice none 0 0, .int .i64 0, .int .i64 0, .slice none 0 0, .int .i64 0, .string ⟨#[]⟩, .slice none 0 0, .slice none 0 0] [y0, y1, y2, y3, y4, y5, y6, y7, .slice none 0 0] 206 96 := (HR7.out).set 7 (y7)
  have W8 := (HW7.out).setCell (p := ⟨w.heap.size + 1 + 1, 7, none⟩) (by show w.heap.size ≤ w.heap.size + 1 + 1; omega) (y7)
  have HR8 := hid R8; have HW8 := hid W8; clear R8 W8
  have P8_0 := P7_0.set (b := w.heap.size + 1 + 1) (by omega) 7 (y7)
  have P8_1 := P7_1.set (b := w.heap.size + 1 + 1) (by omega) 7 (y7)
  have R9 : R3 _ w.heap.size [u0, u1, u2, u3, u4, u5, u6, u7, u8] [.string ⟨#[]⟩, .slice none 0 0, .int .i64 0, .int .i64 0, .slice none 0 0, .int .i64 0, .string ⟨#[]⟩, .slice none 0 0, .slice none 0 0] [y0, y1, y2, y3, y4, y5, y6, y7, y8] 206 96 := (HR8.out).set 8 (y8)
  have W9 := (HW8.out).setCell (p := ⟨w.heap.size + 1 + 1, 8, none⟩) (by show w.heap.size ≤ w.heap.size + 1 + 1; omega) (y8)
  have HR9 := hid R9; have HW9 := hid W9; clear R9 W9
  have P9_0 := P8_0.set (b := w.heap.size + 1 + 1) (by omega) 8 (y8)
  have P9_1 := P8_1.set (b := w.heap.size + 1 + 1) (by omega) 8 (y8)
  have RB0 : R3 _ w.heap.size [u0, u1, u2, u3, u4, u5, u6, u7, u8] [y0, .slice none 0 0, .int .i64 0, .int .i64 0, .slice none 0 0, .int .i64 0, .string ⟨#[]⟩, .slice none 0 0, .slice none 0 0] [y0, y1, y2, y3, y4, y5, y6, y7, y8] 206 96 := (HR9.out).setb 0 (y0)
  have RB1 : R3 _ w.heap.size [u0, u1, u2, u3, u4, u5, u6, u7, u8] [y0, y1, .int .i64 0, .int .i64 0, .slice none 0 0, .int .i64 0, .string ⟨#[]⟩, .slice none 0 0, .slice none 0 0] [y0, y1, y2, y3, y4, y5, y6, y7, y8] 206 96 := RB0.setb 1 (y1)
  have RB2 : R3 _ w.heap.size [u0, u1, u2, u3, u4, u5, u6, u7, u8] [y0, y1, y2, .int .i64 0, .slice none 0 0, .int .i64 0, .string ⟨#[]⟩, .slice none 0 0, .slice none 0 0] [y0, y1, y2, y3, y4, y5, y6, y7, y8] 206 96 := RB1.setb 2 (y2)
  have RB3 : R3 _ w.heap.size [u0, u1, u2, u3, u4, u5, u6, u7, u8] [y0, y1, y2, y3, .slice none 0 0, .int .i64 0, .string ⟨#[]⟩, .slice none 0 0, .slice none 0 0] [y0, y1, y2, y3, y4, y5, y6, y7, y8] 206 96 := RB2.setb 3 (y3)
  have RB4 : R3 _ w.heap.size [u0, u1, u2, u3, u4, u5, u6, u7, u8] [y0, y1, y2, y3, y4, .int .i64 0, .string ⟨#[]⟩, .slice none 0 0, .slice none 0 0] [y0, y1, y2, y3, y4, y5, y6, y7, y8] 206 96 := RB3.setb 4 (y4)
  have RB5 : R3 _ w.heap.size [u0, u1, u2, u3, u4, u5, u6, u7, u8] [y0, y1, y2, y3, y4, y5, .string ⟨#[]⟩, .slice none 0 0, .slice none 0 0] [y0, y1, y2, y3, y4, y5, y6, y7, y8] 206 96 := RB4.setb 5 (y5)
  have RB6 : R3 _ w.heap.size [u0, u1, u2, u3, u4, u5, u6, u7, u8] [y0, y1, y2, y3, y4, y5, y6, .slice none 0 0, .slice none 0 0] [y0, y1, y2, y3, y4, y5, y6, y7, y8] 206 96 := RB5.setb 6 (y6)
  have RB7 : R3 _ w.heap.size [u0, u1, u2, u3, u4, u5, u6, u7, u8] [y0, y1, y2, y3, y4, y5, y6, y7, .slice none 0 0] [y0, y1, y2, y3, y4, y5, y6, y7, y8] 206 96 := RB6.setb 7 (y7)
  have RB8 : R3 _ w.heap.size [u0, u1, u2, u3, u4, u5, u6, u7, u8] [y0, y1, y2, y3, y4, y5, y6, y7, y8] [y0, y1, y2, y3, y4, y5, y6, y7, y8] 206 96 := RB7.setb 8 (y8)
  have pp0 := RB8.c2 0 rfl
  have pp1 := RB8.c2 1 rfl
  have pp2 := RB8.c2 2 rfl
  have pp3 := RB8.c2 3 rfl
  have pp4 := RB8.c2 4 rfl
  have pp5 := RB8.c2 5 rfl
  have pp6 := RB8.c2 6 rfl
  have pp7 := RB8.c2 7 rfl
  have pp8 := RB8.c2 8 rfl
  refine bodyPost_ret (v := .agg #[y0, y1, y2, y3, y4, y5, y6, y7, y8]) (by simp [results, Tryz.results164, go_sem, pp0, pp1, pp2, pp3, pp4, pp5, pp6, pp7, pp8]) rfl ?_
  have Z := setRow_below (g := w.heap.size + 1) [y0, y1, y2, y3, y4, y5, y6, y7, y8] 0 _ (HW9.out) (by omega)
  have Y0 := (((((((((P9_0.set (b := w.heap.size + 1) (by omega) 0 (y0)).set (b := w.heap.size + 1) (by omega) 1 (y1)).set (b := w.heap.size + 1) (by omega) 2 (y2)).set (b := w.heap.size + 1) (by omega) 3 (y3)).set (b := w.heap.size + 1) (by omega) 4 (y4)).set (b := w.heap.size + 1) (by omega) 5 (y5)).set (b := w.heap.size + 1) (by omega) 6 (y6)).set (b := w.heap.size + 1) (by omega) 7 (y7)).set (b := w.heap.size + 1) (by omega) 8 (y8))
  have Y1 := (((((((((P9_1.set (b := w.heap.size + 1) (by omega) 0 (y0)).set (b := w.heap.size + 1) (by omega) 1 (y1)).set (b := w.heap.size + 1) (by omega) 2 (y2)).set (b := w.heap.size + 1) (by omega) 3 (y3)).set (b := w.heap.size + 1) (by omega) 4 (y4)).set (b := w.heap.size + 1) (by omega) 5 (y5)).set (b := w.heap.size + 1) (by omega) 6 (y6)).set (b := w.heap.size + 1) (by omega) 7 (y7)).set (b := w.heap.size + 1) (by omega) 8 (y8))
  exact ⟨[y0, y1, y2, y3, y4, y5, y6, y7, y8], rfl, Z, rfl, all9 ((N0.out.past (Nat.le_refl _) Y0).mono (by omega)) ((N1.out.past (Nat.le_refl _) Y0).mono (by omega)) ((N2.out.past (Nat.le_refl _) Y1).mono (by omega)) ((N3.out.past (Nat.le_refl _) Y1).mono (by omega)) ((N4.out.past (Nat.le_refl _) Y1).mono (by omega)) ((N5.out.past (Nat.le_refl _) Y1).mono (by omega)) ((N6.out.past (Nat.le_refl _) Y1).mono (by omega)) ((N7.out.past (Nat.le_refl _) Y1).mono (by omega)) ((N8.out.past (Nat.le_refl _) Y1).mono (by omega))⟩
set_option maxHeartbeats 3200000 in
theorem toPart_c {sz0 : Nat} {x0 : List (List D)} (q0 : CopyC Tryz.prog 117 (.list sz0 x0)) {sz1 : Nat} {x1 : List (List D)} (q1 : CopyC Tryz.prog 118 (.list sz1 x1)) : CopyS Tryz.prog 75 [.list sz0 x0, .list sz1 x1] := by
  intro B w vs hl hx
  obtain ⟨u0, l0, rfl, hl0⟩ := len_cons hl
  obtain ⟨u1, l1, rfl, hl1⟩ := len_cons hl0
  obtain rfl := len_zero hl1
  have D0 := hid (hx 0 _ _ rfl rfl)
  have D1 := hid (hx 1 _ _ rfl rfl)
  clear hx hl hl0 hl1
  have R := R3.start w [u0, u1] [.slice none 0 0, .slice none 0 0] [.slice none 0 0, .slice none 0 0] 114 104
  have W := (((Below.refl w.heap.size w).alloc (Nat.le_refl _) (.cells [u0, u1].toArray 114)).alloc (by simp) (.cells [.slice none 0 0, .slice none 0 0].toArray 104)).alloc (by simp; omega) (.cells [.slice none 0 0, .slice none 0 0].toArray 104)
  have HR := hid R; have HW := hid W; clear R W
  go_enter Tryz.func75, Tryz.ntmps75
  go_wp2_with fail
  refine (q0 B _ _ (D0.out.frame (below_sameAll HW.out _))).mono ?_
  rintro e w1 ⟨y0, rfl, b1, n0⟩
  obtain ⟨ad0, cap0, rfl, _⟩ := n0.dr.slice
  obtain ⟨ln0, hln0⟩ : ∃ n, n = x0.length := ⟨_, rfl⟩
  rw [← hln0] at n0 ⊢; clear hln0
  have lo1 : w.heap.size + 1 + 1 + 1 ≤ _ := blk_lt HR.out.c
  have n0 := n0.mono lo1
  have N0 := hid n0; clear n0
  have RR1 := (HR.out).fwd b1
  have WW1 := (HW.out).trans (b1.mono (HW.out).size)
  have HRR1 := hid RR1; have HWW1 := hid WW1; clear RR1 WW1 lo1
  have a1_1 := HRR1.out.c1 1 rfl
  have b1_0 := HRR1.out.c3 0 rfl
  have g1_0 := HRR1.out.f3 0
  have b1_1 := HRR1.out.c3 1 rfl
  have g1_1 := HRR1.out.f3 1
  go_wp2_with fail
  clear a1_1 b1_0 b1_1 g1_0 g1_1
  have R1 : R3 _ w.heap.size [u0, u1] [.slice none 0 0, .slice none 0 0] [.slice ad0 ln0 cap0, .slice none 0 0] 114 104 := (HRR1.out).set 0 (.slice ad0 ln0 cap0)
  have W1 := (HWW1.out).setCell (p := ⟨w.heap.size + 1 + 1, 0, none⟩) (by show w.heap.size ≤ w.heap.size + 1 + 1; omega) (.slice ad0 ln0 cap0)
  have HR1 := hid R1; have HW1 := hid W1; clear R1 W1
  have P1_0 := (Past.refl (w.heap.size + 1 + 1 + 1) w1).set (b := w.heap.size + 1 + 1) (by omega) 0 (.slice ad0 ln0 cap0)
  refine (q1 B _ _ (D1.out.frame (below_sameAll HW1.out _))).mono ?_
  rintro e w2 ⟨y1, rfl, b2, n1⟩
  obtain ⟨ad1, cap1, rfl, _⟩ := n1.dr.slice
  obtain ⟨ln1, hln1⟩ : ∃ n, n = x1.length := ⟨_, rfl⟩
  rw [← hln1] at n1 ⊢; clear hln1
  have lo2 : w.heap.size + 1 + 1 + 1 ≤ _ := blk_lt HR1.out.c
  have n1 := n1.mono lo2
  have N1 := hid n1; clear n1
  have F2_0 := P1_0.fwd b2
  have RR2 := (HR1.out).fwd b2
  have WW2 := (HW1.out).trans (b2.mono (HW1.out).size)
  have HRR2 := hid RR2; have HWW2 := hid WW2; clear RR2 WW2 lo2
  have b2_0 := HRR2.out.c3 0 rfl
  have g2_0 := HRR2.out.f3 0
  have e2_0 := HRR2.out.c2 0 rfl
  have h2_0 := HRR2.out.f2 0
  have b2_1 := HRR2.out.c3 1 rfl
  have g2_1 := HRR2.out.f3 1
  have e2_1 := HRR2.out.c2 1 rfl
  have h2_1 := HRR2.out.f2 1
  go_wp2_with fail
  have R2 : R3 _ w.heap.size [u0, u1] [.slice none 0 0, .slice none 0 0] [.slice ad0 ln0 cap0, .slice ad1 ln1 cap1] 114 104 := (HRR2.out).set 1 (.slice ad1 ln1 cap1)
  have W2 := (HWW2.out).setCell (p := ⟨w.heap.size + 1 + 1, 1, none⟩) (by show w.heap.size ≤ w.heap.size + 1 + 1; omega) (.slice ad1 ln1 cap1)
  have HR2 := hid R2; have HW2 := hid W2; clear R2 W2
  have P2_0 := F2_0.set (b := w.heap.size + 1 + 1) (by omega) 1 (.slice ad1 ln1 cap1)
  have P2_1 := (Past.refl (w.heap.size + 1 + 1 + 1) w2).set (b := w.heap.size + 1 + 1) (by omega) 1 (.slice ad1 ln1 cap1)
  have RB0 : R3 _ w.heap.size [u0, u1] [.slice ad0 ln0 cap0, .slice none 0 0] [.slice ad0 ln0 cap0, .slice ad1 ln1 cap1] 114 104 := (HR2.out).setb 0 (.slice ad0 ln0 cap0)
  have RB1 : R3 _ w.heap.size [u0, u1] [.slice ad0 ln0 cap0, .slice ad1 ln1 cap1] [.slice ad0 ln0 cap0, .slice ad1 ln1 cap1] 114 104 := RB0.setb 1 (.slice ad1 ln1 cap1)
  have pp0 := RB1.c2 0 rfl
  have pp1 := RB1.c2 1 rfl
  refine bodyPost_ret (v := .agg #[.slice ad0 ln0 cap0, .slice ad1 ln1 cap1]) (by simp [results, Tryz.results75, go_sem, pp0, pp1]) rfl ?_
  have Z := setRow_below (g := w.heap.size + 1) [.slice ad0 ln0 cap0, .slice ad1 ln1 cap1] 0 _ (HW2.out) (by omega)
  have Y0 := ((P2_0.set (b := w.heap.size + 1) (by omega) 0 (.slice ad0 ln0 cap0)).set (b := w.heap.size + 1) (by omega) 1 (.slice ad1 ln1 cap1))
  have Y1 := ((P2_1.set (b := w.heap.size + 1) (by omega) 0 (.slice ad0 ln0 cap0)).set (b := w.heap.size + 1) (by omega) 1 (.slice ad1 ln1 cap1))
  exact ⟨[.slice ad0 ln0 cap0, .slice ad1 ln1 cap1], rfl, Z, rfl, all2 ((N0.out.past (Nat.le_refl _) Y0).mono (by omega)) ((N1.out.past (Nat.le_refl _) Y1).mono (by omega))⟩
set_option maxHeartbeats 3200000 in
theorem toProgram_c {sz0 : Nat} {x0 : List (List D)} (q0 : CopyC Tryz.prog 36 (.list sz0 x0)) {sz1 : Nat} {x1 : List (List D)} (q1 : CopyC Tryz.prog 37 (.list sz1 x1)) : CopyS Tryz.prog 12 [.list sz0 x0, .list sz1 x1] := by
  intro B w vs hl hx
  obtain ⟨u0, l0, rfl, hl0⟩ := len_cons hl
  obtain ⟨u1, l1, rfl, hl1⟩ := len_cons hl0
  obtain rfl := len_zero hl1
  have D0 := hid (hx 0 _ _ rfl rfl)
  have D1 := hid (hx 1 _ _ rfl rfl)
  clear hx hl hl0 hl1
  have R := R3.start w [u0, u1] [.slice none 0 0, .slice none 0 0] [.slice none 0 0, .slice none 0 0] 25 31
  have W := (((Below.refl w.heap.size w).alloc (Nat.le_refl _) (.cells [u0, u1].toArray 25)).alloc (by simp) (.cells [.slice none 0 0, .slice none 0 0].toArray 31)).alloc (by simp; omega) (.cells [.slice none 0 0, .slice none 0 0].toArray 31)
  have HR := hid R; have HW := hid W; clear R W
  go_enter Tryz.func12, Tryz.ntmps12
  go_wp2_with fail
  refine (q0 B _ _ (D0.out.frame (below_sameAll HW.out _))).mono ?_
  rintro e w1 ⟨y0, rfl, b1, n0⟩
  obtain ⟨ad0, cap0, rfl, _⟩ := n0.dr.slice
  obtain ⟨ln0, hln0⟩ : ∃ n, n = x0.length := ⟨_, rfl⟩
  rw [← hln0] at n0 ⊢; clear hln0
  have lo1 : w.heap.size + 1 + 1 + 1 ≤ _ := blk_lt HR.out.c
  have n0 := n0.mono lo1
  have N0 := hid n0; clear n0
  have RR1 := (HR.out).fwd b1
  have WW1 := (HW.out).trans (b1.mono (HW.out).size)
  have HRR1 := hid RR1; have HWW1 := hid WW1; clear RR1 WW1 lo1
  have a1_1 := HRR1.out.c1 1 rfl
  have b1_0 := HRR1.out.c3 0 rfl
  have g1_0 := HRR1.out.f3 0
  have b1_1 := HRR1.out.c3 1 rfl
  have g1_1 := HRR1.out.f3 1
  go_wp2_with fail
  clear a1_1 b1_0 b1_1 g1_0 g1_1
  have R1 : R3 _ w.heap.size [u0, u1] [.slice none 0 0, .slice none 0 0] [.slice ad0 ln0 cap0, .slice none 0 0] 25 31 := (HRR1.out).set 0 (.slice ad0 ln0 cap0)
  have W1 := (HWW1.out).setCell (p := ⟨w.heap.size + 1 + 1, 0, none⟩) (by show w.heap.size ≤ w.heap.size + 1 + 1; omega) (.slice ad0 ln0 cap0)
  have HR1 := hid R1; have HW1 := hid W1; clear R1 W1
  have P1_0 := (Past.refl (w.heap.size + 1 + 1 + 1) w1).set (b := w.heap.size + 1 + 1) (by omega) 0 (.slice ad0 ln0 cap0)
  refine (q1 B _ _ (D1.out.frame (below_sameAll HW1.out _))).mono ?_
  rintro e w2 ⟨y1, rfl, b2, n1⟩
  obtain ⟨ad1, cap1, rfl, _⟩ := n1.dr.slice
  obtain ⟨ln1, hln1⟩ : ∃ n, n = x1.length := ⟨_, rfl⟩
  rw [← hln1] at n1 ⊢; clear hln1
  have lo2 : w.heap.size + 1 + 1 + 1 ≤ _ := blk_lt HR1.out.c
  have n1 := n1.mono lo2
  have N1 := hid n1; clear n1
  have F2_0 := P1_0.fwd b2
  have RR2 := (HR1.out).fwd b2
  have WW2 := (HW1.out).trans (b2.mono (HW1.out).size)
  have HRR2 := hid RR2; have HWW2 := hid WW2; clear RR2 WW2 lo2
  have b2_0 := HRR2.out.c3 0 rfl
  have g2_0 := HRR2.out.f3 0
  have e2_0 := HRR2.out.c2 0 rfl
  have h2_0 := HRR2.out.f2 0
  have b2_1 := HRR2.out.c3 1 rfl
  have g2_1 := HRR2.out.f3 1
  have e2_1 := HRR2.out.c2 1 rfl
  have h2_1 := HRR2.out.f2 1
  go_wp2_with fail
  have R2 : R3 _ w.heap.size [u0, u1] [.slice none 0 0, .slice none 0 0] [.slice ad0 ln0 cap0, .slice ad1 ln1 cap1] 25 31 := (HRR2.out).set 1 (.slice ad1 ln1 cap1)
  have W2 := (HWW2.out).setCell (p := ⟨w.heap.size + 1 + 1, 1, none⟩) (by show w.heap.size ≤ w.heap.size + 1 + 1; omega) (.slice ad1 ln1 cap1)
  have HR2 := hid R2; have HW2 := hid W2; clear R2 W2
  have P2_0 := F2_0.set (b := w.heap.size + 1 + 1) (by omega) 1 (.slice ad1 ln1 cap1)
  have P2_1 := (Past.refl (w.heap.size + 1 + 1 + 1) w2).set (b := w.heap.size + 1 + 1) (by omega) 1 (.slice ad1 ln1 cap1)
  have RB0 : R3 _ w.heap.size [u0, u1] [.slice ad0 ln0 cap0, .slice none 0 0] [.slice ad0 ln0 cap0, .slice ad1 ln1 cap1] 25 31 := (HR2.out).setb 0 (.slice ad0 ln0 cap0)
  have RB1 : R3 _ w.heap.size [u0, u1] [.slice ad0 ln0 cap0, .slice ad1 ln1 cap1] [.slice ad0 ln0 cap0, .slice ad1 ln1 cap1] 25 31 := RB0.setb 1 (.slice ad1 ln1 cap1)
  have pp0 := RB1.c2 0 rfl
  have pp1 := RB1.c2 1 rfl
  refine bodyPost_ret (v := .agg #[.slice ad0 ln0 cap0, .slice ad1 ln1 cap1]) (by simp [results, Tryz.results12, go_sem, pp0, pp1]) rfl ?_
  have Z := setRow_below (g := w.heap.size + 1) [.slice ad0 ln0 cap0, .slice ad1 ln1 cap1] 0 _ (HW2.out) (by omega)
  have Y0 := ((P2_0.set (b := w.heap.size + 1) (by omega) 0 (.slice ad0 ln0 cap0)).set (b := w.heap.size + 1) (by omega) 1 (.slice ad1 ln1 cap1))
  have Y1 := ((P2_1.set (b := w.heap.size + 1) (by omega) 0 (.slice ad0 ln0 cap0)).set (b := w.heap.size + 1) (by omega) 1 (.slice ad1 ln1 cap1))
  exact ⟨[.slice ad0 ln0 cap0, .slice ad1 ln1 cap1], rfl, Z, rfl, all2 ((N0.out.past (Nat.le_refl _) Y0).mono (by omega)) ((N1.out.past (Nat.le_refl _) Y1).mono (by omega))⟩
set_option maxHeartbeats 3200000 in
theorem markArrayS_k {rows : List (List D)} (h : ∀ r ∈ rows, ∃ (e0 : Value), ∃ (x1 : D), r = [.val e0, x1] ∧ MarkC Tryz.prog 19 x1) : MarkC Tryz.prog 48 (.list 2 rows) := by
  intro S w v k hx hk0 hk1
  obtain ⟨ad, cap, rfl, hle⟩ := hx.slice
  obtain ⟨n, hn⟩ : ∃ n, n = rows.length := ⟨_, rfl⟩
  rw [← hn] at hx hle ⊢
  have Hn := hid hn; clear hn
  rw [wgt] at hk1 ⊢
  have Hx := hid hx; clear hx
  have Hk := hid hk1; clear hk1
  go_enter Tryz.func48, Tryz.ntmps48
  go_wp2
  go_loopw [1, 5] (fun q i wr => ∃ (j : Nat) (K : Int), j ≤ n ∧ i = .int .i64 j ∧ q = .int .i64 K ∧ Hid (K = k + wgtR (rows.take j)) ∧ Marked S w wr) (fun _ i _ => n - (intOf i).toNat)
  case atStart => exact ⟨0, k, Nat.zero_le _, rfl, rfl, hid (by simp [wgtR]), Marked.refl _ _⟩
  case round =>
    obtain ⟨j, K, hj, rfl, rfl, HK, hm⟩ := hrel
    by_cases hlt : j < n
    · obtain ⟨r, hr⟩ : ∃ r, rows[j]? = some r := ⟨_, List.getElem?_eq_getElem (by rw [← Hn.out]; exact hlt)⟩
      have hs := wgtR_take hr
      obtain ⟨e0, x1, rfl, q1⟩ := h r (List.mem_of_getElem? hr)
      obtain ⟨g1, hg1, q1⟩ : ∃ g, wgt x1 = g ∧ MarkN Tryz.prog 19 x1 g := ⟨_, rfl, q1⟩
      have hs : wgtR (rows.take (j + 1)) = wgtR (rows.take j) + (1 + g1) := by rw [hs]; simp only [wgtL, wgt, hg1]; try omega
      have hK0 : 0 ≤ K := by have := HK.out; omega
      have hK1 : K + (1 + g1 : Nat) ≤ 4611686018427387904 := by have := Hk.out; have := HK.out; have := wgtR_le rows (j + 1); omega
      obtain ⟨b, off, rfl, hS, _, _⟩ := (Hx.out.mark hm).at hr (by simp)
      have Hs := hid hs; clear hs hg1
      have Hr := hid hr; clear hr
      have Hq := hid hK1; clear hK1
      have hw := Hq.out
      go_wp2_with fail
      clear hw
      refine (markText_k _ _ (by omega) (by have := Hq.out; omega)).mono ?_
      rintro e w1 ⟨t1, rfl, b1⟩
      have M1 := hm.trans (marked_of b1 S)
      obtain ⟨u1, c1, f1, d1⟩ := (Hx.out.mark M1).row Hr.out 0 rfl (o := off + j * 2) (by omega)
      have d1 := d1.leaf
      have m1 := M1.trans (Marked.set (t := .string t1) hS c1 d1 rfl)
      obtain ⟨u2, c2, f2, d2⟩ := (Hx.out.mark m1).row Hr.out 1 rfl (o := off + j * 2 + 1) (by omega)
      have hw := Hq.out
      go_wp2_with fail
      clear hw
      refine (q1 S _ _ _ d2 (by omega) (by have := Hq.out; omega)).mono ?_
      rintro e w2 ⟨rfl, b2⟩
      have M2 := m1.trans b2
      have hw := Hq.out
      go_wp2_with fail
      clear hw
      exact ⟨⟨j + 1, K + 1 + (g1 : Nat), by omega, rfl, rfl, hid (by have := HK.out; have := Hs.out; omega), M2⟩, by simp [intOf]; omega⟩
    · have : j = n := by omega
      subst this
      go_wp2
      go_ret
      exact ⟨ret_int (by rw [HK.out, Hn.out, List.take_length]), hm⟩
set_option maxHeartbeats 3200000 in
theorem markAffineS_k {rows : List (List D)} (h : ∀ r ∈ rows, ∃ (e1 : Value), ∃ (x0 : D), r = [x0, .val e1] ∧ MarkC Tryz.prog 19 x0) : MarkC Tryz.prog 132 (.list 2 rows) := by
  intro S w v k hx hk0 hk1
  obtain ⟨ad, cap, rfl, hle⟩ := hx.slice
  obtain ⟨n, hn⟩ : ∃ n, n = rows.length := ⟨_, rfl⟩
  rw [← hn] at hx hle ⊢
  have Hn := hid hn; clear hn
  rw [wgt] at hk1 ⊢
  have Hx := hid hx; clear hx
  have Hk := hid hk1; clear hk1
  go_enter Tryz.func132, Tryz.ntmps132
  go_wp2
  go_loopw [1, 5] (fun q i wr => ∃ (j : Nat) (K : Int), j ≤ n ∧ i = .int .i64 j ∧ q = .int .i64 K ∧ Hid (K = k + wgtR (rows.take j)) ∧ Marked S w wr) (fun _ i _ => n - (intOf i).toNat)
  case atStart => exact ⟨0, k, Nat.zero_le _, rfl, rfl, hid (by simp [wgtR]), Marked.refl _ _⟩
  case round =>
    obtain ⟨j, K, hj, rfl, rfl, HK, hm⟩ := hrel
    by_cases hlt : j < n
    · obtain ⟨r, hr⟩ : ∃ r, rows[j]? = some r := ⟨_, List.getElem?_eq_getElem (by rw [← Hn.out]; exact hlt)⟩
      have hs := wgtR_take hr
      obtain ⟨e1, x0, rfl, q0⟩ := h r (List.mem_of_getElem? hr)
      obtain ⟨g0, hg0, q0⟩ : ∃ g, wgt x0 = g ∧ MarkN Tryz.prog 19 x0 g := ⟨_, rfl, q0⟩
      have hs : wgtR (rows.take (j + 1)) = wgtR (rows.take j) + (g0 + 1) := by rw [hs]; simp only [wgtL, wgt, hg0]; try omega
      have hK0 : 0 ≤ K := by have := HK.out; omega
      have hK1 : K + (g0 + 1 : Nat) ≤ 4611686018427387904 := by have := Hk.out; have := HK.out; have := wgtR_le rows (j + 1); omega
      obtain ⟨b, off, rfl, hS, _, _⟩ := (Hx.out.mark hm).at hr (by simp)
      have Hs := hid hs; clear hs hg0
      have Hr := hid hr; clear hr
      have Hq := hid hK1; clear hK1
      obtain ⟨u1, c1, f1, d1⟩ := (Hx.out.mark hm).row Hr.out 0 rfl (o := off + j * 2) (by omega)
      have hw := Hq.out
      go_wp2_with fail
      clear hw
      refine (q0 S _ _ _ d1 (by omega) (by have := Hq.out; omega)).mono ?_
      rintro e w1 ⟨rfl, b1⟩
      have M1 := hm.trans b1
      obtain ⟨u2, c2, f2, d2⟩ := (Hx.out.mark M1).row Hr.out 1 rfl (o := off + j * 2 + 1) (by omega)
      have d2 := d2.leaf
      have m2 := M1.trans (Marked.set (t := .int .i64 (K + (g0 : Nat))) hS c2 d2 rfl)
      have hw := Hq.out
      go_wp2_with fail
      clear hw
      exact ⟨⟨j + 1, K + (g0 : Nat) + 1, by omega, rfl, rfl, hid (by have := HK.out; have := Hs.out; omega), m2⟩, by simp [intOf]; omega⟩
    · have : j = n := by omega
      subst this
      go_wp2
      go_ret
      exact ⟨ret_int (by rw [HK.out, Hn.out, List.take_length]), hm⟩
set_option maxHeartbeats 3200000 in
theorem markLoopS_k {rows : List (List D)} (h : ∀ r ∈ rows, ∃ (x0 x1 : D), r = [x0, x1] ∧ MarkC Tryz.prog 132 x0 ∧ MarkC Tryz.prog 132 x1) : MarkC Tryz.prog 84 (.list 2 rows) := by
  intro S w v k hx hk0 hk1
  obtain ⟨ad, cap, rfl, hle⟩ := hx.slice
  obtain ⟨n, hn⟩ : ∃ n, n = rows.length := ⟨_, rfl⟩
  rw [← hn] at hx hle ⊢
  have Hn := hid hn; clear hn
  rw [wgt] at hk1 ⊢
  have Hx := hid hx; clear hx
  have Hk := hid hk1; clear hk1
  go_enter Tryz.func84, Tryz.ntmps84
  go_wp2
  go_loopw [1, 5] (fun q i wr => ∃ (j : Nat) (K : Int), j ≤ n ∧ i = .int .i64 j ∧ q = .int .i64 K ∧ Hid (K = k + wgtR (rows.take j)) ∧ Marked S w wr) (fun _ i _ => n - (intOf i).toNat)
  case atStart => exact ⟨0, k, Nat.zero_le _, rfl, rfl, hid (by simp [wgtR]), Marked.refl _ _⟩
  case round =>
    obtain ⟨j, K, hj, rfl, rfl, HK, hm⟩ := hrel
    by_cases hlt : j < n
    · obtain ⟨r, hr⟩ : ∃ r, rows[j]? = some r := ⟨_, List.getElem?_eq_getElem (by rw [← Hn.out]; exact hlt)⟩
      have hs := wgtR_take hr
      obtain ⟨x0, x1, rfl, q0, q1⟩ := h r (List.mem_of_getElem? hr)
      obtain ⟨g0, hg0, q0⟩ : ∃ g, wgt x0 = g ∧ MarkN Tryz.prog 132 x0 g := ⟨_, rfl, q0⟩
      obtain ⟨g1, hg1, q1⟩ : ∃ g, wgt x1 = g ∧ MarkN Tryz.prog 132 x1 g := ⟨_, rfl, q1⟩
      have hs : wgtR (rows.take (j + 1)) = wgtR (rows.take j) + (g0 + g1) := by rw [hs]; simp only [wgtL, wgt, hg0, hg1]; try omega
      have hK0 : 0 ≤ K := by have := HK.out; omega
      have hK1 : K + (g0 + g1 : Nat) ≤ 4611686018427387904 := by have := Hk.out; have := HK.out; have := wgtR_le rows (j + 1); omega
      obtain ⟨b, off, rfl, hS, _, _⟩ := (Hx.out.mark hm).at hr (by simp)
      have Hs := hid hs; clear hs hg0 hg1
      have Hr := hid hr; clear hr
      have Hq := hid hK1; clear hK1
      obtain ⟨u1, c1, f1, d1⟩ := (Hx.out.mark hm).row Hr.out 0 rfl (o := off + j * 2) (by omega)
      have hw := Hq.out
      go_wp2_with fail
      clear hw
      refine (q0 S _ _ _ d1 (by omega) (by have := Hq.out; omega)).mono ?_
      rintro e w1 ⟨rfl, b1⟩
      have M1 := hm.trans b1
      obtain ⟨u2, c2, f2, d2⟩ := (Hx.out.mark M1).row Hr.out 1 rfl (o := off + j * 2 + 1) (by omega)
      have hw := Hq.out
      go_wp2_with fail
      clear hw
      refine (q1 S _ _ _ d2 (by omega) (by have := Hq.out; omega)).mono ?_
      rintro e w2 ⟨rfl, b2⟩
      have M2 := M1.trans b2
      have hw := Hq.out
      go_wp2_with fail
      clear hw
      exact ⟨⟨j + 1, K + (g0 : Nat) + (g1 : Nat), by omega, rfl, rfl, hid (by have := HK.out; have := Hs.out; omega), M2⟩, by simp [intOf]; omega⟩
    · have : j = n := by omega
      subst this
      go_wp2
      go_ret
      exact ⟨ret_int (by rw [HK.out, Hn.out, List.take_length]), hm⟩
set_option maxHeartbeats 3200000 in
theorem markExprS_k {rows : List (List D)} (h : ∀ r ∈ rows, ∃ (e0 e1 e3 e4 : Value), ∃ (x2 x5 x6 : D), r = [.val e0, .val e1, x2, .val e3, .val e4, x5, x6] ∧ MarkC Tryz.prog 19 x2 ∧ MarkC Tryz.prog 132 x5 ∧ MarkC Tryz.prog 133 x6) : MarkC Tryz.prog 133 (.list 7 rows) := by
  intro S w v k hx hk0 hk1
  obtain ⟨ad, cap, rfl, hle⟩ := hx.slice
  obtain ⟨n, hn⟩ : ∃ n, n = rows.length := ⟨_, rfl⟩
  rw [← hn] at hx hle ⊢
  have Hn := hid hn; clear hn
  rw [wgt] at hk1 ⊢
  have Hx := hid hx; clear hx
  have Hk := hid hk1; clear hk1
  go_enter Tryz.func133, Tryz.ntmps133
  go_wp2
  go_loopw [1, 5] (fun q i wr => ∃ (j : Nat) (K : Int), j ≤ n ∧ i = .int .i64 j ∧ q = .int .i64 K ∧ Hid (K = k + wgtR (rows.take j)) ∧ Marked S w wr) (fun _ i _ => n - (intOf i).toNat)
  case atStart => exact ⟨0, k, Nat.zero_le _, rfl, rfl, hid (by simp [wgtR]), Marked.refl _ _⟩
  case round =>
    obtain ⟨j, K, hj, rfl, rfl, HK, hm⟩ := hrel
    by_cases hlt : j < n
    · obtain ⟨r, hr⟩ : ∃ r, rows[j]? = some r := ⟨_, List.getElem?_eq_getElem (by rw [← Hn.out]; exact hlt)⟩
      have hs := wgtR_take hr
      obtain ⟨e0, e1, e3, e4, x2, x5, x6, rfl, q2, q5, q6⟩ := h r (List.mem_of_getElem? hr)
      obtain ⟨g2, hg2, q2⟩ : ∃ g, wgt x2 = g ∧ MarkN Tryz.prog 19 x2 g := ⟨_, rfl, q2⟩
      obtain ⟨g5, hg5, q5⟩ : ∃ g, wgt x5 = g ∧ MarkN Tryz.prog 132 x5 g := ⟨_, rfl, q5⟩
      obtain ⟨g6, hg6, q6⟩ : ∃ g, wgt x6 = g ∧ MarkN Tryz.prog 133 x6 g := ⟨_, rfl, q6⟩
      have hs : wgtR (rows.take (j + 1)) = wgtR (rows.take j) + (1 + 1 + g2 + 1 + 1 + g5 + g6) := by rw [hs]; simp only [wgtL, wgt, hg2, hg5, hg6]; try omega
      have hK0 : 0 ≤ K := by have := HK.out; omega
      have hK1 : K + (1 + 1 + g2 + 1 + 1 + g5 + g6 : Nat) ≤ 4611686018427387904 := by have := Hk.out; have := HK.out; have := wgtR_le rows (j + 1); omega
      obtain ⟨b, off, rfl, hS, _, _⟩ := (Hx.out.mark hm).at hr (by simp)
      have Hs := hid hs; clear hs hg2 hg5 hg6
      have Hr := hid hr; clear hr
      have Hq := hid hK1; clear hK1
      obtain ⟨u1, c1, f1, d1⟩ := (Hx.out.mark hm).row Hr.out 0 rfl (o := off + j * 7) (by omega)
      have d1 := d1.leaf
      have m1 := hm.trans (Marked.set (t := .int .i64 (K)) hS c1 d1 rfl)
      obtain ⟨u2, c2, f2, d2⟩ := (Hx.out.mark m1).row Hr.out 1 rfl (o := off + j * 7 + 1) (by omega)
      have d2 := d2.leaf
      have m2 := m1.trans (Marked.set (t := .int .i64 (K + 1)) hS c2 d2 rfl)
      obtain ⟨u3, c3, f3, d3⟩ := (Hx.out.mark m2).row Hr.out 2 rfl (o := off + j * 7 + 2) (by omega)
      have hw := Hq.out
      go_wp2_with fail
      clear hw
      refine (q2 S _ _ _ d3 (by omega) (by have := Hq.out; omega)).mono ?_
      rintro e w1 ⟨rfl, b1⟩
      have M1 := m2.trans b1
      obtain ⟨u4, c4, f4, d4⟩ := (Hx.out.mark M1).row Hr.out 3 rfl (o := off + j * 7 + 2 + 1) (by omega)
      have d4 := d4.leaf
      have m4 := M1.trans (Marked.set (t := .int .i64 (K + 1 + 1 + (g2 : Nat))) hS c4 d4 rfl)
      have hw := Hq.out
      go_wp2_with fail
      clear hw
      refine (markText_k _ _ (by omega) (by have := Hq.out; omega)).mono ?_
      rintro e w2 ⟨t2, rfl, b2⟩
      have M2 := m4.trans (marked_of b2 S)
      obtain ⟨u5, c5, f5, d5⟩ := (Hx.out.mark M2).row Hr.out 4 rfl (o := off + j * 7 + 4) (by omega)
      have d5 := d5.leaf
      have m5 := M2.trans (Marked.set (t := .string t2) hS c5 d5 rfl)
      obtain ⟨u6, c6, f6, d6⟩ := (Hx.out.mark m5).row Hr.out 5 rfl (o := off + j * 7 + 4 + 1) (by omega)
      have hw := Hq.out
      go_wp2_with fail
      clear hw
      refine (q5 S _ _ _ d6 (by omega) (by have := Hq.out; omega)).mono ?_
      rintro e w3 ⟨rfl, b3⟩
      have M3 := m5.trans b3
      obtain ⟨u7, c7, f7, d7⟩ := (Hx.out.mark M3).row Hr.out 6 rfl (o := off + j * 7 + 6) (by omega)
      have hw := Hq.out
      go_wp2_with fail
      clear hw
      refine (q6 S _ _ _ d7 (by omega) (by have := Hq.out; omega)).mono ?_
      rintro e w4 ⟨rfl, b4⟩
      have M4 := M3.trans b4
      have hw := Hq.out
      go_wp2_with fail
      clear hw
      exact ⟨⟨j + 1, K + 1 + 1 + (g2 : Nat) + 1 + 1 + (g5 : Nat) + (g6 : Nat), by omega, rfl, rfl, hid (by have := HK.out; have := Hs.out; omega), M4⟩, by simp [intOf]; omega⟩
    · have : j = n := by omega
      subst this
      go_wp2
      go_ret
      exact ⟨ret_int (by rw [HK.out, Hn.out, List.take_length]), hm⟩
set_option maxHeartbeats 3200000 in
theorem markStmtS_k {rows : List (List D)} (h : ∀ r ∈ rows, ∃ (e0 e2 e3 e5 e6 : Value), ∃ (x1 x4 x7 x8 : D), r = [.val e0, x1, .val e2, .val e3, x4, .val e5, .val e6, x7, x8] ∧ MarkC Tryz.prog 132 x1 ∧ MarkC Tryz.prog 19 x4 ∧ MarkC Tryz.prog 132 x7 ∧ MarkC Tryz.prog 133 x8) : MarkC Tryz.prog 85 (.list 9 rows) := by
  intro S w v k hx hk0 hk1
  obtain ⟨ad, cap, rfl, hle⟩ := hx.slice
  obtain ⟨n, hn⟩ : ∃ n, n = rows.length := ⟨_, rfl⟩
  rw [← hn] at hx hle ⊢
  have Hn := hid hn; clear hn
  rw [wgt] at hk1 ⊢
  have Hx := hid hx; clear hx
  have Hk := hid hk1; clear hk1
  go_enter Tryz.func85, Tryz.ntmps85
  go_wp2
  go_loopw [1, 5] (fun q i wr => ∃ (j : Nat) (K : Int), j ≤ n ∧ i = .int .i64 j ∧ q = .int .i64 K ∧ Hid (K = k + wgtR (rows.take j)) ∧ Marked S w wr) (fun _ i _ => n - (intOf i).toNat)
  case atStart => exact ⟨0, k, Nat.zero_le _, rfl, rfl, hid (by simp [wgtR]), Marked.refl _ _⟩
  case round =>
    obtain ⟨j, K, hj, rfl, rfl, HK, hm⟩ := hrel
    by_cases hlt : j < n
    · obtain ⟨r, hr⟩ : ∃ r, rows[j]? = some r := ⟨_, List.getElem?_eq_getElem (by rw [← Hn.out]; exact hlt)⟩
      have hs := wgtR_take hr
      obtain ⟨e0, e2, e3, e5, e6, x1, x4, x7, x8, rfl, q1, q4, q7, q8⟩ := h r (List.mem_of_getElem? hr)
      obtain ⟨g1, hg1, q1⟩ : ∃ g, wgt x1 = g ∧ MarkN Tryz.prog 132 x1 g := ⟨_, rfl, q1⟩
      obtain ⟨g4, hg4, q4⟩ : ∃ g, wgt x4 = g ∧ MarkN Tryz.prog 19 x4 g := ⟨_, rfl, q4⟩
      obtain ⟨g7, hg7, q7⟩ : ∃ g, wgt x7 = g ∧ MarkN Tryz.prog 132 x7 g := ⟨_, rfl, q7⟩
      obtain ⟨g8, hg8, q8⟩ : ∃ g, wgt x8 = g ∧ MarkN Tryz.prog 133 x8 g := ⟨_, rfl, q8⟩
      have hs : wgtR (rows.take (j + 1)) = wgtR (rows.take j) + (1 + g1 + 1 + 1 + g4 + 1 + 1 + g7 + g8) := by rw [hs]; simp only [wgtL, wgt, hg1, hg4, hg7, hg8]; try omega
      have hK0 : 0 ≤ K := by have := HK.out; omega
      have hK1 : K + (1 + g1 + 1 + 1 + g4 + 1 + 1 + g7 + g8 : Nat) ≤ 4611686018427387904 := by have := Hk.out; have := HK.out; have := wgtR_le rows (j + 1); omega
      obtain ⟨b, off, rfl, hS, _, _⟩ := (Hx.out.mark hm).at hr (by simp)
      have Hs := hid hs; clear hs hg1 hg4 hg7 hg8
      have Hr := hid hr; clear hr
      have Hq := hid hK1; clear hK1
      have hw := Hq.out
      go_wp2_with fail
      clear hw
      refine (markText_k _ _ (by omega) (by have := Hq.out; omega)).mono ?_
      rintro e w1 ⟨t1, rfl, b1⟩
      have M1 := hm.trans (marked_of b1 S)
      obtain ⟨u1, c1, f1, d1⟩ := (Hx.out.mark M1).row Hr.out 0 rfl (o := off + j * 9) (by omega)
      have d1 := d1.leaf
      have m1 := M1.trans (Marked.set (t := .string t1) hS c1 d1 rfl)
      obtain ⟨u2, c2, f2, d2⟩ := (Hx.out.mark m1).row Hr.out 1 rfl (o := off + j * 9 + 1) (by omega)
      have hw := Hq.out
      go_wp2_with fail
      clear hw
      refine (q1 S _ _ _ d2 (by omega) (by have := Hq.out; omega)).mono ?_
      rintro e w2 ⟨rfl, b2⟩
      have M2 := m1.trans b2
      obtain ⟨u3, c3, f3, d3⟩ := (Hx.out.mark M2).row Hr.out 2 rfl (o := off + j * 9 + 2) (by omega)
      have d3 := d3.leaf
      have m3 := M2.trans (Marked.set (t := .int .i64 (K + 1 + (g1 : Nat))) hS c3 d3 rfl)
      obtain ⟨u4, c4, f4, d4⟩ := (Hx.out.mark m3).row Hr.out 3 rfl (o := off + j * 9 + 2 + 1) (by omega)
      have d4 := d4.leaf
      have m4 := m3.trans (Marked.set (t := .int .i64 (K + 1 + (g1 : Nat) + 1)) hS c4 d4 rfl)
      obtain ⟨u5, c5, f5, d5⟩ := (Hx.out.mark m4).row Hr.out 4 rfl (o := off + j * 9 + 2 + 2) (by omega)
      have hw := Hq.out
      go_wp2_with fail
      clear hw
      refine (q4 S _ _ _ d5 (by omega) (by have := Hq.out; omega)).mono ?_
      rintro e w3 ⟨rfl, b3⟩
      have M3 := m4.trans b3
      obtain ⟨u6, c6, f6, d6⟩ := (Hx.out.mark M3).row Hr.out 5 rfl (o := off + j * 9 + 2 + 2 + 1) (by omega)
      have d6 := d6.leaf
      have m6 := M3.trans (Marked.set (t := .int .i64 (K + 1 + (g1 : Nat) + 1 + 1 + (g4 : Nat))) hS c6 d6 rfl)
      have hw := Hq.out
      go_wp2_with fail
      clear hw
      refine (markText_k _ _ (by omega) (by have := Hq.out; omega)).mono ?_
      rintro e w4 ⟨t4, rfl, b4⟩
      have M4 := m6.trans (marked_of b4 S)
      obtain ⟨u7, c7, f7, d7⟩ := (Hx.out.mark M4).row Hr.out 6 rfl (o := off + j * 9 + 2 + 4) (by omega)
      have d7 := d7.leaf
      have m7 := M4.trans (Marked.set (t := .string t4) hS c7 d7 rfl)
      obtain ⟨u8, c8, f8, d8⟩ := (Hx.out.mark m7).row Hr.out 7 rfl (o := off + j * 9 + 2 + 4 + 1) (by omega)
      have hw := Hq.out
      go_wp2_with fail
      clear hw
      refine (q7 S _ _ _ d8 (by omega) (by have := Hq.out; omega)).mono ?_
      rintro e w5 ⟨rfl, b5⟩
      have M5 := m7.trans b5
      obtain ⟨u9, c9, f9, d9⟩ := (Hx.out.mark M5).row Hr.out 8 rfl (o := off + j * 9 + 2 + 6) (by omega)
      have hw := Hq.out
      go_wp2_with fail
      clear hw
      refine (q8 S _ _ _ d9 (by omega) (by have := Hq.out; omega)).mono ?_
      rintro e w6 ⟨rfl, b6⟩
      have M6 := M5.trans b6
      have hw := Hq.out
      go_wp2_with fail
      clear hw
      exact ⟨⟨j + 1, K + 1 + (g1 : Nat) + 1 + 1 + (g4 : Nat) + 1 + 1 + (g7 : Nat) + (g8 : Nat), by omega, rfl, rfl, hid (by have := HK.out; have := Hs.out; omega), M6⟩, by simp [intOf]; omega⟩
    · have : j = n := by omega
      subst this
      go_wp2
      go_ret
      exact ⟨ret_int (by rw [HK.out, Hn.out, List.take_length]), hm⟩
set_option maxHeartbeats 3200000 in
theorem markPartS_k {rows : List (List D)} (h : ∀ r ∈ rows, ∃ (x0 x1 : D), r = [x0, x1] ∧ MarkC Tryz.prog 84 x0 ∧ MarkC Tryz.prog 85 x1) : MarkC Tryz.prog 49 (.list 2 rows) := by
  intro S w v k hx hk0 hk1
  obtain ⟨ad, cap, rfl, hle⟩ := hx.slice
  obtain ⟨n, hn⟩ : ∃ n, n = rows.length := ⟨_, rfl⟩
  rw [← hn] at hx hle ⊢
  have Hn := hid hn; clear hn
  rw [wgt] at hk1 ⊢
  have Hx := hid hx; clear hx
  have Hk := hid hk1; clear hk1
  go_enter Tryz.func49, Tryz.ntmps49
  go_wp2
  go_loopw [1, 5] (fun q i wr => ∃ (j : Nat) (K : Int), j ≤ n ∧ i = .int .i64 j ∧ q = .int .i64 K ∧ Hid (K = k + wgtR (rows.take j)) ∧ Marked S w wr) (fun _ i _ => n - (intOf i).toNat)
  case atStart => exact ⟨0, k, Nat.zero_le _, rfl, rfl, hid (by simp [wgtR]), Marked.refl _ _⟩
  case round =>
    obtain ⟨j, K, hj, rfl, rfl, HK, hm⟩ := hrel
    by_cases hlt : j < n
    · obtain ⟨r, hr⟩ : ∃ r, rows[j]? = some r := ⟨_, List.getElem?_eq_getElem (by rw [← Hn.out]; exact hlt)⟩
      have hs := wgtR_take hr
      obtain ⟨x0, x1, rfl, q0, q1⟩ := h r (List.mem_of_getElem? hr)
      obtain ⟨g0, hg0, q0⟩ : ∃ g, wgt x0 = g ∧ MarkN Tryz.prog 84 x0 g := ⟨_, rfl, q0⟩
      obtain ⟨g1, hg1, q1⟩ : ∃ g, wgt x1 = g ∧ MarkN Tryz.prog 85 x1 g := ⟨_, rfl, q1⟩
      have hs : wgtR (rows.take (j + 1)) = wgtR (rows.take j) + (g0 + g1) := by rw [hs]; simp only [wgtL, wgt, hg0, hg1]; try omega
      have hK0 : 0 ≤ K := by have := HK.out; omega
      have hK1 : K + (g0 + g1 : Nat) ≤ 4611686018427387904 := by have := Hk.out; have := HK.out; have := wgtR_le rows (j + 1); omega
      obtain ⟨b, off, rfl, hS, _, _⟩ := (Hx.out.mark hm).at hr (by simp)
      have Hs := hid hs; clear hs hg0 hg1
      have Hr := hid hr; clear hr
      have Hq := hid hK1; clear hK1
      obtain ⟨u1, c1, f1, d1⟩ := (Hx.out.mark hm).row Hr.out 0 rfl (o := off + j * 2) (by omega)
      have hw := Hq.out
      go_wp2_with fail
      clear hw
      refine (q0 S _ _ _ d1 (by omega) (by have := Hq.out; omega)).mono ?_
      rintro e w1 ⟨rfl, b1⟩
      have M1 := hm.trans b1
      obtain ⟨u2, c2, f2, d2⟩ := (Hx.out.mark M1).row Hr.out 1 rfl (o := off + j * 2 + 1) (by omega)
      have hw := Hq.out
      go_wp2_with fail
      clear hw
      refine (q1 S _ _ _ d2 (by omega) (by have := Hq.out; omega)).mono ?_
      rintro e w2 ⟨rfl, b2⟩
      have M2 := M1.trans b2
      have hw := Hq.out
      go_wp2_with fail
      clear hw
      exact ⟨⟨j + 1, K + (g0 : Nat) + (g1 : Nat), by omega, rfl, rfl, hid (by have := HK.out; have := Hs.out; omega), M2⟩, by simp [intOf]; omega⟩
    · have : j = n := by omega
      subst this
      go_wp2
      go_ret
      exact ⟨ret_int (by rw [HK.out, Hn.out, List.take_length]), hm⟩
theorem wgtR_map {α : Type} {f : α → List D} {s : α → Nat} {c : Nat} : ∀ {l : List α}, (∀ x ∈ l, wgtL (f x) ≤ c * (1 + s x)) → wgtR (l.map f) ≤ c * (l.length + (l.map s).sum)
  | [], _ => by simp [wgtR]
  | x :: l, h => by
    have h1 := h x (by simp)
    have h2 := wgtR_map (f := f) (s := s) (c := c) (l := l) fun y hy => h y (by simp [hy])
    rw [List.map_cons, wgtR, List.map_cons, List.sum_cons, List.length_cons]
    have e : c * (l.length + 1 + (s x + (l.map s).sum)) = c * (1 + s x) + c * (l.length + (l.map s).sum) := by rw [← Nat.mul_add]; congr 1; omega
    omega
theorem wgt_ints (xs : List Int) : wgt (dIs xs) = xs.length := by
  rw [dIs, wgt, wgtR_leafs (by intro r hr; obtain ⟨z, _, rfl⟩ := List.mem_map.1 hr; exact ⟨_, rfl⟩), List.length_map]
theorem wgt_affs (l : List Aff) : wgt (dAs l) ≤ szAs l := by
  rw [dAs, wgt, szAs]
  have := wgtR_map (f := rA) (s := fun a => a.1.length) (c := 1) (l := l) fun x _ => by simp only [rA, wgtL, wgt_ints]; simp [dI, wgt]; omega
  rwa [Nat.one_mul] at this
theorem wgt_lps (l : List Lp) : wgt (dLs l) ≤ szLs l := by
  rw [dLs, wgt, szLs]
  have := wgtR_map (f := rL) (s := szL) (c := 1) (l := l) fun x _ => by
    have h1 := wgt_affs x.1
    have h2 := wgt_affs x.2
    simp only [rL, wgtL, szL]; omega
  rwa [Nat.one_mul] at this
theorem szEs_sum : ∀ l : List Ex, szEs l = (l.map szE).sum
  | [] => rfl
  | e :: l => by rw [szEs, szEs_sum l]; simp
theorem wgt_ex (e : Ex) : wgtL (rX e) ≤ 4 * (1 + szE e) := by
  induction e using Ex.rec' with
  | h e ih =>
    rw [szE_eq, szEs_sum]
    have h1 := wgt_affs e.r.2
    have h2 := wgtR_map (f := rX) (s := szE) (c := 4) (l := e.ks) fun x hx => ih x hx
    have h3 : wgt (dEs e.ks) = wgtR (e.ks.map rX) := by
      rw [dEs, wgt, show rE = rX from funext fun e => rE_eq e]
    simp only [rX, wgtL, wgt_ints, h3, szC]
    simp only [dI, dS, wgt]
    omega
theorem wgt_exs (l : List Ex) : wgt (dEs l) ≤ 4 * (l.length + szEs l) := by
  rw [dEs, wgt, szEs_sum, show rE = rX from funext fun e => rE_eq e]
  exact wgtR_map fun x _ => wgt_ex x
theorem wgt_stm (s : Stm) : wgtL (rS s) ≤ 5 * (1 + szS s) := by
  have h1 := wgt_affs s.1.2
  have h2 := wgt_affs s.2.r.2
  have h3 := wgt_exs s.2.ks
  have h4 := szE_eq s.2
  simp only [rS, wgtL, wgt_ints, szS, szC] at *
  simp only [dI, dS, wgt]
  omega
theorem wgt_stms (l : List Stm) : wgt (dMs l) ≤ 5 * szO szS l := by
  rw [dMs, wgt, szO]
  exact wgtR_map fun x _ => wgt_stm x
theorem wgt_prts (l : List Prt) : wgt (dPts l) ≤ 5 * szO szPt l := by
  rw [dPts, wgt, szO]
  refine wgtR_map fun x _ => ?_
  have h1 := wgt_lps x.1
  have h2 := wgt_stms x.2
  simp only [rP, wgtL, szPt]; omega
theorem wgt_arrs (l : List Arr) : wgt (dRs l) ≤ szO szR l := by
  rw [dRs, wgt, szO]
  have := wgtR_map (f := rR) (s := szR) (c := 1) (l := l) fun x _ => by simp only [rR, wgtL, wgt_ints, szR]; simp only [dS, wgt]; omega
  rwa [Nat.one_mul] at this
theorem wgt_prg (g : Prg) : wgt (dRs g.1) + wgt (dPts g.2) ≤ 5 * szG g := by
  have h1 := wgt_arrs g.1
  have h2 := wgt_prts g.2
  rw [szG]; omega

/-! ### Marks -/
theorem markInts_k (xs : List Int) : MarkC Tryz.prog 19 (dIs xs) := markIntS_k (rows := xs.map rI) fun r hr => by obtain ⟨z, _, rfl⟩ := List.mem_map.1 hr; exact ⟨_, rfl⟩
theorem markAffs_k (l : List Aff) : MarkC Tryz.prog 132 (dAs l) := markAffineS_k (rows := l.map rA) fun r hr => by obtain ⟨a, _, rfl⟩ := List.mem_map.1 hr; exact ⟨_, _, rfl, markInts_k _⟩
theorem markLps_k (l : List Lp) : MarkC Tryz.prog 84 (dLs l) := markLoopS_k (rows := l.map rL) fun r hr => by obtain ⟨a, _, rfl⟩ := List.mem_map.1 hr; exact ⟨_, _, rfl, markAffs_k _, markAffs_k _⟩
theorem markExs_k : ∀ (m : Nat) (l : List Ex), (∀ e ∈ l, szE e < m) → MarkC Tryz.prog 133 (dEs l)
  | 0, l, h => markExprS_k (rows := l.map rE) fun r hr => by obtain ⟨e, he, rfl⟩ := List.mem_map.1 hr; exact absurd (h e he) (by omega)
  | m + 1, l, h => markExprS_k (rows := l.map rE) fun r hr => by
    obtain ⟨e, he, rfl⟩ := List.mem_map.1 hr
    have h1 := h e he
    rw [szE_eq] at h1
    rw [rE_eq]
    exact ⟨_, _, _, _, _, _, _, rfl, markInts_k _, markAffs_k _, markExs_k m e.ks fun x hx => by have := szEs_mem hx; have := List.length_pos_of_mem hx; omega⟩
theorem markExs_all (l : List Ex) : MarkC Tryz.prog 133 (dEs l) := markExs_k (szEs l + 1) l fun e he => by have := szEs_mem he; omega
theorem markStms_k (l : List Stm) : MarkC Tryz.prog 85 (dMs l) := markStmtS_k (rows := l.map rS) fun r hr => by
  obtain ⟨s, _, rfl⟩ := List.mem_map.1 hr
  exact ⟨_, _, _, _, _, _, _, _, _, rfl, markAffs_k _, markInts_k _, markAffs_k _, markExs_all _⟩
theorem markPts_k (l : List Prt) : MarkC Tryz.prog 49 (dPts l) := markPartS_k (rows := l.map rP) fun r hr => by obtain ⟨a, _, rfl⟩ := List.mem_map.1 hr; exact ⟨_, _, rfl, markLps_k _, markStms_k _⟩
theorem markArrs_k (l : List Arr) : MarkC Tryz.prog 48 (dRs l) := markArrayS_k (rows := l.map rR) fun r hr => by obtain ⟨a, _, rfl⟩ := List.mem_map.1 hr; exact ⟨_, _, rfl, markInts_k _⟩
set_option maxHeartbeats 3200000 in
theorem markPrg_k {g : Prg} (hg : szG g ≤ 1048576) {S : Nat → Prop} {w : World} {u0 u1 : Value} (d0 : DrK S w (dRs g.1) u0) (d1 : DrK S w (dPts g.2) u1) (hS : ∀ b, S b → b < w.heap.size) :
    Calls Tryz.prog 18 #[.agg #[u0, u1], .int .i64 1] w fun e w' => (∃ k : Int, 0 ≤ k ∧ k ≤ 1152921504606846976 ∧ e = .returned (.int .i64 k)) ∧ Marked S w w' := by
  have hw := wgt_prg g
  obtain ⟨c0, hc0, q0⟩ : ∃ c, wgt (dRs g.1) = c ∧ MarkN Tryz.prog 48 (dRs g.1) c := ⟨_, rfl, markArrs_k g.1⟩
  obtain ⟨c1, hc1, q1⟩ : ∃ c, wgt (dPts g.2) = c ∧ MarkN Tryz.prog 49 (dPts g.2) c := ⟨_, rfl, markPts_k g.2⟩
  rw [hc0, hc1] at hw
  have hk : c0 + c1 ≤ 5242880 := by omega
  have M0 := marked_of ((Below.refl w.heap.size w).alloc (Nat.le_refl _) (.cells #[u0, u1] 31)) S
  have hbox := heap_alloc_new w (.cells #[u0, u1] 31)
  have D0 := hid (d0.mark M0); have D1 := hid (d1.mark M0); have HM := hid M0; have HB := hid hbox
  clear hw hc0 hc1 d0 d1 M0 hbox hg
  go_enter Tryz.func18, Tryz.ntmps18
  go_wp2_with fail
  refine (q0 S _ _ 1 D0.out (by omega) (by omega)).mono ?_
  rintro e w1 ⟨rfl, m1⟩
  have hb : w1.heap[w.heap.size]? = _ := (m1.old w.heap.size (by simp) (fun h => absurd (hS _ h) (by omega))).trans HB.out
  have c10 : w1.cell? ⟨w.heap.size, 0, none⟩ = some u0 := by rw [cell_of_row w1 _ _ _ _ _ hb]; rfl
  have c11 : w1.cell? ⟨w.heap.size, 1, none⟩ = some u1 := by rw [cell_of_row w1 _ _ _ _ _ hb]; rfl
  clear hb
  go_wp2_with fail
  refine (q1 S _ _ _ (D1.out.mark m1) (by omega) (by omega)).mono ?_
  rintro e w2 ⟨rfl, m2⟩
  go_wp2_with fail
  go_ret
  exact ⟨⟨_, by omega, by omega, rfl⟩, (HM.out.trans m1).trans m2⟩

/-! ### Copies -/
theorem copyInts {xs : List Int} (h : xs.length ≤ 1048576) : CopyC Tryz.prog 116 (dIs xs) := toIntS_c (rows := xs.map rI) (fun r hr => by obtain ⟨z, _, rfl⟩ := List.mem_map.1 hr; exact ⟨_, rfl⟩) (by simpa using h)
theorem copyAff {a : Aff} (h : a.1.length ≤ 1048576) : CopyS Tryz.prog 235 (rA a) := toAffine_c (copyInts h)
theorem copyAffs {l : List Aff} (h : szAs l ≤ 1048576) : CopyC Tryz.prog 202 (dAs l) := toAffineS_c (rows := l.map rA) (fun r hr => by
  obtain ⟨a, ha, rfl⟩ := List.mem_map.1 hr
  exact ⟨_, _, rfl, copyAff (by have := szAs_mem ha; omega)⟩) (by rw [List.length_map]; rw [szAs] at h; omega)
theorem copyLps {l : List Lp} (h : szLs l ≤ 1048576) : CopyC Tryz.prog 117 (dLs l) := toLoopS_c (rows := l.map rL) (fun r hr => by
  obtain ⟨a, ha, rfl⟩ := List.mem_map.1 hr
  have h1 := szLs_mem ha
  rw [szL] at h1
  exact ⟨_, _, rfl, toLoop_c (copyAffs (by omega)) (copyAffs (by omega))⟩) (by rw [List.length_map]; rw [szLs] at h; omega)
theorem copyAcc {a : Acc} (h : szC a ≤ 1048576) : CopyS Tryz.prog 203 (rC a) := toAccess_c (copyAffs (by rw [szC] at h; omega))
theorem copyEx : ∀ e : Ex, szE e ≤ 1048576 → CopyS Tryz.prog 204 (rX e) := by
  intro e
  induction e using Ex.rec' with
  | h e ih =>
    intro hs
    rw [szE_eq] at hs
    refine toExpr_c (copyAff (a := e.i) (by omega)) (copyAcc (a := e.r) (by omega)) (toExprS_c (rows := e.ks.map rE) (fun r hr => ?_) (by rw [List.length_map]; omega))
    obtain ⟨x, hx, rfl⟩ := List.mem_map.1 hr
    rw [rE_eq]
    exact ⟨_, _, _, _, _, _, _, rfl, ih x hx (by have := szEs_mem hx; omega)⟩
theorem copyStms {l : List Stm} (h : szO szS l ≤ 1048576) : CopyC Tryz.prog 118 (dMs l) := toStmtS_c (rows := l.map rS) (fun r hr => by
  obtain ⟨s, hs, rfl⟩ := List.mem_map.1 hr
  have h1 := szO_mem (f := szS) hs
  have h2 : szS s = szC s.1 + szE s.2 := rfl
  exact ⟨_, _, _, _, _, _, _, _, _, rfl, toStmt_c (copyAcc (a := s.1) (by omega)) (copyEx s.2 (by omega))⟩) (by rw [List.length_map]; rw [szO] at h; omega)
theorem copyPts {l : List Prt} (h : szO szPt l ≤ 1048576) : CopyC Tryz.prog 37 (dPts l) := toPartS_c (rows := l.map rP) (fun r hr => by
  obtain ⟨a, ha, rfl⟩ := List.mem_map.1 hr
  have h1 := szO_mem (f := szPt) ha
  have h2 : szPt a = szLs a.1 + szO szS a.2 := rfl
  exact ⟨_, _, rfl, toPart_c (copyLps (by omega)) (copyStms (by omega))⟩) (by rw [List.length_map]; rw [szO] at h; omega)
theorem copyArrs {l : List Arr} (h : szO szR l ≤ 1048576) : CopyC Tryz.prog 36 (dRs l) := toArrayS_c (rows := l.map rR) (fun r hr => by
  obtain ⟨a, ha, rfl⟩ := List.mem_map.1 hr
  have h1 := szO_mem (f := szR) ha
  have h2 : szR a = a.1.size + a.2.length := rfl
  exact ⟨_, _, rfl, toArray_c (copyInts (by omega))⟩) (by rw [List.length_map]; rw [szO] at h; omega)
theorem copyPrg {g : Prg} (h : szG g ≤ 1048576) : CopyS Tryz.prog 12 (rG g) := toProgram_c (copyArrs (by rw [szG] at h; omega)) (copyPts (by rw [szG] at h; omega))
/-- The values of a struct read as ds; their trees lie in blocks of S, no cell twice. -/
def DrUs (w : World) (S : Nat → Prop) (ds : List D) (vs : List Value) : Prop :=
  vs.length = ds.length ∧ ∃ T : Nat → Nat → Prop, (∀ j c, T j c → S c) ∧ (∀ j j' c, T j c → T j' c → j = j') ∧ ∀ (j : Nat) d u, ds[j]? = some d → vs[j]? = some u → DrU w (T j) d u
section
variable {S S' : Nat → Prop} {w w' : World} {ds : List D} {vs : List Value}
theorem DrUs.frame (hs : ∀ b, S b → b < w.heap.size → w'.heap[b]? = w.heap[b]?) (h : DrUs w S ds vs) : DrUs w' S ds vs := by
  obtain ⟨h1, T, h2, h3, h4⟩ := h
  exact ⟨h1, T, h2, h3, fun j d u hd hu => (h4 j d u hd hu).frame fun b hb hl => hs b (h2 j b hb) hl⟩
theorem DrUs.fwd (h : DrUs w S ds vs) (hb : Below w.heap.size w w') : DrUs w' S ds vs := h.frame fun b _ hl => hb.block b hl
theorem DrUs.dr (h : DrUs w S ds vs) {j : Nat} {d : D} {u : Value} (hd : ds[j]? = some d) (hu : vs[j]? = some u) : Dr S w d u := by
  obtain ⟨h1, T, h2, h3, h4⟩ := h
  exact (h4 j d u hd hu).dr.mono fun b hb _ => h2 j b hb
end

theorem markInts_u (xs : List Int) : MarkU Tryz.prog mTx 19 (dIs xs) (wgt (dIs xs)) := markIntS_u (rows := xs.map rI) fun r hr => by obtain ⟨z, _, rfl⟩ := List.mem_map.1 hr; exact ⟨z, rfl⟩
theorem take_eq_step {xs ys : List Int} {k : Nat} (hk : xs.take k = ys.take k) (h1 : k < xs.length) (h2 : k < ys.length) (h : xs.getD k 0 = ys.getD k 0) : xs.take (k+1) = ys.take (k+1) := by
  rw [List.take_succ_eq_append_getElem h1, List.take_succ_eq_append_getElem h2, hk]
  simp only [List.getD, List.getElem?_eq_getElem h1, List.getElem?_eq_getElem h2, Option.getD_some] at h
  rw [h]
theorem ne_of_getD {xs ys : List Int} {k : Nat} (h : ¬ xs.getD k 0 = ys.getD k 0) : xs ≠ ys := fun e => h (by rw [e])

set_option maxHeartbeats 400000 in
theorem eqIntS_len (a b : Option Addr) (m c1 n c2 : Nat) (w : World) (h : m ≠ n) :
    Calls Tryz.prog 17 #[.slice a m c1, .slice b n c2] w fun e w' => e = .returned (.bool false) ∧ w = w' := by
  have hne : (((m : Int) != (n : Int)) = true) := by simp; omega
  go_enter Tryz.func17, Tryz.ntmps17
  go_wp2
  go_ret
  exact ⟨rfl, rfl⟩

set_option maxHeartbeats 400000 in
theorem eqIntS_same (a b : Option Addr) (n c1 c2 : Nat) (xs ys : List Int) (w : World) (hx : IntsA w a n c1 xs) (hy : IntsA w b n c2 ys) :
    Calls Tryz.prog 17 #[.slice a n c1, .slice b n c2] w fun e w' => e = .returned (.bool (decide (xs = ys))) ∧ Quiet w w' := by
  have hle := hx.le
  go_enter Tryz.func17, Tryz.ntmps17
  go_wp2
  go_loopw [5] (fun i wr => ∃ k : Nat, k ≤ n ∧ i = .int .i64 k ∧ xs.take k = ys.take k ∧ Quiet w wr) (fun i _ => n - (intOf i).toNat)
  case atStart => exact ⟨0, Nat.zero_le _, rfl, by simp, Quiet.refl w⟩
  case round =>
    obtain ⟨k, hk, rfl, ht, hq⟩ := hrel
    have Ht := hid ht; clear ht
    by_cases hlt : k < n
    · obtain ⟨ba, oa, ha, _, hca⟩ := hx.at (by omega)
      obtain ⟨bb, ob, hb, _, hcb⟩ := hy.at (by omega)
      rw [ha, hb]
      have h1 : wr.cell? _ = _ := (hq.cell _).trans (hca k hlt)
      have h2 : wr.cell? _ = _ := (hq.cell _).trans (hcb k hlt)
      clear hca hcb ha hb
      go_wp2
      go_quiet (fail)
      go_wp2
      · have hne := ‹(xs[k]?.getD 0 != ys[k]?.getD 0) = true›
        go_ret
        exact ⟨ret_bool (by rw [bne_iff_ne] at hne; exact (decide_eq_false (ne_of_getD hne)).symm), hq.drewN⟩
      · have he := ‹(xs[k]?.getD 0 != ys[k]?.getD 0) = false›
        exact ⟨⟨k + 1, by omega, rfl, take_eq_step Ht.out (by rw [hx.1]; omega) (by rw [hy.1]; omega) (by simpa [bne_eq_false_iff_eq] using he), hq.drewN⟩, by simp [intOf]; omega⟩
    · have : k = n := by omega
      subst this
      go_wp2
      go_ret
      exact ⟨ret_bool (by have h := Ht.out; rw [List.take_of_length_le (by rw [hx.1]; omega), List.take_of_length_le (by rw [hy.1]; omega)] at h; exact (decide_eq_true h).symm), hq⟩

/-- Whatever the lengths. -/
theorem eqIntS_any (a b : Option Addr) (m n c1 c2 : Nat) (xs ys : List Int) (w : World) (hx : IntsA w a m c1 xs) (hy : IntsA w b n c2 ys) :
    Calls Tryz.prog 17 #[.slice a m c1, .slice b n c2] w fun e w' => e = .returned (.bool (decide (xs = ys))) ∧ Quiet w w' := by
  by_cases h : m = n
  · subst h; exact eqIntS_same a b m c1 c2 xs ys w hx hy
  · refine (eqIntS_len a b m c1 n c2 w h).mono ?_
    rintro e w' ⟨rfl, rfl⟩
    exact ⟨ret_bool (decide_eq_false (fun e => h (by rw [← hx.1, ← hy.1, e]))).symm, Quiet.refl _⟩
theorem OwnS.len {w : World} {B n c : Nat} {a : Option Addr} {xs : List Int} (h : OwnS w B (.slice a n c) xs) : xs.length = n := by
  rcases h.2 with ⟨e, h0⟩ | ⟨_, _, _, e, _⟩
  · simp at e; omega
  · simp at e; exact e.2.1.symm
theorem OwnS.at {w : World} {B n c : Nat} {a : Option Addr} {xs : List Int} (h : OwnS w B (.slice a n c) xs) (hn : 0 < n) :
    ∃ g, a = some ⟨g, 0, none⟩ ∧ B ≤ g ∧ g < w.heap.size ∧ n ≤ c ∧ (∀ j, j < n → w.cell? ⟨g, j, none⟩ = some (.int .i64 (xs.getD j 0))) ∧ ∀ j, w.frozen? ⟨g, j, none⟩ = false := by
  have hl := h.len
  have h0 := h
  rcases h.2 with ⟨e, h1⟩ | ⟨g, cap, cur, e, hB, hg, hnc, _⟩
  · simp at e; omega
  · have ha : a = some ⟨g, 0, none⟩ := by simp at e; exact e.1
    have hc : c = cap := by simp at e; exact e.2.2
    subst ha hc
    unfold OwnS at h0
    rw [hl] at h0
    exact ⟨g, rfl, hB, (Array.getElem?_eq_some_iff.1 hg).1, by omega, fun j hj => by rw [World.ownsRow.cellAt h0 j (by omega), List.getElem?_map, List.getD, List.getElem?_eq_getElem (by omega)]; rfl, fun j => World.ownsRow.frozenAt h0 j⟩

theorem OwnS.one (w : World) {B : Nat} (hB : B ≤ w.heap.size) (x : Int) : OwnS (w.alloc (.cells #[.int .i64 x] 3)) B (.slice (some ⟨w.heap.size, 0, none⟩) 1 1) [x] :=
  ⟨rfl, .inr ⟨w.heap.size, 1, _, rfl, hB, heap_alloc_new w _, Nat.le_refl _, by unfold maxLen; omega, rfl, rfl⟩⟩
theorem Dis.new {w : World} {B : Nat} {u : Value} {xs : List Int} (h : OwnS w B u xs) (n c : Nat) : Dis u (.slice (some ⟨w.heap.size, 0, none⟩) n c) := by
  intro k hk e
  have := (h.lt k hk).2
  simp [Value.ownBlock] at e
  omega

theorem OwnS.intsA {w : World} {B n c : Nat} {a : Option Addr} {xs : List Int} (h : OwnS w B (.slice a n c) xs) (hn : n ≤ 17592186044416) : IntsA w a n c xs := by
  obtain ⟨a', c', e, hi, _⟩ := h.form (by rw [h.len]; exact hn)
  simp only [Value.slice.injEq] at e
  obtain ⟨rfl, e2, rfl⟩ := e
  rw [e2]
  exact hi
def marks (k : Int) (n : Nat) : List Int := (List.range n).map fun i : Nat => k + (i : Int)
theorem marks_at (k : Int) (n j : Nat) (h : j < n) : (marks k n)[j]?.getD 0 = k + j := by simp [marks, h]
set_option maxHeartbeats 800000 in
theorem heldIntS_any (a : Option Addr) (n c : Nat) (k : Int) (w : World) (hx : IntsA w a n c (marks k n)) (hk0 : 0 ≤ k) (hk1 : k ≤ 1125899906842624) :
    Calls Tryz.prog 20 #[.slice a n c, .int .i64 k] w fun e w' => e = .returned (.int .i64 (k + n)) ∧ Quiet w w' := by
  have hle := hx.le
  go_enter Tryz.func20, Tryz.ntmps20
  go_wp2
  go_loopw [1, 5] (fun q i wr => ∃ j : Nat, j ≤ n ∧ i = .int .i64 j ∧ q = .int .i64 (k + j) ∧ Quiet w wr) (fun _ i _ => n - (intOf i).toNat)
  case atStart => exact ⟨0, Nat.zero_le _, rfl, by simp, Quiet.refl w⟩
  case round =>
    obtain ⟨j, hj, rfl, rfl, hq⟩ := hrel
    by_cases hlt : j < n
    · obtain ⟨ba, oa, ha, _, hca⟩ := hx.at (by omega)
      have h2 : wr.cell? _ = _ := (hq.cell _).trans (hca j hlt)
      rw [show (marks k n).getD j 0 = k + j from marks_at k n j hlt] at h2
      subst ha
      clear hca
      go_wp2
      exact ⟨⟨j + 1, by omega, rfl, int_i64 (by omega), hq⟩, by simp [intOf]; omega⟩
    · have : j = n := by omega
      subst this
      go_wp2
      go_ret
      exact ⟨rfl, hq⟩
end Go.Proofs.YtidfloikpieggaaGreat
namespace Go.Proofs.YtidfloikpieggaaGreat
set_option linter.unusedVariables false
set_option linter.unusedSimpArgs false
open Go.ChangeShapes Go.WideShapes Go.ChangeAt Go.RowKit
section
variable {H : Type} {enc : TypeId × Value → H} {P : Program} {w : World} {spare : Nat → Bool} {held : Bool} {t : TypeId} {α : Type} {f : α → List D} {ok : α → Prop} {v : Value} {dd : DataW H} {ps : List MemPlace}
theorem op_agg (hop : ∀ n, OpF enc P w spare held n t f ok) (h : DataW.Trod enc P w 0 spare held t v dd ps) (hw : ∀ m ∈ dd.weights P t, m ≤ reachBytes) (hv : ∃ cs, v = .agg cs) : ∃ a, ok a ∧ V1r (fun _ => (0, 0)) (Al (lk [])) (fun b => b < w.heap.size) w (ad (f a)) v := by
  obtain ⟨fuel, hf⟩ := h
  obtain ⟨cs, rfl⟩ := hv
  obtain ⟨a, h1, h2, h3⟩ := hop fuel fuel (Nat.le_refl _) _ _ hf hw
  refine ⟨a, h1, cs.toList, by simp, by rw [List.length_map]; exact h2, fun i c u hc hu => ?_⟩
  rw [List.getElem?_map] at hc
  cases hq : (f a)[i]? with
  | none => rw [hq] at hc; cases hc
  | some d => rw [hq] at hc; cases hc; exact h3 i d u hq hu
theorem okWide_agg {r : Reach} {b0 : Nat} {fs : Array Field} (ht : P.underlying t = some (.struct fs)) (h : Value.okWide P w r b0 t v) : ∃ cs, v = .agg cs := by
  unfold Value.okWide at h
  rw [ht] at h
  obtain ⟨cs, e, _⟩ := h
  exact ⟨cs, e⟩
theorem vals1_mk {R : V1 → Value → Prop} {x : V1} {u : Value} (h : R x u) : Vals R [x] [u] := ⟨rfl, fun i y v hy hv => by
  match i, hy, hv with
  | 0, hy, hv => cases hy; cases hv; exact h⟩
theorem vals2_mk {R : V1 → Value → Prop} {x y : V1} {u v : Value} (h : R x u) (h2 : R y v) : Vals R [x, y] [u, v] := .cons h (vals1_mk h2)
end
end Go.Proofs.YtidfloikpieggaaGreat
namespace Go.Proofs.YtidfloikpieggaaGreat
set_option linter.unusedVariables false
set_option linter.unusedSimpArgs false
open Go.RowKit
abbrev bx0 : Nat → Nat × Nat := fun _ => (0, 0)
abbrev al0 : Nat → Prop := Al (lk [])
theorem no_al0 : ∀ k, ¬ al0 k := fun k ⟨e, sz, rows, h⟩ => by cases h
/-- What a call does that answers y and turns nothing. -/
theorem Fn.calls {P : Program} {f : FuncId} {args : List V1} {y : V} {vs : List Value} {w : World} {B : Nat → Prop} (h : Fn P f [] args y []) (hv : Vals (V1r bx0 al0 B w) args vs) :
    Calls P f vs.toArray w fun e w' => (∃ v B', e = .returned v ∧ Vr bx0 al0 B' w' y v) ∧ Below w.heap.size w w' := by
  refine (h B bx0 w vs ⟨fun k e sz rows h => (by cases h), fun k l hk => (no_al0 k hk).elim, fun k hk => (no_al0 k hk).elim⟩ hv).mono ?_
  rintro e w' ⟨v, bx', rfl, hp⟩
  refine ⟨⟨v, Baft bx' B w (lk []), rfl, hp.val.to (Same.refl _ _) (fun b hb _ => hb) (fun k _ hk => (no_al0 k hk).elim)⟩, hp.os, hp.tape, hp.output, hp.size, fun b hb => hp.old b hb fun k hk => (no_al0 k hk).elim⟩
theorem Fn.callsI {P : Program} {f : FuncId} {args : List V1} {z : Int} {vs : List Value} {w : World} {B : Nat → Prop} (h : Fn P f [] args (.o (nat1 z)) []) (hv : Vals (V1r bx0 al0 B w) args vs) :
    Calls P f vs.toArray w fun e w' => e = .returned (.int .i64 z) ∧ Below w.heap.size w w' := by
  refine (h.calls hv).mono ?_
  rintro e w' ⟨⟨v, B', rfl, hv⟩, hb⟩
  have hv : Dr _ w' (.val (.int .i64 z)) v := hv
  cases hv
  exact ⟨rfl, hb⟩
theorem Fn.callsB {P : Program} {f : FuncId} {args : List V1} {z : Bool} {vs : List Value} {w : World} {B : Nat → Prop} (h : Fn P f [] args (.o (bo1 z)) []) (hv : Vals (V1r bx0 al0 B w) args vs) :
    Calls P f vs.toArray w fun e w' => e = .returned (.bool z) ∧ Below w.heap.size w w' := by
  refine (h.calls hv).mono ?_
  rintro e w' ⟨⟨v, B', rfl, hv⟩, hb⟩
  have hv : Dr _ w' (.val (.bool z)) v := hv
  cases hv
  exact ⟨rfl, hb⟩
theorem Dr.ints {B : Nat → Prop} {w : World} {xs : List Int} {v : Value} (h : Dr B w (dIs xs) v) : ∃ a n c, v = .slice a n c ∧ n = xs.length ∧ IntsA w a n c xs := by
  have hat := @Dr.row B w
  rw [dIs] at h
  obtain ⟨ad, cap, rfl, h1, h2, _⟩ := h.slice
  rw [List.length_map] at h1 h2 h ⊢
  refine ⟨ad, _, cap, rfl, rfl, rfl, h1, h2, fun i hi => ?_⟩
  have hr : (xs.map rI)[i]? = some (rI xs[i]) := by rw [List.getElem?_map, List.getElem?_eq_getElem hi]; rfl
  obtain ⟨b, off, rfl⟩ := h.ba hr
  obtain ⟨u, hc, hd⟩ := h.row hr 0 (x := dI xs[i]) rfl (o := off + i) (by omega)
  refine ⟨b, off, rfl, ?_⟩
  cases hd
  rw [hc, List.getD, List.getElem?_eq_getElem hi]; rfl
/-- A function that answers a list of numbers; where it lies is not told. -/
def PureC (f : FuncId) (args : List V1) (xs : List Int) : Prop := ∀ (B : Nat → Prop) (w : World) (vs : List Value), Vals (V1r bx0 al0 B w) args vs →
  Calls Tryz.prog f vs.toArray w fun e w' => (∃ a c, e = .returned (.slice a xs.length c) ∧ IntsA w' a xs.length c xs) ∧ Below w.heap.size w w'
theorem Fn.pureC {f : FuncId} {args : List V1} {xs : List Int} (h : Fn Tryz.prog f [] args (.o (vD (dIs xs))) []) : PureC f args xs := fun B w vs hv => by
  refine (h.calls hv).mono ?_
  rintro e w' ⟨⟨v, B', rfl, hv⟩, hb⟩
  have hv : Dr _ w' (dIs xs) v := hv
  obtain ⟨a, n, c, rfl, rfl, hi⟩ := hv.ints
  exact ⟨⟨a, c, rfl, hi⟩, hb⟩
theorem ad2_v {B : Nat → Prop} {w : World} {d0 d1 : D} {u0 u1 : Value} (h0 : Dr B w d0 u0) (h1 : Dr B w d1 u1) : V1r bx0 al0 B w (ad [d0, d1]) (.agg #[u0, u1]) :=
  ⟨[u0, u1], rfl, rfl, fun i c u hc hu => by
    match i, hc, hu with
    | 0, hc, hu => cases hc; cases hu; exact h0
    | 1, hc, hu => cases hc; cases hu; exact h1⟩
/-- What the law took, behind its first box. -/
structure LawS (w w' : World) (us : List Value) : Prop where
  below : Below w.heap.size w w'
  box : w'.heap[w.heap.size]? = some (.cells us.toArray 25 (0, 0))
theorem LawS.start (w : World) (us : List Value) : LawS w (w.alloc (.cells us.toArray 25)) us := ⟨(Below.refl _ _).alloc (Nat.le_refl _) _, heap_alloc_new w _⟩
theorem LawS.lt {w w' : World} {us : List Value} (h : LawS w w' us) : w.heap.size < w'.heap.size := (Array.getElem?_eq_some_iff.1 h.box).1
theorem LawS.fwd {w w' w'' : World} {us : List Value} {n : Nat} (h : LawS w w' us) (hb : Below n w' w'') (hn : w.heap.size < n) : LawS w w'' us := ⟨h.below.trans (hb.mono (by omega)), (hb.block _ hn).trans h.box⟩
theorem LawS.c {w w' : World} {us : List Value} (h : LawS w w' us) (j : Nat) {v : Value} (hv : us[j]? = some v) : w'.cell? ⟨w.heap.size, j, none⟩ = some v := by
  rw [cell_of_row w' _ _ _ _ _ h.box, List.getElem?_toArray]; exact hv
theorem Marked.below {S : Nat → Prop} {w w' : World} {n : Nat} (h : Marked S w w') (hS : ∀ b, S b → n ≤ b) (hn : n ≤ w.heap.size) : Below n w w' :=
  ⟨h.os, h.tape, h.output, h.size, fun b hb => h.old b (by omega) fun hs => by have := hS b hs; omega⟩
theorem OwnS.marked {S : Nat → Prop} {w w' : World} {B : Nat} {v : Value} {xs : List Int} (h : OwnS w B v xs) (hm : Marked S w w') (hS : ∀ b, S b → b < B) : OwnS w' B v xs := by
  obtain ⟨h1, h2 | ⟨g, cap, cur, e, hB, hg, r⟩⟩ := h
  · exact ⟨h1, .inl h2⟩
  · exact ⟨h1, .inr ⟨g, cap, cur, e, hB, (hm.old g (Array.getElem?_eq_some_iff.1 hg).1 fun hs => by have := hS g hs; omega).trans hg, r⟩⟩
theorem dec_self (xs : List Int) : decide (xs = xs) = true := by simp
/-- The cells that the first i instances access. -/
def trcN (g : Prg) (i : Nat) : List Int := ((insG 0 g.2).take i).flatMap fun x => usR g x ++ [usW g x]
def trcA (g : Prg) : List Int := (insG 0 g.2).flatMap fun x => usR g x ++ [usW g x]
def trcV (g : Prg) : List Int := if prgV g = true then (trcA g).take 600 else []
theorem trcN_next {g : Prg} {i : Nat} {x : Ins} (h : (insG 0 g.2)[i]? = some x) : trcN g (i + 1) = trcN g i ++ usR g x ++ [usW g x] := by
  rw [trcN, List.take_add_one, h, List.flatMap_append, trcN, List.append_assoc]; simp
theorem trcN_end {g : Prg} {i : Nat} (h : (insG 0 g.2).length ≤ i) : trcN g i = trcA g := by rw [trcN, List.take_of_length_le h]; rfl
theorem trcN_pre {g : Prg} (i : Nat) : ∃ r, trcA g = trcN g i ++ r :=
  ⟨((insG 0 g.2).drop i).flatMap fun x => usR g x ++ [usW g x], by rw [trcN, ← List.flatMap_append, List.take_append_drop]; rfl⟩
theorem trcV_no {g : Prg} (h : prgV g = false) : trcV g = [] := by rw [trcV, if_neg (by rw [h]; simp)]
theorem trcV_more {g : Prg} (hV : prgV g = true) {i : Nat} (h : 600 ≤ (trcN g i).length) : trcV g = (trcN g i).take 600 := by
  obtain ⟨r, hr⟩ := trcN_pre (g := g) i
  rw [trcV, if_pos hV, hr, List.take_append_of_le_length h]
theorem trcV_all {g : Prg} (hV : prgV g = true) (h : (trcA g).length ≤ 600) : trcV g = trcA g := by rw [trcV, if_pos hV, List.take_of_length_le h]
theorem trcV_len {g : Prg} : (trcV g).length ≤ 600 := by
  rw [trcV]; split
  · rw [List.length_take]; omega
  · simp
section
variable {P : Program} {n : Nat} {ops : Array Oper} {o : Oper} {σ : St} {d : Nat} {t e : TypeId} {x y z : Operand} {k sz by' m : Nat} {rows : List (List C)}
/-- s[:n:n] -/
theorem St1.clipB (h4 : (o.op, o.guard, o.dst, Nat.blt d n) = (Op.slice t x none (some y) (some z), none, some d, true)) (ht : tyS P t = some (e, sz, by')) (hx : ev σ x = some (.o (.c (.own k sz m)))) (hb : lk σ (.b k) = .b e sz rows) (hy : ev σ y = some (.o (nat1 (m : Nat)))) (hz : ev σ z = some (.o (nat1 (m : Nat)))) :
    St1 P n ops o σ (((rd x ++ rd y) ++ rd z) ++ [.b k]) [.t d] ((.t d, .v (.o (.c (.off k sz 0 m)))) :: σ) := by
  simp only [Prod.mk.injEq] at h4
  obtain ⟨ho, hg, hd, hn⟩ := h4
  exact St1.value hg hd hn fun E bx τ a w hR hs => by
    have hk : τ (.b k) = .b e sz rows := (rd_r hR _ (by simp)).trans hb
    obtain ⟨cap, e1, c1, c2, c3⟩ := ev_own hx (rd_l (rd_l (rd_l hR))) hs (Al_of hk)
    obtain ⟨hu, _⟩ := tyS_out ht
    have hrefs := (ev_ok hx (rd_l (rd_l (rd_l hR))) hs).2
    refine ⟨⟨.slice (some ⟨(bx k).1, 0 * sz, none⟩) m m, ?_, ⟨rfl, fun _ => ⟨m, rfl, Nat.le_refl _, by omega⟩⟩⟩, hrefs⟩
    have hbd : 0 ≤ (m : Int) ∧ (m : Int) ≤ (cap : Int) := by omega
    have hbd2 : 0 ≤ (m : Int) ∧ (m : Int) ≤ (m : Int) := by omega
    simp [execOp, ho, e1, ev_val hy (rd_r (rd_l (rd_l hR))) hs, ev_val hz (rd_r (rd_l hR)) hs, sliceAt_list ht, Instr.slice, run_underlying hu, Instr.sliceBounds, Instr.sliceBound, asIntOf, hbd, hbd2, run_sizeE ht]
    try (rw [if_pos (by omega)])
    simp [Addr.add]
/-- nil[:0] and nil[:0:0] -/
theorem St1.sliceN {p : Int} (h4 : (o.op, o.guard, o.dst, Nat.blt d n) = (Op.slice t x none (some y) none, none, some d, true)) (ht : tyS P t = some (e, sz, by')) (hx : ev σ x = some (.o (.c (.d (.val (.slice none 0 0)))))) (hy : ev σ y = some (.o (nat1 p))) (hp : p = 0) :
    St1 P n ops o σ (rd x ++ rd y) [.t d] ((.t d, .v (.o (.c (.d (.val (.slice none 0 0)))))) :: σ) := by
  simp only [Prod.mk.injEq] at h4
  obtain ⟨ho, hg, hd, hn⟩ := h4
  subst hp
  exact St1.value hg hd hn fun E bx τ a w hR hs => by
    obtain ⟨hu, _⟩ := tyS_out ht
    have e1 := ev_val hx (rd_l hR) hs
    refine ⟨⟨.slice none 0 0, ?_, .val _ rfl⟩, fun k hk => by cases hk⟩
    simp [execOp, ho, e1, ev_val hy (rd_r hR) hs, sliceAt_list ht, Instr.slice, run_underlying hu, Instr.sliceBounds, Instr.sliceBound, asIntOf, run_sizeE ht]
theorem St1.clipN {p q : Int} (h4 : (o.op, o.guard, o.dst, Nat.blt d n) = (Op.slice t x none (some y) (some z), none, some d, true)) (ht : tyS P t = some (e, sz, by')) (hx : ev σ x = some (.o (.c (.d (.val (.slice none 0 0)))))) (hy : ev σ y = some (.o (nat1 p))) (hz : ev σ z = some (.o (nat1 q))) (hp : p = 0) (hq : q = 0) :
    St1 P n ops o σ ((rd x ++ rd y) ++ rd z) [.t d] ((.t d, .v (.o (.c (.d (.val (.slice none 0 0)))))) :: σ) := by
  simp only [Prod.mk.injEq] at h4
  obtain ⟨ho, hg, hd, hn⟩ := h4
  subst hp hq
  exact St1.value hg hd hn fun E bx τ a w hR hs => by
    obtain ⟨hu, _⟩ := tyS_out ht
    have e1 := ev_val hx (rd_l (rd_l hR)) hs
    refine ⟨⟨.slice none 0 0, ?_, .val _ rfl⟩, fun k hk => by cases hk⟩
    simp [execOp, ho, e1, ev_val hy (rd_r (rd_l hR)) hs, ev_val hz (rd_r hR) hs, sliceAt_list ht, Instr.slice, run_underlying hu, Instr.sliceBounds, Instr.sliceBound, asIntOf, run_sizeE ht]
end
theorem clip_own (xs : List Int) (n : Nat) : Fn Tryz.prog 52 [(.b 0, .b 3 1 (dR ((xs).map rI))), (.u 0, .u)] [.c (.own 0 1 n)] (.o (.c (.off 0 1 0 n))) [(.b 0, .b 3 1 (dR ((xs).map rI))), (.u 0, .u)] := by
  refine Fn.of_code Tryz.func52 rfl rfl HB.nil.data rfl rfl HB.nil.data rfl (fun k _ h => h) ?_
  refine .seq <| .region <| .cons (.asg rfl rfl) <| .nil <| ks_n <| .seq <| .region <| .cons (.mv rfl rfl) <| .cons (.mv rfl rfl) <| .cons (.lB 3 1 8 rfl rfl rfl rfl) <| .cons (.mv rfl rfl) <| .cons (.lB 3 1 8 rfl rfl rfl rfl) <| .cons (St1.clipB (e := 3) (sz := 1) (by' := 8) rfl (by kernel_rfl) rfl rfl rfl rfl) ?_
  refine .cons (.asg rfl rfl) <| .nil <| ks_n <| .ret ?_
  refine kf_wret [(.t 2, .v (.o (.c (.off 0 1 0 (n))))), (.b 0, .b 3 1 (dR (xs.map rI))), (.u 0, .u)] (Wk.keep [(0, 0)] rfl rfl ⟨ks rfl (.c .of), kb 0 rfl (.dt rfl), trivial⟩) rfl ?_ (one_box rfl)
  rfl

theorem clip_nil  : Fn Tryz.prog 52 [] [.c (.d (.val (.slice none 0 0)))] (.o (.c (.d (.val (.slice none 0 0))))) [] := by
  refine Fn.code0 Tryz.func52 rfl rfl rfl rfl ?_
  refine .seq <| .region <| .cons (.asg rfl rfl) <| .nil <| ks_n <| .seq <| .region <| .cons (.mv rfl rfl) <| .cons (.mv rfl rfl) <| .cons (St1.lenN (e := 3) (m := 1) (by' := 8) rfl rfl rfl rfl rfl (by kernel_rfl) rfl) ?_
  refine .cons (.mv rfl rfl) <| .cons (St1.lenN (e := 3) (m := 1) (by' := 8) rfl rfl rfl rfl rfl (by kernel_rfl) rfl) ?_
  refine .cons (St1.clipN (e := 3) (sz := 1) (by' := 8) rfl (by kernel_rfl) rfl rfl rfl (by first | rfl | omega) (by first | rfl | omega)) ?_
  refine .cons (.asg rfl rfl) <| .nil <| ks_n <| .ret ?_
  refine kf_ret rfl ?_ nobox
  rfl



theorem usL_at {g : Prg} {i : Nat} {x : Ins} (hx : (insG 0 g.2)[i]? = some x) : (usL g)[i]? = some (usG g x) := by rw [usL, List.getElem?_map, hx]; rfl
theorem usRs_at {g : Prg} {i : Nat} {x : Ins} (hx : (insG 0 g.2)[i]? = some x) : (usRs g)[i]? = some (usR g x) := by rw [usRs, List.getElem?_map, hx]; rfl
theorem usWs_at {g : Prg} {i : Nat} {x : Ins} (hx : (insG 0 g.2)[i]? = some x) : (usWs g)[i]? = some (usW g x) := by rw [usWs, List.getElem?_map, hx]; rfl
theorem usL_len {g : Prg} : (usL g).length = (insG 0 g.2).length := List.length_map _
end Go.Proofs.YtidfloikpieggaaGreat
