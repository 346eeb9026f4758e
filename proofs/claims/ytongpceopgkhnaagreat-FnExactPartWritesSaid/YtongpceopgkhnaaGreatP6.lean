/- Part 6 of 6 of the proof: laws on memory and data, then what the functions compute, in the order in which they build on each other; conditions: those that each theorem names. -/
import Derived.Test.YtongpceopgkhnaaGreatP5

namespace Go.Proofs.YtongpceopgkhnaaGreat
set_option linter.unusedVariables false
set_option linter.unusedSimpArgs false
open Go.RowKit
def clsV (ar : List Arr) (s : Stm) (p : List Int) : List Int := if stmG ar s p = true then (rdE s.2).map fun a => cellG a p ar 0 else []
def wrV (ar : List Arr) (s : Stm) (p : List Int) : Int := if stmG ar s p = true then cellG s.1 p ar 0 else 0
def cntP (ar : List Arr) (q : Prt) : Int := if prtV ar q = true then (((npR q.1).length * q.2.length : Nat) : Int) else 0
theorem cls_no {ar : List Arr} {s : Stm} {p : List Int} (h : stmG ar s p = false) : clsV ar s p = [] ∧ wrV ar s p = 0 := ⟨if_neg (by rw [h]; simp), if_neg (by rw [h]; simp)⟩
theorem cls_yes {ar : List Arr} {s : Stm} {p : List Int} (h : stmG ar s p = true) : clsV ar s p = (rdE s.2).map (fun a => cellG a p ar 0) ∧ wrV ar s p = cellG s.1 p ar 0 := ⟨if_pos h, if_pos h⟩
theorem accG_no {ar : List Arr} {p : List Int} {a : Acc} (h : cellG a p ar 0 < 0) : accG ar p a = false := decide_eq_false (by omega)
theorem accG_yes {ar : List Arr} {p : List Int} {a : Acc} (h : ¬ cellG a p ar 0 < 0) : accG ar p a = true := decide_eq_true (by omega)
theorem stmG_r {ar : List Arr} {s : Stm} {p : List Int} {a : Acc} (ha : a ∈ rdE s.2) (h : cellG a p ar 0 < 0) : stmG ar s p = false := Bool.eq_false_iff.2 fun h2 => by
  rw [stmG, Bool.and_eq_true] at h2
  have := List.all_eq_true.1 h2.2 a ha
  rw [accG_no h] at this; cases this
theorem stmG_w {ar : List Arr} {s : Stm} {p : List Int} (h : cellG s.1 p ar 0 < 0) : stmG ar s p = false := by rw [stmG, accG_no h]; rfl
theorem stmG_t {ar : List Arr} {s : Stm} {p : List Int} (h : ¬ cellG s.1 p ar 0 < 0) (h2 : ∀ (j : Nat) a, j < (rdE s.2).length → (rdE s.2)[j]? = some a → accG ar p a = true) : stmG ar s p = true := by
  rw [stmG, accG_yes h, Bool.true_and]
  exact all_of fun j a h => h2 j a (List.getElem?_eq_some_iff.1 h).1 h
theorem cntP_no {ar : List Arr} {q : Prt} (h : prtV ar q = false) : cntP ar q = 0 := if_neg (by rw [h]; simp)
theorem cntP_yes {ar : List Arr} {q : Prt} (h : prtV ar q = true) : cntP ar q = (((npR q.1).length * q.2.length : Nat) : Int) := if_pos h
theorem cntP_len {ar : List Arr} {q : Prt} (h : prtV ar q = true) (k : Nat) : cntP ar q = ((insP k q).length : Nat) ∧ (insP k q).length ≤ 480 := by
  obtain ⟨h1, h2⟩ := insP_len (k := k) (prtV_iff.1 h).2.1.2
  exact ⟨by rw [cntP_yes h, h1], h2⟩
theorem np_pts {ns : List Lp} (h : okP ns = true) : nsV ns = true ∧ npR ns = ptsF ns [] [] := by
  have hv := (okP_iff.1 h).1
  exact ⟨hv, (np_yes hv (fun h2 => by rw [np_no1 h2] at h; cases h) (fun h2 => by rw [np_no2 h2] at h; cases h)).2⟩

set_option maxRecDepth 100000 in
set_option maxHeartbeats 1600000 in
theorem l4Cells_fn {ar : List Arr} (hv : arrsV ar = true) {D : Int} {s : Stm} {p : List Int} (hs : stmtV D s = true) (hz : szS s ≤ 1073741824) (hS : Small p) (hn : p.length ≤ 4) : Fn Tryz.prog 78 [] [vD (dRs ar), ad (rS s), vD (dIs p)] (.tup [vD (dIs (clsV ar s p)), nat1 (wrV ar s p), bo1 (stmG ar s p)]) [] := by
 obtain ⟨ha, hr, hrl⟩ := stm_accs hs
 have hz2 : szE s.2 ≤ 1073741824 := by have : szS s = szC s.1 + szE s.2 := rfl; omega
 refine Fn.code0 Tryz.func78 rfl rfl rfl rfl ?_
 refine ACode.seq ?_
 refine ACode.region ?_
 refine .cons (St1.boxP rfl rfl rfl rfl rfl rfl) ?_
 refine .cons (.asg rfl rfl) ?_
 refine .cons (.asg rfl rfl) ?_
 refine .cons (.asg rfl rfl) ?_
 refine .nil ?_
 refine ks_n ?_
 refine ACode.seq ?_
 refine ACode.region ?_
 refine .cons (St1.lit0 (k' := 114) (e := 3) (sz := 1) (b := true) rfl rfl rfl rfl (by kernel_rfl) rfl rfl) ?_
 refine .cons (.asg rfl rfl) ?_
 refine .nil ?_
 refine ks_n ?_
 refine ACode.seq ?_
 refine ACode.region ?_
 refine .cons (St1.lit0 (k' := 115) (e := 84) (sz := 2) (b := true) rfl rfl rfl rfl (by kernel_rfl) rfl rfl) ?_
 refine .cons (.fP 2 6 true rfl rfl) ?_
 refine .cons (.lN 7 rfl rfl rfl) ?_
 refine .cons (.cO [.tmp 15, .tmp 17] [(0, 115), (1000, 118)] rfl rfl rfl rfl (l3Reads_fn s.2 hz2 [] (by simp; omega)) rfl ⟨rfl, trivial⟩ (hbL_flat _ _) (hbL_flat _ _) (hbL_HB _ _) outS_one) ?_
 refine .cons (.asg rfl rfl) ?_
 refine .nil ?_
 refine ks_n ?_
 refine ACode.seq ?_
 refine ACode.seq ?_
 refine ACode.region ?_
 refine .cons (.asg rfl rfl) ?_
 refine .nil ?_
 refine ks_n ?_
 refine ACode.block ?_
 refine .loopK (fun m σ => (∃ i : Nat, m = (rdE s.2).length - i ∧ (i ≤ (rdE s.2).length) ∧ (∀ j a, j < i → (rdE s.2)[j]? = some a → accG ar p a = true) ∧ σ = [(.t 0, .v (.o (vD (dRs ar)))), (.t 2, .v (.o (vD (dIs p)))), (.t 4, .v (.o (.c (.ptr (rS s))))), (.t 9, .v (.o (.c (.own 110 1 (i))))), (.t 10, .v (.o (vD (dCs (rdE s.2))))), (.t 11, .v (.o (nat1 (i : Nat)))), (.b 110, .b 3 1 (dR (((rdE s.2).take i).map fun a => rI (cellG a p ar 0)))), (.u 110, .u)])) [(110, 114)] ⟨0, rfl, by omega, fun j a hj _ => absurd hj (by omega), rfl⟩ ⟨ks rfl .dt, ks rfl .dt, ks rfl .dt, ks rfl (.c .ow), ks rfl (.c (.fz rfl rfl (by simp) (by simp; omega))), ks rfl .dt, kb 114 rfl (.dt rfl (by first | exact dR_take (fun a : Acc => rI (cellG a p ar 0)) hx1 | exact dR_take1 (fun a : Acc => rI (cellG a p ar 0)) hx1 | rfl | (simp [dR]; done))), trivial⟩ ?_
 rintro m σ ⟨i, hm0, hi, hF, rfl⟩
 refine ACode.seq ?_
 refine ACode.seq ?_
 refine ACode.region ?_
 refine .cons (.mv rfl rfl) ?_
 refine .cons (.mv rfl rfl) ?_
 refine .cons (.ln 84 2 40 rfl rfl rfl) ?_
 refine .cons (.ls rfl rfl rfl) ?_
 refine .nil ?_
 refine ks_n ?_
 refine .cD rfl (fun h22 => ?_) (fun h22 => ?_)
 ·skip
  obtain ⟨x, hx1⟩ : ∃ x_, (rdE s.2)[i]? = some x_ := ⟨_, List.getElem?_eq_getElem (by omega)⟩
  refine ACode.skip ?_
  refine ks_n ?_
  refine ACode.seq ?_
  refine ACode.block ?_
  refine ACode.seq ?_
  refine ACode.region ?_
  refine .cons (.mv rfl rfl) ?_
  refine .cons (.mv rfl rfl) ?_
  refine .cons (.mv rfl rfl) ?_
  refine .cons (.xL 84 2 40 rfl rfl rfl rfl rfl) ?_
  refine .cons (.lN 2 rfl rfl rfl) ?_
  refine .cons (.mv rfl rfl) ?_
  refine .cons (.cP [.tmp 25, .tmp 29, .tmp 30] rfl rfl rfl rfl (l4Cell_fn hv (hr x (List.mem_of_getElem? hx1)) hS hn) rfl) ?_
  refine .cons (.asg rfl rfl) ?_
  refine .nil ?_
  refine ks_n ?_
  refine ACode.seq ?_
  refine ACode.seq ?_
  refine ACode.region ?_
  refine .cons (.mv rfl rfl) ?_
  refine .cons (.ls rfl rfl rfl) ?_
  refine .nil ?_
  refine ks_n ?_
  refine .cD rfl (fun h33 => ?_) (fun h33 => ?_)
  ·skip
   refine ACode.seq ?_
   have hG := stmG_r (List.mem_of_getElem? hx1) h33
   obtain ⟨hC, hW⟩ := cls_no hG
   refine ACode.region ?_
   refine .cons (St1.lit0D (e := 3) (sz := 1) (b := true) rfl rfl rfl rfl (by kernel_rfl)) ?_
   refine .cons (.asg rfl rfl) ?_
   refine .cons (.asg rfl rfl) ?_
   refine .cons (.asg rfl rfl) ?_
   refine .nil ?_
   refine ks_n ?_
   refine ACode.ret ?_
   refine ks_r ?_
   refine kb_r ?_
   refine ks_r ?_
   refine kl_r ?_
   refine kb_r ?_
   refine ks_r ?_
   refine kf_wret [(.t 6, .v (.o (vD (dIs (clsV ar s p))))), (.t 7, .v (.o (nat1 (wrV ar s p)))), (.t 8, .v (.o (bo1 (stmG ar s p))))] (Wk.keep [] rfl rfl ⟨ks rfl (.dt (by rw [hC]; rfl)), ks rfl (.dt (by rw [hW])), ks rfl (.dt (by rw [hG])), trivial⟩) rfl ?_ nobox
   rfl
  ·skip
   refine ACode.skip ?_
   refine ks_n ?_
   refine ACode.region ?_
   refine .cons (.mv rfl rfl) ?_
   refine .cons (.mv rfl rfl) ?_
   refine .cons (.li 3 0 0 [.tmp 36] rfl rfl rfl rfl rfl rfl) ?_
   refine .cons (St1.appB (k' := 138) (e := 3) (sz := 0) (by' := 8) rfl rfl rfl rfl rfl (by kernel_rfl) rfl rfl rfl rfl (by first | (simp [dR]; done) | (simp [dR]; omega)) (by first | (simp [dR]; done) | (simp [dR]; omega)) rfl rfl rfl) ?_
   refine .cons (.asg rfl rfl) ?_
   refine .nil ?_
   refine kb_n ?_
   refine ks_n ?_
   refine ACode.region ?_
   refine .cons (.mv rfl rfl) ?_
   refine .cons (.pl rfl rfl rfl) ?_
   refine .cons (.asg rfl rfl) ?_
   refine .nil ?_
   refine kl_k [(110, 138)] ⟨i + 1, rfl, by omega, fun j a' hj h' => (Nat.lt_succ_iff_lt_or_eq.1 hj).elim (fun h => hF j a' h h') (fun h => by subst h; rw [hx1] at h'; cases h'; exact accG_yes h33), rfl⟩ ⟨ks rfl .dt, ks rfl .dt, ks rfl .dt, ks rfl (.c .ow), ks rfl .dt, ks rfl .dt, kb 138 rfl (.dt rfl (by first | exact dR_take (fun a : Acc => rI (cellG a p ar 0)) hx1 | exact dR_take1 (fun a : Acc => rI (cellG a p ar 0)) hx1 | rfl | (simp [dR]; done))), trivial⟩
 ·skip
  obtain rfl : i = (rdE s.2).length := by omega
  refine ACode.exit ?_
  refine ks_e ?_
  refine kl_e ?_
  refine kb_hit ?_
  refine ks_n ?_
  refine ACode.seq ?_
  refine ACode.region ?_
  refine .cons (.mv rfl rfl) ?_
  refine .cons (.fP 0 1 true rfl rfl) ?_
  refine .cons (.lN 2 rfl rfl rfl) ?_
  refine .cons (.mv rfl rfl) ?_
  refine .cons (.cP [.tmp 39, .tmp 41, .tmp 42] rfl rfl rfl rfl (l4Cell_fn hv ha hS hn) rfl) ?_
  refine .cons (.asg rfl rfl) ?_
  refine .nil ?_
  refine ks_n ?_
  refine ACode.seq ?_
  refine ACode.seq ?_
  refine ACode.region ?_
  refine .cons (.mv rfl rfl) ?_
  refine .cons (.ls rfl rfl rfl) ?_
  refine .nil ?_
  refine ks_n ?_
  refine .cD rfl (fun h45 => ?_) (fun h45 => ?_)
  ·skip
   refine ACode.seq ?_
   have hG : stmG ar s p = false := stmG_w h45
   obtain ⟨hC, hW⟩ := cls_no hG
   refine ACode.region ?_
   refine .cons (St1.lit0D (e := 3) (sz := 1) (b := true) rfl rfl rfl rfl (by kernel_rfl)) ?_
   refine .cons (.asg rfl rfl) ?_
   refine .cons (.asg rfl rfl) ?_
   refine .cons (.asg rfl rfl) ?_
   refine .nil ?_
   refine ks_n ?_
   refine ACode.ret ?_
   refine ks_r ?_
   refine kf_wret [(.t 6, .v (.o (vD (dIs (clsV ar s p))))), (.t 7, .v (.o (nat1 (wrV ar s p)))), (.t 8, .v (.o (bo1 (stmG ar s p))))] (Wk.keep [] rfl rfl ⟨ks rfl (.dt (by rw [hC]; rfl)), ks rfl (.dt (by rw [hW])), ks rfl (.dt (by rw [hG])), trivial⟩) rfl ?_ nobox
   rfl
  ·skip
   refine ACode.skip ?_
   refine ks_n ?_
   refine ACode.seq ?_
   have hG := stmG_t h45 hF
   obtain ⟨hC, hW⟩ := cls_yes hG
   refine ACode.region ?_
   refine .cons (.mv rfl rfl) ?_
   refine .cons (.mv rfl rfl) ?_
   refine .cons (.asg rfl rfl) ?_
   refine .cons (.asg rfl rfl) ?_
   refine .cons (.asg rfl rfl) ?_
   refine .nil ?_
   refine ks_n ?_
   refine ACode.ret ?_
   refine kf_wret [(.t 6, .v (.o (vD (dIs (clsV ar s p))))), (.t 7, .v (.o (nat1 (wrV ar s p)))), (.t 8, .v (.o (bo1 (stmG ar s p))))] (Wk.keep [] rfl rfl ⟨ks rfl (.c (.fz rfl (by rw [hC]; first | rfl | (rw [List.take_length, List.map_map]; rfl)) (by rw [hC]; simp) (by omega))), ks rfl (.dt (by rw [hW])), ks rfl (.dt (by rw [hG])), trivial⟩) rfl ?_ nobox
   rfl

set_option maxRecDepth 100000 in
set_option maxHeartbeats 1600000 in
theorem l4Part_fn {ar : List Arr} (hv : arrsV ar = true) {q : Prt} (hs : szPt q ≤ 1073741824) : Fn Tryz.prog 76 [] [vD (dRs ar), ad (rP q)] (.tup [nat1 (cntP ar q), bo1 (prtV ar q)]) [] := by
 have hqe : szPt q = szLs q.1 + szO szS q.2 := rfl
 have hbg := sz_bg (ns := q.1) (by omega)
 have hql := szO_len (f := szS) q.2
 have hnl := npR_len q.1
 refine Fn.code0 Tryz.func76 rfl rfl rfl rfl ?_
 refine ACode.seq ?_
 refine ACode.region ?_
 refine .cons (St1.boxP rfl rfl rfl rfl rfl rfl) ?_
 refine .cons (.asg rfl rfl) ?_
 refine .cons (.asg rfl rfl) ?_
 refine .nil ?_
 refine ks_n ?_
 refine ACode.seq ?_
 refine ACode.region ?_
 refine .cons (.fP 0 0 false rfl rfl) ?_
 refine .cons (.l1 1 rfl rfl) ?_
 refine .cons (.cP [.tmp 15] rfl rfl rfl rfl (specNestPts_B q.1 hbg) rfl) ?_
 refine .cons (.mv rfl rfl) ?_
 refine .cons (.ex rfl rfl rfl) ?_
 refine .cons (.ex rfl rfl rfl) ?_
 refine .cons (.asg rfl rfl) ?_
 refine .cons (.asg rfl rfl) ?_
 refine .nil ?_
 refine ks_n ?_
 refine ACode.seq ?_
 refine ACode.seq ?_
 refine ACode.region ?_
 refine .cons (.mv rfl rfl) ?_
 refine .cons (.nt rfl rfl) ?_
 refine .cons (.mv rfl rfl) ?_
 refine AOps.cases 21 _ rfl (fun g21 => ?_) (fun g21 => ?_)
 ·try simp only [zs1, zs2, zs3, zs4, zs5, zs6, zs7] at g21
  refine .cons (.gF rfl rfl rfl) ?_
  refine .cons (.gF rfl rfl rfl) ?_
  refine .cons (.gF rfl rfl rfl) ?_
  refine .cons (.gF rfl rfl rfl) ?_
  refine .cons (.pT rfl rfl rfl) ?_
  refine .cons (.mv rfl rfl) ?_
  refine .cons (.gF rfl rfl rfl) ?_
  refine .cons (.gF rfl rfl rfl) ?_
  refine .cons (.gF rfl rfl rfl) ?_
  refine .cons (.gF rfl rfl rfl) ?_
  refine .cons (.pT rfl rfl rfl) ?_
  refine .nil ?_
  refine ks_n ?_
  refine ACode.condT rfl (fun _ => ?_) (fun h => by first | (cases h; done) | (simp [*] at h; done) | (exfalso; simp_all; done))
  refine ACode.seq ?_
  have hP : prtV ar q = false := by first | exact prtV_f1 (by assumption) | exact prtV_f2 (by omega)
  have hC := cntP_no hP
  refine ACode.region ?_
  refine .cons (.asg rfl rfl) ?_
  refine .cons (.asg rfl rfl) ?_
  refine .nil ?_
  refine ks_n ?_
  refine ACode.ret ?_
  refine ks_r ?_
  refine kf_wret [(.t 4, .v (.o (nat1 (cntP ar q)))), (.t 5, .v (.o (bo1 (prtV ar q))))] (Wk.keep [] rfl rfl ⟨ks rfl (.dt (by first | (rw [hC]; done) | (rw [hC]; rfl) | (rw [hC]; exact congrArg (fun z => V.o (nat1 z)) (by rw [Int.natCast_mul])))), ks rfl (.dt (by rw [hP])), trivial⟩) rfl ?_ nobox
  rfl
 ·try simp only [zs1, zs2, zs3, zs4, zs5, zs6, zs7] at g21
  refine .cons (.gT rfl rfl rfl (.fP 1 0 false rfl rfl)) ?_
  refine .cons (.gT rfl rfl rfl (.l1 1 rfl rfl)) ?_
  refine .cons (.gT rfl rfl rfl (.ln 91 9 152 rfl rfl rfl)) ?_
  refine .cons (.gT rfl rfl rfl (.ls rfl rfl rfl)) ?_
  refine .cons (.pF rfl rfl rfl) ?_
  refine .cons (.mv rfl rfl) ?_
  refine AOps.cases 27 _ rfl (fun g27 => ?_) (fun g27 => ?_)
  ·try simp only [zs1, zs2, zs3, zs4, zs5, zs6, zs7] at g27
   refine .cons (.gF rfl rfl rfl) ?_
   refine .cons (.gF rfl rfl rfl) ?_
   refine .cons (.gF rfl rfl rfl) ?_
   refine .cons (.gF rfl rfl rfl) ?_
   refine .cons (.pT rfl rfl rfl) ?_
   refine .nil ?_
   refine ks_n ?_
   refine ACode.condT rfl (fun _ => ?_) (fun h => by first | (cases h; done) | (simp [*] at h; done) | (exfalso; simp_all; done))
   refine ACode.seq ?_
   have hP : prtV ar q = false := by first | exact prtV_f1 (by assumption) | exact prtV_f2 (by omega)
   have hC := cntP_no hP
   refine ACode.region ?_
   refine .cons (.asg rfl rfl) ?_
   refine .cons (.asg rfl rfl) ?_
   refine .nil ?_
   refine ks_n ?_
   refine ACode.ret ?_
   refine ks_r ?_
   refine kf_wret [(.t 4, .v (.o (nat1 (cntP ar q)))), (.t 5, .v (.o (bo1 (prtV ar q))))] (Wk.keep [] rfl rfl ⟨ks rfl (.dt (by first | (rw [hC]; done) | (rw [hC]; rfl) | (rw [hC]; exact congrArg (fun z => V.o (nat1 z)) (by rw [Int.natCast_mul])))), ks rfl (.dt (by rw [hP])), trivial⟩) rfl ?_ nobox
   rfl
  ·try simp only [zs1, zs2, zs3, zs4, zs5, zs6, zs7] at g27
   refine .cons (.gT rfl rfl rfl (.fP 1 0 false rfl rfl)) ?_
   refine .cons (.gT rfl rfl rfl (.l1 1 rfl rfl)) ?_
   refine .cons (.gT rfl rfl rfl (.ln 91 9 152 rfl rfl rfl)) ?_
   refine .cons (.gT rfl rfl rfl (.gt rfl rfl rfl)) ?_
   refine .cons (.pF rfl rfl rfl) ?_
   refine .nil ?_
   refine ks_n ?_
   refine ACode.condT rfl (fun h32 => ?_) (fun h32 => ?_)
   ·try simp only [zs1, zs2, zs3, zs4, zs5, zs6, zs7] at h32
    refine ACode.seq ?_
    have hP : prtV ar q = false := by first | exact prtV_f1 (by assumption) | exact prtV_f2 (by omega)
    have hC := cntP_no hP
    refine ACode.region ?_
    refine .cons (.asg rfl rfl) ?_
    refine .cons (.asg rfl rfl) ?_
    refine .nil ?_
    refine ks_n ?_
    refine ACode.ret ?_
    refine ks_r ?_
    refine kf_wret [(.t 4, .v (.o (nat1 (cntP ar q)))), (.t 5, .v (.o (bo1 (prtV ar q))))] (Wk.keep [] rfl rfl ⟨ks rfl (.dt (by first | (rw [hC]; done) | (rw [hC]; rfl) | (rw [hC]; exact congrArg (fun z => V.o (nat1 z)) (by rw [Int.natCast_mul])))), ks rfl (.dt (by rw [hP])), trivial⟩) rfl ?_ nobox
    rfl
   ·try simp only [zs1, zs2, zs3, zs4, zs5, zs6, zs7] at h32
    have hv1 : okP q.1 = true := by first | assumption | simp_all
    have hv2 : 1 ≤ q.2.length ∧ q.2.length ≤ 4 := by omega
    have hmb := Nat.mul_le_mul hnl hv2.2
    refine ACode.skip ?_
    refine ks_n ?_
    refine ACode.seq ?_
    refine ACode.seq ?_
    refine ACode.region ?_
    refine .cons (.asg rfl rfl) ?_
    refine .nil ?_
    refine ks_n ?_
    refine ACode.block ?_
    refine .loopK (fun m σ => (∃ i : Nat, m = q.2.length - i ∧ (i ≤ q.2.length) ∧ (∀ j s, j < i → q.2[j]? = some s → stmtV (q.1.length : Nat) s = true ∧ ∀ p ∈ npR q.1, stmG ar s p = true ∧ isPt p = true) ∧ σ = [(.t 0, .v (.o (vD (dRs ar)))), (.t 3, .v (.o (.c (.ptr (rP q))))), (.t 6, .v (.o (vD (dPs (npR q.1))))), (.t 8, .v (.o (nat1 (i : Nat))))])) [] ⟨0, rfl, by omega, fun j s hj _ => absurd hj (by omega), rfl⟩ ⟨ks rfl .dt, ks rfl .dt, ks rfl .dt, ks rfl .dt, trivial⟩ ?_
    rintro m σ ⟨i, hm0, hi, hF, rfl⟩
    refine ACode.seq ?_
    refine ACode.seq ?_
    refine ACode.region ?_
    refine .cons (.mv rfl rfl) ?_
    refine .cons (.fP 1 0 false rfl rfl) ?_
    refine .cons (.l1 1 rfl rfl) ?_
    refine .cons (.ln 91 9 152 rfl rfl rfl) ?_
    refine .cons (.ls rfl rfl rfl) ?_
    refine .nil ?_
    refine ks_n ?_
    refine .cD rfl (fun h37 => ?_) (fun h37 => ?_)
    ·skip
     obtain ⟨s, hs1⟩ : ∃ x_, q.2[i]? = some x_ := ⟨_, List.getElem?_eq_getElem (by omega)⟩
     have hsm := List.mem_of_getElem? hs1
     have hss := szO_mem (f := szS) hsm
     refine ACode.skip ?_
     refine ks_n ?_
     refine ACode.seq ?_
     refine ACode.block ?_
     refine ACode.seq ?_
     refine ACode.seq ?_
     refine ACode.drawK (by kernel_rfl) (by kernel_rfl) ?_
     refine .cons (.fP 1 0 false rfl rfl) ?_
     refine .cons (.l1 1 rfl rfl) ?_
     refine .cons (.mv rfl rfl) ?_
     refine .cons (.xL 91 9 152 rfl rfl rfl rfl rfl) ?_
     refine .cons (.lN 9 rfl rfl rfl) ?_
     refine .cons (.fP 0 0 false rfl rfl) ?_
     refine .cons (.l1 1 rfl rfl) ?_
     refine .cons (.ln 167 2 48 rfl rfl rfl) ?_
     refine .cons (.cP [.tmp 44, .tmp 47] rfl rfl rfl rfl (specStmtV_fn (q.1.length : Nat) s (by omega)) rfl) ?_
     refine .cons (.nt rfl rfl) ?_
     refine .nil ⟨by kernel_rfl, ?_⟩
     refine ks_n ?_
     refine ACode.condT rfl (fun h49 => ?_) (fun h49 => ?_)
     ·try simp only [zs1, zs2, zs3, zs4, zs5, zs6, zs7] at h49
      refine ACode.seq ?_
      have hP := prtV_f3 (ar := ar) hsm (by assumption)
      have hC := cntP_no hP
      refine ACode.region ?_
      refine .cons (.asg rfl rfl) ?_
      refine .cons (.asg rfl rfl) ?_
      refine .nil ?_
      refine ks_n ?_
      refine ACode.ret ?_
      refine ks_r ?_
      refine kb_r ?_
      refine ks_r ?_
      refine kl_r ?_
      refine kb_r ?_
      refine ks_r ?_
      refine kf_wret [(.t 4, .v (.o (nat1 (cntP ar q)))), (.t 5, .v (.o (bo1 (prtV ar q))))] (Wk.keep [] rfl rfl ⟨ks rfl (.dt (by first | (rw [hC]; done) | (rw [hC]; rfl) | (rw [hC]; exact congrArg (fun z => V.o (nat1 z)) (by rw [Int.natCast_mul])))), ks rfl (.dt (by rw [hP])), trivial⟩) rfl ?_ nobox
      rfl
     ·try simp only [zs1, zs2, zs3, zs4, zs5, zs6, zs7] at h49
      have hsv : stmtV (q.1.length : Nat) s = true := by assumption
      refine ACode.skip ?_
      refine ks_n ?_
      refine ACode.seq ?_
      refine ACode.region ?_
      refine .cons (.asg rfl rfl) ?_
      refine .nil ?_
      refine ks_n ?_
      refine ACode.block ?_
      refine .loopK (fun m σ => (∃ k : Nat, m = (npR q.1).length - k ∧ (k ≤ (npR q.1).length) ∧ (∀ j p, j < k → (npR q.1)[j]? = some p → stmG ar s p = true ∧ isPt p = true) ∧ σ = [(.t 0, .v (.o (vD (dRs ar)))), (.t 3, .v (.o (.c (.ptr (rP q))))), (.t 6, .v (.o (vD (dPs (npR q.1))))), (.t 8, .v (.o (nat1 (i : Nat)))), (.t 9, .v (.o (nat1 (k : Nat))))])) [] ⟨0, rfl, by omega, fun j p hj _ => absurd hj (by omega), rfl⟩ ⟨ks rfl .dt, ks rfl .dt, ks rfl .dt, ks rfl .dt, ks rfl .dt, trivial⟩ ?_
      rintro m σ ⟨k, hm0, hk, hG, rfl⟩
      refine ACode.seq ?_
      refine ACode.seq ?_
      refine ACode.region ?_
      refine .cons (.mv rfl rfl) ?_
      refine .cons (.mv rfl rfl) ?_
      refine .cons (.ln 27 1 24 rfl rfl rfl) ?_
      refine .cons (.ls rfl rfl rfl) ?_
      refine .nil ?_
      refine ks_n ?_
      refine .cD rfl (fun h53 => ?_) (fun h53 => ?_)
      ·skip
       obtain ⟨p, hp1⟩ : ∃ x_, (npR q.1)[k]? = some x_ := ⟨_, List.getElem?_eq_getElem (by omega)⟩
       have hpm := List.mem_of_getElem? hp1
       have hpt := npR_pt hpm
       refine ACode.skip ?_
       refine ks_n ?_
       refine ACode.seq ?_
       refine ACode.block ?_
       refine ACode.seq ?_
       refine ACode.drawK (by kernel_rfl) (by kernel_rfl) ?_
       refine .cons (.mv rfl rfl) ?_
       refine .cons (.fP 1 0 false rfl rfl) ?_
       refine .cons (.l1 1 rfl rfl) ?_
       refine .cons (.mv rfl rfl) ?_
       refine .cons (.xL 91 9 152 rfl rfl rfl rfl rfl) ?_
       refine .cons (.lN 9 rfl rfl rfl) ?_
       refine .cons (.mv rfl rfl) ?_
       refine .cons (.mv rfl rfl) ?_
       refine .cons (.xL 27 1 24 rfl rfl rfl rfl rfl) ?_
       refine .cons (.l1 1 rfl rfl) ?_
       refine .cons (.cP [.tmp 57, .tmp 62, .tmp 66] rfl rfl rfl rfl (l4Cells_fn hv hsv (by omega) hpt.1 hpt.2) rfl) ?_
       refine .cons (.mv rfl rfl) ?_
       refine .cons (.ex rfl rfl rfl) ?_
       refine .cons (.ex rfl rfl rfl) ?_
       refine .cons (.ex rfl rfl rfl) ?_
       refine .cons (.asg rfl rfl) ?_
       refine .cons (.asg rfl rfl) ?_
       refine .cons (.asg rfl rfl) ?_
       refine .nil ⟨by kernel_rfl, ?_⟩
       refine ks_n ?_
       refine ACode.seq ?_
       refine ACode.region ?_
       refine .cons (.mv rfl rfl) ?_
       refine .cons (.nt rfl rfl) ?_
       refine .cons (.mv rfl rfl) ?_
       refine AOps.cases 73 _ rfl (fun g73 => ?_) (fun g73 => ?_)
       ·try simp only [zs1, zs2, zs3, zs4, zs5, zs6, zs7] at g73
        refine .cons (.gF rfl rfl rfl) ?_
        refine .cons (.gF rfl rfl rfl) ?_
        refine .cons (.gF rfl rfl rfl) ?_
        refine .cons (.gF rfl rfl rfl) ?_
        refine .cons (.gF rfl rfl rfl) ?_
        refine .cons (.gF rfl rfl rfl) ?_
        refine .cons (.pT rfl rfl rfl) ?_
        refine .nil ?_
        refine ks_n ?_
        refine ACode.condT rfl (fun _ => ?_) (fun h => by first | (cases h; done) | (simp [*] at h; done) | (exfalso; simp_all; done))
        refine ACode.seq ?_
        have hP : prtV ar q = false := by first | exact prtV_f5 hpm hsm (by assumption) | exact prtV_f4 hpm (by assumption)
        have hC := cntP_no hP
        refine ACode.region ?_
        refine .cons (.asg rfl rfl) ?_
        refine .cons (.asg rfl rfl) ?_
        refine .nil ?_
        refine ks_n ?_
        refine ACode.ret ?_
        refine kb_r ?_
        refine ks_r ?_
        refine kl_r ?_
        refine kb_r ?_
        refine kb_r ?_
        refine ks_r ?_
        refine kl_r ?_
        refine kb_r ?_
        refine ks_r ?_
        refine kf_wret [(.t 4, .v (.o (nat1 (cntP ar q)))), (.t 5, .v (.o (bo1 (prtV ar q))))] (Wk.keep [] rfl rfl ⟨ks rfl (.dt (by first | (rw [hC]; done) | (rw [hC]; rfl) | (rw [hC]; exact congrArg (fun z => V.o (nat1 z)) (by rw [Int.natCast_mul])))), ks rfl (.dt (by rw [hP])), trivial⟩) rfl ?_ nobox
        rfl
       ·try simp only [zs1, zs2, zs3, zs4, zs5, zs6, zs7] at g73
        refine .cons (.gT rfl rfl rfl (.mv rfl rfl)) ?_
        refine .cons (.gT rfl rfl rfl (.mv rfl rfl)) ?_
        refine .cons (.gT rfl rfl rfl (.xL 27 1 24 rfl rfl rfl rfl rfl)) ?_
        refine .cons (.gT rfl rfl rfl (.l1 1 rfl rfl)) ?_
        refine .cons (.gT rfl rfl rfl (.cP [.tmp 77] rfl rfl rfl rfl (l1Point_fn _) rfl)) ?_
        refine .cons (.gT rfl rfl rfl (.nt rfl rfl)) ?_
        refine .cons (.pF rfl rfl rfl) ?_
        refine .nil ?_
        refine ks_n ?_
        refine ACode.condT rfl (fun h80 => ?_) (fun h80 => ?_)
        ·try simp only [zs1, zs2, zs3, zs4, zs5, zs6, zs7] at h80
         refine ACode.seq ?_
         have hP : prtV ar q = false := by first | exact prtV_f5 hpm hsm (by assumption) | exact prtV_f4 hpm (by assumption)
         have hC := cntP_no hP
         refine ACode.region ?_
         refine .cons (.asg rfl rfl) ?_
         refine .cons (.asg rfl rfl) ?_
         refine .nil ?_
         refine ks_n ?_
         refine ACode.ret ?_
         refine kb_r ?_
         refine ks_r ?_
         refine kl_r ?_
         refine kb_r ?_
         refine kb_r ?_
         refine ks_r ?_
         refine kl_r ?_
         refine kb_r ?_
         refine ks_r ?_
         refine kf_wret [(.t 4, .v (.o (nat1 (cntP ar q)))), (.t 5, .v (.o (bo1 (prtV ar q))))] (Wk.keep [] rfl rfl ⟨ks rfl (.dt (by first | (rw [hC]; done) | (rw [hC]; rfl) | (rw [hC]; exact congrArg (fun z => V.o (nat1 z)) (by rw [Int.natCast_mul])))), ks rfl (.dt (by rw [hP])), trivial⟩) rfl ?_ nobox
         rfl
        ·try simp only [zs1, zs2, zs3, zs4, zs5, zs6, zs7] at h80
         have hSG : stmG ar s p = true := by first | assumption | simp_all
         have hPT : isPt p = true := by first | assumption | simp_all
         refine ACode.skip ?_
         refine kb_n ?_
         refine ks_n ?_
         refine ACode.region ?_
         refine .cons (.mv rfl rfl) ?_
         refine .cons (.pl rfl rfl rfl) ?_
         refine .cons (.asg rfl rfl) ?_
         refine .nil ?_
         refine kl_k [] ⟨k + 1, rfl, by omega, fun j p' hj h' => (Nat.lt_succ_iff_lt_or_eq.1 hj).elim (fun h => hG j p' h h') (fun h => by subst h; rw [hp1] at h'; cases h'; exact ⟨hSG, hPT⟩), rfl⟩ ⟨ks rfl .dt, ks rfl .dt, ks rfl .dt, ks rfl .dt, ks rfl .dt, trivial⟩
      ·skip
       have hAll : ∀ p ∈ npR q.1, stmG ar s p = true ∧ isPt p = true := fun p hp => by obtain ⟨j, hj⟩ := List.mem_iff_getElem?.1 hp; exact hG j p (by have := (List.getElem?_eq_some_iff.1 hj).1; omega) hj
       refine ACode.exit ?_
       refine ks_e ?_
       refine kl_e ?_
       refine kb_hit ?_
       refine kb_n ?_
       refine ks_n ?_
       refine ACode.region ?_
       refine .cons (.mv rfl rfl) ?_
       refine .cons (.pl rfl rfl rfl) ?_
       refine .cons (.asg rfl rfl) ?_
       refine .nil ?_
       refine kl_k [] ⟨i + 1, rfl, by omega, fun j s' hj h' => (Nat.lt_succ_iff_lt_or_eq.1 hj).elim (fun h => hF j s' h h') (fun h => by subst h; rw [hs1] at h'; cases h'; exact ⟨hsv, hAll⟩), rfl⟩ ⟨ks rfl .dt, ks rfl .dt, ks rfl .dt, ks rfl .dt, trivial⟩
    ·skip
     have hP : prtV ar q = true := prtV_iff.2 ⟨hv1, hv2, fun s hs => by obtain ⟨j, hj⟩ := List.mem_iff_getElem?.1 hs; exact (hF j s (by have := (List.getElem?_eq_some_iff.1 hj).1; omega) hj).1, fun p hp => ⟨by obtain ⟨s, hs⟩ : ∃ s, q.2[0]? = some s := ⟨_, List.getElem?_eq_getElem (by omega)⟩; exact ((hF 0 s (by omega) hs).2 p hp).2, fun s hs => by obtain ⟨j, hj⟩ := List.mem_iff_getElem?.1 hs; exact ((hF j s (by have := (List.getElem?_eq_some_iff.1 hj).1; omega) hj).2 p hp).1⟩⟩
     have hC := cntP_yes hP
     refine ACode.exit ?_
     refine ks_e ?_
     refine kl_e ?_
     refine kb_hit ?_
     refine ks_n ?_
     refine ACode.seq ?_
     refine ACode.region ?_
     refine .cons (.mv rfl rfl) ?_
     refine .cons (.ln 27 1 24 rfl rfl rfl) ?_
     refine .cons (.fP 1 0 false rfl rfl) ?_
     refine .cons (.l1 1 rfl rfl) ?_
     refine .cons (.ln 91 9 152 rfl rfl rfl) ?_
     refine .cons (.ml rfl rfl rfl (by omega)) ?_
     refine .cons (.asg rfl rfl) ?_
     refine .cons (.asg rfl rfl) ?_
     refine .nil ?_
     refine ks_n ?_
     refine ACode.ret ?_
     refine kf_wret [(.t 4, .v (.o (nat1 (cntP ar q)))), (.t 5, .v (.o (bo1 (prtV ar q))))] (Wk.keep [] rfl rfl ⟨ks rfl (.dt (by first | (rw [hC]; done) | (rw [hC]; rfl) | (rw [hC]; exact congrArg (fun z => V.o (nat1 z)) (by rw [Int.natCast_mul])))), ks rfl (.dt (by rw [hP])), trivial⟩) rfl ?_ nobox
     rfl

set_option maxRecDepth 100000 in
set_option maxHeartbeats 1600000 in
theorem specPV_fn {g : Prg} (hs : szG g ≤ 1073741824) : Fn Tryz.prog 40 [] [ad (rG g)] (.o (bo1 (prgV g))) [] := by
 have h1 := szO_len (f := szR) g.1
 have h2 := szO_len (f := szPt) g.2
 have hsz : szG g = szO szR g.1 + szO szPt g.2 := rfl
 refine Fn.code0 Tryz.func40 rfl rfl rfl rfl ?_
 refine ACode.seq ?_
 refine ACode.region ?_
 refine .cons (St1.boxP rfl rfl rfl rfl rfl rfl) ?_
 refine .cons (.asg rfl rfl) ?_
 refine .nil ?_
 refine ks_n ?_
 refine ACode.seq ?_
 refine ACode.seq ?_
 refine ACode.region ?_
 refine .cons (.fP 0 0 false rfl rfl) ?_
 refine .cons (.l1 1 rfl rfl) ?_
 refine .cons (.cP [.tmp 8] rfl rfl rfl rfl (l4Arrays_fn g.1 (by omega) (fun x hx => by have := szO_mem (f := szR) hx; have e : szR x = x.1.size + x.2.length := rfl; omega)) rfl) ?_
 refine .cons (.nt rfl rfl) ?_
 refine .cons (.mv rfl rfl) ?_
 refine AOps.cases 11 _ rfl (fun g11 => ?_) (fun g11 => ?_)
 ·try simp only [zs1, zs2, zs3, zs4, zs5, zs6, zs7] at g11
  refine .cons (.gF rfl rfl rfl) ?_
  refine .cons (.gF rfl rfl rfl) ?_
  refine .cons (.gF rfl rfl rfl) ?_
  refine .cons (.gF rfl rfl rfl) ?_
  refine .cons (.pT rfl rfl rfl) ?_
  refine .nil ?_
  refine ks_n ?_
  refine ACode.condT rfl (fun _ => ?_) (fun h => by first | (cases h; done) | (simp [*] at h; done) | (exfalso; simp_all; done))
  refine ACode.seq ?_
  obtain ⟨hO, hN⟩ := prgV_f (g := g) (by first | exact prgS_f2 (show ¬ g.2.length ≤ 4 by omega) | exact prgS_f1 (by assumption))
  refine ACode.region ?_
  refine .cons (.asg rfl rfl) ?_
  refine .nil ?_
  refine ks_n ?_
  refine ACode.ret ?_
  refine ks_r ?_
  refine kf_ret rfl ?_ nobox
  exact leafB (by rw [hO]; try (rw [decide_eq_decide]; omega))
 ·try simp only [zs1, zs2, zs3, zs4, zs5, zs6, zs7] at g11
  refine .cons (.gT rfl rfl rfl (.fP 1 0 false rfl rfl)) ?_
  refine .cons (.gT rfl rfl rfl (.l1 1 rfl rfl)) ?_
  refine .cons (.gT rfl rfl rfl (.ln 119 2 48 rfl rfl rfl)) ?_
  refine .cons (.gT rfl rfl rfl (.gt rfl rfl rfl)) ?_
  refine .cons (.pF rfl rfl rfl) ?_
  refine .nil ?_
  refine ks_n ?_
  refine ACode.condT rfl (fun h16 => ?_) (fun h16 => ?_)
  ·try simp only [zs1, zs2, zs3, zs4, zs5, zs6, zs7] at h16
   refine ACode.seq ?_
   obtain ⟨hO, hN⟩ := prgV_f (g := g) (by first | exact prgS_f2 (show ¬ g.2.length ≤ 4 by omega) | exact prgS_f1 (by assumption))
   refine ACode.region ?_
   refine .cons (.asg rfl rfl) ?_
   refine .nil ?_
   refine ks_n ?_
   refine ACode.ret ?_
   refine ks_r ?_
   refine kf_ret rfl ?_ nobox
   exact leafB (by rw [hO]; try (rw [decide_eq_decide]; omega))
  ·try simp only [zs1, zs2, zs3, zs4, zs5, zs6, zs7] at h16
   have hA : arrsV g.1 = true := by first | assumption | simp_all
   have h4 : g.2.length ≤ 4 := by omega
   refine ACode.skip ?_
   refine ks_n ?_
   refine ACode.seq ?_
   refine ACode.region ?_
   refine .cons (.asg rfl rfl) ?_
   refine .nil ?_
   refine ks_n ?_
   refine ACode.seq ?_
   refine ACode.seq ?_
   refine ACode.region ?_
   refine .cons (.asg rfl rfl) ?_
   refine .nil ?_
   refine ks_n ?_
   refine ACode.block ?_
   refine .loopK (fun m σ => (∃ (k : Nat) (t : Int), m = g.2.length - k ∧ (k ≤ g.2.length) ∧ (∀ j q, j < k → g.2[j]? = some q → prtV g.1 q = true) ∧ (t = ((insG 0 (g.2.take k)).length : Nat)) ∧ (0 ≤ t ∧ t ≤ 480 * k) ∧ σ = [(.t 1, .v (.o (.c (.ptr (rG g))))), (.t 2, .v (.o (bo1 false))), (.t 3, .v (.o (nat1 t))), (.t 4, .v (.o (nat1 (k : Nat))))])) [] ⟨0, 0, rfl, by omega, fun j q hj _ => absurd hj (by omega), rfl, by omega, rfl⟩ ⟨ks rfl .dt, ks rfl .dt, ks rfl .dt, ks rfl .dt, trivial⟩ ?_
   rintro m σ ⟨k, t, hm0, hk, hF, hT, hb, rfl⟩
   refine ACode.seq ?_
   refine ACode.seq ?_
   refine ACode.region ?_
   refine .cons (.mv rfl rfl) ?_
   refine .cons (.fP 1 0 false rfl rfl) ?_
   refine .cons (.l1 1 rfl rfl) ?_
   refine .cons (.ln 119 2 48 rfl rfl rfl) ?_
   refine .cons (.ls rfl rfl rfl) ?_
   refine .nil ?_
   refine ks_n ?_
   refine .cD rfl (fun h21 => ?_) (fun h21 => ?_)
   ·skip
    obtain ⟨q, hq1⟩ : ∃ x_, g.2[k]? = some x_ := ⟨_, List.getElem?_eq_getElem (by omega)⟩
    have hqm := List.mem_of_getElem? hq1
    have hqs := szO_mem (f := szPt) hqm
    refine ACode.skip ?_
    refine ks_n ?_
    refine ACode.seq ?_
    refine ACode.block ?_
    refine ACode.seq ?_
    refine ACode.drawK (by kernel_rfl) (by kernel_rfl) ?_
    refine .cons (.fP 0 0 false rfl rfl) ?_
    refine .cons (.l1 1 rfl rfl) ?_
    refine .cons (.fP 1 0 false rfl rfl) ?_
    refine .cons (.l1 1 rfl rfl) ?_
    refine .cons (.mv rfl rfl) ?_
    refine .cons (.xL 119 2 48 rfl rfl rfl rfl rfl) ?_
    refine .cons (.lN 2 rfl rfl rfl) ?_
    refine .cons (.cP [.tmp 26, .tmp 31] rfl rfl rfl rfl (l4Part_fn hA (by omega)) rfl) ?_
    refine .cons (.mv rfl rfl) ?_
    refine .cons (.ex rfl rfl rfl) ?_
    refine .cons (.ex rfl rfl rfl) ?_
    refine .cons (.asg rfl rfl) ?_
    refine .cons (.asg rfl rfl) ?_
    refine .nil ⟨by kernel_rfl, ?_⟩
    refine ks_n ?_
    refine ACode.seq ?_
    refine ACode.seq ?_
    refine ACode.region ?_
    refine .cons (.mv rfl rfl) ?_
    refine .cons (.nt rfl rfl) ?_
    refine .nil ?_
    refine ks_n ?_
    refine ACode.condT rfl (fun h36 => ?_) (fun h36 => ?_)
    ·try simp only [zs1, zs2, zs3, zs4, zs5, zs6, zs7] at h36
     refine ACode.seq ?_
     obtain ⟨hO, hN⟩ := prgV_f (prgS_f3 hqm (by assumption))
     refine ACode.region ?_
     refine .cons (.asg rfl rfl) ?_
     refine .nil ?_
     refine ks_n ?_
     refine ACode.ret ?_
     refine ks_r ?_
     refine kb_r ?_
     refine ks_r ?_
     refine kl_r ?_
     refine kb_r ?_
     refine ks_r ?_
     refine kf_ret rfl ?_ nobox
     exact leafB (by rw [hO]; try (rw [decide_eq_decide]; omega))
    ·try simp only [zs1, zs2, zs3, zs4, zs5, zs6, zs7] at h36
     have hPV : prtV g.1 q = true := by assumption
     have hcl := cntP_len hPV k
     refine ACode.skip ?_
     refine ks_n ?_
     refine ACode.region ?_
     refine .cons (.mv rfl rfl) ?_
     refine .cons (.mv rfl rfl) ?_
     refine .cons (.pl rfl rfl rfl) ?_
     refine .cons (.asg rfl rfl) ?_
     refine .nil ?_
     refine kb_n ?_
     refine ks_n ?_
     refine ACode.region ?_
     refine .cons (.mv rfl rfl) ?_
     refine .cons (.pl rfl rfl rfl) ?_
     refine .cons (.asg rfl rfl) ?_
     refine .nil ?_
     refine kl_k [] ⟨k + 1, t + cntP g.1 q, rfl, by omega, fun j q' hj h' => (Nat.lt_succ_iff_lt_or_eq.1 hj).elim (fun h => hF j q' h h') (fun h => by subst h; rw [hq1] at h'; cases h'; exact hPV), by rw [insG_take hq1, List.length_append, hT, hcl.1]; omega, by omega, rfl⟩ ⟨ks rfl .dt, ks rfl .dt, ks rfl .dt, ks rfl .dt, trivial⟩
   ·skip
    obtain rfl : k = g.2.length := by omega
    rw [List.take_length] at hT
    obtain ⟨hO, hN⟩ := prgV_t (prgS_eq hA h4 hF)
    refine ACode.exit ?_
    refine ks_e ?_
    refine kl_e ?_
    refine kb_hit ?_
    refine ks_n ?_
    refine ACode.seq ?_
    refine ACode.region ?_
    refine .cons (.mv rfl rfl) ?_
    refine .cons (.le rfl rfl rfl) ?_
    refine .cons (.asg rfl rfl) ?_
    refine .nil ?_
    refine ks_n ?_
    refine ACode.ret ?_
    refine kf_ret rfl ?_ nobox
    exact leafB (by rw [hO]; try (rw [decide_eq_decide]; omega))

set_option maxRecDepth 100000 in
set_option maxHeartbeats 1600000 in
theorem l4Instances_fn {g : Prg} (hg : prgS g = true) : Fn Tryz.prog 77 [] [ad (rG g)] (.o (vD (dNs (insG 0 g.2)))) [] := by
 obtain ⟨hA, h4, hP⟩ := prgS_iff.1 hg
 refine Fn.code0 Tryz.func77 rfl rfl rfl rfl ?_
 refine ACode.seq ?_
 refine ACode.region ?_
 refine .cons (St1.boxP rfl rfl rfl rfl rfl rfl) ?_
 refine .cons (.asg rfl rfl) ?_
 refine .nil ?_
 refine ks_n ?_
 refine ACode.seq ?_
 refine ACode.region ?_
 refine .cons (St1.lit0 (k' := 108) (e := 94) (sz := 3) (b := true) rfl rfl rfl rfl (by kernel_rfl) rfl rfl) ?_
 refine .cons (.asg rfl rfl) ?_
 refine .nil ?_
 refine ks_n ?_
 refine ACode.seq ?_
 refine ACode.seq ?_
 refine ACode.region ?_
 refine .cons (.asg rfl rfl) ?_
 refine .nil ?_
 refine ks_n ?_
 refine ACode.block ?_
 refine .loopK (fun m σ => (∃ (k : Nat) (o : List Ins), m = g.2.length - k ∧ (k ≤ g.2.length) ∧ (insG 0 (g.2.take k) = o) ∧ (o.length ≤ 480 * k) ∧ σ = [(.t 1, .v (.o (.c (.ptr (rG g))))), (.t 3, .v (.o (.c (.own 110 3 (o.length))))), (.t 4, .v (.o (nat1 (k : Nat)))), (.b 110, .b 94 3 (dR (o.map rN))), (.u 110, .u)])) [(110, 108)] ⟨0, [], rfl, by omega, rfl, by simp, rfl⟩ ⟨ks rfl .dt, ks rfl (.c .ow), ks rfl .dt, kb 108 rfl (.dt rfl (by first | rfl | (simp [dR, rN, dI]; done) | (simp [dR, rN, dI]; rfl))), trivial⟩ ?_
 rintro m σ ⟨k, o, hm0, hk, hE, ho, rfl⟩
 refine ACode.seq ?_
 refine ACode.seq ?_
 refine ACode.region ?_
 refine .cons (.mv rfl rfl) ?_
 refine .cons (.fP 1 0 false rfl rfl) ?_
 refine .cons (.l1 1 rfl rfl) ?_
 refine .cons (.ln 119 2 48 rfl rfl rfl) ?_
 refine .cons (.ls rfl rfl rfl) ?_
 refine .nil ?_
 refine ks_n ?_
 refine .cD rfl (fun h13 => ?_) (fun h13 => ?_)
 ·skip
  obtain ⟨q, hq1⟩ : ∃ x_, g.2[k]? = some x_ := ⟨_, List.getElem?_eq_getElem (by omega)⟩
  have hqm := List.mem_of_getElem? hq1
  have hqv := prtV_iff.1 (hP q hqm)
  have hnp := np_pts hqv.1
  have hnl := npR_len q.1
  have hq4 := hqv.2.1
  refine ACode.skip ?_
  refine ks_n ?_
  refine ACode.seq ?_
  refine ACode.block ?_
  refine ACode.seq ?_
  refine ACode.region ?_
  refine .cons (St1.lit0 (k' := 116) (e := 27) (sz := 1) (b := true) rfl rfl rfl rfl (by kernel_rfl) rfl rfl) ?_
  refine .cons (.fP 1 0 false rfl rfl) ?_
  refine .cons (.l1 1 rfl rfl) ?_
  refine .cons (.mv rfl rfl) ?_
  refine .cons (.xL 119 2 48 rfl rfl rfl rfl rfl) ?_
  refine .cons (.fP 0 0 false rfl rfl) ?_
  refine .cons (.l1 1 rfl rfl) ?_
  refine .cons (.cO [.tmp 16, .tmp 22, .const (.slice none 0 0)] [(0, 116), (1000, 123)] rfl rfl rfl rfl (Fn.nilArg (pre := [.c (.own 0 1 0), vD (dLs q.1)]) (post := []) (sz := 1) (l2Points_fn hnp.1 q.1 [] [] rfl (by simp) PB.nil (by simp))) rfl (hbIn_one rfl) (hbPt_flat _ _) (hbPt_flat _ _) (hbPt_HB _ _) outS_one) ?_
  refine .cons (.asg rfl rfl) ?_
  refine .nil ?_
  refine ks_n ?_
  refine ACode.seq ?_
  refine ACode.region ?_
  refine .cons (.asg rfl rfl) ?_
  refine .nil ?_
  refine ks_n ?_
  refine ACode.block ?_
  refine .loopK (fun m σ => (∃ (i : Nat) (o2 : List Ins), m = (npR q.1).length - i ∧ (i ≤ (npR q.1).length) ∧ (o ++ insT k q.2.length ((npR q.1).take i) = o2) ∧ (o2.length ≤ 480 * k + 4 * i) ∧ σ = [(.t 1, .v (.o (.c (.ptr (rG g))))), (.t 3, .v (.o (.c (.own 120 3 (o2.length))))), (.t 4, .v (.o (nat1 (k : Nat)))), (.t 5, .v (.o (vD (dPs (npR q.1))))), (.t 6, .v (.o (nat1 (i : Nat)))), (.b 120, .b 94 3 (dR (o2.map rN))), (.u 120, .u)])) [(120, 110)] ⟨0, o, rfl, by omega, by simp [insT], by omega, rfl⟩ ⟨ks rfl .dt, ks rfl (.c .ow), ks rfl .dt, ks rfl (.c (.fz rfl (by first | (rw [hnp.2]; done) | (rw [hnp.2]; rfl)) (by rw [hnp.2, List.length_map]) (by rw [← hnp.2]; omega))), ks rfl .dt, kb 110 rfl (.dt rfl (by first | rfl | (simp [dR, rN, dI]; done) | (simp [dR, rN, dI]; rfl))), trivial⟩ ?_
  rintro m σ ⟨i, o2, hm0, hi, hEo, ho2, rfl⟩
  refine ACode.seq ?_
  refine ACode.seq ?_
  refine ACode.region ?_
  refine .cons (.mv rfl rfl) ?_
  refine .cons (.mv rfl rfl) ?_
  refine .cons (.ln 27 1 24 rfl rfl rfl) ?_
  refine .cons (.ls rfl rfl rfl) ?_
  refine .nil ?_
  refine ks_n ?_
  refine .cD rfl (fun h27 => ?_) (fun h27 => ?_)
  ·skip
   obtain ⟨p, hp1⟩ : ∃ x_, (npR q.1)[i]? = some x_ := ⟨_, List.getElem?_eq_getElem (by omega)⟩
   have hpt := npR_pt (List.mem_of_getElem? hp1)
   refine ACode.skip ?_
   refine ks_n ?_
   refine ACode.seq ?_
   refine ACode.block ?_
   refine ACode.seq ?_
   refine ACode.region ?_
   refine .cons (.asg rfl rfl) ?_
   refine .nil ?_
   refine ks_n ?_
   refine ACode.block ?_
   refine .loopK (fun m σ => (∃ (j : Nat) (o3 : List Ins), m = q.2.length - j ∧ (j ≤ q.2.length) ∧ (o2 ++ rowI k j p = o3) ∧ (o3.length ≤ 480 * k + 4 * i + j) ∧ σ = [(.t 1, .v (.o (.c (.ptr (rG g))))), (.t 3, .v (.o (.c (.own 130 3 (o3.length))))), (.t 4, .v (.o (nat1 (k : Nat)))), (.t 5, .v (.o (vD (dPs (npR q.1))))), (.t 6, .v (.o (nat1 (i : Nat)))), (.t 7, .v (.o (nat1 (j : Nat)))), (.b 130, .b 94 3 (dR (o3.map rN))), (.u 130, .u)])) [(130, 120)] ⟨0, o2, rfl, by omega, by simp [rowI_zero], by omega, rfl⟩ ⟨ks rfl .dt, ks rfl (.c .ow), ks rfl .dt, ks rfl .dt, ks rfl .dt, ks rfl .dt, kb 120 rfl (.dt rfl (by first | rfl | (simp [dR, rN, dI]; done) | (simp [dR, rN, dI]; rfl))), trivial⟩ ?_
   rintro m σ ⟨j, o3, hm0, hj, hEp, ho3, rfl⟩
   refine ACode.seq ?_
   refine ACode.seq ?_
   refine ACode.region ?_
   refine .cons (.mv rfl rfl) ?_
   refine .cons (.fP 1 0 false rfl rfl) ?_
   refine .cons (.l1 1 rfl rfl) ?_
   refine .cons (.mv rfl rfl) ?_
   refine .cons (.xL 119 2 48 rfl rfl rfl rfl rfl) ?_
   refine .cons (.fP 1 0 false rfl rfl) ?_
   refine .cons (.l1 1 rfl rfl) ?_
   refine .cons (.ln 91 9 152 rfl rfl rfl) ?_
   refine .cons (.ls rfl rfl rfl) ?_
   refine .nil ?_
   refine ks_n ?_
   refine .cD rfl (fun h38 => ?_) (fun h38 => ?_)
   ·skip
    refine ACode.skip ?_
    refine ks_n ?_
    refine ACode.seq ?_
    refine ACode.block ?_
    refine ACode.region ?_
    refine .cons (.mv rfl rfl) ?_
    refine .cons (.mv rfl rfl) ?_
    refine .cons (.mv rfl rfl) ?_
    refine .cons (St1.lit0 (k' := 144) (e := 3) (sz := 1) (b := true) rfl rfl rfl rfl (by kernel_rfl) rfl rfl) ?_
    refine .cons (.mv rfl rfl) ?_
    refine .cons (.mv rfl rfl) ?_
    refine .cons (.xL 27 1 24 rfl rfl rfl rfl rfl) ?_
    refine .cons (.l1 1 rfl rfl) ?_
    refine .cons (St1.appD (rows := []) (e := 3) (sz := 0) (by' := 8) rfl rfl rfl rfl rfl (by kernel_rfl) rfl rfl rfl rfl (by simp) (by simp; omega) rfl) ?_
    refine .cons (.bu [(0, .tmp 42), (1, .tmp 43), (2, .tmp 49)] [(0, 1), (1, 1), (2, 1)] [.int .i64 0, .int .i64 0, .slice none 0 0] rfl rfl rfl rfl rfl) ?_
    refine .cons (.li 94 2 0 [.tmp 50] rfl rfl rfl rfl rfl rfl) ?_
    refine .cons (St1.appB (k' := 152) (e := 94) (sz := 2) (by' := 40) rfl rfl rfl rfl rfl (by kernel_rfl) rfl rfl rfl rfl (by first | (simp [dR]; done) | (simp [dR]; omega)) (by first | (simp [dR]; done) | (simp [dR]; omega)) rfl rfl rfl) ?_
    refine .cons (.asg rfl rfl) ?_
    refine .nil ?_
    refine kb_n ?_
    refine ks_n ?_
    refine ACode.region ?_
    refine .cons (.mv rfl rfl) ?_
    refine .cons (.pl rfl rfl rfl) ?_
    refine .cons (.asg rfl rfl) ?_
    refine .nil ?_
    refine kl_k [(130, 152)] ⟨j + 1, o3 ++ [((k : Int), ((j : Nat) : Int), p)], rfl, by omega, by rw [rowI_snoc, ← List.append_assoc, hEp], by rw [List.length_append, List.length_singleton]; omega, rfl⟩ ⟨ks rfl .dt, ks rfl (.c .ow), ks rfl .dt, ks rfl .dt, ks rfl .dt, ks rfl .dt, kb 152 rfl (.dt rfl (by first | rfl | (simp [dR, rN, dI]; done) | (simp [dR, rN, dI]; rfl))), trivial⟩
   ·skip
    obtain rfl : j = q.2.length := by omega
    refine ACode.exit ?_
    refine ks_e ?_
    refine kl_e ?_
    refine kb_hit ?_
    refine kb_n ?_
    refine ks_n ?_
    refine ACode.region ?_
    refine .cons (.mv rfl rfl) ?_
    refine .cons (.pl rfl rfl rfl) ?_
    refine .cons (.asg rfl rfl) ?_
    refine .nil ?_
    refine kl_k [(120, 130)] ⟨i + 1, o3, rfl, by omega, by rw [insT_take hp1, ← List.append_assoc, hEo]; exact hEp, by omega, rfl⟩ ⟨ks rfl .dt, ks rfl (.c .ow), ks rfl .dt, ks rfl .dt, ks rfl .dt, kb 130 rfl (.dt rfl (by first | rfl | (simp [dR, rN, dI]; done) | (simp [dR, rN, dI]; rfl))), trivial⟩
  ·skip
   obtain rfl : i = (npR q.1).length := by omega
   rw [List.take_length] at hEo
   refine ACode.exit ?_
   refine ks_e ?_
   refine kl_e ?_
   refine kb_hit ?_
   refine kb_n ?_
   refine ks_n ?_
   refine ACode.region ?_
   refine .cons (.mv rfl rfl) ?_
   refine .cons (.pl rfl rfl rfl) ?_
   refine .cons (.asg rfl rfl) ?_
   refine .nil ?_
   refine kl_k [(110, 120)] ⟨k + 1, o2, rfl, by omega, by rw [insG_take hq1, hE]; exact hEo, by omega, rfl⟩ ⟨ks rfl .dt, ks rfl (.c .ow), ks rfl .dt, kb 120 rfl (.dt rfl (by first | rfl | (simp [dR, rN, dI]; done) | (simp [dR, rN, dI]; rfl))), trivial⟩
 ·skip
  obtain rfl : k = g.2.length := by omega
  rw [List.take_length] at hE
  refine ACode.exit ?_
  refine ks_e ?_
  refine kl_e ?_
  refine kb_hit ?_
  refine ks_n ?_
  refine ACode.seq ?_
  refine ACode.region ?_
  refine .cons (.mv rfl rfl) ?_
  refine .cons (.asg rfl rfl) ?_
  refine .nil ?_
  refine ks_n ?_
  refine ACode.ret ?_
  refine kf_wret [(.t 2, .v (.o (vD (dNs (insG 0 g.2)))))] (Wk.keep [] rfl rfl ⟨ks rfl (.c (.fz rfl (by rw [hE]) (by rw [hE, List.length_map]) (by omega))), trivial⟩) rfl ?_ nobox
  rfl
/-- The statement of an instance. -/
def stI (g : Prg) (x : Ins) : Stm := match (g.2[x.1.toNat]?).bind fun q => q.2[x.2.1.toNat]? with | some s => s | none => ((ByteArray.empty, []), .mk 0 0 ([], 0) (ByteArray.empty, []) [])
theorem stI_eq {g : Prg} {x : Ins} {k c : Nat} {q : Prt} {s : Stm} (h1 : x.1 = (k : Int)) (hq : g.2[k]? = some q) (h2 : x.2.1 = (c : Int)) (hs : q.2[c]? = some s) : stI g x = s := by
  rw [stI, h1, h2, Int.toNat_natCast, Int.toNat_natCast, hq, Option.bind_some, hs]
structure InsOk (g : Prg) (x : Ins) (k c : Nat) (q : Prt) : Prop where
  e1 : x.1 = (k : Int)
  hq : g.2[k]? = some q
  e2 : x.2.1 = (c : Int)
  hs : q.2[c]? = some (stI g x)
  pt : x.2.2 ∈ npR q.1
  sv : stmtV (q.1.length : Nat) (stI g x) = true
  ok : stmG g.1 (stI g x) x.2.2 = true
  ip : isPt x.2.2 = true
  hk : k < g.2.length
  hc : c < q.2.length
theorem ins_at {g : Prg} {x : Ins} (hg : prgS g = true) (hx : x ∈ insG 0 g.2) : ∃ k c q, InsOk g x k c q := by
  obtain ⟨k, q, c, h1, h2, h3, h4, h5⟩ := insG_mem hx
  rw [Nat.zero_add] at h2
  obtain ⟨s, hs⟩ : ∃ s, q.2[c]? = some s := ⟨_, List.getElem?_eq_getElem h4⟩
  have e := stI_eq h2 h1 h3 hs
  have hp := prtV_iff.1 ((prgS_iff.1 hg).2.2 q (List.mem_of_getElem? h1))
  have hm := List.mem_of_getElem? hs
  exact ⟨k, c, q, h2, h1, h3, by rw [e]; exact hs, h5, by rw [e]; exact hp.2.2.1 s hm, by rw [e]; exact (hp.2.2.2 _ h5).2 s hm, (hp.2.2.2 _ h5).1, (List.getElem?_eq_some_iff.1 h1).1, h4⟩
theorem stI_sz {g : Prg} {x : Ins} {k c : Nat} {q : Prt} (h : InsOk g x k c q) : szS (stI g x) ≤ szG g := by
  have h1 := szO_mem (f := szS) (List.mem_of_getElem? h.hs)
  have h2 := szO_mem (f := szPt) (List.mem_of_getElem? h.hq)
  have e1 : szPt q = szLs q.1 + szO szS q.2 := rfl
  have e2 : szG g = szO szR g.1 + szO szPt g.2 := rfl
  omega

set_option maxRecDepth 100000 in
set_option maxHeartbeats 1600000 in
theorem stmt_fn {g : Prg} {x : Ins} {k c : Nat} {q : Prt} (h : InsOk g x k c q) : Fn Tryz.prog 62 [] [ad (rG g), ad (rN x)] (.o (ad (rS (stI g x)))) [] := by
 refine Fn.code0 Tryz.func62 rfl rfl rfl rfl ?_
 refine ACode.seq ?_
 refine ACode.region ?_
 refine .cons (St1.boxP rfl rfl rfl rfl rfl rfl) ?_
 refine .cons (St1.boxP rfl rfl rfl rfl rfl rfl) ?_
 refine .cons (.al 104 [.string ByteArray.empty, .slice none 0 0, .int .i64 0, .int .i64 0, .slice none 0 0, .int .i64 0, .string ByteArray.empty, .slice none 0 0, .slice none 0 0] rfl rfl rfl) ?_
 refine .nil ?_
 refine ks_n ?_
 refine ACode.seq ?_
 refine ACode.drawK (by kernel_rfl) (by kernel_rfl) ?_
 refine .cons (.fP 1 0 false rfl rfl) ?_
 refine .cons (.l1 1 rfl rfl) ?_
 refine .cons (.fP 0 0 false rfl rfl) ?_
 refine .cons (.l1 1 rfl rfl) ?_
 refine .cons (.xL 119 2 48 (i := k) rfl rfl rfl rfl h.e1 (map_at h.hq)) ?_
 refine .cons (.fP 1 0 false rfl rfl) ?_
 refine .cons (.l1 1 rfl rfl) ?_
 refine .cons (.fP 1 0 false rfl rfl) ?_
 refine .cons (.l1 1 rfl rfl) ?_
 refine .cons (.xL 91 9 152 (i := c) rfl rfl rfl rfl h.e2 (map_at h.hs)) ?_
 refine .cons (.lN 9 rfl rfl rfl) ?_
 refine .cons (.sT 9 true rfl rfl rfl rfl rfl rfl rfl) ?_
 refine .nil ⟨by kernel_rfl, ?_⟩
 refine ks_n ?_
 refine ACode.ret ?_
 refine kf_ret rfl ?_ nobox
 rfl
def rB (b : Bool) : List D := [dB b]
def dBs (l : List Bool) : D := .list 1 (l.map rB)
/-- The cells that an instance reads, the one that it writes. -/
def usR (g : Prg) (x : Ins) : List Int := (rdE (stI g x).2).map fun a => cellG a x.2.2 g.1 0
def usW (g : Prg) (x : Ins) : Int := cellG (stI g x).1 x.2.2 g.1 0
def usRs (g : Prg) : Pts := (insG 0 g.2).map (usR g)
def usWs (g : Prg) : List Int := (insG 0 g.2).map (usW g)
def rU (u : List Int × Int) : List D := [dIs u.1, dI u.2]
def dUs (l : List (List Int × Int)) : D := .list 2 (l.map rU)
def usG (g : Prg) (x : Ins) : List Int × Int := (usR g x, usW g x)
def usL (g : Prg) : List (List Int × Int) := (insG 0 g.2).map (usG g)
/-- A traced program. -/
def rT (g : Prg) : List D := [dRs g.1, dPts g.2, dNs (insG 0 g.2), dPs (usRs g), dIs (usWs g)]
def totN (l : List Arr) : Nat := (l.map fun a => (sizeA a.2).toNat).sum
theorem totN_take {l : List Arr} {i : Nat} {x : Arr} (h : l[i]? = some x) : totN (l.take (i + 1)) = totN (l.take i) + (sizeA x.2).toNat := by
  rw [List.take_add_one, h, totN, List.map_append, List.sum_append]; simp [totN]
theorem totN_bd {l : List Arr} (h : arrsV l = true) : totN l ≤ 144 := by
  have key : ∀ l : List Arr, (∀ a ∈ l, arrOk a = true) → totN l ≤ 36 * l.length := by
    intro l
    induction l with
    | nil => intro _; simp [totN]
    | cons a l ih =>
      intro h
      have h1 := sizeA_bd (h a (by simp))
      have h2 := ih fun b hb => h b (by simp [hb])
      rw [totN, List.map_cons, List.sum_cons, List.length_cons]
      rw [totN] at h2
      omega
  have h1 := key l fun a ha => arrsV_at h ha
  have h2 := arrsV_len h
  omega
theorem sizeF_mono {l : List Int} : ∀ {a b : Int}, 0 ≤ a → a ≤ b → (∀ d ∈ l, 1 ≤ d) → sizeF a l ≤ sizeF b l := by
  induction l with
  | nil => intro a b _ h _; exact h
  | cons d l ih =>
    intro a b h0 h hd
    have h1 := hd d (by simp)
    exact ih (Int.mul_nonneg h0 (by omega)) (Int.mul_le_mul_of_nonneg_right h (by omega)) fun e he => hd e (by simp [he])
theorem atG_bd {p : List Int} : ∀ {ds : List Int} {ss : List Aff} {n : Int}, 0 ≤ n → (∀ d ∈ ds, 1 ≤ d) → ss.length = ds.length → atG p ds ss n ≠ -1 → 0 ≤ atG p ds ss n ∧ atG p ds ss n + 1 ≤ sizeF (n + 1) ds
  | [], ss, n, h0, _, hl, _ => by
    rw [List.eq_nil_of_length_eq_zero hl, atG]
    · exact ⟨h0, Int.le_refl _⟩
    · intros; contradiction
  | d :: ds, [], n, _, _, hl, _ => by cases hl
  | d :: ds, s :: ss, n, h0, hd, hl, hne => by
    rw [atG] at hne ⊢
    split at hne
    · rename_i hin
      rw [if_pos hin]
      have hv := of_decide_eq_true hin
      have h1 := hd d (by simp)
      have hm := Int.mul_nonneg h0 (show 0 ≤ d by omega)
      have e : (n + 1) * d = n * d + d := by rw [Int.add_mul, Int.one_mul]
      obtain ⟨h2, h3⟩ := atG_bd (p := p) (ds := ds) (ss := ss) (n := n * d + affEval s p) (by omega) (fun e he => hd e (by simp [he])) (by simpa using hl) hne
      refine ⟨h2, Int.le_trans h3 ?_⟩
      rw [show sizeF (n + 1) (d :: ds) = sizeF ((n + 1) * d) ds from rfl]
      exact sizeF_mono (by omega) (by omega) fun e he => hd e (by simp [he])
    · exact absurd rfl hne
theorem cellG_lt {a : Acc} {p : List Int} : ∀ {l : List Arr} {b : Int}, (∀ x ∈ l, arrOk x = true) → 0 ≤ b → cellG a p l b = -1 ∨ (b ≤ cellG a p l b ∧ cellG a p l b < b + totN l)
  | [], b, _, _ => .inl rfl
  | x :: l, b, h, h0 => by
    have hx := h x (by simp)
    have hs := sizeA_bd hx
    obtain ⟨hl, hd⟩ := arrOk_at hx
    have e : totN (x :: l) = (sizeA x.2).toNat + totN l := by simp [totN]
    rw [cellG]
    split
    · split
      · rename_i hle
        split
        · exact .inl rfl
        · rename_i hne
          obtain ⟨h1, h2⟩ := atG_bd (p := p) (n := 0) (Int.le_refl _) (fun d hd' => (hd d hd').1) hle hne
          have : sizeF (0 + 1) x.2 = sizeA x.2 := rfl
          right; omega
      · exact .inl rfl
    · rcases cellG_lt (a := a) (p := p) (l := l) (b := b + sizeA x.2) (fun y hy => h y (by simp [hy])) (by omega) with h1 | h1
      · exact .inl h1
      · right; omega
theorem cell_in {ar : List Arr} (hv : arrsV ar = true) {a : Acc} {p : List Int} (h : accG ar p a = true) : 0 ≤ cellG a p ar 0 ∧ (cellG a p ar 0).toNat < totN ar := by
  have h1 : 0 ≤ cellG a p ar 0 := of_decide_eq_true h
  rcases cellG_lt (a := a) (p := p) (l := ar) (b := 0) (fun x hx => arrsV_at hv hx) (Int.le_refl _) with h2 | h2
  · omega
  · exact ⟨h1, by omega⟩
theorem use_in {g : Prg} {x : Ins} {k c : Nat} {q : Prt} (hv : arrsV g.1 = true) (h : InsOk g x k c q) : (∀ n ∈ usR g x, 0 ≤ n ∧ n.toNat < totN g.1) ∧ 0 ≤ usW g x ∧ (usW g x).toNat < totN g.1 := by
  have h1 := h.ok
  rw [stmG, Bool.and_eq_true] at h1
  refine ⟨fun n hn => ?_, cell_in hv h1.1⟩
  obtain ⟨a, ha, rfl⟩ := List.mem_map.1 hn
  exact cell_in hv (List.all_eq_true.1 h1.2 a ha)
theorem usR_len {g : Prg} {x : Ins} {k c : Nat} {q : Prt} (h : InsOk g x k c q) : (usR g x).length ≤ 12 := by
  rw [usR, List.length_map]; exact (stm_accs h.sv).2.2
/-- Flags of cells. -/
def setB (l : List Bool) (cs : List Int) : List Bool := cs.foldl (fun l c => l.set c.toNat true) l
def stepF (wr : Bool) (g : Prg) (part : Int) (l : List Bool) (x : Ins) : List Bool := if x.1 = part then (if wr = true then l.set (usW g x).toNat true else setB l (usR g x)) else l
def flg (wr : Bool) (g : Prg) (part : Int) (n : Nat) : List Bool := ((insG 0 g.2).take n).foldl (stepF wr g part) (List.replicate (totN g.1) false)
theorem setB_len : ∀ {cs : List Int} {l : List Bool}, (setB l cs).length = l.length
  | [], _ => rfl
  | c :: cs, l => by
    have := setB_len (cs := cs) (l := l.set c.toNat true)
    rw [List.length_set] at this; exact this
theorem setB_take {l : List Bool} {cs : List Int} {i : Nat} {c : Int} (h : cs[i]? = some c) : setB l (cs.take (i + 1)) = (setB l (cs.take i)).set c.toNat true := by
  rw [List.take_add_one, h, setB, List.foldl_append]; rfl
theorem stepF_len {wr : Bool} {g : Prg} {part : Int} {l : List Bool} {x : Ins} : (stepF wr g part l x).length = l.length := by
  rw [stepF]
  split
  · split
    · rw [List.length_set]
    · rw [setB_len]
  · rfl
theorem flg_len {wr : Bool} {g : Prg} {part : Int} {n : Nat} : (flg wr g part n).length = totN g.1 := by
  have key : ∀ (xs : List Ins) (l : List Bool), (xs.foldl (stepF wr g part) l).length = l.length := by
    intro xs
    induction xs with
    | nil => intro l; rfl
    | cons x xs ih => intro l; rw [List.foldl_cons, ih, stepF_len]
  rw [flg, key, List.length_replicate]
theorem flg_next {wr : Bool} {g : Prg} {part : Int} {n : Nat} {x : Ins} (h : (insG 0 g.2)[n]? = some x) : flg wr g part (n + 1) = stepF wr g part (flg wr g part n) x := by
  rw [flg, List.take_add_one, h, List.foldl_append]; rfl
theorem step_no {wr : Bool} {g : Prg} {part : Int} {l : List Bool} {x : Ins} (h : ¬ x.1 = part) : stepF wr g part l x = l := if_neg h
theorem step_w {g : Prg} {part : Int} {l : List Bool} {x : Ins} (h : x.1 = part) : stepF true g part l x = l.set (usW g x).toNat true := by rw [stepF, if_pos h]; rfl
theorem step_r {g : Prg} {part : Int} {l : List Bool} {x : Ins} (h : x.1 = part) : stepF false g part l x = setB l (usR g x) := by rw [stepF, if_pos h]; rfl
theorem dR_setB (l : List Bool) (i : Nat) (x y : Bool) : (dR (l.map rB)).set i (place1 ((rB x).map C.d) 0 (bo1 y).cells) = dR ((l.set i y).map rB) := by
  unfold dR
  rw [List.map_set, List.map_set]
  rfl
theorem dR_repB (n : Nat) : dR (List.replicate n [dB false]) = dR ((List.replicate n false).map rB) := by rw [List.map_replicate]; rfl
/-- The places of what is true. -/
def flagN (l : List Bool) (n : Nat) : List Int := ((List.range n).filter fun i => l.getD i false).map fun (i : Nat) => (i : Int)
def flagV (l : List Bool) : List Int := flagN l l.length
theorem flagN_len {l : List Bool} {n : Nat} : (flagN l n).length ≤ n := by
  rw [flagN, List.length_map]
  exact Nat.le_trans (List.length_filter_le _ _) (by simp)
theorem flagN_next {l : List Bool} {n : Nat} {b : Bool} (h : l[n]? = some b) : flagN l (n + 1) = if b = true then flagN l n ++ [(n : Int)] else flagN l n := by
  rw [flagN, List.range_succ, List.filter_append, List.map_append]
  have e : l.getD n false = b := by rw [List.getD, h]; rfl
  cases b with
  | true => rw [if_pos rfl, List.filter_cons_of_pos (by rw [e])]; rfl
  | false => rw [if_neg (by simp), List.filter_cons_of_neg (by rw [e]; simp)]; simp [flagN]




theorem insG_len {g : Prg} (h : prgS g = true) : (insG 0 g.2).length ≤ 1920 := by
  obtain ⟨_, h4, hP⟩ := prgS_iff.1 h
  have key : ∀ (l : List Prt) (n : Nat), (∀ q ∈ l, prtV g.1 q = true) → (insG n l).length ≤ 480 * l.length := by
    intro l
    induction l with
    | nil => intro n _; simp [insG]
    | cons q l ih =>
      intro n hq
      have h1 := (cntP_len (hq q (by simp)) n).2
      have h2 := ih (n + 1) fun q' h' => hq q' (by simp [h'])
      rw [insG, List.length_append, List.length_cons]; omega
  have := key g.2 0 hP
  omega
set_option maxRecDepth 100000 in
set_option maxHeartbeats 1600000 in
theorem cells_fn {g : Prg} (hv : arrsV g.1 = true) : Fn Tryz.prog 90 [] [ad (rG g)] (.o (nat1 (totN g.1 : Nat))) [] := by
 have hl := arrsV_len hv
 refine Fn.code0 Tryz.func90 rfl rfl rfl rfl ?_
 refine ACode.seq ?_
 refine ACode.region ?_
 refine .cons (St1.boxP rfl rfl rfl rfl rfl rfl) ?_
 refine .cons (.asg rfl rfl) ?_
 refine .nil ?_
 refine ks_n ?_
 refine ACode.seq ?_
 refine ACode.region ?_
 refine .cons (.asg rfl rfl) ?_
 refine .nil ?_
 refine ks_n ?_
 refine ACode.seq ?_
 refine ACode.seq ?_
 refine ACode.region ?_
 refine .cons (.fP 0 0 false rfl rfl) ?_
 refine .cons (.l1 1 rfl rfl) ?_
 refine .cons (.ln 122 2 40 rfl rfl rfl) ?_
 refine .cons (.mv rfl rfl) ?_
 refine .nil ?_
 refine ks_n ?_
 refine ACode.block ?_
 refine .loopK (fun m σ => (∃ (i : Nat) (t : Int), m = g.1.length - i ∧ (i ≤ g.1.length) ∧ (t = (totN (g.1.take i) : Nat)) ∧ (0 ≤ t ∧ t ≤ 36 * i) ∧ σ = [(.t 1, .v (.o (.c (.ptr (rG g))))), (.t 2, .v (.o (nat1 0))), (.t 3, .v (.o (nat1 t))), (.t 7, .v (.o (vD (dRs g.1)))), (.t 8, .v (.o (nat1 (g.1.length : Nat)))), (.t 9, .v (.o (nat1 (i : Nat))))])) [] ⟨0, 0, rfl, by omega, rfl, by omega, rfl⟩ ⟨ks rfl .dt, ks rfl .dt, ks rfl .dt, ks rfl .dt, ks rfl .dt, ks rfl .dt, trivial⟩ ?_
 rintro m σ ⟨i, t, hm0, hi, hT, hb, rfl⟩
 refine ACode.seq ?_
 refine ACode.region ?_
 refine .cons (.ls rfl rfl rfl) ?_
 refine .nil ?_
 refine ks_n ?_
 refine ACode.seq ?_
 refine .cD rfl (fun h10 => ?_) (fun h10 => ?_)
 ·skip
  obtain ⟨x, hx1⟩ : ∃ x_, g.1[i]? = some x_ := ⟨_, List.getElem?_eq_getElem (by omega)⟩
  have hxo := arr_mem hv hx1
  have hsb := sizeA_bd hxo
  refine ACode.skip ?_
  refine ks_n ?_
  refine ACode.seq ?_
  refine ACode.block ?_
  refine ACode.seq ?_
  refine ACode.region ?_
  refine .cons (.xL 122 2 40 rfl rfl rfl rfl rfl) ?_
  refine .cons (.lN 2 rfl rfl rfl) ?_
  refine .cons (.al 105 [.string ByteArray.empty, .slice none 0 0] rfl rfl rfl) ?_
  refine .cons (.sT 2 true rfl rfl rfl rfl rfl rfl rfl) ?_
  refine .nil ?_
  refine ks_n ?_
  refine ACode.region ?_
  refine .cons (.mv rfl rfl) ?_
  refine .cons (.bN 2 rfl rfl rfl rfl rfl rfl) ?_
  refine .cons (.cP [.tmp 14] rfl rfl rfl rfl (size_fn hxo) rfl) ?_
  refine .cons (.pl rfl rfl rfl) ?_
  refine .cons (.asg rfl rfl) ?_
  refine .nil ?_
  refine kb_n ?_
  refine ks_n ?_
  refine ACode.region ?_
  refine .cons (.pl rfl rfl rfl) ?_
  refine .cons (.mv rfl rfl) ?_
  refine .nil ?_
  refine kl_k [] ⟨i + 1, t + sizeA x.2, rfl, by omega, by rw [totN_take hx1, hT]; omega, by omega, rfl⟩ ⟨ks rfl .dt, ks rfl .dt, ks rfl .dt, ks rfl .dt, ks rfl .dt, ks rfl .dt, trivial⟩
 ·skip
  obtain rfl : i = g.1.length := by omega
  rw [List.take_length] at hT
  refine ACode.exit ?_
  refine ks_e ?_
  refine kl_e ?_
  refine kb_hit ?_
  refine ks_n ?_
  refine ACode.seq ?_
  refine ACode.region ?_
  refine .cons (.mv rfl rfl) ?_
  refine .cons (.asg rfl rfl) ?_
  refine .nil ?_
  refine ks_n ?_
  refine ACode.ret ?_
  refine kf_ret rfl ?_ nobox
  exact leafI hT

set_option maxRecDepth 100000 in
set_option maxHeartbeats 1600000 in
theorem l4Total_fn {g : Prg} (hv : arrsV g.1 = true) : Fn Tryz.prog 88 [] [ad (rG g)] (.o (nat1 (totN g.1 : Nat))) [] := by
 have hl := arrsV_len hv
 refine Fn.code0 Tryz.func88 rfl rfl rfl rfl ?_
 refine ACode.seq ?_
 refine ACode.region ?_
 refine .cons (St1.boxP rfl rfl rfl rfl rfl rfl) ?_
 refine .cons (.asg rfl rfl) ?_
 refine .nil ?_
 refine ks_n ?_
 refine ACode.seq ?_
 refine ACode.region ?_
 refine .cons (.asg rfl rfl) ?_
 refine .nil ?_
 refine ks_n ?_
 refine ACode.seq ?_
 refine ACode.seq ?_
 refine ACode.region ?_
 refine .cons (.asg rfl rfl) ?_
 refine .nil ?_
 refine ks_n ?_
 refine ACode.block ?_
 refine .loopK (fun m σ => (∃ (i : Nat) (t : Int), m = g.1.length - i ∧ (i ≤ g.1.length) ∧ (t = (totN (g.1.take i) : Nat)) ∧ (0 ≤ t ∧ t ≤ 36 * i) ∧ σ = [(.t 1, .v (.o (.c (.ptr (rG g))))), (.t 2, .v (.o (nat1 0))), (.t 3, .v (.o (nat1 t))), (.t 4, .v (.o (nat1 (i : Nat))))])) [] ⟨0, 0, rfl, by omega, rfl, by omega, rfl⟩ ⟨ks rfl .dt, ks rfl .dt, ks rfl .dt, ks rfl .dt, trivial⟩ ?_
 rintro m σ ⟨i, t, hm0, hi, hT, hb, rfl⟩
 refine ACode.seq ?_
 refine ACode.seq ?_
 refine ACode.region ?_
 refine .cons (.mv rfl rfl) ?_
 refine .cons (.fP 0 0 false rfl rfl) ?_
 refine .cons (.l1 1 rfl rfl) ?_
 refine .cons (.ln 122 2 40 rfl rfl rfl) ?_
 refine .cons (.ls rfl rfl rfl) ?_
 refine .nil ?_
 refine ks_n ?_
 refine .cD rfl (fun h9 => ?_) (fun h9 => ?_)
 ·skip
  obtain ⟨x, hx1⟩ : ∃ x_, g.1[i]? = some x_ := ⟨_, List.getElem?_eq_getElem (by omega)⟩
  have hxo := arr_mem hv hx1
  have hsb := sizeA_bd hxo
  refine ACode.skip ?_
  refine ks_n ?_
  refine ACode.seq ?_
  refine ACode.block ?_
  refine ACode.region ?_
  refine .cons (.mv rfl rfl) ?_
  refine .cons (.fP 0 0 false rfl rfl) ?_
  refine .cons (.l1 1 rfl rfl) ?_
  refine .cons (.mv rfl rfl) ?_
  refine .cons (.xL 122 2 40 rfl rfl rfl rfl rfl) ?_
  refine .cons (.lN 2 rfl rfl rfl) ?_
  refine .cons (.cP [.tmp 17] rfl rfl rfl rfl (l4Size_fn hxo) rfl) ?_
  refine .cons (.pl rfl rfl rfl) ?_
  refine .cons (.asg rfl rfl) ?_
  refine .nil ?_
  refine kb_n ?_
  refine ks_n ?_
  refine ACode.region ?_
  refine .cons (.mv rfl rfl) ?_
  refine .cons (.pl rfl rfl rfl) ?_
  refine .cons (.asg rfl rfl) ?_
  refine .nil ?_
  refine kl_k [] ⟨i + 1, t + sizeA x.2, rfl, by omega, by rw [totN_take hx1, hT]; omega, by omega, rfl⟩ ⟨ks rfl .dt, ks rfl .dt, ks rfl .dt, ks rfl .dt, trivial⟩
 ·skip
  obtain rfl : i = g.1.length := by omega
  rw [List.take_length] at hT
  refine ACode.exit ?_
  refine ks_e ?_
  refine kl_e ?_
  refine kb_hit ?_
  refine ks_n ?_
  refine ACode.seq ?_
  refine ACode.region ?_
  refine .cons (.mv rfl rfl) ?_
  refine .cons (.asg rfl rfl) ?_
  refine .nil ?_
  refine ks_n ?_
  refine ACode.ret ?_
  refine kf_ret rfl ?_ nobox
  exact leafI hT

set_option maxRecDepth 100000 in
set_option maxHeartbeats 1600000 in
theorem touched_fn {g : Prg} (hv : arrsV g.1 = true) {x : Ins} {k c : Nat} {q : Prt} (hI : InsOk g x k c q) : Fn Tryz.prog 82 [] [ad (rG g), ad (rN x)] (.tup [vD (dIs (usR g x)), nat1 (usW g x)]) [] := by
 obtain ⟨ha, hr, hrl⟩ := stm_accs hI.sv
 have hpt := npR_pt hI.pt
 refine Fn.code0 Tryz.func82 rfl rfl rfl rfl ?_
 refine ACode.seq ?_
 refine ACode.region ?_
 refine .cons (St1.boxP rfl rfl rfl rfl rfl rfl) ?_
 refine .cons (St1.boxP rfl rfl rfl rfl rfl rfl) ?_
 refine .cons (.asg rfl rfl) ?_
 refine .cons (.asg rfl rfl) ?_
 refine .nil ?_
 refine ks_n ?_
 refine ACode.seq ?_
 refine ACode.region ?_
 refine .cons (.lN 2 rfl rfl rfl) ?_
 refine .cons (.lN 3 rfl rfl rfl) ?_
 refine .cons (.cP [.tmp 10, .tmp 11] rfl rfl rfl rfl (stmt_fn hI) rfl) ?_
 refine .cons (.al 106 [.string ByteArray.empty, .slice none 0 0, .int .i64 0, .int .i64 0, .slice none 0 0, .int .i64 0, .string ByteArray.empty, .slice none 0 0, .slice none 0 0] rfl rfl rfl) ?_
 refine .cons (.sT 9 true rfl rfl rfl rfl rfl rfl rfl) ?_
 refine .nil ?_
 refine ks_n ?_
 refine ACode.seq ?_
 refine ACode.region ?_
 refine .cons (.asg rfl rfl) ?_
 refine .nil ?_
 refine ks_n ?_
 refine ACode.seq ?_
 refine ACode.seq ?_
 refine ACode.region ?_
 refine .cons (.fB 2 6 true rfl rfl rfl) ?_
 refine .cons (.bN 7 rfl rfl rfl rfl rfl rfl) ?_
 refine .cons (.cP [.tmp 14] rfl rfl rfl rfl (reads_fn (L := 5) _ (by omega) (stmtV_ex hI.sv).1) rfl) ?_
 refine .cons (.ln 84 2 40 rfl rfl rfl) ?_
 refine .cons (.mv rfl rfl) ?_
 refine .nil ?_
 refine ks_n ?_
 refine ACode.block ?_
 refine .loopK (fun m σ => (∃ i : Nat, m = (rdE (stI g x).2).length - i ∧ (i = 0) ∧ σ = [(.t 2, .v (.o (.c (.ptr (rG g))))), (.t 3, .v (.o (.c (.ptr (rN x))))), (.t 6, .v (.o (.c (.ptr (rS (stI g x)))))), (.t 7, .v (.o (.c (.d (.val (.slice none 0 0)))))), (.t 15, .v (.o (vD (dCs (rdE (stI g x).2))))), (.t 16, .v (.o (nat1 ((rdE (stI g x).2).length : Nat)))), (.t 17, .v (.o (nat1 (i : Nat))))]) ∨ (∃ i : Nat, m = (rdE (stI g x).2).length - i ∧ (1 ≤ i) ∧ (i ≤ (rdE (stI g x).2).length) ∧ σ = [(.t 2, .v (.o (.c (.ptr (rG g))))), (.t 3, .v (.o (.c (.ptr (rN x))))), (.t 6, .v (.o (.c (.ptr (rS (stI g x)))))), (.t 7, .v (.o (.c (.own 110 1 (i))))), (.t 15, .v (.o (vD (dCs (rdE (stI g x).2))))), (.t 16, .v (.o (nat1 ((rdE (stI g x).2).length : Nat)))), (.t 17, .v (.o (nat1 (i : Nat)))), (.b 110, .b 3 1 (dR (((rdE (stI g x).2).take i).map (fun a : Acc => rI (cellG a x.2.2 g.1 0))))), (.u 110, .u)])) [] (.inl ⟨0, rfl, rfl, rfl⟩) ⟨ks rfl .dt, ks rfl .dt, ks rfl (.c (.frzP _ _ _ _ _ _ _ _ rfl (show _ = dR [rS (stI g x)] from rfl) rfl rfl rfl)), ks rfl .dt, ks rfl .dt, ks rfl .dt, ks rfl .dt, trivial⟩ ?_
 rintro m σ (⟨i, hm0, rfl, rfl⟩ | ⟨i, hm0, hi1, hi, rfl⟩)
 ·skip
  refine ACode.seq ?_
  refine ACode.region ?_
  refine .cons (.ls rfl rfl rfl) ?_
  refine .nil ?_
  refine ks_n ?_
  refine ACode.seq ?_
  refine .cD rfl (fun h18 => ?_) (fun h18 => ?_)
  ·skip
   obtain ⟨a, ha1⟩ : ∃ x_, (rdE (stI g x).2)[0]? = some x_ := ⟨_, List.getElem?_eq_getElem (by omega)⟩
   refine ACode.skip ?_
   refine ks_n ?_
   refine ACode.seq ?_
   refine ACode.block ?_
   refine ACode.seq ?_
   refine ACode.region ?_
   refine .cons (.xL 84 2 40 rfl rfl rfl rfl rfl) ?_
   refine .cons (.lN 2 rfl rfl rfl) ?_
   refine .cons (.al 109 [.string ByteArray.empty, .slice none 0 0] rfl rfl rfl) ?_
   refine .cons (.sT 2 true rfl rfl rfl rfl rfl rfl rfl) ?_
   refine .nil ?_
   refine ks_n ?_
   refine ACode.region ?_
   refine .cons (.mv rfl rfl) ?_
   refine .cons (.lN 2 rfl rfl rfl) ?_
   refine .cons (.bN 2 rfl rfl rfl rfl rfl rfl) ?_
   refine .cons (.fP 2 0 false rfl rfl) ?_
   refine .cons (.l1 1 rfl rfl) ?_
   refine .cons (.cP [.tmp 22, .tmp 23, .tmp 25] rfl rfl rfl rfl (cell_fn hv (hr a (List.mem_of_getElem? ha1)) hpt.1 hpt.2) rfl) ?_
   refine .cons (.li 3 0 0 [.tmp 26] rfl rfl rfl rfl rfl rfl) ?_
   refine .cons (St1.appN (k' := 128) (e := 3) (sz := 0) (by' := 8) rfl rfl rfl rfl rfl (by kernel_rfl) rfl rfl rfl (by simp) (by first | (simp [dR]; done) | (simp [dR]; omega)) rfl rfl) ?_
   refine .cons (.asg rfl rfl) ?_
   refine .nil ?_
   refine kb_n ?_
   refine ks_n ?_
   refine ACode.region ?_
   refine .cons (.pl rfl rfl rfl) ?_
   refine .cons (.mv rfl rfl) ?_
   refine .nil ?_
   refine kl_k [(110, 128)] (.inr ⟨1, rfl, by omega, by omega, rfl⟩) ⟨ks rfl .dt, ks rfl .dt, ks rfl .dt, ks rfl (.c .ow), ks rfl .dt, ks rfl .dt, ks rfl .dt, kb 128 rfl (.dt rfl (by first | exact dR_take (fun a : Acc => rI (cellG a x.2.2 g.1 0)) ha1 | exact dR_take1 (fun a : Acc => rI (cellG a x.2.2 g.1 0)) ha1 | rfl | (simp [dR]; done))), trivial⟩
  ·skip
   have hn : usR g x = [] := by rw [usR, List.eq_nil_of_length_eq_zero (show (rdE (stI g x).2).length = 0 by omega)]; rfl
   refine ACode.exit ?_
   refine ks_e ?_
   refine kl_e ?_
   refine kb_hit ?_
   refine ks_n ?_
   refine ACode.seq ?_
   refine ACode.region ?_
   refine .cons (.mv rfl rfl) ?_
   refine .cons (.lN 2 rfl rfl rfl) ?_
   refine .cons (.fP 0 1 true rfl rfl) ?_
   refine .cons (.lN 2 rfl rfl rfl) ?_
   refine .cons (.fP 2 0 false rfl rfl) ?_
   refine .cons (.l1 1 rfl rfl) ?_
   refine .cons (.cP [.tmp 31, .tmp 33, .tmp 35] rfl rfl rfl rfl (cell_fn hv ha hpt.1 hpt.2) rfl) ?_
   refine .cons (.asg rfl rfl) ?_
   refine .cons (.asg rfl rfl) ?_
   refine .nil ?_
   refine ks_n ?_
   refine ACode.ret ?_
   refine kf_wret [(.t 4, .v (.o (vD (dIs (usR g x))))), (.t 5, .v (.o (nat1 (usW g x))))] (Wk.keep [] rfl rfl ⟨ks rfl (.c (Cto.nilE 1 (by rw [hn]; rfl))), ks rfl .dt, trivial⟩) rfl ?_ nobox
   rfl
 ·skip
  refine ACode.seq ?_
  refine ACode.region ?_
  refine .cons (.ls rfl rfl rfl) ?_
  refine .nil ?_
  refine ks_n ?_
  refine ACode.seq ?_
  refine .cD rfl (fun h18 => ?_) (fun h18 => ?_)
  ·skip
   obtain ⟨a, ha1⟩ : ∃ x_, (rdE (stI g x).2)[i]? = some x_ := ⟨_, List.getElem?_eq_getElem (by omega)⟩
   refine ACode.skip ?_
   refine ks_n ?_
   refine ACode.seq ?_
   refine ACode.block ?_
   refine ACode.seq ?_
   refine ACode.region ?_
   refine .cons (.xL 84 2 40 rfl rfl rfl rfl rfl) ?_
   refine .cons (.lN 2 rfl rfl rfl) ?_
   refine .cons (.al 109 [.string ByteArray.empty, .slice none 0 0] rfl rfl rfl) ?_
   refine .cons (.sT 2 true rfl rfl rfl rfl rfl rfl rfl) ?_
   refine .nil ?_
   refine ks_n ?_
   refine ACode.region ?_
   refine .cons (.mv rfl rfl) ?_
   refine .cons (.lN 2 rfl rfl rfl) ?_
   refine .cons (.bN 2 rfl rfl rfl rfl rfl rfl) ?_
   refine .cons (.fP 2 0 false rfl rfl) ?_
   refine .cons (.l1 1 rfl rfl) ?_
   refine .cons (.cP [.tmp 22, .tmp 23, .tmp 25] rfl rfl rfl rfl (cell_fn hv (hr a (List.mem_of_getElem? ha1)) hpt.1 hpt.2) rfl) ?_
   refine .cons (.li 3 0 0 [.tmp 26] rfl rfl rfl rfl rfl rfl) ?_
   refine .cons (St1.appB (k' := 128) (e := 3) (sz := 0) (by' := 8) rfl rfl rfl rfl rfl (by kernel_rfl) rfl rfl rfl rfl (by first | (simp [dR]; done) | (simp [dR]; omega)) (by first | (simp [dR]; done) | (simp [dR]; omega)) rfl rfl rfl) ?_
   refine .cons (.asg rfl rfl) ?_
   refine .nil ?_
   refine kb_n ?_
   refine ks_n ?_
   refine ACode.region ?_
   refine .cons (.pl rfl rfl rfl) ?_
   refine .cons (.mv rfl rfl) ?_
   refine .nil ?_
   refine kl_k [(110, 128)] (.inr ⟨i + 1, rfl, by omega, by omega, rfl⟩) ⟨ks rfl .dt, ks rfl .dt, ks rfl .dt, ks rfl (.c .ow), ks rfl .dt, ks rfl .dt, ks rfl .dt, kb 128 rfl (.dt rfl (by first | exact dR_take (fun a : Acc => rI (cellG a x.2.2 g.1 0)) ha1 | exact dR_take1 (fun a : Acc => rI (cellG a x.2.2 g.1 0)) ha1 | rfl | (simp [dR]; done))), trivial⟩
  ·skip
   obtain rfl : i = (rdE (stI g x).2).length := by omega
   refine ACode.exit ?_
   refine ks_e ?_
   refine kl_e ?_
   refine kb_hit ?_
   refine ks_n ?_
   refine ACode.seq ?_
   refine ACode.region ?_
   refine .cons (.mv rfl rfl) ?_
   refine .cons (.lN 2 rfl rfl rfl) ?_
   refine .cons (.fP 0 1 true rfl rfl) ?_
   refine .cons (.lN 2 rfl rfl rfl) ?_
   refine .cons (.fP 2 0 false rfl rfl) ?_
   refine .cons (.l1 1 rfl rfl) ?_
   refine .cons (.cP [.tmp 31, .tmp 33, .tmp 35] rfl rfl rfl rfl (cell_fn hv ha hpt.1 hpt.2) rfl) ?_
   refine .cons (.asg rfl rfl) ?_
   refine .cons (.asg rfl rfl) ?_
   refine .nil ?_
   refine ks_n ?_
   refine ACode.ret ?_
   refine kf_wret [(.t 4, .v (.o (vD (dIs (usR g x))))), (.t 5, .v (.o (nat1 (usW g x))))] (Wk.keep [] rfl rfl ⟨ks rfl (.c (.fz rfl (by rw [List.take_length, usR, List.map_map]; rfl) (by simp [usR]) (by omega))), ks rfl .dt, trivial⟩) rfl ?_ nobox
   rfl

set_option maxRecDepth 100000 in
set_option maxHeartbeats 1600000 in
theorem trace_no {g : Prg} (hs : szG g ≤ 1073741824) (hV : prgV g = false) : Fn Tryz.prog 44 [] [ad (rG g)] (.tup [.c (.d (.val (.pointer none))), bo1 false]) [] := by
 refine Fn.code0 Tryz.func44 rfl rfl rfl rfl ?_
 refine ACode.seq ?_
 refine ACode.region ?_
 refine .cons (St1.boxP rfl rfl rfl rfl rfl rfl) ?_
 refine .cons (.asg rfl rfl) ?_
 refine .cons (.asg rfl rfl) ?_
 refine .nil ?_
 refine ks_n ?_
 refine ACode.seq ?_
 refine ACode.region ?_
 refine .cons (.lN 2 rfl rfl rfl) ?_
 refine .cons (.cP [.tmp 12] rfl rfl rfl rfl (instances_fn hs) rfl) ?_
 refine .cons (.mv rfl rfl) ?_
 refine .cons (.ex rfl rfl rfl) ?_
 refine .cons (.ex rfl rfl rfl) ?_
 refine .cons (.asg rfl rfl) ?_
 refine .cons (.asg rfl rfl) ?_
 refine .nil ?_
 refine ks_n ?_
 refine ACode.seq ?_
 refine ACode.seq ?_
 refine ACode.region ?_
 refine .cons (.mv rfl rfl) ?_
 refine .cons (.nt rfl rfl) ?_
 refine .nil ?_
 refine ks_n ?_
 refine ACode.condT rfl (fun h17 => ?_) (fun h17 => ?_)
 ·try simp only [zs1, zs2, zs3, zs4, zs5, zs6, zs7] at h17
  refine ACode.seq ?_
  refine ACode.region ?_
  refine .cons (.asg rfl rfl) ?_
  refine .cons (.asg rfl rfl) ?_
  refine .nil ?_
  refine ks_n ?_
  refine ACode.ret ?_
  refine ks_r ?_
  refine kf_ret rfl ?_ nobox
  rfl
 ·try simp only [zs1, zs2, zs3, zs4, zs5, zs6, zs7] at h17
  rw [hV] at h17; cases h17

set_option maxRecDepth 100000 in
set_option maxHeartbeats 1600000 in
theorem trace_fn {g : Prg} (hs : szG g ≤ 1073741824) (hV : prgV g = true) : Fn Tryz.prog 44 [] [ad (rG g)] (.tup [.c (.ptr (rT g)), bo1 true]) [] := by
 obtain ⟨hS, hN, hL⟩ := prgV_s hV
 have hv := (prgS_iff.1 hS).1
 refine Fn.code0 Tryz.func44 rfl rfl rfl rfl ?_
 refine ACode.seq ?_
 refine ACode.region ?_
 refine .cons (St1.boxP rfl rfl rfl rfl rfl rfl) ?_
 refine .cons (.asg rfl rfl) ?_
 refine .cons (.asg rfl rfl) ?_
 refine .nil ?_
 refine ks_n ?_
 refine ACode.seq ?_
 refine ACode.region ?_
 refine .cons (.lN 2 rfl rfl rfl) ?_
 refine .cons (.cP [.tmp 12] rfl rfl rfl rfl (instances_fn hs) rfl) ?_
 refine .cons (.mv rfl rfl) ?_
 refine .cons (.ex rfl rfl rfl) ?_
 refine .cons (.ex rfl rfl rfl) ?_
 refine .cons (.asg rfl rfl) ?_
 refine .cons (.asg rfl rfl) ?_
 refine .nil ?_
 refine ks_n ?_
 refine ACode.seq ?_
 refine ACode.seq ?_
 refine ACode.region ?_
 refine .cons (.mv rfl rfl) ?_
 refine .cons (.nt rfl rfl) ?_
 refine .nil ?_
 refine ks_n ?_
 refine ACode.condT rfl (fun h17 => ?_) (fun h17 => ?_)
 ·try simp only [zs1, zs2, zs3, zs4, zs5, zs6, zs7] at h17
  rw [hV] at h17; cases h17
 ·try simp only [zs1, zs2, zs3, zs4, zs5, zs6, zs7] at h17
  rw [hN]
  refine ACode.skip ?_
  refine ks_n ?_
  refine ACode.seq ?_
  refine ACode.region ?_
  refine .cons (.lN 2 rfl rfl rfl) ?_
  refine .cons (.mv rfl rfl) ?_
  refine .cons (.bu [(0, .tmp 18), (1, .tmp 19)] [(0, 2), (2, 1), (3, 1), (4, 1)] [.slice none 0 0, .slice none 0 0, .slice none 0 0, .slice none 0 0, .slice none 0 0] rfl rfl rfl rfl rfl) ?_
  refine .cons (St1.boxB (k' := 121) rfl rfl rfl rfl rfl rfl rfl) ?_
  refine .cons (.asg rfl rfl) ?_
  refine .nil ?_
  refine ks_n ?_
  refine ACode.seq ?_
  refine ACode.seq ?_
  refine ACode.region ?_
  refine .cons (.mv rfl rfl) ?_
  refine .cons (.ln 94 3 40 rfl rfl rfl) ?_
  refine .cons (.mv rfl rfl) ?_
  refine .nil ?_
  refine ks_n ?_
  refine ACode.block ?_
  refine .loopK (fun m σ => (∃ i : Nat, m = (insG 0 g.2).length - i ∧ (i = 0) ∧ σ = [(.t 1, .v (.o (.c (.ptr (rG g))))), (.t 6, .v (.o (.c (.box 110 5 0 0)))), (.t 22, .v (.o (vD (dNs (insG 0 g.2))))), (.t 23, .v (.o (nat1 ((insG 0 g.2).length : Nat)))), (.t 24, .v (.o (nat1 (i : Nat)))), (.b 110, .b 63 5 [[.d (dRs g.1), .d (dPts g.2), .d (dNs (insG 0 g.2)), .d (.val (.slice none 0 0)), .d (.val (.slice none 0 0))]]), (.u 110, .u)]) ∨ (∃ i : Nat, m = (insG 0 g.2).length - i ∧ (1 ≤ i) ∧ (i ≤ (insG 0 g.2).length) ∧ σ = [(.t 1, .v (.o (.c (.ptr (rG g))))), (.t 6, .v (.o (.c (.box 110 5 0 0)))), (.t 22, .v (.o (vD (dNs (insG 0 g.2))))), (.t 23, .v (.o (nat1 ((insG 0 g.2).length : Nat)))), (.t 24, .v (.o (nat1 (i : Nat)))), (.b 111, .b 27 1 (dR (((insG 0 g.2).take i).map (fun x => rIs (usR g x))))), (.u 111, .u), (.b 112, .b 3 1 (dR (((insG 0 g.2).take i).map (fun x => rI (usW g x))))), (.u 112, .u), (.b 110, .b 63 5 [[.d (dRs g.1), .d (dPts g.2), .d (dNs (insG 0 g.2)), .own 111 1 (i), .own 112 1 (i)]]), (.u 110, .u)])) [(110, 121)] (.inl ⟨0, rfl, rfl, rfl⟩) ⟨ks rfl .dt, ks rfl (.c .bx), ks rfl .dt, ks rfl .dt, ks rfl .dt, kb 121 rfl (.cons (.cons .dt (.cons .dt (.cons .dt (.cons .dt (.cons .dt Ctos.nil))))) .nil), trivial⟩ ?_
  rintro m σ (⟨i, hm0, rfl, rfl⟩ | ⟨i, hm0, hi1, hi, rfl⟩)
  ·skip
   refine ACode.seq ?_
   refine ACode.region ?_
   refine .cons (.ls rfl rfl rfl) ?_
   refine .nil ?_
   refine ks_n ?_
   refine ACode.seq ?_
   refine .cD rfl (fun h25 => ?_) (fun h25 => ?_)
   ·skip
    obtain ⟨x, hx1⟩ : ∃ x_, (insG 0 g.2)[0]? = some x_ := ⟨_, List.getElem?_eq_getElem (by omega)⟩
    obtain ⟨k, c, q, hI⟩ := ins_at hS (List.mem_of_getElem? hx1)
    have hsz := stI_sz hI
    refine ACode.skip ?_
    refine ks_n ?_
    refine ACode.seq ?_
    refine ACode.block ?_
    refine ACode.seq ?_
    refine ACode.region ?_
    refine .cons (.xL 94 3 40 rfl rfl rfl rfl rfl) ?_
    refine .cons (.lN 3 rfl rfl rfl) ?_
    refine .cons (.al 108 [.int .i64 0, .int .i64 0, .slice none 0 0] rfl rfl rfl) ?_
    refine .cons (.sT 3 true rfl rfl rfl rfl rfl rfl rfl) ?_
    refine .nil ?_
    refine ks_n ?_
    refine ACode.seq ?_
    refine ACode.region ?_
    refine .cons (.lN 2 rfl rfl rfl) ?_
    refine .cons (.bN 3 rfl rfl rfl rfl rfl rfl) ?_
    refine .cons (.cP [.tmp 29, .tmp 30] rfl rfl rfl rfl (touched_fn hv hI) rfl) ?_
    refine .cons (.mv rfl rfl) ?_
    refine .cons (.ex rfl rfl rfl) ?_
    refine .cons (.ex rfl rfl rfl) ?_
    refine .cons (.asg rfl rfl) ?_
    refine .cons (.asg rfl rfl) ?_
    refine .nil ?_
    refine ks_n ?_
    refine ACode.drawK (by kernel_rfl) (by kernel_rfl) ?_
    refine .cons (.mv rfl rfl) ?_
    refine .cons (.mv rfl rfl) ?_
    refine .cons (.mv rfl rfl) ?_
    refine .cons (.nB rfl rfl rfl) ?_
    refine .cons (.fB 3 0 false rfl rfl rfl) ?_
    refine .cons (.b1 1 rfl rfl rfl rfl rfl rfl) ?_
    refine .cons (.mv rfl rfl) ?_
    refine .cons (.li 27 0 0 [.tmp 40] rfl rfl rfl rfl rfl rfl) ?_
    refine .cons (St1.appN (k' := 142) (e := 27) (sz := 0) (by' := 24) rfl rfl rfl rfl rfl (by kernel_rfl) rfl rfl rfl (by simp) (by first | (simp [dR]; done) | (simp [dR]; omega)) rfl rfl) ?_
    refine .cons (.mv rfl rfl) ?_
    refine .cons (.nB rfl rfl rfl) ?_
    refine .cons (.fB 4 0 false rfl rfl rfl) ?_
    refine .cons (.b1 1 rfl rfl rfl rfl rfl rfl) ?_
    refine .cons (.mv rfl rfl) ?_
    refine .cons (.li 3 0 0 [.tmp 47] rfl rfl rfl rfl rfl rfl) ?_
    refine .cons (St1.appN (k' := 149) (e := 3) (sz := 0) (by' := 8) rfl rfl rfl rfl rfl (by kernel_rfl) rfl rfl rfl (by simp) (by first | (simp [dR]; done) | (simp [dR]; omega)) rfl rfl) ?_
    refine .cons (.nB rfl rfl rfl) ?_
    refine .cons (.fB 3 0 false rfl rfl rfl) ?_
    refine .cons (.sT 1 false rfl rfl rfl rfl rfl rfl rfl) ?_
    refine .cons (.nB rfl rfl rfl) ?_
    refine .cons (.fB 4 0 false rfl rfl rfl) ?_
    refine .cons (.sT 1 false rfl rfl rfl rfl rfl rfl rfl) ?_
    refine .nil ⟨by kernel_rfl, ?_⟩
    refine kb_n ?_
    refine ks_n ?_
    refine ACode.region ?_
    refine .cons (.pl rfl rfl rfl) ?_
    refine .cons (.mv rfl rfl) ?_
    refine .nil ?_
    refine kl_k [(110, 110), (111, 142), (112, 149)] (.inr ⟨1, rfl, by omega, by omega, rfl⟩) ⟨ks rfl .dt, ks rfl (.c .bx), ks rfl .dt, ks rfl .dt, ks rfl .dt, kb 142 rfl (.dt rfl (by first | exact dR_take (fun x => rIs (usR g x)) hx1 | exact dR_take1 (fun x => rIs (usR g x)) hx1 | rfl | (simp [dR]; done))), kb 149 rfl (.dt rfl (by first | exact dR_take (fun x => rI (usW g x)) hx1 | exact dR_take1 (fun x => rI (usW g x)) hx1 | rfl | (simp [dR]; done))), kb 110 rfl (.cons (.cons .dt (.cons .dt (.cons .dt (.cons .ow (.cons .ow Ctos.nil))))) .nil), trivial⟩
   ·skip
    have hn : insG 0 g.2 = [] := List.eq_nil_of_length_eq_zero (by omega)
    refine ACode.exit ?_
    refine ks_e ?_
    refine kl_e ?_
    refine kb_hit ?_
    refine ks_n ?_
    refine ACode.seq ?_
    refine .keep [(.t 6, .v (.o (.c (.box 810 5 0 0)))), (.b 810, .b 63 5 [[.d (dRs g.1), .d (dPts g.2), .d (dNs (insG 0 g.2)), .d (dPs (usRs g)), .d (dIs (usWs g))]]), (.u 810, .u)] [(810, 110)] ⟨ks rfl (.c .bx), kb 110 rfl (.cons (.cons .dt (.cons .dt (.cons .dt (.cons (Cto.nilE 1 (by rw [usRs, hn]; rfl)) (.cons (Cto.nilE 1 (by rw [usWs, hn]; rfl)) Ctos.nil))))) .nil), trivial⟩ ?_
    refine ACode.region ?_
    refine .cons (.mv rfl rfl) ?_
    refine .cons (.asg rfl rfl) ?_
    refine .cons (.asg rfl rfl) ?_
    refine .nil ?_
    refine ks_n ?_
    refine ACode.ret ?_
    refine kf_wret [(.t 2, .v (.o (.c (.ptr (rT g))))), (.t 3, .v (.o (bo1 true)))] (Wk.keep [] rfl rfl ⟨ks rfl (.c (.frzP _ _ _ _ _ _ _ _ rfl (show _ = dR [rT g] from rfl) rfl rfl rfl)), ks rfl .dt, trivial⟩) rfl ?_ nobox
    rfl
  ·skip
   refine ACode.seq ?_
   refine ACode.region ?_
   refine .cons (.ls rfl rfl rfl) ?_
   refine .nil ?_
   refine ks_n ?_
   refine ACode.seq ?_
   refine .cD rfl (fun h25 => ?_) (fun h25 => ?_)
   ·skip
    obtain ⟨x, hx1⟩ : ∃ x_, (insG 0 g.2)[i]? = some x_ := ⟨_, List.getElem?_eq_getElem (by omega)⟩
    obtain ⟨k, c, q, hI⟩ := ins_at hS (List.mem_of_getElem? hx1)
    have hsz := stI_sz hI
    refine ACode.skip ?_
    refine ks_n ?_
    refine ACode.seq ?_
    refine ACode.block ?_
    refine ACode.seq ?_
    refine ACode.region ?_
    refine .cons (.xL 94 3 40 rfl rfl rfl rfl rfl) ?_
    refine .cons (.lN 3 rfl rfl rfl) ?_
    refine .cons (.al 108 [.int .i64 0, .int .i64 0, .slice none 0 0] rfl rfl rfl) ?_
    refine .cons (.sT 3 true rfl rfl rfl rfl rfl rfl rfl) ?_
    refine .nil ?_
    refine ks_n ?_
    refine ACode.seq ?_
    refine ACode.region ?_
    refine .cons (.lN 2 rfl rfl rfl) ?_
    refine .cons (.bN 3 rfl rfl rfl rfl rfl rfl) ?_
    refine .cons (.cP [.tmp 29, .tmp 30] rfl rfl rfl rfl (touched_fn hv hI) rfl) ?_
    refine .cons (.mv rfl rfl) ?_
    refine .cons (.ex rfl rfl rfl) ?_
    refine .cons (.ex rfl rfl rfl) ?_
    refine .cons (.asg rfl rfl) ?_
    refine .cons (.asg rfl rfl) ?_
    refine .nil ?_
    refine ks_n ?_
    refine ACode.drawK (by kernel_rfl) (by kernel_rfl) ?_
    refine .cons (.mv rfl rfl) ?_
    refine .cons (.mv rfl rfl) ?_
    refine .cons (.mv rfl rfl) ?_
    refine .cons (.nB rfl rfl rfl) ?_
    refine .cons (.fB 3 0 false rfl rfl rfl) ?_
    refine .cons (.b1 1 rfl rfl rfl rfl rfl rfl) ?_
    refine .cons (.mv rfl rfl) ?_
    refine .cons (.li 27 0 0 [.tmp 40] rfl rfl rfl rfl rfl rfl) ?_
    refine .cons (St1.appB (k' := 142) (e := 27) (sz := 0) (by' := 24) rfl rfl rfl rfl rfl (by kernel_rfl) rfl rfl rfl rfl (by first | (simp [dR]; done) | (simp [dR]; omega)) (by first | (simp [dR]; done) | (simp [dR]; omega)) rfl rfl rfl) ?_
    refine .cons (.mv rfl rfl) ?_
    refine .cons (.nB rfl rfl rfl) ?_
    refine .cons (.fB 4 0 false rfl rfl rfl) ?_
    refine .cons (.b1 1 rfl rfl rfl rfl rfl rfl) ?_
    refine .cons (.mv rfl rfl) ?_
    refine .cons (.li 3 0 0 [.tmp 47] rfl rfl rfl rfl rfl rfl) ?_
    refine .cons (St1.appB (k' := 149) (e := 3) (sz := 0) (by' := 8) rfl rfl rfl rfl rfl (by kernel_rfl) rfl rfl rfl rfl (by first | (simp [dR]; done) | (simp [dR]; omega)) (by first | (simp [dR]; done) | (simp [dR]; omega)) rfl rfl rfl) ?_
    refine .cons (.nB rfl rfl rfl) ?_
    refine .cons (.fB 3 0 false rfl rfl rfl) ?_
    refine .cons (.sT 1 false rfl rfl rfl rfl rfl rfl rfl) ?_
    refine .cons (.nB rfl rfl rfl) ?_
    refine .cons (.fB 4 0 false rfl rfl rfl) ?_
    refine .cons (.sT 1 false rfl rfl rfl rfl rfl rfl rfl) ?_
    refine .nil ⟨by kernel_rfl, ?_⟩
    refine kb_n ?_
    refine ks_n ?_
    refine ACode.region ?_
    refine .cons (.pl rfl rfl rfl) ?_
    refine .cons (.mv rfl rfl) ?_
    refine .nil ?_
    refine kl_k [(110, 110), (111, 142), (112, 149)] (.inr ⟨i + 1, rfl, by omega, by omega, rfl⟩) ⟨ks rfl .dt, ks rfl (.c .bx), ks rfl .dt, ks rfl .dt, ks rfl .dt, kb 142 rfl (.dt rfl (by first | exact dR_take (fun x => rIs (usR g x)) hx1 | exact dR_take1 (fun x => rIs (usR g x)) hx1 | rfl | (simp [dR]; done))), kb 149 rfl (.dt rfl (by first | exact dR_take (fun x => rI (usW g x)) hx1 | exact dR_take1 (fun x => rI (usW g x)) hx1 | rfl | (simp [dR]; done))), kb 110 rfl (.cons (.cons .dt (.cons .dt (.cons .dt (.cons .ow (.cons .ow Ctos.nil))))) .nil), trivial⟩
   ·skip
    obtain rfl : i = (insG 0 g.2).length := by omega
    refine ACode.exit ?_
    refine ks_e ?_
    refine kl_e ?_
    refine kb_hit ?_
    refine ks_n ?_
    refine ACode.seq ?_
    refine .keep [(.t 6, .v (.o (.c (.box 810 5 0 0)))), (.b 810, .b 63 5 [[.d (dRs g.1), .d (dPts g.2), .d (dNs (insG 0 g.2)), .d (dPs (usRs g)), .d (dIs (usWs g))]]), (.u 810, .u)] [(810, 110)] ⟨ks rfl (.c .bx), kb 110 rfl (.cons (.cons .dt (.cons .dt (.cons .dt (.cons (.fz rfl (by rw [List.take_length, usRs, List.map_map]; rfl) (by simp [usRs]) (by omega)) (.cons (.fz rfl (by rw [List.take_length, usWs, List.map_map]; rfl) (by simp [usWs]) (by omega)) Ctos.nil))))) .nil), trivial⟩ ?_
    refine ACode.region ?_
    refine .cons (.mv rfl rfl) ?_
    refine .cons (.asg rfl rfl) ?_
    refine .cons (.asg rfl rfl) ?_
    refine .nil ?_
    refine ks_n ?_
    refine ACode.ret ?_
    refine kf_wret [(.t 2, .v (.o (.c (.ptr (rT g))))), (.t 3, .v (.o (bo1 true)))] (Wk.keep [] rfl rfl ⟨ks rfl (.c (.frzP _ _ _ _ _ _ _ _ rfl (show _ = dR [rT g] from rfl) rfl rfl rfl)), ks rfl .dt, trivial⟩) rfl ?_ nobox
    rfl

set_option maxRecDepth 100000 in
set_option maxHeartbeats 1600000 in
theorem l6Uses_fn {g : Prg} (hs : szG g ≤ 1073741824) (hS : prgS g = true) : Fn Tryz.prog 41 [] [ad (rG g)] (.o (vD (dUs (usL g)))) [] := by
 have hL := insG_len hS
 have hv := (prgS_iff.1 hS).1
 refine Fn.code0 Tryz.func41 rfl rfl rfl rfl ?_
 refine ACode.seq ?_
 refine ACode.region ?_
 refine .cons (St1.boxP rfl rfl rfl rfl rfl rfl) ?_
 refine .cons (.asg rfl rfl) ?_
 refine .nil ?_
 refine ks_n ?_
 refine ACode.seq ?_
 refine ACode.region ?_
 refine .cons (St1.lit0 (k' := 109) (e := 54) (sz := 2) (b := true) rfl rfl rfl rfl (by kernel_rfl) rfl rfl) ?_
 refine .cons (.asg rfl rfl) ?_
 refine .nil ?_
 refine ks_n ?_
 refine ACode.seq ?_
 refine ACode.region ?_
 refine .cons (.lN 2 rfl rfl rfl) ?_
 refine .cons (.cP [.tmp 10] rfl rfl rfl rfl (l4Instances_fn hS) rfl) ?_
 refine .cons (.asg rfl rfl) ?_
 refine .nil ?_
 refine ks_n ?_
 refine ACode.seq ?_
 refine ACode.seq ?_
 refine ACode.region ?_
 refine .cons (.asg rfl rfl) ?_
 refine .nil ?_
 refine ks_n ?_
 refine ACode.block ?_
 refine .loopK (fun m σ => (∃ i : Nat, m = (insG 0 g.2).length - i ∧ (i ≤ (insG 0 g.2).length) ∧ (True) ∧ σ = [(.t 1, .v (.o (.c (.ptr (rG g))))), (.t 3, .v (.o (.c (.own 110 2 (i))))), (.t 4, .v (.o (vD (dNs (insG 0 g.2))))), (.t 5, .v (.o (nat1 (i : Nat)))), (.b 110, .b 54 2 (dR (((insG 0 g.2).take i).map (fun x => rU (usG g x))))), (.u 110, .u)])) [(110, 109)] ⟨0, rfl, by omega, trivial, rfl⟩ ⟨ks rfl .dt, ks rfl (.c .ow), ks rfl .dt, ks rfl .dt, kb 109 rfl (.dt rfl (by first | exact dR_take (fun x => rU (usG g x)) hx1 | exact dR_take1 (fun x => rU (usG g x)) hx1 | rfl | (simp [dR]; done))), trivial⟩ ?_
 rintro m σ ⟨i, hm0, hi, hF, rfl⟩
 refine ACode.seq ?_
 refine ACode.seq ?_
 refine ACode.region ?_
 refine .cons (.mv rfl rfl) ?_
 refine .cons (.mv rfl rfl) ?_
 refine .cons (.ln 94 3 40 rfl rfl rfl) ?_
 refine .cons (.ls rfl rfl rfl) ?_
 refine .nil ?_
 refine ks_n ?_
 refine .cD rfl (fun h15 => ?_) (fun h15 => ?_)
 ·skip
  obtain ⟨x, hx1⟩ : ∃ x_, (insG 0 g.2)[i]? = some x_ := ⟨_, List.getElem?_eq_getElem (by omega)⟩
  obtain ⟨k, c, q, hI⟩ := ins_at hS (List.mem_of_getElem? hx1)
  have hsz := stI_sz hI
  have hpt := npR_pt hI.pt
  obtain ⟨hC, hW⟩ := cls_yes hI.ok
  refine ACode.skip ?_
  refine ks_n ?_
  refine ACode.seq ?_
  refine ACode.block ?_
  refine ACode.seq ?_
  refine ACode.drawK (by kernel_rfl) (by kernel_rfl) ?_
  refine .cons (.fP 0 0 false rfl rfl) ?_
  refine .cons (.l1 1 rfl rfl) ?_
  refine .cons (.fP 1 0 false rfl rfl) ?_
  refine .cons (.l1 1 rfl rfl) ?_
  refine .cons (.mv rfl rfl) ?_
  refine .cons (.mv rfl rfl) ?_
  refine .cons (.xL 94 3 40 rfl rfl rfl rfl rfl) ?_
  refine .cons (.fP 0 0 false rfl rfl) ?_
  refine .cons (.l1 1 rfl rfl) ?_
  refine .cons (.xL 119 2 48 (i := k) rfl rfl rfl rfl hI.e1 (map_at hI.hq)) ?_
  refine .cons (.fP 1 0 false rfl rfl) ?_
  refine .cons (.l1 1 rfl rfl) ?_
  refine .cons (.mv rfl rfl) ?_
  refine .cons (.mv rfl rfl) ?_
  refine .cons (.xL 94 3 40 rfl rfl rfl rfl rfl) ?_
  refine .cons (.fP 1 0 false rfl rfl) ?_
  refine .cons (.l1 1 rfl rfl) ?_
  refine .cons (.xL 91 9 152 (i := c) rfl rfl rfl rfl hI.e2 (map_at hI.hs)) ?_
  refine .cons (.lN 9 rfl rfl rfl) ?_
  refine .cons (.mv rfl rfl) ?_
  refine .cons (.mv rfl rfl) ?_
  refine .cons (.xL 94 3 40 rfl rfl rfl rfl rfl) ?_
  refine .cons (.fP 2 0 false rfl rfl) ?_
  refine .cons (.l1 1 rfl rfl) ?_
  refine .cons (.cP [.tmp 20, .tmp 37, .tmp 42] rfl rfl rfl rfl (l4Cells_fn hv hI.sv (by omega) hpt.1 hpt.2) rfl) ?_
  refine .cons (.mv rfl rfl) ?_
  refine .cons (.ex rfl rfl rfl) ?_
  refine .cons (.ex rfl rfl rfl) ?_
  refine .cons (.ex rfl rfl rfl) ?_
  refine .cons (.asg rfl rfl) ?_
  refine .cons (.asg rfl rfl) ?_
  refine .cons (.asg rfl rfl) ?_
  refine .nil ⟨by kernel_rfl, ?_⟩
  refine ks_n ?_
  refine .keep [(.t 1, .v (.o (.c (.ptr (rG g))))), (.t 3, .v (.o (.c (.own 770 2 (i))))), (.t 4, .v (.o (vD (dNs (insG 0 g.2))))), (.t 5, .v (.o (nat1 (i : Nat)))), (.t 6, .v (.o (vD (dIs (usR g x))))), (.t 7, .v (.o (nat1 (usW g x)))), (.b 770, .b 54 2 (dR (((insG 0 g.2).take i).map (fun x => rU (usG g x))))), (.u 770, .u)] [(770, 110)] ⟨ks rfl .dt, ks rfl (.c .ow), ks rfl .dt, ks rfl .dt, ks rfl (.dt (by rw [hC]; rfl)), ks rfl (.dt (by rw [hW]; rfl)), kb 110 rfl (.dt rfl (by first | exact dR_take (fun x => rU (usG g x)) hx1 | exact dR_take1 (fun x => rU (usG g x)) hx1 | rfl | (simp [dR]; done))), trivial⟩ ?_
  refine ACode.region ?_
  refine .cons (.mv rfl rfl) ?_
  refine .cons (.mv rfl rfl) ?_
  refine .cons (.mv rfl rfl) ?_
  refine .cons (.bu [(0, .tmp 48), (1, .tmp 49)] [(0, 1), (1, 1)] [.slice none 0 0, .int .i64 0] rfl rfl rfl rfl rfl) ?_
  refine .cons (.li 54 1 0 [.tmp 50] rfl rfl rfl rfl rfl rfl) ?_
  refine .cons (St1.appB (k' := 152) (e := 54) (sz := 1) (by' := 32) rfl rfl rfl rfl rfl (by kernel_rfl) rfl rfl rfl rfl (by first | (simp [dR]; done) | (simp [dR]; omega)) (by first | (simp [dR]; done) | (simp [dR]; omega)) rfl rfl rfl) ?_
  refine .cons (.asg rfl rfl) ?_
  refine .nil ?_
  refine kb_n ?_
  refine ks_n ?_
  refine ACode.region ?_
  refine .cons (.mv rfl rfl) ?_
  refine .cons (.pl rfl rfl rfl) ?_
  refine .cons (.asg rfl rfl) ?_
  refine .nil ?_
  refine kl_k [(110, 152)] ⟨i + 1, rfl, by omega, trivial, rfl⟩ ⟨ks rfl .dt, ks rfl (.c .ow), ks rfl .dt, ks rfl .dt, kb 152 rfl (.dt rfl (by first | exact dR_take (fun x => rU (usG g x)) hx1 | exact dR_take1 (fun x => rU (usG g x)) hx1 | rfl | (simp [dR]; done))), trivial⟩
 ·skip
  obtain rfl : i = (insG 0 g.2).length := by omega
  refine ACode.exit ?_
  refine ks_e ?_
  refine kl_e ?_
  refine kb_hit ?_
  refine ks_n ?_
  refine ACode.seq ?_
  refine ACode.region ?_
  refine .cons (.mv rfl rfl) ?_
  refine .cons (.asg rfl rfl) ?_
  refine .nil ?_
  refine ks_n ?_
  refine ACode.ret ?_
  refine kf_wret [(.t 2, .v (.o (vD (dUs (usL g)))))] (Wk.keep [] rfl rfl ⟨ks rfl (.c (.fz rfl (by rw [List.take_length, usL, List.map_map]; rfl) (by simp [usL]) (by omega))), trivial⟩) rfl ?_ nobox
  rfl
set_option maxRecDepth 100000 in
set_option maxHeartbeats 1600000 in
theorem cellsOf_fn {g : Prg} (hS : prgS g = true) (part : Int) : Fn Tryz.prog 52 [] [.c (.ptr (rT g)), nat1 part] (.tup [vD (dBs (flg false g part (insG 0 g.2).length)), vD (dBs (flg true g part (insG 0 g.2).length))]) [] := by
 have hv := (prgS_iff.1 hS).1
 have hL := insG_len hS
 have htb := totN_bd hv
 refine Fn.code0 Tryz.func52 rfl rfl rfl rfl ?_
 refine ACode.seq ?_
 refine ACode.region ?_
 refine .cons (.asg rfl rfl) ?_
 refine .cons (.asg rfl rfl) ?_
 refine .nil ?_
 refine ks_n ?_
 refine ACode.seq ?_
 refine ACode.drawK (by kernel_rfl) (by kernel_rfl) ?_
 refine .cons (.mv rfl rfl) ?_
 refine .cons (.nP rfl rfl) ?_
 refine .cons (.fP 0 1 true rfl rfl) ?_
 refine .cons (.lN 2 rfl rfl rfl) ?_
 refine .cons (.cP [.tmp 15] rfl rfl rfl rfl (cells_fn hv) rfl) ?_
 refine .cons (.mk 117 4 1 1 [.bool false] rfl rfl rfl (by omega) rfl rfl) ?_
 refine .cons (.mv rfl rfl) ?_
 refine .cons (.nP rfl rfl) ?_
 refine .cons (.fP 0 1 true rfl rfl) ?_
 refine .cons (.lN 2 rfl rfl rfl) ?_
 refine .cons (.cP [.tmp 21] rfl rfl rfl rfl (cells_fn hv) rfl) ?_
 refine .cons (.mk 123 4 1 1 [.bool false] rfl rfl rfl (by omega) rfl rfl) ?_
 refine .cons (.asg rfl rfl) ?_
 refine .cons (.asg rfl rfl) ?_
 refine .nil ⟨by kernel_rfl, ?_⟩
 refine ks_n ?_
 refine ACode.seq ?_
 refine ACode.seq ?_
 refine ACode.region ?_
 refine .cons (.mv rfl rfl) ?_
 refine .cons (.nP rfl rfl) ?_
 refine .cons (.fP 2 0 false rfl rfl) ?_
 refine .cons (.l1 1 rfl rfl) ?_
 refine .cons (.ln 94 3 40 rfl rfl rfl) ?_
 refine .cons (.mv rfl rfl) ?_
 refine .nil ?_
 refine ks_n ?_
 refine ACode.block ?_
 refine .loopK (fun m σ => (∃ i : Nat, m = (insG 0 g.2).length - i ∧ (i ≤ (insG 0 g.2).length) ∧ (True) ∧ σ = [(.t 0, .v (.o (.c (.ptr (rT g))))), (.t 1, .v (.o (nat1 part))), (.t 6, .v (.o (.c (.own 110 1 (totN g.1))))), (.t 7, .v (.o (.c (.own 111 1 (totN g.1))))), (.t 27, .v (.o (vD (dNs (insG 0 g.2))))), (.t 28, .v (.o (nat1 ((insG 0 g.2).length : Nat)))), (.t 29, .v (.o (nat1 (i : Nat)))), (.b 110, .b 4 1 (dR ((flg false g part i).map rB))), (.u 110, .u), (.b 111, .b 4 1 (dR ((flg true g part i).map rB))), (.u 111, .u)])) [(110, 117), (111, 123)] ⟨0, rfl, by omega, trivial, rfl⟩ ⟨ks rfl .dt, ks rfl .dt, ks rfl (.c .ow), ks rfl (.c .ow), ks rfl .dt, ks rfl .dt, ks rfl .dt, kb 117 rfl (.dt rfl (by first | rfl | exact dR_repB _ | (rw [hf1]; done))), kb 123 rfl (.dt rfl (by first | rfl | exact dR_repB _ | (rw [hf2]; done) | (rw [hf2]; exact dR_setB _ _ _ _))), trivial⟩ ?_
 rintro m σ ⟨i, hm0, hi, hF, rfl⟩
 refine ACode.seq ?_
 refine ACode.region ?_
 refine .cons (.ls rfl rfl rfl) ?_
 refine .nil ?_
 refine ks_n ?_
 refine ACode.seq ?_
 refine .cD rfl (fun h30 => ?_) (fun h30 => ?_)
 ·skip
  obtain ⟨x, hx1⟩ : ∃ x_, (insG 0 g.2)[i]? = some x_ := ⟨_, List.getElem?_eq_getElem (by omega)⟩
  obtain ⟨k, c, q, hI⟩ := ins_at hS (List.mem_of_getElem? hx1)
  have hsz := stI_sz hI
  obtain ⟨hur, huw0, huw⟩ := use_in hv hI
  have hul := usR_len hI
  have hR1 : (usRs g)[i]? = some (usR g x) := by rw [usRs, List.getElem?_map, hx1]; rfl
  have hW1 : (usWs g)[i]? = some (usW g x) := by rw [usWs, List.getElem?_map, hx1]; rfl
  have hfr := flg_next (wr := false) (part := part) hx1
  have hfw := flg_next (wr := true) (part := part) hx1
  refine ACode.skip ?_
  refine ks_n ?_
  refine ACode.seq ?_
  refine ACode.block ?_
  refine ACode.seq ?_
  refine ACode.region ?_
  refine .cons (.mv rfl rfl) ?_
  refine .cons (.xL 94 3 40 rfl rfl rfl rfl rfl) ?_
  refine .cons (.lN 3 rfl rfl rfl) ?_
  refine .cons (.al 109 [.int .i64 0, .int .i64 0, .slice none 0 0] rfl rfl rfl) ?_
  refine .cons (.asg rfl rfl) ?_
  refine .cons (.sT 3 true rfl rfl rfl rfl rfl rfl rfl) ?_
  refine .nil ?_
  refine ks_n ?_
  refine ACode.seq ?_
  refine ACode.seq ?_
  refine ACode.region ?_
  refine .cons (.fB 0 0 false rfl rfl rfl) ?_
  refine .cons (.b1 1 rfl rfl rfl rfl rfl rfl) ?_
  refine .cons (.mv rfl rfl) ?_
  refine .cons (.ne rfl rfl rfl) ?_
  refine .nil ?_
  refine ks_n ?_
  refine .cND rfl (fun h37 => ?_) (fun h37 => ?_)
  ·skip
   have hne : ¬ x.1 = part := by omega
   have hf1 : flg false g part (i + 1) = flg false g part i := by rw [hfr, step_no hne]
   have hf2 : flg true g part (i + 1) = flg true g part i := by rw [hfw, step_no hne]
   refine ACode.exit ?_
   refine ks_e ?_
   refine kb_hit ?_
   refine ks_n ?_
   refine ACode.region ?_
   refine .cons (.pl rfl rfl rfl) ?_
   refine .cons (.mv rfl rfl) ?_
   refine .nil ?_
   refine kl_k [(110, 110), (111, 111)] ⟨i + 1, rfl, by omega, trivial, rfl⟩ ⟨ks rfl .dt, ks rfl .dt, ks rfl (.c .ow), ks rfl (.c .ow), ks rfl .dt, ks rfl .dt, ks rfl .dt, kb 110 rfl (.dt rfl (by first | rfl | exact dR_repB _ | (rw [hf1]; done))), kb 111 rfl (.dt rfl (by first | rfl | exact dR_repB _ | (rw [hf2]; done) | (rw [hf2]; exact dR_setB _ _ _ _))), trivial⟩
  ·skip
   have heq : x.1 = part := by omega
   have hf1 : flg false g part (i + 1) = setB (flg false g part i) (usR g x) := by rw [hfr, step_r heq]
   have hf2 : flg true g part (i + 1) = (flg true g part i).set (usW g x).toNat true := by rw [hfw, step_w heq]
   obtain ⟨bw, hbw⟩ : ∃ b, (flg true g part i)[(usW g x).toNat]? = some b := ⟨_, List.getElem?_eq_getElem (by rw [flg_len]; omega)⟩
   refine ACode.skip ?_
   refine ks_n ?_
   refine ACode.seq ?_
   refine ACode.seq ?_
   refine ACode.region ?_
   refine .cons (.mv rfl rfl) ?_
   refine .cons (.nP rfl rfl) ?_
   refine .cons (.fP 3 0 false rfl rfl) ?_
   refine .cons (.l1 1 rfl rfl) ?_
   refine .cons (.mv rfl rfl) ?_
   refine .cons (.xL 27 1 24 rfl rfl rfl rfl rfl (map_at hR1)) ?_
   refine .cons (.l1 1 rfl rfl) ?_
   refine .cons (.ln 3 1 8 rfl rfl rfl) ?_
   refine .cons (.mv rfl rfl) ?_
   refine .nil ?_
   refine ks_n ?_
   refine ACode.block ?_
   refine .loopK (fun m σ => (∃ j : Nat, m = (usR g x).length - j ∧ (j ≤ (usR g x).length) ∧ (True) ∧ σ = [(.t 0, .v (.o (.c (.ptr (rT g))))), (.t 1, .v (.o (nat1 part))), (.t 6, .v (.o (.c (.own 120 1 (totN g.1))))), (.t 7, .v (.o (.c (.own 121 1 (totN g.1))))), (.t 8, .v (.o (nat1 (i : Nat)))), (.t 9, .v (.o (.c (.ptr (rN x))))), (.t 27, .v (.o (vD (dNs (insG 0 g.2))))), (.t 28, .v (.o (nat1 ((insG 0 g.2).length : Nat)))), (.t 29, .v (.o (nat1 (i : Nat)))), (.t 44, .v (.o (vD (dIs (usR g x))))), (.t 45, .v (.o (nat1 ((usR g x).length : Nat)))), (.t 46, .v (.o (nat1 (j : Nat)))), (.b 120, .b 4 1 (dR ((setB (flg false g part i) ((usR g x).take j)).map rB))), (.u 120, .u), (.b 121, .b 4 1 (dR ((flg true g part i).map rB))), (.u 121, .u)])) [(120, 110), (121, 111)] ⟨0, rfl, by omega, trivial, rfl⟩ ⟨ks rfl .dt, ks rfl .dt, ks rfl (.c .ow), ks rfl (.c .ow), ks rfl .dt, ks rfl (.c (.frzP _ _ _ _ _ _ _ _ rfl (show _ = dR [rN x] from rfl) rfl rfl rfl)), ks rfl .dt, ks rfl .dt, ks rfl .dt, ks rfl .dt, ks rfl .dt, ks rfl .dt, kb 110 rfl (.dt rfl (by first | rfl | (rw [setB_take hn1]; exact dR_setB _ _ _ _))), kb 111 rfl (.dt rfl rfl), trivial⟩ ?_
   rintro m σ ⟨j, hm0, hj, hG, rfl⟩
   refine ACode.seq ?_
   refine ACode.region ?_
   refine .cons (.ls rfl rfl rfl) ?_
   refine .nil ?_
   refine ks_n ?_
   refine ACode.seq ?_
   refine .cD rfl (fun h47 => ?_) (fun h47 => ?_)
   ·skip
    obtain ⟨n, hn1⟩ : ∃ x_, (usR g x)[j]? = some x_ := ⟨_, List.getElem?_eq_getElem (by omega)⟩
    have hnb := hur n (List.mem_of_getElem? hn1)
    obtain ⟨b0, hb0⟩ : ∃ b, (setB (flg false g part i) ((usR g x).take j))[n.toNat]? = some b := ⟨_, List.getElem?_eq_getElem (by rw [setB_len, flg_len]; omega)⟩
    refine ACode.skip ?_
    refine ks_n ?_
    refine ACode.seq ?_
    refine ACode.block ?_
    refine ACode.seq ?_
    refine ACode.region ?_
    refine .cons (.xL 3 1 8 rfl rfl rfl rfl rfl) ?_
    refine .cons (.l1 1 rfl rfl) ?_
    refine .cons (.asg rfl rfl) ?_
    refine .nil ?_
    refine ks_n ?_
    refine ACode.region ?_
    refine .cons (.mv rfl rfl) ?_
    refine .cons (.mv rfl rfl) ?_
    refine .cons (.xB 4 1 1 (i := n.toNat) rfl rfl rfl rfl rfl (by omega) (by omega)) ?_
    refine .cons (.sT 1 false rfl rfl rfl rfl (dR_at (map_at hb0)) rfl rfl) ?_
    refine .nil ?_
    refine kb_n ?_
    refine ks_n ?_
    refine ACode.region ?_
    refine .cons (.pl rfl rfl rfl) ?_
    refine .cons (.mv rfl rfl) ?_
    refine .nil ?_
    refine kl_k [(120, 120), (121, 121)] ⟨j + 1, rfl, by omega, trivial, rfl⟩ ⟨ks rfl .dt, ks rfl .dt, ks rfl (.c .ow), ks rfl (.c .ow), ks rfl .dt, ks rfl .dt, ks rfl .dt, ks rfl .dt, ks rfl .dt, ks rfl .dt, ks rfl .dt, ks rfl .dt, kb 120 rfl (.dt rfl (by first | rfl | (rw [setB_take hn1]; exact dR_setB _ _ _ _))), kb 121 rfl (.dt rfl rfl), trivial⟩
   ·skip
    obtain rfl : j = (usR g x).length := by omega
    rw [List.take_length]
    refine ACode.exit ?_
    refine ks_e ?_
    refine kl_e ?_
    refine kb_hit ?_
    refine ks_n ?_
    refine ACode.region ?_
    refine .cons (.mv rfl rfl) ?_
    refine .cons (.mv rfl rfl) ?_
    refine .cons (.nP rfl rfl) ?_
    refine .cons (.fP 4 0 false rfl rfl) ?_
    refine .cons (.l1 1 rfl rfl) ?_
    refine .cons (.mv rfl rfl) ?_
    refine .cons (.xL 3 1 8 rfl rfl rfl rfl rfl (map_at hW1)) ?_
    refine .cons (.l1 1 rfl rfl) ?_
    refine .cons (.xB 4 1 1 (i := (usW g x).toNat) rfl rfl rfl rfl rfl (by omega) (by omega)) ?_
    refine .cons (.sT 1 false rfl rfl rfl rfl (dR_at (map_at hbw)) rfl rfl) ?_
    refine .nil ?_
    refine kb_n ?_
    refine ks_n ?_
    refine ACode.region ?_
    refine .cons (.pl rfl rfl rfl) ?_
    refine .cons (.mv rfl rfl) ?_
    refine .nil ?_
    refine kl_k [(110, 120), (111, 121)] ⟨i + 1, rfl, by omega, trivial, rfl⟩ ⟨ks rfl .dt, ks rfl .dt, ks rfl (.c .ow), ks rfl (.c .ow), ks rfl .dt, ks rfl .dt, ks rfl .dt, kb 120 rfl (.dt rfl (by first | rfl | exact dR_repB _ | (rw [hf1]; done))), kb 121 rfl (.dt rfl (by first | rfl | exact dR_repB _ | (rw [hf2]; done) | (rw [hf2]; exact dR_setB _ _ _ _))), trivial⟩
 ·skip
  obtain rfl : i = (insG 0 g.2).length := by omega
  refine ACode.exit ?_
  refine ks_e ?_
  refine kl_e ?_
  refine kb_hit ?_
  refine ks_n ?_
  refine ACode.seq ?_
  refine ACode.region ?_
  refine .cons (.mv rfl rfl) ?_
  refine .cons (.mv rfl rfl) ?_
  refine .cons (.asg rfl rfl) ?_
  refine .cons (.asg rfl rfl) ?_
  refine .nil ?_
  refine ks_n ?_
  refine ACode.ret ?_
  refine kf_wret [(.t 4, .v (.o (vD (dBs (flg false g part (insG 0 g.2).length))))), (.t 5, .v (.o (vD (dBs (flg true g part (insG 0 g.2).length)))))] (Wk.keep [] rfl rfl ⟨ks rfl (.c (.fz rfl rfl (by rw [List.length_map, flg_len]) (by omega))), ks rfl (.c (.fz rfl rfl (by rw [List.length_map, flg_len]) (by omega))), trivial⟩) rfl ?_ nobox
  rfl

set_option maxRecDepth 100000 in
set_option maxHeartbeats 1600000 in
theorem l11Flags_fn {g : Prg} (hs : szG g ≤ 1073741824) (hS : prgS g = true) (part : Int) (wr : Bool) (hFl : ∀ l : List Bool, l.length ≤ 1000000 → Fn Tryz.prog 70 [] [vD (dBs l)] (.o (vD (dIs (flagV l)))) []) : Fn Tryz.prog 50 [] [ad (rG g), nat1 part, bo1 wr] (.o (vD (dIs (flagV (flg wr g part (insG 0 g.2).length))))) [] := by
 have hv := (prgS_iff.1 hS).1
 have hL := insG_len hS
 have htb := totN_bd hv
 refine Fn.code0 Tryz.func50 rfl rfl rfl rfl ?_
 refine ACode.seq ?_
 refine ACode.region ?_
 refine .cons (St1.boxP rfl rfl rfl rfl rfl rfl) ?_
 refine .cons (.asg rfl rfl) ?_
 refine .nil ?_
 refine ks_n ?_
 refine ACode.seq ?_
 refine ACode.region ?_
 refine .cons (.lN 2 rfl rfl rfl) ?_
 refine .cons (.cP [.tmp 12] rfl rfl rfl rfl (l4Total_fn hv) rfl) ?_
 refine .cons (.mk 114 4 1 1 [.bool false] rfl rfl rfl (by omega) rfl rfl) ?_
 refine .cons (.asg rfl rfl) ?_
 refine .nil ?_
 refine ks_n ?_
 refine ACode.seq ?_
 refine ACode.region ?_
 refine .cons (.lN 2 rfl rfl rfl) ?_
 refine .cons (.cP [.tmp 15] rfl rfl rfl rfl (l4Instances_fn hS) rfl) ?_
 refine .cons (.asg rfl rfl) ?_
 refine .nil ?_
 refine ks_n ?_
 refine ACode.seq ?_
 refine ACode.region ?_
 refine .cons (.lN 2 rfl rfl rfl) ?_
 refine .cons (.cP [.tmp 17] rfl rfl rfl rfl (l6Uses_fn hs hS) rfl) ?_
 refine .cons (.asg rfl rfl) ?_
 refine .nil ?_
 refine ks_n ?_
 refine ACode.seq ?_
 refine ACode.seq ?_
 refine ACode.region ?_
 refine .cons (.asg rfl rfl) ?_
 refine .nil ?_
 refine ks_n ?_
 refine ACode.block ?_
 refine .loopK (fun m σ => (∃ i : Nat, m = (insG 0 g.2).length - i ∧ (i ≤ (insG 0 g.2).length) ∧ (True) ∧ σ = [(.t 1, .v (.o (nat1 part))), (.t 2, .v (.o (bo1 wr))), (.t 3, .v (.o (.c (.ptr (rG g))))), (.t 7, .v (.o (.c (.own 110 1 (totN g.1))))), (.t 8, .v (.o (vD (dNs (insG 0 g.2))))), (.t 9, .v (.o (vD (dUs (usL g))))), (.t 10, .v (.o (nat1 (i : Nat)))), (.b 110, .b 4 1 (dR ((flg wr g part i).map rB))), (.u 110, .u)])) [(110, 114)] ⟨0, rfl, by omega, trivial, rfl⟩ ⟨ks rfl .dt, ks rfl .dt, ks rfl .dt, ks rfl (.c .ow), ks rfl .dt, ks rfl .dt, ks rfl .dt, kb 114 rfl (.dt rfl (by first | rfl | exact dR_repB _ | (rw [hf]; done) | (rw [hf]; exact dR_setB _ _ _ _))), trivial⟩ ?_
 rintro m σ ⟨i, hm0, hi, hF, rfl⟩
 refine ACode.seq ?_
 refine ACode.seq ?_
 refine ACode.region ?_
 refine .cons (.mv rfl rfl) ?_
 refine .cons (.mv rfl rfl) ?_
 refine .cons (.ln 94 3 40 rfl rfl rfl) ?_
 refine .cons (.ls rfl rfl rfl) ?_
 refine .nil ?_
 refine ks_n ?_
 refine .cD rfl (fun h22 => ?_) (fun h22 => ?_)
 ·skip
  obtain ⟨x, hx1⟩ : ∃ x_, (insG 0 g.2)[i]? = some x_ := ⟨_, List.getElem?_eq_getElem (by omega)⟩
  obtain ⟨k, c, q, hI⟩ := ins_at hS (List.mem_of_getElem? hx1)
  have hsz := stI_sz hI
  obtain ⟨hur, huw0, huw⟩ := use_in hv hI
  have hul := usR_len hI
  have hU1 : (usL g)[i]? = some (usG g x) := by rw [usL, List.getElem?_map, hx1]; rfl
  have hfr := flg_next (wr := wr) (part := part) hx1
  refine ACode.skip ?_
  refine ks_n ?_
  refine ACode.seq ?_
  refine ACode.block ?_
  refine ACode.seq ?_
  refine ACode.seq ?_
  refine ACode.region ?_
  refine .cons (.mv rfl rfl) ?_
  refine .cons (.mv rfl rfl) ?_
  refine .cons (.xL 94 3 40 rfl rfl rfl rfl rfl) ?_
  refine .cons (.fP 0 0 false rfl rfl) ?_
  refine .cons (.l1 1 rfl rfl) ?_
  refine .cons (.mv rfl rfl) ?_
  refine .cons (.ne rfl rfl rfl) ?_
  refine .nil ?_
  refine ks_n ?_
  refine .cND rfl (fun h31 => ?_) (fun h31 => ?_)
  ·skip
   have hne : ¬ x.1 = part := by omega
   have hf : flg wr g part (i + 1) = flg wr g part i := by rw [hfr, step_no hne]
   refine ACode.exit ?_
   refine ks_e ?_
   refine kb_hit ?_
   refine ks_n ?_
   refine ACode.region ?_
   refine .cons (.mv rfl rfl) ?_
   refine .cons (.pl rfl rfl rfl) ?_
   refine .cons (.asg rfl rfl) ?_
   refine .nil ?_
   refine kl_k [(110, 110)] ⟨i + 1, rfl, by omega, trivial, rfl⟩ ⟨ks rfl .dt, ks rfl .dt, ks rfl .dt, ks rfl (.c .ow), ks rfl .dt, ks rfl .dt, ks rfl .dt, kb 110 rfl (.dt rfl (by first | rfl | exact dR_repB _ | (rw [hf]; done) | (rw [hf]; exact dR_setB _ _ _ _))), trivial⟩
  ·skip
   have heq : x.1 = part := by omega
   refine ACode.skip ?_
   refine ks_n ?_
   refine ACode.seq ?_
   refine ACode.seq ?_
   refine ACode.region ?_
   refine .cons (.mv rfl rfl) ?_
   refine .nil ?_
   refine ks_n ?_
   refine ACode.condT rfl (fun h32 => ?_) (fun h32 => ?_)
   ·try simp only [zs1, zs2, zs3, zs4, zs5, zs6, zs7] at h32
    have hf : flg wr g part (i + 1) = (flg wr g part i).set (usW g x).toNat true := by rw [hfr, stepF, if_pos heq, if_pos h32]
    obtain ⟨bw, hbw⟩ : ∃ b, (flg wr g part i)[(usW g x).toNat]? = some b := ⟨_, List.getElem?_eq_getElem (by rw [flg_len]; omega)⟩
    refine ACode.seq ?_
    refine ACode.region ?_
    refine .cons (.mv rfl rfl) ?_
    refine .cons (.mv rfl rfl) ?_
    refine .cons (.mv rfl rfl) ?_
    refine .cons (.xL 54 2 32 rfl rfl rfl rfl rfl (map_at hU1)) ?_
    refine .cons (.fP 1 0 false rfl rfl) ?_
    refine .cons (.l1 1 rfl rfl) ?_
    refine .cons (.xB 4 1 1 (i := (usW g x).toNat) rfl rfl rfl rfl rfl (by first | omega | (show usW g x = _; omega)) (by omega)) ?_
    refine .cons (.sT 1 false rfl rfl rfl rfl (dR_at (map_at hbw)) rfl rfl) ?_
    refine .nil ?_
    refine ks_n ?_
    refine ACode.exit ?_
    refine ks_e ?_
    refine kb_hit ?_
    refine ks_n ?_
    refine ACode.region ?_
    refine .cons (.mv rfl rfl) ?_
    refine .cons (.pl rfl rfl rfl) ?_
    refine .cons (.asg rfl rfl) ?_
    refine .nil ?_
    refine kl_k [(110, 110)] ⟨i + 1, rfl, by omega, trivial, rfl⟩ ⟨ks rfl .dt, ks rfl .dt, ks rfl .dt, ks rfl (.c .ow), ks rfl .dt, ks rfl .dt, ks rfl .dt, kb 110 rfl (.dt rfl (by first | rfl | exact dR_repB _ | (rw [hf]; done) | (rw [hf]; exact dR_setB _ _ _ _))), trivial⟩
   ·try simp only [zs1, zs2, zs3, zs4, zs5, zs6, zs7] at h32
    have hf : flg wr g part (i + 1) = setB (flg wr g part i) (usR g x) := by rw [hfr, stepF, if_pos heq, if_neg (by rw [h32]; simp)]
    refine ACode.skip ?_
    refine ks_n ?_
    refine ACode.seq ?_
    refine ACode.region ?_
    refine .cons (.asg rfl rfl) ?_
    refine .nil ?_
    refine ks_n ?_
    refine ACode.block ?_
    refine .loopK (fun m σ => (∃ j : Nat, m = (usR g x).length - j ∧ (j ≤ (usR g x).length) ∧ (True) ∧ σ = [(.t 1, .v (.o (nat1 part))), (.t 2, .v (.o (bo1 wr))), (.t 3, .v (.o (.c (.ptr (rG g))))), (.t 7, .v (.o (.c (.own 120 1 (totN g.1))))), (.t 8, .v (.o (vD (dNs (insG 0 g.2))))), (.t 9, .v (.o (vD (dUs (usL g))))), (.t 10, .v (.o (nat1 (i : Nat)))), (.t 11, .v (.o (nat1 (j : Nat)))), (.b 120, .b 4 1 (dR ((setB (flg wr g part i) ((usR g x).take j)).map rB))), (.u 120, .u)])) [(120, 110)] ⟨0, rfl, by omega, trivial, rfl⟩ ⟨ks rfl .dt, ks rfl .dt, ks rfl .dt, ks rfl (.c .ow), ks rfl .dt, ks rfl .dt, ks rfl .dt, ks rfl .dt, kb 110 rfl (.dt rfl (by first | rfl | (rw [setB_take hn1]; exact dR_setB _ _ _ _))), trivial⟩ ?_
    rintro m σ ⟨j, hm0, hj, hG, rfl⟩
    refine ACode.seq ?_
    refine ACode.seq ?_
    refine ACode.region ?_
    refine .cons (.mv rfl rfl) ?_
    refine .cons (.mv rfl rfl) ?_
    refine .cons (.mv rfl rfl) ?_
    refine .cons (.xL 54 2 32 rfl rfl rfl rfl rfl (map_at hU1)) ?_
    refine .cons (.fP 0 0 false rfl rfl) ?_
    refine .cons (.l1 1 rfl rfl) ?_
    refine .cons (.ln 3 1 8 rfl rfl rfl) ?_
    refine .cons (.ls rfl rfl rfl) ?_
    refine .nil ?_
    refine ks_n ?_
    refine .cD rfl (fun h47 => ?_) (fun h47 => ?_)
    ·skip
     replace h47 : (j : Int) < ((usR g x).length : Nat) := h47
     obtain ⟨n, hn1⟩ : ∃ x_, (usR g x)[j]? = some x_ := ⟨_, List.getElem?_eq_getElem (by omega)⟩
     have hnb := hur n (List.mem_of_getElem? hn1)
     obtain ⟨b0, hb0⟩ : ∃ b, (setB (flg wr g part i) ((usR g x).take j))[n.toNat]? = some b := ⟨_, List.getElem?_eq_getElem (by rw [setB_len, flg_len]; omega)⟩
     refine ACode.skip ?_
     refine ks_n ?_
     refine ACode.seq ?_
     refine ACode.block ?_
     refine ACode.region ?_
     refine .cons (.mv rfl rfl) ?_
     refine .cons (.mv rfl rfl) ?_
     refine .cons (.mv rfl rfl) ?_
     refine .cons (.xL 54 2 32 rfl rfl rfl rfl rfl (map_at hU1)) ?_
     refine .cons (.fP 0 0 false rfl rfl) ?_
     refine .cons (.l1 1 rfl rfl) ?_
     refine .cons (.mv rfl rfl) ?_
     refine .cons (.xL 3 1 8 rfl rfl rfl rfl rfl) ?_
     refine .cons (.l1 1 rfl rfl) ?_
     refine .cons (.xB 4 1 1 (i := n.toNat) rfl rfl rfl rfl rfl (by omega) (by omega)) ?_
     refine .cons (.sT 1 false rfl rfl rfl rfl (dR_at (map_at hb0)) rfl rfl) ?_
     refine .nil ?_
     refine kb_n ?_
     refine ks_n ?_
     refine ACode.region ?_
     refine .cons (.mv rfl rfl) ?_
     refine .cons (.pl rfl rfl rfl) ?_
     refine .cons (.asg rfl rfl) ?_
     refine .nil ?_
     refine kl_k [(120, 120)] ⟨j + 1, rfl, by omega, trivial, rfl⟩ ⟨ks rfl .dt, ks rfl .dt, ks rfl .dt, ks rfl (.c .ow), ks rfl .dt, ks rfl .dt, ks rfl .dt, ks rfl .dt, kb 120 rfl (.dt rfl (by first | rfl | (rw [setB_take hn1]; exact dR_setB _ _ _ _))), trivial⟩
    ·skip
     replace h47 : ¬ (j : Int) < ((usR g x).length : Nat) := h47
     obtain rfl : j = (usR g x).length := by omega
     rw [List.take_length]
     refine ACode.exit ?_
     refine ks_e ?_
     refine kl_e ?_
     refine kb_hit ?_
     refine kb_n ?_
     refine ks_n ?_
     refine ACode.region ?_
     refine .cons (.mv rfl rfl) ?_
     refine .cons (.pl rfl rfl rfl) ?_
     refine .cons (.asg rfl rfl) ?_
     refine .nil ?_
     refine kl_k [(110, 120)] ⟨i + 1, rfl, by omega, trivial, rfl⟩ ⟨ks rfl .dt, ks rfl .dt, ks rfl .dt, ks rfl (.c .ow), ks rfl .dt, ks rfl .dt, ks rfl .dt, kb 120 rfl (.dt rfl (by first | rfl | exact dR_repB _ | (rw [hf]; done) | (rw [hf]; exact dR_setB _ _ _ _))), trivial⟩
 ·skip
  obtain rfl : i = (insG 0 g.2).length := by omega
  refine ACode.exit ?_
  refine ks_e ?_
  refine kl_e ?_
  refine kb_hit ?_
  refine ks_n ?_
  refine ACode.seq ?_
  refine .keep [(.t 7, .v (.o (vD (dBs (flg wr g part (insG 0 g.2).length)))))] [] ⟨ks rfl (.c (.fz rfl rfl (by rw [List.length_map, flg_len]) (by omega))), trivial⟩ ?_
  refine ACode.region ?_
  refine .cons (.mv rfl rfl) ?_
  refine .cons (.cP [.tmp 60] rfl rfl rfl rfl (hFl _ (by rw [flg_len]; omega)) rfl) ?_
  refine .cons (.asg rfl rfl) ?_
  refine .nil ?_
  refine ks_n ?_
  refine ACode.ret ?_
  refine kf_ret rfl ?_ nobox
  rfl

set_option maxRecDepth 100000 in
set_option maxHeartbeats 1600000 in
theorem l5Flagged_fn (l : List Bool) (hl : l.length ≤ 1000000) : Fn Tryz.prog 70 [] [vD (dBs l)] (.o (vD (dIs (flagV l)))) [] := by
 refine Fn.code0 Tryz.func70 rfl rfl rfl rfl ?_
 refine ACode.seq ?_
 refine ACode.region ?_
 refine .cons (.asg rfl rfl) ?_
 refine .nil ?_
 refine ks_n ?_
 refine ACode.seq ?_
 refine ACode.region ?_
 refine .cons (St1.lit0 (k' := 105) (e := 3) (sz := 1) (b := true) rfl rfl rfl rfl (by kernel_rfl) rfl rfl) ?_
 refine .cons (.asg rfl rfl) ?_
 refine .nil ?_
 refine ks_n ?_
 refine ACode.seq ?_
 refine ACode.seq ?_
 refine ACode.region ?_
 refine .cons (.asg rfl rfl) ?_
 refine .nil ?_
 refine ks_n ?_
 refine ACode.block ?_
 refine .loopK (fun m σ => (∃ (i : Nat) (o : List Int), m = l.length - i ∧ (i ≤ l.length) ∧ (flagN l i = o) ∧ (o.length ≤ i) ∧ σ = [(.t 0, .v (.o (vD (dBs l)))), (.t 3, .v (.o (.c (.own 110 1 (o.length))))), (.t 4, .v (.o (nat1 (i : Nat)))), (.b 110, .b 3 1 (dR (o.map rI))), (.u 110, .u)])) [(110, 105)] ⟨0, [], rfl, by omega, rfl, by simp, rfl⟩ ⟨ks rfl .dt, ks rfl (.c .ow), ks rfl .dt, kb 105 rfl (.dt rfl (by first | rfl | (simp [dR, rI, dI]; done) | (simp [dR, rI]; done) | (simp [dR]; rfl))), trivial⟩ ?_
 rintro m σ ⟨i, o, hm0, hi, hE, ho, rfl⟩
 refine ACode.seq ?_
 refine ACode.seq ?_
 refine ACode.region ?_
 refine .cons (.mv rfl rfl) ?_
 refine .cons (.mv rfl rfl) ?_
 refine .cons (.ln 4 1 1 rfl rfl rfl) ?_
 refine .cons (.ls rfl rfl rfl) ?_
 refine .nil ?_
 refine ks_n ?_
 refine .cD rfl (fun h9 => ?_) (fun h9 => ?_)
 ·skip
  obtain ⟨b, hb1⟩ : ∃ x_, l[i]? = some x_ := ⟨_, List.getElem?_eq_getElem (by omega)⟩
  refine ACode.skip ?_
  refine ks_n ?_
  refine ACode.seq ?_
  refine ACode.block ?_
  refine ACode.seq ?_
  refine ACode.region ?_
  refine .cons (.mv rfl rfl) ?_
  refine .cons (.mv rfl rfl) ?_
  refine .cons (.xL 4 1 1 rfl rfl rfl rfl rfl (map_at hb1)) ?_
  refine .cons (.l1 1 rfl rfl) ?_
  refine .nil ?_
  refine ks_n ?_
  refine ACode.condT rfl (fun h15 => ?_) (fun h15 => ?_)
  ·try simp only [zs1, zs2, zs3, zs4, zs5, zs6, zs7] at h15
   refine ACode.region ?_
   refine .cons (.mv rfl rfl) ?_
   refine .cons (.mv rfl rfl) ?_
   refine .cons (.li 3 0 0 [.tmp 17] rfl rfl rfl rfl rfl rfl) ?_
   refine .cons (St1.appB (k' := 119) (e := 3) (sz := 0) (by' := 8) rfl rfl rfl rfl rfl (by kernel_rfl) rfl rfl rfl rfl (by first | (simp [dR]; done) | (simp [dR]; omega)) (by first | (simp [dR]; done) | (simp [dR]; omega)) rfl rfl rfl) ?_
   refine .cons (.asg rfl rfl) ?_
   refine .nil ?_
   refine kb_n ?_
   refine ks_n ?_
   refine ACode.region ?_
   refine .cons (.mv rfl rfl) ?_
   refine .cons (.pl rfl rfl rfl) ?_
   refine .cons (.asg rfl rfl) ?_
   refine .nil ?_
   refine kl_k [(110, 119)] ⟨i + 1, o ++ [(i : Int)], rfl, by omega, by rw [flagN_next hb1, if_pos h15, hE], by rw [List.length_append, List.length_singleton]; omega, rfl⟩ ⟨ks rfl .dt, ks rfl (.c .ow), ks rfl .dt, kb 119 rfl (.dt rfl (by first | rfl | (simp [dR, rI, dI]; done) | (simp [dR, rI]; done) | (simp [dR]; rfl))), trivial⟩
  ·try simp only [zs1, zs2, zs3, zs4, zs5, zs6, zs7] at h15
   refine ACode.skip ?_
   refine kb_n ?_
   refine ks_n ?_
   refine ACode.region ?_
   refine .cons (.mv rfl rfl) ?_
   refine .cons (.pl rfl rfl rfl) ?_
   refine .cons (.asg rfl rfl) ?_
   refine .nil ?_
   refine kl_k [(110, 110)] ⟨i + 1, o, rfl, by omega, by rw [flagN_next hb1, if_neg (by rw [h15]; simp), hE], by omega, rfl⟩ ⟨ks rfl .dt, ks rfl (.c .ow), ks rfl .dt, kb 110 rfl (.dt rfl (by first | rfl | (simp [dR, rI, dI]; done) | (simp [dR, rI]; done) | (simp [dR]; rfl))), trivial⟩
 ·skip
  obtain rfl : i = l.length := by omega
  refine ACode.exit ?_
  refine ks_e ?_
  refine kl_e ?_
  refine kb_hit ?_
  refine ks_n ?_
  refine ACode.seq ?_
  refine ACode.region ?_
  refine .cons (.mv rfl rfl) ?_
  refine .cons (.asg rfl rfl) ?_
  refine .nil ?_
  refine ks_n ?_
  refine ACode.ret ?_
  refine kf_wret [(.t 2, .v (.o (vD (dIs (flagV l)))))] (Wk.keep [] rfl rfl ⟨ks rfl (.c (.fz rfl (by rw [flagV, hE]) (by rw [flagV, hE, List.length_map]) (by omega))), trivial⟩) rfl ?_ nobox
  rfl

theorem l11Cells_fn {g : Prg} (hs : szG g ≤ 1073741824) (hS : prgS g = true) (part : Int) (wr : Bool) : Fn Tryz.prog 50 [] [ad (rG g), nat1 part, bo1 wr] (.o (vD (dIs (flagV (flg wr g part (insG 0 g.2).length))))) [] := l11Flags_fn hs hS part wr l5Flagged_fn

set_option maxRecDepth 100000 in
set_option maxHeartbeats 1600000 in
theorem isPart_fn {g : Prg} (hl : g.2.length ≤ 1099511627776) (n : Int) : Fn Tryz.prog 51 [] [ad (rG g), nat1 n] (.o (bo1 (inB n 0 ((g.2.length : Nat) - 1)))) [] := by
 refine Fn.code0 Tryz.func51 rfl rfl rfl rfl ?_
 refine ACode.seq ?_
 refine ACode.region ?_
 refine .cons (St1.boxP rfl rfl rfl rfl rfl rfl) ?_
 refine .cons (.asg rfl rfl) ?_
 refine .nil ?_
 refine ks_n ?_
 refine ACode.seq ?_
 refine ACode.region ?_
 refine .cons (.mv rfl rfl) ?_
 refine .cons (.fP 1 0 false rfl rfl) ?_
 refine .cons (.l1 1 rfl rfl) ?_
 refine .cons (.ln 119 2 48 rfl rfl rfl) ?_
 refine .cons (.sb rfl rfl rfl) ?_
 refine .cons (.cP [.tmp 5, .const (.int .i64 (0)), .tmp 9] rfl rfl rfl rfl (within_fn _ 0 _) rfl) ?_
 refine .cons (.asg rfl rfl) ?_
 refine .nil ?_
 refine ks_n ?_
 refine ACode.ret ?_
 refine kf_ret rfl ?_ nobox
 rfl
theorem flag_len {wr : Bool} {g : Prg} {part : Int} {n : Nat} (h : arrsV g.1 = true) : (flagV (flg wr g part n)).length ≤ 144 := by
  have h1 := flagN_len (l := flg wr g part n) (n := (flg wr g part n).length)
  rw [flg_len] at h1
  have h2 := totN_bd h
  rw [flagV, flg_len]; omega
/-- The cells that a part reads, or writes. -/
def prtU (g : Prg) (part : Int) (wr : Bool) : List Int := if prgV g = true then flagV (flg wr g part (insG 0 g.2).length) else []
theorem prtU_no {g : Prg} {part : Int} {wr : Bool} (h : prgV g = false) : prtU g part wr = [] := by rw [prtU, if_neg (by rw [h]; simp)]
theorem prtU_yes {g : Prg} {part : Int} {wr : Bool} (h : prgV g = true) : prtU g part wr = flagV (flg wr g part (insG 0 g.2).length) := by rw [prtU, if_pos h]

set_option maxRecDepth 100000 in
set_option maxHeartbeats 1600000 in
theorem chosen_nil (l : List Bool) (hl : l.length ≤ 1000000) (hz : flagV l = []) : Fn Tryz.prog 53 [] [vD (dBs l)] (.o (.c (.d (.val (.slice none 0 0))))) [] := by
 refine Fn.code0 Tryz.func53 rfl rfl rfl rfl ?_
 refine ACode.seq ?_
 refine ACode.region ?_
 refine .cons (.asg rfl rfl) ?_
 refine .nil ?_
 refine ks_n ?_
 refine ACode.seq ?_
 refine ACode.region ?_
 refine .cons (.asg rfl rfl) ?_
 refine .nil ?_
 refine ks_n ?_
 refine ACode.seq ?_
 refine ACode.seq ?_
 refine ACode.region ?_
 refine .cons (.mv rfl rfl) ?_
 refine .cons (.ln 4 1 1 rfl rfl rfl) ?_
 refine .cons (.mv rfl rfl) ?_
 refine .nil ?_
 refine ks_n ?_
 refine ACode.block ?_
 refine .loopK (fun m σ => (∃ i : Nat, m = l.length - i ∧ (i ≤ l.length) ∧ (flagN l i = []) ∧ σ = [(.t 3, .v (.o (.c (.d (.val (.slice none 0 0)))))), (.t 6, .v (.o (vD (dBs l)))), (.t 7, .v (.o (nat1 (l.length : Nat)))), (.t 8, .v (.o (nat1 (i : Nat))))]) ∨ (∃ (i : Nat) (o : List Int), m = l.length - i ∧ (i ≤ l.length) ∧ (flagN l i = o) ∧ (o.length ≤ i) ∧ (o ≠ []) ∧ σ = [(.t 3, .v (.o (.c (.own 110 1 (o.length))))), (.t 6, .v (.o (vD (dBs l)))), (.t 7, .v (.o (nat1 (l.length : Nat)))), (.t 8, .v (.o (nat1 (i : Nat)))), (.b 110, .b 3 1 (dR (o.map rI))), (.u 110, .u)])) [] (.inl ⟨0, rfl, by omega, rfl, rfl⟩) ⟨ks rfl .dt, ks rfl .dt, ks rfl .dt, ks rfl .dt, trivial⟩ ?_
 rintro m σ (⟨i, hm0, hi, hE, rfl⟩ | ⟨i, o, hm0, hi, hE, ho, hn1, rfl⟩)
 ·skip
  refine ACode.seq ?_
  refine ACode.region ?_
  refine .cons (.ls rfl rfl rfl) ?_
  refine .nil ?_
  refine ks_n ?_
  refine ACode.seq ?_
  refine .cD rfl (fun h9 => ?_) (fun h9 => ?_)
  ·skip
   obtain ⟨b, hb1⟩ : ∃ x_, l[i]? = some x_ := ⟨_, List.getElem?_eq_getElem (by omega)⟩
   refine ACode.skip ?_
   refine ks_n ?_
   refine ACode.seq ?_
   refine ACode.block ?_
   refine ACode.seq ?_
   refine ACode.region ?_
   refine .cons (.mv rfl rfl) ?_
   refine .cons (.xL 4 1 1 rfl rfl rfl rfl rfl) ?_
   refine .cons (.l1 1 rfl rfl) ?_
   refine .cons (.asg rfl rfl) ?_
   refine .cons (.asg rfl rfl) ?_
   refine .nil ?_
   refine ks_n ?_
   refine ACode.seq ?_
   refine ACode.region ?_
   refine .cons (.mv rfl rfl) ?_
   refine .nil ?_
   refine ks_n ?_
   refine ACode.condT rfl (fun h13 => ?_) (fun h13 => ?_)
   ·try simp only [zs1, zs2, zs3, zs4, zs5, zs6, zs7] at h13
    refine ACode.region ?_
    refine .cons (.mv rfl rfl) ?_
    refine .cons (.mv rfl rfl) ?_
    refine .cons (.li 3 0 0 [.tmp 15] rfl rfl rfl rfl rfl rfl) ?_
    refine .cons (St1.appN (k' := 117) (e := 3) (sz := 0) (by' := 8) rfl rfl rfl rfl rfl (by kernel_rfl) rfl rfl rfl (by simp) (by first | (simp [dR]; done) | (simp [dR]; omega)) rfl rfl) ?_
    refine .cons (.asg rfl rfl) ?_
    refine .nil ?_
    refine kb_n ?_
    refine ks_n ?_
    refine ACode.region ?_
    refine .cons (.pl rfl rfl rfl) ?_
    refine .cons (.mv rfl rfl) ?_
    refine .nil ?_
    refine kl_k [(110, 117)] (.inr ⟨i + 1, [(i : Int)], rfl, by omega, by rw [flagN_next hb1, if_pos h13, hE]; rfl, by simp, by simp, rfl⟩) ⟨ks rfl (.c .ow), ks rfl .dt, ks rfl .dt, ks rfl .dt, kb 117 rfl (.dt rfl (by first | rfl | (simp [dR, rI, dI]; done) | (simp [dR, rI]; done) | (simp [dR]; rfl))), trivial⟩
   ·try simp only [zs1, zs2, zs3, zs4, zs5, zs6, zs7] at h13
    refine ACode.skip ?_
    refine kb_n ?_
    refine ks_n ?_
    refine ACode.region ?_
    refine .cons (.pl rfl rfl rfl) ?_
    refine .cons (.mv rfl rfl) ?_
    refine .nil ?_
    refine kl_k [] (.inl ⟨i + 1, rfl, by omega, by rw [flagN_next hb1, if_neg (by rw [h13]; simp), hE], rfl⟩) ⟨ks rfl .dt, ks rfl .dt, ks rfl .dt, ks rfl .dt, trivial⟩
  ·skip
   obtain rfl : i = l.length := by omega
   refine ACode.exit ?_
   refine ks_e ?_
   refine kl_e ?_
   refine kb_hit ?_
   refine ks_n ?_
   refine ACode.seq ?_
   refine ACode.region ?_
   refine .cons (.mv rfl rfl) ?_
   refine .cons (.asg rfl rfl) ?_
   refine .nil ?_
   refine ks_n ?_
   refine ACode.ret ?_
   refine kf_ret rfl ?_ nobox
   rfl
 ·skip
  refine ACode.seq ?_
  refine ACode.region ?_
  refine .cons (.ls rfl rfl rfl) ?_
  refine .nil ?_
  refine ks_n ?_
  refine ACode.seq ?_
  refine .cD rfl (fun h9 => ?_) (fun h9 => ?_)
  ·skip
   obtain ⟨b, hb1⟩ : ∃ x_, l[i]? = some x_ := ⟨_, List.getElem?_eq_getElem (by omega)⟩
   refine ACode.skip ?_
   refine ks_n ?_
   refine ACode.seq ?_
   refine ACode.block ?_
   refine ACode.seq ?_
   refine ACode.region ?_
   refine .cons (.mv rfl rfl) ?_
   refine .cons (.xL 4 1 1 rfl rfl rfl rfl rfl) ?_
   refine .cons (.l1 1 rfl rfl) ?_
   refine .cons (.asg rfl rfl) ?_
   refine .cons (.asg rfl rfl) ?_
   refine .nil ?_
   refine ks_n ?_
   refine ACode.seq ?_
   refine ACode.region ?_
   refine .cons (.mv rfl rfl) ?_
   refine .nil ?_
   refine ks_n ?_
   refine ACode.condT rfl (fun h13 => ?_) (fun h13 => ?_)
   ·try simp only [zs1, zs2, zs3, zs4, zs5, zs6, zs7] at h13
    refine ACode.region ?_
    refine .cons (.mv rfl rfl) ?_
    refine .cons (.mv rfl rfl) ?_
    refine .cons (.li 3 0 0 [.tmp 15] rfl rfl rfl rfl rfl rfl) ?_
    refine .cons (St1.appB (k' := 117) (e := 3) (sz := 0) (by' := 8) rfl rfl rfl rfl rfl (by kernel_rfl) rfl rfl rfl rfl (by first | (simp [dR]; done) | (simp [dR]; omega)) (by first | (simp [dR]; done) | (simp [dR]; omega)) rfl rfl rfl) ?_
    refine .cons (.asg rfl rfl) ?_
    refine .nil ?_
    refine kb_n ?_
    refine ks_n ?_
    refine ACode.region ?_
    refine .cons (.pl rfl rfl rfl) ?_
    refine .cons (.mv rfl rfl) ?_
    refine .nil ?_
    refine kl_k [(110, 117)] (.inr ⟨i + 1, o ++ [(i : Int)], rfl, by omega, by rw [flagN_next hb1, if_pos h13, hE], by rw [List.length_append, List.length_singleton]; omega, by simp, rfl⟩) ⟨ks rfl (.c .ow), ks rfl .dt, ks rfl .dt, ks rfl .dt, kb 117 rfl (.dt rfl (by first | rfl | (simp [dR, rI, dI]; done) | (simp [dR, rI]; done) | (simp [dR]; rfl))), trivial⟩
   ·try simp only [zs1, zs2, zs3, zs4, zs5, zs6, zs7] at h13
    refine ACode.skip ?_
    refine kb_n ?_
    refine ks_n ?_
    refine ACode.region ?_
    refine .cons (.pl rfl rfl rfl) ?_
    refine .cons (.mv rfl rfl) ?_
    refine .nil ?_
    refine kl_k [(110, 110)] (.inr ⟨i + 1, o, rfl, by omega, by rw [flagN_next hb1, if_neg (by rw [h13]; simp), hE], by omega, hn1, rfl⟩) ⟨ks rfl (.c .ow), ks rfl .dt, ks rfl .dt, ks rfl .dt, kb 110 rfl (.dt rfl (by first | rfl | (simp [dR, rI, dI]; done) | (simp [dR, rI]; done) | (simp [dR]; rfl))), trivial⟩
  ·skip
   exact absurd (by rw [← hE, show i = l.length by omega]; exact hz) hn1

set_option maxRecDepth 100000 in
set_option maxHeartbeats 1600000 in
theorem chosen_own (l : List Bool) (hl : l.length ≤ 1000000) (hz : flagV l ≠ []) : Fn Tryz.prog 53 [] [vD (dBs l)] (.o (.c (.own 100 1 (flagV l).length))) [(.b 100, .b 3 1 (dR ((flagV l).map rI))), (.u 100, .u)] := by
 refine Fn.of_code Tryz.func53 rfl rfl HB.nil rfl rfl HB.nil.data rfl (one_num rfl) ?_
 refine ACode.seq ?_
 refine ACode.region ?_
 refine .cons (.asg rfl rfl) ?_
 refine .nil ?_
 refine ks_n ?_
 refine ACode.seq ?_
 refine ACode.region ?_
 refine .cons (.asg rfl rfl) ?_
 refine .nil ?_
 refine ks_n ?_
 refine ACode.seq ?_
 refine ACode.seq ?_
 refine ACode.region ?_
 refine .cons (.mv rfl rfl) ?_
 refine .cons (.ln 4 1 1 rfl rfl rfl) ?_
 refine .cons (.mv rfl rfl) ?_
 refine .nil ?_
 refine ks_n ?_
 refine ACode.block ?_
 refine .loopK (fun m σ => (∃ i : Nat, m = l.length - i ∧ (i ≤ l.length) ∧ (flagN l i = []) ∧ σ = [(.t 3, .v (.o (.c (.d (.val (.slice none 0 0)))))), (.t 6, .v (.o (vD (dBs l)))), (.t 7, .v (.o (nat1 (l.length : Nat)))), (.t 8, .v (.o (nat1 (i : Nat))))]) ∨ (∃ (i : Nat) (o : List Int), m = l.length - i ∧ (i ≤ l.length) ∧ (flagN l i = o) ∧ (o.length ≤ i) ∧ (o ≠ []) ∧ σ = [(.t 3, .v (.o (.c (.own 110 1 (o.length))))), (.t 6, .v (.o (vD (dBs l)))), (.t 7, .v (.o (nat1 (l.length : Nat)))), (.t 8, .v (.o (nat1 (i : Nat)))), (.b 110, .b 3 1 (dR (o.map rI))), (.u 110, .u)])) [] (.inl ⟨0, rfl, by omega, rfl, rfl⟩) ⟨ks rfl .dt, ks rfl .dt, ks rfl .dt, ks rfl .dt, trivial⟩ ?_
 rintro m σ (⟨i, hm0, hi, hE, rfl⟩ | ⟨i, o, hm0, hi, hE, ho, hn1, rfl⟩)
 ·skip
  refine ACode.seq ?_
  refine ACode.region ?_
  refine .cons (.ls rfl rfl rfl) ?_
  refine .nil ?_
  refine ks_n ?_
  refine ACode.seq ?_
  refine .cD rfl (fun h9 => ?_) (fun h9 => ?_)
  ·skip
   obtain ⟨b, hb1⟩ : ∃ x_, l[i]? = some x_ := ⟨_, List.getElem?_eq_getElem (by omega)⟩
   refine ACode.skip ?_
   refine ks_n ?_
   refine ACode.seq ?_
   refine ACode.block ?_
   refine ACode.seq ?_
   refine ACode.region ?_
   refine .cons (.mv rfl rfl) ?_
   refine .cons (.xL 4 1 1 rfl rfl rfl rfl rfl) ?_
   refine .cons (.l1 1 rfl rfl) ?_
   refine .cons (.asg rfl rfl) ?_
   refine .cons (.asg rfl rfl) ?_
   refine .nil ?_
   refine ks_n ?_
   refine ACode.seq ?_
   refine ACode.region ?_
   refine .cons (.mv rfl rfl) ?_
   refine .nil ?_
   refine ks_n ?_
   refine ACode.condT rfl (fun h13 => ?_) (fun h13 => ?_)
   ·try simp only [zs1, zs2, zs3, zs4, zs5, zs6, zs7] at h13
    refine ACode.region ?_
    refine .cons (.mv rfl rfl) ?_
    refine .cons (.mv rfl rfl) ?_
    refine .cons (.li 3 0 0 [.tmp 15] rfl rfl rfl rfl rfl rfl) ?_
    refine .cons (St1.appN (k' := 117) (e := 3) (sz := 0) (by' := 8) rfl rfl rfl rfl rfl (by kernel_rfl) rfl rfl rfl (by simp) (by first | (simp [dR]; done) | (simp [dR]; omega)) rfl rfl) ?_
    refine .cons (.asg rfl rfl) ?_
    refine .nil ?_
    refine kb_n ?_
    refine ks_n ?_
    refine ACode.region ?_
    refine .cons (.pl rfl rfl rfl) ?_
    refine .cons (.mv rfl rfl) ?_
    refine .nil ?_
    refine kl_k [(110, 117)] (.inr ⟨i + 1, [(i : Int)], rfl, by omega, by rw [flagN_next hb1, if_pos h13, hE]; rfl, by simp, by simp, rfl⟩) ⟨ks rfl (.c .ow), ks rfl .dt, ks rfl .dt, ks rfl .dt, kb 117 rfl (.dt rfl (by first | rfl | (simp [dR, rI, dI]; done) | (simp [dR, rI]; done) | (simp [dR]; rfl))), trivial⟩
   ·try simp only [zs1, zs2, zs3, zs4, zs5, zs6, zs7] at h13
    refine ACode.skip ?_
    refine kb_n ?_
    refine ks_n ?_
    refine ACode.region ?_
    refine .cons (.pl rfl rfl rfl) ?_
    refine .cons (.mv rfl rfl) ?_
    refine .nil ?_
    refine kl_k [] (.inl ⟨i + 1, rfl, by omega, by rw [flagN_next hb1, if_neg (by rw [h13]; simp), hE], rfl⟩) ⟨ks rfl .dt, ks rfl .dt, ks rfl .dt, ks rfl .dt, trivial⟩
  ·skip
   exact absurd (by rw [flagV, ← show i = l.length by omega]; exact hE) hz
 ·skip
  refine ACode.seq ?_
  refine ACode.region ?_
  refine .cons (.ls rfl rfl rfl) ?_
  refine .nil ?_
  refine ks_n ?_
  refine ACode.seq ?_
  refine .cD rfl (fun h9 => ?_) (fun h9 => ?_)
  ·skip
   obtain ⟨b, hb1⟩ : ∃ x_, l[i]? = some x_ := ⟨_, List.getElem?_eq_getElem (by omega)⟩
   refine ACode.skip ?_
   refine ks_n ?_
   refine ACode.seq ?_
   refine ACode.block ?_
   refine ACode.seq ?_
   refine ACode.region ?_
   refine .cons (.mv rfl rfl) ?_
   refine .cons (.xL 4 1 1 rfl rfl rfl rfl rfl) ?_
   refine .cons (.l1 1 rfl rfl) ?_
   refine .cons (.asg rfl rfl) ?_
   refine .cons (.asg rfl rfl) ?_
   refine .nil ?_
   refine ks_n ?_
   refine ACode.seq ?_
   refine ACode.region ?_
   refine .cons (.mv rfl rfl) ?_
   refine .nil ?_
   refine ks_n ?_
   refine ACode.condT rfl (fun h13 => ?_) (fun h13 => ?_)
   ·try simp only [zs1, zs2, zs3, zs4, zs5, zs6, zs7] at h13
    refine ACode.region ?_
    refine .cons (.mv rfl rfl) ?_
    refine .cons (.mv rfl rfl) ?_
    refine .cons (.li 3 0 0 [.tmp 15] rfl rfl rfl rfl rfl rfl) ?_
    refine .cons (St1.appB (k' := 117) (e := 3) (sz := 0) (by' := 8) rfl rfl rfl rfl rfl (by kernel_rfl) rfl rfl rfl rfl (by first | (simp [dR]; done) | (simp [dR]; omega)) (by first | (simp [dR]; done) | (simp [dR]; omega)) rfl rfl rfl) ?_
    refine .cons (.asg rfl rfl) ?_
    refine .nil ?_
    refine kb_n ?_
    refine ks_n ?_
    refine ACode.region ?_
    refine .cons (.pl rfl rfl rfl) ?_
    refine .cons (.mv rfl rfl) ?_
    refine .nil ?_
    refine kl_k [(110, 117)] (.inr ⟨i + 1, o ++ [(i : Int)], rfl, by omega, by rw [flagN_next hb1, if_pos h13, hE], by rw [List.length_append, List.length_singleton]; omega, by simp, rfl⟩) ⟨ks rfl (.c .ow), ks rfl .dt, ks rfl .dt, ks rfl .dt, kb 117 rfl (.dt rfl (by first | rfl | (simp [dR, rI, dI]; done) | (simp [dR, rI]; done) | (simp [dR]; rfl))), trivial⟩
   ·try simp only [zs1, zs2, zs3, zs4, zs5, zs6, zs7] at h13
    refine ACode.skip ?_
    refine kb_n ?_
    refine ks_n ?_
    refine ACode.region ?_
    refine .cons (.pl rfl rfl rfl) ?_
    refine .cons (.mv rfl rfl) ?_
    refine .nil ?_
    refine kl_k [(110, 110)] (.inr ⟨i + 1, o, rfl, by omega, by rw [flagN_next hb1, if_neg (by rw [h13]; simp), hE], by omega, hn1, rfl⟩) ⟨ks rfl (.c .ow), ks rfl .dt, ks rfl .dt, ks rfl .dt, kb 110 rfl (.dt rfl (by first | rfl | (simp [dR, rI, dI]; done) | (simp [dR, rI]; done) | (simp [dR]; rfl))), trivial⟩
  ·skip
   obtain rfl : i = l.length := by omega
   refine ACode.exit ?_
   refine ks_e ?_
   refine kl_e ?_
   refine kb_hit ?_
   refine ks_n ?_
   refine ACode.seq ?_
   refine ACode.region ?_
   refine .cons (.mv rfl rfl) ?_
   refine .cons (.asg rfl rfl) ?_
   refine .nil ?_
   refine ks_n ?_
   refine ACode.ret ?_
   refine kf_wret [(.t 2, .v (.o (.c (.own 100 1 ((flagV l).length))))), (.b 100, .b 3 1 (dR ((flagV l).map rI))), (.u 100, .u)] (Wk.keep [(100, 110)] rfl rfl ⟨ks rfl (.c (.ow (by rw [flagV, hE]))), kb 110 rfl (.dt rfl (by rw [flagV, hE])), trivial⟩) rfl ?_ (one_box rfl)
   rfl

set_option maxRecDepth 100000 in
set_option maxHeartbeats 1600000 in
theorem wt_bad {g : Prg} (hs : szG g ≤ 1073741824) (part : Int) (hV : prgV g = false) : Fn Tryz.prog 23 [] [ad (rG g), nat1 part] (.o (.c (.d (.val (.slice none 0 0))))) [] := by
 refine Fn.code0 Tryz.func23 rfl rfl rfl rfl ?_
 refine ACode.seq ?_
 refine ACode.region ?_
 refine .cons (St1.boxP rfl rfl rfl rfl rfl rfl) ?_
 refine .cons (.asg rfl rfl) ?_
 refine .nil ?_
 refine ks_n ?_
 refine ACode.seq ?_
 refine ACode.region ?_
 refine .cons (.lN 2 rfl rfl rfl) ?_
 refine .cons (.cP [.tmp 10] rfl rfl rfl rfl (trace_no hs hV) rfl) ?_
 refine .cons (.mv rfl rfl) ?_
 refine .cons (.ex rfl rfl rfl) ?_
 refine .cons (.ex rfl rfl rfl) ?_
 refine .cons (.asg rfl rfl) ?_
 refine .cons (.asg rfl rfl) ?_
 refine .nil ?_
 refine ks_n ?_
 refine ACode.seq ?_
 refine ACode.seq ?_
 refine ACode.region ?_
 refine .cons (.mv rfl rfl) ?_
 refine .cons (.nt rfl rfl) ?_
 refine .cons (.mv rfl rfl) ?_
 refine AOps.cases 16 _ rfl (fun g16 => ?_) (fun g16 => ?_)
 ·try simp only [zs1, zs2, zs3, zs4, zs5, zs6, zs7] at g16
  refine .cons (.gF rfl rfl rfl) ?_
  refine .cons (.gF rfl rfl rfl) ?_
  refine .cons (.gF rfl rfl rfl) ?_
  refine .cons (.gF rfl rfl rfl) ?_
  refine .cons (.pT rfl rfl rfl) ?_
  refine .nil ?_
  refine ks_n ?_
  refine ACode.condT rfl (fun _ => ?_) (fun h => by first | (cases h; done) | (simp [*] at h; done) | (exfalso; simp_all; done))
  refine ACode.seq ?_
  refine ACode.region ?_
  refine .cons (.asg rfl rfl) ?_
  refine .nil ?_
  refine ks_n ?_
  refine ACode.ret ?_
  refine ks_r ?_
  refine kf_ret rfl ?_ nobox
  rfl
 ·try simp only [zs1, zs2, zs3, zs4, zs5, zs6, zs7] at g16
  cases g16

set_option maxRecDepth 100000 in
set_option maxHeartbeats 1600000 in
theorem wt_out {g : Prg} (hs : szG g ≤ 1073741824) (part : Int) (hV : prgV g = true) (hp : inB part 0 ((g.2.length : Nat) - 1) = false) : Fn Tryz.prog 23 [] [ad (rG g), nat1 part] (.o (.c (.d (.val (.slice none 0 0))))) [] := by
 obtain ⟨hS, hN, hL⟩ := prgV_s hV
 have h4 := (prgS_iff.1 hS).2.1
 have htb := totN_bd (prgS_iff.1 hS).1
 have hfl : (flg true g part (insG 0 g.2).length).length ≤ 1000000 := by rw [flg_len]; omega
 refine Fn.code0 Tryz.func23 rfl rfl rfl rfl ?_
 refine ACode.seq ?_
 refine ACode.region ?_
 refine .cons (St1.boxP rfl rfl rfl rfl rfl rfl) ?_
 refine .cons (.asg rfl rfl) ?_
 refine .nil ?_
 refine ks_n ?_
 refine ACode.seq ?_
 refine ACode.region ?_
 refine .cons (.lN 2 rfl rfl rfl) ?_
 refine .cons (.cP [.tmp 10] rfl rfl rfl rfl (trace_fn hs hV) rfl) ?_
 refine .cons (.mv rfl rfl) ?_
 refine .cons (.ex rfl rfl rfl) ?_
 refine .cons (.ex rfl rfl rfl) ?_
 refine .cons (.asg rfl rfl) ?_
 refine .cons (.asg rfl rfl) ?_
 refine .nil ?_
 refine ks_n ?_
 refine ACode.seq ?_
 refine ACode.seq ?_
 refine ACode.region ?_
 refine .cons (.mv rfl rfl) ?_
 refine .cons (.nt rfl rfl) ?_
 refine .cons (.mv rfl rfl) ?_
 refine AOps.cases 16 _ rfl (fun g16 => ?_) (fun g16 => ?_)
 ·try simp only [zs1, zs2, zs3, zs4, zs5, zs6, zs7] at g16
  cases g16
 ·try simp only [zs1, zs2, zs3, zs4, zs5, zs6, zs7] at g16
  refine .cons (.gT rfl rfl rfl (.lN 2 rfl rfl rfl)) ?_
  refine .cons (.gT rfl rfl rfl (.mv rfl rfl)) ?_
  refine .cons (.gT rfl rfl rfl (.cP [.tmp 17, .tmp 18] rfl rfl rfl rfl (isPart_fn (by omega) part) rfl)) ?_
  refine .cons (.gT rfl rfl rfl (.nt rfl rfl)) ?_
  refine .cons (.pF rfl rfl rfl) ?_
  refine .nil ?_
  refine ks_n ?_
  refine ACode.condT rfl (fun h21 => ?_) (fun h21 => ?_)
  ·try simp only [zs1, zs2, zs3, zs4, zs5, zs6, zs7] at h21
   refine ACode.seq ?_
   refine ACode.region ?_
   refine .cons (.asg rfl rfl) ?_
   refine .nil ?_
   refine ks_n ?_
   refine ACode.ret ?_
   refine ks_r ?_
   refine kf_ret rfl ?_ nobox
   rfl
  ·try simp only [zs1, zs2, zs3, zs4, zs5, zs6, zs7] at h21
   simp_all

set_option maxRecDepth 100000 in
set_option maxHeartbeats 1600000 in
theorem wt_nil {g : Prg} (hs : szG g ≤ 1073741824) (part : Int) (hV : prgV g = true) (hp : inB part 0 ((g.2.length : Nat) - 1) = true) (hz : flagV (flg true g part (insG 0 g.2).length) = []) : Fn Tryz.prog 23 [] [ad (rG g), nat1 part] (.o (.c (.d (.val (.slice none 0 0))))) [] := by
 obtain ⟨hS, hN, hL⟩ := prgV_s hV
 have h4 := (prgS_iff.1 hS).2.1
 have htb := totN_bd (prgS_iff.1 hS).1
 have hfl : (flg true g part (insG 0 g.2).length).length ≤ 1000000 := by rw [flg_len]; omega
 refine Fn.code0 Tryz.func23 rfl rfl rfl rfl ?_
 refine ACode.seq ?_
 refine ACode.region ?_
 refine .cons (St1.boxP rfl rfl rfl rfl rfl rfl) ?_
 refine .cons (.asg rfl rfl) ?_
 refine .nil ?_
 refine ks_n ?_
 refine ACode.seq ?_
 refine ACode.region ?_
 refine .cons (.lN 2 rfl rfl rfl) ?_
 refine .cons (.cP [.tmp 10] rfl rfl rfl rfl (trace_fn hs hV) rfl) ?_
 refine .cons (.mv rfl rfl) ?_
 refine .cons (.ex rfl rfl rfl) ?_
 refine .cons (.ex rfl rfl rfl) ?_
 refine .cons (.asg rfl rfl) ?_
 refine .cons (.asg rfl rfl) ?_
 refine .nil ?_
 refine ks_n ?_
 refine ACode.seq ?_
 refine ACode.seq ?_
 refine ACode.region ?_
 refine .cons (.mv rfl rfl) ?_
 refine .cons (.nt rfl rfl) ?_
 refine .cons (.mv rfl rfl) ?_
 refine AOps.cases 16 _ rfl (fun g16 => ?_) (fun g16 => ?_)
 ·try simp only [zs1, zs2, zs3, zs4, zs5, zs6, zs7] at g16
  cases g16
 ·try simp only [zs1, zs2, zs3, zs4, zs5, zs6, zs7] at g16
  refine .cons (.gT rfl rfl rfl (.lN 2 rfl rfl rfl)) ?_
  refine .cons (.gT rfl rfl rfl (.mv rfl rfl)) ?_
  refine .cons (.gT rfl rfl rfl (.cP [.tmp 17, .tmp 18] rfl rfl rfl rfl (isPart_fn (by omega) part) rfl)) ?_
  refine .cons (.gT rfl rfl rfl (.nt rfl rfl)) ?_
  refine .cons (.pF rfl rfl rfl) ?_
  refine .nil ?_
  refine ks_n ?_
  refine ACode.condT rfl (fun h21 => ?_) (fun h21 => ?_)
  ·try simp only [zs1, zs2, zs3, zs4, zs5, zs6, zs7] at h21
   simp_all
  ·try simp only [zs1, zs2, zs3, zs4, zs5, zs6, zs7] at h21
   refine ACode.skip ?_
   refine ks_n ?_
   refine ACode.seq ?_
   refine ACode.region ?_
   refine .cons (.mv rfl rfl) ?_
   refine .cons (.mv rfl rfl) ?_
   refine .cons (.cP [.tmp 23, .tmp 24] rfl rfl rfl rfl (cellsOf_fn hS part) rfl) ?_
   refine .cons (.mv rfl rfl) ?_
   refine .cons (.ex rfl rfl rfl) ?_
   refine .cons (.ex rfl rfl rfl) ?_
   refine .cons (.asg rfl rfl) ?_
   refine .cons (.asg rfl rfl) ?_
   refine .nil ?_
   refine ks_n ?_
   refine ACode.seq ?_
   refine ACode.region ?_
   refine .cons (.mv rfl rfl) ?_
   refine .cons (.cP [.tmp 28] rfl rfl rfl rfl (chosen_nil _ hfl hz) rfl) ?_
   refine .cons (.asg rfl rfl) ?_
   refine .nil ?_
   refine ks_n ?_
   refine ACode.ret ?_
   refine kf_ret rfl ?_ nobox
   rfl

set_option maxRecDepth 100000 in
set_option maxHeartbeats 1600000 in
theorem wt_own {g : Prg} (hs : szG g ≤ 1073741824) (part : Int) (hV : prgV g = true) (hp : inB part 0 ((g.2.length : Nat) - 1) = true) (hz : flagV (flg true g part (insG 0 g.2).length) ≠ []) : Fn Tryz.prog 23 [] [ad (rG g), nat1 part] (.o (.c (.own 100 1 (flagV (flg true g part (insG 0 g.2).length)).length))) [(.b 100, .b 3 1 (dR ((flagV (flg true g part (insG 0 g.2).length)).map rI))), (.u 100, .u)] := by
 obtain ⟨hS, hN, hL⟩ := prgV_s hV
 have h4 := (prgS_iff.1 hS).2.1
 have htb := totN_bd (prgS_iff.1 hS).1
 have hfl : (flg true g part (insG 0 g.2).length).length ≤ 1000000 := by rw [flg_len]; omega
 refine Fn.of_code Tryz.func23 rfl rfl HB.nil rfl rfl HB.nil.data rfl (one_num rfl) ?_
 refine ACode.seq ?_
 refine ACode.region ?_
 refine .cons (St1.boxP rfl rfl rfl rfl rfl rfl) ?_
 refine .cons (.asg rfl rfl) ?_
 refine .nil ?_
 refine ks_n ?_
 refine ACode.seq ?_
 refine ACode.region ?_
 refine .cons (.lN 2 rfl rfl rfl) ?_
 refine .cons (.cP [.tmp 10] rfl rfl rfl rfl (trace_fn hs hV) rfl) ?_
 refine .cons (.mv rfl rfl) ?_
 refine .cons (.ex rfl rfl rfl) ?_
 refine .cons (.ex rfl rfl rfl) ?_
 refine .cons (.asg rfl rfl) ?_
 refine .cons (.asg rfl rfl) ?_
 refine .nil ?_
 refine ks_n ?_
 refine ACode.seq ?_
 refine ACode.seq ?_
 refine ACode.region ?_
 refine .cons (.mv rfl rfl) ?_
 refine .cons (.nt rfl rfl) ?_
 refine .cons (.mv rfl rfl) ?_
 refine AOps.cases 16 _ rfl (fun g16 => ?_) (fun g16 => ?_)
 ·try simp only [zs1, zs2, zs3, zs4, zs5, zs6, zs7] at g16
  cases g16
 ·try simp only [zs1, zs2, zs3, zs4, zs5, zs6, zs7] at g16
  refine .cons (.gT rfl rfl rfl (.lN 2 rfl rfl rfl)) ?_
  refine .cons (.gT rfl rfl rfl (.mv rfl rfl)) ?_
  refine .cons (.gT rfl rfl rfl (.cP [.tmp 17, .tmp 18] rfl rfl rfl rfl (isPart_fn (by omega) part) rfl)) ?_
  refine .cons (.gT rfl rfl rfl (.nt rfl rfl)) ?_
  refine .cons (.pF rfl rfl rfl) ?_
  refine .nil ?_
  refine ks_n ?_
  refine ACode.condT rfl (fun h21 => ?_) (fun h21 => ?_)
  ·try simp only [zs1, zs2, zs3, zs4, zs5, zs6, zs7] at h21
   simp_all
  ·try simp only [zs1, zs2, zs3, zs4, zs5, zs6, zs7] at h21
   refine ACode.skip ?_
   refine ks_n ?_
   refine ACode.seq ?_
   refine ACode.region ?_
   refine .cons (.mv rfl rfl) ?_
   refine .cons (.mv rfl rfl) ?_
   refine .cons (.cP [.tmp 23, .tmp 24] rfl rfl rfl rfl (cellsOf_fn hS part) rfl) ?_
   refine .cons (.mv rfl rfl) ?_
   refine .cons (.ex rfl rfl rfl) ?_
   refine .cons (.ex rfl rfl rfl) ?_
   refine .cons (.asg rfl rfl) ?_
   refine .cons (.asg rfl rfl) ?_
   refine .nil ?_
   refine ks_n ?_
   refine ACode.seq ?_
   refine ACode.region ?_
   refine .cons (.mv rfl rfl) ?_
   refine .cons (.cO [.tmp 28] [(100, 129)] rfl rfl rfl rfl (chosen_own _ hfl hz) rfl trivial flatS.nil (flatS.nil.cons rfl) HB.nil.data outS_one) ?_
   refine .cons (.asg rfl rfl) ?_
   refine .nil ?_
   refine ks_n ?_
   refine ACode.ret ?_
   refine kf_wret [(.t 4, .v (.o (.c (.own 100 1 ((flagV (flg true g part (insG 0 g.2).length)).length))))), (.b 100, .b 3 1 (dR ((flagV (flg true g part (insG 0 g.2).length)).map rI))), (.u 100, .u)] (Wk.keep [(100, 129)] rfl rfl ⟨ks rfl (.c (.ow rfl)), kb 129 rfl (.dt rfl rfl), trivial⟩) rfl ?_ (one_box rfl)
   rfl

set_option maxRecDepth 100000 in
set_option maxHeartbeats 1600000 in
theorem spec_wt {g : Prg} (hs : szG g ≤ 1073741824) (part : Int)  : Fn Tryz.prog 22 [] [ad (rG g), nat1 part] (.o (vD (dIs (prtU g part true)))) [] := by
 refine Fn.code0 Tryz.func22 rfl rfl rfl rfl ?_
 refine ACode.seq ?_
 refine ACode.region ?_
 refine .cons (St1.boxP rfl rfl rfl rfl rfl rfl) ?_
 refine .cons (.asg rfl rfl) ?_
 refine .nil ?_
 refine ks_n ?_
 refine ACode.seq ?_
 refine ACode.seq ?_
 refine ACode.region ?_
 refine .cons (.lN 2 rfl rfl rfl) ?_
 refine .cons (.cP [.tmp 5] rfl rfl rfl rfl (specPV_fn hs) rfl) ?_
 refine .cons (.nt rfl rfl) ?_
 refine .nil ?_
 refine ks_n ?_
 refine ACode.condT rfl (fun h7 => ?_) (fun h7 => ?_)
 ·try simp only [zs1, zs2, zs3, zs4, zs5, zs6, zs7] at h7
  have hV : prgV g = false := by first | assumption | simp_all
  refine ACode.seq ?_
  refine ACode.region ?_
  refine .cons (St1.lit0 (k' := 108) (e := 3) (sz := 1) (b := true) rfl rfl rfl rfl (by kernel_rfl) rfl rfl) ?_
  refine .cons (.asg rfl rfl) ?_
  refine .nil ?_
  refine ks_n ?_
  refine ACode.ret ?_
  refine ks_r ?_
  refine kf_wret [(.t 4, .v (.o (vD (dIs (prtU g part true)))))] (Wk.keep [] rfl rfl ⟨ks rfl (.c (.fz rfl (by rw [prtU_no hV]; rfl) (by rw [prtU_no hV]; rfl) (by omega))), trivial⟩) rfl ?_ nobox
  rfl
 ·try simp only [zs1, zs2, zs3, zs4, zs5, zs6, zs7] at h7
  have hV : prgV g = true := by first | assumption | simp_all
  obtain ⟨hS, hN, hL⟩ := prgV_s hV
  refine ACode.skip ?_
  refine ks_n ?_
  refine ACode.seq ?_
  refine ACode.region ?_
  refine .cons (.lN 2 rfl rfl rfl) ?_
  refine .cons (.mv rfl rfl) ?_
  refine .cons (.cP [.tmp 9, .tmp 10, .const (.bool true)] rfl rfl rfl rfl (l11Cells_fn hs hS part true) rfl) ?_
  refine .cons (.asg rfl rfl) ?_
  refine .nil ?_
  refine ks_n ?_
  refine ACode.ret ?_
  refine kf_wret [(.t 4, .v (.o (vD (dIs (prtU g part true)))))] (Wk.keep [] rfl rfl ⟨ks rfl (.dt (by rw [prtU_yes hV])), trivial⟩) rfl ?_ nobox
  rfl
theorem flagV_no (n : Nat) : flagV (List.replicate n false) = [] := by
  rw [flagV, flagN, List.map_eq_nil_iff, List.filter_eq_nil_iff]
  intro i hi
  rw [List.length_replicate] at hi
  rw [List.getD, List.getElem?_replicate, if_pos (List.mem_range.1 hi)]
  simp
theorem flg_out {wr : Bool} {g : Prg} {part : Int} (hS : prgS g = true) (hp : inB part 0 ((g.2.length : Nat) - 1) = false) : ∀ n, n ≤ (insG 0 g.2).length → flg wr g part n = List.replicate (totN g.1) false
  | 0, _ => rfl
  | n + 1, hn => by
    obtain ⟨x, hx⟩ : ∃ x, (insG 0 g.2)[n]? = some x := ⟨_, List.getElem?_eq_getElem (by omega)⟩
    obtain ⟨k, c, q, hI⟩ := ins_at hS (List.mem_of_getElem? hx)
    have hne : ¬ x.1 = part := fun e => by
      have := of_decide_eq_false hp
      have h1 := hI.e1
      have h2 := hI.hk
      omega
    rw [flg_next hx, step_no hne]
    exact flg_out hS hp n (by omega)
theorem prtU_out {g : Prg} {part : Int} {wr : Bool} (hp : inB part 0 ((g.2.length : Nat) - 1) = false) : prtU g part wr = [] := by
  cases hV : prgV g with
  | false => exact prtU_no hV
  | true => rw [prtU_yes hV, flg_out (prgV_s hV).1 hp _ (Nat.le_refl _), flagV_no]
theorem prtU_len {g : Prg} {part : Int} {wr : Bool} : (prtU g part wr).length ≤ 144 := by
  cases hV : prgV g with
  | false => rw [prtU_no hV]; simp
  | true => rw [prtU_yes hV]; exact flag_len (prgS_iff.1 (prgV_s hV).1).1
theorem e0_parts {w : World} {B : Nat → Prop} {d0 d1 : D} {v : Value} (h : V1r bx0 al0 B w (ad [d0, d1]) v) : ∃ u0 u1, v = .agg #[u0, u1] ∧ Dr B w d0 u0 ∧ Dr B w d1 u1 := by
  obtain ⟨vs, rfl, hl, h⟩ := h
  obtain ⟨u0, l0, rfl, h0⟩ := len_cons (show vs.length = 1 + 1 from hl)
  obtain ⟨u1, l1, rfl, h1⟩ := len_cons (show l0.length = 0 + 1 from h0)
  obtain rfl := len_zero h1
  exact ⟨u0, u1, rfl, h 0 (.d d0) u0 rfl rfl, h 1 (.d d1) u1 rfl rfl⟩
theorem wt_ownC {g : Prg} (hs : szG g ≤ 1073741824) (part : Int) : OwnC 23 [ad (rG g), nat1 part] (prtU g part true) := by
  cases hV : prgV g with
  | false => rw [prtU_no hV]; exact (wt_bad hs part hV).nilC
  | true =>
    cases hp : inB part 0 ((g.2.length : Nat) - 1) with
    | false => rw [prtU_out hp]; exact (wt_out hs part hV hp).nilC
    | true =>
      rw [prtU_yes hV]
      by_cases hz : flagV (flg true g part (insG 0 g.2).length) = []
      · rw [hz]; exact (wt_nil hs part hV hp hz).nilC
      · exact (wt_own hs part hV hp hz).ownC
set_option maxRecDepth 100000 in
set_option maxHeartbeats 6400000 in
theorem lawXwt {g : Prg} (ho : okPrg g) (p : Int) {xs : List Int} (hx : xs.length ≤ 1000000) (qs : szG g ≤ 1048576 → PureC 22 [ad (rG g), nat1 p] xs) (qi : szG g ≤ 1048576 → OwnC 23 [ad (rG g), nat1 p] xs)
    {w : World} {u0 u1 : Value} (d0 : Dr (fun b => b < w.heap.size) w (dRs g.1) u0) (d1 : Dr (fun b => b < w.heap.size) w (dPts g.2) u1) : Truth Tryz.prog 5 #[.agg #[u0, u1], .int .i64 p] w := by
  have L0 := LawS.start w [u0, u1]
  have hz := szPrg_fn (l := 1048576) (by omega) ho
  have D0 := hid d0; have D1 := hid d1; clear d0 d1
  have HL0 := hid L0; clear L0
  have HX := hid hx; clear hx
  by_cases hs : szG g ≤ 1048576
  case neg =>
    rw [subZ_no (by omega)] at hz
    have HZ := hid hz; clear hz qs qi ho
    go_enter Tryz.func5, Tryz.ntmps5
    go_wp2_with fail
    refine (HZ.out.callsI (vs := [_, _]) (vals2_mk (ad2_v (D0.out.frame (below_sameAll HL0.out.below _)) (D1.out.frame (below_sameAll HL0.out.below _))) (Dr.val (.int .i64 1048576) rfl))).mono ?_
    rintro e wA ⟨rfl, bA⟩
    have LA := HL0.out.fwd bA HL0.out.lt
    have HLA := hid LA; clear LA
    go_wp2_with fail
    go_ret
    exact ⟨rfl, HLA.out.below⟩
  rw [subZ_yes (by omega)] at hz
  have qs := hid (qs hs); have qi := hid (qi hs)
  have hcp := hid (copyPrg hs)
  have hep := hid (eqPrg_fn g g (by omega))
  have HS := hid hs
  have HZ := hid hz
  have hz0 : (0 : Int) ≤ 1048576 - (szG g : Nat) := by omega
  clear hz ho hs
  obtain ⟨z, hz1⟩ : ∃ z : Int, z = 1048576 - (szG g : Nat) := ⟨_, rfl⟩
  rw [← hz1] at HZ hz0
  clear hz1
  go_enter Tryz.func5, Tryz.ntmps5
  go_wp2_with fail
  refine (HZ.out.callsI (vs := [_, _]) (vals2_mk (ad2_v (D0.out.frame (below_sameAll HL0.out.below _)) (D1.out.frame (below_sameAll HL0.out.below _))) (Dr.val (.int .i64 1048576) rfl))).mono ?_
  rintro e wA ⟨rfl, bA⟩
  have HLA := hid (HL0.out.fwd bA HL0.out.lt); clear bA
  have c0 := HLA.out.c 0 rfl; have c1 := HLA.out.c 1 rfl
  go_wp2_with fail
  clear c0 c1
  refine (hcp.out _ _ [u0, u1] rfl (all2 (D0.out.frame (below_sameAll HLA.out.below _)) (D1.out.frame (below_sameAll HLA.out.below _)))).mono ?_
  rintro e wB ⟨vs, rfl, bB, hv⟩
  obtain ⟨y0, l0, rfl, hv1⟩ := len_cons hv.1
  obtain ⟨y1, l1, rfl, hv2⟩ := len_cons hv1
  obtain rfl := len_zero hv2
  have NB0 := hid (hv.2 0 _ _ rfl rfl); have NB1 := hid (hv.2 1 _ _ rfl rfl); clear hv hv1 hv2
  have HLB := hid (HLA.out.fwd bB HLA.out.lt); clear bB
  go_wp2_with fail
  refine (qs.out _ _ [.agg #[y0, y1], .int .i64 p] (vals2_mk (ad2_v NB0.out.dr NB1.out.dr) (Dr.val (.int .i64 p) rfl))).mono ?_
  rintro e wC ⟨⟨a0, k0, rfl, i0⟩, bC⟩
  have HLC := hid (HLB.out.fwd bC HLB.out.lt); clear bC NB0 NB1
  have I0 := hid i0; clear i0
  have c0 := HLC.out.c 0 rfl; have c1 := HLC.out.c 1 rfl
  go_wp2_with fail
  clear c0 c1
  refine (hcp.out _ _ [u0, u1] rfl (all2 (D0.out.frame (below_sameAll HLC.out.below _)) (D1.out.frame (below_sameAll HLC.out.below _)))).mono ?_
  rintro e wD ⟨vs, rfl, bD, hv⟩
  obtain ⟨x0, l0, rfl, hv1⟩ := len_cons hv.1
  obtain ⟨x1, l1, rfl, hv2⟩ := len_cons hv1
  obtain rfl := len_zero hv2
  have ND0 := hid (hv.2 0 _ _ rfl rfl); have ND1 := hid (hv.2 1 _ _ rfl rfl); clear hv hv1 hv2
  have HBD := hid bD; clear bD
  have HA := hid ((HBD.out).alloc HBD.out.size (.cells #[x0, x1] 32))
  have HBx := hid (heap_alloc_new wD (.cells #[x0, x1] 32))
  have HAl := hid (show Below wD.heap.size wD (wD.alloc (.cells #[x0, x1] 32)) from (Below.refl _ _).alloc (Nat.le_refl _) _)
  have ND0a := hid (ND0.out.fwd HAl.out); have ND1a := hid (ND1.out.fwd HAl.out)
  have s0 := fun a m w => run_store Tryz.prog w a x0 m ND0.out.one; have s1 := fun a m w => run_store Tryz.prog w a x1 m ND1.out.one
  go_wp2_with fail
  clear s0 s1
  refine (qi.out _ _ [.agg #[x0, x1], .int .i64 p] (vals2_mk (ad2_v ND0a.out.dr ND1a.out.dr) (Dr.val (.int .i64 p) rfl))).mono ?_
  rintro e wE ⟨⟨a1, k1, rfl, o1⟩, bE⟩
  have O1 := hid (show OwnS wE (wD.heap.size + 1) _ _ by have := o1; simpa using this); clear o1
  have HBE := hid (HA.out.trans (bE.mono HA.out.size))
  have HDE := hid (HAl.out.trans (bE.mono HAl.out.size))
  have HBx1 := hid ((bE.block _ (by simp)).trans HBx.out); clear bE
  go_wp2_with fail
  refine (eqIntS_any _ _ _ _ _ _ xs xs _ (O1.out.intsA (by have := HX.out; omega)) (I0.out.below HBE.out)).mono ?_
  rintro e wF ⟨rfl, q⟩
  rw [dec_self]
  have HBF := hid (HBE.out.trans ((q.below _).mono HBE.out.size)); have HDF := hid (HDE.out.trans ((q.below _).mono HDE.out.size))
  have O1F := hid (O1.out.below' (q.below _)); have HBxF := hid (((q.below wE.heap.size).block _ (blk_lt HBx1.out)).trans HBx1.out); clear q
  have HLF := hid (HLC.out.fwd HBF.out HLC.out.lt)
  have c0 := HLF.out.c 0 rfl; have c1 := HLF.out.c 1 rfl
  have e0 : wF.cell? ⟨wD.heap.size, 0, none⟩ = some x0 := by rw [cell_of_row wF _ _ _ _ _ HBxF.out]; rfl
  have e1 : wF.cell? ⟨wD.heap.size, 1, none⟩ = some x1 := by rw [cell_of_row wF _ _ _ _ _ HBxF.out]; rfl
  go_wp2_with fail
  go_region_held3 (fun wq => wq.cell? ⟨w.heap.size, 0, none⟩ = some u0 ∧ wq.cell? ⟨w.heap.size, 1, none⟩ = some u1 ∧ wq.cell? ⟨wD.heap.size, 0, none⟩ = some x0 ∧ wq.cell? ⟨wD.heap.size, 1, none⟩ = some x1)
    ((repeat' apply And.intro) <;> first | assumption | go_keep)
    (first
    | (go_at_call 13
       refine (hcp.out _ _ [u0, u1] rfl (all2 (D0.out.frame (below_sameAll (HLF.out.below.drew) _)) (D1.out.frame (below_sameAll (HLF.out.below.drew) _)))).mono ?_
       rintro e wG ⟨vs, rfl, bG, hv⟩
       obtain ⟨z0, l0, rfl, hv1⟩ := len_cons hv.1
       obtain ⟨z1, l1, rfl, hv2⟩ := len_cons hv1
       obtain rfl := len_zero hv2
       have NG0 := hid (hv.2 0 _ _ rfl rfl); have NG1 := hid (hv.2 1 _ _ rfl rfl)
       have HFG := hid (show Below wF.heap.size wF wG from (Below.refl _ _).drew.trans bG)
       clear hv hv1 hv2 bG
       have c0 := (HLF.out.fwd HFG.out HLF.out.lt).c 0 rfl; have c1 := (HLF.out.fwd HFG.out HLF.out.lt).c 1 rfl
       have e0 : wG.cell? ⟨wD.heap.size, 0, none⟩ = some x0 := by rw [cell_of_row wG _ _ _ _ _ ((HFG.out.block _ (blk_lt HBxF.out)).trans HBxF.out)]; rfl
       have e1 : wG.cell? ⟨wD.heap.size, 1, none⟩ = some x1 := by rw [cell_of_row wG _ _ _ _ _ ((HFG.out.block _ (blk_lt HBxF.out)).trans HBxF.out)]; rfl)
    | (go_at_call 16
       refine (hep.out.callsB (vs := [_, _]) (B := fun _ => True) (vals2_mk (ad2_v (((ND0.out.fwd HDF.out).fwd HFG.out).dr.mono fun _ _ _ => trivial) (((ND1.out.fwd HDF.out).fwd HFG.out).dr.mono fun _ _ _ => trivial)) (ad2_v (NG0.out.dr.mono fun _ _ _ => trivial) (NG1.out.dr.mono fun _ _ _ => trivial)))).mono ?_
       rintro e wH ⟨rfl, bH⟩
       rw [sameG_refl]
       have HFH := hid (HFG.out.trans (bH.mono HFG.out.size))
       clear bH
       have c0 := (HLF.out.fwd HFH.out HLF.out.lt).c 0 rfl; have c1 := (HLF.out.fwd HFH.out HLF.out.lt).c 1 rfl
       have e0 : wH.cell? ⟨wD.heap.size, 0, none⟩ = some x0 := by rw [cell_of_row wH _ _ _ _ _ ((HFH.out.block _ (blk_lt HBxF.out)).trans HBxF.out)]; rfl
       have e1 : wH.cell? ⟨wD.heap.size, 1, none⟩ = some x1 := by rw [cell_of_row wH _ _ _ _ _ ((HFH.out.block _ (blk_lt HBxF.out)).trans HBxF.out)]; rfl))

  have HBH := hid (HBF.out.trans (HFH.out.mono HBF.out.size)); have HDH := hid (HDF.out.trans (HFH.out.mono HDF.out.size))
  have O1H := hid (O1F.out.below' HFH.out)
  clear NG0 NG1 HFG HFH HLF HBxF
  go_wp2_with fail
  clear c0 c1 e0 e1
  refine (markPrg_k HS.out (S := fun b => wC.heap.size ≤ b ∧ b < wD.heap.size) ((ND0.out.k fun b h1 h2 => ⟨h1, h2⟩).mark (marked_of HDH.out (fun _ => True))) ((ND1.out.k fun b h1 h2 => ⟨h1, h2⟩).mark (marked_of HDH.out (fun _ => True))) (fun b h => Nat.lt_of_lt_of_le h.2 HDH.out.size)).mono ?_
  rintro e wI ⟨⟨k, hk0, hk1, rfl⟩, mI⟩
  have HBI := hid (HBH.out.trans (mI.below (fun b h => h.1) HBH.out.size))
  have O1I := hid (O1H.out.marked mI (fun b h => by have := h.2; omega)); clear mI
  have h2 : decide (k < 0) = false := by simp; omega
  go_wp2_with fail
  clear h2
  refine (eqIntS_any _ _ _ _ _ _ xs xs _ (O1I.out.intsA (by have := HX.out; omega)) (I0.out.below HBI.out)).mono ?_
  rintro e wJ ⟨rfl, q⟩
  rw [dec_self]
  have HBJ := hid (HBI.out.trans ((q.below _).mono HBI.out.size)); have O1J := hid (O1I.out.below' (q.below _)); clear q
  go_wp2_with fail
  refine (markIntS_any _ _ _ _ 1 _ _ O1J.out (by have := HX.out; omega) (by omega) (by omega)).mono ?_
  rintro e wK ⟨rfl, o, gK⟩
  have HBK := hid (HBJ.out.grown gK HBJ.out.size (fun k hk => by have := (O1J.out.lt k hk).1; have := HBD.out.size; omega))
  have O1K := hid o; clear o gK
  go_wp2_with fail
  refine (heldIntS_any _ _ _ 1 _ (O1K.out.intsA (by have := HX.out; omega)) (by omega) (by omega)).mono ?_
  rintro e wL ⟨rfl, q⟩
  have HBL := hid (HBK.out.trans ((q.below _).mono HBK.out.size)); have O1L := hid (O1K.out.below' (q.below _)); clear q
  have HLL := hid (HLC.out.fwd HBL.out HLC.out.lt)
  have h3 : decide ((1 : Int) + (xs.length : Nat) < 0) = false := by simp; omega
  have c0 := HLL.out.c 0 rfl; have c1 := HLL.out.c 1 rfl
  go_wp2_with fail
  clear c0 c1
  refine (hcp.out _ _ [u0, u1] rfl (all2 (D0.out.frame (below_sameAll HLL.out.below _)) (D1.out.frame (below_sameAll HLL.out.below _)))).mono ?_
  rintro e wM ⟨vs, rfl, bM, hv⟩
  obtain ⟨m0, l0, rfl, hv1⟩ := len_cons hv.1
  obtain ⟨m1, l1, rfl, hv2⟩ := len_cons hv1
  obtain rfl := len_zero hv2
  have NM0 := hid (hv.2 0 _ _ rfl rfl); have NM1 := hid (hv.2 1 _ _ rfl rfl); clear hv hv1 hv2
  have HBM := hid (HBL.out.trans (bM.mono HBL.out.size)); have O1M := hid (O1L.out.below' bM); clear bM
  go_wp2_with fail
  refine (qi.out _ _ [.agg #[m0, m1], .int .i64 p] (vals2_mk (ad2_v NM0.out.dr NM1.out.dr) (Dr.val (.int .i64 p) rfl))).mono ?_
  rintro e wN ⟨⟨a2, k2, rfl, o2⟩, bN⟩
  have O2 := hid o2; clear o2
  have HBN := hid (HBM.out.trans (bN.mono HBM.out.size)); have O1N := hid (O1M.out.below' bN); clear bN
  go_wp2_with fail
  refine (eqIntS_any _ _ _ _ _ _ xs xs _ (O2.out.intsA (by have := HX.out; omega)) (I0.out.below HBN.out)).mono ?_
  rintro e wO ⟨rfl, q⟩
  rw [dec_self]
  have HBO := hid (HBN.out.trans ((q.below _).mono HBN.out.size)); have O1O := hid (O1N.out.below' (q.below _)); clear q
  go_wp2_with fail
  refine (heldIntS_any _ _ _ 1 _ (O1O.out.intsA (by have := HX.out; omega)) (by omega) (by omega)).mono ?_
  rintro e wP ⟨rfl, q⟩
  have HBP := hid (HBO.out.trans ((q.below _).mono HBO.out.size)); clear q
  go_wp2_with fail
  go_ret
  exact ⟨rfl, HLC.out.below.trans (HBP.out.mono (Nat.le_of_lt HLC.out.lt))⟩
theorem lawExwt {g : Prg} (ho : okPrg g) (p : Int) {w : World} {v : Value} (e0 : V1r bx0 al0 (fun b => b < w.heap.size) w (ad (rG g)) v) : Truth Tryz.prog 5 #[v, .int .i64 p] w := by
  obtain ⟨u0, u1, rfl, d0, d1⟩ := e0_parts e0
  exact lawXwt ho p (Nat.le_trans prtU_len (by omega)) (fun hs => (spec_wt (by omega) p).pureC) (fun hs => wt_ownC (by omega) p) d0 d1
end Go.Proofs.YtongpceopgkhnaaGreat
