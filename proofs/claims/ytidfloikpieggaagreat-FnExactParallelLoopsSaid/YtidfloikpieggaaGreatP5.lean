/- Part 5 of 6 of the proof: laws on memory and data, then what the functions compute, in the order in which they build on each other; conditions: those that each theorem names. -/
import Derived.Test.YtidfloikpieggaaGreatP4
set_option maxRecDepth 100000
set_option maxHeartbeats 1600000

namespace Go.Proofs.YtidfloikpieggaaGreat
set_option linter.unusedVariables false
set_option linter.unusedSimpArgs false
open Go.RowKit
section
variable {P : Program} {n : Nat} {ops : Array Oper} {o : Oper} {σ : St} {d : Nat} {t t2 : TypeId} {x y : Operand} {a b : ByteArray}
theorem St1.ltS (h4 : (o.op, o.guard, o.dst, Nat.blt d n) = (Op.binOp .lss t x y t2, none, some d, true)) (hx : ev σ x = some (.o (st1 a))) (hy : ev σ y = some (.o (st1 b))) :
    St1 P n ops o σ (rd x ++ rd y) [.t d] ((.t d, .v (.o (bo1 (sLt a b)))) :: σ) := by
  simp only [Prod.mk.injEq] at h4
  exact St1.bin h4.1 h4.2.1 h4.2.2.1 h4.2.2.2 hx hy (fun w => by simp [eqGuard, binOp, Op.stringOp, sLt]) rfl
theorem St1.gtS (h4 : (o.op, o.guard, o.dst, Nat.blt d n) = (Op.binOp .gtr t x y t2, none, some d, true)) (hx : ev σ x = some (.o (st1 a))) (hy : ev σ y = some (.o (st1 b))) :
    St1 P n ops o σ (rd x ++ rd y) [.t d] ((.t d, .v (.o (bo1 (!(sLt a b || sEq a b))))) :: σ) := by
  simp only [Prod.mk.injEq] at h4
  exact St1.bin h4.1 h4.2.1 h4.2.2.1 h4.2.2.2 hx hy (fun w => by simp [eqGuard, binOp, Op.stringOp, sLt, sEq]) rfl
end

theorem arrOk_eq (a : Arr) : arrOk a = (arrV a.1 && (inB (a.2.length : Nat) 1 2 && !(a.2.any fun n => !dimV n))) := by
  rw [arrOk, inB]
  congr 1
  congr 1
  · rw [decide_eq_decide]; omega
  · rw [List.any_eq_not_all_not, Bool.not_not]; simp

theorem arr1_fn (n : Int) : Fn Tryz.prog 144 [] [nat1 n] (.o (bo1 (!dimV n))) [] := by
  refine Fn.code0 Tryz.func144 rfl rfl rfl rfl ?_
  refine .seq <| .region <| .cons (.asg rfl rfl) <| .nil <| ks_n <| .seq <| .region <| .cons (.mv rfl rfl) <| .cons (.cP [.tmp 3, .const (.int .i64 (1)), .const (.int .i64 (6))] rfl rfl rfl rfl (within_fn _ 1 6) rfl) ?_
  refine .cons (.nt rfl rfl) <| .cons (.asg rfl rfl) <| .nil <| ks_n <| .ret ?_
  refine kf_ret rfl ?_ nobox
  first | rfl | exact leafB (by rw [dimV])

theorem arraysOk_fn (ar : List Arr) (hl : ar.length ≤ 1099511627776) (hq : ∀ x ∈ ar, x.2.length ≤ 1099511627776) : Fn Tryz.prog 95 [] [vD (dRs ar)] (.o (bo1 (arrsV ar))) [] := by
 refine Fn.code0 Tryz.func95 rfl rfl rfl rfl ?_
 refine .seq <| .region <| .cons (.asg rfl rfl) <| .nil <| ks_n <| .seq <| .seq <| .region <| .cons (.mv rfl rfl) <| .cons (.ln 78 2 40 rfl rfl rfl) <| .cons (.mv rfl rfl) <| .nil <| ks_n <| .block ?_
 refine .loopK (fun m σ => (∃ i : Nat, m = ar.length - i ∧ (i ≤ ar.length) ∧ (∀ j, j < i → arrAt ar j = true) ∧ σ = [(.t 0, .v (.o (vD (dRs ar)))), (.t 2, .v (.o (bo1 false))), (.t 5, .v (.o (vD (dRs ar)))), (.t 6, .v (.o (nat1 (ar.length : Nat)))), (.t 7, .v (.o (nat1 (i : Nat))))])) [] ⟨0, rfl, by omega, fun j hj => absurd hj (by omega), rfl⟩ ⟨ks rfl .dt, ks rfl .dt, ks rfl .dt, ks rfl .dt, ks rfl .dt, trivial⟩ ?_
 rintro m σ ⟨i, hm0, hi, hF, rfl⟩
 refine .seq <| .region <| .cons (.ls rfl rfl rfl) <| .nil <| ks_n <| .seq ?_
 refine .cD rfl (fun h8 => ?_) (fun h8 => ?_)
 ·skip
  obtain ⟨x, hx1⟩ : ∃ x_, ar[i]? = some x_ := ⟨_, List.getElem?_eq_getElem (by omega)⟩
  have hA := arrAt_eq hx1
  refine .skip <| ks_n <| .seq <| .block <| .seq <| .region <| .cons (.mv rfl rfl) <| .cons (.xL 78 2 40 rfl rfl rfl rfl rfl) ?_
  refine .cons (.lN 2 rfl rfl rfl) <| .cons (.al 104 [.string ByteArray.empty, .slice none 0 0] rfl rfl rfl) <| .cons (.asg rfl rfl) <| .cons (.sT 2 true rfl rfl rfl rfl rfl rfl rfl) <| .nil <| ks_n <| .seq ?_
  refine ACode.drawK (by kernel_rfl) (by kernel_rfl) ?_
  refine .cons (.fB 0 0 false rfl rfl rfl) <| .cons (.b1 1 rfl rfl rfl rfl rfl rfl) <| .cons (.cP [.tmp 13] rfl rfl rfl rfl (isArray_fn _) rfl) ?_
  refine .cons (.nt rfl rfl) <| .cons (.mv rfl rfl) ?_
  refine RunK.cases 16 _ rfl (fun g16 => ?_) (fun g16 => ?_)
  ·try simp only [zs1, zs2, zs3, zs4, zs5, zs6, zs7] at g16
   refine .cons (.gF rfl rfl rfl) <| .cons (.gF rfl rfl rfl) <| .cons (.gF rfl rfl rfl) <| .cons (.gU rfl rfl) <| .cons (.gU rfl rfl) <| .cons (.gU rfl rfl) <| .cons (.gU rfl rfl) <| .cons (.gU rfl rfl) <| .cons (.gU rfl rfl) <| .cons (.gU rfl rfl) <| .cons (.gU rfl rfl) <| .cons (.gU rfl rfl) <| .cons (.gF rfl rfl rfl) <| .cons (.pT rfl rfl rfl) <| .cons (.mv rfl rfl) <| .cons (.gF rfl rfl rfl) <| .cons (.gF rfl rfl rfl) <| .cons (.gF rfl rfl rfl) <| .cons (.gF rfl rfl rfl) <| .cons (.gF rfl rfl rfl) <| .cons (.pT rfl rfl rfl) <| .cons (.mv rfl rfl) <| .cons (.gF rfl rfl rfl) <| .cons (.gF rfl rfl rfl) <| .cons (.gF rfl rfl rfl) <| .cons (.pT rfl rfl rfl) ?_
   refine .nil ⟨by kernel_rfl, ?_⟩
   refine ks_n ?_
   refine ACode.condT rfl (fun _ => ?_) (fun h => by first | (cases h; done) | (simp [*] at h; done) | (exfalso; simp_all; done))
   refine .seq <| .region <| .cons (.asg rfl rfl) <| .nil <| ks_n <| .ret <| kb_r <| ks_r <| kl_r <| kb_r <| ks_r ?_
   refine kf_ret rfl ?_ nobox
   exact leafB (arrsV_bad (i := i) (by omega) (by rw [hA, arrOk_eq]; first | (simp_all; done) | (simp_all; omega) | grind)).symm
  ·try simp only [zs1, zs2, zs3, zs4, zs5, zs6, zs7] at g16
   refine .cons (.gT rfl rfl rfl (.mv rfl rfl)) <| .cons (.gT rfl rfl rfl (.gt rfl rfl rfl)) <| .cons (.gT rfl rfl rfl (.mv rfl rfl)) ?_
   refine .cD 19 rfl (fun g19 => ?_) (fun g19 => ?_)
   ·skip
    obtain ⟨y, hy1⟩ : ∃ x_, ar[i - 1]? = some x_ := ⟨_, List.getElem?_eq_getElem (by omega)⟩
    have hB := lastV_eq (a := x) hy1
    refine .cons (.gT rfl rfl rfl (.mv rfl rfl)) <| .cons (.gT rfl rfl rfl (.mv rfl rfl)) <| .cons (.gT rfl rfl rfl (.sb rfl rfl rfl)) <| .cons (.gT rfl rfl rfl (.xL 78 2 40 (i := (i - 1)) rfl rfl rfl rfl (by omega) (map_at hy1))) ?_
    refine .cons (.gT rfl rfl rfl (.fP 0 0 false rfl rfl)) <| .cons (.gT rfl rfl rfl (.l1 1 rfl rfl)) <| .cons (.gT rfl rfl rfl (.fB 0 0 false rfl rfl rfl)) <| .cons (.gT rfl rfl rfl (.b1 1 rfl rfl rfl rfl rfl rfl)) <| .cons (.gT rfl rfl rfl (St1.geS rfl rfl rfl)) <| .cons (.gT rfl rfl rfl (.pT rfl rfl rfl)) <| .cons (.pF rfl rfl rfl) <| .cons (.mv rfl rfl) ?_
    refine RunK.cases 31 _ rfl (fun g31 => ?_) (fun g31 => ?_)
    ·try simp only [zs1, zs2, zs3, zs4, zs5, zs6, zs7] at g31
     refine .cons (.gF rfl rfl rfl) <| .cons (.gF rfl rfl rfl) <| .cons (.gF rfl rfl rfl) <| .cons (.gF rfl rfl rfl) <| .cons (.gF rfl rfl rfl) <| .cons (.pT rfl rfl rfl) <| .cons (.mv rfl rfl) <| .cons (.gF rfl rfl rfl) <| .cons (.gF rfl rfl rfl) <| .cons (.gF rfl rfl rfl) <| .cons (.pT rfl rfl rfl) ?_
     refine .nil ⟨by kernel_rfl, ?_⟩
     refine ks_n ?_
     refine ACode.condT rfl (fun _ => ?_) (fun h => by first | (cases h; done) | (simp [*] at h; done) | (exfalso; simp_all; done))
     refine .seq <| .region <| .cons (.asg rfl rfl) <| .nil <| ks_n <| .ret <| kb_r <| ks_r <| kl_r <| kb_r <| ks_r ?_
     refine kf_ret rfl ?_ nobox
     exact leafB (arrsV_bad (i := i) (by omega) (by rw [hA, arrOk_eq]; first | (simp_all; done) | (simp_all; omega) | grind)).symm
    ·try simp only [zs1, zs2, zs3, zs4, zs5, zs6, zs7] at g31
     refine .cons (.gT rfl rfl rfl (.fB 1 0 false rfl rfl rfl)) <| .cons (.gT rfl rfl rfl (.b1 1 rfl rfl rfl rfl rfl rfl)) <| .cons (.gT rfl rfl rfl (.ln 3 1 8 rfl rfl rfl)) <| .cons (.gT rfl rfl rfl (.cP [.tmp 34, .const (.int .i64 (1)), .const (.int .i64 (2))] rfl rfl rfl rfl (within_fn _ 1 2) rfl)) ?_
     refine .cons (.gT rfl rfl rfl (.nt rfl rfl)) <| .cons (.pF rfl rfl rfl) <| .cons (.mv rfl rfl) ?_
     refine RunK.cases 38 _ rfl (fun g38 => ?_) (fun g38 => ?_)
     ·try simp only [zs1, zs2, zs3, zs4, zs5, zs6, zs7] at g38
      refine .cons (.gF rfl rfl rfl) <| .cons (.gF rfl rfl rfl) <| .cons (.gF rfl rfl rfl) <| .cons (.pT rfl rfl rfl) ?_
      refine .nil ⟨by kernel_rfl, ?_⟩
      refine ks_n ?_
      refine ACode.condT rfl (fun _ => ?_) (fun h => by first | (cases h; done) | (simp [*] at h; done) | (exfalso; simp_all; done))
      refine .seq <| .region <| .cons (.asg rfl rfl) <| .nil <| ks_n <| .ret <| kb_r <| ks_r <| kl_r <| kb_r <| ks_r ?_
      refine kf_ret rfl ?_ nobox
      exact leafB (arrsV_bad (i := i) (by omega) (by rw [hA, arrOk_eq]; first | (simp_all; done) | (simp_all; omega) | grind)).symm
     ·try simp only [zs1, zs2, zs3, zs4, zs5, zs6, zs7] at g38
      refine .cons (.gT rfl rfl rfl (.fB 1 0 false rfl rfl rfl)) <| .cons (.gT rfl rfl rfl (.b1 1 rfl rfl rfl rfl rfl rfl)) <| .cons (.gT rfl rfl rfl (.cP [.tmp 40, .func 144] rfl rfl rfl rfl (cnt_int (f := 144) (cap := []) (by kernel_rfl) (fun n => !dimV n) x.2 (hq x (List.mem_of_getElem? hx1)) (fun n _ => arr1_fn n)) rfl)) ?_
      refine .cons (.pF rfl rfl rfl) ?_
      refine .nil ⟨by kernel_rfl, ?_⟩
      refine ks_n ?_
      refine ACode.condT rfl (fun h42 => ?_) (fun h42 => ?_)
      ·try simp only [zs1, zs2, zs3, zs4, zs5, zs6, zs7] at h42
       refine .seq <| .region <| .cons (.asg rfl rfl) <| .nil <| ks_n <| .ret <| kb_r <| ks_r <| kl_r <| kb_r <| ks_r ?_
       refine kf_ret rfl ?_ nobox
       exact leafB (arrsV_bad (i := i) (by omega) (by rw [hA, arrOk_eq]; first | (simp_all; done) | (simp_all; omega) | grind)).symm
      ·try simp only [zs1, zs2, zs3, zs4, zs5, zs6, zs7] at h42
       refine .skip <| kb_n <| ks_n <| .region <| .cons (.pl rfl rfl rfl) <| .cons (.mv rfl rfl) <| .nil ?_
       refine kl_k [] ⟨i + 1, rfl, by omega, fun j hj => by exact (Nat.lt_succ_iff_lt_or_eq.1 hj).elim (fun h => hF j h) (fun h => by rw [h, hA, arrOk_eq]; first | (simp_all; done) | (simp_all; omega) | grind), rfl⟩ ⟨ks rfl .dt, ks rfl .dt, ks rfl .dt, ks rfl .dt, ks rfl .dt, trivial⟩
   ·skip
    have hB0 : i = 0 := by omega
    refine .cons (.gF rfl rfl rfl) <| .cons (.gF rfl rfl rfl) <| .cons (.gF rfl rfl rfl) <| .cons (.gF rfl rfl rfl) <| .cons (.gF rfl rfl rfl) <| .cons (.gF rfl rfl rfl) <| .cons (.gF rfl rfl rfl) <| .cons (.gF rfl rfl rfl) <| .cons (.gF rfl rfl rfl) <| .cons (.gT rfl rfl rfl (.pF rfl rfl rfl)) <| .cons (.pF rfl rfl rfl) <| .cons (.mv rfl rfl) <| .cons (.gT rfl rfl rfl (.fB 1 0 false rfl rfl rfl)) <| .cons (.gT rfl rfl rfl (.b1 1 rfl rfl rfl rfl rfl rfl)) <| .cons (.gT rfl rfl rfl (.ln 3 1 8 rfl rfl rfl)) <| .cons (.gT rfl rfl rfl (.cP [.tmp 34, .const (.int .i64 (1)), .const (.int .i64 (2))] rfl rfl rfl rfl (within_fn _ 1 2) rfl)) ?_
    refine .cons (.gT rfl rfl rfl (.nt rfl rfl)) <| .cons (.pF rfl rfl rfl) <| .cons (.mv rfl rfl) ?_
    refine RunK.cases 38 _ rfl (fun g38 => ?_) (fun g38 => ?_)
    ·try simp only [zs1, zs2, zs3, zs4, zs5, zs6, zs7] at g38
     refine .cons (.gF rfl rfl rfl) <| .cons (.gF rfl rfl rfl) <| .cons (.gF rfl rfl rfl) <| .cons (.pT rfl rfl rfl) ?_
     refine .nil ⟨by kernel_rfl, ?_⟩
     refine ks_n ?_
     refine ACode.condT rfl (fun _ => ?_) (fun h => by first | (cases h; done) | (simp [*] at h; done) | (exfalso; simp_all; done))
     refine .seq <| .region <| .cons (.asg rfl rfl) <| .nil <| ks_n <| .ret <| kb_r <| ks_r <| kl_r <| kb_r <| ks_r ?_
     refine kf_ret rfl ?_ nobox
     exact leafB (arrsV_bad (i := i) (by omega) (by rw [hA, arrOk_eq]; first | (simp_all; done) | (simp_all; omega) | grind)).symm
    ·try simp only [zs1, zs2, zs3, zs4, zs5, zs6, zs7] at g38
     refine .cons (.gT rfl rfl rfl (.fB 1 0 false rfl rfl rfl)) <| .cons (.gT rfl rfl rfl (.b1 1 rfl rfl rfl rfl rfl rfl)) <| .cons (.gT rfl rfl rfl (.cP [.tmp 40, .func 144] rfl rfl rfl rfl (cnt_int (f := 144) (cap := []) (by kernel_rfl) (fun n => !dimV n) x.2 (hq x (List.mem_of_getElem? hx1)) (fun n _ => arr1_fn n)) rfl)) ?_
     refine .cons (.pF rfl rfl rfl) ?_
     refine .nil ⟨by kernel_rfl, ?_⟩
     refine ks_n ?_
     refine ACode.condT rfl (fun h42 => ?_) (fun h42 => ?_)
     ·try simp only [zs1, zs2, zs3, zs4, zs5, zs6, zs7] at h42
      refine .seq <| .region <| .cons (.asg rfl rfl) <| .nil <| ks_n <| .ret <| kb_r <| ks_r <| kl_r <| kb_r <| ks_r ?_
      refine kf_ret rfl ?_ nobox
      exact leafB (arrsV_bad (i := i) (by omega) (by rw [hA, arrOk_eq]; first | (simp_all; done) | (simp_all; omega) | grind)).symm
     ·try simp only [zs1, zs2, zs3, zs4, zs5, zs6, zs7] at h42
      refine .skip <| kb_n <| ks_n <| .region <| .cons (.pl rfl rfl rfl) <| .cons (.mv rfl rfl) <| .nil ?_
      refine kl_k [] ⟨i + 1, rfl, by omega, fun j hj => by exact (Nat.lt_succ_iff_lt_or_eq.1 hj).elim (fun h => hF j h) (fun h => by rw [h, hA, arrOk_eq]; first | (simp_all; done) | (simp_all; omega) | grind), rfl⟩ ⟨ks rfl .dt, ks rfl .dt, ks rfl .dt, ks rfl .dt, ks rfl .dt, trivial⟩
 ·skip
  refine .exit <| ks_e <| kl_e <| kb_hit <| ks_n <| .seq <| .region <| .cons (.mv rfl rfl) <| .cons (.ln 78 2 40 rfl rfl rfl) <| .cons (.le rfl rfl rfl) <| .cons (.asg rfl rfl) <| .nil <| ks_n <| .ret ?_
  refine kf_ret rfl ?_ nobox
  exact leafB (by rw [arrsV_end fun j hj => hF j (by omega)]; rw [decide_eq_decide]; omega)

theorem l4Arrays_fn (ar : List Arr) (hl : ar.length ≤ 1099511627776) (hq : ∀ x ∈ ar, x.2.length ≤ 1099511627776) : Fn Tryz.prog 86 [] [vD (dRs ar)] (.o (bo1 (arrsV ar))) [] := by
 refine Fn.code0 Tryz.func86 rfl rfl rfl rfl ?_
 refine .seq <| .region <| .cons (.asg rfl rfl) <| .nil <| ks_n <| .seq <| .seq <| .region <| .cons (.asg rfl rfl) <| .nil <| ks_n <| .block ?_
 refine .loopK (fun m σ => (∃ i : Nat, m = ar.length - i ∧ (i ≤ ar.length) ∧ (∀ j, j < i → arrAt ar j = true) ∧ σ = [(.t 0, .v (.o (vD (dRs ar)))), (.t 2, .v (.o (bo1 false))), (.t 3, .v (.o (nat1 (i : Nat))))])) [] ⟨0, rfl, by omega, fun j hj => absurd hj (by omega), rfl⟩ ⟨ks rfl .dt, ks rfl .dt, ks rfl .dt, trivial⟩ ?_
 rintro m σ ⟨i, hm0, hi, hF, rfl⟩
 refine .seq <| .seq <| .region <| .cons (.mv rfl rfl) <| .cons (.mv rfl rfl) <| .cons (.ln 78 2 40 rfl rfl rfl) <| .cons (.ls rfl rfl rfl) <| .nil <| ks_n ?_
 refine .cD rfl (fun h9 => ?_) (fun h9 => ?_)
 ·skip
  obtain ⟨x, hx1⟩ : ∃ x_, ar[i]? = some x_ := ⟨_, List.getElem?_eq_getElem (by omega)⟩
  have hA := arrAt_eq hx1
  have hxl := hq x (List.mem_of_getElem? hx1)
  refine .skip <| ks_n <| .seq <| .block <| .seq <| .region <| .cons (.mv rfl rfl) <| .cons (.mv rfl rfl) <| .cons (.xL 78 2 40 rfl rfl rfl rfl rfl) ?_
  refine .cons (.lN 2 rfl rfl rfl) <| .cons (.al 104 [.string ByteArray.empty, .slice none 0 0] rfl rfl rfl) <| .cons (.sT 2 true rfl rfl rfl rfl rfl rfl rfl) <| .nil <| ks_n <| .seq <| .seq ?_
  refine ACode.drawK (by kernel_rfl) (by kernel_rfl) ?_
  refine .cons (.fB 0 0 false rfl rfl rfl) <| .cons (.b1 1 rfl rfl rfl rfl rfl rfl) <| .cons (St1.lenS rfl rfl rfl rfl rfl (by kernel_rfl) rfl) ?_
  refine .cons (.ne rfl rfl rfl) <| .cons (.mv rfl rfl) ?_
  refine .cND 20 rfl (fun g20 => ?_) (fun g20 => ?_)
  ·skip
   have hAr := arrV_size (s := x.1) (by omega)
   refine .cons (.gF rfl rfl rfl) <| .cons (.gF rfl rfl rfl) <| .cons (.gF rfl rfl rfl) <| .cons (.pT rfl rfl rfl) <| .cons (.mv rfl rfl) <| .cons (.gF rfl rfl rfl) <| .cons (.gF rfl rfl rfl) <| .cons (.gF rfl rfl rfl) <| .cons (.pT rfl rfl rfl) <| .cons (.mv rfl rfl) <| .cons (.gF rfl rfl rfl) <| .cons (.gF rfl rfl rfl) <| .cons (.gF rfl rfl rfl) <| .cons (.gU rfl rfl) <| .cons (.gU rfl rfl) <| .cons (.gU rfl rfl) <| .cons (.gU rfl rfl) <| .cons (.gU rfl rfl) <| .cons (.gU rfl rfl) <| .cons (.gU rfl rfl) <| .cons (.gU rfl rfl) <| .cons (.gU rfl rfl) <| .cons (.gF rfl rfl rfl) <| .cons (.pT rfl rfl rfl) <| .cons (.mv rfl rfl) <| .cons (.gF rfl rfl rfl) <| .cons (.gF rfl rfl rfl) <| .cons (.gF rfl rfl rfl) <| .cons (.gF rfl rfl rfl) <| .cons (.pT rfl rfl rfl) <| .cons (.mv rfl rfl) <| .cons (.gF rfl rfl rfl) <| .cons (.gF rfl rfl rfl) <| .cons (.gF rfl rfl rfl) <| .cons (.gF rfl rfl rfl) <| .cons (.pT rfl rfl rfl) ?_
   refine .nil ⟨by kernel_rfl, ?_⟩
   refine ks_n ?_
   refine ACode.condT rfl (fun _ => ?_) (fun h => by first | (cases h; done) | (simp [*] at h; done) | (exfalso; simp_all; done))
   refine .seq <| .region <| .cons (.asg rfl rfl) <| .nil <| ks_n <| .ret <| ks_r <| kb_r <| ks_r <| kl_r <| kb_r <| ks_r ?_
   refine kf_ret rfl ?_ nobox
   exact leafB (arrsV_bad (i := i) (by omega) (by rw [hA, arrOk]; rw [hAr] at *; first | (simp_all; done) | (simp_all; omega) | grind)).symm
  ·skip
   have hAr := arr_leaf (s := x.1) (by omega)
   refine .cons (.gT rfl rfl rfl (.fB 0 0 false rfl rfl rfl)) <| .cons (.gT rfl rfl rfl (.b1 1 rfl rfl rfl rfl rfl rfl)) <| .cons (.gT rfl rfl rfl (St1.ltS rfl rfl rfl)) <| .cons (.pF rfl rfl rfl) <| .cons (.mv rfl rfl) ?_
   refine RunK.cases 25 _ rfl (fun g25 => ?_) (fun g25 => ?_)
   ·try simp only [zs1, zs2, zs3, zs4, zs5, zs6, zs7] at g25
    refine .cons (.gF rfl rfl rfl) <| .cons (.gF rfl rfl rfl) <| .cons (.gF rfl rfl rfl) <| .cons (.pT rfl rfl rfl) <| .cons (.mv rfl rfl) <| .cons (.gF rfl rfl rfl) <| .cons (.gF rfl rfl rfl) <| .cons (.gF rfl rfl rfl) <| .cons (.gU rfl rfl) <| .cons (.gU rfl rfl) <| .cons (.gU rfl rfl) <| .cons (.gU rfl rfl) <| .cons (.gU rfl rfl) <| .cons (.gU rfl rfl) <| .cons (.gU rfl rfl) <| .cons (.gU rfl rfl) <| .cons (.gU rfl rfl) <| .cons (.gF rfl rfl rfl) <| .cons (.pT rfl rfl rfl) <| .cons (.mv rfl rfl) <| .cons (.gF rfl rfl rfl) <| .cons (.gF rfl rfl rfl) <| .cons (.gF rfl rfl rfl) <| .cons (.gF rfl rfl rfl) <| .cons (.pT rfl rfl rfl) <| .cons (.mv rfl rfl) <| .cons (.gF rfl rfl rfl) <| .cons (.gF rfl rfl rfl) <| .cons (.gF rfl rfl rfl) <| .cons (.gF rfl rfl rfl) <| .cons (.pT rfl rfl rfl) ?_
    refine .nil ⟨by kernel_rfl, ?_⟩
    refine ks_n ?_
    refine ACode.condT rfl (fun _ => ?_) (fun h => by first | (cases h; done) | (simp [*] at h; done) | (exfalso; simp_all; done))
    refine .seq <| .region <| .cons (.asg rfl rfl) <| .nil <| ks_n <| .ret <| ks_r <| kb_r <| ks_r <| kl_r <| kb_r <| ks_r ?_
    refine kf_ret rfl ?_ nobox
    exact leafB (arrsV_bad (i := i) (by omega) (by rw [hA, arrOk]; rw [hAr] at *; first | (simp_all; done) | (simp_all; omega) | grind)).symm
   ·try simp only [zs1, zs2, zs3, zs4, zs5, zs6, zs7] at g25
    refine .cons (.gT rfl rfl rfl (.fB 0 0 false rfl rfl rfl)) <| .cons (.gT rfl rfl rfl (.b1 1 rfl rfl rfl rfl rfl rfl)) <| .cons (.gT rfl rfl rfl (St1.gtS rfl rfl rfl)) <| .cons (.pF rfl rfl rfl) <| .cons (.mv rfl rfl) ?_
    refine RunK.cases 30 _ rfl (fun g30 => ?_) (fun g30 => ?_)
    ·try simp only [zs1, zs2, zs3, zs4, zs5, zs6, zs7] at g30
     refine .cons (.gF rfl rfl rfl) <| .cons (.gF rfl rfl rfl) <| .cons (.gF rfl rfl rfl) <| .cons (.gU rfl rfl) <| .cons (.gU rfl rfl) <| .cons (.gU rfl rfl) <| .cons (.gU rfl rfl) <| .cons (.gU rfl rfl) <| .cons (.gU rfl rfl) <| .cons (.gU rfl rfl) <| .cons (.gU rfl rfl) <| .cons (.gU rfl rfl) <| .cons (.gF rfl rfl rfl) <| .cons (.pT rfl rfl rfl) <| .cons (.mv rfl rfl) <| .cons (.gF rfl rfl rfl) <| .cons (.gF rfl rfl rfl) <| .cons (.gF rfl rfl rfl) <| .cons (.gF rfl rfl rfl) <| .cons (.pT rfl rfl rfl) <| .cons (.mv rfl rfl) <| .cons (.gF rfl rfl rfl) <| .cons (.gF rfl rfl rfl) <| .cons (.gF rfl rfl rfl) <| .cons (.gF rfl rfl rfl) <| .cons (.pT rfl rfl rfl) ?_
     refine .nil ⟨by kernel_rfl, ?_⟩
     refine ks_n ?_
     refine ACode.condT rfl (fun _ => ?_) (fun h => by first | (cases h; done) | (simp [*] at h; done) | (exfalso; simp_all; done))
     refine .seq <| .region <| .cons (.asg rfl rfl) <| .nil <| ks_n <| .ret <| ks_r <| kb_r <| ks_r <| kl_r <| kb_r <| ks_r ?_
     refine kf_ret rfl ?_ nobox
     exact leafB (arrsV_bad (i := i) (by omega) (by rw [hA, arrOk]; rw [hAr] at *; first | (simp_all; done) | (simp_all; omega) | grind)).symm
    ·try simp only [zs1, zs2, zs3, zs4, zs5, zs6, zs7] at g30
     refine .cons (.gT rfl rfl rfl (.mv rfl rfl)) <| .cons (.gT rfl rfl rfl (.gt rfl rfl rfl)) <| .cons (.gT rfl rfl rfl (.mv rfl rfl)) ?_
     refine .cD 33 rfl (fun g33 => ?_) (fun g33 => ?_)
     ·skip
      obtain ⟨y, hy1⟩ : ∃ x_, ar[i - 1]? = some x_ := ⟨_, List.getElem?_eq_getElem (by omega)⟩
      have hB := lastV_eq (a := x) hy1
      refine .cons (.gT rfl rfl rfl (.mv rfl rfl)) <| .cons (.gT rfl rfl rfl (.mv rfl rfl)) <| .cons (.gT rfl rfl rfl (.sb rfl rfl rfl)) <| .cons (.gT rfl rfl rfl (.xL 78 2 40 (i := (i - 1)) rfl rfl rfl rfl (by omega) (map_at hy1))) ?_
      refine .cons (.gT rfl rfl rfl (.fP 0 0 false rfl rfl)) <| .cons (.gT rfl rfl rfl (.l1 1 rfl rfl)) <| .cons (.gT rfl rfl rfl (.fB 0 0 false rfl rfl rfl)) <| .cons (.gT rfl rfl rfl (.b1 1 rfl rfl rfl rfl rfl rfl)) <| .cons (.gT rfl rfl rfl (St1.geS rfl rfl rfl)) <| .cons (.gT rfl rfl rfl (.pT rfl rfl rfl)) <| .cons (.pF rfl rfl rfl) <| .cons (.mv rfl rfl) ?_
      refine RunK.cases 45 _ rfl (fun g45 => ?_) (fun g45 => ?_)
      ·try simp only [zs1, zs2, zs3, zs4, zs5, zs6, zs7] at g45
       refine .cons (.gF rfl rfl rfl) <| .cons (.gF rfl rfl rfl) <| .cons (.gF rfl rfl rfl) <| .cons (.gF rfl rfl rfl) <| .cons (.pT rfl rfl rfl) <| .cons (.mv rfl rfl) <| .cons (.gF rfl rfl rfl) <| .cons (.gF rfl rfl rfl) <| .cons (.gF rfl rfl rfl) <| .cons (.gF rfl rfl rfl) <| .cons (.pT rfl rfl rfl) ?_
       refine .nil ⟨by kernel_rfl, ?_⟩
       refine ks_n ?_
       refine ACode.condT rfl (fun _ => ?_) (fun h => by first | (cases h; done) | (simp [*] at h; done) | (exfalso; simp_all; done))
       refine .seq <| .region <| .cons (.asg rfl rfl) <| .nil <| ks_n <| .ret <| ks_r <| kb_r <| ks_r <| kl_r <| kb_r <| ks_r ?_
       refine kf_ret rfl ?_ nobox
       exact leafB (arrsV_bad (i := i) (by omega) (by rw [hA, arrOk]; rw [hAr] at *; first | (simp_all; done) | (simp_all; omega) | grind)).symm
      ·try simp only [zs1, zs2, zs3, zs4, zs5, zs6, zs7] at g45
       refine .cons (.gT rfl rfl rfl (.fB 1 0 false rfl rfl rfl)) <| .cons (.gT rfl rfl rfl (.b1 1 rfl rfl rfl rfl rfl rfl)) <| .cons (.gT rfl rfl rfl (.ln 3 1 8 rfl rfl rfl)) <| .cons (.gT rfl rfl rfl (.ls rfl rfl rfl)) <| .cons (.pF rfl rfl rfl) <| .cons (.mv rfl rfl) ?_
       refine RunK.cases 51 _ rfl (fun g51 => ?_) (fun g51 => ?_)
       ·try simp only [zs1, zs2, zs3, zs4, zs5, zs6, zs7] at g51
        refine .cons (.gF rfl rfl rfl) <| .cons (.gF rfl rfl rfl) <| .cons (.gF rfl rfl rfl) <| .cons (.gF rfl rfl rfl) <| .cons (.pT rfl rfl rfl) ?_
        refine .nil ⟨by kernel_rfl, ?_⟩
        refine ks_n ?_
        refine ACode.condT rfl (fun _ => ?_) (fun h => by first | (cases h; done) | (simp [*] at h; done) | (exfalso; simp_all; done))
        refine .seq <| .region <| .cons (.asg rfl rfl) <| .nil <| ks_n <| .ret <| ks_r <| kb_r <| ks_r <| kl_r <| kb_r <| ks_r ?_
        refine kf_ret rfl ?_ nobox
        exact leafB (arrsV_bad (i := i) (by omega) (by rw [hA, arrOk]; rw [hAr] at *; first | (simp_all; done) | (simp_all; omega) | grind)).symm
       ·try simp only [zs1, zs2, zs3, zs4, zs5, zs6, zs7] at g51
        refine .cons (.gT rfl rfl rfl (.fB 1 0 false rfl rfl rfl)) <| .cons (.gT rfl rfl rfl (.b1 1 rfl rfl rfl rfl rfl rfl)) <| .cons (.gT rfl rfl rfl (.ln 3 1 8 rfl rfl rfl)) <| .cons (.gT rfl rfl rfl (.gt rfl rfl rfl)) <| .cons (.pF rfl rfl rfl) ?_
        refine .nil ⟨by kernel_rfl, ?_⟩
        refine ks_n ?_
        refine ACode.condT rfl (fun h56 => ?_) (fun h56 => ?_)
        ·try simp only [zs1, zs2, zs3, zs4, zs5, zs6, zs7] at h56
         refine .seq <| .region <| .cons (.asg rfl rfl) <| .nil <| ks_n <| .ret <| ks_r <| kb_r <| ks_r <| kl_r <| kb_r <| ks_r ?_
         refine kf_ret rfl ?_ nobox
         exact leafB (arrsV_bad (i := i) (by omega) (by rw [hA, arrOk]; rw [hAr] at *; first | (simp_all; done) | (simp_all; omega) | grind)).symm
        ·try simp only [zs1, zs2, zs3, zs4, zs5, zs6, zs7] at h56
         refine .skip <| ks_n <| .seq <| .region <| .cons (.asg rfl rfl) <| .nil <| ks_n <| .block ?_
         refine .loopK (fun m σ => (∃ k : Nat, m = x.2.length - k ∧ (k ≤ x.2.length) ∧ (x.2.all dimV = (x.2.drop k).all dimV) ∧ σ = [(.t 0, .v (.o (vD (dRs ar)))), (.t 2, .v (.o (bo1 false))), (.t 3, .v (.o (nat1 (i : Nat)))), (.t 4, .v (.o (.c (.ptr (rR x))))), (.t 5, .v (.o (nat1 (k : Nat))))])) [] ⟨0, rfl, by omega, rfl, rfl⟩ ⟨ks rfl .dt, ks rfl .dt, ks rfl .dt, ks rfl (.c (.frzP _ _ _ _ _ _ _ _ rfl (show _ = dR [rR x] from rfl) rfl rfl rfl)), ks rfl .dt, trivial⟩ ?_
         rintro m σ ⟨k, hm0, hk, hG, rfl⟩
         refine .seq <| .seq <| .region <| .cons (.mv rfl rfl) <| .cons (.fP 1 0 false rfl rfl) <| .cons (.l1 1 rfl rfl) <| .cons (.ln 3 1 8 rfl rfl rfl) <| .cons (.ls rfl rfl rfl) <| .nil <| ks_n ?_
         refine .cD rfl (fun h61 => ?_) (fun h61 => ?_)
         ·skip
          obtain ⟨d, hd1⟩ : ∃ x_, x.2[k]? = some x_ := ⟨_, List.getElem?_eq_getElem (by omega)⟩
          refine .skip <| ks_n <| .seq <| .block <| .seq <| .region <| .cons (.fP 1 0 false rfl rfl) <| .cons (.l1 1 rfl rfl) <| .cons (.mv rfl rfl) <| .cons (.xL 3 1 8 rfl rfl rfl rfl rfl) ?_
          refine .cons (.l1 1 rfl rfl) <| .cons (.ls rfl rfl rfl) <| .cons (.mv rfl rfl) ?_
          refine .cD 70 rfl (fun g70 => ?_) (fun g70 => ?_)
          ·skip
           refine .cons (.gF rfl rfl rfl) <| .cons (.gF rfl rfl rfl) <| .cons (.gF rfl rfl rfl) <| .cons (.gF rfl rfl rfl) <| .cons (.gF rfl rfl rfl) <| .cons (.gF rfl rfl rfl) <| .cons (.pT rfl rfl rfl) <| .nil <| ks_n ?_
           refine ACode.condT rfl (fun _ => ?_) (fun h => by first | (cases h; done) | (simp [*] at h; done) | (exfalso; simp_all; done))
           refine .seq ?_
           have hdv : dimV d = false := decide_eq_false (by omega)
           have hD : x.2.all dimV = false := by rw [hG, all_drop hd1, hdv, Bool.false_and]
           refine .region <| .cons (.asg rfl rfl) <| .nil <| ks_n <| .ret <| kb_r <| ks_r <| kl_r <| kb_r <| kb_r <| ks_r <| kl_r <| kb_r <| ks_r ?_
           refine kf_ret rfl ?_ nobox
           exact leafB (arrsV_bad (i := i) (by omega) (by rw [hA, arrOk, hD, Bool.and_false, Bool.and_false, Bool.false_and])).symm
          ·skip
           refine .cons (.gT rfl rfl rfl (.fP 1 0 false rfl rfl)) <| .cons (.gT rfl rfl rfl (.l1 1 rfl rfl)) <| .cons (.gT rfl rfl rfl (.mv rfl rfl)) <| .cons (.gT rfl rfl rfl (.xL 3 1 8 rfl rfl rfl rfl rfl)) ?_
           refine .cons (.gT rfl rfl rfl (.l1 1 rfl rfl)) <| .cons (.gT rfl rfl rfl (.gt rfl rfl rfl)) <| .cons (.pF rfl rfl rfl) <| .nil <| ks_n ?_
           refine ACode.condT rfl (fun h77 => ?_) (fun h77 => ?_)
           ·try simp only [zs1, zs2, zs3, zs4, zs5, zs6, zs7] at h77
            refine .seq ?_
            have hdv : dimV d = false := decide_eq_false (by omega)
            have hD : x.2.all dimV = false := by rw [hG, all_drop hd1, hdv, Bool.false_and]
            refine .region <| .cons (.asg rfl rfl) <| .nil <| ks_n <| .ret <| kb_r <| ks_r <| kl_r <| kb_r <| kb_r <| ks_r <| kl_r <| kb_r <| ks_r ?_
            refine kf_ret rfl ?_ nobox
            exact leafB (arrsV_bad (i := i) (by omega) (by rw [hA, arrOk, hD, Bool.and_false, Bool.and_false, Bool.false_and])).symm
           ·try simp only [zs1, zs2, zs3, zs4, zs5, zs6, zs7] at h77
            have hdv : dimV d = true := decide_eq_true (by omega)
            refine .skip <| kb_n <| ks_n <| .region <| .cons (.mv rfl rfl) <| .cons (.pl rfl rfl rfl) <| .cons (.asg rfl rfl) <| .nil ?_
            refine kl_k [] ⟨k + 1, rfl, by omega, by rw [hG, all_drop hd1, hdv, Bool.true_and], rfl⟩ ⟨ks rfl .dt, ks rfl .dt, ks rfl .dt, ks rfl .dt, ks rfl .dt, trivial⟩
         ·skip
          have hD : x.2.all dimV = true := by rw [hG, List.drop_of_length_le (by omega)]; rfl
          refine .exit <| ks_e <| kl_e <| kb_hit <| kb_n <| ks_n <| .region <| .cons (.mv rfl rfl) <| .cons (.pl rfl rfl rfl) <| .cons (.asg rfl rfl) <| .nil ?_
          refine kl_k [] ⟨i + 1, rfl, by omega, fun j hj => (Nat.lt_succ_iff_lt_or_eq.1 hj).elim (fun h => hF j h) (fun h => by rw [h, hA, arrOk, hD]; rw [hAr] at *; first | (simp_all; done) | (simp_all; omega) | grind), rfl⟩ ⟨ks rfl .dt, ks rfl .dt, ks rfl .dt, trivial⟩
     ·skip
      have hB0 : i = 0 := by omega
      refine .cons (.gF rfl rfl rfl) <| .cons (.gF rfl rfl rfl) <| .cons (.gF rfl rfl rfl) <| .cons (.gF rfl rfl rfl) <| .cons (.gF rfl rfl rfl) <| .cons (.gF rfl rfl rfl) <| .cons (.gF rfl rfl rfl) <| .cons (.gF rfl rfl rfl) <| .cons (.gF rfl rfl rfl) <| .cons (.gT rfl rfl rfl (.pF rfl rfl rfl)) <| .cons (.pF rfl rfl rfl) <| .cons (.mv rfl rfl) <| .cons (.gT rfl rfl rfl (.fB 1 0 false rfl rfl rfl)) <| .cons (.gT rfl rfl rfl (.b1 1 rfl rfl rfl rfl rfl rfl)) <| .cons (.gT rfl rfl rfl (.ln 3 1 8 rfl rfl rfl)) <| .cons (.gT rfl rfl rfl (.ls rfl rfl rfl)) <| .cons (.pF rfl rfl rfl) <| .cons (.mv rfl rfl) ?_
      refine RunK.cases 51 _ rfl (fun g51 => ?_) (fun g51 => ?_)
      ·try simp only [zs1, zs2, zs3, zs4, zs5, zs6, zs7] at g51
       refine .cons (.gF rfl rfl rfl) <| .cons (.gF rfl rfl rfl) <| .cons (.gF rfl rfl rfl) <| .cons (.gF rfl rfl rfl) <| .cons (.pT rfl rfl rfl) ?_
       refine .nil ⟨by kernel_rfl, ?_⟩
       refine ks_n ?_
       refine ACode.condT rfl (fun _ => ?_) (fun h => by first | (cases h; done) | (simp [*] at h; done) | (exfalso; simp_all; done))
       refine .seq <| .region <| .cons (.asg rfl rfl) <| .nil <| ks_n <| .ret <| ks_r <| kb_r <| ks_r <| kl_r <| kb_r <| ks_r ?_
       refine kf_ret rfl ?_ nobox
       exact leafB (arrsV_bad (i := i) (by omega) (by rw [hA, arrOk]; rw [hAr] at *; first | (simp_all; done) | (simp_all; omega) | grind)).symm
      ·try simp only [zs1, zs2, zs3, zs4, zs5, zs6, zs7] at g51
       refine .cons (.gT rfl rfl rfl (.fB 1 0 false rfl rfl rfl)) <| .cons (.gT rfl rfl rfl (.b1 1 rfl rfl rfl rfl rfl rfl)) <| .cons (.gT rfl rfl rfl (.ln 3 1 8 rfl rfl rfl)) <| .cons (.gT rfl rfl rfl (.gt rfl rfl rfl)) <| .cons (.pF rfl rfl rfl) ?_
       refine .nil ⟨by kernel_rfl, ?_⟩
       refine ks_n ?_
       refine ACode.condT rfl (fun h56 => ?_) (fun h56 => ?_)
       ·try simp only [zs1, zs2, zs3, zs4, zs5, zs6, zs7] at h56
        refine .seq <| .region <| .cons (.asg rfl rfl) <| .nil <| ks_n <| .ret <| ks_r <| kb_r <| ks_r <| kl_r <| kb_r <| ks_r ?_
        refine kf_ret rfl ?_ nobox
        exact leafB (arrsV_bad (i := i) (by omega) (by rw [hA, arrOk]; rw [hAr] at *; first | (simp_all; done) | (simp_all; omega) | grind)).symm
       ·try simp only [zs1, zs2, zs3, zs4, zs5, zs6, zs7] at h56
        refine .skip <| ks_n <| .seq <| .region <| .cons (.asg rfl rfl) <| .nil <| ks_n <| .block ?_
        refine .loopK (fun m σ => (∃ k : Nat, m = x.2.length - k ∧ (k ≤ x.2.length) ∧ (x.2.all dimV = (x.2.drop k).all dimV) ∧ σ = [(.t 0, .v (.o (vD (dRs ar)))), (.t 2, .v (.o (bo1 false))), (.t 3, .v (.o (nat1 (i : Nat)))), (.t 4, .v (.o (.c (.ptr (rR x))))), (.t 5, .v (.o (nat1 (k : Nat))))])) [] ⟨0, rfl, by omega, rfl, rfl⟩ ⟨ks rfl .dt, ks rfl .dt, ks rfl .dt, ks rfl (.c (.frzP _ _ _ _ _ _ _ _ rfl (show _ = dR [rR x] from rfl) rfl rfl rfl)), ks rfl .dt, trivial⟩ ?_
        rintro m σ ⟨k, hm0, hk, hG, rfl⟩
        refine .seq <| .seq <| .region <| .cons (.mv rfl rfl) <| .cons (.fP 1 0 false rfl rfl) <| .cons (.l1 1 rfl rfl) <| .cons (.ln 3 1 8 rfl rfl rfl) <| .cons (.ls rfl rfl rfl) <| .nil <| ks_n ?_
        refine .cD rfl (fun h61 => ?_) (fun h61 => ?_)
        ·skip
         obtain ⟨d, hd1⟩ : ∃ x_, x.2[k]? = some x_ := ⟨_, List.getElem?_eq_getElem (by omega)⟩
         refine .skip <| ks_n <| .seq <| .block <| .seq <| .region <| .cons (.fP 1 0 false rfl rfl) <| .cons (.l1 1 rfl rfl) <| .cons (.mv rfl rfl) <| .cons (.xL 3 1 8 rfl rfl rfl rfl rfl) ?_
         refine .cons (.l1 1 rfl rfl) <| .cons (.ls rfl rfl rfl) <| .cons (.mv rfl rfl) ?_
         refine .cD 70 rfl (fun g70 => ?_) (fun g70 => ?_)
         ·skip
          refine .cons (.gF rfl rfl rfl) <| .cons (.gF rfl rfl rfl) <| .cons (.gF rfl rfl rfl) <| .cons (.gF rfl rfl rfl) <| .cons (.gF rfl rfl rfl) <| .cons (.gF rfl rfl rfl) <| .cons (.pT rfl rfl rfl) <| .nil <| ks_n ?_
          refine ACode.condT rfl (fun _ => ?_) (fun h => by first | (cases h; done) | (simp [*] at h; done) | (exfalso; simp_all; done))
          refine .seq ?_
          have hdv : dimV d = false := decide_eq_false (by omega)
          have hD : x.2.all dimV = false := by rw [hG, all_drop hd1, hdv, Bool.false_and]
          refine .region <| .cons (.asg rfl rfl) <| .nil <| ks_n <| .ret <| kb_r <| ks_r <| kl_r <| kb_r <| kb_r <| ks_r <| kl_r <| kb_r <| ks_r ?_
          refine kf_ret rfl ?_ nobox
          exact leafB (arrsV_bad (i := i) (by omega) (by rw [hA, arrOk, hD, Bool.and_false, Bool.and_false, Bool.false_and])).symm
         ·skip
          refine .cons (.gT rfl rfl rfl (.fP 1 0 false rfl rfl)) <| .cons (.gT rfl rfl rfl (.l1 1 rfl rfl)) <| .cons (.gT rfl rfl rfl (.mv rfl rfl)) <| .cons (.gT rfl rfl rfl (.xL 3 1 8 rfl rfl rfl rfl rfl)) ?_
          refine .cons (.gT rfl rfl rfl (.l1 1 rfl rfl)) <| .cons (.gT rfl rfl rfl (.gt rfl rfl rfl)) <| .cons (.pF rfl rfl rfl) <| .nil <| ks_n ?_
          refine ACode.condT rfl (fun h77 => ?_) (fun h77 => ?_)
          ·try simp only [zs1, zs2, zs3, zs4, zs5, zs6, zs7] at h77
           refine .seq ?_
           have hdv : dimV d = false := decide_eq_false (by omega)
           have hD : x.2.all dimV = false := by rw [hG, all_drop hd1, hdv, Bool.false_and]
           refine .region <| .cons (.asg rfl rfl) <| .nil <| ks_n <| .ret <| kb_r <| ks_r <| kl_r <| kb_r <| kb_r <| ks_r <| kl_r <| kb_r <| ks_r ?_
           refine kf_ret rfl ?_ nobox
           exact leafB (arrsV_bad (i := i) (by omega) (by rw [hA, arrOk, hD, Bool.and_false, Bool.and_false, Bool.false_and])).symm
          ·try simp only [zs1, zs2, zs3, zs4, zs5, zs6, zs7] at h77
           have hdv : dimV d = true := decide_eq_true (by omega)
           refine .skip <| kb_n <| ks_n <| .region <| .cons (.mv rfl rfl) <| .cons (.pl rfl rfl rfl) <| .cons (.asg rfl rfl) <| .nil ?_
           refine kl_k [] ⟨k + 1, rfl, by omega, by rw [hG, all_drop hd1, hdv, Bool.true_and], rfl⟩ ⟨ks rfl .dt, ks rfl .dt, ks rfl .dt, ks rfl .dt, ks rfl .dt, trivial⟩
        ·skip
         have hD : x.2.all dimV = true := by rw [hG, List.drop_of_length_le (by omega)]; rfl
         refine .exit <| ks_e <| kl_e <| kb_hit <| kb_n <| ks_n <| .region <| .cons (.mv rfl rfl) <| .cons (.pl rfl rfl rfl) <| .cons (.asg rfl rfl) <| .nil ?_
         refine kl_k [] ⟨i + 1, rfl, by omega, fun j hj => (Nat.lt_succ_iff_lt_or_eq.1 hj).elim (fun h => hF j h) (fun h => by rw [h, hA, arrOk, hD]; rw [hAr] at *; first | (simp_all; done) | (simp_all; omega) | grind), rfl⟩ ⟨ks rfl .dt, ks rfl .dt, ks rfl .dt, trivial⟩
 ·skip
  refine .exit <| ks_e <| kl_e <| kb_hit <| ks_n <| .seq <| .region <| .cons (.mv rfl rfl) <| .cons (.ln 78 2 40 rfl rfl rfl) <| .cons (.le rfl rfl rfl) <| .cons (.asg rfl rfl) <| .nil <| ks_n <| .ret ?_
  refine kf_ret rfl ?_ nobox
  exact leafB (by rw [arrsV_end fun j hj => hF j (by omega)]; rw [decide_eq_decide]; omega)
theorem accV_at {D : Nat} {a : Acc} (h : accV D a = true) : (1 ≤ a.2.length ∧ a.2.length ≤ 2) ∧ ∀ s ∈ a.2, affV s = true := by
  simp only [accV, sideV, bndV, Bool.and_eq_true, List.all_eq_true, decide_eq_true_eq] at h
  exact ⟨by omega, fun x hx => (h.2.1.1 x hx).1⟩
theorem arr_mem {as_ : List Arr} (h : arrsV as_ = true) {i : Nat} {x : Arr} (hx : as_[i]? = some x) : arrOk x = true := arrsV_at h (List.mem_of_getElem? hx)

theorem size_fn {a : Arr} (h : arrOk a = true) : Fn Tryz.prog 165 [] [ad (rR a)] (.o (nat1 (sizeA a.2))) [] := by
  obtain ⟨hl, hd⟩ := arrOk_at h
  refine Fn.code0 Tryz.func165 rfl rfl rfl rfl ?_
  refine .seq <| .region <| .cons (St1.boxP rfl rfl rfl rfl rfl rfl) <| .cons (.asg rfl rfl) <| .nil <| ks_n <| .seq <| .region <| .cons (.asg rfl rfl) <| .nil <| ks_n <| .seq <| .seq <| .region <| .cons (.fP 1 0 false rfl rfl) <| .cons (.l1 1 rfl rfl) <| .cons (.ln 3 1 8 rfl rfl rfl) <| .cons (.mv rfl rfl) <| .nil <| ks_n <| .block ?_
  refine .loopK (fun m σ => (∃ (i : Nat) (n : Int), m = a.2.length - i ∧ (i ≤ a.2.length) ∧ (sizeA a.2 = sizeF n (a.2.drop i)) ∧ (B6 i n) ∧ σ = [(.t 1, .v (.o (.c (.ptr (rR a))))), (.t 2, .v (.o (nat1 0))), (.t 3, .v (.o (nat1 n))), (.t 7, .v (.o (vD (dIs a.2)))), (.t 8, .v (.o (nat1 (a.2.length : Nat)))), (.t 9, .v (.o (nat1 (i : Nat))))])) [] ⟨0, 1, rfl, by omega, rfl, by unfold B6; omega, rfl⟩ ⟨ks rfl .dt, ks rfl .dt, ks rfl .dt, ks rfl .dt, ks rfl .dt, ks rfl .dt, trivial⟩ ?_
  rintro m σ ⟨i, n, hm0, hi, hF, hB, rfl⟩
  refine .seq <| .region <| .cons (.ls rfl rfl rfl) <| .nil <| ks_n <| .seq ?_
  refine .cD rfl (fun h10 => ?_) (fun h10 => ?_)
  · skip
    obtain ⟨d, hd1⟩ : ∃ x_, a.2[i]? = some x_ := ⟨_, List.getElem?_eq_getElem (by omega)⟩
    have hM := hB.mul (hd d (List.mem_of_getElem? hd1)) (by omega)
    have hMb := hM.bd
    refine .skip <| ks_n <| .seq <| .block <| .seq <| .region <| .cons (.xL 3 1 8 rfl rfl rfl rfl rfl) ?_
    refine .cons (.l1 1 rfl rfl) <| .cons (.asg rfl rfl) <| .nil <| ks_n <| .region <| .cons (.mv rfl rfl) <| .cons (.mv rfl rfl) <| .cons (.ml rfl rfl rfl) <| .cons (.asg rfl rfl) <| .nil <| kb_n <| ks_n <| .region <| .cons (.pl rfl rfl rfl) <| .cons (.mv rfl rfl) <| .nil ?_
    refine kl_k [] ⟨i + 1, n * d, rfl, by omega, by rw [hF, sizeF_drop hd1], hM, rfl⟩ ⟨ks rfl .dt, ks rfl .dt, ks rfl .dt, ks rfl .dt, ks rfl .dt, ks rfl .dt, trivial⟩
  · skip
    refine .exit <| ks_e <| kl_e <| kb_hit <| ks_n <| .seq <| .region <| .cons (.mv rfl rfl) <| .cons (.asg rfl rfl) <| .nil <| ks_n <| .ret ?_
    refine kf_ret rfl ?_ nobox
    exact leafI (by rw [hF, sizeF_end (by omega)])

theorem l4Size_fn {a : Arr} (h : arrOk a = true) : Fn Tryz.prog 181 [] [ad (rR a)] (.o (nat1 (sizeA a.2))) [] := by
  obtain ⟨hl, hd⟩ := arrOk_at h
  refine Fn.code0 Tryz.func181 rfl rfl rfl rfl ?_
  refine .seq <| .region <| .cons (St1.boxP rfl rfl rfl rfl rfl rfl) <| .cons (.asg rfl rfl) <| .nil <| ks_n <| .seq <| .region <| .cons (.asg rfl rfl) <| .nil <| ks_n <| .seq <| .seq <| .region <| .cons (.asg rfl rfl) <| .nil <| ks_n <| .block ?_
  refine .loopK (fun m σ => (∃ (i : Nat) (n : Int), m = a.2.length - i ∧ (i ≤ a.2.length) ∧ (sizeA a.2 = sizeF n (a.2.drop i)) ∧ (B6 i n) ∧ σ = [(.t 1, .v (.o (.c (.ptr (rR a))))), (.t 2, .v (.o (nat1 0))), (.t 3, .v (.o (nat1 n))), (.t 4, .v (.o (nat1 (i : Nat))))])) [] ⟨0, 1, rfl, by omega, rfl, by unfold B6; omega, rfl⟩ ⟨ks rfl .dt, ks rfl .dt, ks rfl .dt, ks rfl .dt, trivial⟩ ?_
  rintro m σ ⟨i, n, hm0, hi, hF, hB, rfl⟩
  refine .seq <| .seq <| .region <| .cons (.mv rfl rfl) <| .cons (.fP 1 0 false rfl rfl) <| .cons (.l1 1 rfl rfl) <| .cons (.ln 3 1 8 rfl rfl rfl) <| .cons (.ls rfl rfl rfl) <| .nil <| ks_n ?_
  refine .cD rfl (fun h9 => ?_) (fun h9 => ?_)
  · skip
    obtain ⟨d, hd1⟩ : ∃ x_, a.2[i]? = some x_ := ⟨_, List.getElem?_eq_getElem (by omega)⟩
    have hM := hB.mul (hd d (List.mem_of_getElem? hd1)) (by omega)
    have hMb := hM.bd
    refine .skip <| ks_n <| .seq <| .block <| .region <| .cons (.mv rfl rfl) <| .cons (.fP 1 0 false rfl rfl) <| .cons (.l1 1 rfl rfl) <| .cons (.mv rfl rfl) <| .cons (.xL 3 1 8 rfl rfl rfl rfl rfl) ?_
    refine .cons (.l1 1 rfl rfl) <| .cons (.ml rfl rfl rfl) <| .cons (.asg rfl rfl) <| .nil <| kb_n <| ks_n <| .region <| .cons (.mv rfl rfl) <| .cons (.pl rfl rfl rfl) <| .cons (.asg rfl rfl) <| .nil ?_
    refine kl_k [] ⟨i + 1, n * d, rfl, by omega, by rw [hF, sizeF_drop hd1], hM, rfl⟩ ⟨ks rfl .dt, ks rfl .dt, ks rfl .dt, ks rfl .dt, trivial⟩
  · skip
    refine .exit <| ks_e <| kl_e <| kb_hit <| ks_n <| .seq <| .region <| .cons (.mv rfl rfl) <| .cons (.asg rfl rfl) <| .nil <| ks_n <| .ret ?_
    refine kf_ret rfl ?_ nobox
    exact leafI (by rw [hF, sizeF_end (by omega)])

theorem cell_fn {g : Prg} (hv : arrsV g.1 = true) {D : Nat} {a : Acc} {p : List Int} (ha : accV D a = true) (hS : Small p) (hn : p.length ≤ 4) : Fn Tryz.prog 119 [] [ad (rG g), ad (rC a), vD (dIs p)] (.o (nat1 (cellG a p g.1 0))) [] := by
 obtain ⟨hal, hav⟩ := accV_at ha
 have hl := arrsV_len hv
 refine Fn.code0 Tryz.func119 rfl rfl rfl rfl ?_
 refine .seq <| .region <| .cons (St1.boxP rfl rfl rfl rfl rfl rfl) <| .cons (St1.boxP rfl rfl rfl rfl rfl rfl) <| .cons (.asg rfl rfl) <| .nil <| ks_n <| .seq <| .region <| .cons (.asg rfl rfl) <| .nil <| ks_n <| .seq <| .seq <| .region <| .cons (.fP 0 0 false rfl rfl) <| .cons (.l1 1 rfl rfl) <| .cons (.ln 78 2 40 rfl rfl rfl) <| .cons (.mv rfl rfl) <| .nil <| ks_n <| .block ?_
 refine .loopK (fun m σ => (∃ (i : Nat) (b : Int), m = g.1.length - i ∧ (i ≤ g.1.length) ∧ (cellG a p g.1 0 = cellG a p (g.1.drop i) b) ∧ (0 ≤ b ∧ b ≤ 36 * i) ∧ σ = [(.t 2, .v (.o (vD (dIs p)))), (.t 3, .v (.o (.c (.ptr (rG g))))), (.t 4, .v (.o (.c (.ptr (rC a))))), (.t 6, .v (.o (nat1 0))), (.t 7, .v (.o (nat1 b))), (.t 15, .v (.o (vD (dRs g.1)))), (.t 16, .v (.o (nat1 (g.1.length : Nat)))), (.t 17, .v (.o (nat1 (i : Nat))))])) [] ⟨0, 0, rfl, by omega, rfl, by omega, rfl⟩ ⟨ks rfl .dt, ks rfl .dt, ks rfl .dt, ks rfl .dt, ks rfl .dt, ks rfl .dt, ks rfl .dt, ks rfl .dt, trivial⟩ ?_
 rintro m σ ⟨i, b, hm0, hi, hF, hb, rfl⟩
 refine .seq <| .region <| .cons (.ls rfl rfl rfl) <| .nil <| ks_n <| .seq ?_
 refine .cD rfl (fun h18 => ?_) (fun h18 => ?_)
 ·skip
  obtain ⟨x, hx1⟩ : ∃ x_, g.1[i]? = some x_ := ⟨_, List.getElem?_eq_getElem (by omega)⟩
  have hxo := arr_mem hv hx1
  obtain ⟨hxl, hxd⟩ := arrOk_at hxo
  have hsz := sizeA_bd hxo
  refine .skip <| ks_n <| .seq <| .block <| .seq <| .region <| .cons (.xL 78 2 40 rfl rfl rfl rfl rfl) ?_
  refine .cons (.lN 2 rfl rfl rfl) <| .cons (.al 109 [.string ByteArray.empty, .slice none 0 0] rfl rfl rfl) <| .cons (.sT 2 true rfl rfl rfl rfl rfl rfl rfl) <| .nil <| ks_n <| .seq <| .seq <| .region <| .cons (.fB 0 0 false rfl rfl rfl) <| .cons (.b1 1 rfl rfl rfl rfl rfl rfl) <| .cons (.fP 0 0 false rfl rfl) <| .cons (.l1 1 rfl rfl) <| .cons (St1.neS rfl rfl rfl) <| .nil <| ks_n ?_
  refine ACode.condT rfl (fun h25 => ?_) (fun h25 => ?_)
  ·try simp only [zs1, zs2, zs3, zs4, zs5, zs6, zs7] at h25
   have hne : sEq x.1 a.1 = false := by first | assumption | simp_all
   refine .seq <| .region <| .cons (.mv rfl rfl) <| .cons (.bN 2 rfl rfl rfl rfl rfl rfl) <| .cons (.cP [.tmp 27] rfl rfl rfl rfl (size_fn hxo) rfl) ?_
   refine .cons (.pl rfl rfl rfl) <| .cons (.asg rfl rfl) <| .nil <| ks_n <| .exit <| ks_e <| kb_hit <| ks_n <| .region <| .cons (.pl rfl rfl rfl) <| .cons (.mv rfl rfl) <| .nil ?_
   refine kl_k [] ⟨i + 1, b + sizeA x.2, rfl, by omega, by rw [hF, cellG_next hx1 hne], by omega, rfl⟩ ⟨ks rfl .dt, ks rfl .dt, ks rfl .dt, ks rfl .dt, ks rfl .dt, ks rfl .dt, ks rfl .dt, ks rfl .dt, trivial⟩
  ·try simp only [zs1, zs2, zs3, zs4, zs5, zs6, zs7] at h25
   have heq : sEq x.1 a.1 = true := by first | assumption | simp_all
   refine .skip <| ks_n <| .seq <| .seq <| .region <| .cons (.fP 1 0 false rfl rfl) <| .cons (.l1 1 rfl rfl) <| .cons (.ln 91 2 32 rfl rfl rfl) <| .cons (.fB 1 0 false rfl rfl rfl) <| .cons (.b1 1 rfl rfl rfl rfl rfl rfl) <| .cons (.ln 3 1 8 rfl rfl rfl) <| .cons (.ne rfl rfl rfl) <| .nil <| ks_n ?_
   refine .cND rfl (fun h36 => ?_) (fun h36 => ?_)
   ·skip
    refine .seq <| .region <| .cons (.asg rfl rfl) <| .nil <| ks_n <| .ret <| ks_r <| kb_r <| ks_r <| kl_r <| kb_r <| ks_r ?_
    refine kf_ret rfl ?_ nobox
    exact leafI (by rw [hF, cellG_len hx1 heq (by omega)])
   ·skip
    have hle : a.2.length = x.2.length := by omega
    refine .skip <| ks_n <| .seq <| .region <| .cons (.asg rfl rfl) <| .nil <| ks_n <| .seq <| .seq <| .region <| .cons (.fP 1 0 false rfl rfl) <| .cons (.l1 1 rfl rfl) <| .cons (.ln 91 2 32 rfl rfl rfl) <| .cons (.mv rfl rfl) <| .nil <| ks_n <| .block ?_
    refine .loopK (fun m σ => (∃ (k : Nat) (n : Int), m = a.2.length - k ∧ (k ≤ a.2.length) ∧ (atG p x.2 a.2 0 = atG p (x.2.drop k) (a.2.drop k) n) ∧ (0 ≤ n) ∧ (B6 k (n + 1)) ∧ σ = [(.t 2, .v (.o (vD (dIs p)))), (.t 3, .v (.o (.c (.ptr (rG g))))), (.t 4, .v (.o (.c (.ptr (rC a))))), (.t 6, .v (.o (nat1 0))), (.t 7, .v (.o (nat1 b))), (.t 9, .v (.o (.c (.ptr (rR x))))), (.t 10, .v (.o (nat1 n))), (.t 15, .v (.o (vD (dRs g.1)))), (.t 16, .v (.o (nat1 (g.1.length : Nat)))), (.t 17, .v (.o (nat1 (i : Nat)))), (.t 38, .v (.o (vD (dAs a.2)))), (.t 39, .v (.o (nat1 (a.2.length : Nat)))), (.t 40, .v (.o (nat1 (k : Nat))))])) [] ⟨0, 0, rfl, by omega, rfl, by omega, by unfold B6; omega, rfl⟩ ⟨ks rfl .dt, ks rfl .dt, ks rfl .dt, ks rfl .dt, ks rfl .dt, ks rfl (.c (.frzP _ _ _ _ _ _ _ _ rfl (show _ = dR [rR x] from rfl) rfl rfl rfl)), ks rfl .dt, ks rfl .dt, ks rfl .dt, ks rfl .dt, ks rfl .dt, ks rfl .dt, ks rfl .dt, trivial⟩ ?_
    rintro m σ ⟨k, n, hm0, hk, hG, h0, hB, rfl⟩
    refine .seq <| .region <| .cons (.ls rfl rfl rfl) <| .nil <| ks_n <| .seq ?_
    refine .cD rfl (fun h41 => ?_) (fun h41 => ?_)
    ·skip
     obtain ⟨s, hs1⟩ : ∃ x_, a.2[k]? = some x_ := ⟨_, List.getElem?_eq_getElem (by omega)⟩
     have hsv := hav s (List.mem_of_getElem? hs1)
     obtain ⟨d, hd1⟩ : ∃ x_, x.2[k]? = some x_ := ⟨_, List.getElem?_eq_getElem (by omega)⟩
     have hdd := hxd d (List.mem_of_getElem? hd1)
     refine .skip <| ks_n <| .seq <| .block <| .seq <| .region <| .cons (.mv rfl rfl) <| .cons (.xL 91 2 32 rfl rfl rfl rfl rfl) ?_
     refine .cons (.lN 2 rfl rfl rfl) <| .cons (.al 112 [.slice none 0 0, .int .i64 0] rfl rfl rfl) <| .cons (.asg rfl rfl) <| .cons (.sT 2 true rfl rfl rfl rfl rfl rfl rfl) <| .nil <| ks_n <| .seq <| .region <| .cons (.bN 2 rfl rfl rfl rfl rfl rfl) <| .cons (.mv rfl rfl) <| .cons (.cP [.tmp 45, .tmp 46] rfl rfl rfl rfl (eval_fn hsv hS hn) rfl) ?_
     refine .cons (.asg rfl rfl) <| .nil <| ks_n <| .seq <| .seq <| .region <| .cons (.mv rfl rfl) <| .cons (.fP 1 0 false rfl rfl) <| .cons (.l1 1 rfl rfl) <| .cons (.mv rfl rfl) <| .cons (.xL 3 1 8 rfl rfl rfl rfl rfl) ?_
     refine .cons (.l1 1 rfl rfl) <| .cons (.sb rfl rfl rfl) <| .cons (.cP [.tmp 48, .const (.int .i64 (0)), .tmp 54] rfl rfl rfl rfl (within_fn _ 0 _) rfl) ?_
     refine .cons (.nt rfl rfl) <| .nil <| ks_n ?_
     refine ACode.condT rfl (fun h56 => ?_) (fun h56 => ?_)
     ·try simp only [zs1, zs2, zs3, zs4, zs5, zs6, zs7] at h56
      have hnin : ¬ inB (affEval s p) 0 (d - 1) = true := by first | assumption | simp_all
      refine .seq <| .region <| .cons (.asg rfl rfl) <| .nil <| ks_n <| .ret <| ks_r <| kb_r <| ks_r <| kl_r <| kb_r <| ks_r <| kb_r <| ks_r <| kl_r <| kb_r <| ks_r ?_
      refine kf_ret rfl ?_ nobox
      exact leafI (by rw [hF, cellG_at hx1 heq hle, hG, atG_no hd1 hs1 hnin, if_pos rfl])
     ·try simp only [zs1, zs2, zs3, zs4, zs5, zs6, zs7] at h56
      have hin : inB (affEval s p) 0 (d - 1) = true := by first | assumption | simp_all
      have hM := B6.at h0 hB hdd (by omega) (of_decide_eq_true hin)
      have hvb := of_decide_eq_true hin
      refine .skip <| ks_n <| .region <| .cons (.mv rfl rfl) <| .cons (.fP 1 0 false rfl rfl) <| .cons (.l1 1 rfl rfl) <| .cons (.mv rfl rfl) <| .cons (.xL 3 1 8 rfl rfl rfl rfl rfl) ?_
      refine .cons (.l1 1 rfl rfl) <| .cons (.ml rfl rfl rfl) <| .cons (.mv rfl rfl) <| .cons (.pl rfl rfl rfl) <| .cons (.asg rfl rfl) <| .nil <| kb_n <| ks_n <| .region <| .cons (.pl rfl rfl rfl) <| .cons (.mv rfl rfl) <| .nil ?_
      refine kl_k [] ⟨k + 1, n * d + affEval s p, rfl, by omega, by rw [hG, atG_yes hd1 hs1 hin], by omega, hM.2.2.2, rfl⟩ ⟨ks rfl .dt, ks rfl .dt, ks rfl .dt, ks rfl .dt, ks rfl .dt, ks rfl .dt, ks rfl .dt, ks rfl .dt, ks rfl .dt, ks rfl .dt, ks rfl .dt, ks rfl .dt, ks rfl .dt, trivial⟩
    ·skip
     have hnb := hB.bd
     refine .exit <| ks_e <| kl_e <| kb_hit <| ks_n <| .seq <| .region <| .cons (.mv rfl rfl) <| .cons (.mv rfl rfl) <| .cons (.pl rfl rfl rfl) <| .cons (.asg rfl rfl) <| .nil <| ks_n <| .ret <| kb_r <| ks_r <| kl_r <| kb_r <| ks_r ?_
     refine kf_ret rfl ?_ nobox
     exact leafI (by rw [hF, cellG_at hx1 heq hle, hG, atG_end (by omega), if_neg (by omega)])
 ·skip
  refine .exit <| ks_e <| kl_e <| kb_hit <| ks_n <| .seq <| .region <| .cons (.asg rfl rfl) <| .nil <| ks_n <| .ret ?_
  refine kf_ret rfl ?_ nobox
  exact leafI (by rw [hF, cellG_end (by omega)])

theorem l4Cell_fn {ar : List Arr} (hv : arrsV ar = true) {D : Nat} {a : Acc} {p : List Int} (ha : accV D a = true) (hS : Small p) (hn : p.length ≤ 4) : Fn Tryz.prog 137 [] [vD (dRs ar), ad (rC a), vD (dIs p)] (.o (nat1 (cellG a p ar 0))) [] := by
 obtain ⟨hal, hav⟩ := accV_at ha
 have hl := arrsV_len hv
 refine Fn.code0 Tryz.func137 rfl rfl rfl rfl ?_
 refine .seq <| .region <| .cons (St1.boxP rfl rfl rfl rfl rfl rfl) <| .cons (.asg rfl rfl) <| .nil <| ks_n <| .seq <| .region <| .cons (.asg rfl rfl) <| .nil <| ks_n <| .seq <| .seq <| .region <| .cons (.asg rfl rfl) <| .nil <| ks_n <| .block ?_
 refine .loopK (fun m σ => (∃ (i : Nat) (b : Int), m = ar.length - i ∧ (i ≤ ar.length) ∧ (cellG a p ar 0 = cellG a p (ar.drop i) b) ∧ (0 ≤ b ∧ b ≤ 36 * i) ∧ σ = [(.t 0, .v (.o (vD (dRs ar)))), (.t 2, .v (.o (vD (dIs p)))), (.t 4, .v (.o (.c (.ptr (rC a))))), (.t 6, .v (.o (nat1 0))), (.t 7, .v (.o (nat1 b))), (.t 8, .v (.o (nat1 (i : Nat))))])) [] ⟨0, 0, rfl, by omega, rfl, by omega, rfl⟩ ⟨ks rfl .dt, ks rfl .dt, ks rfl .dt, ks rfl .dt, ks rfl .dt, ks rfl .dt, trivial⟩ ?_
 rintro m σ ⟨i, b, hm0, hi, hF, hb, rfl⟩
 refine .seq <| .seq <| .region <| .cons (.mv rfl rfl) <| .cons (.mv rfl rfl) <| .cons (.ln 78 2 40 rfl rfl rfl) <| .cons (.ls rfl rfl rfl) <| .nil <| ks_n ?_
 refine .cD rfl (fun h15 => ?_) (fun h15 => ?_)
 ·skip
  obtain ⟨x, hx1⟩ : ∃ x_, ar[i]? = some x_ := ⟨_, List.getElem?_eq_getElem (by omega)⟩
  have hxo := arr_mem hv hx1
  obtain ⟨hxl, hxd⟩ := arrOk_at hxo
  have hsz := sizeA_bd hxo
  refine .skip <| ks_n <| .seq <| .block <| .seq <| .seq ?_
  refine ACode.drawK (by kernel_rfl) (by kernel_rfl) ?_
  refine .cons (.mv rfl rfl) <| .cons (.mv rfl rfl) <| .cons (.xL 78 2 40 rfl rfl rfl rfl rfl) ?_
  refine .cons (.fP 0 0 false rfl rfl) <| .cons (.l1 1 rfl rfl) <| .cons (.fP 0 0 false rfl rfl) <| .cons (.l1 1 rfl rfl) <| .cons (St1.neS rfl rfl rfl) ?_
  refine .nil ⟨by kernel_rfl, ?_⟩
  refine ks_n ?_
  refine ACode.condT rfl (fun h25 => ?_) (fun h25 => ?_)
  ·try simp only [zs1, zs2, zs3, zs4, zs5, zs6, zs7] at h25
   have hne : sEq x.1 a.1 = false := by first | assumption | simp_all
   refine .seq <| .region <| .cons (.mv rfl rfl) <| .cons (.mv rfl rfl) <| .cons (.mv rfl rfl) <| .cons (.xL 78 2 40 rfl rfl rfl rfl rfl) ?_
   refine .cons (.lN 2 rfl rfl rfl) <| .cons (.cP [.tmp 30] rfl rfl rfl rfl (l4Size_fn hxo) rfl) ?_
   refine .cons (.pl rfl rfl rfl) <| .cons (.asg rfl rfl) <| .nil <| ks_n <| .exit <| ks_e <| kb_hit <| ks_n <| .region <| .cons (.mv rfl rfl) <| .cons (.pl rfl rfl rfl) <| .cons (.asg rfl rfl) <| .nil ?_
   refine kl_k [] ⟨i + 1, b + sizeA x.2, rfl, by omega, by rw [hF, cellG_next hx1 hne], by omega, rfl⟩ ⟨ks rfl .dt, ks rfl .dt, ks rfl .dt, ks rfl .dt, ks rfl .dt, ks rfl .dt, trivial⟩
  ·try simp only [zs1, zs2, zs3, zs4, zs5, zs6, zs7] at h25
   have heq : sEq x.1 a.1 = true := by first | assumption | simp_all
   refine .skip <| ks_n <| .seq <| .region <| .cons (.asg rfl rfl) <| .nil <| ks_n <| .seq <| .seq <| .region <| .cons (.asg rfl rfl) <| .nil <| ks_n <| .block ?_
   refine .loopK (fun m σ => (∃ (k : Nat) (n : Int), m = a.2.length - k ∧ (k ≤ a.2.length) ∧ (atG p x.2 a.2 0 = atG p (x.2.drop k) (a.2.drop k) n) ∧ (0 ≤ n) ∧ (B6 k (n + 1)) ∧ (k = 0 ∨ a.2.length = x.2.length) ∧ σ = [(.t 0, .v (.o (vD (dRs ar)))), (.t 2, .v (.o (vD (dIs p)))), (.t 4, .v (.o (.c (.ptr (rC a))))), (.t 6, .v (.o (nat1 0))), (.t 7, .v (.o (nat1 b))), (.t 8, .v (.o (nat1 (i : Nat)))), (.t 9, .v (.o (nat1 n))), (.t 10, .v (.o (nat1 (k : Nat))))])) [] ⟨0, 0, rfl, by omega, rfl, by omega, by unfold B6; omega, .inl rfl, rfl⟩ ⟨ks rfl .dt, ks rfl .dt, ks rfl .dt, ks rfl .dt, ks rfl .dt, ks rfl .dt, ks rfl .dt, ks rfl .dt, trivial⟩ ?_
   rintro m σ ⟨k, n, hm0, hk, hG, h0, hB, hz, rfl⟩
   refine .seq <| .seq <| .region <| .cons (.mv rfl rfl) <| .cons (.fP 1 0 false rfl rfl) <| .cons (.l1 1 rfl rfl) <| .cons (.ln 91 2 32 rfl rfl rfl) <| .cons (.ls rfl rfl rfl) <| .nil <| ks_n ?_
   refine .cD rfl (fun h37 => ?_) (fun h37 => ?_)
   ·skip
    obtain ⟨s, hs1⟩ : ∃ x_, a.2[k]? = some x_ := ⟨_, List.getElem?_eq_getElem (by omega)⟩
    have hsv := hav s (List.mem_of_getElem? hs1)
    refine .skip <| ks_n <| .seq <| .block <| .seq <| .seq ?_
    refine ACode.drawK (by kernel_rfl) (by kernel_rfl) ?_
    refine .cons (.fP 1 0 false rfl rfl) <| .cons (.l1 1 rfl rfl) <| .cons (.ln 91 2 32 rfl rfl rfl) <| .cons (.mv rfl rfl) <| .cons (.mv rfl rfl) <| .cons (.xL 78 2 40 rfl rfl rfl rfl rfl) ?_
    refine .cons (.fP 1 0 false rfl rfl) <| .cons (.l1 1 rfl rfl) <| .cons (.ln 3 1 8 rfl rfl rfl) <| .cons (.ne rfl rfl rfl) ?_
    refine .nil ⟨by kernel_rfl, ?_⟩
    refine ks_n ?_
    refine .cND rfl (fun h49 => ?_) (fun h49 => ?_)
    ·skip
     refine .seq <| .region <| .cons (.asg rfl rfl) <| .nil <| ks_n <| .ret <| ks_r <| kb_r <| ks_r <| kl_r <| kb_r <| ks_r <| kb_r <| ks_r <| kl_r <| kb_r <| ks_r ?_
     refine kf_ret rfl ?_ nobox
     exact leafI (by rw [hF, cellG_len hx1 heq (by omega)])
    ·skip
     have hle : a.2.length = x.2.length := by omega
     obtain ⟨d, hd1⟩ : ∃ x_, x.2[k]? = some x_ := ⟨_, List.getElem?_eq_getElem (by omega)⟩
     have hdd := hxd d (List.mem_of_getElem? hd1)
     refine .skip <| ks_n <| .seq <| .region <| .cons (.fP 1 0 false rfl rfl) <| .cons (.l1 1 rfl rfl) <| .cons (.mv rfl rfl) <| .cons (.xL 91 2 32 rfl rfl rfl rfl rfl) ?_
     refine .cons (.lN 2 rfl rfl rfl) <| .cons (.mv rfl rfl) <| .cons (.cP [.tmp 54, .tmp 55] rfl rfl rfl rfl (l1Eval_fn hsv hS hn) rfl) ?_
     refine .cons (.asg rfl rfl) <| .nil <| ks_n <| .seq <| .seq <| .region <| .cons (.mv rfl rfl) <| .cons (.ls rfl rfl rfl) <| .cons (.mv rfl rfl) ?_
     refine .cD 59 rfl (fun g59 => ?_) (fun g59 => ?_)
     ·skip
      refine .cons (.gF rfl rfl rfl) <| .cons (.gF rfl rfl rfl) <| .cons (.gF rfl rfl rfl) <| .cons (.gF rfl rfl rfl) <| .cons (.gF rfl rfl rfl) <| .cons (.gF rfl rfl rfl) <| .cons (.gF rfl rfl rfl) <| .cons (.gF rfl rfl rfl) <| .cons (.gF rfl rfl rfl) <| .cons (.gF rfl rfl rfl) <| .cons (.pT rfl rfl rfl) <| .nil <| ks_n ?_
      refine ACode.condT rfl (fun _ => ?_) (fun h => by first | (cases h; done) | (simp [*] at h; done) | (exfalso; simp_all; done))
      refine .seq ?_
      have hnin : ¬ inB (affEval s p) 0 (d - 1) = true := fun h => by have := of_decide_eq_true h; omega
      refine .region <| .cons (.asg rfl rfl) <| .nil <| ks_n <| .ret <| ks_r <| kb_r <| ks_r <| kl_r <| kb_r <| ks_r <| kb_r <| ks_r <| kl_r <| kb_r <| ks_r ?_
      refine kf_ret rfl ?_ nobox
      exact leafI (by rw [hF, cellG_at hx1 heq hle, hG, atG_no hd1 hs1 hnin, if_pos rfl])
     ·skip
      refine .cons (.gT rfl rfl rfl (.mv rfl rfl)) <| .cons (.gT rfl rfl rfl (.mv rfl rfl)) <| .cons (.gT rfl rfl rfl (.mv rfl rfl)) <| .cons (.gT rfl rfl rfl (.xL 78 2 40 rfl rfl rfl rfl rfl)) ?_
      refine .cons (.gT rfl rfl rfl (.fP 1 0 false rfl rfl)) <| .cons (.gT rfl rfl rfl (.l1 1 rfl rfl)) <| .cons (.gT rfl rfl rfl (.mv rfl rfl)) <| .cons (.gT rfl rfl rfl (.xL 3 1 8 rfl rfl rfl rfl rfl)) ?_
      refine .cons (.gT rfl rfl rfl (.l1 1 rfl rfl)) <| .cons (.gT rfl rfl rfl (.ge rfl rfl rfl)) <| .cons (.pF rfl rfl rfl) <| .nil <| ks_n ?_
      refine ACode.condT rfl (fun h70 => ?_) (fun h70 => ?_)
      ·try simp only [zs1, zs2, zs3, zs4, zs5, zs6, zs7] at h70
       refine .seq ?_
       have hnin : ¬ inB (affEval s p) 0 (d - 1) = true := fun h => by have := of_decide_eq_true h; omega
       refine .region <| .cons (.asg rfl rfl) <| .nil <| ks_n <| .ret <| ks_r <| kb_r <| ks_r <| kl_r <| kb_r <| ks_r <| kb_r <| ks_r <| kl_r <| kb_r <| ks_r ?_
       refine kf_ret rfl ?_ nobox
       exact leafI (by rw [hF, cellG_at hx1 heq hle, hG, atG_no hd1 hs1 hnin, if_pos rfl])
      ·try simp only [zs1, zs2, zs3, zs4, zs5, zs6, zs7] at h70
       have hin : inB (affEval s p) 0 (d - 1) = true := decide_eq_true (by omega)
       have hM := B6.at h0 hB hdd (by omega) (of_decide_eq_true hin)
       have hvb := of_decide_eq_true hin
       refine .skip <| ks_n <| .region <| .cons (.mv rfl rfl) <| .cons (.mv rfl rfl) <| .cons (.mv rfl rfl) <| .cons (.xL 78 2 40 rfl rfl rfl rfl rfl) ?_
       refine .cons (.fP 1 0 false rfl rfl) <| .cons (.l1 1 rfl rfl) <| .cons (.mv rfl rfl) <| .cons (.xL 3 1 8 rfl rfl rfl rfl rfl) ?_
       refine .cons (.l1 1 rfl rfl) <| .cons (.ml rfl rfl rfl) <| .cons (.mv rfl rfl) <| .cons (.pl rfl rfl rfl) <| .cons (.asg rfl rfl) <| .nil <| kb_n <| ks_n <| .region <| .cons (.mv rfl rfl) <| .cons (.pl rfl rfl rfl) <| .cons (.asg rfl rfl) <| .nil ?_
       refine kl_k [] ⟨k + 1, n * d + affEval s p, rfl, by omega, by rw [hG, atG_yes hd1 hs1 hin], by omega, hM.2.2.2, .inr hle, rfl⟩ ⟨ks rfl .dt, ks rfl .dt, ks rfl .dt, ks rfl .dt, ks rfl .dt, ks rfl .dt, ks rfl .dt, ks rfl .dt, trivial⟩
   ·skip
    have hnb := hB.bd
    refine .exit <| ks_e <| kl_e <| kb_hit <| ks_n <| .seq ?_
    have hle : a.2.length = x.2.length := by omega
    refine .region <| .cons (.mv rfl rfl) <| .cons (.mv rfl rfl) <| .cons (.pl rfl rfl rfl) <| .cons (.asg rfl rfl) <| .nil <| ks_n <| .ret <| kb_r <| ks_r <| kl_r <| kb_r <| ks_r ?_
    refine kf_ret rfl ?_ nobox
    exact leafI (by rw [hF, cellG_at hx1 heq hle, hG, atG_end (by omega), if_neg (by omega)])
 ·skip
  refine .exit <| ks_e <| kl_e <| kb_hit <| ks_n <| .seq <| .region <| .cons (.asg rfl rfl) <| .nil <| ks_n <| .ret ?_
  refine kf_ret rfl ?_ nobox
  exact leafI (by rw [hF, cellG_end (by omega)])
section
variable {a : Aff} {o : Pts} {x : List Int}
end
theorem npR_pt {ns : List Lp} {x : List Int} (h : x ∈ npR ns) : Small x ∧ x.length ≤ 4 := by
  obtain ⟨h1, h2, h3⟩ := npR_mem h
  have hv := (okP_iff.1 h1).1
  obtain ⟨h4, h5⟩ := mem_pts.1 h2
  have h6 := PB_of_in hv h4 h5 ns.length (Nat.le_refl _)
  rw [← h4, List.take_length] at h6
  have h7 := (nsV_at hv).1
  exact ⟨h6.small (by omega), by omega⟩
/-- Nests as large as memory lets them be. -/
def bgL (l : Lp) : Prop := l.1.length ≤ 1073741824 ∧ l.2.length ≤ 1073741824 ∧ (∀ a ∈ l.1, a.1.length ≤ 1073741824) ∧ ∀ a ∈ l.2, a.1.length ≤ 1073741824
def bgN (ns : List Lp) : Prop := ns.length ≤ 1073741824 ∧ ∀ l ∈ ns, bgL l
theorem smN_of {ns : List Lp} (h : nsV ns = true) : smN ns := by
  obtain ⟨h1, h2⟩ := nsV_at h
  refine ⟨by omega, fun l hl => ?_⟩
  obtain ⟨i, hi⟩ := List.mem_iff_getElem?.1 hl
  obtain ⟨a, b⟩ := h2 i l hi
  simp only [sideV, bndV, Bool.and_eq_true, List.all_eq_true, decide_eq_true_eq] at a b
  exact ⟨by omega, by omega, fun x hx => by rw [affV_len (a.1.1 x hx).1]; omega, fun x hx => by rw [affV_len (b.1.1 x hx).1]; omega⟩

theorem implNestV_B (ns : List Lp) (hs : bgN ns) : Fn Tryz.prog 145 [] [vD (dLs ns)] (.o (bo1 (nsV ns))) [] := by
 have hn := hs.1
 refine Fn.code0 Tryz.func145 rfl rfl rfl rfl ?_
 refine .seq <| .region <| .cons (.asg rfl rfl) <| .nil <| ks_n <| .seq <| .seq <| .region <| .cons (.mv rfl rfl) <| .cons (.ln 172 2 48 rfl rfl rfl) <| .cons (.mv rfl rfl) <| .nil <| ks_n <| .block ?_
 refine .loopK (fun m σ => (∃ i : Nat, m = ns.length - i ∧ (i ≤ ns.length) ∧ (nestG 0 ns = nestG i (ns.drop i)) ∧ σ = [(.t 0, .v (.o (vD (dLs ns)))), (.t 5, .v (.o (vD (dLs ns)))), (.t 6, .v (.o (nat1 (ns.length : Nat)))), (.t 7, .v (.o (nat1 (i : Nat))))])) [] ⟨0, rfl, by omega, by simp, rfl⟩ ⟨ks rfl .dt, ks rfl .dt, ks rfl .dt, ks rfl .dt, trivial⟩ ?_
 rintro m σ ⟨i, hm0, hi, hF, rfl⟩
 refine .seq <| .region <| .cons (.ls rfl rfl rfl) <| .nil <| ks_n <| .seq ?_
 refine .cD rfl (fun h8 => ?_) (fun h8 => ?_)
 ·skip
  obtain ⟨x, hx1⟩ : ∃ x, ns[i]? = some x := ⟨_, List.getElem?_eq_getElem (by omega)⟩
  have hq := hs.2 x (List.mem_of_getElem? hx1)
  refine .skip <| ks_n <| .seq <| .block <| .seq <| .region <| .cons (.mv rfl rfl) <| .cons (.xL 172 2 48 rfl rfl rfl rfl rfl) ?_
  refine .cons (.lN 2 rfl rfl rfl) <| .cons (.al 104 [.slice none 0 0, .slice none 0 0] rfl rfl rfl) <| .cons (.asg rfl rfl) <| .cons (.sT 2 true rfl rfl rfl rfl rfl rfl rfl) <| .nil <| ks_n <| .seq <| .region <| .cons (.fB 0 0 false rfl rfl rfl) <| .cons (.b1 1 rfl rfl rfl rfl rfl rfl) <| .cons (.mv rfl rfl) <| .cons (.cP [.tmp 13, .tmp 14] rfl rfl rfl rfl (boundsOk_fn i _ (Nat.le_trans hq.1 (by omega))) rfl) ?_
  refine .cons (.nt rfl rfl) <| .cons (.mv rfl rfl) ?_
  refine AOps.cases 17 _ rfl (fun g17 => ?_) (fun g17 => ?_)
  ·try simp only [zs1, zs2, zs3, zs4, zs5, zs6, zs7] at g17
   refine .cons (.gF rfl rfl rfl) <| .cons (.gF rfl rfl rfl) <| .cons (.gF rfl rfl rfl) <| .cons (.gF rfl rfl rfl) <| .cons (.gF rfl rfl rfl) <| .cons (.pT rfl rfl rfl) <| .nil <| ks_n ?_
   refine ACode.condT rfl (fun _ => ?_) (fun h => by first | (cases h; done) | (simp [*] at h; done) | (exfalso; simp_all; done))
   refine .seq ?_
   have g : (sideV i x.1 && sideV i x.2) = false := by simp [*]
   refine .region <| .cons (.asg rfl rfl) <| .nil <| ks_n <| .ret <| kb_r <| ks_r <| kl_r <| kb_r <| ks_r ?_
   refine kf_ret rfl ?_ nobox
   exact leafB (by rw [nsV, hF, nestG_drop hx1, g]; simp)
  ·try simp only [zs1, zs2, zs3, zs4, zs5, zs6, zs7] at g17
   refine .cons (.gT rfl rfl rfl (.fB 1 0 false rfl rfl rfl)) <| .cons (.gT rfl rfl rfl (.b1 1 rfl rfl rfl rfl rfl rfl)) <| .cons (.gT rfl rfl rfl (.mv rfl rfl)) <| .cons (.gT rfl rfl rfl (.cP [.tmp 19, .tmp 20] rfl rfl rfl rfl (boundsOk_fn i _ (Nat.le_trans hq.2.1 (by omega))) rfl)) ?_
   refine .cons (.gT rfl rfl rfl (.nt rfl rfl)) <| .cons (.pF rfl rfl rfl) <| .nil <| ks_n ?_
   refine ACode.condT rfl (fun h23 => ?_) (fun h23 => ?_)
   ·try simp only [zs1, zs2, zs3, zs4, zs5, zs6, zs7] at h23
    refine .seq ?_
    have g : (sideV i x.1 && sideV i x.2) = false := by simp [*]
    refine .region <| .cons (.asg rfl rfl) <| .nil <| ks_n <| .ret <| kb_r <| ks_r <| kl_r <| kb_r <| ks_r ?_
    refine kf_ret rfl ?_ nobox
    exact leafB (by rw [nsV, hF, nestG_drop hx1, g]; simp)
   ·try simp only [zs1, zs2, zs3, zs4, zs5, zs6, zs7] at h23
    refine .skip <| kb_n <| ks_n ?_
    have g : (sideV i x.1 && sideV i x.2) = true := by simp [*]
    refine .region <| .cons (.pl rfl rfl rfl) <| .cons (.mv rfl rfl) <| .nil ?_
    refine kl_k [] ⟨i + 1, rfl, by omega, by rw [hF, nestG_drop hx1, g, Bool.true_and], rfl⟩ ⟨ks rfl .dt, ks rfl .dt, ks rfl .dt, ks rfl .dt, trivial⟩
 ·skip
  refine .exit <| ks_e <| kl_e <| kb_hit <| ks_n <| .seq <| .region <| .cons (.mv rfl rfl) <| .cons (.ln 172 2 48 rfl rfl rfl) <| .cons (.le rfl rfl rfl) <| .cons (.asg rfl rfl) <| .nil <| ks_n <| .ret ?_
  refine kf_ret rfl ?_ nobox
  exact leafB (by rw [nsV, hF, List.drop_of_length_le (by omega), nestG, Bool.and_true, Bool.eq_iff_iff]; simp; omega)

theorem specNestV_B (ns : List Lp) (hs : bgN ns) : Fn Tryz.prog 175 [] [vD (dLs ns)] (.o (bo1 (nsV ns))) [] := by
 have hn := hs.1
 refine Fn.code0 Tryz.func175 rfl rfl rfl rfl ?_
 refine .seq <| .region <| .cons (.asg rfl rfl) <| .nil <| ks_n <| .seq <| .seq <| .region <| .cons (.asg rfl rfl) <| .nil <| ks_n <| .block ?_
 refine .loopK (fun m σ => (∃ i : Nat, m = ns.length - i ∧ (i ≤ ns.length) ∧ (nestG 0 ns = nestG i (ns.drop i)) ∧ σ = [(.t 0, .v (.o (vD (dLs ns)))), (.t 3, .v (.o (nat1 (i : Nat))))])) [] ⟨0, rfl, by omega, by simp, rfl⟩ ⟨ks rfl .dt, ks rfl .dt, trivial⟩ ?_
 rintro m σ ⟨i, hm0, hi, hF, rfl⟩
 refine .seq <| .seq <| .region <| .cons (.mv rfl rfl) <| .cons (.mv rfl rfl) <| .cons (.ln 172 2 48 rfl rfl rfl) <| .cons (.ls rfl rfl rfl) <| .cons (.mv rfl rfl) ?_
 refine .cD 8 rfl (fun g8 => ?_) (fun g8 => ?_)
 ·skip
  refine .cons (.gT rfl rfl rfl (.mv rfl rfl)) <| .cons (.gT rfl rfl rfl (.ln 172 2 48 rfl rfl rfl)) <| .cons (.gT rfl rfl rfl (.le rfl rfl rfl)) <| .cons (.pT rfl rfl rfl) <| .nil <| ks_n ?_
  refine ACode.condT rfl (fun h12 => ?_) (fun h12 => ?_)
  ·try simp only [zs1, zs2, zs3, zs4, zs5, zs6, zs7] at h12
   obtain ⟨x, hx1⟩ : ∃ x, ns[i]? = some x := ⟨_, List.getElem?_eq_getElem (by omega)⟩
   have hq := hs.2 x (List.mem_of_getElem? hx1)
   refine .skip <| ks_n <| .seq <| .block <| .seq <| .region <| .cons (.mv rfl rfl) <| .cons (.mv rfl rfl) <| .cons (.xL 172 2 48 rfl rfl rfl rfl rfl) ?_
   refine .cons (.fP 0 0 false rfl rfl) <| .cons (.l1 1 rfl rfl) <| .cons (.mv rfl rfl) <| .cons (.cP [.tmp 19, .tmp 20] rfl rfl rfl rfl (l2Side_fn i _ (Nat.le_trans hq.1 (by omega))) rfl) ?_
   refine .cons (.nt rfl rfl) <| .cons (.mv rfl rfl) ?_
   refine AOps.cases 23 _ rfl (fun g23 => ?_) (fun g23 => ?_)
   ·try simp only [zs1, zs2, zs3, zs4, zs5, zs6, zs7] at g23
    refine .cons (.gF rfl rfl rfl) <| .cons (.gF rfl rfl rfl) <| .cons (.gF rfl rfl rfl) <| .cons (.gF rfl rfl rfl) <| .cons (.gF rfl rfl rfl) <| .cons (.gF rfl rfl rfl) <| .cons (.gF rfl rfl rfl) <| .cons (.gF rfl rfl rfl) <| .cons (.pT rfl rfl rfl) <| .nil <| ks_n ?_
    refine ACode.condT rfl (fun _ => ?_) (fun h => by first | (cases h; done) | (simp [*] at h; done) | (exfalso; simp_all; done))
    refine .seq ?_
    have g : (sideV i x.1 && sideV i x.2) = false := by simp [*]
    refine .region <| .cons (.asg rfl rfl) <| .nil <| ks_n <| .ret <| kb_r <| ks_r <| kl_r <| kb_r <| ks_r ?_
    refine kf_ret rfl ?_ nobox
    exact leafB (by rw [nsV, hF, nestG_drop hx1, g]; simp)
   ·try simp only [zs1, zs2, zs3, zs4, zs5, zs6, zs7] at g23
    refine .cons (.gT rfl rfl rfl (.mv rfl rfl)) <| .cons (.gT rfl rfl rfl (.mv rfl rfl)) <| .cons (.gT rfl rfl rfl (.xL 172 2 48 rfl rfl rfl rfl rfl)) ?_
    refine .cons (.gT rfl rfl rfl (.fP 1 0 false rfl rfl)) <| .cons (.gT rfl rfl rfl (.l1 1 rfl rfl)) <| .cons (.gT rfl rfl rfl (.mv rfl rfl)) <| .cons (.gT rfl rfl rfl (.cP [.tmp 28, .tmp 29] rfl rfl rfl rfl (l2Side_fn i _ (Nat.le_trans hq.2.1 (by omega))) rfl)) ?_
    refine .cons (.gT rfl rfl rfl (.nt rfl rfl)) <| .cons (.pF rfl rfl rfl) <| .nil <| ks_n ?_
    refine ACode.condT rfl (fun h32 => ?_) (fun h32 => ?_)
    ·try simp only [zs1, zs2, zs3, zs4, zs5, zs6, zs7] at h32
     refine .seq ?_
     have g : (sideV i x.1 && sideV i x.2) = false := by simp [*]
     refine .region <| .cons (.asg rfl rfl) <| .nil <| ks_n <| .ret <| kb_r <| ks_r <| kl_r <| kb_r <| ks_r ?_
     refine kf_ret rfl ?_ nobox
     exact leafB (by rw [nsV, hF, nestG_drop hx1, g]; simp)
    ·try simp only [zs1, zs2, zs3, zs4, zs5, zs6, zs7] at h32
     refine .skip <| kb_n <| ks_n ?_
     have g : (sideV i x.1 && sideV i x.2) = true := by simp [*]
     refine .region <| .cons (.mv rfl rfl) <| .cons (.pl rfl rfl rfl) <| .cons (.asg rfl rfl) <| .nil ?_
     refine kl_k [] ⟨i + 1, rfl, by omega, by rw [hF, nestG_drop hx1, g, Bool.true_and], rfl⟩ ⟨ks rfl .dt, ks rfl .dt, trivial⟩
  ·try simp only [zs1, zs2, zs3, zs4, zs5, zs6, zs7] at h12
   refine .exit <| ks_e <| kl_e <| kb_hit <| ks_n <| .seq <| .region <| .cons (.mv rfl rfl) <| .cons (.ln 172 2 48 rfl rfl rfl) <| .cons (.le rfl rfl rfl) <| .cons (.asg rfl rfl) <| .nil <| ks_n <| .ret ?_
   refine kf_ret rfl ?_ nobox
   first | exact leafB (by rw [nsV, hF, List.drop_of_length_le (by omega), nestG, Bool.and_true, Bool.eq_iff_iff]; simp; omega) | exact leafB (by rw [nsV, decide_eq_false (show ¬ ns.length ≤ 4 by omega)]; simp; omega)
 ·skip
  refine .cons (.gF rfl rfl rfl) <| .cons (.gF rfl rfl rfl) <| .cons (.gF rfl rfl rfl) <| .cons (.pF rfl rfl rfl) <| .nil <| ks_n ?_
  refine ACode.condT rfl (fun h => by first | (cases h; done) | (simp [*] at h; done) | (exfalso; simp_all; done)) (fun _ => ?_)
  refine .exit <| ks_e <| kl_e <| kb_hit <| ks_n <| .seq <| .region <| .cons (.mv rfl rfl) <| .cons (.ln 172 2 48 rfl rfl rfl) <| .cons (.le rfl rfl rfl) <| .cons (.asg rfl rfl) <| .nil <| ks_n <| .ret ?_
  refine kf_ret rfl ?_ nobox
  first | exact leafB (by rw [nsV, hF, List.drop_of_length_le (by omega), nestG, Bool.and_true, Bool.eq_iff_iff]; simp; omega) | exact leafB (by rw [nsV, decide_eq_false (show ¬ ns.length ≤ 4 by omega)]; simp; omega)

theorem implNestPts_bad (ns : List Lp) (hs : bgN ns) (hb : nsV ns = false) : Fn Tryz.prog 96 [] [vD (dLs ns)] (.tup [vD (dPs (npR ns)), bo1 (okP ns)]) [] := by
 have hO : okP ns = false := by rw [okP, hb]; rfl
 have hN := npR_no hO
 refine Fn.code0 Tryz.func96 rfl rfl rfl rfl ?_
 refine .seq <| .region <| .cons (.asg rfl rfl) <| .cons (.asg rfl rfl) <| .nil <| ks_n <| .seq <| .seq <| .region <| .cons (.mv rfl rfl) <| .cons (.cP [.tmp 5] rfl rfl rfl rfl (implNestV_B ns hs) rfl) ?_
 refine .cons (.nt rfl rfl) <| .nil <| ks_n ?_
 refine ACode.condT rfl (fun h7 => ?_) (fun h7 => ?_)
 ·try simp only [zs1, zs2, zs3, zs4, zs5, zs6, zs7] at h7
  refine .seq <| .region <| .cons (.asg rfl rfl) <| .cons (.asg rfl rfl) <| .nil <| ks_n <| .ret <| ks_r ?_
  refine kf_wret [(.t 2, .v (.o (vD (dPs (npR ns))))), (.t 3, .v (.o (bo1 (okP ns))))] (Wk.keep [] rfl rfl ⟨ks rfl (.c (Cto.nilE 1 (by rw [hN]; rfl))), ks rfl (.dt (by rw [hO])), trivial⟩) rfl ?_ nobox
  rfl
 ·try simp only [zs1, zs2, zs3, zs4, zs5, zs6, zs7] at h7
  rw [hb] at h7; cases h7

theorem specNestPts_bad (ns : List Lp) (hs : bgN ns) (hb : nsV ns = false) : Fn Tryz.prog 134 [] [vD (dLs ns)] (.tup [vD (dPs (npR ns)), bo1 (okP ns)]) [] := by
 have hO : okP ns = false := by rw [okP, hb]; rfl
 have hN := npR_no hO
 refine Fn.code0 Tryz.func134 rfl rfl rfl rfl ?_
 refine .seq <| .region <| .cons (.asg rfl rfl) <| .cons (.asg rfl rfl) <| .nil <| ks_n <| .seq <| .seq <| .region <| .cons (.mv rfl rfl) <| .cons (.cP [.tmp 5] rfl rfl rfl rfl (specNestV_B ns hs) rfl) ?_
 refine .cons (.nt rfl rfl) <| .cons (.mv rfl rfl) ?_
 refine AOps.cases 8 _ rfl (fun g8 => ?_) (fun g8 => ?_)
 ·try simp only [zs1, zs2, zs3, zs4, zs5, zs6, zs7] at g8
  refine .cons (.gF rfl rfl rfl) <| .cons (.gF rfl rfl rfl) <| .cons (.gF rfl rfl rfl) <| .cons (.pT rfl rfl rfl) <| .nil <| ks_n ?_
  refine ACode.condT rfl (fun _ => ?_) (fun h => by first | (cases h; done) | (simp [*] at h; done) | (exfalso; simp_all; done))
  refine .seq <| .region <| .cons (St1.lit0 (k' := 113) (e := 35) (sz := 1) (b := true) rfl rfl rfl rfl (by kernel_rfl) rfl rfl) ?_
  refine .cons (.asg rfl rfl) <| .cons (.asg rfl rfl) <| .nil <| ks_n <| .ret <| ks_r ?_
  refine kf_wret [(.t 2, .v (.o (vD (dPs (npR ns))))), (.t 3, .v (.o (bo1 (okP ns))))] (Wk.keep [] rfl rfl ⟨ks rfl (.c (.fz rfl (by rw [hN]; first | rfl | simp [dR]) (by rw [hN]; rfl) (by omega))), ks rfl (.dt (by rw [hO])), trivial⟩) rfl ?_ nobox
  rfl
 ·try simp only [zs1, zs2, zs3, zs4, zs5, zs6, zs7] at g8
  rw [hb] at g8; cases g8

theorem implNestPts_B (ns : List Lp) (hs : bgN ns) : Fn Tryz.prog 96 [] [vD (dLs ns)] (.tup [vD (dPs (npR ns)), bo1 (okP ns)]) [] := by
  cases h : nsV ns with
  | true => exact implNestPts_fn ns (smN_of h)
  | false => exact implNestPts_bad ns hs h

theorem specNestPts_B (ns : List Lp) (hs : bgN ns) : Fn Tryz.prog 134 [] [vD (dLs ns)] (.tup [vD (dPs (npR ns)), bo1 (okP ns)]) [] := by
  cases h : nsV ns with
  | true => exact specNestPts_fn ns (smN_of h)
  | false => exact specNestPts_bad ns hs h
theorem sz_bg {ns : List Lp} (h : szLs ns ≤ 1073741824) : bgN ns := by
  have hl := szLs_len ns
  refine ⟨by omega, fun l hl2 => ?_⟩
  have h1 := szLs_mem hl2
  have e : szL l = szAs l.1 + szAs l.2 := rfl
  have a1 := szAs_len l.1
  have a2 := szAs_len l.2
  exact ⟨by omega, by omega, fun x hx => by have := szAs_mem hx; omega, fun x hx => by have := szAs_mem hx; omega⟩
theorem mem_rdEs {a : Acc} : ∀ {l : List Ex}, a ∈ rdEs l → ∃ x ∈ l, a ∈ rdE x
  | [], h => by rw [rdEs] at h; cases h
  | x :: l, h => by
    rw [rdEs, List.mem_append] at h
    rcases h with h | h
    · exact ⟨x, by simp, h⟩
    · obtain ⟨y, hy, h2⟩ := mem_rdEs h
      exact ⟨y, by simp [hy], h2⟩
theorem rdE_acc {d : Nat} {a : Acc} : ∀ {L : Nat} {e : Ex}, exV d L e = true → a ∈ rdE e → accV d a = true
  | 0, e, h, _ => by cases h
  | L + 1, e, h, ha => by
    rw [exV, Bool.and_eq_true, Bool.and_eq_true] at h
    rw [rdE_eq, List.mem_append] at ha
    rcases ha with ha | ha
    · split at ha
      · rename_i hk
        have h2 := h.1.2
        rw [fldV, if_neg (by omega), if_neg (by omega), if_pos hk, Bool.and_eq_true] at h2
        rw [List.mem_singleton.1 ha]; exact h2.2
      · cases ha
    · obtain ⟨x, hx, h3⟩ := mem_rdEs ha
      exact rdE_acc (List.all_eq_true.1 h.2 x hx) h3
theorem stm_accs {D : Int} {s : Stm} (h : stmtV D s = true) : accV D.toNat s.1 = true ∧ (∀ a ∈ rdE s.2, accV D.toNat a = true) ∧ (rdE s.2).length ≤ 12 := by
  obtain ⟨h1, h2, h3, _⟩ := stmtV_ex h
  exact ⟨h2, fun a ha => rdE_acc h1 ha, Nat.le_trans (rdE_len s.2) h3⟩
theorem accG_not {ar : List Arr} {p : List Int} : (fun a => decide (cellG a p ar 0 < 0)) = fun a => !accG ar p a := by
  funext a; rw [accG, Bool.eq_iff_iff]; simp
theorem cloneInts_fn (p : List Int) (hp : p.length ≤ 4294967296) : Fn Tryz.prog 102 [] [vD (dIs p)] (.o (vD (dIs p))) [] :=
  Fn.pure fun B bx al w vs hv => by
    obtain ⟨v, rfl, h⟩ := vals1 hv
    have h3 := dr_ints h
    obtain ⟨a, n, c, rfl, rfl⟩ := sl_form h3
    exact (clone_any B a _ c p w h3 hp).mono fun e w' ⟨v, h1, h2, h4⟩ => ⟨_, h1, h4, ints_dr ((h2.sl (by omega)).mono fun b hb _ => .inr (h2.lt b hb).1)⟩

theorem idx_stm {f : FuncId} {cap : List (List D)} (hc : callable Tryz.prog f = true) (p : Stm → Bool) (xs : List Stm) (hx : xs.length ≤ 1099511627776) (hf : ∀ x ∈ xs, Fn Tryz.prog f [] (ad (rS x) :: cap.map fun c => .c (.ptr c)) (.o (bo1 (p x))) []) : Fn Tryz.prog 147 [] [vD (.list 9 (xs.map rS)), .c (.fn f cap)] (.o (nat1 (idxF p xs))) [] := by
 refine Fn.code0 Tryz.func147 rfl rfl rfl rfl ?_
 refine .seq <| .region <| .cons (.asg rfl rfl) <| .nil <| ks_n <| .seq <| .seq <| .region <| .cons (.mv rfl rfl) <| .cons (.ln 96 9 152 rfl rfl rfl) <| .cons (.mv rfl rfl) <| .nil <| ks_n <| .block ?_
 refine .loopK (fun m σ => (∃ i : Nat, m = xs.length - i ∧ (i ≤ xs.length) ∧ (idxF p xs = idxG p i (xs.drop i)) ∧ σ = [(.t 0, .v (.o (vD (.list 9 (xs.map rS))))), (.t 1, .v (.o (.c (.fn f cap)))), (.t 7, .v (.o (nat1 (xs.length : Nat)))), (.t 8, .v (.o (nat1 (i : Nat))))])) [] ⟨0, rfl, by omega, rfl, rfl⟩ ⟨ks rfl .dt, ks rfl .dt, ks rfl .dt, ks rfl .dt, trivial⟩ ?_
 rintro m σ ⟨i, hm0, hi, hF, rfl⟩
 refine .seq <| .region <| .cons (.ls rfl rfl rfl) <| .nil <| ks_n <| .seq ?_
 refine .cD rfl (fun h9 => ?_) (fun h9 => ?_)
 ·skip
  obtain ⟨x, hx1⟩ : ∃ x_, xs[i]? = some x_ := ⟨_, List.getElem?_eq_getElem (by omega)⟩
  refine .skip <| ks_n <| .seq <| .block <| .seq <| .region <| .cons (.mv rfl rfl) <| .cons (.asg rfl rfl) <| .nil <| ks_n <| .seq <| .region <| .cons (.mv rfl rfl) <| .cons (.mv rfl rfl) <| .cons (.mv rfl rfl) <| .cons (.xL 96 9 152 rfl rfl rfl rfl rfl) ?_
  refine .cons (.lN 9 rfl rfl rfl) <| .cons (.cP [.tmp 15] rfl rfl rfl rfl (hf x (List.mem_of_getElem? hx1)) rfl hc) ?_
  refine .nil <| ks_n ?_
  refine ACode.condT rfl (fun h16 => ?_) (fun h16 => ?_)
  ·try simp only [zs1, zs2, zs3, zs4, zs5, zs6, zs7] at h16
   refine .seq <| .region <| .cons (.mv rfl rfl) <| .cons (.asg rfl rfl) <| .nil <| ks_n <| .ret <| kb_r <| ks_r <| kl_r <| kb_r <| ks_r ?_
   refine kf_ret rfl ?_ nobox
   exact leafI (by rw [hF, idxG_drop hx1, h16]; rfl)
  ·try simp only [zs1, zs2, zs3, zs4, zs5, zs6, zs7] at h16
   refine .skip <| kb_n <| ks_n <| .region <| .cons (.pl rfl rfl rfl) <| .cons (.mv rfl rfl) <| .nil ?_
   refine kl_k [] ⟨i + 1, rfl, by omega, by rw [hF, idxG_drop hx1, h16]; rfl, rfl⟩ ⟨ks rfl .dt, ks rfl .dt, ks rfl .dt, ks rfl .dt, trivial⟩
 ·skip
  refine .exit <| ks_e <| kl_e <| kb_hit <| ks_n <| .seq <| .region <| .cons (.asg rfl rfl) <| .nil <| ks_n <| .ret ?_
  refine kf_ret rfl ?_ nobox
  exact leafI (by rw [hF, List.drop_of_length_le (by omega)]; rfl)

theorem cnt_stm {f : FuncId} {cap : List (List D)} (hc : callable Tryz.prog f = true) (p : Stm → Bool) (xs : List Stm) (hx : xs.length ≤ 1099511627776) (hf : ∀ x ∈ xs, Fn Tryz.prog f [] (ad (rS x) :: cap.map fun c => .c (.ptr c)) (.o (bo1 (p x))) []) : Fn Tryz.prog 97 [] [vD (.list 9 (xs.map rS)), .c (.fn f cap)] (.o (bo1 (xs.any p))) [] := by
  refine Fn.code0 Tryz.func97 rfl rfl rfl rfl ?_
  refine .seq <| .region <| .cons (.asg rfl rfl) <| .nil <| ks_n <| .seq <| .region <| .cons (.mv rfl rfl) <| .cons (.mv rfl rfl) <| .cons (.cP [.tmp 5, .tmp 6] rfl rfl rfl rfl (idx_stm hc p xs hx hf) rfl) ?_
  refine .cons (.ge rfl rfl rfl) <| .cons (.asg rfl rfl) <| .nil <| ks_n <| .ret ?_
  refine kf_ret rfl ?_ nobox
  exact leafB idxG_any

theorem sok1_fn {g : Prg} (hv : arrsV g.1 = true) {D : Nat} {a : Acc} {p : List Int} (ha : accV D a = true) (hS : Small p) (hn : p.length ≤ 4) : Fn Tryz.prog 152 [] [ad (rC a), .c (.ptr (rG g)), .c (.ptr [dIs p])] (.o (bo1 (decide (cellG a p g.1 0 < 0)))) [] := by
  refine Fn.code0 Tryz.func152 rfl rfl rfl rfl ?_
  refine .seq <| .region <| .cons (St1.boxP rfl rfl rfl rfl rfl rfl) <| .cons (.asg rfl rfl) <| .nil <| ks_n <| .seq <| .region <| .cons (.lN 2 rfl rfl rfl) <| .cons (.lN 2 rfl rfl rfl) <| .cons (.l1 1 rfl rfl) <| .cons (.cP [.tmp 5, .tmp 6, .tmp 7] rfl rfl rfl rfl (cell_fn hv ha hS hn) rfl) ?_
  refine .cons (.ls rfl rfl rfl) <| .cons (.asg rfl rfl) <| .nil <| ks_n <| .ret ?_
  refine kf_ret rfl ?_ nobox
  rfl

theorem sok_fn {g : Prg} (hv : arrsV g.1 = true) {D : Int} {s : Stm} {p : List Int} (hs : stmtV D s = true) (hS : Small p) (hn : p.length ≤ 4) : Fn Tryz.prog 101 [] [ad (rG g), ad (rS s), vD (dIs p)] (.o (bo1 (stmG g.1 s p))) [] := by
  obtain ⟨ha, hr, hrl⟩ := stm_accs hs
  refine Fn.code0 Tryz.func101 rfl rfl rfl rfl ?_
  refine .seq <| .region <| .cons (St1.boxP rfl rfl rfl rfl rfl rfl) <| .cons (St1.boxP rfl rfl rfl rfl rfl rfl) <| .cons (St1.boxP rfl rfl rfl rfl rfl rfl) <| .cons (.asg rfl rfl) <| .nil <| ks_n <| .seq <| .region <| .cons (.lN 2 rfl rfl rfl) <| .cons (.fP 0 1 true rfl rfl) <| .cons (.lN 2 rfl rfl rfl) <| .cons (.l1 1 rfl rfl) <| .cons (.cP [.tmp 7, .tmp 9, .tmp 10] rfl rfl rfl rfl (cell_fn hv ha hS hn) rfl) ?_
  refine .cons (.ge rfl rfl rfl) <| .cons (.mv rfl rfl) ?_
  refine .cD 13 rfl (fun g13 => ?_) (fun g13 => ?_)
  · skip
    refine .cons (.gT rfl rfl rfl (.fP 2 6 true rfl rfl)) <| .cons (.gT rfl rfl rfl (.lN 7 rfl rfl rfl)) <| .cons (.gT rfl rfl rfl (.cP [.tmp 15] rfl rfl rfl rfl (reads_fn (L := 5) s.2 (by omega) (stmtV_ex hs).1) rfl)) ?_
    refine .cons (.gT rfl rfl rfl (St1.makeFunc (xs := [.tmp 3, .tmp 5]) rfl rfl rfl rfl rfl rfl rfl)) <| .cons (.gT rfl rfl rfl (.cP [.tmp 16, .tmp 17] rfl rfl rfl rfl (cnt_acc (f := 152) (cap := [rG g, [dIs p]]) (by kernel_rfl) (fun a => decide (cellG a p g.1 0 < 0)) (rdE s.2) (by omega) (fun a ha => sok1_fn hv (hr a ha) hS hn)) rfl)) ?_
    refine .cons (.gT rfl rfl rfl (.nt rfl rfl)) <| .cons (.pT rfl rfl rfl) <| .cons (.asg rfl rfl) <| .nil <| ks_n <| .ret ?_
    refine kf_ret rfl ?_ nobox
    exact leafB (by rw [stmG, accG]; first | (rw [accG_not, nany]; simp [*]; done) | (simp [*]; done))
  · skip
    refine .cons (.gF rfl rfl rfl) <| .cons (.gF rfl rfl rfl) <| .cons (.gF rfl rfl rfl) <| .cons (.gF rfl rfl rfl) <| .cons (.gF rfl rfl rfl) <| .cons (.gF rfl rfl rfl) <| .cons (.pF rfl rfl rfl) <| .cons (.asg rfl rfl) <| .nil <| ks_n <| .ret ?_
    refine kf_ret rfl ?_ nobox
    exact leafB (by rw [stmG, accG]; first | (rw [accG_not, nany]; simp [*]; done) | (simp [*]; done))

theorem ins1_fn {q : Prt} {s : Stm} (hs : szS s ≤ 1073741824) : Fn Tryz.prog 98 [] [ad (rS s), .c (.ptr (rP q))] (.o (bo1 (!stmtV (q.1.length : Nat) s))) [] := by
  refine Fn.code0 Tryz.func98 rfl rfl rfl rfl ?_
  refine .seq <| .region <| .cons (St1.boxP rfl rfl rfl rfl rfl rfl) <| .cons (.asg rfl rfl) <| .nil <| ks_n <| .seq <| .region <| .cons (.lN 9 rfl rfl rfl) <| .cons (.fP 0 0 false rfl rfl) <| .cons (.l1 1 rfl rfl) <| .cons (.ln 172 2 48 rfl rfl rfl) <| .cons (.cP [.tmp 4, .tmp 7] rfl rfl rfl rfl (implStmtV_fn (q.1.length : Nat) s (by omega)) rfl) ?_
  refine .cons (.nt rfl rfl) <| .cons (.asg rfl rfl) <| .nil <| ks_n <| .ret ?_
  refine kf_ret rfl ?_ nobox
  rfl
theorem all_of {α : Type} {l : List α} {p : α → Bool} (h : ∀ (j : Nat) x, l[j]? = some x → p x = true) : l.all p = true := by
  rw [List.all_eq_true]
  intro x hx
  obtain ⟨j, hj⟩ := List.mem_iff_getElem?.1 hx
  exact h j x hj

theorem instances_fn {g : Prg} (hs : szG g ≤ 1073741824) : Fn Tryz.prog 56 [] [ad (rG g)] (.tup [vD (dNs (insV g)), bo1 (prgV g)]) [] := by
 have h1 := szO_len (f := szR) g.1
 have h2 := szO_len (f := szPt) g.2
 have hsz : szG g = szO szR g.1 + szO szPt g.2 := rfl
 refine Fn.code0 Tryz.func56 rfl rfl rfl rfl ?_
 refine .seq <| .region <| .cons (St1.boxP rfl rfl rfl rfl rfl rfl) <| .cons (.asg rfl rfl) <| .cons (.asg rfl rfl) <| .nil <| ks_n <| .seq <| .seq <| .region <| .cons (.fP 0 0 false rfl rfl) <| .cons (.l1 1 rfl rfl) <| .cons (.cP [.tmp 14] rfl rfl rfl rfl (arraysOk_fn g.1 (by omega) (fun x hx => by have := szO_mem (f := szR) hx; have e : szR x = x.1.size + x.2.length := rfl; omega)) rfl) ?_
 refine .cons (.nt rfl rfl) <| .cons (.mv rfl rfl) ?_
 refine AOps.cases 17 _ rfl (fun g17 => ?_) (fun g17 => ?_)
 ·try simp only [zs1, zs2, zs3, zs4, zs5, zs6, zs7] at g17
  refine .cons (.gF rfl rfl rfl) <| .cons (.gF rfl rfl rfl) <| .cons (.gF rfl rfl rfl) <| .cons (.gF rfl rfl rfl) <| .cons (.pT rfl rfl rfl) <| .nil <| ks_n ?_
  refine ACode.condT rfl (fun _ => ?_) (fun h => by first | (cases h; done) | (simp [*] at h; done) | (exfalso; simp_all; done))
  refine .seq ?_
  obtain ⟨hO, hN⟩ := prgV_f (g := g) (by first | exact prgS_f2 (show ¬ g.2.length ≤ 4 by omega) | exact prgS_f1 (by assumption))
  refine .region <| .cons (.asg rfl rfl) <| .cons (.asg rfl rfl) <| .nil <| ks_n <| .ret <| ks_r ?_
  refine kf_wret [(.t 2, .v (.o (vD (dNs (insV g))))), (.t 3, .v (.o (bo1 (prgV g))))] (Wk.keep [] rfl rfl ⟨ks rfl (.c (Cto.nilE 3 (by first | (rw [hN]; rfl) | (rw [hN, hEz]; rfl)))), ks rfl (.dt (by first | exact congrArg (fun b => V.o (bo1 b)) hO.symm | exact congrArg (fun b => V.o (bo1 b)) (by rw [hO, hEz, decide_eq_decide]; simp) | exact congrArg (fun b => V.o (bo1 b)) (by rw [hO, hEz, decide_eq_decide]; omega))), trivial⟩) rfl ?_ nobox
  rfl
 ·try simp only [zs1, zs2, zs3, zs4, zs5, zs6, zs7] at g17
  refine .cons (.gT rfl rfl rfl (.fP 1 0 false rfl rfl)) <| .cons (.gT rfl rfl rfl (.l1 1 rfl rfl)) <| .cons (.gT rfl rfl rfl (.ln 104 2 48 rfl rfl rfl)) <| .cons (.gT rfl rfl rfl (.gt rfl rfl rfl)) <| .cons (.pF rfl rfl rfl) <| .nil <| ks_n ?_
  refine ACode.condT rfl (fun h22 => ?_) (fun h22 => ?_)
  ·try simp only [zs1, zs2, zs3, zs4, zs5, zs6, zs7] at h22
   refine .seq ?_
   obtain ⟨hO, hN⟩ := prgV_f (g := g) (by first | exact prgS_f2 (show ¬ g.2.length ≤ 4 by omega) | exact prgS_f1 (by assumption))
   refine .region <| .cons (.asg rfl rfl) <| .cons (.asg rfl rfl) <| .nil <| ks_n <| .ret <| ks_r ?_
   refine kf_wret [(.t 2, .v (.o (vD (dNs (insV g))))), (.t 3, .v (.o (bo1 (prgV g))))] (Wk.keep [] rfl rfl ⟨ks rfl (.c (Cto.nilE 3 (by first | (rw [hN]; rfl) | (rw [hN, hEz]; rfl)))), ks rfl (.dt (by first | exact congrArg (fun b => V.o (bo1 b)) hO.symm | exact congrArg (fun b => V.o (bo1 b)) (by rw [hO, hEz, decide_eq_decide]; simp) | exact congrArg (fun b => V.o (bo1 b)) (by rw [hO, hEz, decide_eq_decide]; omega))), trivial⟩) rfl ?_ nobox
   rfl
  ·try simp only [zs1, zs2, zs3, zs4, zs5, zs6, zs7] at h22
   have hA : arrsV g.1 = true := by first | assumption | simp_all
   have h4 : g.2.length ≤ 4 := by omega
   refine .skip <| ks_n <| .seq <| .region <| .cons (.asg rfl rfl) <| .nil <| ks_n <| .seq <| .seq <| .region <| .cons (.fP 1 0 false rfl rfl) <| .cons (.l1 1 rfl rfl) <| .cons (.ln 104 2 48 rfl rfl rfl) <| .cons (.mv rfl rfl) <| .nil <| ks_n <| .block ?_
   refine .loopK (fun m σ => (∃ k : Nat, m = g.2.length - k ∧ (k ≤ g.2.length) ∧ (∀ j q, j < k → g.2[j]? = some q → prtV g.1 q = true) ∧ (insG 0 (g.2.take k) = []) ∧ σ = [(.t 1, .v (.o (.c (.ptr (rG g))))), (.t 4, .v (.o (.c (.d (.val (.slice none 0 0)))))), (.t 24, .v (.o (vD (dPts g.2)))), (.t 25, .v (.o (nat1 (g.2.length : Nat)))), (.t 26, .v (.o (nat1 (k : Nat))))]) ∨ (∃ (k : Nat) (o : List Ins), m = g.2.length - k ∧ (k ≤ g.2.length) ∧ (∀ j q, j < k → g.2[j]? = some q → prtV g.1 q = true) ∧ (insG 0 (g.2.take k) = o) ∧ (o.length ≤ 480 * k) ∧ σ = [(.t 1, .v (.o (.c (.ptr (rG g))))), (.t 4, .v (.o (.c (.own 110 3 (o.length))))), (.t 24, .v (.o (vD (dPts g.2)))), (.t 25, .v (.o (nat1 (g.2.length : Nat)))), (.t 26, .v (.o (nat1 (k : Nat)))), (.b 110, .b 86 3 (dR (o.map rN))), (.u 110, .u)])) [] (.inl ⟨0, rfl, by omega, fun j q hj _ => absurd hj (by omega), rfl, rfl⟩) ⟨ks rfl .dt, ks rfl .dt, ks rfl .dt, ks rfl .dt, ks rfl .dt, trivial⟩ ?_
   rintro m σ (⟨k, hm0, hk, hF, hE, rfl⟩ | ⟨k, o, hm0, hk, hF, hE, ho, rfl⟩)
   ·skip
    refine .seq <| .region <| .cons (.ls rfl rfl rfl) <| .nil <| ks_n <| .seq ?_
    refine .cD rfl (fun h27 => ?_) (fun h27 => ?_)
    ·skip
     obtain ⟨q, hq1⟩ : ∃ x_, g.2[k]? = some x_ := ⟨_, List.getElem?_eq_getElem (by omega)⟩
     have hqm := List.mem_of_getElem? hq1
     have hqs := szO_mem (f := szPt) hqm
     have hqe : szPt q = szLs q.1 + szO szS q.2 := rfl
     have hbg := sz_bg (ns := q.1) (by omega)
     have hql := szO_len (f := szS) q.2
     refine .skip <| ks_n <| .seq <| .block <| .seq <| .region <| .cons (.mv rfl rfl) <| .cons (.xL 104 2 48 rfl rfl rfl rfl rfl) ?_
     refine .cons (.lN 2 rfl rfl rfl) <| .cons (.al 106 [.slice none 0 0, .slice none 0 0] rfl rfl rfl) <| .cons (.asg rfl rfl) <| .cons (.sT 2 true rfl rfl rfl rfl rfl rfl rfl) <| .nil <| ks_n <| .seq ?_
     refine .keep [(.t 1, .v (.o (.c (.ptr (rG g))))), (.t 4, .v (.o (.c (.d (.val (.slice none 0 0)))))), (.t 5, .v (.o (nat1 (k : Nat)))), (.t 6, .v (.o (.c (.ptr (rP q))))), (.t 24, .v (.o (vD (dPts g.2)))), (.t 25, .v (.o (nat1 (g.2.length : Nat)))), (.t 26, .v (.o (nat1 (k : Nat))))] [] ⟨ks rfl .dt, ks rfl .dt, ks rfl .dt, ks rfl (.c (.frzP _ _ _ _ _ _ _ _ rfl (show _ = dR [rP q] from rfl) rfl rfl rfl)), ks rfl .dt, ks rfl .dt, ks rfl .dt, trivial⟩ ?_
     refine .region <| .cons (.fP 0 0 false rfl rfl) <| .cons (.l1 1 rfl rfl) <| .cons (.cP [.tmp 33] rfl rfl rfl rfl (implNestPts_B q.1 hbg) rfl) ?_
     refine .cons (.mv rfl rfl) <| .cons (.ex rfl rfl rfl) <| .cons (.ex rfl rfl rfl) <| .cons (.asg rfl rfl) <| .cons (.asg rfl rfl) <| .nil <| ks_n <| .seq <| .seq <| .region <| .cons (.mv rfl rfl) <| .cons (.nt rfl rfl) <| .cons (.mv rfl rfl) ?_
     refine AOps.cases 39 _ rfl (fun g39 => ?_) (fun g39 => ?_)
     ·try simp only [zs1, zs2, zs3, zs4, zs5, zs6, zs7] at g39
      refine .cons (.gF rfl rfl rfl) <| .cons (.gF rfl rfl rfl) <| .cons (.gF rfl rfl rfl) <| .cons (.gF rfl rfl rfl) <| .cons (.gF rfl rfl rfl) <| .cons (.pT rfl rfl rfl) <| .cons (.mv rfl rfl) <| .cons (.gF rfl rfl rfl) <| .cons (.gF rfl rfl rfl) <| .cons (.gF rfl rfl rfl) <| .cons (.gF rfl rfl rfl) <| .cons (.pT rfl rfl rfl) <| .nil <| ks_n ?_
      refine ACode.condT rfl (fun _ => ?_) (fun h => by first | (cases h; done) | (simp [*] at h; done) | (exfalso; simp_all; done))
      refine .seq ?_
      have hbad : prtV g.1 q = false := by first | exact prtV_f1 (by assumption) | exact prtV_f2 (fun h => by simp_all [inB]; omega) | (obtain ⟨s, hs, hs2⟩ := List.any_eq_true.1 (by assumption); exact prtV_f3 hs (by simpa using hs2))
      obtain ⟨hO, hN⟩ := prgV_f (g := g) (prgS_f3 hqm hbad)
      refine .region <| .cons (.asg rfl rfl) <| .cons (.asg rfl rfl) <| .nil <| ks_n <| .ret <| ks_r <| kb_r <| ks_r <| kl_r <| kb_r <| ks_r ?_
      refine kf_wret [(.t 2, .v (.o (vD (dNs (insV g))))), (.t 3, .v (.o (bo1 (prgV g))))] (Wk.keep [] rfl rfl ⟨ks rfl (.c (Cto.nilE 3 (by first | (rw [hN]; rfl) | (rw [hN, hEz]; rfl)))), ks rfl (.dt (by first | exact congrArg (fun b => V.o (bo1 b)) hO.symm | exact congrArg (fun b => V.o (bo1 b)) (by rw [hO, hEz, decide_eq_decide]; simp) | exact congrArg (fun b => V.o (bo1 b)) (by rw [hO, hEz, decide_eq_decide]; omega))), trivial⟩) rfl ?_ nobox
      rfl
     ·try simp only [zs1, zs2, zs3, zs4, zs5, zs6, zs7] at g39
      refine .cons (.gT rfl rfl rfl (.fP 1 0 false rfl rfl)) <| .cons (.gT rfl rfl rfl (.l1 1 rfl rfl)) <| .cons (.gT rfl rfl rfl (.ln 96 9 152 rfl rfl rfl)) <| .cons (.gT rfl rfl rfl (.cP [.tmp 42, .const (.int .i64 (1)), .const (.int .i64 (4))] rfl rfl rfl rfl (within_fn _ 1 4) rfl)) ?_
      refine .cons (.gT rfl rfl rfl (.nt rfl rfl)) <| .cons (.pF rfl rfl rfl) <| .cons (.mv rfl rfl) ?_
      refine AOps.cases 46 _ rfl (fun g46 => ?_) (fun g46 => ?_)
      ·try simp only [zs1, zs2, zs3, zs4, zs5, zs6, zs7] at g46
       refine .cons (.gF rfl rfl rfl) <| .cons (.gF rfl rfl rfl) <| .cons (.gF rfl rfl rfl) <| .cons (.gF rfl rfl rfl) <| .cons (.pT rfl rfl rfl) <| .nil <| ks_n ?_
       refine ACode.condT rfl (fun _ => ?_) (fun h => by first | (cases h; done) | (simp [*] at h; done) | (exfalso; simp_all; done))
       refine .seq ?_
       have hbad : prtV g.1 q = false := by first | exact prtV_f1 (by assumption) | exact prtV_f2 (fun h => by simp_all [inB]; omega) | (obtain ⟨s, hs, hs2⟩ := List.any_eq_true.1 (by assumption); exact prtV_f3 hs (by simpa using hs2))
       obtain ⟨hO, hN⟩ := prgV_f (g := g) (prgS_f3 hqm hbad)
       refine .region <| .cons (.asg rfl rfl) <| .cons (.asg rfl rfl) <| .nil <| ks_n <| .ret <| ks_r <| kb_r <| ks_r <| kl_r <| kb_r <| ks_r ?_
       refine kf_wret [(.t 2, .v (.o (vD (dNs (insV g))))), (.t 3, .v (.o (bo1 (prgV g))))] (Wk.keep [] rfl rfl ⟨ks rfl (.c (Cto.nilE 3 (by first | (rw [hN]; rfl) | (rw [hN, hEz]; rfl)))), ks rfl (.dt (by first | exact congrArg (fun b => V.o (bo1 b)) hO.symm | exact congrArg (fun b => V.o (bo1 b)) (by rw [hO, hEz, decide_eq_decide]; simp) | exact congrArg (fun b => V.o (bo1 b)) (by rw [hO, hEz, decide_eq_decide]; omega))), trivial⟩) rfl ?_ nobox
       rfl
      ·try simp only [zs1, zs2, zs3, zs4, zs5, zs6, zs7] at g46
       refine .cons (.gT rfl rfl rfl (.fP 1 0 false rfl rfl)) <| .cons (.gT rfl rfl rfl (.l1 1 rfl rfl)) <| .cons (.gT rfl rfl rfl (St1.makeFunc (xs := [.tmp 6]) rfl rfl rfl rfl rfl rfl rfl)) <| .cons (.gT rfl rfl rfl (.cP [.tmp 48, .tmp 49] rfl rfl rfl rfl (cnt_stm (f := 98) (cap := [rP q]) (by kernel_rfl) (fun s => !stmtV (q.1.length : Nat) s) q.2 (by omega) (fun s hs => ins1_fn (by have := szO_mem (f := szS) hs; omega))) rfl)) ?_
       refine .cons (.pF rfl rfl rfl) <| .nil <| ks_n ?_
       refine ACode.condT rfl (fun h51 => ?_) (fun h51 => ?_)
       ·try simp only [zs1, zs2, zs3, zs4, zs5, zs6, zs7] at h51
        refine .seq ?_
        have hbad : prtV g.1 q = false := by first | exact prtV_f1 (by assumption) | exact prtV_f2 (fun h => by simp_all [inB]; omega) | (obtain ⟨s, hs, hs2⟩ := List.any_eq_true.1 (by assumption); exact prtV_f3 hs (by simpa using hs2))
        obtain ⟨hO, hN⟩ := prgV_f (g := g) (prgS_f3 hqm hbad)
        refine .region <| .cons (.asg rfl rfl) <| .cons (.asg rfl rfl) <| .nil <| ks_n <| .ret <| ks_r <| kb_r <| ks_r <| kl_r <| kb_r <| ks_r ?_
        refine kf_wret [(.t 2, .v (.o (vD (dNs (insV g))))), (.t 3, .v (.o (bo1 (prgV g))))] (Wk.keep [] rfl rfl ⟨ks rfl (.c (Cto.nilE 3 (by first | (rw [hN]; rfl) | (rw [hN, hEz]; rfl)))), ks rfl (.dt (by first | exact congrArg (fun b => V.o (bo1 b)) hO.symm | exact congrArg (fun b => V.o (bo1 b)) (by rw [hO, hEz, decide_eq_decide]; simp) | exact congrArg (fun b => V.o (bo1 b)) (by rw [hO, hEz, decide_eq_decide]; omega))), trivial⟩) rfl ?_ nobox
        rfl
       ·try simp only [zs1, zs2, zs3, zs4, zs5, zs6, zs7] at h51
        have hv1 : okP q.1 = true := by first | assumption | simp_all
        have hv2 : 1 ≤ q.2.length ∧ q.2.length ≤ 4 := by simp_all [inB]; omega
        have hv3 : ∀ s ∈ q.2, stmtV (q.1.length : Nat) s = true := by simp_all
        refine .skip <| ks_n <| .seq <| .region <| .cons (.mv rfl rfl) <| .cons (.ln 35 1 24 rfl rfl rfl) <| .cons (.mv rfl rfl) <| .nil <| ks_n <| .block ?_
        refine .loopK (fun m σ => (∃ i : Nat, m = (npR q.1).length - i ∧ (i = 0) ∧ σ = [(.t 1, .v (.o (.c (.ptr (rG g))))), (.t 4, .v (.o (.c (.d (.val (.slice none 0 0)))))), (.t 5, .v (.o (nat1 (k : Nat)))), (.t 6, .v (.o (.c (.ptr (rP q))))), (.t 24, .v (.o (vD (dPts g.2)))), (.t 25, .v (.o (nat1 (g.2.length : Nat)))), (.t 26, .v (.o (nat1 (k : Nat)))), (.t 52, .v (.o (vD (dPs (npR q.1))))), (.t 53, .v (.o (nat1 ((npR q.1).length : Nat)))), (.t 54, .v (.o (nat1 (i : Nat))))]) ∨ (∃ (i : Nat) (o2 : List Ins), m = (npR q.1).length - i ∧ (i ≤ (npR q.1).length) ∧ (∀ j p, j < i → (npR q.1)[j]? = some p → ptG' g.1 q.2 p = true) ∧ ([] ++ insT k q.2.length ((npR q.1).take i) = o2) ∧ (o2.length ≤ 480 * k + 4 * i) ∧ σ = [(.t 1, .v (.o (.c (.ptr (rG g))))), (.t 4, .v (.o (.c (.own 120 3 (o2.length))))), (.t 5, .v (.o (nat1 (k : Nat)))), (.t 6, .v (.o (.c (.ptr (rP q))))), (.t 24, .v (.o (vD (dPts g.2)))), (.t 25, .v (.o (nat1 (g.2.length : Nat)))), (.t 26, .v (.o (nat1 (k : Nat)))), (.t 52, .v (.o (vD (dPs (npR q.1))))), (.t 53, .v (.o (nat1 ((npR q.1).length : Nat)))), (.t 54, .v (.o (nat1 (i : Nat)))), (.b 120, .b 86 3 (dR (o2.map rN))), (.u 120, .u)])) [] (.inl ⟨0, rfl, rfl, rfl⟩) ⟨ks rfl .dt, ks rfl .dt, ks rfl .dt, ks rfl .dt, ks rfl .dt, ks rfl .dt, ks rfl .dt, ks rfl .dt, ks rfl .dt, ks rfl .dt, trivial⟩ ?_
        rintro m σ (⟨i, hm0, rfl, rfl⟩ | ⟨i, o2, hm0, hi, hG, hEo, ho2, rfl⟩)
        ·skip
         refine .seq <| .region <| .cons (.ls rfl rfl rfl) <| .nil <| ks_n <| .seq ?_
         refine .cD rfl (fun h55 => ?_) (fun h55 => ?_)
         ·skip
          obtain ⟨p, hp1⟩ : ∃ x_, (npR q.1)[0]? = some x_ := ⟨_, List.getElem?_eq_getElem (by omega)⟩
          have hpm := List.mem_of_getElem? hp1
          have hpt := npR_pt hpm
          have hnl := npR_len q.1
          refine .skip <| ks_n <| .seq <| .block <| .seq <| .region <| .cons (.xL 35 1 24 rfl rfl rfl rfl rfl) ?_
          refine .cons (.l1 1 rfl rfl) <| .cons (.asg rfl rfl) <| .nil <| ks_n <| .seq <| .seq <| .region <| .cons (.mv rfl rfl) <| .cons (.cP [.tmp 58] rfl rfl rfl rfl (isPoint_fn _) rfl) ?_
          refine .cons (.nt rfl rfl) <| .nil <| ks_n ?_
          refine ACode.condT rfl (fun h60 => ?_) (fun h60 => ?_)
          ·try simp only [zs1, zs2, zs3, zs4, zs5, zs6, zs7] at h60
           refine .seq ?_
           obtain ⟨hO, hN⟩ := prgV_f (g := g) (prgS_f3 hqm (prtV_f4 hpm (by assumption)))
           refine .region <| .cons (.asg rfl rfl) <| .cons (.asg rfl rfl) <| .nil <| ks_n <| .ret <| ks_r <| kb_r <| ks_r <| kl_r <| kb_r <| kb_r <| ks_r <| kl_r <| kb_r <| ks_r ?_
           refine kf_wret [(.t 2, .v (.o (vD (dNs (insV g))))), (.t 3, .v (.o (bo1 (prgV g))))] (Wk.keep [] rfl rfl ⟨ks rfl (.c (Cto.nilE 3 (by first | (rw [hN]; rfl) | (rw [hN, hEz]; rfl)))), ks rfl (.dt (by first | exact congrArg (fun b => V.o (bo1 b)) hO.symm | exact congrArg (fun b => V.o (bo1 b)) (by rw [hO, hEz, decide_eq_decide]; simp) | exact congrArg (fun b => V.o (bo1 b)) (by rw [hO, hEz, decide_eq_decide]; omega))), trivial⟩) rfl ?_ nobox
           rfl
          ·try simp only [zs1, zs2, zs3, zs4, zs5, zs6, zs7] at h60
           refine .skip <| ks_n <| .seq <| .region <| .cons (.fP 1 0 false rfl rfl) <| .cons (.l1 1 rfl rfl) <| .cons (.ln 96 9 152 rfl rfl rfl) <| .cons (.mv rfl rfl) <| .nil <| ks_n <| .block ?_
           refine .loopK (fun m σ => (∃ j : Nat, m = q.2.length - j ∧ (j = 0) ∧ σ = [(.t 1, .v (.o (.c (.ptr (rG g))))), (.t 4, .v (.o (.c (.d (.val (.slice none 0 0)))))), (.t 5, .v (.o (nat1 (k : Nat)))), (.t 6, .v (.o (.c (.ptr (rP q))))), (.t 10, .v (.o (vD (dIs p)))), (.t 24, .v (.o (vD (dPts g.2)))), (.t 25, .v (.o (nat1 (g.2.length : Nat)))), (.t 26, .v (.o (nat1 (k : Nat)))), (.t 52, .v (.o (vD (dPs (npR q.1))))), (.t 53, .v (.o (nat1 ((npR q.1).length : Nat)))), (.t 54, .v (.o (nat1 (0 : Nat)))), (.t 62, .v (.o (vD (dMs q.2)))), (.t 63, .v (.o (nat1 (q.2.length : Nat)))), (.t 64, .v (.o (nat1 (j : Nat))))]) ∨ (∃ (j : Nat) (o3 : List Ins), m = q.2.length - j ∧ (j ≤ q.2.length) ∧ (∀ t s, t < j → q.2[t]? = some s → stmG g.1 s p = true) ∧ ([] ++ rowI k j p = o3) ∧ (o3.length ≤ 480 * k + 4 * 0 + j) ∧ σ = [(.t 1, .v (.o (.c (.ptr (rG g))))), (.t 4, .v (.o (.c (.own 130 3 (o3.length))))), (.t 5, .v (.o (nat1 (k : Nat)))), (.t 6, .v (.o (.c (.ptr (rP q))))), (.t 10, .v (.o (vD (dIs p)))), (.t 24, .v (.o (vD (dPts g.2)))), (.t 25, .v (.o (nat1 (g.2.length : Nat)))), (.t 26, .v (.o (nat1 (k : Nat)))), (.t 52, .v (.o (vD (dPs (npR q.1))))), (.t 53, .v (.o (nat1 ((npR q.1).length : Nat)))), (.t 54, .v (.o (nat1 (0 : Nat)))), (.t 62, .v (.o (vD (dMs q.2)))), (.t 63, .v (.o (nat1 (q.2.length : Nat)))), (.t 64, .v (.o (nat1 (j : Nat)))), (.b 130, .b 86 3 (dR (o3.map rN))), (.u 130, .u)])) [] (.inl ⟨0, rfl, rfl, rfl⟩) ⟨ks rfl .dt, ks rfl .dt, ks rfl .dt, ks rfl .dt, ks rfl .dt, ks rfl .dt, ks rfl .dt, ks rfl .dt, ks rfl .dt, ks rfl .dt, ks rfl .dt, ks rfl .dt, ks rfl .dt, ks rfl .dt, trivial⟩ ?_
           rintro m σ (⟨j, hm0, rfl, rfl⟩ | ⟨j, o3, hm0, hj, hH, hEp, ho3, rfl⟩)
           ·skip
            refine .seq <| .region <| .cons (.ls rfl rfl rfl) <| .nil <| ks_n <| .seq ?_
            refine .cD rfl (fun h65 => ?_) (fun h65 => ?_)
            ·skip
             obtain ⟨s, hs1⟩ : ∃ x_, q.2[0]? = some x_ := ⟨_, List.getElem?_eq_getElem (by omega)⟩
             have hsm := List.mem_of_getElem? hs1
             have hsv := hv3 s hsm
             refine .skip <| ks_n <| .seq <| .block <| .seq <| .region <| .cons (.mv rfl rfl) <| .cons (.xL 96 9 152 rfl rfl rfl rfl rfl) ?_
             refine .cons (.lN 9 rfl rfl rfl) <| .cons (.al 112 [.string ByteArray.empty, .slice none 0 0, .int .i64 0, .int .i64 0, .slice none 0 0, .int .i64 0, .string ByteArray.empty, .slice none 0 0, .slice none 0 0] rfl rfl rfl) <| .cons (.asg rfl rfl) <| .cons (.sT 9 true rfl rfl rfl rfl rfl rfl rfl) <| .nil <| ks_n <| .seq <| .seq <| .region <| .cons (.lN 2 rfl rfl rfl) <| .cons (.bN 9 rfl rfl rfl rfl rfl rfl) <| .cons (.mv rfl rfl) <| .cons (.cP [.tmp 69, .tmp 70, .tmp 71] rfl rfl rfl rfl (sok_fn hA hsv hpt.1 hpt.2) rfl) ?_
             refine .cons (.nt rfl rfl) <| .nil <| ks_n ?_
             refine ACode.condT rfl (fun h73 => ?_) (fun h73 => ?_)
             ·try simp only [zs1, zs2, zs3, zs4, zs5, zs6, zs7] at h73
              refine .seq ?_
              obtain ⟨hO, hN⟩ := prgV_f (g := g) (prgS_f3 hqm (prtV_f5 hpm hsm (by assumption)))
              refine .region <| .cons (.asg rfl rfl) <| .cons (.asg rfl rfl) <| .nil <| ks_n <| .ret <| ks_r <| kb_r <| ks_r <| kl_r <| kb_r <| kb_r <| ks_r <| kl_r <| kb_r <| kb_r <| ks_r <| kl_r <| kb_r <| ks_r ?_
              refine kf_wret [(.t 2, .v (.o (vD (dNs (insV g))))), (.t 3, .v (.o (bo1 (prgV g))))] (Wk.keep [] rfl rfl ⟨ks rfl (.c (Cto.nilE 3 (by first | (rw [hN]; rfl) | (rw [hN, hEz]; rfl)))), ks rfl (.dt (by first | exact congrArg (fun b => V.o (bo1 b)) hO.symm | exact congrArg (fun b => V.o (bo1 b)) (by rw [hO, hEz, decide_eq_decide]; simp) | exact congrArg (fun b => V.o (bo1 b)) (by rw [hO, hEz, decide_eq_decide]; omega))), trivial⟩) rfl ?_ nobox
              rfl
             ·try simp only [zs1, zs2, zs3, zs4, zs5, zs6, zs7] at h73
              have hST : stmG g.1 s p = true := by assumption
              refine .skip <| ks_n <| .region <| .cons (.mv rfl rfl) <| .cons (.mv rfl rfl) <| .cons (.mv rfl rfl) <| .cons (.mv rfl rfl) <| .cons (.cP [.tmp 77] rfl rfl rfl rfl (cloneInts_fn p (by omega)) rfl) ?_
              refine .cons (.bu [(0, .tmp 75), (1, .tmp 76), (2, .tmp 78)] [(0, 1), (1, 1), (2, 1)] [.int .i64 0, .int .i64 0, .slice none 0 0] rfl rfl rfl rfl rfl) <| .cons (.li 86 2 0 [.tmp 79] rfl rfl rfl rfl rfl rfl) <| .cons (St1.appN (k' := 181) (e := 86) (sz := 2) (by' := 40) rfl rfl rfl rfl rfl (by kernel_rfl) rfl rfl rfl (by simp) (by first | (simp [dR]; done) | (simp [dR]; omega)) rfl rfl) ?_
              refine .cons (.asg rfl rfl) <| .nil <| kb_n <| ks_n <| .region <| .cons (.pl rfl rfl rfl) <| .cons (.mv rfl rfl) <| .nil ?_
              refine kl_k [(130, 181)] (.inr ⟨1, [((k : Int), ((0 : Nat) : Int), p)], rfl, by omega, fun t s' ht hs' => (Nat.lt_succ_iff_lt_or_eq.1 ht).elim (fun h => absurd h (by omega)) (fun h => by subst h; rw [hs1] at hs'; cases hs'; exact hST), rfl, by simp, rfl⟩) ⟨ks rfl .dt, ks rfl (.c .ow), ks rfl .dt, ks rfl .dt, ks rfl .dt, ks rfl .dt, ks rfl .dt, ks rfl .dt, ks rfl .dt, ks rfl .dt, ks rfl .dt, ks rfl .dt, ks rfl .dt, ks rfl .dt, kb 181 rfl (.dt rfl (by first | rfl | (simp [dR, rN, dI]; done))), trivial⟩
            ·skip
             exfalso; omega
           ·skip
            refine .seq <| .region <| .cons (.ls rfl rfl rfl) <| .nil <| ks_n <| .seq ?_
            refine .cD rfl (fun h65 => ?_) (fun h65 => ?_)
            ·skip
             obtain ⟨s, hs1⟩ : ∃ x_, q.2[j]? = some x_ := ⟨_, List.getElem?_eq_getElem (by omega)⟩
             have hsm := List.mem_of_getElem? hs1
             have hsv := hv3 s hsm
             refine .skip <| ks_n <| .seq <| .block <| .seq <| .region <| .cons (.mv rfl rfl) <| .cons (.xL 96 9 152 rfl rfl rfl rfl rfl) ?_
             refine .cons (.lN 9 rfl rfl rfl) <| .cons (.al 112 [.string ByteArray.empty, .slice none 0 0, .int .i64 0, .int .i64 0, .slice none 0 0, .int .i64 0, .string ByteArray.empty, .slice none 0 0, .slice none 0 0] rfl rfl rfl) <| .cons (.asg rfl rfl) <| .cons (.sT 9 true rfl rfl rfl rfl rfl rfl rfl) <| .nil <| ks_n <| .seq <| .seq <| .region <| .cons (.lN 2 rfl rfl rfl) <| .cons (.bN 9 rfl rfl rfl rfl rfl rfl) <| .cons (.mv rfl rfl) <| .cons (.cP [.tmp 69, .tmp 70, .tmp 71] rfl rfl rfl rfl (sok_fn hA hsv hpt.1 hpt.2) rfl) ?_
             refine .cons (.nt rfl rfl) <| .nil <| ks_n ?_
             refine ACode.condT rfl (fun h73 => ?_) (fun h73 => ?_)
             ·try simp only [zs1, zs2, zs3, zs4, zs5, zs6, zs7] at h73
              refine .seq ?_
              obtain ⟨hO, hN⟩ := prgV_f (g := g) (prgS_f3 hqm (prtV_f5 hpm hsm (by assumption)))
              refine .region <| .cons (.asg rfl rfl) <| .cons (.asg rfl rfl) <| .nil <| ks_n <| .ret <| ks_r <| kb_r <| ks_r <| kl_r <| kb_r <| kb_r <| ks_r <| kl_r <| kb_r <| kb_r <| ks_r <| kl_r <| kb_r <| ks_r ?_
              refine kf_wret [(.t 2, .v (.o (vD (dNs (insV g))))), (.t 3, .v (.o (bo1 (prgV g))))] (Wk.keep [] rfl rfl ⟨ks rfl (.c (Cto.nilE 3 (by first | (rw [hN]; rfl) | (rw [hN, hEz]; rfl)))), ks rfl (.dt (by first | exact congrArg (fun b => V.o (bo1 b)) hO.symm | exact congrArg (fun b => V.o (bo1 b)) (by rw [hO, hEz, decide_eq_decide]; simp) | exact congrArg (fun b => V.o (bo1 b)) (by rw [hO, hEz, decide_eq_decide]; omega))), trivial⟩) rfl ?_ nobox
              rfl
             ·try simp only [zs1, zs2, zs3, zs4, zs5, zs6, zs7] at h73
              have hST : stmG g.1 s p = true := by assumption
              refine .skip <| ks_n <| .region <| .cons (.mv rfl rfl) <| .cons (.mv rfl rfl) <| .cons (.mv rfl rfl) <| .cons (.mv rfl rfl) <| .cons (.cP [.tmp 77] rfl rfl rfl rfl (cloneInts_fn p (by omega)) rfl) ?_
              refine .cons (.bu [(0, .tmp 75), (1, .tmp 76), (2, .tmp 78)] [(0, 1), (1, 1), (2, 1)] [.int .i64 0, .int .i64 0, .slice none 0 0] rfl rfl rfl rfl rfl) <| .cons (.li 86 2 0 [.tmp 79] rfl rfl rfl rfl rfl rfl) <| .cons (St1.appB (k' := 181) (e := 86) (sz := 2) (by' := 40) rfl rfl rfl rfl rfl (by kernel_rfl) rfl rfl rfl rfl (by first | (simp [dR]; done) | (simp [dR]; omega)) (by first | (simp [dR]; done) | (simp [dR]; omega)) rfl rfl rfl) ?_
              refine .cons (.asg rfl rfl) <| .nil <| kb_n <| ks_n <| .region <| .cons (.pl rfl rfl rfl) <| .cons (.mv rfl rfl) <| .nil ?_
              refine kl_k [(130, 181)] (.inr ⟨j + 1, o3 ++ [((k : Int), ((j : Nat) : Int), p)], rfl, by omega, fun t s' ht hs' => (Nat.lt_succ_iff_lt_or_eq.1 ht).elim (fun h => hH t s' h hs') (fun h => by subst h; rw [hs1] at hs'; cases hs'; exact hST), by rw [rowI_snoc, ← List.append_assoc, hEp], by rw [List.length_append, List.length_singleton]; omega, rfl⟩) ⟨ks rfl .dt, ks rfl (.c .ow), ks rfl .dt, ks rfl .dt, ks rfl .dt, ks rfl .dt, ks rfl .dt, ks rfl .dt, ks rfl .dt, ks rfl .dt, ks rfl .dt, ks rfl .dt, ks rfl .dt, ks rfl .dt, kb 181 rfl (.dt rfl (by first | rfl | (simp [dR, rN, dI]; done))), trivial⟩
            ·skip
             obtain rfl : j = q.2.length := by omega
             have hPT : ptG' g.1 q.2 p = true := by rw [ptG', show isPt p = true by assumption, Bool.true_and]; exact all_of fun j s h => hH j s (List.getElem?_eq_some_iff.1 h).1 h
             refine .exit <| ks_e <| kl_e <| kb_hit <| kb_n <| ks_n <| .region <| .cons (.pl rfl rfl rfl) <| .cons (.mv rfl rfl) <| .nil ?_
             refine kl_k [(120, 130)] (.inr ⟨1, o3, rfl, by omega, fun j p' hj hp' => (Nat.lt_succ_iff_lt_or_eq.1 hj).elim (fun h => absurd h (by omega)) (fun h => by subst h; rw [hp1] at hp'; cases hp'; exact hPT), by rw [insT_take hp1]; exact hEp, by omega, rfl⟩) ⟨ks rfl .dt, ks rfl (.c .ow), ks rfl .dt, ks rfl .dt, ks rfl .dt, ks rfl .dt, ks rfl .dt, ks rfl .dt, ks rfl .dt, ks rfl .dt, kb 130 rfl (.dt rfl (by first | rfl | (simp [dR, rN, dI]; done))), trivial⟩
         ·skip
          have hn0 : npR q.1 = [] := List.eq_nil_of_length_eq_zero (by omega)
          have hPV : prtV g.1 q = true := by rw [prtV_eq hv1 hv2 (List.all_eq_true.2 hv3), hn0]; rfl
          refine .exit <| ks_e <| kl_e <| kb_hit <| kb_n <| ks_n <| .region <| .cons (.pl rfl rfl rfl) <| .cons (.mv rfl rfl) <| .nil ?_
          refine kl_k [] (.inl ⟨k + 1, rfl, by omega, fun j q' hj hq' => (Nat.lt_succ_iff_lt_or_eq.1 hj).elim (fun h => hF j q' h hq') (fun h => by subst h; rw [hq1] at hq'; cases hq'; exact hPV), by rw [insG_take hq1, hE, insP, hn0]; rfl, rfl⟩) ⟨ks rfl .dt, ks rfl .dt, ks rfl .dt, ks rfl .dt, ks rfl .dt, trivial⟩
        ·skip
         refine .seq <| .region <| .cons (.ls rfl rfl rfl) <| .nil <| ks_n <| .seq ?_
         refine .cD rfl (fun h55 => ?_) (fun h55 => ?_)
         ·skip
          obtain ⟨p, hp1⟩ : ∃ x_, (npR q.1)[i]? = some x_ := ⟨_, List.getElem?_eq_getElem (by omega)⟩
          have hpm := List.mem_of_getElem? hp1
          have hpt := npR_pt hpm
          have hnl := npR_len q.1
          refine .skip <| ks_n <| .seq <| .block <| .seq <| .region <| .cons (.xL 35 1 24 rfl rfl rfl rfl rfl) ?_
          refine .cons (.l1 1 rfl rfl) <| .cons (.asg rfl rfl) <| .nil <| ks_n <| .seq <| .seq <| .region <| .cons (.mv rfl rfl) <| .cons (.cP [.tmp 58] rfl rfl rfl rfl (isPoint_fn _) rfl) ?_
          refine .cons (.nt rfl rfl) <| .nil <| ks_n ?_
          refine ACode.condT rfl (fun h60 => ?_) (fun h60 => ?_)
          ·try simp only [zs1, zs2, zs3, zs4, zs5, zs6, zs7] at h60
           refine .seq ?_
           obtain ⟨hO, hN⟩ := prgV_f (g := g) (prgS_f3 hqm (prtV_f4 hpm (by assumption)))
           refine .region <| .cons (.asg rfl rfl) <| .cons (.asg rfl rfl) <| .nil <| ks_n <| .ret <| ks_r <| kb_r <| ks_r <| kl_r <| kb_r <| kb_r <| ks_r <| kl_r <| kb_r <| ks_r ?_
           refine kf_wret [(.t 2, .v (.o (vD (dNs (insV g))))), (.t 3, .v (.o (bo1 (prgV g))))] (Wk.keep [] rfl rfl ⟨ks rfl (.c (Cto.nilE 3 (by first | (rw [hN]; rfl) | (rw [hN, hEz]; rfl)))), ks rfl (.dt (by first | exact congrArg (fun b => V.o (bo1 b)) hO.symm | exact congrArg (fun b => V.o (bo1 b)) (by rw [hO, hEz, decide_eq_decide]; simp) | exact congrArg (fun b => V.o (bo1 b)) (by rw [hO, hEz, decide_eq_decide]; omega))), trivial⟩) rfl ?_ nobox
           rfl
          ·try simp only [zs1, zs2, zs3, zs4, zs5, zs6, zs7] at h60
           refine .skip <| ks_n <| .seq <| .region <| .cons (.fP 1 0 false rfl rfl) <| .cons (.l1 1 rfl rfl) <| .cons (.ln 96 9 152 rfl rfl rfl) <| .cons (.mv rfl rfl) <| .nil <| ks_n <| .block ?_
           refine .loopK (fun m σ => (∃ (j : Nat) (o3 : List Ins), m = q.2.length - j ∧ (j ≤ q.2.length) ∧ (∀ t s, t < j → q.2[t]? = some s → stmG g.1 s p = true) ∧ (o2 ++ rowI k j p = o3) ∧ (o3.length ≤ 480 * k + 4 * i + j) ∧ σ = [(.t 1, .v (.o (.c (.ptr (rG g))))), (.t 4, .v (.o (.c (.own 130 3 (o3.length))))), (.t 5, .v (.o (nat1 (k : Nat)))), (.t 6, .v (.o (.c (.ptr (rP q))))), (.t 10, .v (.o (vD (dIs p)))), (.t 24, .v (.o (vD (dPts g.2)))), (.t 25, .v (.o (nat1 (g.2.length : Nat)))), (.t 26, .v (.o (nat1 (k : Nat)))), (.t 52, .v (.o (vD (dPs (npR q.1))))), (.t 53, .v (.o (nat1 ((npR q.1).length : Nat)))), (.t 54, .v (.o (nat1 (i : Nat)))), (.t 62, .v (.o (vD (dMs q.2)))), (.t 63, .v (.o (nat1 (q.2.length : Nat)))), (.t 64, .v (.o (nat1 (j : Nat)))), (.b 130, .b 86 3 (dR (o3.map rN))), (.u 130, .u)])) [(130, 120)] ⟨0, o2, rfl, by omega, fun t s ht _ => absurd ht (by omega), by simp [rowI_zero], by omega, rfl⟩ ⟨ks rfl .dt, ks rfl (.c .ow), ks rfl .dt, ks rfl .dt, ks rfl .dt, ks rfl .dt, ks rfl .dt, ks rfl .dt, ks rfl .dt, ks rfl .dt, ks rfl .dt, ks rfl .dt, ks rfl .dt, ks rfl .dt, kb 120 rfl (.dt rfl (by first | rfl | (simp [dR, rN, dI]; done))), trivial⟩ ?_
           rintro m σ ⟨j, o3, hm0, hj, hH, hEp, ho3, rfl⟩
           refine .seq <| .region <| .cons (.ls rfl rfl rfl) <| .nil <| ks_n <| .seq ?_
           refine .cD rfl (fun h65 => ?_) (fun h65 => ?_)
           ·skip
            obtain ⟨s, hs1⟩ : ∃ x_, q.2[j]? = some x_ := ⟨_, List.getElem?_eq_getElem (by omega)⟩
            have hsm := List.mem_of_getElem? hs1
            have hsv := hv3 s hsm
            refine .skip <| ks_n <| .seq <| .block <| .seq <| .region <| .cons (.mv rfl rfl) <| .cons (.xL 96 9 152 rfl rfl rfl rfl rfl) ?_
            refine .cons (.lN 9 rfl rfl rfl) <| .cons (.al 112 [.string ByteArray.empty, .slice none 0 0, .int .i64 0, .int .i64 0, .slice none 0 0, .int .i64 0, .string ByteArray.empty, .slice none 0 0, .slice none 0 0] rfl rfl rfl) <| .cons (.asg rfl rfl) <| .cons (.sT 9 true rfl rfl rfl rfl rfl rfl rfl) <| .nil <| ks_n <| .seq <| .seq <| .region <| .cons (.lN 2 rfl rfl rfl) <| .cons (.bN 9 rfl rfl rfl rfl rfl rfl) <| .cons (.mv rfl rfl) <| .cons (.cP [.tmp 69, .tmp 70, .tmp 71] rfl rfl rfl rfl (sok_fn hA hsv hpt.1 hpt.2) rfl) ?_
            refine .cons (.nt rfl rfl) <| .nil <| ks_n ?_
            refine ACode.condT rfl (fun h73 => ?_) (fun h73 => ?_)
            ·try simp only [zs1, zs2, zs3, zs4, zs5, zs6, zs7] at h73
             refine .seq ?_
             obtain ⟨hO, hN⟩ := prgV_f (g := g) (prgS_f3 hqm (prtV_f5 hpm hsm (by assumption)))
             refine .region <| .cons (.asg rfl rfl) <| .cons (.asg rfl rfl) <| .nil <| ks_n <| .ret <| ks_r <| kb_r <| ks_r <| kl_r <| kb_r <| kb_r <| ks_r <| kl_r <| kb_r <| kb_r <| ks_r <| kl_r <| kb_r <| ks_r ?_
             refine kf_wret [(.t 2, .v (.o (vD (dNs (insV g))))), (.t 3, .v (.o (bo1 (prgV g))))] (Wk.keep [] rfl rfl ⟨ks rfl (.c (Cto.nilE 3 (by first | (rw [hN]; rfl) | (rw [hN, hEz]; rfl)))), ks rfl (.dt (by first | exact congrArg (fun b => V.o (bo1 b)) hO.symm | exact congrArg (fun b => V.o (bo1 b)) (by rw [hO, hEz, decide_eq_decide]; simp) | exact congrArg (fun b => V.o (bo1 b)) (by rw [hO, hEz, decide_eq_decide]; omega))), trivial⟩) rfl ?_ nobox
             rfl
            ·try simp only [zs1, zs2, zs3, zs4, zs5, zs6, zs7] at h73
             have hST : stmG g.1 s p = true := by assumption
             refine .skip <| ks_n <| .region <| .cons (.mv rfl rfl) <| .cons (.mv rfl rfl) <| .cons (.mv rfl rfl) <| .cons (.mv rfl rfl) <| .cons (.cP [.tmp 77] rfl rfl rfl rfl (cloneInts_fn p (by omega)) rfl) ?_
             refine .cons (.bu [(0, .tmp 75), (1, .tmp 76), (2, .tmp 78)] [(0, 1), (1, 1), (2, 1)] [.int .i64 0, .int .i64 0, .slice none 0 0] rfl rfl rfl rfl rfl) <| .cons (.li 86 2 0 [.tmp 79] rfl rfl rfl rfl rfl rfl) <| .cons (St1.appB (k' := 181) (e := 86) (sz := 2) (by' := 40) rfl rfl rfl rfl rfl (by kernel_rfl) rfl rfl rfl rfl (by first | (simp [dR]; done) | (simp [dR]; omega)) (by first | (simp [dR]; done) | (simp [dR]; omega)) rfl rfl rfl) ?_
             refine .cons (.asg rfl rfl) <| .nil <| kb_n <| ks_n <| .region <| .cons (.pl rfl rfl rfl) <| .cons (.mv rfl rfl) <| .nil ?_
             refine kl_k [(130, 181)] ⟨j + 1, o3 ++ [((k : Int), ((j : Nat) : Int), p)], rfl, by omega, fun t s' ht hs' => (Nat.lt_succ_iff_lt_or_eq.1 ht).elim (fun h => hH t s' h hs') (fun h => by subst h; rw [hs1] at hs'; cases hs'; exact hST), by rw [rowI_snoc, ← List.append_assoc, hEp], by rw [List.length_append, List.length_singleton]; omega, rfl⟩ ⟨ks rfl .dt, ks rfl (.c .ow), ks rfl .dt, ks rfl .dt, ks rfl .dt, ks rfl .dt, ks rfl .dt, ks rfl .dt, ks rfl .dt, ks rfl .dt, ks rfl .dt, ks rfl .dt, ks rfl .dt, ks rfl .dt, kb 181 rfl (.dt rfl (by first | rfl | (simp [dR, rN, dI]; done))), trivial⟩
           ·skip
            obtain rfl : j = q.2.length := by omega
            have hPT : ptG' g.1 q.2 p = true := by rw [ptG', show isPt p = true by assumption, Bool.true_and]; exact all_of fun j s h => hH j s (List.getElem?_eq_some_iff.1 h).1 h
            refine .exit <| ks_e <| kl_e <| kb_hit <| kb_n <| ks_n <| .region <| .cons (.pl rfl rfl rfl) <| .cons (.mv rfl rfl) <| .nil ?_
            refine kl_k [(120, 130)] (.inr ⟨i + 1, o3, rfl, by omega, fun j p' hj hp' => (Nat.lt_succ_iff_lt_or_eq.1 hj).elim (fun h => hG j p' h hp') (fun h => by subst h; rw [hp1] at hp'; cases hp'; exact hPT), by rw [insT_take hp1, ← List.append_assoc, hEo]; exact hEp, by omega, rfl⟩) ⟨ks rfl .dt, ks rfl (.c .ow), ks rfl .dt, ks rfl .dt, ks rfl .dt, ks rfl .dt, ks rfl .dt, ks rfl .dt, ks rfl .dt, ks rfl .dt, kb 130 rfl (.dt rfl (by first | rfl | (simp [dR, rN, dI]; done))), trivial⟩
         ·skip
          obtain rfl : i = (npR q.1).length := by omega
          rw [List.take_length] at hEo
          have hPV : prtV g.1 q = true := by rw [prtV_eq hv1 hv2 (List.all_eq_true.2 hv3)]; exact all_of fun j p h => hG j p (List.getElem?_eq_some_iff.1 h).1 h
          have hnl := npR_len q.1
          refine .exit <| ks_e <| kl_e <| kb_hit <| kb_n <| ks_n <| .region <| .cons (.pl rfl rfl rfl) <| .cons (.mv rfl rfl) <| .nil ?_
          refine kl_k [(110, 120)] (.inr ⟨k + 1, o2, rfl, by omega, fun j q' hj hq' => (Nat.lt_succ_iff_lt_or_eq.1 hj).elim (fun h => hF j q' h hq') (fun h => by subst h; rw [hq1] at hq'; cases hq'; exact hPV), by rw [insG_take hq1, hE]; exact hEo, by omega, rfl⟩) ⟨ks rfl .dt, ks rfl (.c .ow), ks rfl .dt, ks rfl .dt, ks rfl .dt, kb 120 rfl (.dt rfl (by first | rfl | (simp [dR, rN, dI]; done))), trivial⟩
    ·skip
     obtain rfl : k = g.2.length := by omega
     rw [List.take_length] at hE
     have hEz := hE
     obtain ⟨hO, hN⟩ := prgV_t (prgS_eq hA h4 hF)
     refine .exit <| ks_e <| kl_e <| kb_hit <| ks_n <| .seq <| .region <| .cons (.mv rfl rfl) <| .cons (.mv rfl rfl) <| .cons (St1.lenN (e := 86) (m := 3) (by' := 40) rfl rfl rfl rfl rfl (by kernel_rfl) rfl) ?_
     refine .cons (.le rfl rfl rfl) <| .cons (.asg rfl rfl) <| .cons (.asg rfl rfl) <| .nil <| ks_n <| .ret ?_
     refine kf_wret [(.t 2, .v (.o (vD (dNs (insV g))))), (.t 3, .v (.o (bo1 (prgV g))))] (Wk.keep [] rfl rfl ⟨ks rfl (.c (Cto.nilE 3 (by first | (rw [hN]; rfl) | (rw [hN, hEz]; rfl)))), ks rfl (.dt (by first | exact congrArg (fun b => V.o (bo1 b)) hO.symm | exact congrArg (fun b => V.o (bo1 b)) (by rw [hO, hEz, decide_eq_decide]; simp) | exact congrArg (fun b => V.o (bo1 b)) (by rw [hO, hEz, decide_eq_decide]; omega))), trivial⟩) rfl ?_ nobox
     rfl
   ·skip
    refine .seq <| .region <| .cons (.ls rfl rfl rfl) <| .nil <| ks_n <| .seq ?_
    refine .cD rfl (fun h27 => ?_) (fun h27 => ?_)
    ·skip
     obtain ⟨q, hq1⟩ : ∃ x_, g.2[k]? = some x_ := ⟨_, List.getElem?_eq_getElem (by omega)⟩
     have hqm := List.mem_of_getElem? hq1
     have hqs := szO_mem (f := szPt) hqm
     have hqe : szPt q = szLs q.1 + szO szS q.2 := rfl
     have hbg := sz_bg (ns := q.1) (by omega)
     have hql := szO_len (f := szS) q.2
     refine .skip <| ks_n <| .seq <| .block <| .seq <| .region <| .cons (.mv rfl rfl) <| .cons (.xL 104 2 48 rfl rfl rfl rfl rfl) ?_
     refine .cons (.lN 2 rfl rfl rfl) <| .cons (.al 106 [.slice none 0 0, .slice none 0 0] rfl rfl rfl) <| .cons (.asg rfl rfl) <| .cons (.sT 2 true rfl rfl rfl rfl rfl rfl rfl) <| .nil <| ks_n <| .seq ?_
     refine .keep [(.t 1, .v (.o (.c (.ptr (rG g))))), (.t 4, .v (.o (.c (.own 770 3 (o.length))))), (.t 5, .v (.o (nat1 (k : Nat)))), (.t 6, .v (.o (.c (.ptr (rP q))))), (.t 24, .v (.o (vD (dPts g.2)))), (.t 25, .v (.o (nat1 (g.2.length : Nat)))), (.t 26, .v (.o (nat1 (k : Nat)))), (.b 770, .b 86 3 (dR (o.map rN))), (.u 770, .u)] [(770, 110)] ⟨ks rfl .dt, ks rfl (.c .ow), ks rfl .dt, ks rfl (.c (.frzP _ _ _ _ _ _ _ _ rfl (show _ = dR [rP q] from rfl) rfl rfl rfl)), ks rfl .dt, ks rfl .dt, ks rfl .dt, kb 110 rfl (.dt rfl (by first | rfl | (simp [dR, rN, dI]; done))), trivial⟩ ?_
     refine .region <| .cons (.fP 0 0 false rfl rfl) <| .cons (.l1 1 rfl rfl) <| .cons (.cP [.tmp 33] rfl rfl rfl rfl (implNestPts_B q.1 hbg) rfl) ?_
     refine .cons (.mv rfl rfl) <| .cons (.ex rfl rfl rfl) <| .cons (.ex rfl rfl rfl) <| .cons (.asg rfl rfl) <| .cons (.asg rfl rfl) <| .nil <| ks_n <| .seq <| .seq <| .region <| .cons (.mv rfl rfl) <| .cons (.nt rfl rfl) <| .cons (.mv rfl rfl) ?_
     refine AOps.cases 39 _ rfl (fun g39 => ?_) (fun g39 => ?_)
     ·try simp only [zs1, zs2, zs3, zs4, zs5, zs6, zs7] at g39
      refine .cons (.gF rfl rfl rfl) <| .cons (.gF rfl rfl rfl) <| .cons (.gF rfl rfl rfl) <| .cons (.gF rfl rfl rfl) <| .cons (.gF rfl rfl rfl) <| .cons (.pT rfl rfl rfl) <| .cons (.mv rfl rfl) <| .cons (.gF rfl rfl rfl) <| .cons (.gF rfl rfl rfl) <| .cons (.gF rfl rfl rfl) <| .cons (.gF rfl rfl rfl) <| .cons (.pT rfl rfl rfl) <| .nil <| ks_n ?_
      refine ACode.condT rfl (fun _ => ?_) (fun h => by first | (cases h; done) | (simp [*] at h; done) | (exfalso; simp_all; done))
      refine .seq ?_
      have hbad : prtV g.1 q = false := by first | exact prtV_f1 (by assumption) | exact prtV_f2 (fun h => by simp_all [inB]; omega) | (obtain ⟨s, hs, hs2⟩ := List.any_eq_true.1 (by assumption); exact prtV_f3 hs (by simpa using hs2))
      obtain ⟨hO, hN⟩ := prgV_f (g := g) (prgS_f3 hqm hbad)
      refine .region <| .cons (.asg rfl rfl) <| .cons (.asg rfl rfl) <| .nil <| ks_n <| .ret <| ks_r <| kb_r <| ks_r <| kl_r <| kb_r <| ks_r ?_
      refine kf_wret [(.t 2, .v (.o (vD (dNs (insV g))))), (.t 3, .v (.o (bo1 (prgV g))))] (Wk.keep [] rfl rfl ⟨ks rfl (.c (Cto.nilE 3 (by first | (rw [hN]; rfl) | (rw [hN, hEz]; rfl)))), ks rfl (.dt (by first | exact congrArg (fun b => V.o (bo1 b)) hO.symm | exact congrArg (fun b => V.o (bo1 b)) (by rw [hO, hEz, decide_eq_decide]; simp) | exact congrArg (fun b => V.o (bo1 b)) (by rw [hO, hEz, decide_eq_decide]; omega))), trivial⟩) rfl ?_ nobox
      rfl
     ·try simp only [zs1, zs2, zs3, zs4, zs5, zs6, zs7] at g39
      refine .cons (.gT rfl rfl rfl (.fP 1 0 false rfl rfl)) <| .cons (.gT rfl rfl rfl (.l1 1 rfl rfl)) <| .cons (.gT rfl rfl rfl (.ln 96 9 152 rfl rfl rfl)) <| .cons (.gT rfl rfl rfl (.cP [.tmp 42, .const (.int .i64 (1)), .const (.int .i64 (4))] rfl rfl rfl rfl (within_fn _ 1 4) rfl)) ?_
      refine .cons (.gT rfl rfl rfl (.nt rfl rfl)) <| .cons (.pF rfl rfl rfl) <| .cons (.mv rfl rfl) ?_
      refine AOps.cases 46 _ rfl (fun g46 => ?_) (fun g46 => ?_)
      ·try simp only [zs1, zs2, zs3, zs4, zs5, zs6, zs7] at g46
       refine .cons (.gF rfl rfl rfl) <| .cons (.gF rfl rfl rfl) <| .cons (.gF rfl rfl rfl) <| .cons (.gF rfl rfl rfl) <| .cons (.pT rfl rfl rfl) <| .nil <| ks_n ?_
       refine ACode.condT rfl (fun _ => ?_) (fun h => by first | (cases h; done) | (simp [*] at h; done) | (exfalso; simp_all; done))
       refine .seq ?_
       have hbad : prtV g.1 q = false := by first | exact prtV_f1 (by assumption) | exact prtV_f2 (fun h => by simp_all [inB]; omega) | (obtain ⟨s, hs, hs2⟩ := List.any_eq_true.1 (by assumption); exact prtV_f3 hs (by simpa using hs2))
       obtain ⟨hO, hN⟩ := prgV_f (g := g) (prgS_f3 hqm hbad)
       refine .region <| .cons (.asg rfl rfl) <| .cons (.asg rfl rfl) <| .nil <| ks_n <| .ret <| ks_r <| kb_r <| ks_r <| kl_r <| kb_r <| ks_r ?_
       refine kf_wret [(.t 2, .v (.o (vD (dNs (insV g))))), (.t 3, .v (.o (bo1 (prgV g))))] (Wk.keep [] rfl rfl ⟨ks rfl (.c (Cto.nilE 3 (by first | (rw [hN]; rfl) | (rw [hN, hEz]; rfl)))), ks rfl (.dt (by first | exact congrArg (fun b => V.o (bo1 b)) hO.symm | exact congrArg (fun b => V.o (bo1 b)) (by rw [hO, hEz, decide_eq_decide]; simp) | exact congrArg (fun b => V.o (bo1 b)) (by rw [hO, hEz, decide_eq_decide]; omega))), trivial⟩) rfl ?_ nobox
       rfl
      ·try simp only [zs1, zs2, zs3, zs4, zs5, zs6, zs7] at g46
       refine .cons (.gT rfl rfl rfl (.fP 1 0 false rfl rfl)) <| .cons (.gT rfl rfl rfl (.l1 1 rfl rfl)) <| .cons (.gT rfl rfl rfl (St1.makeFunc (xs := [.tmp 6]) rfl rfl rfl rfl rfl rfl rfl)) <| .cons (.gT rfl rfl rfl (.cP [.tmp 48, .tmp 49] rfl rfl rfl rfl (cnt_stm (f := 98) (cap := [rP q]) (by kernel_rfl) (fun s => !stmtV (q.1.length : Nat) s) q.2 (by omega) (fun s hs => ins1_fn (by have := szO_mem (f := szS) hs; omega))) rfl)) ?_
       refine .cons (.pF rfl rfl rfl) <| .nil <| ks_n ?_
       refine ACode.condT rfl (fun h51 => ?_) (fun h51 => ?_)
       ·try simp only [zs1, zs2, zs3, zs4, zs5, zs6, zs7] at h51
        refine .seq ?_
        have hbad : prtV g.1 q = false := by first | exact prtV_f1 (by assumption) | exact prtV_f2 (fun h => by simp_all [inB]; omega) | (obtain ⟨s, hs, hs2⟩ := List.any_eq_true.1 (by assumption); exact prtV_f3 hs (by simpa using hs2))
        obtain ⟨hO, hN⟩ := prgV_f (g := g) (prgS_f3 hqm hbad)
        refine .region <| .cons (.asg rfl rfl) <| .cons (.asg rfl rfl) <| .nil <| ks_n <| .ret <| ks_r <| kb_r <| ks_r <| kl_r <| kb_r <| ks_r ?_
        refine kf_wret [(.t 2, .v (.o (vD (dNs (insV g))))), (.t 3, .v (.o (bo1 (prgV g))))] (Wk.keep [] rfl rfl ⟨ks rfl (.c (Cto.nilE 3 (by first | (rw [hN]; rfl) | (rw [hN, hEz]; rfl)))), ks rfl (.dt (by first | exact congrArg (fun b => V.o (bo1 b)) hO.symm | exact congrArg (fun b => V.o (bo1 b)) (by rw [hO, hEz, decide_eq_decide]; simp) | exact congrArg (fun b => V.o (bo1 b)) (by rw [hO, hEz, decide_eq_decide]; omega))), trivial⟩) rfl ?_ nobox
        rfl
       ·try simp only [zs1, zs2, zs3, zs4, zs5, zs6, zs7] at h51
        have hv1 : okP q.1 = true := by first | assumption | simp_all
        have hv2 : 1 ≤ q.2.length ∧ q.2.length ≤ 4 := by simp_all [inB]; omega
        have hv3 : ∀ s ∈ q.2, stmtV (q.1.length : Nat) s = true := by simp_all
        refine .skip <| ks_n <| .seq <| .region <| .cons (.mv rfl rfl) <| .cons (.ln 35 1 24 rfl rfl rfl) <| .cons (.mv rfl rfl) <| .nil <| ks_n <| .block ?_
        refine .loopK (fun m σ => (∃ (i : Nat) (o2 : List Ins), m = (npR q.1).length - i ∧ (i ≤ (npR q.1).length) ∧ (∀ j p, j < i → (npR q.1)[j]? = some p → ptG' g.1 q.2 p = true) ∧ (o ++ insT k q.2.length ((npR q.1).take i) = o2) ∧ (o2.length ≤ 480 * k + 4 * i) ∧ σ = [(.t 1, .v (.o (.c (.ptr (rG g))))), (.t 4, .v (.o (.c (.own 120 3 (o2.length))))), (.t 5, .v (.o (nat1 (k : Nat)))), (.t 6, .v (.o (.c (.ptr (rP q))))), (.t 24, .v (.o (vD (dPts g.2)))), (.t 25, .v (.o (nat1 (g.2.length : Nat)))), (.t 26, .v (.o (nat1 (k : Nat)))), (.t 52, .v (.o (vD (dPs (npR q.1))))), (.t 53, .v (.o (nat1 ((npR q.1).length : Nat)))), (.t 54, .v (.o (nat1 (i : Nat)))), (.b 120, .b 86 3 (dR (o2.map rN))), (.u 120, .u)])) [(120, 770)] ⟨0, o, rfl, by omega, fun j p hj _ => absurd hj (by omega), by simp [insT], by omega, rfl⟩ ⟨ks rfl .dt, ks rfl (.c .ow), ks rfl .dt, ks rfl .dt, ks rfl .dt, ks rfl .dt, ks rfl .dt, ks rfl .dt, ks rfl .dt, ks rfl .dt, kb 770 rfl (.dt rfl (by first | rfl | (simp [dR, rN, dI]; done))), trivial⟩ ?_
        rintro m σ ⟨i, o2, hm0, hi, hG, hEo, ho2, rfl⟩
        refine .seq <| .region <| .cons (.ls rfl rfl rfl) <| .nil <| ks_n <| .seq ?_
        refine .cD rfl (fun h55 => ?_) (fun h55 => ?_)
        ·skip
         obtain ⟨p, hp1⟩ : ∃ x_, (npR q.1)[i]? = some x_ := ⟨_, List.getElem?_eq_getElem (by omega)⟩
         have hpm := List.mem_of_getElem? hp1
         have hpt := npR_pt hpm
         have hnl := npR_len q.1
         refine .skip <| ks_n <| .seq <| .block <| .seq <| .region <| .cons (.xL 35 1 24 rfl rfl rfl rfl rfl) ?_
         refine .cons (.l1 1 rfl rfl) <| .cons (.asg rfl rfl) <| .nil <| ks_n <| .seq <| .seq <| .region <| .cons (.mv rfl rfl) <| .cons (.cP [.tmp 58] rfl rfl rfl rfl (isPoint_fn _) rfl) ?_
         refine .cons (.nt rfl rfl) <| .nil <| ks_n ?_
         refine ACode.condT rfl (fun h60 => ?_) (fun h60 => ?_)
         ·try simp only [zs1, zs2, zs3, zs4, zs5, zs6, zs7] at h60
          refine .seq ?_
          obtain ⟨hO, hN⟩ := prgV_f (g := g) (prgS_f3 hqm (prtV_f4 hpm (by assumption)))
          refine .region <| .cons (.asg rfl rfl) <| .cons (.asg rfl rfl) <| .nil <| ks_n <| .ret <| ks_r <| kb_r <| ks_r <| kl_r <| kb_r <| kb_r <| ks_r <| kl_r <| kb_r <| ks_r ?_
          refine kf_wret [(.t 2, .v (.o (vD (dNs (insV g))))), (.t 3, .v (.o (bo1 (prgV g))))] (Wk.keep [] rfl rfl ⟨ks rfl (.c (Cto.nilE 3 (by first | (rw [hN]; rfl) | (rw [hN, hEz]; rfl)))), ks rfl (.dt (by first | exact congrArg (fun b => V.o (bo1 b)) hO.symm | exact congrArg (fun b => V.o (bo1 b)) (by rw [hO, hEz, decide_eq_decide]; simp) | exact congrArg (fun b => V.o (bo1 b)) (by rw [hO, hEz, decide_eq_decide]; omega))), trivial⟩) rfl ?_ nobox
          rfl
         ·try simp only [zs1, zs2, zs3, zs4, zs5, zs6, zs7] at h60
          refine .skip <| ks_n <| .seq <| .region <| .cons (.fP 1 0 false rfl rfl) <| .cons (.l1 1 rfl rfl) <| .cons (.ln 96 9 152 rfl rfl rfl) <| .cons (.mv rfl rfl) <| .nil <| ks_n <| .block ?_
          refine .loopK (fun m σ => (∃ (j : Nat) (o3 : List Ins), m = q.2.length - j ∧ (j ≤ q.2.length) ∧ (∀ t s, t < j → q.2[t]? = some s → stmG g.1 s p = true) ∧ (o2 ++ rowI k j p = o3) ∧ (o3.length ≤ 480 * k + 4 * i + j) ∧ σ = [(.t 1, .v (.o (.c (.ptr (rG g))))), (.t 4, .v (.o (.c (.own 130 3 (o3.length))))), (.t 5, .v (.o (nat1 (k : Nat)))), (.t 6, .v (.o (.c (.ptr (rP q))))), (.t 10, .v (.o (vD (dIs p)))), (.t 24, .v (.o (vD (dPts g.2)))), (.t 25, .v (.o (nat1 (g.2.length : Nat)))), (.t 26, .v (.o (nat1 (k : Nat)))), (.t 52, .v (.o (vD (dPs (npR q.1))))), (.t 53, .v (.o (nat1 ((npR q.1).length : Nat)))), (.t 54, .v (.o (nat1 (i : Nat)))), (.t 62, .v (.o (vD (dMs q.2)))), (.t 63, .v (.o (nat1 (q.2.length : Nat)))), (.t 64, .v (.o (nat1 (j : Nat)))), (.b 130, .b 86 3 (dR (o3.map rN))), (.u 130, .u)])) [(130, 120)] ⟨0, o2, rfl, by omega, fun t s ht _ => absurd ht (by omega), by simp [rowI_zero], by omega, rfl⟩ ⟨ks rfl .dt, ks rfl (.c .ow), ks rfl .dt, ks rfl .dt, ks rfl .dt, ks rfl .dt, ks rfl .dt, ks rfl .dt, ks rfl .dt, ks rfl .dt, ks rfl .dt, ks rfl .dt, ks rfl .dt, ks rfl .dt, kb 120 rfl (.dt rfl (by first | rfl | (simp [dR, rN, dI]; done))), trivial⟩ ?_
          rintro m σ ⟨j, o3, hm0, hj, hH, hEp, ho3, rfl⟩
          refine .seq <| .region <| .cons (.ls rfl rfl rfl) <| .nil <| ks_n <| .seq ?_
          refine .cD rfl (fun h65 => ?_) (fun h65 => ?_)
          ·skip
           obtain ⟨s, hs1⟩ : ∃ x_, q.2[j]? = some x_ := ⟨_, List.getElem?_eq_getElem (by omega)⟩
           have hsm := List.mem_of_getElem? hs1
           have hsv := hv3 s hsm
           refine .skip <| ks_n <| .seq <| .block <| .seq <| .region <| .cons (.mv rfl rfl) <| .cons (.xL 96 9 152 rfl rfl rfl rfl rfl) ?_
           refine .cons (.lN 9 rfl rfl rfl) <| .cons (.al 112 [.string ByteArray.empty, .slice none 0 0, .int .i64 0, .int .i64 0, .slice none 0 0, .int .i64 0, .string ByteArray.empty, .slice none 0 0, .slice none 0 0] rfl rfl rfl) <| .cons (.asg rfl rfl) <| .cons (.sT 9 true rfl rfl rfl rfl rfl rfl rfl) <| .nil <| ks_n <| .seq <| .seq <| .region <| .cons (.lN 2 rfl rfl rfl) <| .cons (.bN 9 rfl rfl rfl rfl rfl rfl) <| .cons (.mv rfl rfl) <| .cons (.cP [.tmp 69, .tmp 70, .tmp 71] rfl rfl rfl rfl (sok_fn hA hsv hpt.1 hpt.2) rfl) ?_
           refine .cons (.nt rfl rfl) <| .nil <| ks_n ?_
           refine ACode.condT rfl (fun h73 => ?_) (fun h73 => ?_)
           ·try simp only [zs1, zs2, zs3, zs4, zs5, zs6, zs7] at h73
            refine .seq ?_
            obtain ⟨hO, hN⟩ := prgV_f (g := g) (prgS_f3 hqm (prtV_f5 hpm hsm (by assumption)))
            refine .region <| .cons (.asg rfl rfl) <| .cons (.asg rfl rfl) <| .nil <| ks_n <| .ret <| ks_r <| kb_r <| ks_r <| kl_r <| kb_r <| kb_r <| ks_r <| kl_r <| kb_r <| kb_r <| ks_r <| kl_r <| kb_r <| ks_r ?_
            refine kf_wret [(.t 2, .v (.o (vD (dNs (insV g))))), (.t 3, .v (.o (bo1 (prgV g))))] (Wk.keep [] rfl rfl ⟨ks rfl (.c (Cto.nilE 3 (by first | (rw [hN]; rfl) | (rw [hN, hEz]; rfl)))), ks rfl (.dt (by first | exact congrArg (fun b => V.o (bo1 b)) hO.symm | exact congrArg (fun b => V.o (bo1 b)) (by rw [hO, hEz, decide_eq_decide]; simp) | exact congrArg (fun b => V.o (bo1 b)) (by rw [hO, hEz, decide_eq_decide]; omega))), trivial⟩) rfl ?_ nobox
            rfl
           ·try simp only [zs1, zs2, zs3, zs4, zs5, zs6, zs7] at h73
            have hST : stmG g.1 s p = true := by assumption
            refine .skip <| ks_n <| .region <| .cons (.mv rfl rfl) <| .cons (.mv rfl rfl) <| .cons (.mv rfl rfl) <| .cons (.mv rfl rfl) <| .cons (.cP [.tmp 77] rfl rfl rfl rfl (cloneInts_fn p (by omega)) rfl) ?_
            refine .cons (.bu [(0, .tmp 75), (1, .tmp 76), (2, .tmp 78)] [(0, 1), (1, 1), (2, 1)] [.int .i64 0, .int .i64 0, .slice none 0 0] rfl rfl rfl rfl rfl) <| .cons (.li 86 2 0 [.tmp 79] rfl rfl rfl rfl rfl rfl) <| .cons (St1.appB (k' := 181) (e := 86) (sz := 2) (by' := 40) rfl rfl rfl rfl rfl (by kernel_rfl) rfl rfl rfl rfl (by first | (simp [dR]; done) | (simp [dR]; omega)) (by first | (simp [dR]; done) | (simp [dR]; omega)) rfl rfl rfl) ?_
            refine .cons (.asg rfl rfl) <| .nil <| kb_n <| ks_n <| .region <| .cons (.pl rfl rfl rfl) <| .cons (.mv rfl rfl) <| .nil ?_
            refine kl_k [(130, 181)] ⟨j + 1, o3 ++ [((k : Int), ((j : Nat) : Int), p)], rfl, by omega, fun t s' ht hs' => (Nat.lt_succ_iff_lt_or_eq.1 ht).elim (fun h => hH t s' h hs') (fun h => by subst h; rw [hs1] at hs'; cases hs'; exact hST), by rw [rowI_snoc, ← List.append_assoc, hEp], by rw [List.length_append, List.length_singleton]; omega, rfl⟩ ⟨ks rfl .dt, ks rfl (.c .ow), ks rfl .dt, ks rfl .dt, ks rfl .dt, ks rfl .dt, ks rfl .dt, ks rfl .dt, ks rfl .dt, ks rfl .dt, ks rfl .dt, ks rfl .dt, ks rfl .dt, ks rfl .dt, kb 181 rfl (.dt rfl (by first | rfl | (simp [dR, rN, dI]; done))), trivial⟩
          ·skip
           obtain rfl : j = q.2.length := by omega
           have hPT : ptG' g.1 q.2 p = true := by rw [ptG', show isPt p = true by assumption, Bool.true_and]; exact all_of fun j s h => hH j s (List.getElem?_eq_some_iff.1 h).1 h
           refine .exit <| ks_e <| kl_e <| kb_hit <| kb_n <| ks_n <| .region <| .cons (.pl rfl rfl rfl) <| .cons (.mv rfl rfl) <| .nil ?_
           refine kl_k [(120, 130)] ⟨i + 1, o3, rfl, by omega, fun j p' hj hp' => (Nat.lt_succ_iff_lt_or_eq.1 hj).elim (fun h => hG j p' h hp') (fun h => by subst h; rw [hp1] at hp'; cases hp'; exact hPT), by rw [insT_take hp1, ← List.append_assoc, hEo]; exact hEp, by omega, rfl⟩ ⟨ks rfl .dt, ks rfl (.c .ow), ks rfl .dt, ks rfl .dt, ks rfl .dt, ks rfl .dt, ks rfl .dt, ks rfl .dt, ks rfl .dt, ks rfl .dt, kb 130 rfl (.dt rfl (by first | rfl | (simp [dR, rN, dI]; done))), trivial⟩
        ·skip
         obtain rfl : i = (npR q.1).length := by omega
         rw [List.take_length] at hEo
         have hPV : prtV g.1 q = true := by rw [prtV_eq hv1 hv2 (List.all_eq_true.2 hv3)]; exact all_of fun j p h => hG j p (List.getElem?_eq_some_iff.1 h).1 h
         have hnl := npR_len q.1
         refine .exit <| ks_e <| kl_e <| kb_hit <| kb_n <| ks_n <| .region <| .cons (.pl rfl rfl rfl) <| .cons (.mv rfl rfl) <| .nil ?_
         refine kl_k [(110, 120)] (.inr ⟨k + 1, o2, rfl, by omega, fun j q' hj hq' => (Nat.lt_succ_iff_lt_or_eq.1 hj).elim (fun h => hF j q' h hq') (fun h => by subst h; rw [hq1] at hq'; cases hq'; exact hPV), by rw [insG_take hq1, hE]; exact hEo, by omega, rfl⟩) ⟨ks rfl .dt, ks rfl (.c .ow), ks rfl .dt, ks rfl .dt, ks rfl .dt, kb 120 rfl (.dt rfl (by first | rfl | (simp [dR, rN, dI]; done))), trivial⟩
    ·skip
     obtain rfl : k = g.2.length := by omega
     rw [List.take_length] at hE
     have hEz := hE
     obtain ⟨hO, hN⟩ := prgV_t (prgS_eq hA h4 hF)
     refine .exit <| ks_e <| kl_e <| kb_hit <| ks_n <| .seq <| .region <| .cons (.mv rfl rfl) <| .cons (.mv rfl rfl) <| .cons (.lB 86 3 40 rfl rfl rfl rfl) <| .cons (.le rfl rfl rfl) <| .cons (.asg rfl rfl) <| .cons (.asg rfl rfl) <| .nil <| ks_n <| .ret ?_
     refine kf_wret [(.t 2, .v (.o (vD (dNs (insV g))))), (.t 3, .v (.o (bo1 (prgV g))))] (Wk.keep [] rfl rfl ⟨ks rfl (.c (.fz rfl (by first | (rw [hN, hEz]; done) | (rw [hN, hEz]; rfl)) (by rw [hN, hEz, List.length_map]) (by omega))), ks rfl (.dt (by first | exact congrArg (fun b => V.o (bo1 b)) hO.symm | exact congrArg (fun b => V.o (bo1 b)) (by rw [hO, hEz, decide_eq_decide]; simp) | exact congrArg (fun b => V.o (bo1 b)) (by rw [hO, hEz, decide_eq_decide]; omega))), trivial⟩) rfl ?_ nobox
     rfl
def clsV (ar : List Arr) (s : Stm) (p : List Int) : List Int := if stmG ar s p = true then (rdE s.2).map fun a => cellG a p ar 0 else []
def wrV (ar : List Arr) (s : Stm) (p : List Int) : Int := if stmG ar s p = true then cellG s.1 p ar 0 else 0
def cntP (ar : List Arr) (q : Prt) : Int := if prtV ar q = true then (((npR q.1).length * q.2.length : Nat) : Int) else 0
theorem cls_no {ar : List Arr} {s : Stm} {p : List Int} (h : stmG ar s p = false) : clsV ar s p = [] ∧ wrV ar s p = 0 := ⟨if_neg (by rw [h]; simp), if_neg (by rw [h]; simp)⟩
theorem cls_yes {ar : List Arr} {s : Stm} {p : List Int} (h : stmG ar s p = true) : clsV ar s p = (rdE s.2).map (fun a => cellG a p ar 0) ∧ wrV ar s p = cellG s.1 p ar 0 := ⟨if_pos h, if_pos h⟩
theorem accG_no {ar : List Arr} {p : List Int} {a : Acc} (h : cellG a p ar 0 < 0) : accG ar p a = false := decide_eq_false (by omega)
theorem accG_yes {ar : List Arr} {p : List Int} {a : Acc} (h : ¬ cellG a p ar 0 < 0) : accG ar p a = true := decide_eq_true (by omega)
theorem stmG_r {ar : List Arr} {s : Stm} {p : List Int} {a : Acc} (ha : a ∈ rdE s.2) (h : cellG a p ar 0 < 0) : stmG ar s p = false := Bool.eq_false_iff.2 fun h2 => by
  rw [stmG, Bool.and_eq_true] at h2
  have := List.all_eq_true.1 h2.2 a ha
  rw [accG_no h] at this; cases this
theorem stmG_w {ar : List Arr} {s : Stm} {p : List Int} (h : cellG s.1 p ar 0 < 0) : stmG ar s p = false := by rw [stmG, accG_no h]; rfl
theorem stmG_t {ar : List Arr} {s : Stm} {p : List Int} (h : ¬ cellG s.1 p ar 0 < 0) (h2 : ∀ (j : Nat) a, j < (rdE s.2).length → (rdE s.2)[j]? = some a → accG ar p a = true) : stmG ar s p = true := by
  rw [stmG, accG_yes h, Bool.true_and]
  exact all_of fun j a h => h2 j a (List.getElem?_eq_some_iff.1 h).1 h
theorem cntP_no {ar : List Arr} {q : Prt} (h : prtV ar q = false) : cntP ar q = 0 := if_neg (by rw [h]; simp)
theorem cntP_yes {ar : List Arr} {q : Prt} (h : prtV ar q = true) : cntP ar q = (((npR q.1).length * q.2.length : Nat) : Int) := if_pos h
theorem cntP_len {ar : List Arr} {q : Prt} (h : prtV ar q = true) (k : Nat) : cntP ar q = ((insP k q).length : Nat) ∧ (insP k q).length ≤ 480 := by
  obtain ⟨h1, h2⟩ := insP_len (k := k) (prtV_iff.1 h).2.1.2
  exact ⟨by rw [cntP_yes h, h1], h2⟩
theorem np_pts {ns : List Lp} (h : okP ns = true) : nsV ns = true ∧ npR ns = ptsF ns [] [] := by
  have hv := (okP_iff.1 h).1
  exact ⟨hv, (np_yes hv (fun h2 => by rw [np_no1 h2] at h; cases h) (fun h2 => by rw [np_no2 h2] at h; cases h)).2⟩

theorem l4Cells_fn {ar : List Arr} (hv : arrsV ar = true) {D : Int} {s : Stm} {p : List Int} (hs : stmtV D s = true) (hz : szS s ≤ 1073741824) (hS : Small p) (hn : p.length ≤ 4) : Fn Tryz.prog 88 [] [vD (dRs ar), ad (rS s), vD (dIs p)] (.tup [vD (dIs (clsV ar s p)), nat1 (wrV ar s p), bo1 (stmG ar s p)]) [] := by
  obtain ⟨ha, hr, hrl⟩ := stm_accs hs
  have hz2 : szE s.2 ≤ 1073741824 := by have : szS s = szC s.1 + szE s.2 := rfl; omega
  refine Fn.code0 Tryz.func88 rfl rfl rfl rfl ?_
  refine .seq <| .region <| .cons (St1.boxP rfl rfl rfl rfl rfl rfl) <| .cons (.asg rfl rfl) <| .cons (.asg rfl rfl) <| .cons (.asg rfl rfl) <| .nil <| ks_n <| .seq <| .region <| .cons (St1.lit0 (k' := 114) (e := 3) (sz := 1) (b := true) rfl rfl rfl rfl (by kernel_rfl) rfl rfl) ?_
  refine .cons (.asg rfl rfl) <| .nil <| ks_n <| .seq <| .region <| .cons (St1.lit0 (k' := 115) (e := 89) (sz := 2) (b := true) rfl rfl rfl rfl (by kernel_rfl) rfl rfl) ?_
  refine .cons (.fP 2 6 true rfl rfl) <| .cons (.lN 7 rfl rfl rfl) <| .cons (.cO [.tmp 15, .tmp 17] [(0, 115), (1000, 118)] rfl rfl rfl rfl (l3Reads_fn s.2 hz2 [] (by simp; omega)) rfl ⟨rfl, trivial⟩ (hbL_flat _ _) (hbL_flat _ _) (hbL_HB _ _) outS_one) ?_
  refine .cons (.asg rfl rfl) <| .nil <| ks_n <| .seq <| .seq <| .region <| .cons (.asg rfl rfl) <| .nil <| ks_n <| .block ?_
  refine .loopK (fun m σ => (∃ i : Nat, m = (rdE s.2).length - i ∧ (i ≤ (rdE s.2).length) ∧ (∀ j a, j < i → (rdE s.2)[j]? = some a → accG ar p a = true) ∧ σ = [(.t 0, .v (.o (vD (dRs ar)))), (.t 2, .v (.o (vD (dIs p)))), (.t 4, .v (.o (.c (.ptr (rS s))))), (.t 9, .v (.o (.c (.own 110 1 (i))))), (.t 10, .v (.o (vD (dCs (rdE s.2))))), (.t 11, .v (.o (nat1 (i : Nat)))), (.b 110, .b 3 1 (dR (((rdE s.2).take i).map fun a => rI (cellG a p ar 0)))), (.u 110, .u)])) [(110, 114)] ⟨0, rfl, by omega, fun j a hj _ => absurd hj (by omega), rfl⟩ ⟨ks rfl .dt, ks rfl .dt, ks rfl .dt, ks rfl (.c .ow), ks rfl (.c (.fz rfl rfl (by simp) (by simp; omega))), ks rfl .dt, kb 114 rfl (.dt rfl (by first | exact dR_take (fun a : Acc => rI (cellG a p ar 0)) hx1 | exact dR_take1 (fun a : Acc => rI (cellG a p ar 0)) hx1 | rfl | (simp [dR]; done))), trivial⟩ ?_
  rintro m σ ⟨i, hm0, hi, hF, rfl⟩
  refine .seq <| .seq <| .region <| .cons (.mv rfl rfl) <| .cons (.mv rfl rfl) <| .cons (.ln 89 2 40 rfl rfl rfl) <| .cons (.ls rfl rfl rfl) <| .nil <| ks_n ?_
  refine .cD rfl (fun h22 => ?_) (fun h22 => ?_)
  · skip
    obtain ⟨x, hx1⟩ : ∃ x_, (rdE s.2)[i]? = some x_ := ⟨_, List.getElem?_eq_getElem (by omega)⟩
    refine .skip <| ks_n <| .seq <| .block <| .seq <| .region <| .cons (.mv rfl rfl) <| .cons (.mv rfl rfl) <| .cons (.mv rfl rfl) <| .cons (.xL 89 2 40 rfl rfl rfl rfl rfl) ?_
    refine .cons (.lN 2 rfl rfl rfl) <| .cons (.mv rfl rfl) <| .cons (.cP [.tmp 25, .tmp 29, .tmp 30] rfl rfl rfl rfl (l4Cell_fn hv (hr x (List.mem_of_getElem? hx1)) hS hn) rfl) ?_
    refine .cons (.asg rfl rfl) <| .nil <| ks_n <| .seq <| .seq <| .region <| .cons (.mv rfl rfl) <| .cons (.ls rfl rfl rfl) <| .nil <| ks_n ?_
    refine .cD rfl (fun h33 => ?_) (fun h33 => ?_)
    · skip
      refine .seq ?_
      have hG := stmG_r (List.mem_of_getElem? hx1) h33
      obtain ⟨hC, hW⟩ := cls_no hG
      refine .region <| .cons (St1.lit0D (e := 3) (sz := 1) (b := true) rfl rfl rfl rfl (by kernel_rfl)) ?_
      refine .cons (.asg rfl rfl) <| .cons (.asg rfl rfl) <| .cons (.asg rfl rfl) <| .nil <| ks_n <| .ret <| ks_r <| kb_r <| ks_r <| kl_r <| kb_r <| ks_r ?_
      refine kf_wret [(.t 6, .v (.o (vD (dIs (clsV ar s p))))), (.t 7, .v (.o (nat1 (wrV ar s p)))), (.t 8, .v (.o (bo1 (stmG ar s p))))] (Wk.keep [] rfl rfl ⟨ks rfl (.dt (by rw [hC]; rfl)), ks rfl (.dt (by rw [hW])), ks rfl (.dt (by rw [hG])), trivial⟩) rfl ?_ nobox
      rfl
    · skip
      refine .skip <| ks_n <| .region <| .cons (.mv rfl rfl) <| .cons (.mv rfl rfl) <| .cons (.li 3 0 0 [.tmp 36] rfl rfl rfl rfl rfl rfl) <| .cons (St1.appB (k' := 138) (e := 3) (sz := 0) (by' := 8) rfl rfl rfl rfl rfl (by kernel_rfl) rfl rfl rfl rfl (by first | (simp [dR]; done) | (simp [dR]; omega)) (by first | (simp [dR]; done) | (simp [dR]; omega)) rfl rfl rfl) ?_
      refine .cons (.asg rfl rfl) <| .nil <| kb_n <| ks_n <| .region <| .cons (.mv rfl rfl) <| .cons (.pl rfl rfl rfl) <| .cons (.asg rfl rfl) <| .nil ?_
      refine kl_k [(110, 138)] ⟨i + 1, rfl, by omega, fun j a' hj h' => (Nat.lt_succ_iff_lt_or_eq.1 hj).elim (fun h => hF j a' h h') (fun h => by subst h; rw [hx1] at h'; cases h'; exact accG_yes h33), rfl⟩ ⟨ks rfl .dt, ks rfl .dt, ks rfl .dt, ks rfl (.c .ow), ks rfl .dt, ks rfl .dt, kb 138 rfl (.dt rfl (by first | exact dR_take (fun a : Acc => rI (cellG a p ar 0)) hx1 | exact dR_take1 (fun a : Acc => rI (cellG a p ar 0)) hx1 | rfl | (simp [dR]; done))), trivial⟩
  · skip
    obtain rfl : i = (rdE s.2).length := by omega
    refine .exit <| ks_e <| kl_e <| kb_hit <| ks_n <| .seq <| .region <| .cons (.mv rfl rfl) <| .cons (.fP 0 1 true rfl rfl) <| .cons (.lN 2 rfl rfl rfl) <| .cons (.mv rfl rfl) <| .cons (.cP [.tmp 39, .tmp 41, .tmp 42] rfl rfl rfl rfl (l4Cell_fn hv ha hS hn) rfl) ?_
    refine .cons (.asg rfl rfl) <| .nil <| ks_n <| .seq <| .seq <| .region <| .cons (.mv rfl rfl) <| .cons (.ls rfl rfl rfl) <| .nil <| ks_n ?_
    refine .cD rfl (fun h45 => ?_) (fun h45 => ?_)
    · skip
      refine .seq ?_
      have hG : stmG ar s p = false := stmG_w h45
      obtain ⟨hC, hW⟩ := cls_no hG
      refine .region <| .cons (St1.lit0D (e := 3) (sz := 1) (b := true) rfl rfl rfl rfl (by kernel_rfl)) ?_
      refine .cons (.asg rfl rfl) <| .cons (.asg rfl rfl) <| .cons (.asg rfl rfl) <| .nil <| ks_n <| .ret <| ks_r ?_
      refine kf_wret [(.t 6, .v (.o (vD (dIs (clsV ar s p))))), (.t 7, .v (.o (nat1 (wrV ar s p)))), (.t 8, .v (.o (bo1 (stmG ar s p))))] (Wk.keep [] rfl rfl ⟨ks rfl (.dt (by rw [hC]; rfl)), ks rfl (.dt (by rw [hW])), ks rfl (.dt (by rw [hG])), trivial⟩) rfl ?_ nobox
      rfl
    · skip
      refine .skip <| ks_n <| .seq ?_
      have hG := stmG_t h45 hF
      obtain ⟨hC, hW⟩ := cls_yes hG
      refine .region <| .cons (.mv rfl rfl) <| .cons (.mv rfl rfl) <| .cons (.asg rfl rfl) <| .cons (.asg rfl rfl) <| .cons (.asg rfl rfl) <| .nil <| ks_n <| .ret ?_
      refine kf_wret [(.t 6, .v (.o (vD (dIs (clsV ar s p))))), (.t 7, .v (.o (nat1 (wrV ar s p)))), (.t 8, .v (.o (bo1 (stmG ar s p))))] (Wk.keep [] rfl rfl ⟨ks rfl (.c (.fz rfl (by rw [hC]; first | rfl | (rw [List.take_length, List.map_map]; rfl)) (by rw [hC]; simp) (by omega))), ks rfl (.dt (by rw [hW])), ks rfl (.dt (by rw [hG])), trivial⟩) rfl ?_ nobox
      rfl

theorem l4Part_fn {ar : List Arr} (hv : arrsV ar = true) {q : Prt} (hs : szPt q ≤ 1073741824) : Fn Tryz.prog 87 [] [vD (dRs ar), ad (rP q)] (.tup [nat1 (cntP ar q), bo1 (prtV ar q)]) [] := by
 have hqe : szPt q = szLs q.1 + szO szS q.2 := rfl
 have hbg := sz_bg (ns := q.1) (by omega)
 have hql := szO_len (f := szS) q.2
 have hnl := npR_len q.1
 refine Fn.code0 Tryz.func87 rfl rfl rfl rfl ?_
 refine .seq <| .region <| .cons (St1.boxP rfl rfl rfl rfl rfl rfl) <| .cons (.asg rfl rfl) <| .cons (.asg rfl rfl) <| .nil <| ks_n <| .seq <| .region <| .cons (.fP 0 0 false rfl rfl) <| .cons (.l1 1 rfl rfl) <| .cons (.cP [.tmp 15] rfl rfl rfl rfl (specNestPts_B q.1 hbg) rfl) ?_
 refine .cons (.mv rfl rfl) <| .cons (.ex rfl rfl rfl) <| .cons (.ex rfl rfl rfl) <| .cons (.asg rfl rfl) <| .cons (.asg rfl rfl) <| .nil <| ks_n <| .seq <| .seq <| .region <| .cons (.mv rfl rfl) <| .cons (.nt rfl rfl) <| .cons (.mv rfl rfl) ?_
 refine AOps.cases 21 _ rfl (fun g21 => ?_) (fun g21 => ?_)
 ·try simp only [zs1, zs2, zs3, zs4, zs5, zs6, zs7] at g21
  refine .cons (.gF rfl rfl rfl) <| .cons (.gF rfl rfl rfl) <| .cons (.gF rfl rfl rfl) <| .cons (.gF rfl rfl rfl) <| .cons (.pT rfl rfl rfl) <| .cons (.mv rfl rfl) <| .cons (.gF rfl rfl rfl) <| .cons (.gF rfl rfl rfl) <| .cons (.gF rfl rfl rfl) <| .cons (.gF rfl rfl rfl) <| .cons (.pT rfl rfl rfl) <| .nil <| ks_n ?_
  refine ACode.condT rfl (fun _ => ?_) (fun h => by first | (cases h; done) | (simp [*] at h; done) | (exfalso; simp_all; done))
  refine .seq ?_
  have hP : prtV ar q = false := by first | exact prtV_f1 (by assumption) | exact prtV_f2 (by omega)
  have hC := cntP_no hP
  refine .region <| .cons (.asg rfl rfl) <| .cons (.asg rfl rfl) <| .nil <| ks_n <| .ret <| ks_r ?_
  refine kf_wret [(.t 4, .v (.o (nat1 (cntP ar q)))), (.t 5, .v (.o (bo1 (prtV ar q))))] (Wk.keep [] rfl rfl ⟨ks rfl (.dt (by first | (rw [hC]; done) | (rw [hC]; rfl) | (rw [hC]; exact congrArg (fun z => V.o (nat1 z)) (by rw [Int.natCast_mul])))), ks rfl (.dt (by rw [hP])), trivial⟩) rfl ?_ nobox
  rfl
 ·try simp only [zs1, zs2, zs3, zs4, zs5, zs6, zs7] at g21
  refine .cons (.gT rfl rfl rfl (.fP 1 0 false rfl rfl)) <| .cons (.gT rfl rfl rfl (.l1 1 rfl rfl)) <| .cons (.gT rfl rfl rfl (.ln 96 9 152 rfl rfl rfl)) <| .cons (.gT rfl rfl rfl (.ls rfl rfl rfl)) <| .cons (.pF rfl rfl rfl) <| .cons (.mv rfl rfl) ?_
  refine AOps.cases 27 _ rfl (fun g27 => ?_) (fun g27 => ?_)
  ·try simp only [zs1, zs2, zs3, zs4, zs5, zs6, zs7] at g27
   refine .cons (.gF rfl rfl rfl) <| .cons (.gF rfl rfl rfl) <| .cons (.gF rfl rfl rfl) <| .cons (.gF rfl rfl rfl) <| .cons (.pT rfl rfl rfl) <| .nil <| ks_n ?_
   refine ACode.condT rfl (fun _ => ?_) (fun h => by first | (cases h; done) | (simp [*] at h; done) | (exfalso; simp_all; done))
   refine .seq ?_
   have hP : prtV ar q = false := by first | exact prtV_f1 (by assumption) | exact prtV_f2 (by omega)
   have hC := cntP_no hP
   refine .region <| .cons (.asg rfl rfl) <| .cons (.asg rfl rfl) <| .nil <| ks_n <| .ret <| ks_r ?_
   refine kf_wret [(.t 4, .v (.o (nat1 (cntP ar q)))), (.t 5, .v (.o (bo1 (prtV ar q))))] (Wk.keep [] rfl rfl ⟨ks rfl (.dt (by first | (rw [hC]; done) | (rw [hC]; rfl) | (rw [hC]; exact congrArg (fun z => V.o (nat1 z)) (by rw [Int.natCast_mul])))), ks rfl (.dt (by rw [hP])), trivial⟩) rfl ?_ nobox
   rfl
  ·try simp only [zs1, zs2, zs3, zs4, zs5, zs6, zs7] at g27
   refine .cons (.gT rfl rfl rfl (.fP 1 0 false rfl rfl)) <| .cons (.gT rfl rfl rfl (.l1 1 rfl rfl)) <| .cons (.gT rfl rfl rfl (.ln 96 9 152 rfl rfl rfl)) <| .cons (.gT rfl rfl rfl (.gt rfl rfl rfl)) <| .cons (.pF rfl rfl rfl) <| .nil <| ks_n ?_
   refine ACode.condT rfl (fun h32 => ?_) (fun h32 => ?_)
   ·try simp only [zs1, zs2, zs3, zs4, zs5, zs6, zs7] at h32
    refine .seq ?_
    have hP : prtV ar q = false := by first | exact prtV_f1 (by assumption) | exact prtV_f2 (by omega)
    have hC := cntP_no hP
    refine .region <| .cons (.asg rfl rfl) <| .cons (.asg rfl rfl) <| .nil <| ks_n <| .ret <| ks_r ?_
    refine kf_wret [(.t 4, .v (.o (nat1 (cntP ar q)))), (.t 5, .v (.o (bo1 (prtV ar q))))] (Wk.keep [] rfl rfl ⟨ks rfl (.dt (by first | (rw [hC]; done) | (rw [hC]; rfl) | (rw [hC]; exact congrArg (fun z => V.o (nat1 z)) (by rw [Int.natCast_mul])))), ks rfl (.dt (by rw [hP])), trivial⟩) rfl ?_ nobox
    rfl
   ·try simp only [zs1, zs2, zs3, zs4, zs5, zs6, zs7] at h32
    have hv1 : okP q.1 = true := by first | assumption | simp_all
    have hv2 : 1 ≤ q.2.length ∧ q.2.length ≤ 4 := by omega
    have hmb := Nat.mul_le_mul hnl hv2.2
    refine .skip <| ks_n <| .seq <| .seq <| .region <| .cons (.asg rfl rfl) <| .nil <| ks_n <| .block ?_
    refine .loopK (fun m σ => (∃ i : Nat, m = q.2.length - i ∧ (i ≤ q.2.length) ∧ (∀ j s, j < i → q.2[j]? = some s → stmtV (q.1.length : Nat) s = true ∧ ∀ p ∈ npR q.1, stmG ar s p = true ∧ isPt p = true) ∧ σ = [(.t 0, .v (.o (vD (dRs ar)))), (.t 3, .v (.o (.c (.ptr (rP q))))), (.t 6, .v (.o (vD (dPs (npR q.1))))), (.t 8, .v (.o (nat1 (i : Nat))))])) [] ⟨0, rfl, by omega, fun j s hj _ => absurd hj (by omega), rfl⟩ ⟨ks rfl .dt, ks rfl .dt, ks rfl .dt, ks rfl .dt, trivial⟩ ?_
    rintro m σ ⟨i, hm0, hi, hF, rfl⟩
    refine .seq <| .seq <| .region <| .cons (.mv rfl rfl) <| .cons (.fP 1 0 false rfl rfl) <| .cons (.l1 1 rfl rfl) <| .cons (.ln 96 9 152 rfl rfl rfl) <| .cons (.ls rfl rfl rfl) <| .nil <| ks_n ?_
    refine .cD rfl (fun h37 => ?_) (fun h37 => ?_)
    ·skip
     obtain ⟨s, hs1⟩ : ∃ x_, q.2[i]? = some x_ := ⟨_, List.getElem?_eq_getElem (by omega)⟩
     have hsm := List.mem_of_getElem? hs1
     have hss := szO_mem (f := szS) hsm
     refine .skip <| ks_n <| .seq <| .block <| .seq <| .seq ?_
     refine ACode.drawK (by kernel_rfl) (by kernel_rfl) ?_
     refine .cons (.fP 1 0 false rfl rfl) <| .cons (.l1 1 rfl rfl) <| .cons (.mv rfl rfl) <| .cons (.xL 96 9 152 rfl rfl rfl rfl rfl) ?_
     refine .cons (.lN 9 rfl rfl rfl) <| .cons (.fP 0 0 false rfl rfl) <| .cons (.l1 1 rfl rfl) <| .cons (.ln 172 2 48 rfl rfl rfl) <| .cons (.cP [.tmp 44, .tmp 47] rfl rfl rfl rfl (specStmtV_fn (q.1.length : Nat) s (by omega)) rfl) ?_
     refine .cons (.nt rfl rfl) ?_
     refine .nil ⟨by kernel_rfl, ?_⟩
     refine ks_n ?_
     refine ACode.condT rfl (fun h49 => ?_) (fun h49 => ?_)
     ·try simp only [zs1, zs2, zs3, zs4, zs5, zs6, zs7] at h49
      refine .seq ?_
      have hP := prtV_f3 (ar := ar) hsm (by assumption)
      have hC := cntP_no hP
      refine .region <| .cons (.asg rfl rfl) <| .cons (.asg rfl rfl) <| .nil <| ks_n <| .ret <| ks_r <| kb_r <| ks_r <| kl_r <| kb_r <| ks_r ?_
      refine kf_wret [(.t 4, .v (.o (nat1 (cntP ar q)))), (.t 5, .v (.o (bo1 (prtV ar q))))] (Wk.keep [] rfl rfl ⟨ks rfl (.dt (by first | (rw [hC]; done) | (rw [hC]; rfl) | (rw [hC]; exact congrArg (fun z => V.o (nat1 z)) (by rw [Int.natCast_mul])))), ks rfl (.dt (by rw [hP])), trivial⟩) rfl ?_ nobox
      rfl
     ·try simp only [zs1, zs2, zs3, zs4, zs5, zs6, zs7] at h49
      have hsv : stmtV (q.1.length : Nat) s = true := by assumption
      refine .skip <| ks_n <| .seq <| .region <| .cons (.asg rfl rfl) <| .nil <| ks_n <| .block ?_
      refine .loopK (fun m σ => (∃ k : Nat, m = (npR q.1).length - k ∧ (k ≤ (npR q.1).length) ∧ (∀ j p, j < k → (npR q.1)[j]? = some p → stmG ar s p = true ∧ isPt p = true) ∧ σ = [(.t 0, .v (.o (vD (dRs ar)))), (.t 3, .v (.o (.c (.ptr (rP q))))), (.t 6, .v (.o (vD (dPs (npR q.1))))), (.t 8, .v (.o (nat1 (i : Nat)))), (.t 9, .v (.o (nat1 (k : Nat))))])) [] ⟨0, rfl, by omega, fun j p hj _ => absurd hj (by omega), rfl⟩ ⟨ks rfl .dt, ks rfl .dt, ks rfl .dt, ks rfl .dt, ks rfl .dt, trivial⟩ ?_
      rintro m σ ⟨k, hm0, hk, hG, rfl⟩
      refine .seq <| .seq <| .region <| .cons (.mv rfl rfl) <| .cons (.mv rfl rfl) <| .cons (.ln 35 1 24 rfl rfl rfl) <| .cons (.ls rfl rfl rfl) <| .nil <| ks_n ?_
      refine .cD rfl (fun h53 => ?_) (fun h53 => ?_)
      ·skip
       obtain ⟨p, hp1⟩ : ∃ x_, (npR q.1)[k]? = some x_ := ⟨_, List.getElem?_eq_getElem (by omega)⟩
       have hpm := List.mem_of_getElem? hp1
       have hpt := npR_pt hpm
       refine .skip <| ks_n <| .seq <| .block <| .seq ?_
       refine ACode.drawK (by kernel_rfl) (by kernel_rfl) ?_
       refine .cons (.mv rfl rfl) <| .cons (.fP 1 0 false rfl rfl) <| .cons (.l1 1 rfl rfl) <| .cons (.mv rfl rfl) <| .cons (.xL 96 9 152 rfl rfl rfl rfl rfl) ?_
       refine .cons (.lN 9 rfl rfl rfl) <| .cons (.mv rfl rfl) <| .cons (.mv rfl rfl) <| .cons (.xL 35 1 24 rfl rfl rfl rfl rfl) ?_
       refine .cons (.l1 1 rfl rfl) <| .cons (.cP [.tmp 57, .tmp 62, .tmp 66] rfl rfl rfl rfl (l4Cells_fn hv hsv (by omega) hpt.1 hpt.2) rfl) ?_
       refine .cons (.mv rfl rfl) <| .cons (.ex rfl rfl rfl) <| .cons (.ex rfl rfl rfl) <| .cons (.ex rfl rfl rfl) <| .cons (.asg rfl rfl) <| .cons (.asg rfl rfl) <| .cons (.asg rfl rfl) ?_
       refine .nil ⟨by kernel_rfl, ?_⟩
       refine ks_n <| .seq <| .region <| .cons (.mv rfl rfl) <| .cons (.nt rfl rfl) <| .cons (.mv rfl rfl) ?_
       refine AOps.cases 73 _ rfl (fun g73 => ?_) (fun g73 => ?_)
       ·try simp only [zs1, zs2, zs3, zs4, zs5, zs6, zs7] at g73
        refine .cons (.gF rfl rfl rfl) <| .cons (.gF rfl rfl rfl) <| .cons (.gF rfl rfl rfl) <| .cons (.gF rfl rfl rfl) <| .cons (.gF rfl rfl rfl) <| .cons (.gF rfl rfl rfl) <| .cons (.pT rfl rfl rfl) <| .nil <| ks_n ?_
        refine ACode.condT rfl (fun _ => ?_) (fun h => by first | (cases h; done) | (simp [*] at h; done) | (exfalso; simp_all; done))
        refine .seq ?_
        have hP : prtV ar q = false := by first | exact prtV_f5 hpm hsm (by assumption) | exact prtV_f4 hpm (by assumption)
        have hC := cntP_no hP
        refine .region <| .cons (.asg rfl rfl) <| .cons (.asg rfl rfl) <| .nil <| ks_n <| .ret <| kb_r <| ks_r <| kl_r <| kb_r <| kb_r <| ks_r <| kl_r <| kb_r <| ks_r ?_
        refine kf_wret [(.t 4, .v (.o (nat1 (cntP ar q)))), (.t 5, .v (.o (bo1 (prtV ar q))))] (Wk.keep [] rfl rfl ⟨ks rfl (.dt (by first | (rw [hC]; done) | (rw [hC]; rfl) | (rw [hC]; exact congrArg (fun z => V.o (nat1 z)) (by rw [Int.natCast_mul])))), ks rfl (.dt (by rw [hP])), trivial⟩) rfl ?_ nobox
        rfl
       ·try simp only [zs1, zs2, zs3, zs4, zs5, zs6, zs7] at g73
        refine .cons (.gT rfl rfl rfl (.mv rfl rfl)) <| .cons (.gT rfl rfl rfl (.mv rfl rfl)) <| .cons (.gT rfl rfl rfl (.xL 35 1 24 rfl rfl rfl rfl rfl)) ?_
        refine .cons (.gT rfl rfl rfl (.l1 1 rfl rfl)) <| .cons (.gT rfl rfl rfl (.cP [.tmp 77] rfl rfl rfl rfl (l1Point_fn _) rfl)) ?_
        refine .cons (.gT rfl rfl rfl (.nt rfl rfl)) <| .cons (.pF rfl rfl rfl) <| .nil <| ks_n ?_
        refine ACode.condT rfl (fun h80 => ?_) (fun h80 => ?_)
        ·try simp only [zs1, zs2, zs3, zs4, zs5, zs6, zs7] at h80
         refine .seq ?_
         have hP : prtV ar q = false := by first | exact prtV_f5 hpm hsm (by assumption) | exact prtV_f4 hpm (by assumption)
         have hC := cntP_no hP
         refine .region <| .cons (.asg rfl rfl) <| .cons (.asg rfl rfl) <| .nil <| ks_n <| .ret <| kb_r <| ks_r <| kl_r <| kb_r <| kb_r <| ks_r <| kl_r <| kb_r <| ks_r ?_
         refine kf_wret [(.t 4, .v (.o (nat1 (cntP ar q)))), (.t 5, .v (.o (bo1 (prtV ar q))))] (Wk.keep [] rfl rfl ⟨ks rfl (.dt (by first | (rw [hC]; done) | (rw [hC]; rfl) | (rw [hC]; exact congrArg (fun z => V.o (nat1 z)) (by rw [Int.natCast_mul])))), ks rfl (.dt (by rw [hP])), trivial⟩) rfl ?_ nobox
         rfl
        ·try simp only [zs1, zs2, zs3, zs4, zs5, zs6, zs7] at h80
         have hSG : stmG ar s p = true := by first | assumption | simp_all
         have hPT : isPt p = true := by first | assumption | simp_all
         refine .skip <| kb_n <| ks_n <| .region <| .cons (.mv rfl rfl) <| .cons (.pl rfl rfl rfl) <| .cons (.asg rfl rfl) <| .nil ?_
         refine kl_k [] ⟨k + 1, rfl, by omega, fun j p' hj h' => (Nat.lt_succ_iff_lt_or_eq.1 hj).elim (fun h => hG j p' h h') (fun h => by subst h; rw [hp1] at h'; cases h'; exact ⟨hSG, hPT⟩), rfl⟩ ⟨ks rfl .dt, ks rfl .dt, ks rfl .dt, ks rfl .dt, ks rfl .dt, trivial⟩
      ·skip
       have hAll : ∀ p ∈ npR q.1, stmG ar s p = true ∧ isPt p = true := fun p hp => by obtain ⟨j, hj⟩ := List.mem_iff_getElem?.1 hp; exact hG j p (by have := (List.getElem?_eq_some_iff.1 hj).1; omega) hj
       refine .exit <| ks_e <| kl_e <| kb_hit <| kb_n <| ks_n <| .region <| .cons (.mv rfl rfl) <| .cons (.pl rfl rfl rfl) <| .cons (.asg rfl rfl) <| .nil ?_
       refine kl_k [] ⟨i + 1, rfl, by omega, fun j s' hj h' => (Nat.lt_succ_iff_lt_or_eq.1 hj).elim (fun h => hF j s' h h') (fun h => by subst h; rw [hs1] at h'; cases h'; exact ⟨hsv, hAll⟩), rfl⟩ ⟨ks rfl .dt, ks rfl .dt, ks rfl .dt, ks rfl .dt, trivial⟩
    ·skip
     have hP : prtV ar q = true := prtV_iff.2 ⟨hv1, hv2, fun s hs => by obtain ⟨j, hj⟩ := List.mem_iff_getElem?.1 hs; exact (hF j s (by have := (List.getElem?_eq_some_iff.1 hj).1; omega) hj).1, fun p hp => ⟨by obtain ⟨s, hs⟩ : ∃ s, q.2[0]? = some s := ⟨_, List.getElem?_eq_getElem (by omega)⟩; exact ((hF 0 s (by omega) hs).2 p hp).2, fun s hs => by obtain ⟨j, hj⟩ := List.mem_iff_getElem?.1 hs; exact ((hF j s (by have := (List.getElem?_eq_some_iff.1 hj).1; omega) hj).2 p hp).1⟩⟩
     have hC := cntP_yes hP
     refine .exit <| ks_e <| kl_e <| kb_hit <| ks_n <| .seq <| .region <| .cons (.mv rfl rfl) <| .cons (.ln 35 1 24 rfl rfl rfl) <| .cons (.fP 1 0 false rfl rfl) <| .cons (.l1 1 rfl rfl) <| .cons (.ln 96 9 152 rfl rfl rfl) <| .cons (.ml rfl rfl rfl (by omega)) ?_
     refine .cons (.asg rfl rfl) <| .cons (.asg rfl rfl) <| .nil <| ks_n <| .ret ?_
     refine kf_wret [(.t 4, .v (.o (nat1 (cntP ar q)))), (.t 5, .v (.o (bo1 (prtV ar q))))] (Wk.keep [] rfl rfl ⟨ks rfl (.dt (by first | (rw [hC]; done) | (rw [hC]; rfl) | (rw [hC]; exact congrArg (fun z => V.o (nat1 z)) (by rw [Int.natCast_mul])))), ks rfl (.dt (by rw [hP])), trivial⟩) rfl ?_ nobox
     rfl

theorem specPV_fn {g : Prg} (hs : szG g ≤ 1073741824) : Fn Tryz.prog 50 [] [ad (rG g)] (.o (bo1 (prgV g))) [] := by
 have h1 := szO_len (f := szR) g.1
 have h2 := szO_len (f := szPt) g.2
 have hsz : szG g = szO szR g.1 + szO szPt g.2 := rfl
 refine Fn.code0 Tryz.func50 rfl rfl rfl rfl ?_
 refine .seq <| .region <| .cons (St1.boxP rfl rfl rfl rfl rfl rfl) <| .cons (.asg rfl rfl) <| .nil <| ks_n <| .seq <| .seq <| .region <| .cons (.fP 0 0 false rfl rfl) <| .cons (.l1 1 rfl rfl) <| .cons (.cP [.tmp 8] rfl rfl rfl rfl (l4Arrays_fn g.1 (by omega) (fun x hx => by have := szO_mem (f := szR) hx; have e : szR x = x.1.size + x.2.length := rfl; omega)) rfl) ?_
 refine .cons (.nt rfl rfl) <| .cons (.mv rfl rfl) ?_
 refine AOps.cases 11 _ rfl (fun g11 => ?_) (fun g11 => ?_)
 ·try simp only [zs1, zs2, zs3, zs4, zs5, zs6, zs7] at g11
  refine .cons (.gF rfl rfl rfl) <| .cons (.gF rfl rfl rfl) <| .cons (.gF rfl rfl rfl) <| .cons (.gF rfl rfl rfl) <| .cons (.pT rfl rfl rfl) <| .nil <| ks_n ?_
  refine ACode.condT rfl (fun _ => ?_) (fun h => by first | (cases h; done) | (simp [*] at h; done) | (exfalso; simp_all; done))
  refine .seq ?_
  obtain ⟨hO, hN⟩ := prgV_f (g := g) (by first | exact prgS_f2 (show ¬ g.2.length ≤ 4 by omega) | exact prgS_f1 (by assumption))
  refine .region <| .cons (.asg rfl rfl) <| .nil <| ks_n <| .ret <| ks_r ?_
  refine kf_ret rfl ?_ nobox
  exact leafB (by rw [hO]; try (rw [decide_eq_decide]; omega))
 ·try simp only [zs1, zs2, zs3, zs4, zs5, zs6, zs7] at g11
  refine .cons (.gT rfl rfl rfl (.fP 1 0 false rfl rfl)) <| .cons (.gT rfl rfl rfl (.l1 1 rfl rfl)) <| .cons (.gT rfl rfl rfl (.ln 104 2 48 rfl rfl rfl)) <| .cons (.gT rfl rfl rfl (.gt rfl rfl rfl)) <| .cons (.pF rfl rfl rfl) <| .nil <| ks_n ?_
  refine ACode.condT rfl (fun h16 => ?_) (fun h16 => ?_)
  ·try simp only [zs1, zs2, zs3, zs4, zs5, zs6, zs7] at h16
   refine .seq ?_
   obtain ⟨hO, hN⟩ := prgV_f (g := g) (by first | exact prgS_f2 (show ¬ g.2.length ≤ 4 by omega) | exact prgS_f1 (by assumption))
   refine .region <| .cons (.asg rfl rfl) <| .nil <| ks_n <| .ret <| ks_r ?_
   refine kf_ret rfl ?_ nobox
   exact leafB (by rw [hO]; try (rw [decide_eq_decide]; omega))
  ·try simp only [zs1, zs2, zs3, zs4, zs5, zs6, zs7] at h16
   have hA : arrsV g.1 = true := by first | assumption | simp_all
   have h4 : g.2.length ≤ 4 := by omega
   refine .skip <| ks_n <| .seq <| .region <| .cons (.asg rfl rfl) <| .nil <| ks_n <| .seq <| .seq <| .region <| .cons (.asg rfl rfl) <| .nil <| ks_n <| .block ?_
   refine .loopK (fun m σ => (∃ (k : Nat) (t : Int), m = g.2.length - k ∧ (k ≤ g.2.length) ∧ (∀ j q, j < k → g.2[j]? = some q → prtV g.1 q = true) ∧ (t = ((insG 0 (g.2.take k)).length : Nat)) ∧ (0 ≤ t ∧ t ≤ 480 * k) ∧ σ = [(.t 1, .v (.o (.c (.ptr (rG g))))), (.t 2, .v (.o (bo1 false))), (.t 3, .v (.o (nat1 t))), (.t 4, .v (.o (nat1 (k : Nat))))])) [] ⟨0, 0, rfl, by omega, fun j q hj _ => absurd hj (by omega), rfl, by omega, rfl⟩ ⟨ks rfl .dt, ks rfl .dt, ks rfl .dt, ks rfl .dt, trivial⟩ ?_
   rintro m σ ⟨k, t, hm0, hk, hF, hT, hb, rfl⟩
   refine .seq <| .seq <| .region <| .cons (.mv rfl rfl) <| .cons (.fP 1 0 false rfl rfl) <| .cons (.l1 1 rfl rfl) <| .cons (.ln 104 2 48 rfl rfl rfl) <| .cons (.ls rfl rfl rfl) <| .nil <| ks_n ?_
   refine .cD rfl (fun h21 => ?_) (fun h21 => ?_)
   ·skip
    obtain ⟨q, hq1⟩ : ∃ x_, g.2[k]? = some x_ := ⟨_, List.getElem?_eq_getElem (by omega)⟩
    have hqm := List.mem_of_getElem? hq1
    have hqs := szO_mem (f := szPt) hqm
    refine .skip <| ks_n <| .seq <| .block <| .seq ?_
    refine ACode.drawK (by kernel_rfl) (by kernel_rfl) ?_
    refine .cons (.fP 0 0 false rfl rfl) <| .cons (.l1 1 rfl rfl) <| .cons (.fP 1 0 false rfl rfl) <| .cons (.l1 1 rfl rfl) <| .cons (.mv rfl rfl) <| .cons (.xL 104 2 48 rfl rfl rfl rfl rfl) ?_
    refine .cons (.lN 2 rfl rfl rfl) <| .cons (.cP [.tmp 26, .tmp 31] rfl rfl rfl rfl (l4Part_fn hA (by omega)) rfl) ?_
    refine .cons (.mv rfl rfl) <| .cons (.ex rfl rfl rfl) <| .cons (.ex rfl rfl rfl) <| .cons (.asg rfl rfl) <| .cons (.asg rfl rfl) ?_
    refine .nil ⟨by kernel_rfl, ?_⟩
    refine ks_n <| .seq <| .seq <| .region <| .cons (.mv rfl rfl) <| .cons (.nt rfl rfl) <| .nil <| ks_n ?_
    refine ACode.condT rfl (fun h36 => ?_) (fun h36 => ?_)
    ·try simp only [zs1, zs2, zs3, zs4, zs5, zs6, zs7] at h36
     refine .seq ?_
     obtain ⟨hO, hN⟩ := prgV_f (prgS_f3 hqm (by assumption))
     refine .region <| .cons (.asg rfl rfl) <| .nil <| ks_n <| .ret <| ks_r <| kb_r <| ks_r <| kl_r <| kb_r <| ks_r ?_
     refine kf_ret rfl ?_ nobox
     exact leafB (by rw [hO]; try (rw [decide_eq_decide]; omega))
    ·try simp only [zs1, zs2, zs3, zs4, zs5, zs6, zs7] at h36
     have hPV : prtV g.1 q = true := by assumption
     have hcl := cntP_len hPV k
     refine .skip <| ks_n <| .region <| .cons (.mv rfl rfl) <| .cons (.mv rfl rfl) <| .cons (.pl rfl rfl rfl) <| .cons (.asg rfl rfl) <| .nil <| kb_n <| ks_n <| .region <| .cons (.mv rfl rfl) <| .cons (.pl rfl rfl rfl) <| .cons (.asg rfl rfl) <| .nil ?_
     refine kl_k [] ⟨k + 1, t + cntP g.1 q, rfl, by omega, fun j q' hj h' => (Nat.lt_succ_iff_lt_or_eq.1 hj).elim (fun h => hF j q' h h') (fun h => by subst h; rw [hq1] at h'; cases h'; exact hPV), by rw [insG_take hq1, List.length_append, hT, hcl.1]; omega, by omega, rfl⟩ ⟨ks rfl .dt, ks rfl .dt, ks rfl .dt, ks rfl .dt, trivial⟩
   ·skip
    obtain rfl : k = g.2.length := by omega
    rw [List.take_length] at hT
    obtain ⟨hO, hN⟩ := prgV_t (prgS_eq hA h4 hF)
    refine .exit <| ks_e <| kl_e <| kb_hit <| ks_n <| .seq <| .region <| .cons (.mv rfl rfl) <| .cons (.le rfl rfl rfl) <| .cons (.asg rfl rfl) <| .nil <| ks_n <| .ret ?_
    refine kf_ret rfl ?_ nobox
    exact leafB (by rw [hO]; try (rw [decide_eq_decide]; omega))

theorem l4Instances_fn {g : Prg} (hg : prgS g = true) : Fn Tryz.prog 69 [] [ad (rG g)] (.o (vD (dNs (insG 0 g.2)))) [] := by
  obtain ⟨hA, h4, hP⟩ := prgS_iff.1 hg
  refine Fn.code0 Tryz.func69 rfl rfl rfl rfl ?_
  refine .seq <| .region <| .cons (St1.boxP rfl rfl rfl rfl rfl rfl) <| .cons (.asg rfl rfl) <| .nil <| ks_n <| .seq <| .region <| .cons (St1.lit0 (k' := 108) (e := 86) (sz := 3) (b := true) rfl rfl rfl rfl (by kernel_rfl) rfl rfl) ?_
  refine .cons (.asg rfl rfl) <| .nil <| ks_n <| .seq <| .seq <| .region <| .cons (.asg rfl rfl) <| .nil <| ks_n <| .block ?_
  refine .loopK (fun m σ => (∃ (k : Nat) (o : List Ins), m = g.2.length - k ∧ (k ≤ g.2.length) ∧ (insG 0 (g.2.take k) = o) ∧ (o.length ≤ 480 * k) ∧ σ = [(.t 1, .v (.o (.c (.ptr (rG g))))), (.t 3, .v (.o (.c (.own 110 3 (o.length))))), (.t 4, .v (.o (nat1 (k : Nat)))), (.b 110, .b 86 3 (dR (o.map rN))), (.u 110, .u)])) [(110, 108)] ⟨0, [], rfl, by omega, rfl, by simp, rfl⟩ ⟨ks rfl .dt, ks rfl (.c .ow), ks rfl .dt, kb 108 rfl (.dt rfl (by first | rfl | (simp [dR, rN, dI]; done) | (simp [dR, rN, dI]; rfl))), trivial⟩ ?_
  rintro m σ ⟨k, o, hm0, hk, hE, ho, rfl⟩
  refine .seq <| .seq <| .region <| .cons (.mv rfl rfl) <| .cons (.fP 1 0 false rfl rfl) <| .cons (.l1 1 rfl rfl) <| .cons (.ln 104 2 48 rfl rfl rfl) <| .cons (.ls rfl rfl rfl) <| .nil <| ks_n ?_
  refine .cD rfl (fun h13 => ?_) (fun h13 => ?_)
  · skip
    obtain ⟨q, hq1⟩ : ∃ x_, g.2[k]? = some x_ := ⟨_, List.getElem?_eq_getElem (by omega)⟩
    have hqm := List.mem_of_getElem? hq1
    have hqv := prtV_iff.1 (hP q hqm)
    have hnp := np_pts hqv.1
    have hnl := npR_len q.1
    have hq4 := hqv.2.1
    refine .skip <| ks_n <| .seq <| .block <| .seq <| .region <| .cons (St1.lit0 (k' := 116) (e := 35) (sz := 1) (b := true) rfl rfl rfl rfl (by kernel_rfl) rfl rfl) ?_
    refine .cons (.fP 1 0 false rfl rfl) <| .cons (.l1 1 rfl rfl) <| .cons (.mv rfl rfl) <| .cons (.xL 104 2 48 rfl rfl rfl rfl rfl) ?_
    refine .cons (.fP 0 0 false rfl rfl) <| .cons (.l1 1 rfl rfl) <| .cons (.cO [.tmp 16, .tmp 22, .const (.slice none 0 0)] [(0, 116), (1000, 123)] rfl rfl rfl rfl (Fn.nilArg (pre := [.c (.own 0 1 0), vD (dLs q.1)]) (post := []) (sz := 1) (l2Points_fn hnp.1 q.1 [] [] rfl (by simp) PB.nil (by simp))) rfl (hbIn_one rfl) (hbPt_flat _ _) (hbPt_flat _ _) (hbPt_HB _ _) outS_one) ?_
    refine .cons (.asg rfl rfl) <| .nil <| ks_n <| .seq <| .region <| .cons (.asg rfl rfl) <| .nil <| ks_n <| .block ?_
    refine .loopK (fun m σ => (∃ (i : Nat) (o2 : List Ins), m = (npR q.1).length - i ∧ (i ≤ (npR q.1).length) ∧ (o ++ insT k q.2.length ((npR q.1).take i) = o2) ∧ (o2.length ≤ 480 * k + 4 * i) ∧ σ = [(.t 1, .v (.o (.c (.ptr (rG g))))), (.t 3, .v (.o (.c (.own 120 3 (o2.length))))), (.t 4, .v (.o (nat1 (k : Nat)))), (.t 5, .v (.o (vD (dPs (npR q.1))))), (.t 6, .v (.o (nat1 (i : Nat)))), (.b 120, .b 86 3 (dR (o2.map rN))), (.u 120, .u)])) [(120, 110)] ⟨0, o, rfl, by omega, by simp [insT], by omega, rfl⟩ ⟨ks rfl .dt, ks rfl (.c .ow), ks rfl .dt, ks rfl (.c (.fz rfl (by first | (rw [hnp.2]; done) | (rw [hnp.2]; rfl)) (by rw [hnp.2, List.length_map]) (by rw [← hnp.2]; omega))), ks rfl .dt, kb 110 rfl (.dt rfl (by first | rfl | (simp [dR, rN, dI]; done) | (simp [dR, rN, dI]; rfl))), trivial⟩ ?_
    rintro m σ ⟨i, o2, hm0, hi, hEo, ho2, rfl⟩
    refine .seq <| .seq <| .region <| .cons (.mv rfl rfl) <| .cons (.mv rfl rfl) <| .cons (.ln 35 1 24 rfl rfl rfl) <| .cons (.ls rfl rfl rfl) <| .nil <| ks_n ?_
    refine .cD rfl (fun h27 => ?_) (fun h27 => ?_)
    · skip
      obtain ⟨p, hp1⟩ : ∃ x_, (npR q.1)[i]? = some x_ := ⟨_, List.getElem?_eq_getElem (by omega)⟩
      have hpt := npR_pt (List.mem_of_getElem? hp1)
      refine .skip <| ks_n <| .seq <| .block <| .seq <| .region <| .cons (.asg rfl rfl) <| .nil <| ks_n <| .block ?_
      refine .loopK (fun m σ => (∃ (j : Nat) (o3 : List Ins), m = q.2.length - j ∧ (j ≤ q.2.length) ∧ (o2 ++ rowI k j p = o3) ∧ (o3.length ≤ 480 * k + 4 * i + j) ∧ σ = [(.t 1, .v (.o (.c (.ptr (rG g))))), (.t 3, .v (.o (.c (.own 130 3 (o3.length))))), (.t 4, .v (.o (nat1 (k : Nat)))), (.t 5, .v (.o (vD (dPs (npR q.1))))), (.t 6, .v (.o (nat1 (i : Nat)))), (.t 7, .v (.o (nat1 (j : Nat)))), (.b 130, .b 86 3 (dR (o3.map rN))), (.u 130, .u)])) [(130, 120)] ⟨0, o2, rfl, by omega, by simp [rowI_zero], by omega, rfl⟩ ⟨ks rfl .dt, ks rfl (.c .ow), ks rfl .dt, ks rfl .dt, ks rfl .dt, ks rfl .dt, kb 120 rfl (.dt rfl (by first | rfl | (simp [dR, rN, dI]; done) | (simp [dR, rN, dI]; rfl))), trivial⟩ ?_
      rintro m σ ⟨j, o3, hm0, hj, hEp, ho3, rfl⟩
      refine .seq <| .seq <| .region <| .cons (.mv rfl rfl) <| .cons (.fP 1 0 false rfl rfl) <| .cons (.l1 1 rfl rfl) <| .cons (.mv rfl rfl) <| .cons (.xL 104 2 48 rfl rfl rfl rfl rfl) ?_
      refine .cons (.fP 1 0 false rfl rfl) <| .cons (.l1 1 rfl rfl) <| .cons (.ln 96 9 152 rfl rfl rfl) <| .cons (.ls rfl rfl rfl) <| .nil <| ks_n ?_
      refine .cD rfl (fun h38 => ?_) (fun h38 => ?_)
      · skip
        refine .skip <| ks_n <| .seq <| .block <| .region <| .cons (.mv rfl rfl) <| .cons (.mv rfl rfl) <| .cons (.mv rfl rfl) <| .cons (St1.lit0 (k' := 144) (e := 3) (sz := 1) (b := true) rfl rfl rfl rfl (by kernel_rfl) rfl rfl) ?_
        refine .cons (.mv rfl rfl) <| .cons (.mv rfl rfl) <| .cons (.xL 35 1 24 rfl rfl rfl rfl rfl) ?_
        refine .cons (.l1 1 rfl rfl) <| .cons (St1.appD (rows := []) (e := 3) (sz := 0) (by' := 8) rfl rfl rfl rfl rfl (by kernel_rfl) rfl rfl rfl rfl (by simp) (by simp; omega) rfl) ?_
        refine .cons (.bu [(0, .tmp 42), (1, .tmp 43), (2, .tmp 49)] [(0, 1), (1, 1), (2, 1)] [.int .i64 0, .int .i64 0, .slice none 0 0] rfl rfl rfl rfl rfl) <| .cons (.li 86 2 0 [.tmp 50] rfl rfl rfl rfl rfl rfl) <| .cons (St1.appB (k' := 152) (e := 86) (sz := 2) (by' := 40) rfl rfl rfl rfl rfl (by kernel_rfl) rfl rfl rfl rfl (by first | (simp [dR]; done) | (simp [dR]; omega)) (by first | (simp [dR]; done) | (simp [dR]; omega)) rfl rfl rfl) ?_
        refine .cons (.asg rfl rfl) <| .nil <| kb_n <| ks_n <| .region <| .cons (.mv rfl rfl) <| .cons (.pl rfl rfl rfl) <| .cons (.asg rfl rfl) <| .nil ?_
        refine kl_k [(130, 152)] ⟨j + 1, o3 ++ [((k : Int), ((j : Nat) : Int), p)], rfl, by omega, by rw [rowI_snoc, ← List.append_assoc, hEp], by rw [List.length_append, List.length_singleton]; omega, rfl⟩ ⟨ks rfl .dt, ks rfl (.c .ow), ks rfl .dt, ks rfl .dt, ks rfl .dt, ks rfl .dt, kb 152 rfl (.dt rfl (by first | rfl | (simp [dR, rN, dI]; done) | (simp [dR, rN, dI]; rfl))), trivial⟩
      · skip
        obtain rfl : j = q.2.length := by omega
        refine .exit <| ks_e <| kl_e <| kb_hit <| kb_n <| ks_n <| .region <| .cons (.mv rfl rfl) <| .cons (.pl rfl rfl rfl) <| .cons (.asg rfl rfl) <| .nil ?_
        refine kl_k [(120, 130)] ⟨i + 1, o3, rfl, by omega, by rw [insT_take hp1, ← List.append_assoc, hEo]; exact hEp, by omega, rfl⟩ ⟨ks rfl .dt, ks rfl (.c .ow), ks rfl .dt, ks rfl .dt, ks rfl .dt, kb 130 rfl (.dt rfl (by first | rfl | (simp [dR, rN, dI]; done) | (simp [dR, rN, dI]; rfl))), trivial⟩
    · skip
      obtain rfl : i = (npR q.1).length := by omega
      rw [List.take_length] at hEo
      refine .exit <| ks_e <| kl_e <| kb_hit <| kb_n <| ks_n <| .region <| .cons (.mv rfl rfl) <| .cons (.pl rfl rfl rfl) <| .cons (.asg rfl rfl) <| .nil ?_
      refine kl_k [(110, 120)] ⟨k + 1, o2, rfl, by omega, by rw [insG_take hq1, hE]; exact hEo, by omega, rfl⟩ ⟨ks rfl .dt, ks rfl (.c .ow), ks rfl .dt, kb 120 rfl (.dt rfl (by first | rfl | (simp [dR, rN, dI]; done) | (simp [dR, rN, dI]; rfl))), trivial⟩
  · skip
    obtain rfl : k = g.2.length := by omega
    rw [List.take_length] at hE
    refine .exit <| ks_e <| kl_e <| kb_hit <| ks_n <| .seq <| .region <| .cons (.mv rfl rfl) <| .cons (.asg rfl rfl) <| .nil <| ks_n <| .ret ?_
    refine kf_wret [(.t 2, .v (.o (vD (dNs (insG 0 g.2)))))] (Wk.keep [] rfl rfl ⟨ks rfl (.c (.fz rfl (by rw [hE]) (by rw [hE, List.length_map]) (by omega))), trivial⟩) rfl ?_ nobox
    rfl
/-- The statement of an instance. -/
def stI (g : Prg) (x : Ins) : Stm := match (g.2[x.1.toNat]?).bind fun q => q.2[x.2.1.toNat]? with | some s => s | none => ((ByteArray.empty, []), .mk 0 0 ([], 0) (ByteArray.empty, []) [])
theorem stI_eq {g : Prg} {x : Ins} {k c : Nat} {q : Prt} {s : Stm} (h1 : x.1 = (k : Int)) (hq : g.2[k]? = some q) (h2 : x.2.1 = (c : Int)) (hs : q.2[c]? = some s) : stI g x = s := by
  rw [stI, h1, h2, Int.toNat_natCast, Int.toNat_natCast, hq, Option.bind_some, hs]
structure InsOk (g : Prg) (x : Ins) (k c : Nat) (q : Prt) : Prop where
  e1 : x.1 = (k : Int)
  hq : g.2[k]? = some q
  e2 : x.2.1 = (c : Int)
  hs : q.2[c]? = some (stI g x)
  pt : x.2.2 ∈ npR q.1
  sv : stmtV (q.1.length : Nat) (stI g x) = true
  ok : stmG g.1 (stI g x) x.2.2 = true
  ip : isPt x.2.2 = true
  hk : k < g.2.length
  hc : c < q.2.length
theorem ins_at {g : Prg} {x : Ins} (hg : prgS g = true) (hx : x ∈ insG 0 g.2) : ∃ k c q, InsOk g x k c q := by
  obtain ⟨k, q, c, h1, h2, h3, h4, h5⟩ := insG_mem hx
  rw [Nat.zero_add] at h2
  obtain ⟨s, hs⟩ : ∃ s, q.2[c]? = some s := ⟨_, List.getElem?_eq_getElem h4⟩
  have e := stI_eq h2 h1 h3 hs
  have hp := prtV_iff.1 ((prgS_iff.1 hg).2.2 q (List.mem_of_getElem? h1))
  have hm := List.mem_of_getElem? hs
  exact ⟨k, c, q, h2, h1, h3, by rw [e]; exact hs, h5, by rw [e]; exact hp.2.2.1 s hm, by rw [e]; exact (hp.2.2.2 _ h5).2 s hm, (hp.2.2.2 _ h5).1, (List.getElem?_eq_some_iff.1 h1).1, h4⟩
theorem stI_sz {g : Prg} {x : Ins} {k c : Nat} {q : Prt} (h : InsOk g x k c q) : szS (stI g x) ≤ szG g := by
  have h1 := szO_mem (f := szS) (List.mem_of_getElem? h.hs)
  have h2 := szO_mem (f := szPt) (List.mem_of_getElem? h.hq)
  have e1 : szPt q = szLs q.1 + szO szS q.2 := rfl
  have e2 : szG g = szO szR g.1 + szO szPt g.2 := rfl
  omega

theorem stmt_fn {g : Prg} {x : Ins} {k c : Nat} {q : Prt} (h : InsOk g x k c q) : Fn Tryz.prog 60 [] [ad (rG g), ad (rN x)] (.o (ad (rS (stI g x)))) [] := by
 refine Fn.code0 Tryz.func60 rfl rfl rfl rfl ?_
 refine .seq <| .region <| .cons (St1.boxP rfl rfl rfl rfl rfl rfl) <| .cons (St1.boxP rfl rfl rfl rfl rfl rfl) <| .cons (.al 104 [.string ByteArray.empty, .slice none 0 0, .int .i64 0, .int .i64 0, .slice none 0 0, .int .i64 0, .string ByteArray.empty, .slice none 0 0, .slice none 0 0] rfl rfl rfl) <| .nil <| ks_n <| .seq ?_
 refine ACode.drawK (by kernel_rfl) (by kernel_rfl) ?_
 refine .cons (.fP 1 0 false rfl rfl) <| .cons (.l1 1 rfl rfl) <| .cons (.fP 0 0 false rfl rfl) <| .cons (.l1 1 rfl rfl) <| .cons (.xL 104 2 48 (i := k) rfl rfl rfl rfl h.e1 (map_at h.hq)) ?_
 refine .cons (.fP 1 0 false rfl rfl) <| .cons (.l1 1 rfl rfl) <| .cons (.fP 1 0 false rfl rfl) <| .cons (.l1 1 rfl rfl) <| .cons (.xL 96 9 152 (i := c) rfl rfl rfl rfl h.e2 (map_at h.hs)) ?_
 refine .cons (.lN 9 rfl rfl rfl) <| .cons (.sT 9 true rfl rfl rfl rfl rfl rfl rfl) ?_
 refine .nil ⟨by kernel_rfl, ?_⟩
 refine ks_n <| .ret ?_
 refine kf_ret rfl ?_ nobox
 rfl
def rB (b : Bool) : List D := [dB b]
def dBs (l : List Bool) : D := .list 1 (l.map rB)
/-- The cells that an instance reads, the one that it writes. -/
def usR (g : Prg) (x : Ins) : List Int := (rdE (stI g x).2).map fun a => cellG a x.2.2 g.1 0
def usW (g : Prg) (x : Ins) : Int := cellG (stI g x).1 x.2.2 g.1 0
def usRs (g : Prg) : Pts := (insG 0 g.2).map (usR g)
def usWs (g : Prg) : List Int := (insG 0 g.2).map (usW g)
def rU (u : List Int × Int) : List D := [dIs u.1, dI u.2]
def dUs (l : List (List Int × Int)) : D := .list 2 (l.map rU)
def usG (g : Prg) (x : Ins) : List Int × Int := (usR g x, usW g x)
def usL (g : Prg) : List (List Int × Int) := (insG 0 g.2).map (usG g)
/-- A traced program. -/
def rT (g : Prg) : List D := [dRs g.1, dPts g.2, dNs (insG 0 g.2), dPs (usRs g), dIs (usWs g)]
theorem usR_len {g : Prg} {x : Ins} {k c : Nat} {q : Prt} (h : InsOk g x k c q) : (usR g x).length ≤ 12 := by
  rw [usR, List.length_map]; exact (stm_accs h.sv).2.2
theorem dR_setB (l : List Bool) (i : Nat) (x y : Bool) : (dR (l.map rB)).set i (place1 ((rB x).map C.d) 0 (bo1 y).cells) = dR ((l.set i y).map rB) := by
  unfold dR
  rw [List.map_set, List.map_set]
  rfl
theorem dR_repB (n : Nat) : dR (List.replicate n [dB false]) = dR ((List.replicate n false).map rB) := by rw [List.map_replicate]; rfl
/-- The places of what is true. -/
def flagN (l : List Bool) (n : Nat) : List Int := ((List.range n).filter fun i => l.getD i false).map fun (i : Nat) => (i : Int)
def flagV (l : List Bool) : List Int := flagN l l.length
theorem flagN_len {l : List Bool} {n : Nat} : (flagN l n).length ≤ n := by
  rw [flagN, List.length_map]
  exact Nat.le_trans (List.length_filter_le _ _) (by simp)
theorem flagN_next {l : List Bool} {n : Nat} {b : Bool} (h : l[n]? = some b) : flagN l (n + 1) = if b = true then flagN l n ++ [(n : Int)] else flagN l n := by
  rw [flagN, List.range_succ, List.filter_append, List.map_append]
  have e : l.getD n false = b := by rw [List.getD, h]; rfl
  cases b with
  | true => rw [if_pos rfl, List.filter_cons_of_pos (by rw [e])]; rfl
  | false => rw [if_neg (by simp), List.filter_cons_of_neg (by rw [e]; simp)]; simp [flagN]
theorem flagV_mem {l : List Bool} {n : Int} : n ∈ flagV l ↔ ∃ i : Nat, n = (i : Int) ∧ i < l.length ∧ l.getD i false = true := by
  rw [flagV, flagN, List.mem_map]
  constructor
  · rintro ⟨i, hi, rfl⟩
    rw [List.mem_filter, List.mem_range] at hi
    exact ⟨i, rfl, hi⟩
  · rintro ⟨i, rfl, hi⟩
    exact ⟨i, by rw [List.mem_filter, List.mem_range]; exact hi, rfl⟩
def hasV (l : List Int) (n : Int) : Bool := l.any fun m => decide (m = n)




theorem insG_len {g : Prg} (h : prgS g = true) : (insG 0 g.2).length ≤ 1920 := by
  obtain ⟨_, h4, hP⟩ := prgS_iff.1 h
  have key : ∀ (l : List Prt) (n : Nat), (∀ q ∈ l, prtV g.1 q = true) → (insG n l).length ≤ 480 * l.length := by
    intro l
    induction l with
    | nil => intro n _; simp [insG]
    | cons q l ih =>
      intro n hq
      have h1 := (cntP_len (hq q (by simp)) n).2
      have h2 := ih (n + 1) fun q' h' => hq q' (by simp [h'])
      rw [insG, List.length_append, List.length_cons]; omega
  have := key g.2 0 hP
  omega
theorem touched_fn {g : Prg} (hv : arrsV g.1 = true) {x : Ins} {k c : Nat} {q : Prt} (hI : InsOk g x k c q) : Fn Tryz.prog 76 [] [ad (rG g), ad (rN x)] (.tup [vD (dIs (usR g x)), nat1 (usW g x)]) [] := by
  obtain ⟨ha, hr, hrl⟩ := stm_accs hI.sv
  have hpt := npR_pt hI.pt
  refine Fn.code0 Tryz.func76 rfl rfl rfl rfl ?_
  refine .seq <| .region <| .cons (St1.boxP rfl rfl rfl rfl rfl rfl) <| .cons (St1.boxP rfl rfl rfl rfl rfl rfl) <| .cons (.asg rfl rfl) <| .cons (.asg rfl rfl) <| .nil <| ks_n <| .seq <| .region <| .cons (.lN 2 rfl rfl rfl) <| .cons (.lN 3 rfl rfl rfl) <| .cons (.cP [.tmp 10, .tmp 11] rfl rfl rfl rfl (stmt_fn hI) rfl) ?_
  refine .cons (.al 106 [.string ByteArray.empty, .slice none 0 0, .int .i64 0, .int .i64 0, .slice none 0 0, .int .i64 0, .string ByteArray.empty, .slice none 0 0, .slice none 0 0] rfl rfl rfl) <| .cons (.sT 9 true rfl rfl rfl rfl rfl rfl rfl) <| .nil <| ks_n <| .seq <| .region <| .cons (.asg rfl rfl) <| .nil <| ks_n <| .seq <| .seq <| .region <| .cons (.fB 2 6 true rfl rfl rfl) <| .cons (.bN 7 rfl rfl rfl rfl rfl rfl) <| .cons (.cP [.tmp 14] rfl rfl rfl rfl (reads_fn (L := 5) _ (by omega) (stmtV_ex hI.sv).1) rfl) ?_
  refine .cons (.ln 89 2 40 rfl rfl rfl) <| .cons (.mv rfl rfl) <| .nil <| ks_n <| .block ?_
  refine .loopK (fun m σ => (∃ i : Nat, m = (rdE (stI g x).2).length - i ∧ (i = 0) ∧ σ = [(.t 2, .v (.o (.c (.ptr (rG g))))), (.t 3, .v (.o (.c (.ptr (rN x))))), (.t 6, .v (.o (.c (.ptr (rS (stI g x)))))), (.t 7, .v (.o (.c (.d (.val (.slice none 0 0)))))), (.t 15, .v (.o (vD (dCs (rdE (stI g x).2))))), (.t 16, .v (.o (nat1 ((rdE (stI g x).2).length : Nat)))), (.t 17, .v (.o (nat1 (i : Nat))))]) ∨ (∃ i : Nat, m = (rdE (stI g x).2).length - i ∧ (1 ≤ i) ∧ (i ≤ (rdE (stI g x).2).length) ∧ σ = [(.t 2, .v (.o (.c (.ptr (rG g))))), (.t 3, .v (.o (.c (.ptr (rN x))))), (.t 6, .v (.o (.c (.ptr (rS (stI g x)))))), (.t 7, .v (.o (.c (.own 110 1 (i))))), (.t 15, .v (.o (vD (dCs (rdE (stI g x).2))))), (.t 16, .v (.o (nat1 ((rdE (stI g x).2).length : Nat)))), (.t 17, .v (.o (nat1 (i : Nat)))), (.b 110, .b 3 1 (dR (((rdE (stI g x).2).take i).map (fun a : Acc => rI (cellG a x.2.2 g.1 0))))), (.u 110, .u)])) [] (.inl ⟨0, rfl, rfl, rfl⟩) ⟨ks rfl .dt, ks rfl .dt, ks rfl (.c (.frzP _ _ _ _ _ _ _ _ rfl (show _ = dR [rS (stI g x)] from rfl) rfl rfl rfl)), ks rfl .dt, ks rfl .dt, ks rfl .dt, ks rfl .dt, trivial⟩ ?_
  rintro m σ (⟨i, hm0, rfl, rfl⟩ | ⟨i, hm0, hi1, hi, rfl⟩)
  · skip
    refine .seq <| .region <| .cons (.ls rfl rfl rfl) <| .nil <| ks_n <| .seq ?_
    refine .cD rfl (fun h18 => ?_) (fun h18 => ?_)
    · skip
      obtain ⟨a, ha1⟩ : ∃ x_, (rdE (stI g x).2)[0]? = some x_ := ⟨_, List.getElem?_eq_getElem (by omega)⟩
      refine .skip <| ks_n <| .seq <| .block <| .seq <| .region <| .cons (.xL 89 2 40 rfl rfl rfl rfl rfl) ?_
      refine .cons (.lN 2 rfl rfl rfl) <| .cons (.al 109 [.string ByteArray.empty, .slice none 0 0] rfl rfl rfl) <| .cons (.sT 2 true rfl rfl rfl rfl rfl rfl rfl) <| .nil <| ks_n <| .region <| .cons (.mv rfl rfl) <| .cons (.lN 2 rfl rfl rfl) <| .cons (.bN 2 rfl rfl rfl rfl rfl rfl) <| .cons (.fP 2 0 false rfl rfl) <| .cons (.l1 1 rfl rfl) <| .cons (.cP [.tmp 22, .tmp 23, .tmp 25] rfl rfl rfl rfl (cell_fn hv (hr a (List.mem_of_getElem? ha1)) hpt.1 hpt.2) rfl) ?_
      refine .cons (.li 3 0 0 [.tmp 26] rfl rfl rfl rfl rfl rfl) <| .cons (St1.appN (k' := 128) (e := 3) (sz := 0) (by' := 8) rfl rfl rfl rfl rfl (by kernel_rfl) rfl rfl rfl (by simp) (by first | (simp [dR]; done) | (simp [dR]; omega)) rfl rfl) ?_
      refine .cons (.asg rfl rfl) <| .nil <| kb_n <| ks_n <| .region <| .cons (.pl rfl rfl rfl) <| .cons (.mv rfl rfl) <| .nil ?_
      refine kl_k [(110, 128)] (.inr ⟨1, rfl, by omega, by omega, rfl⟩) ⟨ks rfl .dt, ks rfl .dt, ks rfl .dt, ks rfl (.c .ow), ks rfl .dt, ks rfl .dt, ks rfl .dt, kb 128 rfl (.dt rfl (by first | exact dR_take (fun a : Acc => rI (cellG a x.2.2 g.1 0)) ha1 | exact dR_take1 (fun a : Acc => rI (cellG a x.2.2 g.1 0)) ha1 | rfl | (simp [dR]; done))), trivial⟩
    · skip
      have hn : usR g x = [] := by rw [usR, List.eq_nil_of_length_eq_zero (show (rdE (stI g x).2).length = 0 by omega)]; rfl
      refine .exit <| ks_e <| kl_e <| kb_hit <| ks_n <| .seq <| .region <| .cons (.mv rfl rfl) <| .cons (.lN 2 rfl rfl rfl) <| .cons (.fP 0 1 true rfl rfl) <| .cons (.lN 2 rfl rfl rfl) <| .cons (.fP 2 0 false rfl rfl) <| .cons (.l1 1 rfl rfl) <| .cons (.cP [.tmp 31, .tmp 33, .tmp 35] rfl rfl rfl rfl (cell_fn hv ha hpt.1 hpt.2) rfl) ?_
      refine .cons (.asg rfl rfl) <| .cons (.asg rfl rfl) <| .nil <| ks_n <| .ret ?_
      refine kf_wret [(.t 4, .v (.o (vD (dIs (usR g x))))), (.t 5, .v (.o (nat1 (usW g x))))] (Wk.keep [] rfl rfl ⟨ks rfl (.c (Cto.nilE 1 (by rw [hn]; rfl))), ks rfl .dt, trivial⟩) rfl ?_ nobox
      rfl
  · skip
    refine .seq <| .region <| .cons (.ls rfl rfl rfl) <| .nil <| ks_n <| .seq ?_
    refine .cD rfl (fun h18 => ?_) (fun h18 => ?_)
    · skip
      obtain ⟨a, ha1⟩ : ∃ x_, (rdE (stI g x).2)[i]? = some x_ := ⟨_, List.getElem?_eq_getElem (by omega)⟩
      refine .skip <| ks_n <| .seq <| .block <| .seq <| .region <| .cons (.xL 89 2 40 rfl rfl rfl rfl rfl) ?_
      refine .cons (.lN 2 rfl rfl rfl) <| .cons (.al 109 [.string ByteArray.empty, .slice none 0 0] rfl rfl rfl) <| .cons (.sT 2 true rfl rfl rfl rfl rfl rfl rfl) <| .nil <| ks_n <| .region <| .cons (.mv rfl rfl) <| .cons (.lN 2 rfl rfl rfl) <| .cons (.bN 2 rfl rfl rfl rfl rfl rfl) <| .cons (.fP 2 0 false rfl rfl) <| .cons (.l1 1 rfl rfl) <| .cons (.cP [.tmp 22, .tmp 23, .tmp 25] rfl rfl rfl rfl (cell_fn hv (hr a (List.mem_of_getElem? ha1)) hpt.1 hpt.2) rfl) ?_
      refine .cons (.li 3 0 0 [.tmp 26] rfl rfl rfl rfl rfl rfl) <| .cons (St1.appB (k' := 128) (e := 3) (sz := 0) (by' := 8) rfl rfl rfl rfl rfl (by kernel_rfl) rfl rfl rfl rfl (by first | (simp [dR]; done) | (simp [dR]; omega)) (by first | (simp [dR]; done) | (simp [dR]; omega)) rfl rfl rfl) ?_
      refine .cons (.asg rfl rfl) <| .nil <| kb_n <| ks_n <| .region <| .cons (.pl rfl rfl rfl) <| .cons (.mv rfl rfl) <| .nil ?_
      refine kl_k [(110, 128)] (.inr ⟨i + 1, rfl, by omega, by omega, rfl⟩) ⟨ks rfl .dt, ks rfl .dt, ks rfl .dt, ks rfl (.c .ow), ks rfl .dt, ks rfl .dt, ks rfl .dt, kb 128 rfl (.dt rfl (by first | exact dR_take (fun a : Acc => rI (cellG a x.2.2 g.1 0)) ha1 | exact dR_take1 (fun a : Acc => rI (cellG a x.2.2 g.1 0)) ha1 | rfl | (simp [dR]; done))), trivial⟩
    · skip
      obtain rfl : i = (rdE (stI g x).2).length := by omega
      refine .exit <| ks_e <| kl_e <| kb_hit <| ks_n <| .seq <| .region <| .cons (.mv rfl rfl) <| .cons (.lN 2 rfl rfl rfl) <| .cons (.fP 0 1 true rfl rfl) <| .cons (.lN 2 rfl rfl rfl) <| .cons (.fP 2 0 false rfl rfl) <| .cons (.l1 1 rfl rfl) <| .cons (.cP [.tmp 31, .tmp 33, .tmp 35] rfl rfl rfl rfl (cell_fn hv ha hpt.1 hpt.2) rfl) ?_
      refine .cons (.asg rfl rfl) <| .cons (.asg rfl rfl) <| .nil <| ks_n <| .ret ?_
      refine kf_wret [(.t 4, .v (.o (vD (dIs (usR g x))))), (.t 5, .v (.o (nat1 (usW g x))))] (Wk.keep [] rfl rfl ⟨ks rfl (.c (.fz rfl (by rw [List.take_length, usR, List.map_map]; rfl) (by simp [usR]) (by omega))), ks rfl .dt, trivial⟩) rfl ?_ nobox
      rfl

theorem trace_no {g : Prg} (hs : szG g ≤ 1073741824) (hV : prgV g = false) : Fn Tryz.prog 38 [] [ad (rG g)] (.tup [.c (.d (.val (.pointer none))), bo1 false]) [] := by
 refine Fn.code0 Tryz.func38 rfl rfl rfl rfl ?_
 refine .seq <| .region <| .cons (St1.boxP rfl rfl rfl rfl rfl rfl) <| .cons (.asg rfl rfl) <| .cons (.asg rfl rfl) <| .nil <| ks_n <| .seq <| .region <| .cons (.lN 2 rfl rfl rfl) <| .cons (.cP [.tmp 12] rfl rfl rfl rfl (instances_fn hs) rfl) ?_
 refine .cons (.mv rfl rfl) <| .cons (.ex rfl rfl rfl) <| .cons (.ex rfl rfl rfl) <| .cons (.asg rfl rfl) <| .cons (.asg rfl rfl) <| .nil <| ks_n <| .seq <| .seq <| .region <| .cons (.mv rfl rfl) <| .cons (.nt rfl rfl) <| .nil <| ks_n ?_
 refine ACode.condT rfl (fun h17 => ?_) (fun h17 => ?_)
 ·try simp only [zs1, zs2, zs3, zs4, zs5, zs6, zs7] at h17
  refine .seq <| .region <| .cons (.asg rfl rfl) <| .cons (.asg rfl rfl) <| .nil <| ks_n <| .ret <| ks_r ?_
  refine kf_ret rfl ?_ nobox
  rfl
 ·try simp only [zs1, zs2, zs3, zs4, zs5, zs6, zs7] at h17
  rw [hV] at h17; cases h17

theorem trace_fn {g : Prg} (hs : szG g ≤ 1073741824) (hV : prgV g = true) : Fn Tryz.prog 38 [] [ad (rG g)] (.tup [.c (.ptr (rT g)), bo1 true]) [] := by
 obtain ⟨hS, hN, hL⟩ := prgV_s hV
 have hv := (prgS_iff.1 hS).1
 refine Fn.code0 Tryz.func38 rfl rfl rfl rfl ?_
 refine .seq <| .region <| .cons (St1.boxP rfl rfl rfl rfl rfl rfl) <| .cons (.asg rfl rfl) <| .cons (.asg rfl rfl) <| .nil <| ks_n <| .seq <| .region <| .cons (.lN 2 rfl rfl rfl) <| .cons (.cP [.tmp 12] rfl rfl rfl rfl (instances_fn hs) rfl) ?_
 refine .cons (.mv rfl rfl) <| .cons (.ex rfl rfl rfl) <| .cons (.ex rfl rfl rfl) <| .cons (.asg rfl rfl) <| .cons (.asg rfl rfl) <| .nil <| ks_n <| .seq <| .seq <| .region <| .cons (.mv rfl rfl) <| .cons (.nt rfl rfl) <| .nil <| ks_n ?_
 refine ACode.condT rfl (fun h17 => ?_) (fun h17 => ?_)
 ·try simp only [zs1, zs2, zs3, zs4, zs5, zs6, zs7] at h17
  rw [hV] at h17; cases h17
 ·try simp only [zs1, zs2, zs3, zs4, zs5, zs6, zs7] at h17
  rw [hN]
  refine .skip <| ks_n <| .seq <| .region <| .cons (.lN 2 rfl rfl rfl) <| .cons (.mv rfl rfl) <| .cons (.bu [(0, .tmp 18), (1, .tmp 19)] [(0, 2), (2, 1), (3, 1), (4, 1)] [.slice none 0 0, .slice none 0 0, .slice none 0 0, .slice none 0 0, .slice none 0 0] rfl rfl rfl rfl rfl) <| .cons (St1.boxB (k' := 121) rfl rfl rfl rfl rfl rfl rfl) <| .cons (.asg rfl rfl) <| .nil <| ks_n <| .seq <| .seq <| .region <| .cons (.mv rfl rfl) <| .cons (.ln 86 3 40 rfl rfl rfl) <| .cons (.mv rfl rfl) <| .nil <| ks_n <| .block ?_
  refine .loopK (fun m σ => (∃ i : Nat, m = (insG 0 g.2).length - i ∧ (i = 0) ∧ σ = [(.t 1, .v (.o (.c (.ptr (rG g))))), (.t 6, .v (.o (.c (.box 110 5 0 0)))), (.t 22, .v (.o (vD (dNs (insG 0 g.2))))), (.t 23, .v (.o (nat1 ((insG 0 g.2).length : Nat)))), (.t 24, .v (.o (nat1 (i : Nat)))), (.b 110, .b 74 5 [[.d (dRs g.1), .d (dPts g.2), .d (dNs (insG 0 g.2)), .d (.val (.slice none 0 0)), .d (.val (.slice none 0 0))]]), (.u 110, .u)]) ∨ (∃ i : Nat, m = (insG 0 g.2).length - i ∧ (1 ≤ i) ∧ (i ≤ (insG 0 g.2).length) ∧ σ = [(.t 1, .v (.o (.c (.ptr (rG g))))), (.t 6, .v (.o (.c (.box 110 5 0 0)))), (.t 22, .v (.o (vD (dNs (insG 0 g.2))))), (.t 23, .v (.o (nat1 ((insG 0 g.2).length : Nat)))), (.t 24, .v (.o (nat1 (i : Nat)))), (.b 111, .b 35 1 (dR (((insG 0 g.2).take i).map (fun x => rIs (usR g x))))), (.u 111, .u), (.b 112, .b 3 1 (dR (((insG 0 g.2).take i).map (fun x => rI (usW g x))))), (.u 112, .u), (.b 110, .b 74 5 [[.d (dRs g.1), .d (dPts g.2), .d (dNs (insG 0 g.2)), .own 111 1 (i), .own 112 1 (i)]]), (.u 110, .u)])) [(110, 121)] (.inl ⟨0, rfl, rfl, rfl⟩) ⟨ks rfl .dt, ks rfl (.c .bx), ks rfl .dt, ks rfl .dt, ks rfl .dt, kb 121 rfl (.cons (.cons .dt (.cons .dt (.cons .dt (.cons .dt (.cons .dt Ctos.nil))))) .nil), trivial⟩ ?_
  rintro m σ (⟨i, hm0, rfl, rfl⟩ | ⟨i, hm0, hi1, hi, rfl⟩)
  ·skip
   refine .seq <| .region <| .cons (.ls rfl rfl rfl) <| .nil <| ks_n <| .seq ?_
   refine .cD rfl (fun h25 => ?_) (fun h25 => ?_)
   ·skip
    obtain ⟨x, hx1⟩ : ∃ x_, (insG 0 g.2)[0]? = some x_ := ⟨_, List.getElem?_eq_getElem (by omega)⟩
    obtain ⟨k, c, q, hI⟩ := ins_at hS (List.mem_of_getElem? hx1)
    have hsz := stI_sz hI
    refine .skip <| ks_n <| .seq <| .block <| .seq <| .region <| .cons (.xL 86 3 40 rfl rfl rfl rfl rfl) ?_
    refine .cons (.lN 3 rfl rfl rfl) <| .cons (.al 108 [.int .i64 0, .int .i64 0, .slice none 0 0] rfl rfl rfl) <| .cons (.sT 3 true rfl rfl rfl rfl rfl rfl rfl) <| .nil <| ks_n <| .seq <| .region <| .cons (.lN 2 rfl rfl rfl) <| .cons (.bN 3 rfl rfl rfl rfl rfl rfl) <| .cons (.cP [.tmp 29, .tmp 30] rfl rfl rfl rfl (touched_fn hv hI) rfl) ?_
    refine .cons (.mv rfl rfl) <| .cons (.ex rfl rfl rfl) <| .cons (.ex rfl rfl rfl) <| .cons (.asg rfl rfl) <| .cons (.asg rfl rfl) <| .nil <| ks_n ?_
    refine ACode.drawK (by kernel_rfl) (by kernel_rfl) ?_
    refine .cons (.mv rfl rfl) <| .cons (.mv rfl rfl) <| .cons (.mv rfl rfl) <| .cons (.nB rfl rfl rfl) <| .cons (.fB 3 0 false rfl rfl rfl) <| .cons (.b1 1 rfl rfl rfl rfl rfl rfl) <| .cons (.mv rfl rfl) <| .cons (.li 35 0 0 [.tmp 40] rfl rfl rfl rfl rfl rfl) <| .cons (St1.appN (k' := 142) (e := 35) (sz := 0) (by' := 24) rfl rfl rfl rfl rfl (by kernel_rfl) rfl rfl rfl (by simp) (by first | (simp [dR]; done) | (simp [dR]; omega)) rfl rfl) ?_
    refine .cons (.mv rfl rfl) <| .cons (.nB rfl rfl rfl) <| .cons (.fB 4 0 false rfl rfl rfl) <| .cons (.b1 1 rfl rfl rfl rfl rfl rfl) <| .cons (.mv rfl rfl) <| .cons (.li 3 0 0 [.tmp 47] rfl rfl rfl rfl rfl rfl) <| .cons (St1.appN (k' := 149) (e := 3) (sz := 0) (by' := 8) rfl rfl rfl rfl rfl (by kernel_rfl) rfl rfl rfl (by simp) (by first | (simp [dR]; done) | (simp [dR]; omega)) rfl rfl) ?_
    refine .cons (.nB rfl rfl rfl) <| .cons (.fB 3 0 false rfl rfl rfl) <| .cons (.sT 1 false rfl rfl rfl rfl rfl rfl rfl) <| .cons (.nB rfl rfl rfl) <| .cons (.fB 4 0 false rfl rfl rfl) <| .cons (.sT 1 false rfl rfl rfl rfl rfl rfl rfl) ?_
    refine .nil ⟨by kernel_rfl, ?_⟩
    refine kb_n <| ks_n <| .region <| .cons (.pl rfl rfl rfl) <| .cons (.mv rfl rfl) <| .nil ?_
    refine kl_k [(110, 110), (111, 142), (112, 149)] (.inr ⟨1, rfl, by omega, by omega, rfl⟩) ⟨ks rfl .dt, ks rfl (.c .bx), ks rfl .dt, ks rfl .dt, ks rfl .dt, kb 142 rfl (.dt rfl (by first | exact dR_take (fun x => rIs (usR g x)) hx1 | exact dR_take1 (fun x => rIs (usR g x)) hx1 | rfl | (simp [dR]; done))), kb 149 rfl (.dt rfl (by first | exact dR_take (fun x => rI (usW g x)) hx1 | exact dR_take1 (fun x => rI (usW g x)) hx1 | rfl | (simp [dR]; done))), kb 110 rfl (.cons (.cons .dt (.cons .dt (.cons .dt (.cons .ow (.cons .ow Ctos.nil))))) .nil), trivial⟩
   ·skip
    have hn : insG 0 g.2 = [] := List.eq_nil_of_length_eq_zero (by omega)
    refine .exit <| ks_e <| kl_e <| kb_hit <| ks_n <| .seq ?_
    refine .keep [(.t 6, .v (.o (.c (.box 810 5 0 0)))), (.b 810, .b 74 5 [[.d (dRs g.1), .d (dPts g.2), .d (dNs (insG 0 g.2)), .d (dPs (usRs g)), .d (dIs (usWs g))]]), (.u 810, .u)] [(810, 110)] ⟨ks rfl (.c .bx), kb 110 rfl (.cons (.cons .dt (.cons .dt (.cons .dt (.cons (Cto.nilE 1 (by rw [usRs, hn]; rfl)) (.cons (Cto.nilE 1 (by rw [usWs, hn]; rfl)) Ctos.nil))))) .nil), trivial⟩ ?_
    refine .region <| .cons (.mv rfl rfl) <| .cons (.asg rfl rfl) <| .cons (.asg rfl rfl) <| .nil <| ks_n <| .ret ?_
    refine kf_wret [(.t 2, .v (.o (.c (.ptr (rT g))))), (.t 3, .v (.o (bo1 true)))] (Wk.keep [] rfl rfl ⟨ks rfl (.c (.frzP _ _ _ _ _ _ _ _ rfl (show _ = dR [rT g] from rfl) rfl rfl rfl)), ks rfl .dt, trivial⟩) rfl ?_ nobox
    rfl
  ·skip
   refine .seq <| .region <| .cons (.ls rfl rfl rfl) <| .nil <| ks_n <| .seq ?_
   refine .cD rfl (fun h25 => ?_) (fun h25 => ?_)
   ·skip
    obtain ⟨x, hx1⟩ : ∃ x_, (insG 0 g.2)[i]? = some x_ := ⟨_, List.getElem?_eq_getElem (by omega)⟩
    obtain ⟨k, c, q, hI⟩ := ins_at hS (List.mem_of_getElem? hx1)
    have hsz := stI_sz hI
    refine .skip <| ks_n <| .seq <| .block <| .seq <| .region <| .cons (.xL 86 3 40 rfl rfl rfl rfl rfl) ?_
    refine .cons (.lN 3 rfl rfl rfl) <| .cons (.al 108 [.int .i64 0, .int .i64 0, .slice none 0 0] rfl rfl rfl) <| .cons (.sT 3 true rfl rfl rfl rfl rfl rfl rfl) <| .nil <| ks_n <| .seq <| .region <| .cons (.lN 2 rfl rfl rfl) <| .cons (.bN 3 rfl rfl rfl rfl rfl rfl) <| .cons (.cP [.tmp 29, .tmp 30] rfl rfl rfl rfl (touched_fn hv hI) rfl) ?_
    refine .cons (.mv rfl rfl) <| .cons (.ex rfl rfl rfl) <| .cons (.ex rfl rfl rfl) <| .cons (.asg rfl rfl) <| .cons (.asg rfl rfl) <| .nil <| ks_n ?_
    refine ACode.drawK (by kernel_rfl) (by kernel_rfl) ?_
    refine .cons (.mv rfl rfl) <| .cons (.mv rfl rfl) <| .cons (.mv rfl rfl) <| .cons (.nB rfl rfl rfl) <| .cons (.fB 3 0 false rfl rfl rfl) <| .cons (.b1 1 rfl rfl rfl rfl rfl rfl) <| .cons (.mv rfl rfl) <| .cons (.li 35 0 0 [.tmp 40] rfl rfl rfl rfl rfl rfl) <| .cons (St1.appB (k' := 142) (e := 35) (sz := 0) (by' := 24) rfl rfl rfl rfl rfl (by kernel_rfl) rfl rfl rfl rfl (by first | (simp [dR]; done) | (simp [dR]; omega)) (by first | (simp [dR]; done) | (simp [dR]; omega)) rfl rfl rfl) ?_
    refine .cons (.mv rfl rfl) <| .cons (.nB rfl rfl rfl) <| .cons (.fB 4 0 false rfl rfl rfl) <| .cons (.b1 1 rfl rfl rfl rfl rfl rfl) <| .cons (.mv rfl rfl) <| .cons (.li 3 0 0 [.tmp 47] rfl rfl rfl rfl rfl rfl) <| .cons (St1.appB (k' := 149) (e := 3) (sz := 0) (by' := 8) rfl rfl rfl rfl rfl (by kernel_rfl) rfl rfl rfl rfl (by first | (simp [dR]; done) | (simp [dR]; omega)) (by first | (simp [dR]; done) | (simp [dR]; omega)) rfl rfl rfl) ?_
    refine .cons (.nB rfl rfl rfl) <| .cons (.fB 3 0 false rfl rfl rfl) <| .cons (.sT 1 false rfl rfl rfl rfl rfl rfl rfl) <| .cons (.nB rfl rfl rfl) <| .cons (.fB 4 0 false rfl rfl rfl) <| .cons (.sT 1 false rfl rfl rfl rfl rfl rfl rfl) ?_
    refine .nil ⟨by kernel_rfl, ?_⟩
    refine kb_n <| ks_n <| .region <| .cons (.pl rfl rfl rfl) <| .cons (.mv rfl rfl) <| .nil ?_
    refine kl_k [(110, 110), (111, 142), (112, 149)] (.inr ⟨i + 1, rfl, by omega, by omega, rfl⟩) ⟨ks rfl .dt, ks rfl (.c .bx), ks rfl .dt, ks rfl .dt, ks rfl .dt, kb 142 rfl (.dt rfl (by first | exact dR_take (fun x => rIs (usR g x)) hx1 | exact dR_take1 (fun x => rIs (usR g x)) hx1 | rfl | (simp [dR]; done))), kb 149 rfl (.dt rfl (by first | exact dR_take (fun x => rI (usW g x)) hx1 | exact dR_take1 (fun x => rI (usW g x)) hx1 | rfl | (simp [dR]; done))), kb 110 rfl (.cons (.cons .dt (.cons .dt (.cons .dt (.cons .ow (.cons .ow Ctos.nil))))) .nil), trivial⟩
   ·skip
    obtain rfl : i = (insG 0 g.2).length := by omega
    refine .exit <| ks_e <| kl_e <| kb_hit <| ks_n <| .seq ?_
    refine .keep [(.t 6, .v (.o (.c (.box 810 5 0 0)))), (.b 810, .b 74 5 [[.d (dRs g.1), .d (dPts g.2), .d (dNs (insG 0 g.2)), .d (dPs (usRs g)), .d (dIs (usWs g))]]), (.u 810, .u)] [(810, 110)] ⟨ks rfl (.c .bx), kb 110 rfl (.cons (.cons .dt (.cons .dt (.cons .dt (.cons (.fz rfl (by rw [List.take_length, usRs, List.map_map]; rfl) (by simp [usRs]) (by omega)) (.cons (.fz rfl (by rw [List.take_length, usWs, List.map_map]; rfl) (by simp [usWs]) (by omega)) Ctos.nil))))) .nil), trivial⟩ ?_
    refine .region <| .cons (.mv rfl rfl) <| .cons (.asg rfl rfl) <| .cons (.asg rfl rfl) <| .nil <| ks_n <| .ret ?_
    refine kf_wret [(.t 2, .v (.o (.c (.ptr (rT g))))), (.t 3, .v (.o (bo1 true)))] (Wk.keep [] rfl rfl ⟨ks rfl (.c (.frzP _ _ _ _ _ _ _ _ rfl (show _ = dR [rT g] from rfl) rfl rfl rfl)), ks rfl .dt, trivial⟩) rfl ?_ nobox
    rfl

theorem l6Uses_fn {g : Prg} (hs : szG g ≤ 1073741824) (hS : prgS g = true) : Fn Tryz.prog 51 [] [ad (rG g)] (.o (vD (dUs (usL g)))) [] := by
 have hL := insG_len hS
 have hv := (prgS_iff.1 hS).1
 refine Fn.code0 Tryz.func51 rfl rfl rfl rfl ?_
 refine .seq <| .region <| .cons (St1.boxP rfl rfl rfl rfl rfl rfl) <| .cons (.asg rfl rfl) <| .nil <| ks_n <| .seq <| .region <| .cons (St1.lit0 (k' := 109) (e := 71) (sz := 2) (b := true) rfl rfl rfl rfl (by kernel_rfl) rfl rfl) ?_
 refine .cons (.asg rfl rfl) <| .nil <| ks_n <| .seq <| .region <| .cons (.lN 2 rfl rfl rfl) <| .cons (.cP [.tmp 10] rfl rfl rfl rfl (l4Instances_fn hS) rfl) ?_
 refine .cons (.asg rfl rfl) <| .nil <| ks_n <| .seq <| .seq <| .region <| .cons (.asg rfl rfl) <| .nil <| ks_n <| .block ?_
 refine .loopK (fun m σ => (∃ i : Nat, m = (insG 0 g.2).length - i ∧ (i ≤ (insG 0 g.2).length) ∧ (True) ∧ σ = [(.t 1, .v (.o (.c (.ptr (rG g))))), (.t 3, .v (.o (.c (.own 110 2 (i))))), (.t 4, .v (.o (vD (dNs (insG 0 g.2))))), (.t 5, .v (.o (nat1 (i : Nat)))), (.b 110, .b 71 2 (dR (((insG 0 g.2).take i).map (fun x => rU (usG g x))))), (.u 110, .u)])) [(110, 109)] ⟨0, rfl, by omega, trivial, rfl⟩ ⟨ks rfl .dt, ks rfl (.c .ow), ks rfl .dt, ks rfl .dt, kb 109 rfl (.dt rfl (by first | exact dR_take (fun x => rU (usG g x)) hx1 | exact dR_take1 (fun x => rU (usG g x)) hx1 | rfl | (simp [dR]; done))), trivial⟩ ?_
 rintro m σ ⟨i, hm0, hi, hF, rfl⟩
 refine .seq <| .seq <| .region <| .cons (.mv rfl rfl) <| .cons (.mv rfl rfl) <| .cons (.ln 86 3 40 rfl rfl rfl) <| .cons (.ls rfl rfl rfl) <| .nil <| ks_n ?_
 refine .cD rfl (fun h15 => ?_) (fun h15 => ?_)
 ·skip
  obtain ⟨x, hx1⟩ : ∃ x_, (insG 0 g.2)[i]? = some x_ := ⟨_, List.getElem?_eq_getElem (by omega)⟩
  obtain ⟨k, c, q, hI⟩ := ins_at hS (List.mem_of_getElem? hx1)
  have hsz := stI_sz hI
  have hpt := npR_pt hI.pt
  obtain ⟨hC, hW⟩ := cls_yes hI.ok
  refine .skip <| ks_n <| .seq <| .block <| .seq ?_
  refine ACode.drawK (by kernel_rfl) (by kernel_rfl) ?_
  refine .cons (.fP 0 0 false rfl rfl) <| .cons (.l1 1 rfl rfl) <| .cons (.fP 1 0 false rfl rfl) <| .cons (.l1 1 rfl rfl) <| .cons (.mv rfl rfl) <| .cons (.mv rfl rfl) <| .cons (.xL 86 3 40 rfl rfl rfl rfl rfl) ?_
  refine .cons (.fP 0 0 false rfl rfl) <| .cons (.l1 1 rfl rfl) <| .cons (.xL 104 2 48 (i := k) rfl rfl rfl rfl hI.e1 (map_at hI.hq)) ?_
  refine .cons (.fP 1 0 false rfl rfl) <| .cons (.l1 1 rfl rfl) <| .cons (.mv rfl rfl) <| .cons (.mv rfl rfl) <| .cons (.xL 86 3 40 rfl rfl rfl rfl rfl) ?_
  refine .cons (.fP 1 0 false rfl rfl) <| .cons (.l1 1 rfl rfl) <| .cons (.xL 96 9 152 (i := c) rfl rfl rfl rfl hI.e2 (map_at hI.hs)) ?_
  refine .cons (.lN 9 rfl rfl rfl) <| .cons (.mv rfl rfl) <| .cons (.mv rfl rfl) <| .cons (.xL 86 3 40 rfl rfl rfl rfl rfl) ?_
  refine .cons (.fP 2 0 false rfl rfl) <| .cons (.l1 1 rfl rfl) <| .cons (.cP [.tmp 20, .tmp 37, .tmp 42] rfl rfl rfl rfl (l4Cells_fn hv hI.sv (by omega) hpt.1 hpt.2) rfl) ?_
  refine .cons (.mv rfl rfl) <| .cons (.ex rfl rfl rfl) <| .cons (.ex rfl rfl rfl) <| .cons (.ex rfl rfl rfl) <| .cons (.asg rfl rfl) <| .cons (.asg rfl rfl) <| .cons (.asg rfl rfl) ?_
  refine .nil ⟨by kernel_rfl, ?_⟩
  refine ks_n ?_
  refine .keep [(.t 1, .v (.o (.c (.ptr (rG g))))), (.t 3, .v (.o (.c (.own 770 2 (i))))), (.t 4, .v (.o (vD (dNs (insG 0 g.2))))), (.t 5, .v (.o (nat1 (i : Nat)))), (.t 6, .v (.o (vD (dIs (usR g x))))), (.t 7, .v (.o (nat1 (usW g x)))), (.b 770, .b 71 2 (dR (((insG 0 g.2).take i).map (fun x => rU (usG g x))))), (.u 770, .u)] [(770, 110)] ⟨ks rfl .dt, ks rfl (.c .ow), ks rfl .dt, ks rfl .dt, ks rfl (.dt (by rw [hC]; rfl)), ks rfl (.dt (by rw [hW]; rfl)), kb 110 rfl (.dt rfl (by first | exact dR_take (fun x => rU (usG g x)) hx1 | exact dR_take1 (fun x => rU (usG g x)) hx1 | rfl | (simp [dR]; done))), trivial⟩ ?_
  refine .region <| .cons (.mv rfl rfl) <| .cons (.mv rfl rfl) <| .cons (.mv rfl rfl) <| .cons (.bu [(0, .tmp 48), (1, .tmp 49)] [(0, 1), (1, 1)] [.slice none 0 0, .int .i64 0] rfl rfl rfl rfl rfl) <| .cons (.li 71 1 0 [.tmp 50] rfl rfl rfl rfl rfl rfl) <| .cons (St1.appB (k' := 152) (e := 71) (sz := 1) (by' := 32) rfl rfl rfl rfl rfl (by kernel_rfl) rfl rfl rfl rfl (by first | (simp [dR]; done) | (simp [dR]; omega)) (by first | (simp [dR]; done) | (simp [dR]; omega)) rfl rfl rfl) ?_
  refine .cons (.asg rfl rfl) <| .nil <| kb_n <| ks_n <| .region <| .cons (.mv rfl rfl) <| .cons (.pl rfl rfl rfl) <| .cons (.asg rfl rfl) <| .nil ?_
  refine kl_k [(110, 152)] ⟨i + 1, rfl, by omega, trivial, rfl⟩ ⟨ks rfl .dt, ks rfl (.c .ow), ks rfl .dt, ks rfl .dt, kb 152 rfl (.dt rfl (by first | exact dR_take (fun x => rU (usG g x)) hx1 | exact dR_take1 (fun x => rU (usG g x)) hx1 | rfl | (simp [dR]; done))), trivial⟩
 ·skip
  obtain rfl : i = (insG 0 g.2).length := by omega
  refine .exit <| ks_e <| kl_e <| kb_hit <| ks_n <| .seq <| .region <| .cons (.mv rfl rfl) <| .cons (.asg rfl rfl) <| .nil <| ks_n <| .ret ?_
  refine kf_wret [(.t 2, .v (.o (vD (dUs (usL g)))))] (Wk.keep [] rfl rfl ⟨ks rfl (.c (.fz rfl (by rw [List.take_length, usL, List.map_map]; rfl) (by simp [usL]) (by omega))), trivial⟩) rfl ?_ nobox
  rfl
theorem any_no {α : Type} {l : List α} {p : α → Bool} (h : ∀ (j : Nat) m, j < l.length → l[j]? = some m → p m = false) : l.any p = false := by
  rw [Bool.eq_false_iff]
  intro h2
  obtain ⟨m, hm, h3⟩ := List.any_eq_true.1 h2
  obtain ⟨j, hj⟩ := List.mem_iff_getElem?.1 hm
  rw [h j m (List.getElem?_eq_some_iff.1 hj).1 hj] at h3; cases h3
theorem any_yes {α : Type} {l : List α} {p : α → Bool} {j : Nat} {m : α} (h : l[j]? = some m) (h2 : p m = true) : l.any p = true := List.any_eq_true.2 ⟨m, List.mem_of_getElem? h, h2⟩

theorem l5Flagged_fn (l : List Bool) (hl : l.length ≤ 1000000) : Fn Tryz.prog 45 [] [vD (dBs l)] (.o (vD (dIs (flagV l)))) [] := by
 refine Fn.code0 Tryz.func45 rfl rfl rfl rfl ?_
 refine .seq <| .region <| .cons (.asg rfl rfl) <| .nil <| ks_n <| .seq <| .region <| .cons (St1.lit0 (k' := 105) (e := 3) (sz := 1) (b := true) rfl rfl rfl rfl (by kernel_rfl) rfl rfl) ?_
 refine .cons (.asg rfl rfl) <| .nil <| ks_n <| .seq <| .seq <| .region <| .cons (.asg rfl rfl) <| .nil <| ks_n <| .block ?_
 refine .loopK (fun m σ => (∃ (i : Nat) (o : List Int), m = l.length - i ∧ (i ≤ l.length) ∧ (flagN l i = o) ∧ (o.length ≤ i) ∧ σ = [(.t 0, .v (.o (vD (dBs l)))), (.t 3, .v (.o (.c (.own 110 1 (o.length))))), (.t 4, .v (.o (nat1 (i : Nat)))), (.b 110, .b 3 1 (dR (o.map rI))), (.u 110, .u)])) [(110, 105)] ⟨0, [], rfl, by omega, rfl, by simp, rfl⟩ ⟨ks rfl .dt, ks rfl (.c .ow), ks rfl .dt, kb 105 rfl (.dt rfl (by first | rfl | (simp [dR, rI, dI]; done) | (simp [dR, rI]; done) | (simp [dR]; rfl))), trivial⟩ ?_
 rintro m σ ⟨i, o, hm0, hi, hE, ho, rfl⟩
 refine .seq <| .seq <| .region <| .cons (.mv rfl rfl) <| .cons (.mv rfl rfl) <| .cons (.ln 4 1 1 rfl rfl rfl) <| .cons (.ls rfl rfl rfl) <| .nil <| ks_n ?_
 refine .cD rfl (fun h9 => ?_) (fun h9 => ?_)
 ·skip
  obtain ⟨b, hb1⟩ : ∃ x_, l[i]? = some x_ := ⟨_, List.getElem?_eq_getElem (by omega)⟩
  refine .skip <| ks_n <| .seq <| .block <| .seq <| .region <| .cons (.mv rfl rfl) <| .cons (.mv rfl rfl) <| .cons (.xL 4 1 1 rfl rfl rfl rfl rfl (map_at hb1)) ?_
  refine .cons (.l1 1 rfl rfl) <| .nil <| ks_n ?_
  refine ACode.condT rfl (fun h15 => ?_) (fun h15 => ?_)
  ·try simp only [zs1, zs2, zs3, zs4, zs5, zs6, zs7] at h15
   refine .region <| .cons (.mv rfl rfl) <| .cons (.mv rfl rfl) <| .cons (.li 3 0 0 [.tmp 17] rfl rfl rfl rfl rfl rfl) <| .cons (St1.appB (k' := 119) (e := 3) (sz := 0) (by' := 8) rfl rfl rfl rfl rfl (by kernel_rfl) rfl rfl rfl rfl (by first | (simp [dR]; done) | (simp [dR]; omega)) (by first | (simp [dR]; done) | (simp [dR]; omega)) rfl rfl rfl) ?_
   refine .cons (.asg rfl rfl) <| .nil <| kb_n <| ks_n <| .region <| .cons (.mv rfl rfl) <| .cons (.pl rfl rfl rfl) <| .cons (.asg rfl rfl) <| .nil ?_
   refine kl_k [(110, 119)] ⟨i + 1, o ++ [(i : Int)], rfl, by omega, by rw [flagN_next hb1, if_pos h15, hE], by rw [List.length_append, List.length_singleton]; omega, rfl⟩ ⟨ks rfl .dt, ks rfl (.c .ow), ks rfl .dt, kb 119 rfl (.dt rfl (by first | rfl | (simp [dR, rI, dI]; done) | (simp [dR, rI]; done) | (simp [dR]; rfl))), trivial⟩
  ·try simp only [zs1, zs2, zs3, zs4, zs5, zs6, zs7] at h15
   refine .skip <| kb_n <| ks_n <| .region <| .cons (.mv rfl rfl) <| .cons (.pl rfl rfl rfl) <| .cons (.asg rfl rfl) <| .nil ?_
   refine kl_k [(110, 110)] ⟨i + 1, o, rfl, by omega, by rw [flagN_next hb1, if_neg (by rw [h15]; simp), hE], by omega, rfl⟩ ⟨ks rfl .dt, ks rfl (.c .ow), ks rfl .dt, kb 110 rfl (.dt rfl (by first | rfl | (simp [dR, rI, dI]; done) | (simp [dR, rI]; done) | (simp [dR]; rfl))), trivial⟩
 ·skip
  obtain rfl : i = l.length := by omega
  refine .exit <| ks_e <| kl_e <| kb_hit <| ks_n <| .seq <| .region <| .cons (.mv rfl rfl) <| .cons (.asg rfl rfl) <| .nil <| ks_n <| .ret ?_
  refine kf_wret [(.t 2, .v (.o (vD (dIs (flagV l)))))] (Wk.keep [] rfl rfl ⟨ks rfl (.c (.fz rfl (by rw [flagV, hE]) (by rw [flagV, hE, List.length_map]) (by omega))), trivial⟩) rfl ?_ nobox
  rfl

theorem l6Has_fn (l : List Int) (n : Int) (hl : l.length ≤ 1099511627776) : Fn Tryz.prog 35 [] [vD (dIs l), nat1 n] (.o (bo1 (hasV l n))) [] := by
  refine Fn.code0 Tryz.func35 rfl rfl rfl rfl ?_
  refine .seq <| .region <| .cons (.asg rfl rfl) <| .nil <| ks_n <| .seq <| .seq <| .region <| .cons (.asg rfl rfl) <| .nil <| ks_n <| .block ?_
  refine .loopK (fun m σ => (∃ i : Nat, m = l.length - i ∧ (i ≤ l.length) ∧ (∀ j m, j < i → l[j]? = some m → decide (m = n) = false) ∧ σ = [(.t 0, .v (.o (vD (dIs l)))), (.t 1, .v (.o (nat1 n))), (.t 4, .v (.o (bo1 false))), (.t 5, .v (.o (nat1 (i : Nat))))])) [] ⟨0, rfl, by omega, fun j m hj _ => absurd hj (by omega), rfl⟩ ⟨ks rfl .dt, ks rfl .dt, ks rfl .dt, ks rfl .dt, trivial⟩ ?_
  rintro m σ ⟨i, hm0, hi, hF, rfl⟩
  refine .seq <| .seq <| .region <| .cons (.mv rfl rfl) <| .cons (.mv rfl rfl) <| .cons (.ln 3 1 8 rfl rfl rfl) <| .cons (.ls rfl rfl rfl) <| .nil <| ks_n ?_
  refine .cD rfl (fun h9 => ?_) (fun h9 => ?_)
  · skip
    obtain ⟨x, hx1⟩ : ∃ x_, l[i]? = some x_ := ⟨_, List.getElem?_eq_getElem (by omega)⟩
    refine .skip <| ks_n <| .seq <| .block <| .seq <| .region <| .cons (.mv rfl rfl) <| .cons (.mv rfl rfl) <| .cons (.xL 3 1 8 rfl rfl rfl rfl rfl) ?_
    refine .cons (.l1 1 rfl rfl) <| .cons (.mv rfl rfl) <| .cons (.eq rfl rfl rfl) <| .nil <| ks_n ?_
    refine .cD rfl (fun h17 => ?_) (fun h17 => ?_)
    · skip
      refine .seq <| .region <| .cons (.asg rfl rfl) <| .nil <| ks_n <| .ret <| kb_r <| ks_r <| kl_r <| kb_r <| ks_r ?_
      refine kf_ret rfl ?_ nobox
      exact leafB (any_yes hx1 (decide_eq_true (by omega))).symm
    · skip
      refine .skip <| kb_n <| ks_n <| .region <| .cons (.mv rfl rfl) <| .cons (.pl rfl rfl rfl) <| .cons (.asg rfl rfl) <| .nil ?_
      refine kl_k [] ⟨i + 1, rfl, by omega, fun j m hj hm => (Nat.lt_succ_iff_lt_or_eq.1 hj).elim (fun h => hF j m h hm) (fun h => by subst h; rw [hx1] at hm; cases hm; exact decide_eq_false (by omega)), rfl⟩ ⟨ks rfl .dt, ks rfl .dt, ks rfl .dt, ks rfl .dt, trivial⟩
  · skip
    refine .exit <| ks_e <| kl_e <| kb_hit <| ks_n <| .seq <| .region <| .cons (.asg rfl rfl) <| .nil <| ks_n <| .ret ?_
    refine kf_ret rfl ?_ nobox
    exact leafB (any_no fun j m hj hm => hF j m (by omega) hm).symm

theorem isPart_fn {g : Prg} (hl : g.2.length ≤ 1099511627776) (n : Int) : Fn Tryz.prog 46 [] [ad (rG g), nat1 n] (.o (bo1 (inB n 0 ((g.2.length : Nat) - 1)))) [] := by
  refine Fn.code0 Tryz.func46 rfl rfl rfl rfl ?_
  refine .seq <| .region <| .cons (St1.boxP rfl rfl rfl rfl rfl rfl) <| .cons (.asg rfl rfl) <| .nil <| ks_n <| .seq <| .region <| .cons (.mv rfl rfl) <| .cons (.fP 1 0 false rfl rfl) <| .cons (.l1 1 rfl rfl) <| .cons (.ln 104 2 48 rfl rfl rfl) <| .cons (.sb rfl rfl rfl) <| .cons (.cP [.tmp 5, .const (.int .i64 (0)), .tmp 9] rfl rfl rfl rfl (within_fn _ 0 _) rfl) ?_
  refine .cons (.asg rfl rfl) <| .nil <| ks_n <| .ret ?_
  refine kf_ret rfl ?_ nobox
  rfl

theorem chosen_nil (l : List Bool) (hl : l.length ≤ 1000000) (hz : flagV l = []) : Fn Tryz.prog 47 [] [vD (dBs l)] (.o (.c (.d (.val (.slice none 0 0))))) [] := by
 refine Fn.code0 Tryz.func47 rfl rfl rfl rfl ?_
 refine .seq <| .region <| .cons (.asg rfl rfl) <| .nil <| ks_n <| .seq <| .region <| .cons (.asg rfl rfl) <| .nil <| ks_n <| .seq <| .seq <| .region <| .cons (.mv rfl rfl) <| .cons (.ln 4 1 1 rfl rfl rfl) <| .cons (.mv rfl rfl) <| .nil <| ks_n <| .block ?_
 refine .loopK (fun m σ => (∃ i : Nat, m = l.length - i ∧ (i ≤ l.length) ∧ (flagN l i = []) ∧ σ = [(.t 3, .v (.o (.c (.d (.val (.slice none 0 0)))))), (.t 6, .v (.o (vD (dBs l)))), (.t 7, .v (.o (nat1 (l.length : Nat)))), (.t 8, .v (.o (nat1 (i : Nat))))]) ∨ (∃ (i : Nat) (o : List Int), m = l.length - i ∧ (i ≤ l.length) ∧ (flagN l i = o) ∧ (o.length ≤ i) ∧ (o ≠ []) ∧ σ = [(.t 3, .v (.o (.c (.own 110 1 (o.length))))), (.t 6, .v (.o (vD (dBs l)))), (.t 7, .v (.o (nat1 (l.length : Nat)))), (.t 8, .v (.o (nat1 (i : Nat)))), (.b 110, .b 3 1 (dR (o.map rI))), (.u 110, .u)])) [] (.inl ⟨0, rfl, by omega, rfl, rfl⟩) ⟨ks rfl .dt, ks rfl .dt, ks rfl .dt, ks rfl .dt, trivial⟩ ?_
 rintro m σ (⟨i, hm0, hi, hE, rfl⟩ | ⟨i, o, hm0, hi, hE, ho, hn1, rfl⟩)
 ·skip
  refine .seq <| .region <| .cons (.ls rfl rfl rfl) <| .nil <| ks_n <| .seq ?_
  refine .cD rfl (fun h9 => ?_) (fun h9 => ?_)
  ·skip
   obtain ⟨b, hb1⟩ : ∃ x_, l[i]? = some x_ := ⟨_, List.getElem?_eq_getElem (by omega)⟩
   refine .skip <| ks_n <| .seq <| .block <| .seq <| .region <| .cons (.mv rfl rfl) <| .cons (.xL 4 1 1 rfl rfl rfl rfl rfl) ?_
   refine .cons (.l1 1 rfl rfl) <| .cons (.asg rfl rfl) <| .cons (.asg rfl rfl) <| .nil <| ks_n <| .seq <| .region <| .cons (.mv rfl rfl) <| .nil <| ks_n ?_
   refine ACode.condT rfl (fun h13 => ?_) (fun h13 => ?_)
   ·try simp only [zs1, zs2, zs3, zs4, zs5, zs6, zs7] at h13
    refine .region <| .cons (.mv rfl rfl) <| .cons (.mv rfl rfl) <| .cons (.li 3 0 0 [.tmp 15] rfl rfl rfl rfl rfl rfl) <| .cons (St1.appN (k' := 117) (e := 3) (sz := 0) (by' := 8) rfl rfl rfl rfl rfl (by kernel_rfl) rfl rfl rfl (by simp) (by first | (simp [dR]; done) | (simp [dR]; omega)) rfl rfl) ?_
    refine .cons (.asg rfl rfl) <| .nil <| kb_n <| ks_n <| .region <| .cons (.pl rfl rfl rfl) <| .cons (.mv rfl rfl) <| .nil ?_
    refine kl_k [(110, 117)] (.inr ⟨i + 1, [(i : Int)], rfl, by omega, by rw [flagN_next hb1, if_pos h13, hE]; rfl, by simp, by simp, rfl⟩) ⟨ks rfl (.c .ow), ks rfl .dt, ks rfl .dt, ks rfl .dt, kb 117 rfl (.dt rfl (by first | rfl | (simp [dR, rI, dI]; done) | (simp [dR, rI]; done) | (simp [dR]; rfl))), trivial⟩
   ·try simp only [zs1, zs2, zs3, zs4, zs5, zs6, zs7] at h13
    refine .skip <| kb_n <| ks_n <| .region <| .cons (.pl rfl rfl rfl) <| .cons (.mv rfl rfl) <| .nil ?_
    refine kl_k [] (.inl ⟨i + 1, rfl, by omega, by rw [flagN_next hb1, if_neg (by rw [h13]; simp), hE], rfl⟩) ⟨ks rfl .dt, ks rfl .dt, ks rfl .dt, ks rfl .dt, trivial⟩
  ·skip
   obtain rfl : i = l.length := by omega
   refine .exit <| ks_e <| kl_e <| kb_hit <| ks_n <| .seq <| .region <| .cons (.mv rfl rfl) <| .cons (.asg rfl rfl) <| .nil <| ks_n <| .ret ?_
   refine kf_ret rfl ?_ nobox
   rfl
 ·skip
  refine .seq <| .region <| .cons (.ls rfl rfl rfl) <| .nil <| ks_n <| .seq ?_
  refine .cD rfl (fun h9 => ?_) (fun h9 => ?_)
  ·skip
   obtain ⟨b, hb1⟩ : ∃ x_, l[i]? = some x_ := ⟨_, List.getElem?_eq_getElem (by omega)⟩
   refine .skip <| ks_n <| .seq <| .block <| .seq <| .region <| .cons (.mv rfl rfl) <| .cons (.xL 4 1 1 rfl rfl rfl rfl rfl) ?_
   refine .cons (.l1 1 rfl rfl) <| .cons (.asg rfl rfl) <| .cons (.asg rfl rfl) <| .nil <| ks_n <| .seq <| .region <| .cons (.mv rfl rfl) <| .nil <| ks_n ?_
   refine ACode.condT rfl (fun h13 => ?_) (fun h13 => ?_)
   ·try simp only [zs1, zs2, zs3, zs4, zs5, zs6, zs7] at h13
    refine .region <| .cons (.mv rfl rfl) <| .cons (.mv rfl rfl) <| .cons (.li 3 0 0 [.tmp 15] rfl rfl rfl rfl rfl rfl) <| .cons (St1.appB (k' := 117) (e := 3) (sz := 0) (by' := 8) rfl rfl rfl rfl rfl (by kernel_rfl) rfl rfl rfl rfl (by first | (simp [dR]; done) | (simp [dR]; omega)) (by first | (simp [dR]; done) | (simp [dR]; omega)) rfl rfl rfl) ?_
    refine .cons (.asg rfl rfl) <| .nil <| kb_n <| ks_n <| .region <| .cons (.pl rfl rfl rfl) <| .cons (.mv rfl rfl) <| .nil ?_
    refine kl_k [(110, 117)] (.inr ⟨i + 1, o ++ [(i : Int)], rfl, by omega, by rw [flagN_next hb1, if_pos h13, hE], by rw [List.length_append, List.length_singleton]; omega, by simp, rfl⟩) ⟨ks rfl (.c .ow), ks rfl .dt, ks rfl .dt, ks rfl .dt, kb 117 rfl (.dt rfl (by first | rfl | (simp [dR, rI, dI]; done) | (simp [dR, rI]; done) | (simp [dR]; rfl))), trivial⟩
   ·try simp only [zs1, zs2, zs3, zs4, zs5, zs6, zs7] at h13
    refine .skip <| kb_n <| ks_n <| .region <| .cons (.pl rfl rfl rfl) <| .cons (.mv rfl rfl) <| .nil ?_
    refine kl_k [(110, 110)] (.inr ⟨i + 1, o, rfl, by omega, by rw [flagN_next hb1, if_neg (by rw [h13]; simp), hE], by omega, hn1, rfl⟩) ⟨ks rfl (.c .ow), ks rfl .dt, ks rfl .dt, ks rfl .dt, kb 110 rfl (.dt rfl (by first | rfl | (simp [dR, rI, dI]; done) | (simp [dR, rI]; done) | (simp [dR]; rfl))), trivial⟩
  ·skip
   exact absurd (by rw [← hE, show i = l.length by omega]; exact hz) hn1

theorem chosen_own (l : List Bool) (hl : l.length ≤ 1000000) (hz : flagV l ≠ []) : Fn Tryz.prog 47 [] [vD (dBs l)] (.o (.c (.own 100 1 (flagV l).length))) [(.b 100, .b 3 1 (dR ((flagV l).map rI))), (.u 100, .u)] := by
 refine Fn.of_code Tryz.func47 rfl rfl HB.nil rfl rfl HB.nil.data rfl (one_num rfl) ?_
 refine .seq <| .region <| .cons (.asg rfl rfl) <| .nil <| ks_n <| .seq <| .region <| .cons (.asg rfl rfl) <| .nil <| ks_n <| .seq <| .seq <| .region <| .cons (.mv rfl rfl) <| .cons (.ln 4 1 1 rfl rfl rfl) <| .cons (.mv rfl rfl) <| .nil <| ks_n <| .block ?_
 refine .loopK (fun m σ => (∃ i : Nat, m = l.length - i ∧ (i ≤ l.length) ∧ (flagN l i = []) ∧ σ = [(.t 3, .v (.o (.c (.d (.val (.slice none 0 0)))))), (.t 6, .v (.o (vD (dBs l)))), (.t 7, .v (.o (nat1 (l.length : Nat)))), (.t 8, .v (.o (nat1 (i : Nat))))]) ∨ (∃ (i : Nat) (o : List Int), m = l.length - i ∧ (i ≤ l.length) ∧ (flagN l i = o) ∧ (o.length ≤ i) ∧ (o ≠ []) ∧ σ = [(.t 3, .v (.o (.c (.own 110 1 (o.length))))), (.t 6, .v (.o (vD (dBs l)))), (.t 7, .v (.o (nat1 (l.length : Nat)))), (.t 8, .v (.o (nat1 (i : Nat)))), (.b 110, .b 3 1 (dR (o.map rI))), (.u 110, .u)])) [] (.inl ⟨0, rfl, by omega, rfl, rfl⟩) ⟨ks rfl .dt, ks rfl .dt, ks rfl .dt, ks rfl .dt, trivial⟩ ?_
 rintro m σ (⟨i, hm0, hi, hE, rfl⟩ | ⟨i, o, hm0, hi, hE, ho, hn1, rfl⟩)
 ·skip
  refine .seq <| .region <| .cons (.ls rfl rfl rfl) <| .nil <| ks_n <| .seq ?_
  refine .cD rfl (fun h9 => ?_) (fun h9 => ?_)
  ·skip
   obtain ⟨b, hb1⟩ : ∃ x_, l[i]? = some x_ := ⟨_, List.getElem?_eq_getElem (by omega)⟩
   refine .skip <| ks_n <| .seq <| .block <| .seq <| .region <| .cons (.mv rfl rfl) <| .cons (.xL 4 1 1 rfl rfl rfl rfl rfl) ?_
   refine .cons (.l1 1 rfl rfl) <| .cons (.asg rfl rfl) <| .cons (.asg rfl rfl) <| .nil <| ks_n <| .seq <| .region <| .cons (.mv rfl rfl) <| .nil <| ks_n ?_
   refine ACode.condT rfl (fun h13 => ?_) (fun h13 => ?_)
   ·try simp only [zs1, zs2, zs3, zs4, zs5, zs6, zs7] at h13
    refine .region <| .cons (.mv rfl rfl) <| .cons (.mv rfl rfl) <| .cons (.li 3 0 0 [.tmp 15] rfl rfl rfl rfl rfl rfl) <| .cons (St1.appN (k' := 117) (e := 3) (sz := 0) (by' := 8) rfl rfl rfl rfl rfl (by kernel_rfl) rfl rfl rfl (by simp) (by first | (simp [dR]; done) | (simp [dR]; omega)) rfl rfl) ?_
    refine .cons (.asg rfl rfl) <| .nil <| kb_n <| ks_n <| .region <| .cons (.pl rfl rfl rfl) <| .cons (.mv rfl rfl) <| .nil ?_
    refine kl_k [(110, 117)] (.inr ⟨i + 1, [(i : Int)], rfl, by omega, by rw [flagN_next hb1, if_pos h13, hE]; rfl, by simp, by simp, rfl⟩) ⟨ks rfl (.c .ow), ks rfl .dt, ks rfl .dt, ks rfl .dt, kb 117 rfl (.dt rfl (by first | rfl | (simp [dR, rI, dI]; done) | (simp [dR, rI]; done) | (simp [dR]; rfl))), trivial⟩
   ·try simp only [zs1, zs2, zs3, zs4, zs5, zs6, zs7] at h13
    refine .skip <| kb_n <| ks_n <| .region <| .cons (.pl rfl rfl rfl) <| .cons (.mv rfl rfl) <| .nil ?_
    refine kl_k [] (.inl ⟨i + 1, rfl, by omega, by rw [flagN_next hb1, if_neg (by rw [h13]; simp), hE], rfl⟩) ⟨ks rfl .dt, ks rfl .dt, ks rfl .dt, ks rfl .dt, trivial⟩
  ·skip
   exact absurd (by rw [flagV, ← show i = l.length by omega]; exact hE) hz
 ·skip
  refine .seq <| .region <| .cons (.ls rfl rfl rfl) <| .nil <| ks_n <| .seq ?_
  refine .cD rfl (fun h9 => ?_) (fun h9 => ?_)
  ·skip
   obtain ⟨b, hb1⟩ : ∃ x_, l[i]? = some x_ := ⟨_, List.getElem?_eq_getElem (by omega)⟩
   refine .skip <| ks_n <| .seq <| .block <| .seq <| .region <| .cons (.mv rfl rfl) <| .cons (.xL 4 1 1 rfl rfl rfl rfl rfl) ?_
   refine .cons (.l1 1 rfl rfl) <| .cons (.asg rfl rfl) <| .cons (.asg rfl rfl) <| .nil <| ks_n <| .seq <| .region <| .cons (.mv rfl rfl) <| .nil <| ks_n ?_
   refine ACode.condT rfl (fun h13 => ?_) (fun h13 => ?_)
   ·try simp only [zs1, zs2, zs3, zs4, zs5, zs6, zs7] at h13
    refine .region <| .cons (.mv rfl rfl) <| .cons (.mv rfl rfl) <| .cons (.li 3 0 0 [.tmp 15] rfl rfl rfl rfl rfl rfl) <| .cons (St1.appB (k' := 117) (e := 3) (sz := 0) (by' := 8) rfl rfl rfl rfl rfl (by kernel_rfl) rfl rfl rfl rfl (by first | (simp [dR]; done) | (simp [dR]; omega)) (by first | (simp [dR]; done) | (simp [dR]; omega)) rfl rfl rfl) ?_
    refine .cons (.asg rfl rfl) <| .nil <| kb_n <| ks_n <| .region <| .cons (.pl rfl rfl rfl) <| .cons (.mv rfl rfl) <| .nil ?_
    refine kl_k [(110, 117)] (.inr ⟨i + 1, o ++ [(i : Int)], rfl, by omega, by rw [flagN_next hb1, if_pos h13, hE], by rw [List.length_append, List.length_singleton]; omega, by simp, rfl⟩) ⟨ks rfl (.c .ow), ks rfl .dt, ks rfl .dt, ks rfl .dt, kb 117 rfl (.dt rfl (by first | rfl | (simp [dR, rI, dI]; done) | (simp [dR, rI]; done) | (simp [dR]; rfl))), trivial⟩
   ·try simp only [zs1, zs2, zs3, zs4, zs5, zs6, zs7] at h13
    refine .skip <| kb_n <| ks_n <| .region <| .cons (.pl rfl rfl rfl) <| .cons (.mv rfl rfl) <| .nil ?_
    refine kl_k [(110, 110)] (.inr ⟨i + 1, o, rfl, by omega, by rw [flagN_next hb1, if_neg (by rw [h13]; simp), hE], by omega, hn1, rfl⟩) ⟨ks rfl (.c .ow), ks rfl .dt, ks rfl .dt, ks rfl .dt, kb 110 rfl (.dt rfl (by first | rfl | (simp [dR, rI, dI]; done) | (simp [dR, rI]; done) | (simp [dR]; rfl))), trivial⟩
  ·skip
   obtain rfl : i = l.length := by omega
   refine .exit <| ks_e <| kl_e <| kb_hit <| ks_n <| .seq <| .region <| .cons (.mv rfl rfl) <| .cons (.asg rfl rfl) <| .nil <| ks_n <| .ret ?_
   refine kf_wret [(.t 2, .v (.o (.c (.own 100 1 ((flagV l).length))))), (.b 100, .b 3 1 (dR ((flagV l).map rI))), (.u 100, .u)] (Wk.keep [(100, 110)] rfl rfl ⟨ks rfl (.c (.ow (by rw [flagV, hE]))), kb 110 rfl (.dt rfl (by rw [flagV, hE])), trivial⟩) rfl ?_ (one_box rfl)
   rfl
theorem e0_parts {w : World} {B : Nat → Prop} {d0 d1 : D} {v : Value} (h : V1r bx0 al0 B w (ad [d0, d1]) v) : ∃ u0 u1, v = .agg #[u0, u1] ∧ Dr B w d0 u0 ∧ Dr B w d1 u1 := by
  obtain ⟨vs, rfl, hl, h⟩ := h
  obtain ⟨u0, l0, rfl, h0⟩ := len_cons (show vs.length = 1 + 1 from hl)
  obtain ⟨u1, l1, rfl, h1⟩ := len_cons (show l0.length = 0 + 1 from h0)
  obtain rfl := len_zero h1
  exact ⟨u0, u1, rfl, h 0 (.d d0) u0 rfl rfl, h 1 (.d d1) u1 rfl rfl⟩
abbrev Dpn := Int × Int × Int
def rD (d : Dpn) : List D := [dI d.1, dI d.2.1, dI d.2.2]
def dDs (l : List Dpn) : D := .list 3 (l.map rD)
def kindU (x y : List Int × Int) : Int := (if hasV y.1 x.2 = true then 1 else 0) + (if hasV x.1 y.2 = true then 2 else 0) + (if x.2 = y.2 then 4 else 0)
theorem kindU_bd {x y : List Int × Int} : 0 ≤ kindU x y ∧ kindU x y ≤ 7 := by unfold kindU; split <;> split <;> split <;> omega
def kindN (g : Prg) (i k : Nat) : Int := match (usL g)[i]?, (usL g)[k]? with | some x, some y => kindU x y | _, _ => 0
theorem kindN_eq {g : Prg} {i k : Nat} {x y : List Int × Int} (hx : (usL g)[i]? = some x) (hy : (usL g)[k]? = some y) : kindN g i k = kindU x y := by rw [kindN, hx, hy]
theorem kindN_bd {g : Prg} {i k : Nat} : 0 ≤ kindN g i k ∧ kindN g i k ≤ 7 := by
  unfold kindN; split
  · exact kindU_bd
  · omega
def rowN (g : Prg) (i m : Nat) : List Dpn := ((List.range m).filter fun k => decide (i < k) && decide (kindN g i k ≠ 0)).map fun (k : Nat) => ((i : Int), (k : Int), kindN g i k)
def depsN (g : Prg) (n : Nat) : List Dpn := (List.range n).flatMap fun i => rowN g i (insG 0 g.2).length
def depsG (g : Prg) : List Dpn := depsN g (insG 0 g.2).length
theorem rowN_len {g : Prg} {i m : Nat} : (rowN g i m).length ≤ m := by
  rw [rowN, List.length_map]
  exact Nat.le_trans (List.length_filter_le _ _) (by simp)
theorem rowN_zero {g : Prg} {i : Nat} : rowN g i (i + 1) = [] := by
  rw [rowN, List.filter_eq_nil_iff.2]; · rfl
  intro k hk
  have := List.mem_range.1 hk
  simp; omega
theorem rowN_yes {g : Prg} {i k : Nat} (h : i < k) (hk : kindN g i k ≠ 0) : rowN g i (k + 1) = rowN g i k ++ [((i : Int), (k : Int), kindN g i k)] := by
  rw [rowN, List.range_succ, List.filter_append, List.map_append, List.filter_cons_of_pos (by simp [h, hk])]; rfl
theorem rowN_no {g : Prg} {i k : Nat} (hk : kindN g i k = 0) : rowN g i (k + 1) = rowN g i k := by
  rw [rowN, List.range_succ, List.filter_append, List.map_append, List.filter_cons_of_neg (by simp [hk])]; simp [rowN]
theorem depsN_next {g : Prg} {n : Nat} : depsN g (n + 1) = depsN g n ++ rowN g n (insG 0 g.2).length := by
  rw [depsN, List.range_succ, List.flatMap_append]; simp [depsN]
theorem depsN_len {g : Prg} (h : (insG 0 g.2).length ≤ 120) : ∀ {n : Nat}, (depsN g n).length ≤ 120 * n
  | 0 => by simp [depsN]
  | n + 1 => by
    have h1 := depsN_len h (n := n)
    have h2 := rowN_len (g := g) (i := n) (m := (insG 0 g.2).length)
    rw [depsN_next, List.length_append]; omega
theorem deps_mem {g : Prg} {d : Dpn} (h : d ∈ depsG g) : ∃ i k : Nat, d = ((i : Int), (k : Int), kindN g i k) ∧ i < k ∧ k < (insG 0 g.2).length ∧ kindN g i k ≠ 0 := by
  rw [depsG, depsN, List.mem_flatMap] at h
  obtain ⟨i, hi, h⟩ := h
  rw [rowN, List.mem_map] at h
  obtain ⟨k, hk, rfl⟩ := h
  rw [List.mem_filter, Bool.and_eq_true, decide_eq_true_eq, decide_eq_true_eq] at hk
  exact ⟨i, k, rfl, hk.2.1, List.mem_range.1 hk.1, hk.2.2⟩
theorem usL_at {g : Prg} {i : Nat} {x : Ins} (hx : (insG 0 g.2)[i]? = some x) : (usL g)[i]? = some (usG g x) := by rw [usL, List.getElem?_map, hx]; rfl
theorem usRs_at {g : Prg} {i : Nat} {x : Ins} (hx : (insG 0 g.2)[i]? = some x) : (usRs g)[i]? = some (usR g x) := by rw [usRs, List.getElem?_map, hx]; rfl
theorem usWs_at {g : Prg} {i : Nat} {x : Ins} (hx : (insG 0 g.2)[i]? = some x) : (usWs g)[i]? = some (usW g x) := by rw [usWs, List.getElem?_map, hx]; rfl
theorem usL_len {g : Prg} : (usL g).length = (insG 0 g.2).length := List.length_map _

set_option maxHeartbeats 400000 in
theorem nonzero_any (x : Int) (w : World) : Calls Tryz.prog 126 #[.int .i64 x] w fun e w' => e = .returned (.bool (x != 0)) ∧ w = w' := by
  go_enter Tryz.func126, Tryz.ntmps126
  go_wp2
  go_ret
  exact ⟨rfl, rfl⟩
theorem Tryz.egCarry : ∀ args w, (callFunc 126 args).run Tryz.prog w = .ok (.enter 126 args) w := fun _ _ => by kernel_rfl
def carry (xs : List Int) : Int := findI (fun x => x != 0) xs
set_option maxHeartbeats 400000 in
theorem implCarry_any (P : Nat → Prop) (a : Option Addr) (n c : Nat) (xs : List Int) (w : World) (hx : Sl Sh.int P w (.slice a n c) xs) :
    Calls Tryz.prog 79 #[.slice a n c] w fun e w' => e = .returned (.int .i64 (carry xs)) ∧ w = w' := by
  go_enter Tryz.func79, Tryz.ntmps79
  go_wp2_with (go_at_call 125; refine (indexFunc_any P 126 #[] Tryz.egCarry (fun x => x != 0) _ _ _ xs _ hx (fun x => nonzero_any x _)).mono ?_; rintro e w' ⟨rfl, rfl⟩)
  go_ret
  exact ⟨rfl, rfl⟩
set_option maxHeartbeats 400000 in
theorem specCarry_any (P : Nat → Prop) (a : Option Addr) (n c : Nat) (xs : List Int) (w : World) (hx : Sl Sh.int P w (.slice a n c) xs) :
    Calls Tryz.prog 44 #[.slice a n c] w fun e w' => e = .returned (.int .i64 (carry xs)) ∧ w = w' := by
  have hle := hx.le
  have hlen := hx.len
  have Hlen := hid hlen; clear hlen
  go_enter Tryz.func44, Tryz.ntmps44
  go_wp2
  go_loop [3] (fun i => ∃ k : Nat, k ≤ n ∧ i = .int .i64 k ∧ Hid (∀ x ∈ xs.take k, (x != 0) = false)) (fun i => n - (intOf i).toNat)
  case atStart => exact ⟨0, Nat.zero_le _, rfl, hid (by simp)⟩
  case round =>
    obtain ⟨k, hk, rfl, ht⟩ := hrel
    by_cases hlt : k < n
    · obtain ⟨ba, oa, ha, _, _, hca⟩ := hx.intAt (by omega)
      subst ha
      have h1 := hca k hlt
      generalize hy : xs.getD k 0 = y at h1
      have Hy := hid hy; clear hy hca
      cases hq : (y != 0) with
      | true =>
        have Hq : Hid ((y != 0) = true) := hid hq
        go_wp2
        go_ret
        exact ⟨ret_int (findI_hit (p := fun x => x != 0) ht.out (by rw [Hlen.out]; exact hlt) (by rw [Hy.out]; exact Hq.out)).symm, rfl⟩
      | false =>
        have Hq : Hid ((y != 0) = false) := hid hq
        go_wp2
        exact ⟨⟨k + 1, by omega, rfl, hid (take_step (p := fun x => x != 0) ht.out (by rw [Hlen.out]; exact hlt) (by rw [Hy.out]; exact Hq.out))⟩, by simp [intOf]; omega⟩
    · have : k = n := by omega
      subst this
      go_wp2
      go_ret
      exact ⟨ret_int (findI_none (p := fun x => x != 0) (by have h := ht.out; rw [List.take_of_length_le (by rw [Hlen.out]; omega)] at h; exact h)).symm, rfl⟩
/-- The difference of two points. -/
def subL (y x : List Int) : List Int := List.zipWith (· - ·) y x
theorem subL_len {y x : List Int} (h : y.length = x.length) : (subL y x).length = y.length := by rw [subL, List.length_zipWith, h, Nat.min_self]
theorem subL_take {y x : List Int} {k : Nat} {a b : Int} (hy : y[k]? = some a) (hx : x[k]? = some b) : (subL y x).take (k + 1) = (subL y x).take k ++ [a - b] := by
  rw [List.take_add_one, subL, List.getElem?_zipWith, hy, hx]; rfl
def dstD (g : Prg) (part : Int) (d : Dpn) : Option (List Int) :=
  match (insG 0 g.2)[d.1.toNat]?, (insG 0 g.2)[d.2.1.toNat]? with
  | some x, some y => if x.1 = part ∧ y.1 = part then some (subL y.2.2 x.2.2) else none
  | _, _ => none
def dstN (g : Prg) (part : Int) (j : Nat) : List (List Int) := ((depsG g).take j).filterMap (dstD g part)
def dstG (g : Prg) (part : Int) : List (List Int) := (depsG g).filterMap (dstD g part)
theorem dstN_next {g : Prg} {part : Int} {j : Nat} {d : Dpn} (h : (depsG g)[j]? = some d) : dstN g part (j + 1) = dstN g part j ++ (dstD g part d).toList := by
  rw [dstN, List.take_add_one, h, List.filterMap_append]
  cases hd : dstD g part d with
  | none => simp [hd, dstN]
  | some v => simp [hd, dstN]
theorem dstN_end {g : Prg} {part : Int} {j : Nat} (h : (depsG g).length ≤ j) : dstN g part j = dstG g part := by rw [dstN, List.take_of_length_le h]; rfl
theorem dstD_eq {g : Prg} {part : Int} {d : Dpn} {i k : Nat} {x y : Ins} (h1 : d.1 = (i : Int)) (h2 : d.2.1 = (k : Int)) (hx : (insG 0 g.2)[i]? = some x) (hy : (insG 0 g.2)[k]? = some y) :
    dstD g part d = if x.1 = part ∧ y.1 = part then some (subL y.2.2 x.2.2) else none := by
  rw [dstD, h1, h2, Int.toNat_natCast, Int.toNat_natCast, hx, hy]
theorem dstN_len {g : Prg} {part : Int} {j : Nat} : (dstN g part j).length ≤ j := by
  rw [dstN]
  exact Nat.le_trans (List.length_filterMap_le _ _) (by rw [List.length_take]; omega)
/-- Neighbours that are alike become one: of the first m. -/
def kpL (ls : List (List Int)) : Nat → List (List Int)
  | 0 => []
  | m + 1 => if m ≠ 0 ∧ ls.getD m [] = ls.getD (m - 1) [] then kpL ls m else kpL ls m ++ [ls.getD m []]
def kpV (ls : List (List Int)) : List (List Int) := kpL ls ls.length
theorem kpL_len (ls : List (List Int)) : ∀ m, (kpL ls m).length ≤ m
  | 0 => Nat.le_refl _
  | m + 1 => by
    have := kpL_len ls m
    rw [kpL]; split
    · omega
    · rw [List.length_append, List.length_singleton]; omega
theorem getD_atL {α : Type} {l : List α} {i : Nat} {x d : α} (h : l[i]? = some x) : l.getD i d = x := by rw [List.getD, h]; rfl
theorem kpL_dup {ls : List (List Int)} {m : Nat} {x y : List Int} (h0 : m ≠ 0) (hx : ls[m]? = some x) (hy : ls[m - 1]? = some y) (h : x = y) : kpL ls (m + 1) = kpL ls m := by
  rw [kpL, if_pos ⟨h0, by rw [getD_atL hx, getD_atL hy, h]⟩]
theorem kpL_new {ls : List (List Int)} {m : Nat} {x y : List Int} (hx : ls[m]? = some x) (hy : ls[m - 1]? = some y) (h : ¬ x = y) : kpL ls (m + 1) = kpL ls m ++ [x] := by
  rw [kpL, if_neg (fun q => h (by rw [getD_atL hx, getD_atL hy] at q; exact q.2)), getD_atL hx]
theorem kpL_one {ls : List (List Int)} (h : 1 ≤ ls.length) : kpL ls 1 = ls.take 1 := by
  cases ls with
  | nil => simp at h
  | cons x l => simp [kpL]
theorem mem_kpL {ls : List (List Int)} {x : List Int} : ∀ m, m ≤ ls.length → (x ∈ kpL ls m ↔ x ∈ ls.take m)
  | 0, _ => by simp [kpL]
  | m + 1, h => by
    have ih := mem_kpL (ls := ls) (x := x) m (by omega)
    have hx : ls[m]? = some (ls.getD m []) := by rw [List.getD, List.getElem?_eq_getElem (by omega)]; rfl
    rw [List.take_add_one, hx, kpL]
    split
    · rename_i hd
      rw [ih, List.mem_append]
      refine ⟨.inl, fun h2 => ?_⟩
      rcases h2 with h2 | h2
      · exact h2
      · have e : x = ls.getD m [] := by simpa using h2
        rw [e, hd.2]
        have hy : ls[m - 1]? = some (ls.getD (m - 1) []) := by rw [List.getD, List.getElem?_eq_getElem (by omega)]; rfl
        refine List.mem_of_getElem? (i := m - 1) ?_
        rw [List.getElem?_take, if_pos (by omega)]; exact hy
    · rw [List.mem_append, List.mem_append, ih]; simp
theorem mem_kpV {ls : List (List Int)} {x : List Int} : x ∈ kpV ls ↔ x ∈ ls := by rw [kpV, mem_kpL _ (Nat.le_refl _), List.take_length]
/-- The row while it is made shorter. -/
def rowsK (ls : List (List Int)) (m : Nat) : List (List Int) := kpL ls m ++ ls.drop (kpL ls m).length
theorem rowsK_len {ls : List (List Int)} {m : Nat} (h : m ≤ ls.length) : (rowsK ls m).length = ls.length := by
  have := kpL_len ls m
  rw [rowsK, List.length_append, List.length_drop]; omega
theorem rowsK_at {ls : List (List Int)} {m i : Nat} {x : List Int} (h : ls[i]? = some x) (hi : (kpL ls m).length ≤ i) : (rowsK ls m)[i]? = some x := by
  rw [rowsK, List.getElem?_append_right hi, List.getElem?_drop, show (kpL ls m).length + (i - (kpL ls m).length) = i by omega]; exact h
theorem rowsK_set {ls : List (List Int)} {m : Nat} {x : List Int} (h : kpL ls (m + 1) = kpL ls m ++ [x]) (hl : (kpL ls m).length < ls.length) : (rowsK ls m).set (kpL ls m).length x = rowsK ls (m + 1) := by
  rw [rowsK, rowsK, h, List.set_append, if_neg (by omega), Nat.sub_self, List.drop_eq_getElem_cons hl, List.set_cons_zero, List.length_append, List.length_singleton, List.append_assoc]; rfl
theorem rowsK_take {ls : List (List Int)} {m : Nat} : (rowsK ls m).take (kpL ls m).length = kpL ls m := by rw [rowsK, List.take_left]
theorem dR_setP (l : List (List Int)) (i : Nat) (x y : List Int) : (dR (l.map rIs)).set i (place1 ((rIs x).map C.d) 0 (vD (dIs y)).cells) = dR ((l.set i y).map rIs) := by
  unfold dR
  rw [List.map_set, List.map_set]
  rfl
theorem dR_takeP (l : List (List D)) (i : Nat) : (dR l).take i = dR (l.take i) := by rw [dR, dR, List.map_take]
/-- Which loops carry a distance. -/
def carS (fl : List Bool) (d : List Int) : List Bool := if 0 ≤ carry d then fl.set (carry d).toNat true else fl
def carF (n : Nat) (l : List (List Int)) : List Bool := l.foldl carS (List.replicate n false)
theorem carS_len {fl : List Bool} {d : List Int} : (carS fl d).length = fl.length := by
  rw [carS]; split
  · rw [List.length_set]
  · rfl
theorem carF_len {n : Nat} {l : List (List Int)} : (carF n l).length = n := by
  have key : ∀ (l : List (List Int)) (fl : List Bool), (l.foldl carS fl).length = fl.length := by
    intro l
    induction l with
    | nil => intro fl; rfl
    | cons d l ih => intro fl; rw [List.foldl_cons, ih, carS_len]
  rw [carF, key, List.length_replicate]
theorem carF_next {n j : Nat} {l : List (List Int)} {d : List Int} (h : l[j]? = some d) : carF n (l.take (j + 1)) = carS (carF n (l.take j)) d := by
  rw [carF, List.take_add_one, h, List.foldl_append]; rfl
theorem carF_at {n : Nat} {l : List (List Int)} {i : Nat} (hi : i < n) : (carF n l).getD i false = l.any fun d => decide (carry d = (i : Int)) := by
  have key : ∀ (l : List (List Int)) (fl : List Bool), i < fl.length → (l.foldl carS fl).getD i false = (fl.getD i false || l.any fun d => decide (carry d = (i : Int))) := by
    intro l
    induction l with
    | nil => intro fl _; simp
    | cons d l ih =>
      intro fl hf
      rw [List.foldl_cons, ih _ (by rw [carS_len]; exact hf), List.any_cons, ← Bool.or_assoc]
      congr 1
      rw [carS]
      split
      · rename_i h0
        rw [List.getD, List.getElem?_set]
        by_cases e : (carry d).toNat = i
        · rw [if_pos e, if_pos (by omega), decide_eq_true (by omega)]; simp
        · rw [if_neg e, decide_eq_false (by omega)]; simp [List.getD]
      · rename_i h0
        rw [decide_eq_false (by omega)]; simp
  rw [carF, key _ _ (by rw [List.length_replicate]; exact hi)]
  simp [List.getD, hi]
theorem flagV_congr {a b : List Bool} (h : ∀ i, a.getD i false = b.getD i false) : flagV a = flagV b := by
  have ext : ∀ (l : List Bool) (m : Nat), flagN l (l.length + m) = flagV l := by
    intro l m
    induction m with
    | zero => rfl
    | succ m ih =>
      have e : l.getD (l.length + m) false = false := by rw [List.getD, List.getElem?_eq_none (by omega)]; rfl
      rw [← ih, flagN, show l.length + (m + 1) = (l.length + m) + 1 by omega, List.range_succ, List.filter_append, List.map_append, List.filter_cons_of_neg (by rw [e]; simp)]
      simp [flagN]
  have e1 := ext a (b.length)
  have e2 := ext b (a.length)
  rw [← e1, ← e2, Nat.add_comm b.length, flagN, flagN]
  congr 2
  funext i
  exact h i
theorem carry_bd {d : List Int} : carry d = -1 ∨ (0 ≤ carry d ∧ carry d < (d.length : Nat)) := by
  rw [carry, findI]
  split
  · rename_i h
    right
    obtain ⟨x, hx, hp⟩ := List.any_eq_true.1 h
    have := List.findIdx_lt_length_of_exists (p := fun x => x != 0) (xs := d) ⟨x, hx, hp⟩
    omega
  · exact .inl rfl
/-- The same set of distances, all of them short: the same loops. -/
theorem carF_same {n m : Nat} {l l' : List (List Int)} (hl : ∀ d, d ∈ l ↔ d ∈ l') (hn : n ≤ m) (h : ∀ d ∈ l, d.length = n) : ∀ i, (carF n l).getD i false = (carF m l').getD i false := by
  intro i
  have hany : (l.any fun d => decide (carry d = (i : Int))) = l'.any fun d => decide (carry d = (i : Int)) := by
    rw [Bool.eq_iff_iff, List.any_eq_true, List.any_eq_true]
    exact ⟨fun ⟨d, h1, h2⟩ => ⟨d, (hl d).1 h1, h2⟩, fun ⟨d, h1, h2⟩ => ⟨d, (hl d).2 h1, h2⟩⟩
  by_cases h1 : i < n
  · rw [carF_at h1, carF_at (by omega), hany]
  · rw [List.getD, List.getElem?_eq_none (by rw [carF_len]; omega)]
    by_cases h2 : i < m
    · rw [carF_at h2, ← hany]
      symm
      show _ = false
      rw [List.any_eq_false]
      intro d hd
      have := carry_bd (d := d)
      have := h d hd
      simp; omega
    · rw [List.getD, List.getElem?_eq_none (by rw [carF_len]; omega)]
end Go.Proofs.YtidfloikpieggaaGreat
