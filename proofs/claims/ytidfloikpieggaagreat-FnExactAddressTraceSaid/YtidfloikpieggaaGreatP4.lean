/- Part 4 of 6 of the proof: laws on memory and data, then what the functions compute, in the order in which they build on each other; conditions: those that each theorem names. -/
import Derived.SizedLaws
import Derived.Laws.MakeOwn
import Derived.Test.YtidfloikpieggaaGreatP3
set_option maxRecDepth 100000
set_option maxHeartbeats 1600000

namespace Go.Proofs.YtidfloikpieggaaGreat
set_option linter.unusedVariables false
set_option linter.unusedSimpArgs false
open Go.RowKit
section
variable {P : Program} {n : Nat} {ops : Array Oper} {o : Oper} {σ : St} {d : Nat} {t t2 : TypeId} {x y : Operand} {a b : ByteArray}
theorem St1.ltS (h4 : (o.op, o.guard, o.dst, Nat.blt d n) = (Op.binOp .lss t x y t2, none, some d, true)) (hx : ev σ x = some (.o (st1 a))) (hy : ev σ y = some (.o (st1 b))) :
    St1 P n ops o σ (rd x ++ rd y) [.t d] ((.t d, .v (.o (bo1 (sLt a b)))) :: σ) := by
  simp only [Prod.mk.injEq] at h4
  exact St1.bin h4.1 h4.2.1 h4.2.2.1 h4.2.2.2 hx hy (fun w => by simp [eqGuard, binOp, Op.stringOp, sLt]) rfl
theorem St1.gtS (h4 : (o.op, o.guard, o.dst, Nat.blt d n) = (Op.binOp .gtr t x y t2, none, some d, true)) (hx : ev σ x = some (.o (st1 a))) (hy : ev σ y = some (.o (st1 b))) :
    St1 P n ops o σ (rd x ++ rd y) [.t d] ((.t d, .v (.o (bo1 (!(sLt a b || sEq a b))))) :: σ) := by
  simp only [Prod.mk.injEq] at h4
  exact St1.bin h4.1 h4.2.1 h4.2.2.1 h4.2.2.2 hx hy (fun w => by simp [eqGuard, binOp, Op.stringOp, sLt, sEq]) rfl
end

theorem arrOk_eq (a : Arr) : arrOk a = (arrV a.1 && (inB (a.2.length : Nat) 1 2 && !(a.2.any fun n => !dimV n))) := by
  rw [arrOk, inB]
  congr 1
  congr 1
  · rw [decide_eq_decide]; omega
  · rw [List.any_eq_not_all_not, Bool.not_not]; simp

theorem arr1_fn (n : Int) : Fn Tryz.prog 144 [] [nat1 n] (.o (bo1 (!dimV n))) [] := by
  refine Fn.code0 Tryz.func144 rfl rfl rfl rfl ?_
  refine .seq <| .region <| .cons (.asg rfl rfl) <| .nil <| ks_n <| .seq <| .region <| .cons (.mv rfl rfl) <| .cons (.cP [.tmp 3, .const (.int .i64 (1)), .const (.int .i64 (6))] rfl rfl rfl rfl (within_fn _ 1 6) rfl) ?_
  refine .cons (.nt rfl rfl) <| .cons (.asg rfl rfl) <| .nil <| ks_n <| .ret ?_
  refine kf_ret rfl ?_ nobox
  first | rfl | exact leafB (by rw [dimV])

theorem arraysOk_fn (ar : List Arr) (hl : ar.length ≤ 1099511627776) (hq : ∀ x ∈ ar, x.2.length ≤ 1099511627776) : Fn Tryz.prog 95 [] [vD (dRs ar)] (.o (bo1 (arrsV ar))) [] := by
 refine Fn.code0 Tryz.func95 rfl rfl rfl rfl ?_
 refine .seq <| .region <| .cons (.asg rfl rfl) <| .nil <| ks_n <| .seq <| .seq <| .region <| .cons (.mv rfl rfl) <| .cons (.ln 78 2 40 rfl rfl rfl) <| .cons (.mv rfl rfl) <| .nil <| ks_n <| .block ?_
 refine .loopK (fun m σ => (∃ i : Nat, m = ar.length - i ∧ (i ≤ ar.length) ∧ (∀ j, j < i → arrAt ar j = true) ∧ σ = [(.t 0, .v (.o (vD (dRs ar)))), (.t 2, .v (.o (bo1 false))), (.t 5, .v (.o (vD (dRs ar)))), (.t 6, .v (.o (nat1 (ar.length : Nat)))), (.t 7, .v (.o (nat1 (i : Nat))))])) [] ⟨0, rfl, by omega, fun j hj => absurd hj (by omega), rfl⟩ ⟨ks rfl .dt, ks rfl .dt, ks rfl .dt, ks rfl .dt, ks rfl .dt, trivial⟩ ?_
 rintro m σ ⟨i, hm0, hi, hF, rfl⟩
 refine .seq <| .region <| .cons (.ls rfl rfl rfl) <| .nil <| ks_n <| .seq ?_
 refine .cD rfl (fun h8 => ?_) (fun h8 => ?_)
 ·skip
  obtain ⟨x, hx1⟩ : ∃ x_, ar[i]? = some x_ := ⟨_, List.getElem?_eq_getElem (by omega)⟩
  have hA := arrAt_eq hx1
  refine .skip <| ks_n <| .seq <| .block <| .seq <| .region <| .cons (.mv rfl rfl) <| .cons (.xL 78 2 40 rfl rfl rfl rfl rfl) ?_
  refine .cons (.lN 2 rfl rfl rfl) <| .cons (.al 104 [.string ByteArray.empty, .slice none 0 0] rfl rfl rfl) <| .cons (.asg rfl rfl) <| .cons (.sT 2 true rfl rfl rfl rfl rfl rfl rfl) <| .nil <| ks_n <| .seq ?_
  refine ACode.drawK (by kernel_rfl) (by kernel_rfl) ?_
  refine .cons (.fB 0 0 false rfl rfl rfl) <| .cons (.b1 1 rfl rfl rfl rfl rfl rfl) <| .cons (.cP [.tmp 13] rfl rfl rfl rfl (isArray_fn _) rfl) ?_
  refine .cons (.nt rfl rfl) <| .cons (.mv rfl rfl) ?_
  refine RunK.cases 16 _ rfl (fun g16 => ?_) (fun g16 => ?_)
  ·try simp only [zs1, zs2, zs3, zs4, zs5, zs6, zs7] at g16
   refine .cons (.gF rfl rfl rfl) <| .cons (.gF rfl rfl rfl) <| .cons (.gF rfl rfl rfl) <| .cons (.gU rfl rfl) <| .cons (.gU rfl rfl) <| .cons (.gU rfl rfl) <| .cons (.gU rfl rfl) <| .cons (.gU rfl rfl) <| .cons (.gU rfl rfl) <| .cons (.gU rfl rfl) <| .cons (.gU rfl rfl) <| .cons (.gU rfl rfl) <| .cons (.gF rfl rfl rfl) <| .cons (.pT rfl rfl rfl) <| .cons (.mv rfl rfl) <| .cons (.gF rfl rfl rfl) <| .cons (.gF rfl rfl rfl) <| .cons (.gF rfl rfl rfl) <| .cons (.gF rfl rfl rfl) <| .cons (.gF rfl rfl rfl) <| .cons (.pT rfl rfl rfl) <| .cons (.mv rfl rfl) <| .cons (.gF rfl rfl rfl) <| .cons (.gF rfl rfl rfl) <| .cons (.gF rfl rfl rfl) <| .cons (.pT rfl rfl rfl) ?_
   refine .nil ⟨by kernel_rfl, ?_⟩
   refine ks_n ?_
   refine ACode.condT rfl (fun _ => ?_) (fun h => by first | (cases h; done) | (simp [*] at h; done) | (exfalso; simp_all; done))
   refine .seq <| .region <| .cons (.asg rfl rfl) <| .nil <| ks_n <| .ret <| kb_r <| ks_r <| kl_r <| kb_r <| ks_r ?_
   refine kf_ret rfl ?_ nobox
   exact leafB (arrsV_bad (i := i) (by omega) (by rw [hA, arrOk_eq]; first | (simp_all; done) | (simp_all; omega) | grind)).symm
  ·try simp only [zs1, zs2, zs3, zs4, zs5, zs6, zs7] at g16
   refine .cons (.gT rfl rfl rfl (.mv rfl rfl)) <| .cons (.gT rfl rfl rfl (.gt rfl rfl rfl)) <| .cons (.gT rfl rfl rfl (.mv rfl rfl)) ?_
   refine .cD 19 rfl (fun g19 => ?_) (fun g19 => ?_)
   ·skip
    obtain ⟨y, hy1⟩ : ∃ x_, ar[i - 1]? = some x_ := ⟨_, List.getElem?_eq_getElem (by omega)⟩
    have hB := lastV_eq (a := x) hy1
    refine .cons (.gT rfl rfl rfl (.mv rfl rfl)) <| .cons (.gT rfl rfl rfl (.mv rfl rfl)) <| .cons (.gT rfl rfl rfl (.sb rfl rfl rfl)) <| .cons (.gT rfl rfl rfl (.xL 78 2 40 (i := (i - 1)) rfl rfl rfl rfl (by omega) (map_at hy1))) ?_
    refine .cons (.gT rfl rfl rfl (.fP 0 0 false rfl rfl)) <| .cons (.gT rfl rfl rfl (.l1 1 rfl rfl)) <| .cons (.gT rfl rfl rfl (.fB 0 0 false rfl rfl rfl)) <| .cons (.gT rfl rfl rfl (.b1 1 rfl rfl rfl rfl rfl rfl)) <| .cons (.gT rfl rfl rfl (St1.geS rfl rfl rfl)) <| .cons (.gT rfl rfl rfl (.pT rfl rfl rfl)) <| .cons (.pF rfl rfl rfl) <| .cons (.mv rfl rfl) ?_
    refine RunK.cases 31 _ rfl (fun g31 => ?_) (fun g31 => ?_)
    ·try simp only [zs1, zs2, zs3, zs4, zs5, zs6, zs7] at g31
     refine .cons (.gF rfl rfl rfl) <| .cons (.gF rfl rfl rfl) <| .cons (.gF rfl rfl rfl) <| .cons (.gF rfl rfl rfl) <| .cons (.gF rfl rfl rfl) <| .cons (.pT rfl rfl rfl) <| .cons (.mv rfl rfl) <| .cons (.gF rfl rfl rfl) <| .cons (.gF rfl rfl rfl) <| .cons (.gF rfl rfl rfl) <| .cons (.pT rfl rfl rfl) ?_
     refine .nil ⟨by kernel_rfl, ?_⟩
     refine ks_n ?_
     refine ACode.condT rfl (fun _ => ?_) (fun h => by first | (cases h; done) | (simp [*] at h; done) | (exfalso; simp_all; done))
     refine .seq <| .region <| .cons (.asg rfl rfl) <| .nil <| ks_n <| .ret <| kb_r <| ks_r <| kl_r <| kb_r <| ks_r ?_
     refine kf_ret rfl ?_ nobox
     exact leafB (arrsV_bad (i := i) (by omega) (by rw [hA, arrOk_eq]; first | (simp_all; done) | (simp_all; omega) | grind)).symm
    ·try simp only [zs1, zs2, zs3, zs4, zs5, zs6, zs7] at g31
     refine .cons (.gT rfl rfl rfl (.fB 1 0 false rfl rfl rfl)) <| .cons (.gT rfl rfl rfl (.b1 1 rfl rfl rfl rfl rfl rfl)) <| .cons (.gT rfl rfl rfl (.ln 3 1 8 rfl rfl rfl)) <| .cons (.gT rfl rfl rfl (.cP [.tmp 34, .const (.int .i64 (1)), .const (.int .i64 (2))] rfl rfl rfl rfl (within_fn _ 1 2) rfl)) ?_
     refine .cons (.gT rfl rfl rfl (.nt rfl rfl)) <| .cons (.pF rfl rfl rfl) <| .cons (.mv rfl rfl) ?_
     refine RunK.cases 38 _ rfl (fun g38 => ?_) (fun g38 => ?_)
     ·try simp only [zs1, zs2, zs3, zs4, zs5, zs6, zs7] at g38
      refine .cons (.gF rfl rfl rfl) <| .cons (.gF rfl rfl rfl) <| .cons (.gF rfl rfl rfl) <| .cons (.pT rfl rfl rfl) ?_
      refine .nil ⟨by kernel_rfl, ?_⟩
      refine ks_n ?_
      refine ACode.condT rfl (fun _ => ?_) (fun h => by first | (cases h; done) | (simp [*] at h; done) | (exfalso; simp_all; done))
      refine .seq <| .region <| .cons (.asg rfl rfl) <| .nil <| ks_n <| .ret <| kb_r <| ks_r <| kl_r <| kb_r <| ks_r ?_
      refine kf_ret rfl ?_ nobox
      exact leafB (arrsV_bad (i := i) (by omega) (by rw [hA, arrOk_eq]; first | (simp_all; done) | (simp_all; omega) | grind)).symm
     ·try simp only [zs1, zs2, zs3, zs4, zs5, zs6, zs7] at g38
      refine .cons (.gT rfl rfl rfl (.fB 1 0 false rfl rfl rfl)) <| .cons (.gT rfl rfl rfl (.b1 1 rfl rfl rfl rfl rfl rfl)) <| .cons (.gT rfl rfl rfl (.cP [.tmp 40, .func 144] rfl rfl rfl rfl (cnt_int (f := 144) (cap := []) (by kernel_rfl) (fun n => !dimV n) x.2 (hq x (List.mem_of_getElem? hx1)) (fun n _ => arr1_fn n)) rfl)) ?_
      refine .cons (.pF rfl rfl rfl) ?_
      refine .nil ⟨by kernel_rfl, ?_⟩
      refine ks_n ?_
      refine ACode.condT rfl (fun h42 => ?_) (fun h42 => ?_)
      ·try simp only [zs1, zs2, zs3, zs4, zs5, zs6, zs7] at h42
       refine .seq <| .region <| .cons (.asg rfl rfl) <| .nil <| ks_n <| .ret <| kb_r <| ks_r <| kl_r <| kb_r <| ks_r ?_
       refine kf_ret rfl ?_ nobox
       exact leafB (arrsV_bad (i := i) (by omega) (by rw [hA, arrOk_eq]; first | (simp_all; done) | (simp_all; omega) | grind)).symm
      ·try simp only [zs1, zs2, zs3, zs4, zs5, zs6, zs7] at h42
       refine .skip <| kb_n <| ks_n <| .region <| .cons (.pl rfl rfl rfl) <| .cons (.mv rfl rfl) <| .nil ?_
       refine kl_k [] ⟨i + 1, rfl, by omega, fun j hj => by exact (Nat.lt_succ_iff_lt_or_eq.1 hj).elim (fun h => hF j h) (fun h => by rw [h, hA, arrOk_eq]; first | (simp_all; done) | (simp_all; omega) | grind), rfl⟩ ⟨ks rfl .dt, ks rfl .dt, ks rfl .dt, ks rfl .dt, ks rfl .dt, trivial⟩
   ·skip
    have hB0 : i = 0 := by omega
    refine .cons (.gF rfl rfl rfl) <| .cons (.gF rfl rfl rfl) <| .cons (.gF rfl rfl rfl) <| .cons (.gF rfl rfl rfl) <| .cons (.gF rfl rfl rfl) <| .cons (.gF rfl rfl rfl) <| .cons (.gF rfl rfl rfl) <| .cons (.gF rfl rfl rfl) <| .cons (.gF rfl rfl rfl) <| .cons (.gT rfl rfl rfl (.pF rfl rfl rfl)) <| .cons (.pF rfl rfl rfl) <| .cons (.mv rfl rfl) <| .cons (.gT rfl rfl rfl (.fB 1 0 false rfl rfl rfl)) <| .cons (.gT rfl rfl rfl (.b1 1 rfl rfl rfl rfl rfl rfl)) <| .cons (.gT rfl rfl rfl (.ln 3 1 8 rfl rfl rfl)) <| .cons (.gT rfl rfl rfl (.cP [.tmp 34, .const (.int .i64 (1)), .const (.int .i64 (2))] rfl rfl rfl rfl (within_fn _ 1 2) rfl)) ?_
    refine .cons (.gT rfl rfl rfl (.nt rfl rfl)) <| .cons (.pF rfl rfl rfl) <| .cons (.mv rfl rfl) ?_
    refine RunK.cases 38 _ rfl (fun g38 => ?_) (fun g38 => ?_)
    ·try simp only [zs1, zs2, zs3, zs4, zs5, zs6, zs7] at g38
     refine .cons (.gF rfl rfl rfl) <| .cons (.gF rfl rfl rfl) <| .cons (.gF rfl rfl rfl) <| .cons (.pT rfl rfl rfl) ?_
     refine .nil ⟨by kernel_rfl, ?_⟩
     refine ks_n ?_
     refine ACode.condT rfl (fun _ => ?_) (fun h => by first | (cases h; done) | (simp [*] at h; done) | (exfalso; simp_all; done))
     refine .seq <| .region <| .cons (.asg rfl rfl) <| .nil <| ks_n <| .ret <| kb_r <| ks_r <| kl_r <| kb_r <| ks_r ?_
     refine kf_ret rfl ?_ nobox
     exact leafB (arrsV_bad (i := i) (by omega) (by rw [hA, arrOk_eq]; first | (simp_all; done) | (simp_all; omega) | grind)).symm
    ·try simp only [zs1, zs2, zs3, zs4, zs5, zs6, zs7] at g38
     refine .cons (.gT rfl rfl rfl (.fB 1 0 false rfl rfl rfl)) <| .cons (.gT rfl rfl rfl (.b1 1 rfl rfl rfl rfl rfl rfl)) <| .cons (.gT rfl rfl rfl (.cP [.tmp 40, .func 144] rfl rfl rfl rfl (cnt_int (f := 144) (cap := []) (by kernel_rfl) (fun n => !dimV n) x.2 (hq x (List.mem_of_getElem? hx1)) (fun n _ => arr1_fn n)) rfl)) ?_
     refine .cons (.pF rfl rfl rfl) ?_
     refine .nil ⟨by kernel_rfl, ?_⟩
     refine ks_n ?_
     refine ACode.condT rfl (fun h42 => ?_) (fun h42 => ?_)
     ·try simp only [zs1, zs2, zs3, zs4, zs5, zs6, zs7] at h42
      refine .seq <| .region <| .cons (.asg rfl rfl) <| .nil <| ks_n <| .ret <| kb_r <| ks_r <| kl_r <| kb_r <| ks_r ?_
      refine kf_ret rfl ?_ nobox
      exact leafB (arrsV_bad (i := i) (by omega) (by rw [hA, arrOk_eq]; first | (simp_all; done) | (simp_all; omega) | grind)).symm
     ·try simp only [zs1, zs2, zs3, zs4, zs5, zs6, zs7] at h42
      refine .skip <| kb_n <| ks_n <| .region <| .cons (.pl rfl rfl rfl) <| .cons (.mv rfl rfl) <| .nil ?_
      refine kl_k [] ⟨i + 1, rfl, by omega, fun j hj => by exact (Nat.lt_succ_iff_lt_or_eq.1 hj).elim (fun h => hF j h) (fun h => by rw [h, hA, arrOk_eq]; first | (simp_all; done) | (simp_all; omega) | grind), rfl⟩ ⟨ks rfl .dt, ks rfl .dt, ks rfl .dt, ks rfl .dt, ks rfl .dt, trivial⟩
 ·skip
  refine .exit <| ks_e <| kl_e <| kb_hit <| ks_n <| .seq <| .region <| .cons (.mv rfl rfl) <| .cons (.ln 78 2 40 rfl rfl rfl) <| .cons (.le rfl rfl rfl) <| .cons (.asg rfl rfl) <| .nil <| ks_n <| .ret ?_
  refine kf_ret rfl ?_ nobox
  exact leafB (by rw [arrsV_end fun j hj => hF j (by omega)]; rw [decide_eq_decide]; omega)

theorem l4Arrays_fn (ar : List Arr) (hl : ar.length ≤ 1099511627776) (hq : ∀ x ∈ ar, x.2.length ≤ 1099511627776) : Fn Tryz.prog 86 [] [vD (dRs ar)] (.o (bo1 (arrsV ar))) [] := by
 refine Fn.code0 Tryz.func86 rfl rfl rfl rfl ?_
 refine .seq <| .region <| .cons (.asg rfl rfl) <| .nil <| ks_n <| .seq <| .seq <| .region <| .cons (.asg rfl rfl) <| .nil <| ks_n <| .block ?_
 refine .loopK (fun m σ => (∃ i : Nat, m = ar.length - i ∧ (i ≤ ar.length) ∧ (∀ j, j < i → arrAt ar j = true) ∧ σ = [(.t 0, .v (.o (vD (dRs ar)))), (.t 2, .v (.o (bo1 false))), (.t 3, .v (.o (nat1 (i : Nat))))])) [] ⟨0, rfl, by omega, fun j hj => absurd hj (by omega), rfl⟩ ⟨ks rfl .dt, ks rfl .dt, ks rfl .dt, trivial⟩ ?_
 rintro m σ ⟨i, hm0, hi, hF, rfl⟩
 refine .seq <| .seq <| .region <| .cons (.mv rfl rfl) <| .cons (.mv rfl rfl) <| .cons (.ln 78 2 40 rfl rfl rfl) <| .cons (.ls rfl rfl rfl) <| .nil <| ks_n ?_
 refine .cD rfl (fun h9 => ?_) (fun h9 => ?_)
 ·skip
  obtain ⟨x, hx1⟩ : ∃ x_, ar[i]? = some x_ := ⟨_, List.getElem?_eq_getElem (by omega)⟩
  have hA := arrAt_eq hx1
  have hxl := hq x (List.mem_of_getElem? hx1)
  refine .skip <| ks_n <| .seq <| .block <| .seq <| .region <| .cons (.mv rfl rfl) <| .cons (.mv rfl rfl) <| .cons (.xL 78 2 40 rfl rfl rfl rfl rfl) ?_
  refine .cons (.lN 2 rfl rfl rfl) <| .cons (.al 104 [.string ByteArray.empty, .slice none 0 0] rfl rfl rfl) <| .cons (.sT 2 true rfl rfl rfl rfl rfl rfl rfl) <| .nil <| ks_n <| .seq <| .seq ?_
  refine ACode.drawK (by kernel_rfl) (by kernel_rfl) ?_
  refine .cons (.fB 0 0 false rfl rfl rfl) <| .cons (.b1 1 rfl rfl rfl rfl rfl rfl) <| .cons (St1.lenS rfl rfl rfl rfl rfl (by kernel_rfl) rfl) ?_
  refine .cons (.ne rfl rfl rfl) <| .cons (.mv rfl rfl) ?_
  refine .cND 20 rfl (fun g20 => ?_) (fun g20 => ?_)
  ·skip
   have hAr := arrV_size (s := x.1) (by omega)
   refine .cons (.gF rfl rfl rfl) <| .cons (.gF rfl rfl rfl) <| .cons (.gF rfl rfl rfl) <| .cons (.pT rfl rfl rfl) <| .cons (.mv rfl rfl) <| .cons (.gF rfl rfl rfl) <| .cons (.gF rfl rfl rfl) <| .cons (.gF rfl rfl rfl) <| .cons (.pT rfl rfl rfl) <| .cons (.mv rfl rfl) <| .cons (.gF rfl rfl rfl) <| .cons (.gF rfl rfl rfl) <| .cons (.gF rfl rfl rfl) <| .cons (.gU rfl rfl) <| .cons (.gU rfl rfl) <| .cons (.gU rfl rfl) <| .cons (.gU rfl rfl) <| .cons (.gU rfl rfl) <| .cons (.gU rfl rfl) <| .cons (.gU rfl rfl) <| .cons (.gU rfl rfl) <| .cons (.gU rfl rfl) <| .cons (.gF rfl rfl rfl) <| .cons (.pT rfl rfl rfl) <| .cons (.mv rfl rfl) <| .cons (.gF rfl rfl rfl) <| .cons (.gF rfl rfl rfl) <| .cons (.gF rfl rfl rfl) <| .cons (.gF rfl rfl rfl) <| .cons (.pT rfl rfl rfl) <| .cons (.mv rfl rfl) <| .cons (.gF rfl rfl rfl) <| .cons (.gF rfl rfl rfl) <| .cons (.gF rfl rfl rfl) <| .cons (.gF rfl rfl rfl) <| .cons (.pT rfl rfl rfl) ?_
   refine .nil ⟨by kernel_rfl, ?_⟩
   refine ks_n ?_
   refine ACode.condT rfl (fun _ => ?_) (fun h => by first | (cases h; done) | (simp [*] at h; done) | (exfalso; simp_all; done))
   refine .seq <| .region <| .cons (.asg rfl rfl) <| .nil <| ks_n <| .ret <| ks_r <| kb_r <| ks_r <| kl_r <| kb_r <| ks_r ?_
   refine kf_ret rfl ?_ nobox
   exact leafB (arrsV_bad (i := i) (by omega) (by rw [hA, arrOk]; rw [hAr] at *; first | (simp_all; done) | (simp_all; omega) | grind)).symm
  ·skip
   have hAr := arr_leaf (s := x.1) (by omega)
   refine .cons (.gT rfl rfl rfl (.fB 0 0 false rfl rfl rfl)) <| .cons (.gT rfl rfl rfl (.b1 1 rfl rfl rfl rfl rfl rfl)) <| .cons (.gT rfl rfl rfl (St1.ltS rfl rfl rfl)) <| .cons (.pF rfl rfl rfl) <| .cons (.mv rfl rfl) ?_
   refine RunK.cases 25 _ rfl (fun g25 => ?_) (fun g25 => ?_)
   ·try simp only [zs1, zs2, zs3, zs4, zs5, zs6, zs7] at g25
    refine .cons (.gF rfl rfl rfl) <| .cons (.gF rfl rfl rfl) <| .cons (.gF rfl rfl rfl) <| .cons (.pT rfl rfl rfl) <| .cons (.mv rfl rfl) <| .cons (.gF rfl rfl rfl) <| .cons (.gF rfl rfl rfl) <| .cons (.gF rfl rfl rfl) <| .cons (.gU rfl rfl) <| .cons (.gU rfl rfl) <| .cons (.gU rfl rfl) <| .cons (.gU rfl rfl) <| .cons (.gU rfl rfl) <| .cons (.gU rfl rfl) <| .cons (.gU rfl rfl) <| .cons (.gU rfl rfl) <| .cons (.gU rfl rfl) <| .cons (.gF rfl rfl rfl) <| .cons (.pT rfl rfl rfl) <| .cons (.mv rfl rfl) <| .cons (.gF rfl rfl rfl) <| .cons (.gF rfl rfl rfl) <| .cons (.gF rfl rfl rfl) <| .cons (.gF rfl rfl rfl) <| .cons (.pT rfl rfl rfl) <| .cons (.mv rfl rfl) <| .cons (.gF rfl rfl rfl) <| .cons (.gF rfl rfl rfl) <| .cons (.gF rfl rfl rfl) <| .cons (.gF rfl rfl rfl) <| .cons (.pT rfl rfl rfl) ?_
    refine .nil ⟨by kernel_rfl, ?_⟩
    refine ks_n ?_
    refine ACode.condT rfl (fun _ => ?_) (fun h => by first | (cases h; done) | (simp [*] at h; done) | (exfalso; simp_all; done))
    refine .seq <| .region <| .cons (.asg rfl rfl) <| .nil <| ks_n <| .ret <| ks_r <| kb_r <| ks_r <| kl_r <| kb_r <| ks_r ?_
    refine kf_ret rfl ?_ nobox
    exact leafB (arrsV_bad (i := i) (by omega) (by rw [hA, arrOk]; rw [hAr] at *; first | (simp_all; done) | (simp_all; omega) | grind)).symm
   ·try simp only [zs1, zs2, zs3, zs4, zs5, zs6, zs7] at g25
    refine .cons (.gT rfl rfl rfl (.fB 0 0 false rfl rfl rfl)) <| .cons (.gT rfl rfl rfl (.b1 1 rfl rfl rfl rfl rfl rfl)) <| .cons (.gT rfl rfl rfl (St1.gtS rfl rfl rfl)) <| .cons (.pF rfl rfl rfl) <| .cons (.mv rfl rfl) ?_
    refine RunK.cases 30 _ rfl (fun g30 => ?_) (fun g30 => ?_)
    ·try simp only [zs1, zs2, zs3, zs4, zs5, zs6, zs7] at g30
     refine .cons (.gF rfl rfl rfl) <| .cons (.gF rfl rfl rfl) <| .cons (.gF rfl rfl rfl) <| .cons (.gU rfl rfl) <| .cons (.gU rfl rfl) <| .cons (.gU rfl rfl) <| .cons (.gU rfl rfl) <| .cons (.gU rfl rfl) <| .cons (.gU rfl rfl) <| .cons (.gU rfl rfl) <| .cons (.gU rfl rfl) <| .cons (.gU rfl rfl) <| .cons (.gF rfl rfl rfl) <| .cons (.pT rfl rfl rfl) <| .cons (.mv rfl rfl) <| .cons (.gF rfl rfl rfl) <| .cons (.gF rfl rfl rfl) <| .cons (.gF rfl rfl rfl) <| .cons (.gF rfl rfl rfl) <| .cons (.pT rfl rfl rfl) <| .cons (.mv rfl rfl) <| .cons (.gF rfl rfl rfl) <| .cons (.gF rfl rfl rfl) <| .cons (.gF rfl rfl rfl) <| .cons (.gF rfl rfl rfl) <| .cons (.pT rfl rfl rfl) ?_
     refine .nil ⟨by kernel_rfl, ?_⟩
     refine ks_n ?_
     refine ACode.condT rfl (fun _ => ?_) (fun h => by first | (cases h; done) | (simp [*] at h; done) | (exfalso; simp_all; done))
     refine .seq <| .region <| .cons (.asg rfl rfl) <| .nil <| ks_n <| .ret <| ks_r <| kb_r <| ks_r <| kl_r <| kb_r <| ks_r ?_
     refine kf_ret rfl ?_ nobox
     exact leafB (arrsV_bad (i := i) (by omega) (by rw [hA, arrOk]; rw [hAr] at *; first | (simp_all; done) | (simp_all; omega) | grind)).symm
    ·try simp only [zs1, zs2, zs3, zs4, zs5, zs6, zs7] at g30
     refine .cons (.gT rfl rfl rfl (.mv rfl rfl)) <| .cons (.gT rfl rfl rfl (.gt rfl rfl rfl)) <| .cons (.gT rfl rfl rfl (.mv rfl rfl)) ?_
     refine .cD 33 rfl (fun g33 => ?_) (fun g33 => ?_)
     ·skip
      obtain ⟨y, hy1⟩ : ∃ x_, ar[i - 1]? = some x_ := ⟨_, List.getElem?_eq_getElem (by omega)⟩
      have hB := lastV_eq (a := x) hy1
      refine .cons (.gT rfl rfl rfl (.mv rfl rfl)) <| .cons (.gT rfl rfl rfl (.mv rfl rfl)) <| .cons (.gT rfl rfl rfl (.sb rfl rfl rfl)) <| .cons (.gT rfl rfl rfl (.xL 78 2 40 (i := (i - 1)) rfl rfl rfl rfl (by omega) (map_at hy1))) ?_
      refine .cons (.gT rfl rfl rfl (.fP 0 0 false rfl rfl)) <| .cons (.gT rfl rfl rfl (.l1 1 rfl rfl)) <| .cons (.gT rfl rfl rfl (.fB 0 0 false rfl rfl rfl)) <| .cons (.gT rfl rfl rfl (.b1 1 rfl rfl rfl rfl rfl rfl)) <| .cons (.gT rfl rfl rfl (St1.geS rfl rfl rfl)) <| .cons (.gT rfl rfl rfl (.pT rfl rfl rfl)) <| .cons (.pF rfl rfl rfl) <| .cons (.mv rfl rfl) ?_
      refine RunK.cases 45 _ rfl (fun g45 => ?_) (fun g45 => ?_)
      ·try simp only [zs1, zs2, zs3, zs4, zs5, zs6, zs7] at g45
       refine .cons (.gF rfl rfl rfl) <| .cons (.gF rfl rfl rfl) <| .cons (.gF rfl rfl rfl) <| .cons (.gF rfl rfl rfl) <| .cons (.pT rfl rfl rfl) <| .cons (.mv rfl rfl) <| .cons (.gF rfl rfl rfl) <| .cons (.gF rfl rfl rfl) <| .cons (.gF rfl rfl rfl) <| .cons (.gF rfl rfl rfl) <| .cons (.pT rfl rfl rfl) ?_
       refine .nil ⟨by kernel_rfl, ?_⟩
       refine ks_n ?_
       refine ACode.condT rfl (fun _ => ?_) (fun h => by first | (cases h; done) | (simp [*] at h; done) | (exfalso; simp_all; done))
       refine .seq <| .region <| .cons (.asg rfl rfl) <| .nil <| ks_n <| .ret <| ks_r <| kb_r <| ks_r <| kl_r <| kb_r <| ks_r ?_
       refine kf_ret rfl ?_ nobox
       exact leafB (arrsV_bad (i := i) (by omega) (by rw [hA, arrOk]; rw [hAr] at *; first | (simp_all; done) | (simp_all; omega) | grind)).symm
      ·try simp only [zs1, zs2, zs3, zs4, zs5, zs6, zs7] at g45
       refine .cons (.gT rfl rfl rfl (.fB 1 0 false rfl rfl rfl)) <| .cons (.gT rfl rfl rfl (.b1 1 rfl rfl rfl rfl rfl rfl)) <| .cons (.gT rfl rfl rfl (.ln 3 1 8 rfl rfl rfl)) <| .cons (.gT rfl rfl rfl (.ls rfl rfl rfl)) <| .cons (.pF rfl rfl rfl) <| .cons (.mv rfl rfl) ?_
       refine RunK.cases 51 _ rfl (fun g51 => ?_) (fun g51 => ?_)
       ·try simp only [zs1, zs2, zs3, zs4, zs5, zs6, zs7] at g51
        refine .cons (.gF rfl rfl rfl) <| .cons (.gF rfl rfl rfl) <| .cons (.gF rfl rfl rfl) <| .cons (.gF rfl rfl rfl) <| .cons (.pT rfl rfl rfl) ?_
        refine .nil ⟨by kernel_rfl, ?_⟩
        refine ks_n ?_
        refine ACode.condT rfl (fun _ => ?_) (fun h => by first | (cases h; done) | (simp [*] at h; done) | (exfalso; simp_all; done))
        refine .seq <| .region <| .cons (.asg rfl rfl) <| .nil <| ks_n <| .ret <| ks_r <| kb_r <| ks_r <| kl_r <| kb_r <| ks_r ?_
        refine kf_ret rfl ?_ nobox
        exact leafB (arrsV_bad (i := i) (by omega) (by rw [hA, arrOk]; rw [hAr] at *; first | (simp_all; done) | (simp_all; omega) | grind)).symm
       ·try simp only [zs1, zs2, zs3, zs4, zs5, zs6, zs7] at g51
        refine .cons (.gT rfl rfl rfl (.fB 1 0 false rfl rfl rfl)) <| .cons (.gT rfl rfl rfl (.b1 1 rfl rfl rfl rfl rfl rfl)) <| .cons (.gT rfl rfl rfl (.ln 3 1 8 rfl rfl rfl)) <| .cons (.gT rfl rfl rfl (.gt rfl rfl rfl)) <| .cons (.pF rfl rfl rfl) ?_
        refine .nil ⟨by kernel_rfl, ?_⟩
        refine ks_n ?_
        refine ACode.condT rfl (fun h56 => ?_) (fun h56 => ?_)
        ·try simp only [zs1, zs2, zs3, zs4, zs5, zs6, zs7] at h56
         refine .seq <| .region <| .cons (.asg rfl rfl) <| .nil <| ks_n <| .ret <| ks_r <| kb_r <| ks_r <| kl_r <| kb_r <| ks_r ?_
         refine kf_ret rfl ?_ nobox
         exact leafB (arrsV_bad (i := i) (by omega) (by rw [hA, arrOk]; rw [hAr] at *; first | (simp_all; done) | (simp_all; omega) | grind)).symm
        ·try simp only [zs1, zs2, zs3, zs4, zs5, zs6, zs7] at h56
         refine .skip <| ks_n <| .seq <| .region <| .cons (.asg rfl rfl) <| .nil <| ks_n <| .block ?_
         refine .loopK (fun m σ => (∃ k : Nat, m = x.2.length - k ∧ (k ≤ x.2.length) ∧ (x.2.all dimV = (x.2.drop k).all dimV) ∧ σ = [(.t 0, .v (.o (vD (dRs ar)))), (.t 2, .v (.o (bo1 false))), (.t 3, .v (.o (nat1 (i : Nat)))), (.t 4, .v (.o (.c (.ptr (rR x))))), (.t 5, .v (.o (nat1 (k : Nat))))])) [] ⟨0, rfl, by omega, rfl, rfl⟩ ⟨ks rfl .dt, ks rfl .dt, ks rfl .dt, ks rfl (.c (.frzP _ _ _ _ _ _ _ _ rfl (show _ = dR [rR x] from rfl) rfl rfl rfl)), ks rfl .dt, trivial⟩ ?_
         rintro m σ ⟨k, hm0, hk, hG, rfl⟩
         refine .seq <| .seq <| .region <| .cons (.mv rfl rfl) <| .cons (.fP 1 0 false rfl rfl) <| .cons (.l1 1 rfl rfl) <| .cons (.ln 3 1 8 rfl rfl rfl) <| .cons (.ls rfl rfl rfl) <| .nil <| ks_n ?_
         refine .cD rfl (fun h61 => ?_) (fun h61 => ?_)
         ·skip
          obtain ⟨d, hd1⟩ : ∃ x_, x.2[k]? = some x_ := ⟨_, List.getElem?_eq_getElem (by omega)⟩
          refine .skip <| ks_n <| .seq <| .block <| .seq <| .region <| .cons (.fP 1 0 false rfl rfl) <| .cons (.l1 1 rfl rfl) <| .cons (.mv rfl rfl) <| .cons (.xL 3 1 8 rfl rfl rfl rfl rfl) ?_
          refine .cons (.l1 1 rfl rfl) <| .cons (.ls rfl rfl rfl) <| .cons (.mv rfl rfl) ?_
          refine .cD 70 rfl (fun g70 => ?_) (fun g70 => ?_)
          ·skip
           refine .cons (.gF rfl rfl rfl) <| .cons (.gF rfl rfl rfl) <| .cons (.gF rfl rfl rfl) <| .cons (.gF rfl rfl rfl) <| .cons (.gF rfl rfl rfl) <| .cons (.gF rfl rfl rfl) <| .cons (.pT rfl rfl rfl) <| .nil <| ks_n ?_
           refine ACode.condT rfl (fun _ => ?_) (fun h => by first | (cases h; done) | (simp [*] at h; done) | (exfalso; simp_all; done))
           refine .seq ?_
           have hdv : dimV d = false := decide_eq_false (by omega)
           have hD : x.2.all dimV = false := by rw [hG, all_drop hd1, hdv, Bool.false_and]
           refine .region <| .cons (.asg rfl rfl) <| .nil <| ks_n <| .ret <| kb_r <| ks_r <| kl_r <| kb_r <| kb_r <| ks_r <| kl_r <| kb_r <| ks_r ?_
           refine kf_ret rfl ?_ nobox
           exact leafB (arrsV_bad (i := i) (by omega) (by rw [hA, arrOk, hD, Bool.and_false, Bool.and_false, Bool.false_and])).symm
          ·skip
           refine .cons (.gT rfl rfl rfl (.fP 1 0 false rfl rfl)) <| .cons (.gT rfl rfl rfl (.l1 1 rfl rfl)) <| .cons (.gT rfl rfl rfl (.mv rfl rfl)) <| .cons (.gT rfl rfl rfl (.xL 3 1 8 rfl rfl rfl rfl rfl)) ?_
           refine .cons (.gT rfl rfl rfl (.l1 1 rfl rfl)) <| .cons (.gT rfl rfl rfl (.gt rfl rfl rfl)) <| .cons (.pF rfl rfl rfl) <| .nil <| ks_n ?_
           refine ACode.condT rfl (fun h77 => ?_) (fun h77 => ?_)
           ·try simp only [zs1, zs2, zs3, zs4, zs5, zs6, zs7] at h77
            refine .seq ?_
            have hdv : dimV d = false := decide_eq_false (by omega)
            have hD : x.2.all dimV = false := by rw [hG, all_drop hd1, hdv, Bool.false_and]
            refine .region <| .cons (.asg rfl rfl) <| .nil <| ks_n <| .ret <| kb_r <| ks_r <| kl_r <| kb_r <| kb_r <| ks_r <| kl_r <| kb_r <| ks_r ?_
            refine kf_ret rfl ?_ nobox
            exact leafB (arrsV_bad (i := i) (by omega) (by rw [hA, arrOk, hD, Bool.and_false, Bool.and_false, Bool.false_and])).symm
           ·try simp only [zs1, zs2, zs3, zs4, zs5, zs6, zs7] at h77
            have hdv : dimV d = true := decide_eq_true (by omega)
            refine .skip <| kb_n <| ks_n <| .region <| .cons (.mv rfl rfl) <| .cons (.pl rfl rfl rfl) <| .cons (.asg rfl rfl) <| .nil ?_
            refine kl_k [] ⟨k + 1, rfl, by omega, by rw [hG, all_drop hd1, hdv, Bool.true_and], rfl⟩ ⟨ks rfl .dt, ks rfl .dt, ks rfl .dt, ks rfl .dt, ks rfl .dt, trivial⟩
         ·skip
          have hD : x.2.all dimV = true := by rw [hG, List.drop_of_length_le (by omega)]; rfl
          refine .exit <| ks_e <| kl_e <| kb_hit <| kb_n <| ks_n <| .region <| .cons (.mv rfl rfl) <| .cons (.pl rfl rfl rfl) <| .cons (.asg rfl rfl) <| .nil ?_
          refine kl_k [] ⟨i + 1, rfl, by omega, fun j hj => (Nat.lt_succ_iff_lt_or_eq.1 hj).elim (fun h => hF j h) (fun h => by rw [h, hA, arrOk, hD]; rw [hAr] at *; first | (simp_all; done) | (simp_all; omega) | grind), rfl⟩ ⟨ks rfl .dt, ks rfl .dt, ks rfl .dt, trivial⟩
     ·skip
      have hB0 : i = 0 := by omega
      refine .cons (.gF rfl rfl rfl) <| .cons (.gF rfl rfl rfl) <| .cons (.gF rfl rfl rfl) <| .cons (.gF rfl rfl rfl) <| .cons (.gF rfl rfl rfl) <| .cons (.gF rfl rfl rfl) <| .cons (.gF rfl rfl rfl) <| .cons (.gF rfl rfl rfl) <| .cons (.gF rfl rfl rfl) <| .cons (.gT rfl rfl rfl (.pF rfl rfl rfl)) <| .cons (.pF rfl rfl rfl) <| .cons (.mv rfl rfl) <| .cons (.gT rfl rfl rfl (.fB 1 0 false rfl rfl rfl)) <| .cons (.gT rfl rfl rfl (.b1 1 rfl rfl rfl rfl rfl rfl)) <| .cons (.gT rfl rfl rfl (.ln 3 1 8 rfl rfl rfl)) <| .cons (.gT rfl rfl rfl (.ls rfl rfl rfl)) <| .cons (.pF rfl rfl rfl) <| .cons (.mv rfl rfl) ?_
      refine RunK.cases 51 _ rfl (fun g51 => ?_) (fun g51 => ?_)
      ·try simp only [zs1, zs2, zs3, zs4, zs5, zs6, zs7] at g51
       refine .cons (.gF rfl rfl rfl) <| .cons (.gF rfl rfl rfl) <| .cons (.gF rfl rfl rfl) <| .cons (.gF rfl rfl rfl) <| .cons (.pT rfl rfl rfl) ?_
       refine .nil ⟨by kernel_rfl, ?_⟩
       refine ks_n ?_
       refine ACode.condT rfl (fun _ => ?_) (fun h => by first | (cases h; done) | (simp [*] at h; done) | (exfalso; simp_all; done))
       refine .seq <| .region <| .cons (.asg rfl rfl) <| .nil <| ks_n <| .ret <| ks_r <| kb_r <| ks_r <| kl_r <| kb_r <| ks_r ?_
       refine kf_ret rfl ?_ nobox
       exact leafB (arrsV_bad (i := i) (by omega) (by rw [hA, arrOk]; rw [hAr] at *; first | (simp_all; done) | (simp_all; omega) | grind)).symm
      ·try simp only [zs1, zs2, zs3, zs4, zs5, zs6, zs7] at g51
       refine .cons (.gT rfl rfl rfl (.fB 1 0 false rfl rfl rfl)) <| .cons (.gT rfl rfl rfl (.b1 1 rfl rfl rfl rfl rfl rfl)) <| .cons (.gT rfl rfl rfl (.ln 3 1 8 rfl rfl rfl)) <| .cons (.gT rfl rfl rfl (.gt rfl rfl rfl)) <| .cons (.pF rfl rfl rfl) ?_
       refine .nil ⟨by kernel_rfl, ?_⟩
       refine ks_n ?_
       refine ACode.condT rfl (fun h56 => ?_) (fun h56 => ?_)
       ·try simp only [zs1, zs2, zs3, zs4, zs5, zs6, zs7] at h56
        refine .seq <| .region <| .cons (.asg rfl rfl) <| .nil <| ks_n <| .ret <| ks_r <| kb_r <| ks_r <| kl_r <| kb_r <| ks_r ?_
        refine kf_ret rfl ?_ nobox
        exact leafB (arrsV_bad (i := i) (by omega) (by rw [hA, arrOk]; rw [hAr] at *; first | (simp_all; done) | (simp_all; omega) | grind)).symm
       ·try simp only [zs1, zs2, zs3, zs4, zs5, zs6, zs7] at h56
        refine .skip <| ks_n <| .seq <| .region <| .cons (.asg rfl rfl) <| .nil <| ks_n <| .block ?_
        refine .loopK (fun m σ => (∃ k : Nat, m = x.2.length - k ∧ (k ≤ x.2.length) ∧ (x.2.all dimV = (x.2.drop k).all dimV) ∧ σ = [(.t 0, .v (.o (vD (dRs ar)))), (.t 2, .v (.o (bo1 false))), (.t 3, .v (.o (nat1 (i : Nat)))), (.t 4, .v (.o (.c (.ptr (rR x))))), (.t 5, .v (.o (nat1 (k : Nat))))])) [] ⟨0, rfl, by omega, rfl, rfl⟩ ⟨ks rfl .dt, ks rfl .dt, ks rfl .dt, ks rfl (.c (.frzP _ _ _ _ _ _ _ _ rfl (show _ = dR [rR x] from rfl) rfl rfl rfl)), ks rfl .dt, trivial⟩ ?_
        rintro m σ ⟨k, hm0, hk, hG, rfl⟩
        refine .seq <| .seq <| .region <| .cons (.mv rfl rfl) <| .cons (.fP 1 0 false rfl rfl) <| .cons (.l1 1 rfl rfl) <| .cons (.ln 3 1 8 rfl rfl rfl) <| .cons (.ls rfl rfl rfl) <| .nil <| ks_n ?_
        refine .cD rfl (fun h61 => ?_) (fun h61 => ?_)
        ·skip
         obtain ⟨d, hd1⟩ : ∃ x_, x.2[k]? = some x_ := ⟨_, List.getElem?_eq_getElem (by omega)⟩
         refine .skip <| ks_n <| .seq <| .block <| .seq <| .region <| .cons (.fP 1 0 false rfl rfl) <| .cons (.l1 1 rfl rfl) <| .cons (.mv rfl rfl) <| .cons (.xL 3 1 8 rfl rfl rfl rfl rfl) ?_
         refine .cons (.l1 1 rfl rfl) <| .cons (.ls rfl rfl rfl) <| .cons (.mv rfl rfl) ?_
         refine .cD 70 rfl (fun g70 => ?_) (fun g70 => ?_)
         ·skip
          refine .cons (.gF rfl rfl rfl) <| .cons (.gF rfl rfl rfl) <| .cons (.gF rfl rfl rfl) <| .cons (.gF rfl rfl rfl) <| .cons (.gF rfl rfl rfl) <| .cons (.gF rfl rfl rfl) <| .cons (.pT rfl rfl rfl) <| .nil <| ks_n ?_
          refine ACode.condT rfl (fun _ => ?_) (fun h => by first | (cases h; done) | (simp [*] at h; done) | (exfalso; simp_all; done))
          refine .seq ?_
          have hdv : dimV d = false := decide_eq_false (by omega)
          have hD : x.2.all dimV = false := by rw [hG, all_drop hd1, hdv, Bool.false_and]
          refine .region <| .cons (.asg rfl rfl) <| .nil <| ks_n <| .ret <| kb_r <| ks_r <| kl_r <| kb_r <| kb_r <| ks_r <| kl_r <| kb_r <| ks_r ?_
          refine kf_ret rfl ?_ nobox
          exact leafB (arrsV_bad (i := i) (by omega) (by rw [hA, arrOk, hD, Bool.and_false, Bool.and_false, Bool.false_and])).symm
         ·skip
          refine .cons (.gT rfl rfl rfl (.fP 1 0 false rfl rfl)) <| .cons (.gT rfl rfl rfl (.l1 1 rfl rfl)) <| .cons (.gT rfl rfl rfl (.mv rfl rfl)) <| .cons (.gT rfl rfl rfl (.xL 3 1 8 rfl rfl rfl rfl rfl)) ?_
          refine .cons (.gT rfl rfl rfl (.l1 1 rfl rfl)) <| .cons (.gT rfl rfl rfl (.gt rfl rfl rfl)) <| .cons (.pF rfl rfl rfl) <| .nil <| ks_n ?_
          refine ACode.condT rfl (fun h77 => ?_) (fun h77 => ?_)
          ·try simp only [zs1, zs2, zs3, zs4, zs5, zs6, zs7] at h77
           refine .seq ?_
           have hdv : dimV d = false := decide_eq_false (by omega)
           have hD : x.2.all dimV = false := by rw [hG, all_drop hd1, hdv, Bool.false_and]
           refine .region <| .cons (.asg rfl rfl) <| .nil <| ks_n <| .ret <| kb_r <| ks_r <| kl_r <| kb_r <| kb_r <| ks_r <| kl_r <| kb_r <| ks_r ?_
           refine kf_ret rfl ?_ nobox
           exact leafB (arrsV_bad (i := i) (by omega) (by rw [hA, arrOk, hD, Bool.and_false, Bool.and_false, Bool.false_and])).symm
          ·try simp only [zs1, zs2, zs3, zs4, zs5, zs6, zs7] at h77
           have hdv : dimV d = true := decide_eq_true (by omega)
           refine .skip <| kb_n <| ks_n <| .region <| .cons (.mv rfl rfl) <| .cons (.pl rfl rfl rfl) <| .cons (.asg rfl rfl) <| .nil ?_
           refine kl_k [] ⟨k + 1, rfl, by omega, by rw [hG, all_drop hd1, hdv, Bool.true_and], rfl⟩ ⟨ks rfl .dt, ks rfl .dt, ks rfl .dt, ks rfl .dt, ks rfl .dt, trivial⟩
        ·skip
         have hD : x.2.all dimV = true := by rw [hG, List.drop_of_length_le (by omega)]; rfl
         refine .exit <| ks_e <| kl_e <| kb_hit <| kb_n <| ks_n <| .region <| .cons (.mv rfl rfl) <| .cons (.pl rfl rfl rfl) <| .cons (.asg rfl rfl) <| .nil ?_
         refine kl_k [] ⟨i + 1, rfl, by omega, fun j hj => (Nat.lt_succ_iff_lt_or_eq.1 hj).elim (fun h => hF j h) (fun h => by rw [h, hA, arrOk, hD]; rw [hAr] at *; first | (simp_all; done) | (simp_all; omega) | grind), rfl⟩ ⟨ks rfl .dt, ks rfl .dt, ks rfl .dt, trivial⟩
 ·skip
  refine .exit <| ks_e <| kl_e <| kb_hit <| ks_n <| .seq <| .region <| .cons (.mv rfl rfl) <| .cons (.ln 78 2 40 rfl rfl rfl) <| .cons (.le rfl rfl rfl) <| .cons (.asg rfl rfl) <| .nil <| ks_n <| .ret ?_
  refine kf_ret rfl ?_ nobox
  exact leafB (by rw [arrsV_end fun j hj => hF j (by omega)]; rw [decide_eq_decide]; omega)
theorem accV_at {D : Nat} {a : Acc} (h : accV D a = true) : (1 ≤ a.2.length ∧ a.2.length ≤ 2) ∧ ∀ s ∈ a.2, affV s = true := by
  simp only [accV, sideV, bndV, Bool.and_eq_true, List.all_eq_true, decide_eq_true_eq] at h
  exact ⟨by omega, fun x hx => (h.2.1.1 x hx).1⟩
theorem arr_mem {as_ : List Arr} (h : arrsV as_ = true) {i : Nat} {x : Arr} (hx : as_[i]? = some x) : arrOk x = true := arrsV_at h (List.mem_of_getElem? hx)

theorem size_fn {a : Arr} (h : arrOk a = true) : Fn Tryz.prog 165 [] [ad (rR a)] (.o (nat1 (sizeA a.2))) [] := by
  obtain ⟨hl, hd⟩ := arrOk_at h
  refine Fn.code0 Tryz.func165 rfl rfl rfl rfl ?_
  refine .seq <| .region <| .cons (St1.boxP rfl rfl rfl rfl rfl rfl) <| .cons (.asg rfl rfl) <| .nil <| ks_n <| .seq <| .region <| .cons (.asg rfl rfl) <| .nil <| ks_n <| .seq <| .seq <| .region <| .cons (.fP 1 0 false rfl rfl) <| .cons (.l1 1 rfl rfl) <| .cons (.ln 3 1 8 rfl rfl rfl) <| .cons (.mv rfl rfl) <| .nil <| ks_n <| .block ?_
  refine .loopK (fun m σ => (∃ (i : Nat) (n : Int), m = a.2.length - i ∧ (i ≤ a.2.length) ∧ (sizeA a.2 = sizeF n (a.2.drop i)) ∧ (B6 i n) ∧ σ = [(.t 1, .v (.o (.c (.ptr (rR a))))), (.t 2, .v (.o (nat1 0))), (.t 3, .v (.o (nat1 n))), (.t 7, .v (.o (vD (dIs a.2)))), (.t 8, .v (.o (nat1 (a.2.length : Nat)))), (.t 9, .v (.o (nat1 (i : Nat))))])) [] ⟨0, 1, rfl, by omega, rfl, by unfold B6; omega, rfl⟩ ⟨ks rfl .dt, ks rfl .dt, ks rfl .dt, ks rfl .dt, ks rfl .dt, ks rfl .dt, trivial⟩ ?_
  rintro m σ ⟨i, n, hm0, hi, hF, hB, rfl⟩
  refine .seq <| .region <| .cons (.ls rfl rfl rfl) <| .nil <| ks_n <| .seq ?_
  refine .cD rfl (fun h10 => ?_) (fun h10 => ?_)
  · skip
    obtain ⟨d, hd1⟩ : ∃ x_, a.2[i]? = some x_ := ⟨_, List.getElem?_eq_getElem (by omega)⟩
    have hM := hB.mul (hd d (List.mem_of_getElem? hd1)) (by omega)
    have hMb := hM.bd
    refine .skip <| ks_n <| .seq <| .block <| .seq <| .region <| .cons (.xL 3 1 8 rfl rfl rfl rfl rfl) ?_
    refine .cons (.l1 1 rfl rfl) <| .cons (.asg rfl rfl) <| .nil <| ks_n <| .region <| .cons (.mv rfl rfl) <| .cons (.mv rfl rfl) <| .cons (.ml rfl rfl rfl) <| .cons (.asg rfl rfl) <| .nil <| kb_n <| ks_n <| .region <| .cons (.pl rfl rfl rfl) <| .cons (.mv rfl rfl) <| .nil ?_
    refine kl_k [] ⟨i + 1, n * d, rfl, by omega, by rw [hF, sizeF_drop hd1], hM, rfl⟩ ⟨ks rfl .dt, ks rfl .dt, ks rfl .dt, ks rfl .dt, ks rfl .dt, ks rfl .dt, trivial⟩
  · skip
    refine .exit <| ks_e <| kl_e <| kb_hit <| ks_n <| .seq <| .region <| .cons (.mv rfl rfl) <| .cons (.asg rfl rfl) <| .nil <| ks_n <| .ret ?_
    refine kf_ret rfl ?_ nobox
    exact leafI (by rw [hF, sizeF_end (by omega)])

theorem l4Size_fn {a : Arr} (h : arrOk a = true) : Fn Tryz.prog 181 [] [ad (rR a)] (.o (nat1 (sizeA a.2))) [] := by
  obtain ⟨hl, hd⟩ := arrOk_at h
  refine Fn.code0 Tryz.func181 rfl rfl rfl rfl ?_
  refine .seq <| .region <| .cons (St1.boxP rfl rfl rfl rfl rfl rfl) <| .cons (.asg rfl rfl) <| .nil <| ks_n <| .seq <| .region <| .cons (.asg rfl rfl) <| .nil <| ks_n <| .seq <| .seq <| .region <| .cons (.asg rfl rfl) <| .nil <| ks_n <| .block ?_
  refine .loopK (fun m σ => (∃ (i : Nat) (n : Int), m = a.2.length - i ∧ (i ≤ a.2.length) ∧ (sizeA a.2 = sizeF n (a.2.drop i)) ∧ (B6 i n) ∧ σ = [(.t 1, .v (.o (.c (.ptr (rR a))))), (.t 2, .v (.o (nat1 0))), (.t 3, .v (.o (nat1 n))), (.t 4, .v (.o (nat1 (i : Nat))))])) [] ⟨0, 1, rfl, by omega, rfl, by unfold B6; omega, rfl⟩ ⟨ks rfl .dt, ks rfl .dt, ks rfl .dt, ks rfl .dt, trivial⟩ ?_
  rintro m σ ⟨i, n, hm0, hi, hF, hB, rfl⟩
  refine .seq <| .seq <| .region <| .cons (.mv rfl rfl) <| .cons (.fP 1 0 false rfl rfl) <| .cons (.l1 1 rfl rfl) <| .cons (.ln 3 1 8 rfl rfl rfl) <| .cons (.ls rfl rfl rfl) <| .nil <| ks_n ?_
  refine .cD rfl (fun h9 => ?_) (fun h9 => ?_)
  · skip
    obtain ⟨d, hd1⟩ : ∃ x_, a.2[i]? = some x_ := ⟨_, List.getElem?_eq_getElem (by omega)⟩
    have hM := hB.mul (hd d (List.mem_of_getElem? hd1)) (by omega)
    have hMb := hM.bd
    refine .skip <| ks_n <| .seq <| .block <| .region <| .cons (.mv rfl rfl) <| .cons (.fP 1 0 false rfl rfl) <| .cons (.l1 1 rfl rfl) <| .cons (.mv rfl rfl) <| .cons (.xL 3 1 8 rfl rfl rfl rfl rfl) ?_
    refine .cons (.l1 1 rfl rfl) <| .cons (.ml rfl rfl rfl) <| .cons (.asg rfl rfl) <| .nil <| kb_n <| ks_n <| .region <| .cons (.mv rfl rfl) <| .cons (.pl rfl rfl rfl) <| .cons (.asg rfl rfl) <| .nil ?_
    refine kl_k [] ⟨i + 1, n * d, rfl, by omega, by rw [hF, sizeF_drop hd1], hM, rfl⟩ ⟨ks rfl .dt, ks rfl .dt, ks rfl .dt, ks rfl .dt, trivial⟩
  · skip
    refine .exit <| ks_e <| kl_e <| kb_hit <| ks_n <| .seq <| .region <| .cons (.mv rfl rfl) <| .cons (.asg rfl rfl) <| .nil <| ks_n <| .ret ?_
    refine kf_ret rfl ?_ nobox
    exact leafI (by rw [hF, sizeF_end (by omega)])

theorem cell_fn {g : Prg} (hv : arrsV g.1 = true) {D : Nat} {a : Acc} {p : List Int} (ha : accV D a = true) (hS : Small p) (hn : p.length ≤ 4) : Fn Tryz.prog 119 [] [ad (rG g), ad (rC a), vD (dIs p)] (.o (nat1 (cellG a p g.1 0))) [] := by
 obtain ⟨hal, hav⟩ := accV_at ha
 have hl := arrsV_len hv
 refine Fn.code0 Tryz.func119 rfl rfl rfl rfl ?_
 refine .seq <| .region <| .cons (St1.boxP rfl rfl rfl rfl rfl rfl) <| .cons (St1.boxP rfl rfl rfl rfl rfl rfl) <| .cons (.asg rfl rfl) <| .nil <| ks_n <| .seq <| .region <| .cons (.asg rfl rfl) <| .nil <| ks_n <| .seq <| .seq <| .region <| .cons (.fP 0 0 false rfl rfl) <| .cons (.l1 1 rfl rfl) <| .cons (.ln 78 2 40 rfl rfl rfl) <| .cons (.mv rfl rfl) <| .nil <| ks_n <| .block ?_
 refine .loopK (fun m σ => (∃ (i : Nat) (b : Int), m = g.1.length - i ∧ (i ≤ g.1.length) ∧ (cellG a p g.1 0 = cellG a p (g.1.drop i) b) ∧ (0 ≤ b ∧ b ≤ 36 * i) ∧ σ = [(.t 2, .v (.o (vD (dIs p)))), (.t 3, .v (.o (.c (.ptr (rG g))))), (.t 4, .v (.o (.c (.ptr (rC a))))), (.t 6, .v (.o (nat1 0))), (.t 7, .v (.o (nat1 b))), (.t 15, .v (.o (vD (dRs g.1)))), (.t 16, .v (.o (nat1 (g.1.length : Nat)))), (.t 17, .v (.o (nat1 (i : Nat))))])) [] ⟨0, 0, rfl, by omega, rfl, by omega, rfl⟩ ⟨ks rfl .dt, ks rfl .dt, ks rfl .dt, ks rfl .dt, ks rfl .dt, ks rfl .dt, ks rfl .dt, ks rfl .dt, trivial⟩ ?_
 rintro m σ ⟨i, b, hm0, hi, hF, hb, rfl⟩
 refine .seq <| .region <| .cons (.ls rfl rfl rfl) <| .nil <| ks_n <| .seq ?_
 refine .cD rfl (fun h18 => ?_) (fun h18 => ?_)
 ·skip
  obtain ⟨x, hx1⟩ : ∃ x_, g.1[i]? = some x_ := ⟨_, List.getElem?_eq_getElem (by omega)⟩
  have hxo := arr_mem hv hx1
  obtain ⟨hxl, hxd⟩ := arrOk_at hxo
  have hsz := sizeA_bd hxo
  refine .skip <| ks_n <| .seq <| .block <| .seq <| .region <| .cons (.xL 78 2 40 rfl rfl rfl rfl rfl) ?_
  refine .cons (.lN 2 rfl rfl rfl) <| .cons (.al 109 [.string ByteArray.empty, .slice none 0 0] rfl rfl rfl) <| .cons (.sT 2 true rfl rfl rfl rfl rfl rfl rfl) <| .nil <| ks_n <| .seq <| .seq <| .region <| .cons (.fB 0 0 false rfl rfl rfl) <| .cons (.b1 1 rfl rfl rfl rfl rfl rfl) <| .cons (.fP 0 0 false rfl rfl) <| .cons (.l1 1 rfl rfl) <| .cons (St1.neS rfl rfl rfl) <| .nil <| ks_n ?_
  refine ACode.condT rfl (fun h25 => ?_) (fun h25 => ?_)
  ·try simp only [zs1, zs2, zs3, zs4, zs5, zs6, zs7] at h25
   have hne : sEq x.1 a.1 = false := by first | assumption | simp_all
   refine .seq <| .region <| .cons (.mv rfl rfl) <| .cons (.bN 2 rfl rfl rfl rfl rfl rfl) <| .cons (.cP [.tmp 27] rfl rfl rfl rfl (size_fn hxo) rfl) ?_
   refine .cons (.pl rfl rfl rfl) <| .cons (.asg rfl rfl) <| .nil <| ks_n <| .exit <| ks_e <| kb_hit <| ks_n <| .region <| .cons (.pl rfl rfl rfl) <| .cons (.mv rfl rfl) <| .nil ?_
   refine kl_k [] ⟨i + 1, b + sizeA x.2, rfl, by omega, by rw [hF, cellG_next hx1 hne], by omega, rfl⟩ ⟨ks rfl .dt, ks rfl .dt, ks rfl .dt, ks rfl .dt, ks rfl .dt, ks rfl .dt, ks rfl .dt, ks rfl .dt, trivial⟩
  ·try simp only [zs1, zs2, zs3, zs4, zs5, zs6, zs7] at h25
   have heq : sEq x.1 a.1 = true := by first | assumption | simp_all
   refine .skip <| ks_n <| .seq <| .seq <| .region <| .cons (.fP 1 0 false rfl rfl) <| .cons (.l1 1 rfl rfl) <| .cons (.ln 91 2 32 rfl rfl rfl) <| .cons (.fB 1 0 false rfl rfl rfl) <| .cons (.b1 1 rfl rfl rfl rfl rfl rfl) <| .cons (.ln 3 1 8 rfl rfl rfl) <| .cons (.ne rfl rfl rfl) <| .nil <| ks_n ?_
   refine .cND rfl (fun h36 => ?_) (fun h36 => ?_)
   ·skip
    refine .seq <| .region <| .cons (.asg rfl rfl) <| .nil <| ks_n <| .ret <| ks_r <| kb_r <| ks_r <| kl_r <| kb_r <| ks_r ?_
    refine kf_ret rfl ?_ nobox
    exact leafI (by rw [hF, cellG_len hx1 heq (by omega)])
   ·skip
    have hle : a.2.length = x.2.length := by omega
    refine .skip <| ks_n <| .seq <| .region <| .cons (.asg rfl rfl) <| .nil <| ks_n <| .seq <| .seq <| .region <| .cons (.fP 1 0 false rfl rfl) <| .cons (.l1 1 rfl rfl) <| .cons (.ln 91 2 32 rfl rfl rfl) <| .cons (.mv rfl rfl) <| .nil <| ks_n <| .block ?_
    refine .loopK (fun m σ => (∃ (k : Nat) (n : Int), m = a.2.length - k ∧ (k ≤ a.2.length) ∧ (atG p x.2 a.2 0 = atG p (x.2.drop k) (a.2.drop k) n) ∧ (0 ≤ n) ∧ (B6 k (n + 1)) ∧ σ = [(.t 2, .v (.o (vD (dIs p)))), (.t 3, .v (.o (.c (.ptr (rG g))))), (.t 4, .v (.o (.c (.ptr (rC a))))), (.t 6, .v (.o (nat1 0))), (.t 7, .v (.o (nat1 b))), (.t 9, .v (.o (.c (.ptr (rR x))))), (.t 10, .v (.o (nat1 n))), (.t 15, .v (.o (vD (dRs g.1)))), (.t 16, .v (.o (nat1 (g.1.length : Nat)))), (.t 17, .v (.o (nat1 (i : Nat)))), (.t 38, .v (.o (vD (dAs a.2)))), (.t 39, .v (.o (nat1 (a.2.length : Nat)))), (.t 40, .v (.o (nat1 (k : Nat))))])) [] ⟨0, 0, rfl, by omega, rfl, by omega, by unfold B6; omega, rfl⟩ ⟨ks rfl .dt, ks rfl .dt, ks rfl .dt, ks rfl .dt, ks rfl .dt, ks rfl (.c (.frzP _ _ _ _ _ _ _ _ rfl (show _ = dR [rR x] from rfl) rfl rfl rfl)), ks rfl .dt, ks rfl .dt, ks rfl .dt, ks rfl .dt, ks rfl .dt, ks rfl .dt, ks rfl .dt, trivial⟩ ?_
    rintro m σ ⟨k, n, hm0, hk, hG, h0, hB, rfl⟩
    refine .seq <| .region <| .cons (.ls rfl rfl rfl) <| .nil <| ks_n <| .seq ?_
    refine .cD rfl (fun h41 => ?_) (fun h41 => ?_)
    ·skip
     obtain ⟨s, hs1⟩ : ∃ x_, a.2[k]? = some x_ := ⟨_, List.getElem?_eq_getElem (by omega)⟩
     have hsv := hav s (List.mem_of_getElem? hs1)
     obtain ⟨d, hd1⟩ : ∃ x_, x.2[k]? = some x_ := ⟨_, List.getElem?_eq_getElem (by omega)⟩
     have hdd := hxd d (List.mem_of_getElem? hd1)
     refine .skip <| ks_n <| .seq <| .block <| .seq <| .region <| .cons (.mv rfl rfl) <| .cons (.xL 91 2 32 rfl rfl rfl rfl rfl) ?_
     refine .cons (.lN 2 rfl rfl rfl) <| .cons (.al 112 [.slice none 0 0, .int .i64 0] rfl rfl rfl) <| .cons (.asg rfl rfl) <| .cons (.sT 2 true rfl rfl rfl rfl rfl rfl rfl) <| .nil <| ks_n <| .seq <| .region <| .cons (.bN 2 rfl rfl rfl rfl rfl rfl) <| .cons (.mv rfl rfl) <| .cons (.cP [.tmp 45, .tmp 46] rfl rfl rfl rfl (eval_fn hsv hS hn) rfl) ?_
     refine .cons (.asg rfl rfl) <| .nil <| ks_n <| .seq <| .seq <| .region <| .cons (.mv rfl rfl) <| .cons (.fP 1 0 false rfl rfl) <| .cons (.l1 1 rfl rfl) <| .cons (.mv rfl rfl) <| .cons (.xL 3 1 8 rfl rfl rfl rfl rfl) ?_
     refine .cons (.l1 1 rfl rfl) <| .cons (.sb rfl rfl rfl) <| .cons (.cP [.tmp 48, .const (.int .i64 (0)), .tmp 54] rfl rfl rfl rfl (within_fn _ 0 _) rfl) ?_
     refine .cons (.nt rfl rfl) <| .nil <| ks_n ?_
     refine ACode.condT rfl (fun h56 => ?_) (fun h56 => ?_)
     ·try simp only [zs1, zs2, zs3, zs4, zs5, zs6, zs7] at h56
      have hnin : ¬ inB (affEval s p) 0 (d - 1) = true := by first | assumption | simp_all
      refine .seq <| .region <| .cons (.asg rfl rfl) <| .nil <| ks_n <| .ret <| ks_r <| kb_r <| ks_r <| kl_r <| kb_r <| ks_r <| kb_r <| ks_r <| kl_r <| kb_r <| ks_r ?_
      refine kf_ret rfl ?_ nobox
      exact leafI (by rw [hF, cellG_at hx1 heq hle, hG, atG_no hd1 hs1 hnin, if_pos rfl])
     ·try simp only [zs1, zs2, zs3, zs4, zs5, zs6, zs7] at h56
      have hin : inB (affEval s p) 0 (d - 1) = true := by first | assumption | simp_all
      have hM := B6.at h0 hB hdd (by omega) (of_decide_eq_true hin)
      have hvb := of_decide_eq_true hin
      refine .skip <| ks_n <| .region <| .cons (.mv rfl rfl) <| .cons (.fP 1 0 false rfl rfl) <| .cons (.l1 1 rfl rfl) <| .cons (.mv rfl rfl) <| .cons (.xL 3 1 8 rfl rfl rfl rfl rfl) ?_
      refine .cons (.l1 1 rfl rfl) <| .cons (.ml rfl rfl rfl) <| .cons (.mv rfl rfl) <| .cons (.pl rfl rfl rfl) <| .cons (.asg rfl rfl) <| .nil <| kb_n <| ks_n <| .region <| .cons (.pl rfl rfl rfl) <| .cons (.mv rfl rfl) <| .nil ?_
      refine kl_k [] ⟨k + 1, n * d + affEval s p, rfl, by omega, by rw [hG, atG_yes hd1 hs1 hin], by omega, hM.2.2.2, rfl⟩ ⟨ks rfl .dt, ks rfl .dt, ks rfl .dt, ks rfl .dt, ks rfl .dt, ks rfl .dt, ks rfl .dt, ks rfl .dt, ks rfl .dt, ks rfl .dt, ks rfl .dt, ks rfl .dt, ks rfl .dt, trivial⟩
    ·skip
     have hnb := hB.bd
     refine .exit <| ks_e <| kl_e <| kb_hit <| ks_n <| .seq <| .region <| .cons (.mv rfl rfl) <| .cons (.mv rfl rfl) <| .cons (.pl rfl rfl rfl) <| .cons (.asg rfl rfl) <| .nil <| ks_n <| .ret <| kb_r <| ks_r <| kl_r <| kb_r <| ks_r ?_
     refine kf_ret rfl ?_ nobox
     exact leafI (by rw [hF, cellG_at hx1 heq hle, hG, atG_end (by omega), if_neg (by omega)])
 ·skip
  refine .exit <| ks_e <| kl_e <| kb_hit <| ks_n <| .seq <| .region <| .cons (.asg rfl rfl) <| .nil <| ks_n <| .ret ?_
  refine kf_ret rfl ?_ nobox
  exact leafI (by rw [hF, cellG_end (by omega)])

theorem l4Cell_fn {ar : List Arr} (hv : arrsV ar = true) {D : Nat} {a : Acc} {p : List Int} (ha : accV D a = true) (hS : Small p) (hn : p.length ≤ 4) : Fn Tryz.prog 137 [] [vD (dRs ar), ad (rC a), vD (dIs p)] (.o (nat1 (cellG a p ar 0))) [] := by
 obtain ⟨hal, hav⟩ := accV_at ha
 have hl := arrsV_len hv
 refine Fn.code0 Tryz.func137 rfl rfl rfl rfl ?_
 refine .seq <| .region <| .cons (St1.boxP rfl rfl rfl rfl rfl rfl) <| .cons (.asg rfl rfl) <| .nil <| ks_n <| .seq <| .region <| .cons (.asg rfl rfl) <| .nil <| ks_n <| .seq <| .seq <| .region <| .cons (.asg rfl rfl) <| .nil <| ks_n <| .block ?_
 refine .loopK (fun m σ => (∃ (i : Nat) (b : Int), m = ar.length - i ∧ (i ≤ ar.length) ∧ (cellG a p ar 0 = cellG a p (ar.drop i) b) ∧ (0 ≤ b ∧ b ≤ 36 * i) ∧ σ = [(.t 0, .v (.o (vD (dRs ar)))), (.t 2, .v (.o (vD (dIs p)))), (.t 4, .v (.o (.c (.ptr (rC a))))), (.t 6, .v (.o (nat1 0))), (.t 7, .v (.o (nat1 b))), (.t 8, .v (.o (nat1 (i : Nat))))])) [] ⟨0, 0, rfl, by omega, rfl, by omega, rfl⟩ ⟨ks rfl .dt, ks rfl .dt, ks rfl .dt, ks rfl .dt, ks rfl .dt, ks rfl .dt, trivial⟩ ?_
 rintro m σ ⟨i, b, hm0, hi, hF, hb, rfl⟩
 refine .seq <| .seq <| .region <| .cons (.mv rfl rfl) <| .cons (.mv rfl rfl) <| .cons (.ln 78 2 40 rfl rfl rfl) <| .cons (.ls rfl rfl rfl) <| .nil <| ks_n ?_
 refine .cD rfl (fun h15 => ?_) (fun h15 => ?_)
 ·skip
  obtain ⟨x, hx1⟩ : ∃ x_, ar[i]? = some x_ := ⟨_, List.getElem?_eq_getElem (by omega)⟩
  have hxo := arr_mem hv hx1
  obtain ⟨hxl, hxd⟩ := arrOk_at hxo
  have hsz := sizeA_bd hxo
  refine .skip <| ks_n <| .seq <| .block <| .seq <| .seq ?_
  refine ACode.drawK (by kernel_rfl) (by kernel_rfl) ?_
  refine .cons (.mv rfl rfl) <| .cons (.mv rfl rfl) <| .cons (.xL 78 2 40 rfl rfl rfl rfl rfl) ?_
  refine .cons (.fP 0 0 false rfl rfl) <| .cons (.l1 1 rfl rfl) <| .cons (.fP 0 0 false rfl rfl) <| .cons (.l1 1 rfl rfl) <| .cons (St1.neS rfl rfl rfl) ?_
  refine .nil ⟨by kernel_rfl, ?_⟩
  refine ks_n ?_
  refine ACode.condT rfl (fun h25 => ?_) (fun h25 => ?_)
  ·try simp only [zs1, zs2, zs3, zs4, zs5, zs6, zs7] at h25
   have hne : sEq x.1 a.1 = false := by first | assumption | simp_all
   refine .seq <| .region <| .cons (.mv rfl rfl) <| .cons (.mv rfl rfl) <| .cons (.mv rfl rfl) <| .cons (.xL 78 2 40 rfl rfl rfl rfl rfl) ?_
   refine .cons (.lN 2 rfl rfl rfl) <| .cons (.cP [.tmp 30] rfl rfl rfl rfl (l4Size_fn hxo) rfl) ?_
   refine .cons (.pl rfl rfl rfl) <| .cons (.asg rfl rfl) <| .nil <| ks_n <| .exit <| ks_e <| kb_hit <| ks_n <| .region <| .cons (.mv rfl rfl) <| .cons (.pl rfl rfl rfl) <| .cons (.asg rfl rfl) <| .nil ?_
   refine kl_k [] ⟨i + 1, b + sizeA x.2, rfl, by omega, by rw [hF, cellG_next hx1 hne], by omega, rfl⟩ ⟨ks rfl .dt, ks rfl .dt, ks rfl .dt, ks rfl .dt, ks rfl .dt, ks rfl .dt, trivial⟩
  ·try simp only [zs1, zs2, zs3, zs4, zs5, zs6, zs7] at h25
   have heq : sEq x.1 a.1 = true := by first | assumption | simp_all
   refine .skip <| ks_n <| .seq <| .region <| .cons (.asg rfl rfl) <| .nil <| ks_n <| .seq <| .seq <| .region <| .cons (.asg rfl rfl) <| .nil <| ks_n <| .block ?_
   refine .loopK (fun m σ => (∃ (k : Nat) (n : Int), m = a.2.length - k ∧ (k ≤ a.2.length) ∧ (atG p x.2 a.2 0 = atG p (x.2.drop k) (a.2.drop k) n) ∧ (0 ≤ n) ∧ (B6 k (n + 1)) ∧ (k = 0 ∨ a.2.length = x.2.length) ∧ σ = [(.t 0, .v (.o (vD (dRs ar)))), (.t 2, .v (.o (vD (dIs p)))), (.t 4, .v (.o (.c (.ptr (rC a))))), (.t 6, .v (.o (nat1 0))), (.t 7, .v (.o (nat1 b))), (.t 8, .v (.o (nat1 (i : Nat)))), (.t 9, .v (.o (nat1 n))), (.t 10, .v (.o (nat1 (k : Nat))))])) [] ⟨0, 0, rfl, by omega, rfl, by omega, by unfold B6; omega, .inl rfl, rfl⟩ ⟨ks rfl .dt, ks rfl .dt, ks rfl .dt, ks rfl .dt, ks rfl .dt, ks rfl .dt, ks rfl .dt, ks rfl .dt, trivial⟩ ?_
   rintro m σ ⟨k, n, hm0, hk, hG, h0, hB, hz, rfl⟩
   refine .seq <| .seq <| .region <| .cons (.mv rfl rfl) <| .cons (.fP 1 0 false rfl rfl) <| .cons (.l1 1 rfl rfl) <| .cons (.ln 91 2 32 rfl rfl rfl) <| .cons (.ls rfl rfl rfl) <| .nil <| ks_n ?_
   refine .cD rfl (fun h37 => ?_) (fun h37 => ?_)
   ·skip
    obtain ⟨s, hs1⟩ : ∃ x_, a.2[k]? = some x_ := ⟨_, List.getElem?_eq_getElem (by omega)⟩
    have hsv := hav s (List.mem_of_getElem? hs1)
    refine .skip <| ks_n <| .seq <| .block <| .seq <| .seq ?_
    refine ACode.drawK (by kernel_rfl) (by kernel_rfl) ?_
    refine .cons (.fP 1 0 false rfl rfl) <| .cons (.l1 1 rfl rfl) <| .cons (.ln 91 2 32 rfl rfl rfl) <| .cons (.mv rfl rfl) <| .cons (.mv rfl rfl) <| .cons (.xL 78 2 40 rfl rfl rfl rfl rfl) ?_
    refine .cons (.fP 1 0 false rfl rfl) <| .cons (.l1 1 rfl rfl) <| .cons (.ln 3 1 8 rfl rfl rfl) <| .cons (.ne rfl rfl rfl) ?_
    refine .nil ⟨by kernel_rfl, ?_⟩
    refine ks_n ?_
    refine .cND rfl (fun h49 => ?_) (fun h49 => ?_)
    ·skip
     refine .seq <| .region <| .cons (.asg rfl rfl) <| .nil <| ks_n <| .ret <| ks_r <| kb_r <| ks_r <| kl_r <| kb_r <| ks_r <| kb_r <| ks_r <| kl_r <| kb_r <| ks_r ?_
     refine kf_ret rfl ?_ nobox
     exact leafI (by rw [hF, cellG_len hx1 heq (by omega)])
    ·skip
     have hle : a.2.length = x.2.length := by omega
     obtain ⟨d, hd1⟩ : ∃ x_, x.2[k]? = some x_ := ⟨_, List.getElem?_eq_getElem (by omega)⟩
     have hdd := hxd d (List.mem_of_getElem? hd1)
     refine .skip <| ks_n <| .seq <| .region <| .cons (.fP 1 0 false rfl rfl) <| .cons (.l1 1 rfl rfl) <| .cons (.mv rfl rfl) <| .cons (.xL 91 2 32 rfl rfl rfl rfl rfl) ?_
     refine .cons (.lN 2 rfl rfl rfl) <| .cons (.mv rfl rfl) <| .cons (.cP [.tmp 54, .tmp 55] rfl rfl rfl rfl (l1Eval_fn hsv hS hn) rfl) ?_
     refine .cons (.asg rfl rfl) <| .nil <| ks_n <| .seq <| .seq <| .region <| .cons (.mv rfl rfl) <| .cons (.ls rfl rfl rfl) <| .cons (.mv rfl rfl) ?_
     refine .cD 59 rfl (fun g59 => ?_) (fun g59 => ?_)
     ·skip
      refine .cons (.gF rfl rfl rfl) <| .cons (.gF rfl rfl rfl) <| .cons (.gF rfl rfl rfl) <| .cons (.gF rfl rfl rfl) <| .cons (.gF rfl rfl rfl) <| .cons (.gF rfl rfl rfl) <| .cons (.gF rfl rfl rfl) <| .cons (.gF rfl rfl rfl) <| .cons (.gF rfl rfl rfl) <| .cons (.gF rfl rfl rfl) <| .cons (.pT rfl rfl rfl) <| .nil <| ks_n ?_
      refine ACode.condT rfl (fun _ => ?_) (fun h => by first | (cases h; done) | (simp [*] at h; done) | (exfalso; simp_all; done))
      refine .seq ?_
      have hnin : ¬ inB (affEval s p) 0 (d - 1) = true := fun h => by have := of_decide_eq_true h; omega
      refine .region <| .cons (.asg rfl rfl) <| .nil <| ks_n <| .ret <| ks_r <| kb_r <| ks_r <| kl_r <| kb_r <| ks_r <| kb_r <| ks_r <| kl_r <| kb_r <| ks_r ?_
      refine kf_ret rfl ?_ nobox
      exact leafI (by rw [hF, cellG_at hx1 heq hle, hG, atG_no hd1 hs1 hnin, if_pos rfl])
     ·skip
      refine .cons (.gT rfl rfl rfl (.mv rfl rfl)) <| .cons (.gT rfl rfl rfl (.mv rfl rfl)) <| .cons (.gT rfl rfl rfl (.mv rfl rfl)) <| .cons (.gT rfl rfl rfl (.xL 78 2 40 rfl rfl rfl rfl rfl)) ?_
      refine .cons (.gT rfl rfl rfl (.fP 1 0 false rfl rfl)) <| .cons (.gT rfl rfl rfl (.l1 1 rfl rfl)) <| .cons (.gT rfl rfl rfl (.mv rfl rfl)) <| .cons (.gT rfl rfl rfl (.xL 3 1 8 rfl rfl rfl rfl rfl)) ?_
      refine .cons (.gT rfl rfl rfl (.l1 1 rfl rfl)) <| .cons (.gT rfl rfl rfl (.ge rfl rfl rfl)) <| .cons (.pF rfl rfl rfl) <| .nil <| ks_n ?_
      refine ACode.condT rfl (fun h70 => ?_) (fun h70 => ?_)
      ·try simp only [zs1, zs2, zs3, zs4, zs5, zs6, zs7] at h70
       refine .seq ?_
       have hnin : ¬ inB (affEval s p) 0 (d - 1) = true := fun h => by have := of_decide_eq_true h; omega
       refine .region <| .cons (.asg rfl rfl) <| .nil <| ks_n <| .ret <| ks_r <| kb_r <| ks_r <| kl_r <| kb_r <| ks_r <| kb_r <| ks_r <| kl_r <| kb_r <| ks_r ?_
       refine kf_ret rfl ?_ nobox
       exact leafI (by rw [hF, cellG_at hx1 heq hle, hG, atG_no hd1 hs1 hnin, if_pos rfl])
      ·try simp only [zs1, zs2, zs3, zs4, zs5, zs6, zs7] at h70
       have hin : inB (affEval s p) 0 (d - 1) = true := decide_eq_true (by omega)
       have hM := B6.at h0 hB hdd (by omega) (of_decide_eq_true hin)
       have hvb := of_decide_eq_true hin
       refine .skip <| ks_n <| .region <| .cons (.mv rfl rfl) <| .cons (.mv rfl rfl) <| .cons (.mv rfl rfl) <| .cons (.xL 78 2 40 rfl rfl rfl rfl rfl) ?_
       refine .cons (.fP 1 0 false rfl rfl) <| .cons (.l1 1 rfl rfl) <| .cons (.mv rfl rfl) <| .cons (.xL 3 1 8 rfl rfl rfl rfl rfl) ?_
       refine .cons (.l1 1 rfl rfl) <| .cons (.ml rfl rfl rfl) <| .cons (.mv rfl rfl) <| .cons (.pl rfl rfl rfl) <| .cons (.asg rfl rfl) <| .nil <| kb_n <| ks_n <| .region <| .cons (.mv rfl rfl) <| .cons (.pl rfl rfl rfl) <| .cons (.asg rfl rfl) <| .nil ?_
       refine kl_k [] ⟨k + 1, n * d + affEval s p, rfl, by omega, by rw [hG, atG_yes hd1 hs1 hin], by omega, hM.2.2.2, .inr hle, rfl⟩ ⟨ks rfl .dt, ks rfl .dt, ks rfl .dt, ks rfl .dt, ks rfl .dt, ks rfl .dt, ks rfl .dt, ks rfl .dt, trivial⟩
   ·skip
    have hnb := hB.bd
    refine .exit <| ks_e <| kl_e <| kb_hit <| ks_n <| .seq ?_
    have hle : a.2.length = x.2.length := by omega
    refine .region <| .cons (.mv rfl rfl) <| .cons (.mv rfl rfl) <| .cons (.pl rfl rfl rfl) <| .cons (.asg rfl rfl) <| .nil <| ks_n <| .ret <| kb_r <| ks_r <| kl_r <| kb_r <| ks_r ?_
    refine kf_ret rfl ?_ nobox
    exact leafI (by rw [hF, cellG_at hx1 heq hle, hG, atG_end (by omega), if_neg (by omega)])
 ·skip
  refine .exit <| ks_e <| kl_e <| kb_hit <| ks_n <| .seq <| .region <| .cons (.asg rfl rfl) <| .nil <| ks_n <| .ret ?_
  refine kf_ret rfl ?_ nobox
  exact leafI (by rw [hF, cellG_end (by omega)])
end Go.Proofs.YtidfloikpieggaaGreat
namespace Go.Proofs.YtidfloikpieggaaGreat
set_option linter.unusedVariables false
set_option linter.unusedSimpArgs false
open Go.ChangeShapes Go.WideShapes Go.ChangeAt Go.RowKit
/-- Cells stand for data, one by one; all that they lead to is old. -/
def Rs (w : World) (ds : List D) (cs : List Value) : Prop := cs.length = ds.length ∧ ∀ (i : Nat) d v, ds[i]? = some d → cs[i]? = some v → Dr (fun b => b < w.heap.size) w d v
theorem Rs.app {w : World} {a b : List D} {c e : List Value} (h : Rs w a c) (h2 : Rs w b e) : Rs w (a ++ b) (c ++ e) := by
  refine ⟨by rw [List.length_append, List.length_append, h.1, h2.1], fun i d v hd hv => ?_⟩
  rw [List.getElem?_append] at hd hv
  rw [h.1] at hv
  split at hd
  · rename_i hi; rw [if_pos hi] at hv; exact h.2 i d v hd hv
  · rename_i hi; rw [if_neg hi] at hv; exact h2.2 _ d v hd hv
theorem Rs.one {w : World} {d : D} {v : Value} (h : Dr (fun b => b < w.heap.size) w d v) : Rs w [d] [v] := by
  refine ⟨rfl, fun i d' v' hd hv => ?_⟩
  match i, hd, hv with
  | 0, hd, hv => cases hd; cases hv; exact h
section
variable {H : Type} (enc : TypeId × Value → H) (P : Program) (w : World) (spare : Nat → Bool) (held : Bool)
/-- Whatever reads at the type t (with so much fuel) stands for some a. -/
def OpF (n : Nat) (t : TypeId) {α : Type} (f : α → List D) (ok : α → Prop) : Prop :=
  ∀ fuel, fuel ≤ n → ∀ (cs : List Value) (x : DataW H × List MemPlace), DataW.trod enc P w 0 spare held fuel t cs = some x → (∀ m ∈ x.1.weights P t, m ≤ reachBytes) → ∃ a, ok a ∧ Rs w (f a) cs
end
section
variable {H : Type} {enc : TypeId × Value → H} {P : Program} {w : World} {spare : Nat → Bool} {held : Bool} {n : Nat} {t e : TypeId}
theorem opInt (ht : P.underlying t = some (.int .i64)) : OpF enc P w spare held n t rI (fun m => (Lit.int .i64 m).wf = true) := fun fuel _ cs x h _ => by
  obtain ⟨m, rfl, _, hw⟩ := DataW.trod_int ht h
  exact ⟨m, hw, .one (.val _ rfl)⟩
theorem opStr (ht : P.underlying t = some .string) : OpF enc P w spare held n t (fun s : ByteArray => [D.val (.string s)]) (fun s => s.size ≤ 140737488351232) := fun fuel _ cs x h hw => by
  obtain ⟨s, rfl, rfl, _⟩ := DataW.trod_string ht h
  refine ⟨s, ?_, .one (.val _ rfl)⟩
  have := hw s.data.toList.length (by simp [DataW.weights])
  show s.size ≤ _
  rw [show s.size = s.data.toList.length from (Array.length_toList (xs := s.data)).symm]; exact this
theorem opSlice {α : Type} {f : α → List D} {ok : α → Prop} (sz by' : Nat) (ht : P.underlying t = some (.slice e)) (hc : P.cellsOf e = sz) (hb : P.bytesOf e = by') (h8 : (Nat.ble 8 by' && Nat.ble 1 sz) = true) (he : OpF enc P w spare held n e f ok) :
    OpF enc P w spare held (n + 1) t (fun l : List α => [D.list sz (l.map f)]) (fun l => l.length ≤ 17592186044416 ∧ ∀ a ∈ l, ok a) := fun fuel hfu cs x h hw => by
  rw [Bool.and_eq_true] at h8
  have hsz := Nat.le_of_ble_eq_true h8.2
  have h8' := Nat.le_of_ble_eq_true h8.1
  have hz0 : ∀ b : Addr, b.add 0 = b := fun b => if_pos rfl
  rcases DataW.trod_slice ht h with ⟨rfl, rfl⟩ | ⟨a, len, cap, elems, rest, n0, hf0, rfl, rfl, _, hl, _, hlen, hel, _, _⟩
  · exact ⟨[], ⟨Nat.zero_le _, fun a h => by cases h⟩, .one (Dr.list sz [] none 0 0 0 0 (fun _ _ => undef) rfl (Nat.le_refl _) (by omega) (fun _ => rfl) (fun h => by simp at h) (fun i r h => by simp at h) (fun i r j x h => by simp at h) (fun i r j x h => by simp at h))⟩
  · have hwt : (elems.length + rest.length) * by' ≤ reachBytes := by
      have := hw ((elems.length + rest.length) * P.bytesOf e) (by simp [DataW.weights, ht])
      rwa [hb] at this
    have hlen2 : len ≤ 17592186044416 := by
      have h1 : (elems.length + rest.length) * 8 ≤ (elems.length + rest.length) * by' := Nat.mul_le_mul_left _ h8'
      have h2 : reachBytes = 140737488351232 := rfl
      omega
    have hin : ∀ y ∈ elems, ∀ m ∈ y.1.weights P e, m ≤ reachBytes := fun y hy m hm => by
      refine hw m ?_
      have key : ∀ (l : List (DataW H × List MemPlace)), y ∈ l → m ∈ DataW.weightsAll P e (l.map (·.1)) := by
        intro l
        induction l with
        | nil => intro h; cases h
        | cons z l ih =>
          intro h
          rw [List.map_cons, DataW.weightsAll, List.mem_append]
          rcases List.mem_cons.1 h with rfl | h
          · exact .inl hm
          · exact .inr (ih h)
      simp only [DataW.weights, ht, List.mem_cons, List.mem_append]
      exact .inr (.inl (key elems hy))
    have hex : ∀ i : Fin len, ∃ (a0 : α) (ci : List Value), ok a0 ∧ w.cells? 0 (a.add (i.1 * sz)) sz = some ci ∧ Rs w (f a0) ci := fun i => by
      have h1 := hel i.1 i.2
      rw [hc] at h1
      obtain ⟨y, hy⟩ : ∃ y, elems[i.1]? = some y := ⟨_, List.getElem?_eq_getElem (by omega)⟩
      rw [hy, Option.bind_eq_some_iff] at h1
      obtain ⟨ci, h2, h3⟩ := h1
      obtain ⟨a0, h4, h5⟩ := he n0 (by omega) ci y h3 (hin y (List.mem_of_getElem? hy))
      exact ⟨a0, ci, h4, h2, h5⟩
    let g : Fin len → α := fun i => (hex i).choose
    let c : Fin len → List Value := fun i => (hex i).choose_spec.choose
    have hg : ∀ i : Fin len, ok (g i) ∧ w.cells? 0 (a.add (i.1 * sz)) sz = some (c i) ∧ Rs w (f (g i)) (c i) := fun i => (hex i).choose_spec.choose_spec
    have hget : ∀ (i : Nat) r, ((List.ofFn g).map f)[i]? = some r → ∃ hi : i < len, r = f (g ⟨i, hi⟩) := fun i r hr => by
      rw [List.getElem?_map, List.getElem?_ofFn] at hr
      split at hr
      · rename_i hi; exact ⟨hi, (Option.some.inj hr).symm⟩
      · cases hr
    have hcell : ∀ (i : Nat) (hi : i < len) (j : Nat) u, (c ⟨i, hi⟩)[j]? = some u → a.spot = none ∧ w.cell? ⟨a.block, a.off + (i * sz + j), none⟩ = some u := fun i hi j u hu => by
      obtain ⟨_, h2, _⟩ := hg ⟨i, hi⟩
      obtain ⟨_, h3, h4⟩ := World.cells?_some h2
      have hj : j < sz := by rw [← h3]; exact (List.getElem?_eq_some_iff.1 hu).1
      have h5 := h4 j hj
      rw [hu] at h5
      have hs : a.spot = none := by
        have h0 := (World.cells?_some (hg ⟨0, by omega⟩).2.1).2.2 0 (by omega)
        rw [Nat.zero_mul, hz0] at h0
        obtain ⟨u0, hu0⟩ : ∃ u0, (c ⟨0, by omega⟩)[0]? = some u0 := ⟨_, List.getElem?_eq_getElem (i := 0) (by rw [(World.cells?_some (hg ⟨0, by omega⟩).2.1).2.1]; omega)⟩
        rw [hz0, hu0] at h0
        exact World.cell?_spot h0
      refine ⟨hs, ?_⟩
      obtain ⟨b, o, s⟩ := a
      simp only at hs
      subst hs
      rw [Addr.add_lit, Addr.add_lit, Nat.add_assoc] at h5
      exact h5
    refine ⟨List.ofFn g, ⟨by rw [List.length_ofFn]; exact hlen2, fun y hy => ?_⟩, .one ?_⟩
    · obtain ⟨i, rfl⟩ := (List.mem_ofFn (f := g)).1 hy
      exact (hg i).1
    · refine Dr.list sz _ (some a) len cap a.block a.off (fun i j => if hi : i < len then (c ⟨i, hi⟩).getD j undef else undef) (by rw [List.length_map, List.length_ofFn]) hl hlen2 (fun h => by cases h) (fun h0 => ?_) (fun i r hr => ?_) (fun i r j y hr hj => ?_) (fun i r j y hr hj => ?_)
      · obtain ⟨u0, hu0⟩ : ∃ u0, (c ⟨0, h0⟩)[0]? = some u0 := ⟨_, List.getElem?_eq_getElem (i := 0) (by rw [(World.cells?_some (hg ⟨0, h0⟩).2.1).2.1]; omega)⟩
        have := (hcell 0 h0 0 u0 hu0).1
        obtain ⟨b, o, s⟩ := a
        simp only at this
        subst this; rfl
      · obtain ⟨hi, rfl⟩ := hget i r hr
        rw [← (hg ⟨i, hi⟩).2.2.1, (World.cells?_some (hg ⟨i, hi⟩).2.1).2.1]
      all_goals
        obtain ⟨hi, rfl⟩ := hget i r hr
        have hjl : j < (c ⟨i, hi⟩).length := by rw [(hg ⟨i, hi⟩).2.2.1]; exact (List.getElem?_eq_some_iff.1 hj).1
        have hu : (c ⟨i, hi⟩)[j]? = some ((c ⟨i, hi⟩).getD j undef) := by rw [List.getD_eq_getElem?_getD, List.getElem?_eq_getElem hjl]; rfl
        simp only [dif_pos hi]
      · have := (hcell i hi j _ hu).2
        exact ⟨World.block_lt_of_cell? w ⟨a.block, a.off + (i * sz + j), none⟩ this, this⟩
      · exact (hg ⟨i, hi⟩).2.2.2 j y _ hj hu
theorem opStruct2 {α β : Type} {f : α → List D} {g : β → List D} {oa : α → Prop} {ob : β → Prop} {f0 f1 : Field} (ht : P.underlying t = some (.struct #[f0, f1])) (h0 : (f0.offset, f1.offset, P.cellsOf t) = (0, P.cellsOf f0.type, P.cellsOf f0.type + P.cellsOf f1.type))
    (ha : OpF enc P w spare held n f0.type f oa) (hb : OpF enc P w spare held n f1.type g ob) : OpF enc P w spare held n t (fun x : α × β => f x.1 ++ g x.2) (fun x => oa x.1 ∧ ob x.2) := fun fuel hfu cs x h hw => by
  simp only [Prod.mk.injEq] at h0
  obtain ⟨e0, e1, e2⟩ := h0
  obtain ⟨xs, m, hm, rfl, hl, hlen, hf⟩ := DataW.trod_struct ht h
  match xs, hlen with
  | [y0, y1], _ =>
    have t0 := hf 0 f0 rfl
    have t1 := hf 1 f1 rfl
    rw [e0, List.drop_zero] at t0
    rw [e1, List.take_of_length_le (by rw [List.length_drop]; omega)] at t1
    have hwt : ∀ m, m ∈ y0.1.weights P f0.type ++ y1.1.weights P f1.type → m ≤ reachBytes := fun m hm => hw m (by simpa [DataW.weights, ht, DataW.weightsEach] using hm)
    obtain ⟨a, a1, a2⟩ := ha m (by omega) _ _ t0 fun m hm => hwt m (List.mem_append_left _ hm)
    obtain ⟨b, b1, b2⟩ := hb m (by omega) _ _ t1 fun m hm => hwt m (List.mem_append_right _ hm)
    exact ⟨(a, b), ⟨a1, b1⟩, by rw [← List.take_append_drop (P.cellsOf f0.type) cs]; exact a2.app b2⟩
theorem opStruct5 {α β γ δ ε : Type} {f : α → List D} {g : β → List D} {i : γ → List D} {j : δ → List D} {k : ε → List D} {oa : α → Prop} {ob : β → Prop} {oc : γ → Prop} {od : δ → Prop} {oe : ε → Prop} {f0 f1 f2 f3 f4 : Field} (ht : P.underlying t = some (.struct #[f0, f1, f2, f3, f4])) (n0 n1 n2 n3 n4 : Nat)
    (h0 : (f0.offset, f1.offset, f2.offset, f3.offset, f4.offset, P.cellsOf t) = (0, n0, n0 + n1, n0 + n1 + n2, n0 + n1 + n2 + n3, n0 + n1 + n2 + n3 + n4)) (hn : (P.cellsOf f0.type, P.cellsOf f1.type, P.cellsOf f2.type, P.cellsOf f3.type, P.cellsOf f4.type) = (n0, n1, n2, n3, n4))
    (ha : OpF enc P w spare held n f0.type f oa) (hb : OpF enc P w spare held n f1.type g ob) (hc : OpF enc P w spare held n f2.type i oc) (hd : OpF enc P w spare held n f3.type j od) (he : OpF enc P w spare held n f4.type k oe) :
    ∀ fuel, fuel ≤ n + 1 → ∀ (cs : List Value) (x : DataW H × List MemPlace), DataW.trod enc P w 0 spare held fuel t cs = some x → (∀ m ∈ x.1.weights P t, m ≤ reachBytes) → ∃ a b c d e, (oa a ∧ ob b ∧ oc c ∧ od d ∧ oe e) ∧ Rs w (f a ++ (g b ++ (i c ++ (j d ++ k e)))) cs := fun fuel hfu cs x h hw => by
  simp only [Prod.mk.injEq] at h0 hn
  obtain ⟨e0, e1, e2, e3, e4, e5⟩ := h0
  obtain ⟨q0, q1, q2, q3, q4⟩ := hn
  obtain ⟨xs, m, hm, rfl, hl, hlen, hf⟩ := DataW.trod_struct ht h
  match xs, hlen with
  | [y0, y1, y2, y3, y4], _ =>
    have t0 := hf 0 f0 rfl
    have t1 := hf 1 f1 rfl
    have t2 := hf 2 f2 rfl
    have t3 := hf 3 f3 rfl
    have t4 := hf 4 f4 rfl
    rw [e0, List.drop_zero, q0] at t0
    rw [e1, q1] at t1
    rw [e2, q2] at t2
    rw [e3, q3] at t3
    rw [e4, q4, List.take_of_length_le (by rw [List.length_drop]; omega)] at t4
    have hwt : ∀ m, m ∈ y0.1.weights P f0.type ++ (y1.1.weights P f1.type ++ (y2.1.weights P f2.type ++ (y3.1.weights P f3.type ++ y4.1.weights P f4.type))) → m ≤ reachBytes := fun m hm => hw m (by simpa [DataW.weights, ht, DataW.weightsEach] using hm)
    simp only [List.mem_append] at hwt
    obtain ⟨a, a1, a2⟩ := ha m (by omega) _ _ t0 fun m hm => hwt m (by simp [hm])
    obtain ⟨b, b1, b2⟩ := hb m (by omega) _ _ t1 fun m hm => hwt m (by simp [hm])
    obtain ⟨c, c1, c2⟩ := hc m (by omega) _ _ t2 fun m hm => hwt m (by simp [hm])
    obtain ⟨d, d1, d2⟩ := hd m (by omega) _ _ t3 fun m hm => hwt m (by simp [hm])
    obtain ⟨e, g1, g2⟩ := he m (by omega) _ _ t4 fun m hm => hwt m (by simp [hm])
    refine ⟨a, b, c, d, e, ⟨a1, b1, c1, d1, g1⟩, ?_⟩
    have ecs : cs = cs.take n0 ++ ((cs.drop n0).take n1 ++ ((cs.drop (n0 + n1)).take n2 ++ ((cs.drop (n0 + n1 + n2)).take n3 ++ cs.drop (n0 + n1 + n2 + n3)))) := by
      rw [show cs.drop (n0 + n1 + n2 + n3) = (cs.drop (n0 + n1 + n2)).drop n3 by rw [List.drop_drop], List.take_append_drop, show cs.drop (n0 + n1 + n2) = (cs.drop (n0 + n1)).drop n2 by rw [List.drop_drop], List.take_append_drop, show cs.drop (n0 + n1) = (cs.drop n0).drop n1 by rw [List.drop_drop], List.take_append_drop, List.take_append_drop]
    rw [ecs]
    exact a2.app (b2.app (c2.app (d2.app g2)))
theorem OpF.mono {α : Type} {f : α → List D} {ok ok' : α → Prop} {m : Nat} (h : OpF enc P w spare held n t f ok) (hm : m ≤ n) (hok : ∀ a, ok a → ok' a) : OpF enc P w spare held m t f ok' := fun fuel hf cs x hx hw => by
  obtain ⟨a, h1, h2⟩ := h fuel (by omega) cs x hx hw
  exact ⟨a, hok a h1, h2⟩
end
section
variable {H : Type} {enc : TypeId × Value → H} {w : World} {spare : Nat → Bool} {held : Bool}
theorem opAff (n : Nat) : OpF enc Tryz.prog w spare held n 201 rA okA :=
  OpF.mono (f := rA) (n := n + 1) (opStruct2 (enc := enc) (w := w) (spare := spare) (held := held) (t := 201) Tryz.underlying201 (by kernel_rfl) (opSlice (n := n) 1 8 Tryz.underlying35 (by kernel_rfl) (by kernel_rfl) (by rfl) (opInt Tryz.underlying3)) (opInt Tryz.underlying3)) (by omega) fun a h => h.1.1
end
section
variable {H : Type} {enc : TypeId × Value → H} {w : World} {spare : Nat → Bool} {held : Bool}
theorem opAffs (n : Nat) : OpF enc Tryz.prog w spare held n 195 (fun l : List Aff => [dAs l]) okAs :=
  OpF.mono (f := fun l : List Aff => [dAs l]) (n := n + 1) (opSlice (enc := enc) (w := w) (spare := spare) (held := held) (n := n) (t := 195) 2 32 Tryz.underlying195 (by kernel_rfl) (by kernel_rfl) (by rfl) (opAff n)) (by omega) fun a h => h
end
def okLp (l : Lp) : Prop := okAs l.1 ∧ okAs l.2
def okLps (l : List Lp) : Prop := l.length ≤ 17592186044416 ∧ ∀ x ∈ l, okLp x
section
variable {H : Type} {enc : TypeId × Value → H} {w : World} {spare : Nat → Bool} {held : Bool}
theorem opLoop (n : Nat) : OpF enc Tryz.prog w spare held n 197 rL okLp :=
  OpF.mono (f := rL) (n := n) (opStruct2 (enc := enc) (w := w) (spare := spare) (held := held) (n := n) (t := 197) Tryz.underlying197 (by kernel_rfl) (opAffs n) (opAffs n)) (by omega) fun a h => h
theorem opLoops (n : Nat) : OpF enc Tryz.prog w spare held n 111 (fun l : List Lp => [dLs l]) okLps :=
  OpF.mono (f := fun l : List Lp => [dLs l]) (n := n + 1) (opSlice (enc := enc) (w := w) (spare := spare) (held := held) (n := n) (t := 111) 2 48 Tryz.underlying111 (by kernel_rfl) (by kernel_rfl) (by rfl) (opLoop n)) (by omega) fun a h => h
end
/-- No list and no text is too long. -/
def okC (a : Acc) : Prop := a.1.size ≤ 140737488351232 ∧ okAs a.2
mutual
def okE : Ex → Prop
  | .mk _ _ i r ks => okA i ∧ okC r ∧ ks.length ≤ 17592186044416 ∧ okEs ks
def okEs : List Ex → Prop
  | [] => True
  | e :: l => okE e ∧ okEs l
end
theorem okEs_all : ∀ {l : List Ex}, (∀ x ∈ l, okE x) → okEs l
  | [], _ => trivial
  | e :: l, h => ⟨h e (by simp), okEs_all fun x hx => h x (by simp [hx])⟩
theorem okEs_mem : ∀ {l : List Ex}, okEs l → ∀ x ∈ l, okE x
  | e :: l, h, x, hx => by
    rcases List.mem_cons.1 hx with rfl | hx
    · exact h.1
    · exact okEs_mem h.2 x hx
theorem okE_eq {e : Ex} : okE e ↔ okA e.i ∧ okC e.r ∧ e.ks.length ≤ 17592186044416 ∧ ∀ x ∈ e.ks, okE x := by
  cases e with
  | mk k n i r ks => exact ⟨fun h => ⟨h.1, h.2.1, h.2.2.1, okEs_mem h.2.2.2⟩, fun h => ⟨h.1, h.2.1, h.2.2.1, okEs_all h.2.2.2⟩⟩
def okS (s : Stm) : Prop := okC s.1 ∧ okE s.2
section
variable {H : Type} {enc : TypeId × Value → H} {w : World} {spare : Nat → Bool} {held : Bool}
theorem opAcc (n : Nat) : OpF enc Tryz.prog w spare held n 200 rC okC :=
  OpF.mono (f := rC) (n := n) (opStruct2 (enc := enc) (w := w) (spare := spare) (held := held) (n := n) (t := 200) Tryz.underlying200 (by kernel_rfl) (opStr Tryz.underlying9) (opAffs n)) (by omega) fun a h => h
theorem opEx : ∀ n : Nat, OpF enc Tryz.prog w spare held n 204 rX okE
  | 0 => fun fuel hf cs x h _ => by
    obtain rfl : fuel = 0 := by omega
    cases h
  | n + 1 => fun fuel hf cs x h hw => by
    have hk := opSlice (enc := enc) (w := w) (spare := spare) (held := held) (n := n) (t := 202) 7 112 Tryz.underlying202 (by kernel_rfl) (by kernel_rfl) (by rfl) (opEx n)
    obtain ⟨a, b, c, d, e, ⟨_, _, h2, h3, h4⟩, hr⟩ := opStruct5 (enc := enc) (w := w) (spare := spare) (held := held) (n := n) (t := 204) Tryz.underlying204 1 1 2 2 1 (by kernel_rfl) (by kernel_rfl) (opInt Tryz.underlying3) (opInt Tryz.underlying3) (opAff n) (opAcc n) (hk.mono (by omega) fun _ h => h) fuel hf cs x h hw
    refine ⟨.mk a b c d e, okE_eq.2 ⟨h2, h3, h4.1, h4.2⟩, ?_⟩
    have : rX (.mk a b c d e) = rI a ++ (rI b ++ (rA c ++ (rC d ++ [D.list 7 (e.map rX)]))) := by
      rw [show e.map rX = e.map rE from List.map_congr_left fun x _ => (rE_eq x).symm]; rfl
    rw [this]; exact hr
theorem opStm (n : Nat) : OpF enc Tryz.prog w spare held n 206 rS okS :=
  OpF.mono (f := rS) (n := n) (opStruct2 (enc := enc) (w := w) (spare := spare) (held := held) (n := n) (t := 206) Tryz.underlying206 (by kernel_rfl) (opAcc n) (opEx n)) (by omega) fun a h => h
end
def okArr (a : Arr) : Prop := a.1.size ≤ 140737488351232 ∧ a.2.length ≤ 17592186044416
def okArrs (l : List Arr) : Prop := l.length ≤ 17592186044416 ∧ ∀ x ∈ l, okArr x
def okStms (l : List Stm) : Prop := l.length ≤ 17592186044416 ∧ ∀ x ∈ l, okS x
def okPrt (p : Prt) : Prop := okLps p.1 ∧ okStms p.2
def okPrts (l : List Prt) : Prop := l.length ≤ 17592186044416 ∧ ∀ x ∈ l, okPrt x
def okPrg (g : Prg) : Prop := okArrs g.1 ∧ okPrts g.2
section
variable {H : Type} {enc : TypeId × Value → H} {w : World} {spare : Nat → Bool} {held : Bool}
theorem opArr (n : Nat) : OpF enc Tryz.prog w spare held n 109 rR okArr :=
  OpF.mono (f := rR) (n := n + 1) (opStruct2 (enc := enc) (w := w) (spare := spare) (held := held) (t := 109) Tryz.underlying109 (by kernel_rfl) (opStr Tryz.underlying9) (opSlice (n := n) 1 8 Tryz.underlying35 (by kernel_rfl) (by kernel_rfl) (by rfl) (opInt Tryz.underlying3))) (by omega) fun a h => ⟨h.1, h.2.1⟩
theorem opArrs (n : Nat) : OpF enc Tryz.prog w spare held n 22 (fun l : List Arr => [dRs l]) okArrs :=
  OpF.mono (f := fun l : List Arr => [dRs l]) (n := n + 1) (opSlice (enc := enc) (w := w) (spare := spare) (held := held) (n := n) (t := 22) 2 40 Tryz.underlying22 (by kernel_rfl) (by kernel_rfl) (by rfl) (opArr n)) (by omega) fun a h => h
theorem opStms (n : Nat) : OpF enc Tryz.prog w spare held n 112 (fun l : List Stm => [dMs l]) okStms :=
  OpF.mono (f := fun l : List Stm => [dMs l]) (n := n + 1) (opSlice (enc := enc) (w := w) (spare := spare) (held := held) (n := n) (t := 112) 9 152 Tryz.underlying112 (by kernel_rfl) (by kernel_rfl) (by rfl) (opStm n)) (by omega) fun a h => h
theorem opPrt (n : Nat) : OpF enc Tryz.prog w spare held n 114 rP okPrt :=
  OpF.mono (f := rP) (n := n) (opStruct2 (enc := enc) (w := w) (spare := spare) (held := held) (n := n) (t := 114) Tryz.underlying114 (by kernel_rfl) (opLoops n) (opStms n)) (by omega) fun a h => h
theorem opPrts (n : Nat) : OpF enc Tryz.prog w spare held n 23 (fun l : List Prt => [dPts l]) okPrts :=
  OpF.mono (f := fun l : List Prt => [dPts l]) (n := n + 1) (opSlice (enc := enc) (w := w) (spare := spare) (held := held) (n := n) (t := 23) 2 48 Tryz.underlying23 (by kernel_rfl) (by kernel_rfl) (by rfl) (opPrt n)) (by omega) fun a h => h
theorem opPrg (n : Nat) : OpF enc Tryz.prog w spare held n 25 rG okPrg :=
  OpF.mono (f := rG) (n := n) (opStruct2 (enc := enc) (w := w) (spare := spare) (held := held) (n := n) (t := 25) Tryz.underlying25 (by kernel_rfl) (opArrs n) (opPrts n)) (by omega) fun a h => h
end
end Go.Proofs.YtidfloikpieggaaGreat
namespace Go.Proofs.YtidfloikpieggaaGreat
set_option linter.unusedVariables false
set_option linter.unusedSimpArgs false
open Go.RowKit
/-- What is left of l behind n, or -1. -/
def subZ (l : Int) (n : Nat) : Int := if (n : Int) ≤ l then l - n else -1
theorem subZ_yes {l : Int} {n : Nat} (h : (n : Int) ≤ l) : subZ l n = l - n := if_pos h
theorem subZ_no {l : Int} {n : Nat} (h : ¬ (n : Int) ≤ l) : subZ l n = -1 := if_neg h
theorem subZ_neg {l : Int} {n : Nat} (h : subZ l n < 0) (hl : 0 ≤ l) : ¬ (n : Int) ≤ l := fun h2 => by rw [subZ_yes h2] at h; omega
theorem subZ_pos {l : Int} {n : Nat} (h : ¬ subZ l n < 0) : (n : Int) ≤ l := Classical.byContradiction fun h2 => by rw [subZ_no h2] at h; omega
theorem subZ_bd {l : Int} {n : Nat} (hl : 0 ≤ l ∧ l ≤ 1048576) : -1 ≤ subZ l n ∧ subZ l n ≤ 1048576 := by
  unfold subZ; split <;> omega
theorem sum_take {α : Type} (f : α → Nat) {l : List α} {i : Nat} {x : α} (h : l[i]? = some x) : ((l.take (i + 1)).map f).sum = ((l.take i).map f).sum + f x := by
  rw [List.take_add_one, h, List.map_append, List.sum_append]; simp
theorem sum_take_le {α : Type} (f : α → Nat) : ∀ {l : List α} {i : Nat}, ((l.take i).map f).sum ≤ (l.map f).sum
  | [], i => by simp
  | y :: l, 0 => by simp
  | y :: l, i + 1 => by rw [List.take_succ_cons, List.map_cons, List.map_cons, List.sum_cons, List.sum_cons]; have := sum_take_le f (l := l) (i := i); omega

theorem szInts_fn (xs : List Int) {l : Int} (hl : 0 ≤ l ∧ l ≤ 1048576) (hx : xs.length ≤ 17592186044416) : Fn Tryz.prog 113 [] [vD (dIs xs), nat1 l] (.o (nat1 (subZ l xs.length))) [] := by
  refine Fn.code0 Tryz.func113 rfl rfl rfl rfl ?_
  refine .seq <| .region <| .cons (.asg rfl rfl) <| .nil <| ks_n <| .seq <| .region <| .cons (.mv rfl rfl) <| .cons (.mv rfl rfl) <| .cons (.ln 3 1 8 rfl rfl rfl) <| .cons (.sb rfl rfl rfl) <| .cons (.asg rfl rfl) <| .nil <| ks_n <| .seq <| .seq <| .region <| .cons (.mv rfl rfl) <| .cons (.ls rfl rfl rfl) <| .nil <| ks_n ?_
  refine .cD rfl (fun h10 => ?_) (fun h10 => ?_)
  · skip
    refine .seq <| .region <| .cons (.asg rfl rfl) <| .nil <| ks_n <| .ret <| ks_r ?_
    refine kf_ret rfl ?_ nobox
    exact leafI (by first | (rw [subZ_yes (by omega)]; done) | (rw [subZ_no (by omega)]) | (rw [subZ_yes (by omega)]; omega))
  · skip
    refine .skip <| ks_n <| .seq <| .region <| .cons (.mv rfl rfl) <| .cons (.asg rfl rfl) <| .nil <| ks_n <| .ret ?_
    refine kf_ret rfl ?_ nobox
    exact leafI (by first | (rw [subZ_yes (by omega)]; done) | (rw [subZ_no (by omega)]) | (rw [subZ_yes (by omega)]; omega))

theorem szAff_fn {x : Aff} {l : Int} (hl : 0 ≤ l ∧ l ≤ 1048576) (hx : x.1.length ≤ 17592186044416) : Fn Tryz.prog 233 [] [ad (rA x), nat1 l] (.o (nat1 (subZ l x.1.length))) [] := by
  have hb := subZ_bd (n := x.1.length) hl
  refine Fn.code0 Tryz.func233 rfl rfl rfl rfl ?_
  refine .seq <| .region <| .cons (St1.boxP rfl rfl rfl rfl rfl rfl) <| .cons (.asg rfl rfl) <| .nil <| ks_n <| .seq <| .region <| .cons (.fP 0 0 false rfl rfl) <| .cons (.l1 1 rfl rfl) <| .cons (.mv rfl rfl) <| .cons (.cP [.tmp 6, .tmp 7] rfl rfl rfl rfl (szInts_fn x.1 hl hx) rfl) ?_
  refine .cons (.asg rfl rfl) <| .nil <| ks_n <| .seq <| .seq <| .region <| .cons (.mv rfl rfl) <| .cons (.ls rfl rfl rfl) <| .nil <| ks_n ?_
  refine .cD rfl (fun h10 => ?_) (fun h10 => ?_)
  · skip
    refine .seq <| .region <| .cons (.asg rfl rfl) <| .nil <| ks_n <| .ret <| ks_r ?_
    refine kf_ret rfl ?_ nobox
    exact leafI (subZ_no (subZ_neg h10 hl.1)).symm
  · skip
    refine .skip <| ks_n <| .seq <| .region <| .cons (.mv rfl rfl) <| .cons (.asg rfl rfl) <| .nil <| ks_n <| .ret ?_
    refine kf_ret rfl ?_ nobox
    rfl

theorem szAffs_fn (xs : List Aff) {l : Int} (hl : 0 ≤ l ∧ l ≤ 1048576) (hx : xs.length ≤ 17592186044416) (hq : ∀ x ∈ xs, x.1.length ≤ 17592186044416) : Fn Tryz.prog 199 [] [vD (dAs xs), nat1 l] (.o (nat1 (subZ l (szAs xs)))) [] := by
  refine Fn.code0 Tryz.func199 rfl rfl rfl rfl ?_
  refine .seq <| .region <| .cons (.asg rfl rfl) <| .nil <| ks_n <| .seq <| .region <| .cons (.mv rfl rfl) <| .cons (.mv rfl rfl) <| .cons (.ln 201 2 32 rfl rfl rfl) <| .cons (.sb rfl rfl rfl) <| .cons (.asg rfl rfl) <| .nil <| ks_n <| .seq <| .seq <| .region <| .cons (.mv rfl rfl) <| .cons (.ls rfl rfl rfl) <| .nil <| ks_n ?_
  refine .cD rfl (fun h11 => ?_) (fun h11 => ?_)
  · skip
    refine .seq <| .region <| .cons (.asg rfl rfl) <| .nil <| ks_n <| .ret <| ks_r ?_
    refine kf_ret rfl ?_ nobox
    exact leafI (subZ_no (by rw [szAs]; omega)).symm
  · skip
    refine .skip <| ks_n <| .seq <| .seq <| .region <| .cons (.asg rfl rfl) <| .nil <| ks_n <| .block ?_
    refine .loopK (fun m σ => (∃ i : Nat, m = xs.length - i ∧ (i ≤ xs.length) ∧ (((xs.length + ((xs.take i).map fun a => a.1.length).sum : Nat) : Int) ≤ l) ∧ σ = [(.t 0, .v (.o (vD (dAs xs)))), (.t 1, .v (.o (nat1 (l - (xs.length + ((xs.take i).map fun a => a.1.length).sum : Nat))))), (.t 4, .v (.o (nat1 0))), (.t 5, .v (.o (nat1 (i : Nat))))])) [] ⟨0, rfl, by omega, by simp; omega, rfl⟩ ⟨ks rfl .dt, ks rfl (.dt (vI (by first | (simp; done) | (rw [hT, subZ_yes (by omega)]; omega)))), ks rfl .dt, ks rfl .dt, trivial⟩ ?_
    rintro m σ ⟨i, hm0, hi, hF, rfl⟩
    refine .seq <| .seq <| .region <| .cons (.mv rfl rfl) <| .cons (.mv rfl rfl) <| .cons (.ln 201 2 32 rfl rfl rfl) <| .cons (.ls rfl rfl rfl) <| .nil <| ks_n ?_
    refine .cD rfl (fun h15 => ?_) (fun h15 => ?_)
    · skip
      obtain ⟨x, hx1⟩ : ∃ x, xs[i]? = some x := ⟨_, List.getElem?_eq_getElem (by omega)⟩
      have hT := sum_take (fun a : Aff => a.1.length) hx1
      refine .skip <| ks_n <| .seq <| .block <| .seq <| .region <| .cons (.mv rfl rfl) <| .cons (.mv rfl rfl) <| .cons (.xL 201 2 32 rfl rfl rfl rfl rfl) ?_
      refine .cons (.lN 2 rfl rfl rfl) <| .cons (.mv rfl rfl) <| .cons (.cP [.tmp 21, .tmp 22] rfl rfl rfl rfl (szAff_fn (l := l - (xs.length + ((xs.take i).map fun a => a.1.length).sum : Nat)) (by omega) (hq x (List.mem_of_getElem? hx1))) rfl) ?_
      refine .cons (.asg rfl rfl) <| .nil <| ks_n <| .seq <| .region <| .cons (.mv rfl rfl) <| .cons (.ls rfl rfl rfl) <| .nil <| ks_n ?_
      refine .cD rfl (fun h25 => ?_) (fun h25 => ?_)
      · skip
        refine .seq <| .region <| .cons (.asg rfl rfl) <| .nil <| ks_n <| .ret <| kb_r <| ks_r <| kl_r <| kb_r <| ks_r ?_
        refine kf_ret rfl ?_ nobox
        exact leafI (subZ_no (by have h1 := subZ_neg h25 (by omega); have h2 := sum_take_le (fun a : Aff => a.1.length) (l := xs) (i := i + 1); rw [szAs]; omega)).symm
      · skip
        have hP := subZ_pos h25
        refine .skip <| kb_n <| ks_n <| .region <| .cons (.mv rfl rfl) <| .cons (.pl rfl rfl rfl) <| .cons (.asg rfl rfl) <| .nil ?_
        refine kl_k [] ⟨i + 1, rfl, by omega, by rw [hT]; have := subZ_pos h25; omega, rfl⟩ ⟨ks rfl .dt, ks rfl (.dt (vI (by first | (simp; done) | (rw [hT, subZ_yes (by omega)]; omega)))), ks rfl .dt, ks rfl .dt, trivial⟩
    · skip
      have hall : xs.take i = xs := List.take_of_length_le (by omega)
      refine .exit <| ks_e <| kl_e <| kb_hit <| ks_n <| .seq <| .region <| .cons (.mv rfl rfl) <| .cons (.asg rfl rfl) <| .nil <| ks_n <| .ret ?_
      refine kf_ret rfl ?_ nobox
      exact leafI (by rw [subZ_yes (by rw [szAs, ← hall]; rw [hall]; rw [hall] at hF; omega), szAs, hall])
theorem szEs_take {l : List Ex} {i : Nat} {x : Ex} (h : l[i]? = some x) : szEs (l.take (i + 1)) = szEs (l.take i) + szE x := by
  have key : ∀ (a : List Ex) (x : Ex), szEs (a ++ [x]) = szEs a + szE x := by
    intro a x
    induction a with
    | nil => simp [szEs]
    | cons y a ih => rw [List.cons_append, szEs, szEs, ih]; omega
  rw [List.take_add_one, h]
  exact key _ _
theorem szEs_le : ∀ {l : List Ex} {i : Nat}, szEs (l.take i) ≤ szEs l
  | [], i => by simp
  | y :: l, 0 => by simp [szEs]
  | y :: l, i + 1 => by rw [List.take_succ_cons, szEs, szEs]; have := szEs_le (l := l) (i := i); omega

theorem szAcc_fn {a : Acc} {l : Int} (hl : 0 ≤ l ∧ l ≤ 1048576) (h1 : a.1.size ≤ 140737488351232) (h2 : a.2.length ≤ 17592186044416) (h3 : ∀ x ∈ a.2, x.1.length ≤ 17592186044416) : Fn Tryz.prog 200 [] [ad (rC a), nat1 l] (.o (nat1 (subZ l (szC a)))) [] := by
  have hsz : szC a = a.1.size + szAs a.2 := rfl
  refine Fn.code0 Tryz.func200 rfl rfl rfl rfl ?_
  refine .seq <| .region <| .cons (St1.boxP rfl rfl rfl rfl rfl rfl) <| .cons (.asg rfl rfl) <| .nil <| ks_n <| .seq <| .region <| .cons (.mv rfl rfl) <| .cons (.fP 0 0 false rfl rfl) <| .cons (.l1 1 rfl rfl) <| .cons (St1.lenS rfl rfl rfl rfl rfl (by kernel_rfl) rfl) ?_
  refine .cons (.sb rfl rfl rfl) <| .cons (.asg rfl rfl) <| .nil <| ks_n <| .seq <| .seq <| .region <| .cons (.mv rfl rfl) <| .cons (.ls rfl rfl rfl) <| .nil <| ks_n ?_
  refine .cD rfl (fun h11 => ?_) (fun h11 => ?_)
  · skip
    refine .seq <| .region <| .cons (.asg rfl rfl) <| .nil <| ks_n <| .ret <| ks_r ?_
    refine kf_ret rfl ?_ nobox
    exact leafI (subZ_no (by omega)).symm
  · skip
    refine .skip <| ks_n <| .seq ?_
    have hb := subZ_bd (n := szAs a.2) (l := l - (a.1.size : Nat)) (by omega)
    refine .region <| .cons (.fP 1 0 false rfl rfl) <| .cons (.l1 1 rfl rfl) <| .cons (.mv rfl rfl) <| .cons (.cP [.tmp 13, .tmp 14] rfl rfl rfl rfl (szAffs_fn a.2 (l := l - (a.1.size : Nat)) (by omega) h2 h3) rfl) ?_
    refine .cons (.asg rfl rfl) <| .nil <| ks_n <| .seq <| .seq <| .region <| .cons (.mv rfl rfl) <| .cons (.ls rfl rfl rfl) <| .nil <| ks_n ?_
    refine .cD rfl (fun h17 => ?_) (fun h17 => ?_)
    · skip
      refine .seq <| .region <| .cons (.asg rfl rfl) <| .nil <| ks_n <| .ret <| ks_r ?_
      refine kf_ret rfl ?_ nobox
      exact leafI (subZ_no (by have := subZ_neg h17 (by omega); omega)).symm
    · skip
      refine .skip <| ks_n <| .seq <| .region <| .cons (.mv rfl rfl) <| .cons (.asg rfl rfl) <| .nil <| ks_n <| .ret ?_
      refine kf_ret rfl ?_ nobox
      exact leafI (by have := subZ_pos h17; rw [subZ_yes this, subZ_yes (by omega)]; omega)

theorem szExs_one (es : List Ex) {l : Int} (hl : 0 ≤ l ∧ l ≤ 1048576) (hx : es.length ≤ 17592186044416) (ih : ∀ x ∈ es, ∀ l : Int, 0 ≤ l ∧ l ≤ 1048576 → Fn Tryz.prog 201 [] [ad (rX x), nat1 l] (.o (nat1 (subZ l (szE x)))) []) : Fn Tryz.prog 234 [] [vD (dEs es), nat1 l] (.o (nat1 (subZ l (es.length + szEs es)))) [] := by
  refine Fn.code0 Tryz.func234 rfl rfl rfl rfl ?_
  refine .seq <| .region <| .cons (.asg rfl rfl) <| .nil <| ks_n <| .seq <| .region <| .cons (.mv rfl rfl) <| .cons (.mv rfl rfl) <| .cons (.ln 204 7 112 rfl rfl rfl) <| .cons (.sb rfl rfl rfl) <| .cons (.asg rfl rfl) <| .nil <| ks_n <| .seq <| .seq <| .region <| .cons (.mv rfl rfl) <| .cons (.ls rfl rfl rfl) <| .nil <| ks_n ?_
  refine .cD rfl (fun h11 => ?_) (fun h11 => ?_)
  · skip
    refine .seq <| .region <| .cons (.asg rfl rfl) <| .nil <| ks_n <| .ret <| ks_r ?_
    refine kf_ret rfl ?_ nobox
    exact leafI (subZ_no (by omega)).symm
  · skip
    refine .skip <| ks_n <| .seq <| .seq <| .region <| .cons (.asg rfl rfl) <| .nil <| ks_n <| .block ?_
    refine .loopK (fun m σ => (∃ i : Nat, m = es.length - i ∧ (i ≤ es.length) ∧ (((es.length + szEs (es.take i) : Nat) : Int) ≤ l) ∧ σ = [(.t 0, .v (.o (vD (dEs es)))), (.t 1, .v (.o (nat1 (l - (es.length + szEs (es.take i) : Nat))))), (.t 4, .v (.o (nat1 0))), (.t 5, .v (.o (nat1 (i : Nat))))])) [] ⟨0, rfl, by omega, by simp [szEs]; omega, rfl⟩ ⟨ks rfl .dt, ks rfl (.dt (vI (by first | (simp [szEs]; done) | (rw [hT, subZ_yes (by omega)]; omega)))), ks rfl .dt, ks rfl .dt, trivial⟩ ?_
    rintro m σ ⟨i, hm0, hi, hF, rfl⟩
    refine .seq <| .seq <| .region <| .cons (.mv rfl rfl) <| .cons (.mv rfl rfl) <| .cons (.ln 204 7 112 rfl rfl rfl) <| .cons (.ls rfl rfl rfl) <| .nil <| ks_n ?_
    refine .cD rfl (fun h15 => ?_) (fun h15 => ?_)
    · skip
      obtain ⟨x, hx1⟩ : ∃ x, es[i]? = some x := ⟨_, List.getElem?_eq_getElem (by omega)⟩
      have hT := szEs_take hx1
      refine .skip <| ks_n <| .seq <| .block <| .seq <| .region <| .cons (.mv rfl rfl) <| .cons (.mv rfl rfl) <| .cons (.xL 204 7 112 rfl rfl rfl rfl rfl (rE_at hx1)) ?_
      refine .cons (.lN 7 rfl rfl rfl) <| .cons (.mv rfl rfl) <| .cons (.cP [.tmp 21, .tmp 22] rfl rfl rfl rfl (ih x (List.mem_of_getElem? hx1) (l - (es.length + szEs (es.take i) : Nat)) (by omega)) rfl) ?_
      refine .cons (.asg rfl rfl) <| .nil <| ks_n <| .seq <| .region <| .cons (.mv rfl rfl) <| .cons (.ls rfl rfl rfl) <| .nil <| ks_n ?_
      refine .cD rfl (fun h25 => ?_) (fun h25 => ?_)
      · skip
        refine .seq <| .region <| .cons (.asg rfl rfl) <| .nil <| ks_n <| .ret <| kb_r <| ks_r <| kl_r <| kb_r <| ks_r ?_
        refine kf_ret rfl ?_ nobox
        exact leafI (subZ_no (by have h1 := subZ_neg h25 (by omega); have h2 := szEs_le (l := es) (i := i + 1); omega)).symm
      · skip
        have hP := subZ_pos h25
        refine .skip <| kb_n <| ks_n <| .region <| .cons (.mv rfl rfl) <| .cons (.pl rfl rfl rfl) <| .cons (.asg rfl rfl) <| .nil ?_
        refine kl_k [] ⟨i + 1, rfl, by omega, by rw [hT]; have := subZ_pos h25; omega, rfl⟩ ⟨ks rfl .dt, ks rfl (.dt (vI (by first | (simp [szEs]; done) | (rw [hT, subZ_yes (by omega)]; omega)))), ks rfl .dt, ks rfl .dt, trivial⟩
    · skip
      have hall : es.take i = es := List.take_of_length_le (by omega)
      refine .exit <| ks_e <| kl_e <| kb_hit <| ks_n <| .seq <| .region <| .cons (.mv rfl rfl) <| .cons (.asg rfl rfl) <| .nil <| ks_n <| .ret ?_
      refine kf_ret rfl ?_ nobox
      exact leafI (by rw [hall] at hF ⊢; rw [subZ_yes hF])

theorem szEx_one (e : Ex) {l : Int} (hl : 0 ≤ l ∧ l ≤ 1048576) (h0 : e.i.1.length ≤ 17592186044416) (h1 : e.r.1.size ≤ 140737488351232) (h2 : e.r.2.length ≤ 17592186044416) (h3 : ∀ x ∈ e.r.2, x.1.length ≤ 17592186044416) (h4 : e.ks.length ≤ 17592186044416) (ih : ∀ x ∈ e.ks, ∀ l : Int, 0 ≤ l ∧ l ≤ 1048576 → Fn Tryz.prog 201 [] [ad (rX x), nat1 l] (.o (nat1 (subZ l (szE x)))) []) : Fn Tryz.prog 201 [] [ad (rX e), nat1 l] (.o (nat1 (subZ l (szE e)))) [] := by
  have hsz := szE_eq e
  have hb1 := subZ_bd (n := e.i.1.length) hl
  refine Fn.code0 Tryz.func201 rfl rfl rfl rfl ?_
  refine .seq <| .region <| .cons (St1.boxP rfl rfl rfl rfl rfl rfl) <| .cons (.asg rfl rfl) <| .nil <| ks_n <| .seq <| .region <| .cons (.fP 2 1 true rfl rfl) <| .cons (.lN 2 rfl rfl rfl) <| .cons (.mv rfl rfl) <| .cons (.cP [.tmp 6, .tmp 7] rfl rfl rfl rfl (szAff_fn hl h0) rfl) ?_
  refine .cons (.asg rfl rfl) <| .nil <| ks_n <| .seq <| .seq <| .region <| .cons (.mv rfl rfl) <| .cons (.ls rfl rfl rfl) <| .nil <| ks_n ?_
  refine .cD rfl (fun h10 => ?_) (fun h10 => ?_)
  · skip
    refine .seq <| .region <| .cons (.asg rfl rfl) <| .nil <| ks_n <| .ret <| ks_r ?_
    refine kf_ret rfl ?_ nobox
    exact leafI (subZ_no (by have := subZ_neg h10 hl.1; omega)).symm
  · skip
    refine .skip <| ks_n <| .seq ?_
    have hp1 := subZ_pos h10
    have hb2 := subZ_bd (n := szC e.r) (l := subZ l e.i.1.length) (by omega)
    refine .region <| .cons (.fP 4 1 true rfl rfl) <| .cons (.lN 2 rfl rfl rfl) <| .cons (.mv rfl rfl) <| .cons (.cP [.tmp 12, .tmp 13] rfl rfl rfl rfl (szAcc_fn (a := e.r) (l := subZ l e.i.1.length) (by omega) h1 h2 h3) rfl) ?_
    refine .cons (.asg rfl rfl) <| .nil <| ks_n <| .seq <| .seq <| .region <| .cons (.mv rfl rfl) <| .cons (.ls rfl rfl rfl) <| .nil <| ks_n ?_
    refine .cD rfl (fun h16 => ?_) (fun h16 => ?_)
    · skip
      refine .seq <| .region <| .cons (.asg rfl rfl) <| .nil <| ks_n <| .ret <| ks_r ?_
      refine kf_ret rfl ?_ nobox
      exact leafI (subZ_no (by have h6 := subZ_neg h16 (by omega); rw [subZ_yes hp1] at h6; omega)).symm
    · skip
      refine .skip <| ks_n <| .seq ?_
      have hp2 := subZ_pos h16
      have hb3 := subZ_bd (n := e.ks.length + szEs e.ks) (l := subZ (subZ l e.i.1.length) (szC e.r)) (by omega)
      have e1 := subZ_yes hp1
      have e2 := subZ_yes hp2
      refine .region <| .cons (.fP 6 0 false rfl rfl) <| .cons (.l1 1 rfl rfl) <| .cons (.mv rfl rfl) <| .cons (.cP [.tmp 18, .tmp 19] rfl rfl rfl rfl (szExs_one e.ks (l := subZ (subZ l e.i.1.length) (szC e.r)) (by omega) h4 ih) rfl) ?_
      refine .cons (.asg rfl rfl) <| .nil <| ks_n <| .seq <| .seq <| .region <| .cons (.mv rfl rfl) <| .cons (.ls rfl rfl rfl) <| .nil <| ks_n ?_
      refine .cD rfl (fun h22 => ?_) (fun h22 => ?_)
      · skip
        refine .seq <| .region <| .cons (.asg rfl rfl) <| .nil <| ks_n <| .ret <| ks_r ?_
        refine kf_ret rfl ?_ nobox
        exact leafI (subZ_no (by have h6 := subZ_neg h22 (by omega); omega)).symm
      · skip
        refine .skip <| ks_n <| .seq <| .region <| .cons (.mv rfl rfl) <| .cons (.asg rfl rfl) <| .nil <| ks_n <| .ret ?_
        refine kf_ret rfl ?_ nobox
        exact leafI (by have h6 := subZ_pos h22; rw [subZ_yes h6, e2, e1, subZ_yes (l := l) (n := szE e) (by omega)]; omega)

theorem szEx_fn : ∀ e : Ex, okE e → ∀ l : Int, 0 ≤ l ∧ l ≤ 1048576 → Fn Tryz.prog 201 [] [ad (rX e), nat1 l] (.o (nat1 (subZ l (szE e)))) [] := by
  intro e
  induction e using Ex.rec' with
  | h e ih =>
    intro ho l hl
    obtain ⟨h1, h2, h3, h4⟩ := okE_eq.1 ho
    exact szEx_one e hl h1 h2.1 h2.2.1 h2.2.2 h3 fun x hx l hl => ih x hx (h4 x hx) l hl

theorem szStm_fn {s : Stm} (ho : okS s) {l : Int} (hl : 0 ≤ l ∧ l ≤ 1048576)  : Fn Tryz.prog 162 [] [ad (rS s), nat1 l] (.o (nat1 (subZ l (szS s)))) [] := by
  have hsz : szS s = szC s.1 + szE s.2 := rfl
  have hb1 := subZ_bd (n := szC s.1) hl
  obtain ⟨⟨ho1, ho2, ho3⟩, ho4⟩ := ho
  refine Fn.code0 Tryz.func162 rfl rfl rfl rfl ?_
  refine .seq <| .region <| .cons (St1.boxP rfl rfl rfl rfl rfl rfl) <| .cons (.asg rfl rfl) <| .nil <| ks_n <| .seq <| .region <| .cons (.fP 0 1 true rfl rfl) <| .cons (.lN 2 rfl rfl rfl) <| .cons (.mv rfl rfl) <| .cons (.cP [.tmp 6, .tmp 7] rfl rfl rfl rfl (szAcc_fn hl ho1 ho2 ho3) rfl) ?_
  refine .cons (.asg rfl rfl) <| .nil <| ks_n <| .seq <| .seq <| .region <| .cons (.mv rfl rfl) <| .cons (.ls rfl rfl rfl) <| .nil <| ks_n ?_
  refine .cD rfl (fun h10 => ?_) (fun h10 => ?_)
  · skip
    refine .seq <| .region <| .cons (.asg rfl rfl) <| .nil <| ks_n <| .ret <| ks_r ?_
    refine kf_ret rfl ?_ nobox
    exact leafI (subZ_no (by have := subZ_neg h10 hl.1; omega)).symm
  · skip
    refine .skip <| ks_n <| .seq ?_
    have hp1 := subZ_pos h10
    have hb2 := subZ_bd (n := szE s.2) (l := subZ l (szC s.1)) (by omega)
    have e1 := subZ_yes hp1
    refine .region <| .cons (.fP 2 6 true rfl rfl) <| .cons (.lN 7 rfl rfl rfl) <| .cons (.mv rfl rfl) <| .cons (.cP [.tmp 12, .tmp 13] rfl rfl rfl rfl (szEx_fn s.2 ho4 (subZ l (szC s.1)) (by omega)) rfl) ?_
    refine .cons (.asg rfl rfl) <| .nil <| ks_n <| .seq <| .seq <| .region <| .cons (.mv rfl rfl) <| .cons (.ls rfl rfl rfl) <| .nil <| ks_n ?_
    refine .cD rfl (fun h16 => ?_) (fun h16 => ?_)
    · skip
      refine .seq <| .region <| .cons (.asg rfl rfl) <| .nil <| ks_n <| .ret <| ks_r ?_
      refine kf_ret rfl ?_ nobox
      exact leafI (subZ_no (by have h6 := subZ_neg h16 (by omega); omega)).symm
    · skip
      refine .skip <| ks_n <| .seq <| .region <| .cons (.mv rfl rfl) <| .cons (.asg rfl rfl) <| .nil <| ks_n <| .ret ?_
      refine kf_ret rfl ?_ nobox
      exact leafI (by have h6 := subZ_pos h16; rw [subZ_yes h6, e1, subZ_yes (l := l) (n := szS s) (by omega)]; omega)
def tyMk (P : Program) (t : TypeId) : Option (TypeId × Nat × Nat × List Value) :=
  match P.underlying t with
  | some (.slice e) => (P.info? e).bind fun i => i.zero.map fun z => (e, i.size, i.bytes, z.cells.toList)
  | _ => none
theorem tyMk_out {P : Program} {t e : TypeId} {sz by' : Nat} {zs : List Value} (h : tyMk P t = some (e, sz, by', zs)) : P.underlying t = some (.slice e) ∧ ∃ i z, P.info? e = some i ∧ i.zero = some z ∧ i.size = sz ∧ i.bytes = by' ∧ z.cells.toList = zs := by
  unfold tyMk at h
  cases hu : P.underlying t with
  | none => simp [hu] at h
  | some d =>
    cases d <;> simp only [hu, reduceCtorEq] at h
    case slice e' =>
      cases hi : P.info? e' with
      | none => rw [hi] at h; cases h
      | some i =>
        cases hz : i.zero with
        | none => rw [hi] at h; simp [hz] at h
        | some z =>
          rw [hi] at h
          simp only [Option.bind_some, hz, Option.map_some, Option.some.injEq, Prod.mk.injEq] at h
          obtain ⟨rfl, h1, h2, h3⟩ := h
          exact ⟨rfl, i, z, hi, hz, h1, h2, h3⟩
theorem made_at {z : Value} {n i j sz : Nat} {u : Value} (hs : z.cells.toList.length = sz) (hi : i < n) (hu : z.cells.toList[j]? = some u) : (madeCells z.cells (n * sz))[i * sz + j]? = some u := by
  have hj : j < sz := by rw [← hs]; exact (List.getElem?_eq_some_iff.1 hu).1
  have hlt : i * sz + j < n * sz := by
    have := Nat.mul_le_mul_right sz (show i + 1 ≤ n by omega)
    rw [Nat.add_mul] at this; omega
  have hz : z.cells.size = sz := by rw [← hs, Array.length_toList]
  have hm : (i * sz + j) % sz = j := by rw [Nat.add_comm, Nat.add_mul_mod_self_right, Nat.mod_eq_of_lt hj]
  rw [Array.getElem?_toList] at hu
  simp [madeCells, hlt, hz, hm, Array.getElem!_eq_getD, hu, Array.getD_eq_getD_getElem?]
section
variable {P : Program} {n : Nat} {ops : Array Oper} {o : Oper} {σ : St} {d : Nat}
theorem St1.mk (k' : Nat) (e : TypeId) (sz by' : Nat) (zs : List Value) {t : TypeId} {x y : Operand} {m : Nat} (h4 : (o.op, o.guard, o.dst, Nat.blt d n) = (Op.makeSlice t x y, none, some d, true)) (hx : ev σ x = some (.o (nat1 (m : Nat)))) (hy : ev σ y = some (.o (nat1 (m : Nat)))) (hm : m ≤ 1073741824) (hz : (Nat.beq zs.length sz && zs.all (·.oneCell') && Nat.ble by' 65536) = true)
    (hf : (lk σ (.u k'), Nat.ble 100 k') = (.no, true)) (ht : tyMk P t = some (e, sz, by', zs) := by kernel_rfl) :
    St1 P n ops o σ (.u k' :: (rd x ++ rd y)) [.t d, .u k', .b k', .b k'] ((.t d, .v (.o (.c (.own k' sz m)))) :: (.u k', .u) :: (.b k', .b e sz (dR (List.replicate m (zs.map D.val)))) :: (.b k', .no) :: σ) := by
  simp only [Prod.mk.injEq] at h4 hf
  obtain ⟨ho, hg, hd, hn⟩ := h4
  simp only [Bool.and_eq_true] at hz
  have hzl : zs.length = sz := Nat.eq_of_beq_eq_true hz.1.1
  have hz1 : ∀ u ∈ zs, u.oneCell' = true := fun u hu => List.all_eq_true.1 hz.1.2 u hu
  have hby := Nat.le_of_ble_eq_true hz.2
  have hrow : ∀ {i : Nat} {r : List C}, (dR (List.replicate m (zs.map D.val)))[i]? = some r → i < m ∧ r = zs.map fun u => C.d (.val u) := fun {i r} h => by
    rw [dR, List.map_replicate, List.map_map] at h
    have hi : i < m := by have := (List.getElem?_eq_some_iff.1 h).1; simpa using this
    rw [List.getElem?_replicate, if_pos hi] at h
    exact ⟨hi, (Option.some.inj h).symm⟩
  refine St1.place hg hd hn hf.1 hf.2 (okk_self hf.2) rfl fun E bx τ a w hR hs => ?_
  obtain ⟨hu, i, z, hi, hzz, hs1, hs2, hs3⟩ := tyMk_out ht
  have hbm : i.bytes * m ≤ 281474976710656 := by
    have := Nat.mul_le_mul (show i.bytes ≤ 65536 by omega) hm; omega
  have hb' : (i.bytes : Int) * (m : Int) ≤ 281474976710656 := by
    have h : ((i.bytes * m : Nat) : Int) ≤ 281474976710656 := by omega
    rwa [Int.natCast_mul] at h
  have hr := run_make (P := P) w t e i z hu hi hzz .i64 .i64 (m : Int) (m : Int) (by omega) (Int.le_refl _) hb' (by omega)
  simp only [Int.toNat_natCast, hs1] at hr
  have hsz : (madeCells z.cells (m * sz)).size = m * sz := size_madeCells _ _
  refine ⟨.slice (some ⟨w.heap.size, 0, none⟩) m m, w.alloc (.cells (madeCells z.cells (m * sz)) e), w.heap.size, w.heap.size, madeCells z.cells (m * sz), ?_, .inr (Nat.le_refl _), World.grownBy_alloc w _ _, .inl rfl, heap_alloc_new w _, ?_, fun i r hi => ?_, fun i r j c hi hj => ?_, fun r hr' c hc l hl => ?_, fun bx' al B w2 hbx => ⟨rfl, fun _ => ⟨m, by rw [hbx], Nat.le_refl _, by unfold maxLen; omega, by rw [hbx, hsz]⟩⟩⟩
  · simp only [execOp, ho, ev_val hx (rd_l hR) hs, ev_val hy (rd_r hR) hs, Sem.run_bind, hr]; rfl
  · rw [hsz, dR, List.length_map, List.length_replicate]; exact Nat.le_refl _
  · rw [(hrow hi).2, List.length_map, hzl]
  · obtain ⟨h1, rfl⟩ := hrow hi
    rw [List.getElem?_map] at hj
    cases hq : zs[j]? with
    | none => rw [hq] at hj; cases hj
    | some u =>
      rw [hq] at hj; cases hj
      exact ⟨u, made_at (by rw [hs3, hzl]) h1 (by rw [hs3]; exact hq), .val _ (hz1 u (List.mem_of_getElem? hq))⟩
  · obtain ⟨i, hi⟩ := List.mem_iff_getElem?.1 hr'
    obtain ⟨_, rfl⟩ := hrow hi
    obtain ⟨u, _, rfl⟩ := List.mem_map.1 hc
    cases hl
end
theorem eqInts_f (xs ys : List Int) (hx : xs.length ≤ 1099511627776) : Fn Tryz.prog 17 [] [vD (dIs xs), vD (dIs ys)] (.o (bo1 (eqF (fun x y : Int => decide (x = y)) xs ys))) [] := by
 refine Fn.code0 Tryz.func17 rfl rfl rfl rfl ?_
 refine .seq <| .region <| .cons (.asg rfl rfl) <| .nil <| ks_n <| .seq <| .seq <| .region <| .cons (.mv rfl rfl) <| .cons (.ln 3 1 8 rfl rfl rfl) <| .cons (.mv rfl rfl) <| .cons (.ln 3 1 8 rfl rfl rfl) <| .cons (.ne rfl rfl rfl) <| .nil <| ks_n ?_
 refine .cND rfl (fun h10 => ?_) (fun h10 => ?_)
 ·skip
  refine .seq <| .region <| .cons (.asg rfl rfl) <| .nil <| ks_n <| .ret <| ks_r ?_
  refine kf_ret rfl ?_ nobox
  exact leafB (eqF_len (by omega)).symm
 ·skip
  refine .skip <| ks_n <| .seq <| .seq <| .region <| .cons (.asg rfl rfl) <| .nil <| ks_n <| .block ?_
  refine .loopK (fun m σ => (∃ i : Nat, m = xs.length - i ∧ (i ≤ xs.length) ∧ (eqF (fun x y : Int => decide (x = y)) xs ys = eqF (fun x y : Int => decide (x = y)) (xs.drop i) (ys.drop i)) ∧ σ = [(.t 0, .v (.o (vD (dIs xs)))), (.t 1, .v (.o (vD (dIs ys)))), (.t 4, .v (.o (bo1 false))), (.t 5, .v (.o (nat1 (i : Nat))))])) [] ⟨0, rfl, by omega, by simp, rfl⟩ ⟨ks rfl .dt, ks rfl .dt, ks rfl .dt, ks rfl .dt, trivial⟩ ?_
  rintro m σ ⟨i, hm0, hi, hF, rfl⟩
  refine .seq <| .seq <| .region <| .cons (.mv rfl rfl) <| .cons (.mv rfl rfl) <| .cons (.ln 3 1 8 rfl rfl rfl) <| .cons (.ls rfl rfl rfl) <| .nil <| ks_n ?_
  refine .cD rfl (fun h14 => ?_) (fun h14 => ?_)
  ·skip
   obtain ⟨x, hx1⟩ : ∃ x, xs[i]? = some x := ⟨_, List.getElem?_eq_getElem (by omega)⟩
   obtain ⟨y, hy1⟩ : ∃ x, ys[i]? = some x := ⟨_, List.getElem?_eq_getElem (by omega)⟩
   refine .skip <| ks_n <| .seq <| .block <| .seq ?_
   refine ACode.drawK (by kernel_rfl) (by kernel_rfl) ?_
   refine .cons (.mv rfl rfl) <| .cons (.mv rfl rfl) <| .cons (.xL 3 1 8 rfl rfl rfl rfl rfl (map_at hx1)) ?_
   refine .cons (.l1 1 rfl rfl) <| .cons (.mv rfl rfl) <| .cons (.mv rfl rfl) <| .cons (.xL 3 1 8 rfl rfl rfl rfl rfl (map_at hy1)) ?_
   refine .cons (.l1 1 rfl rfl) <| .cons (.ne rfl rfl rfl) ?_
   refine .nil ⟨by kernel_rfl, ?_⟩
   refine ks_n ?_
   refine .cND rfl (fun h25 => ?_) (fun h25 => ?_)
   ·skip
    have g : decide (x = y) = false := by first | assumption | exact decide_eq_false (by assumption) | (simp; omega)
    refine .seq <| .region <| .cons (.asg rfl rfl) <| .nil <| ks_n <| .ret <| kb_r <| ks_r <| kl_r <| kb_r <| ks_r ?_
    refine kf_ret rfl ?_ nobox
    exact leafB (by rw [hF, eqF_drop hx1 hy1, g]; rfl)
   ·skip
    have g : decide (x = y) = true := by first | assumption | exact decide_eq_true (by assumption) | (simp; omega)
    refine .skip <| kb_n <| ks_n <| .region <| .cons (.mv rfl rfl) <| .cons (.pl rfl rfl rfl) <| .cons (.asg rfl rfl) <| .nil ?_
    refine kl_k [] ⟨i + 1, rfl, by omega, by rw [hF, eqF_drop hx1 hy1, g, Bool.true_and], rfl⟩ ⟨ks rfl .dt, ks rfl .dt, ks rfl .dt, ks rfl .dt, trivial⟩
  ·skip
   refine .exit <| ks_e <| kl_e <| kb_hit <| ks_n <| .seq <| .region <| .cons (.asg rfl rfl) <| .nil <| ks_n <| .ret ?_
   refine kf_ret rfl ?_ nobox
   exact leafB (by rw [hF, show i = xs.length by omega, eqF_end (by omega)])

theorem eqInts_fn (xs ys : List Int) (hx : xs.length ≤ 1099511627776) : Fn Tryz.prog 17 [] [vD (dIs xs), vD (dIs ys)] (.o (bo1 (decide (xs = ys)))) [] := by
  rw [← eqF_dec]; exact eqInts_f xs ys hx

theorem eqAff_fn (x y : Aff) (hx : x.1.length ≤ 1099511627776) : Fn Tryz.prog 242 [] [ad (rA x), ad (rA y)] (.o (bo1 (decide (x = y)))) [] := by
 refine Fn.code0 Tryz.func242 rfl rfl rfl rfl ?_
 refine .seq <| .region <| .cons (St1.boxP rfl rfl rfl rfl rfl rfl) <| .cons (St1.boxP rfl rfl rfl rfl rfl rfl) <| .cons (.asg rfl rfl) <| .nil <| ks_n <| .seq <| .seq <| .region <| .cons (.fP 0 0 false rfl rfl) <| .cons (.l1 1 rfl rfl) <| .cons (.fP 0 0 false rfl rfl) <| .cons (.l1 1 rfl rfl) <| .cons (.cP [.tmp 6, .tmp 8] rfl rfl rfl rfl (eqInts_fn _ _ hx) rfl) ?_
 refine .cons (.nt rfl rfl) <| .nil <| ks_n ?_
 refine ACode.condT rfl (fun h10 => ?_) (fun h10 => ?_)
 ·try simp only [zs1, zs2, zs3, zs4, zs5, zs6, zs7] at h10
  refine .seq <| .region <| .cons (.asg rfl rfl) <| .nil <| ks_n <| .ret <| ks_r ?_
  refine kf_ret rfl ?_ nobox
  exact leafB (by rw [Bool.eq_iff_iff]; simp [Prod.ext_iff, *])
 ·try simp only [zs1, zs2, zs3, zs4, zs5, zs6, zs7] at h10
  refine .skip <| ks_n <| .seq <| .seq <| .region <| .cons (.fP 1 0 false rfl rfl) <| .cons (.l1 1 rfl rfl) <| .cons (.fP 1 0 false rfl rfl) <| .cons (.l1 1 rfl rfl) <| .cons (.ne rfl rfl rfl) <| .nil <| ks_n ?_
  refine .cND rfl (fun h15 => ?_) (fun h15 => ?_)
  ·skip
   refine .seq <| .region <| .cons (.asg rfl rfl) <| .nil <| ks_n <| .ret <| ks_r ?_
   refine kf_ret rfl ?_ nobox
   exact leafB (by rw [Bool.eq_iff_iff]; simp [Prod.ext_iff, *])
  ·skip
   refine .skip <| ks_n <| .seq <| .region <| .cons (.asg rfl rfl) <| .nil <| ks_n <| .ret ?_
   refine kf_ret rfl ?_ nobox
   exact leafB (by rw [Bool.eq_iff_iff]; simp [Prod.ext_iff, *])

theorem eqAffs_f (xs ys : List Aff) (hx : xs.length ≤ 1099511627776) (hq : ∀ x ∈ xs, x.1.length ≤ 1099511627776) : Fn Tryz.prog 216 [] [vD (dAs xs), vD (dAs ys)] (.o (bo1 (eqF (fun x y : Aff => decide (x = y)) xs ys))) [] := by
 refine Fn.code0 Tryz.func216 rfl rfl rfl rfl ?_
 refine .seq <| .region <| .cons (.asg rfl rfl) <| .nil <| ks_n <| .seq <| .seq <| .region <| .cons (.mv rfl rfl) <| .cons (.ln 91 2 32 rfl rfl rfl) <| .cons (.mv rfl rfl) <| .cons (.ln 91 2 32 rfl rfl rfl) <| .cons (.ne rfl rfl rfl) <| .nil <| ks_n ?_
 refine .cND rfl (fun h10 => ?_) (fun h10 => ?_)
 ·skip
  refine .seq <| .region <| .cons (.asg rfl rfl) <| .nil <| ks_n <| .ret <| ks_r ?_
  refine kf_ret rfl ?_ nobox
  exact leafB (eqF_len (by omega)).symm
 ·skip
  refine .skip <| ks_n <| .seq <| .seq <| .region <| .cons (.asg rfl rfl) <| .nil <| ks_n <| .block ?_
  refine .loopK (fun m σ => (∃ i : Nat, m = xs.length - i ∧ (i ≤ xs.length) ∧ (eqF (fun x y : Aff => decide (x = y)) xs ys = eqF (fun x y : Aff => decide (x = y)) (xs.drop i) (ys.drop i)) ∧ σ = [(.t 0, .v (.o (vD (dAs xs)))), (.t 1, .v (.o (vD (dAs ys)))), (.t 4, .v (.o (bo1 false))), (.t 5, .v (.o (nat1 (i : Nat))))])) [] ⟨0, rfl, by omega, by simp, rfl⟩ ⟨ks rfl .dt, ks rfl .dt, ks rfl .dt, ks rfl .dt, trivial⟩ ?_
  rintro m σ ⟨i, hm0, hi, hF, rfl⟩
  refine .seq <| .seq <| .region <| .cons (.mv rfl rfl) <| .cons (.mv rfl rfl) <| .cons (.ln 91 2 32 rfl rfl rfl) <| .cons (.ls rfl rfl rfl) <| .nil <| ks_n ?_
  refine .cD rfl (fun h14 => ?_) (fun h14 => ?_)
  ·skip
   obtain ⟨x, hx1⟩ : ∃ x, xs[i]? = some x := ⟨_, List.getElem?_eq_getElem (by omega)⟩
   obtain ⟨y, hy1⟩ : ∃ x, ys[i]? = some x := ⟨_, List.getElem?_eq_getElem (by omega)⟩
   refine .skip <| ks_n <| .seq <| .block <| .seq ?_
   refine ACode.drawK (by kernel_rfl) (by kernel_rfl) ?_
   refine .cons (.mv rfl rfl) <| .cons (.mv rfl rfl) <| .cons (.xL 91 2 32 rfl rfl rfl rfl rfl (map_at hx1)) ?_
   refine .cons (.lN 2 rfl rfl rfl) <| .cons (.mv rfl rfl) <| .cons (.mv rfl rfl) <| .cons (.xL 91 2 32 rfl rfl rfl rfl rfl (map_at hy1)) ?_
   refine .cons (.lN 2 rfl rfl rfl) <| .cons (.cP [.tmp 20, .tmp 24] rfl rfl rfl rfl (eqAff_fn x y (hq x (List.mem_of_getElem? hx1))) rfl) ?_
   refine .cons (.nt rfl rfl) ?_
   refine .nil ⟨by kernel_rfl, ?_⟩
   refine ks_n ?_
   refine ACode.condT rfl (fun h26 => ?_) (fun h26 => ?_)
   ·try simp only [zs1, zs2, zs3, zs4, zs5, zs6, zs7] at h26
    have g : decide (x = y) = false := by first | assumption | exact decide_eq_false (by assumption) | (simp; omega)
    refine .seq <| .region <| .cons (.asg rfl rfl) <| .nil <| ks_n <| .ret <| kb_r <| ks_r <| kl_r <| kb_r <| ks_r ?_
    refine kf_ret rfl ?_ nobox
    exact leafB (by rw [hF, eqF_drop hx1 hy1, g]; rfl)
   ·try simp only [zs1, zs2, zs3, zs4, zs5, zs6, zs7] at h26
    have g : decide (x = y) = true := by first | assumption | exact decide_eq_true (by assumption) | (simp; omega)
    refine .skip <| kb_n <| ks_n <| .region <| .cons (.mv rfl rfl) <| .cons (.pl rfl rfl rfl) <| .cons (.asg rfl rfl) <| .nil ?_
    refine kl_k [] ⟨i + 1, rfl, by omega, by rw [hF, eqF_drop hx1 hy1, g, Bool.true_and], rfl⟩ ⟨ks rfl .dt, ks rfl .dt, ks rfl .dt, ks rfl .dt, trivial⟩
  ·skip
   refine .exit <| ks_e <| kl_e <| kb_hit <| ks_n <| .seq <| .region <| .cons (.asg rfl rfl) <| .nil <| ks_n <| .ret ?_
   refine kf_ret rfl ?_ nobox
   exact leafB (by rw [hF, show i = xs.length by omega, eqF_end (by omega)])

theorem eqAffs_fn (xs ys : List Aff) (hx : xs.length ≤ 1099511627776) (hq : ∀ x ∈ xs, x.1.length ≤ 1099511627776) : Fn Tryz.prog 216 [] [vD (dAs xs), vD (dAs ys)] (.o (bo1 (decide (xs = ys)))) [] := by
  rw [← eqF_dec]; exact eqAffs_f xs ys hx hq
theorem eqAcc_fn (a b : Acc) (h : szC a ≤ 1073741824) : Fn Tryz.prog 217 [] [ad (rC a), ad (rC b)] (.o (bo1 (sameC a b))) [] := by
 rw [szC] at h
 have h2 := szAs_len a.2
 refine Fn.code0 Tryz.func217 rfl rfl rfl rfl ?_
 refine .seq <| .region <| .cons (St1.boxP rfl rfl rfl rfl rfl rfl) <| .cons (St1.boxP rfl rfl rfl rfl rfl rfl) <| .cons (.asg rfl rfl) <| .nil <| ks_n <| .seq <| .seq <| .region <| .cons (.fP 0 0 false rfl rfl) <| .cons (.l1 1 rfl rfl) <| .cons (.fP 0 0 false rfl rfl) <| .cons (.l1 1 rfl rfl) <| .cons (St1.neS rfl rfl rfl) <| .nil <| ks_n ?_
 refine ACode.condT rfl (fun h9 => ?_) (fun h9 => ?_)
 ·try simp only [zs1, zs2, zs3, zs4, zs5, zs6, zs7] at h9
  refine .seq <| .region <| .cons (.asg rfl rfl) <| .nil <| ks_n <| .ret <| ks_r ?_
  refine kf_ret rfl ?_ nobox
  exact leafB (by rw [sameC]; first | (simp [*]; done) | grind)
 ·try simp only [zs1, zs2, zs3, zs4, zs5, zs6, zs7] at h9
  refine .skip <| ks_n <| .seq <| .seq <| .region <| .cons (.fP 1 0 false rfl rfl) <| .cons (.l1 1 rfl rfl) <| .cons (.fP 1 0 false rfl rfl) <| .cons (.l1 1 rfl rfl) <| .cons (.cP [.tmp 11, .tmp 13] rfl rfl rfl rfl (eqAffs_fn _ _ (by omega) (fun x hx => by have := szAs_mem hx; omega)) rfl) ?_
  refine .cons (.nt rfl rfl) <| .nil <| ks_n ?_
  refine ACode.condT rfl (fun h15 => ?_) (fun h15 => ?_)
  ·try simp only [zs1, zs2, zs3, zs4, zs5, zs6, zs7] at h15
   refine .seq <| .region <| .cons (.asg rfl rfl) <| .nil <| ks_n <| .ret <| ks_r ?_
   refine kf_ret rfl ?_ nobox
   exact leafB (by rw [sameC]; first | (simp [*]; done) | grind)
  ·try simp only [zs1, zs2, zs3, zs4, zs5, zs6, zs7] at h15
   refine .skip <| ks_n <| .seq <| .region <| .cons (.asg rfl rfl) <| .nil <| ks_n <| .ret ?_
   refine kf_ret rfl ?_ nobox
   exact leafB (by rw [sameC]; first | (simp [*]; done) | grind)

theorem eqExs_one (xs ys : List Ex) (hx : xs.length ≤ 1099511627776) (ih : ∀ x ∈ xs, ∀ y, Fn Tryz.prog 218 [] [ad (rX x), ad (rX y)] (.o (bo1 (sameE x y))) []) : Fn Tryz.prog 243 [] [vD (dEs xs), vD (dEs ys)] (.o (bo1 (eqF sameE xs ys))) [] := by
 refine Fn.code0 Tryz.func243 rfl rfl rfl rfl ?_
 refine .seq <| .region <| .cons (.asg rfl rfl) <| .nil <| ks_n <| .seq <| .seq <| .region <| .cons (.mv rfl rfl) <| .cons (.ln 94 7 112 rfl rfl rfl) <| .cons (.mv rfl rfl) <| .cons (.ln 94 7 112 rfl rfl rfl) <| .cons (.ne rfl rfl rfl) <| .nil <| ks_n ?_
 refine .cND rfl (fun h10 => ?_) (fun h10 => ?_)
 ·skip
  refine .seq <| .region <| .cons (.asg rfl rfl) <| .nil <| ks_n <| .ret <| ks_r ?_
  refine kf_ret rfl ?_ nobox
  exact leafB (eqF_len (by omega)).symm
 ·skip
  refine .skip <| ks_n <| .seq <| .seq <| .region <| .cons (.asg rfl rfl) <| .nil <| ks_n <| .block ?_
  refine .loopK (fun m σ => (∃ i : Nat, m = xs.length - i ∧ (i ≤ xs.length) ∧ (eqF sameE xs ys = eqF sameE (xs.drop i) (ys.drop i)) ∧ σ = [(.t 0, .v (.o (vD (dEs xs)))), (.t 1, .v (.o (vD (dEs ys)))), (.t 4, .v (.o (bo1 false))), (.t 5, .v (.o (nat1 (i : Nat))))])) [] ⟨0, rfl, by omega, by simp, rfl⟩ ⟨ks rfl .dt, ks rfl .dt, ks rfl .dt, ks rfl .dt, trivial⟩ ?_
  rintro m σ ⟨i, hm0, hi, hF, rfl⟩
  refine .seq <| .seq <| .region <| .cons (.mv rfl rfl) <| .cons (.mv rfl rfl) <| .cons (.ln 94 7 112 rfl rfl rfl) <| .cons (.ls rfl rfl rfl) <| .nil <| ks_n ?_
  refine .cD rfl (fun h14 => ?_) (fun h14 => ?_)
  ·skip
   obtain ⟨x, hx1⟩ : ∃ x, xs[i]? = some x := ⟨_, List.getElem?_eq_getElem (by omega)⟩
   obtain ⟨y, hy1⟩ : ∃ x, ys[i]? = some x := ⟨_, List.getElem?_eq_getElem (by omega)⟩
   refine .skip <| ks_n <| .seq <| .block <| .seq ?_
   refine ACode.drawK (by kernel_rfl) (by kernel_rfl) ?_
   refine .cons (.mv rfl rfl) <| .cons (.mv rfl rfl) <| .cons (.xL 94 7 112 rfl rfl rfl rfl rfl (rE_at hx1)) ?_
   refine .cons (.lN 7 rfl rfl rfl) <| .cons (.mv rfl rfl) <| .cons (.mv rfl rfl) <| .cons (.xL 94 7 112 rfl rfl rfl rfl rfl (rE_at hy1)) ?_
   refine .cons (.lN 7 rfl rfl rfl) <| .cons (.cP [.tmp 20, .tmp 24] rfl rfl rfl rfl (ih x (List.mem_of_getElem? hx1) y) rfl) ?_
   refine .cons (.nt rfl rfl) ?_
   refine .nil ⟨by kernel_rfl, ?_⟩
   refine ks_n ?_
   refine ACode.condT rfl (fun h26 => ?_) (fun h26 => ?_)
   ·try simp only [zs1, zs2, zs3, zs4, zs5, zs6, zs7] at h26
    have g : sameE x y = false := by first | assumption | exact decide_eq_false (by assumption) | (simp; omega)
    refine .seq <| .region <| .cons (.asg rfl rfl) <| .nil <| ks_n <| .ret <| kb_r <| ks_r <| kl_r <| kb_r <| ks_r ?_
    refine kf_ret rfl ?_ nobox
    exact leafB (by rw [hF, eqF_drop hx1 hy1, g]; rfl)
   ·try simp only [zs1, zs2, zs3, zs4, zs5, zs6, zs7] at h26
    have g : sameE x y = true := by first | assumption | exact decide_eq_true (by assumption) | (simp; omega)
    refine .skip <| kb_n <| ks_n <| .region <| .cons (.mv rfl rfl) <| .cons (.pl rfl rfl rfl) <| .cons (.asg rfl rfl) <| .nil ?_
    refine kl_k [] ⟨i + 1, rfl, by omega, by rw [hF, eqF_drop hx1 hy1, g, Bool.true_and], rfl⟩ ⟨ks rfl .dt, ks rfl .dt, ks rfl .dt, ks rfl .dt, trivial⟩
  ·skip
   refine .exit <| ks_e <| kl_e <| kb_hit <| ks_n <| .seq <| .region <| .cons (.asg rfl rfl) <| .nil <| ks_n <| .ret ?_
   refine kf_ret rfl ?_ nobox
   exact leafB (by rw [hF, show i = xs.length by omega, eqF_end (by omega)])

theorem eqEx_one (x y : Ex) (h0 : x.i.1.length ≤ 1073741824) (h1 : szC x.r ≤ 1073741824) (h2 : x.ks.length ≤ 1099511627776) (ih : ∀ a ∈ x.ks, ∀ b, Fn Tryz.prog 218 [] [ad (rX a), ad (rX b)] (.o (bo1 (sameE a b))) []) : Fn Tryz.prog 218 [] [ad (rX x), ad (rX y)] (.o (bo1 (sameE x y))) [] := by
 refine Fn.code0 Tryz.func218 rfl rfl rfl rfl ?_
 refine .seq <| .region <| .cons (St1.boxP rfl rfl rfl rfl rfl rfl) <| .cons (St1.boxP rfl rfl rfl rfl rfl rfl) <| .cons (.asg rfl rfl) <| .nil <| ks_n <| .seq <| .seq <| .region <| .cons (.fP 0 0 false rfl rfl) <| .cons (.l1 1 rfl rfl) <| .cons (.fP 0 0 false rfl rfl) <| .cons (.l1 1 rfl rfl) <| .cons (.ne rfl rfl rfl) <| .nil <| ks_n ?_
 refine .cND rfl (fun h9 => ?_) (fun h9 => ?_)
 ·skip
  refine .seq <| .region <| .cons (.asg rfl rfl) <| .nil <| ks_n <| .ret <| ks_r ?_
  refine kf_ret rfl ?_ nobox
  exact leafB (by rw [sameE_eq, ← eqF_sameE]; first | (simp [*]; done) | grind)
 ·skip
  refine .skip <| ks_n <| .seq <| .seq <| .region <| .cons (.fP 1 0 false rfl rfl) <| .cons (.l1 1 rfl rfl) <| .cons (.fP 1 0 false rfl rfl) <| .cons (.l1 1 rfl rfl) <| .cons (.ne rfl rfl rfl) <| .nil <| ks_n ?_
  refine .cND rfl (fun h14 => ?_) (fun h14 => ?_)
  ·skip
   refine .seq <| .region <| .cons (.asg rfl rfl) <| .nil <| ks_n <| .ret <| ks_r ?_
   refine kf_ret rfl ?_ nobox
   exact leafB (by rw [sameE_eq, ← eqF_sameE]; first | (simp [*]; done) | grind)
  ·skip
   refine .skip <| ks_n <| .seq <| .seq <| .region <| .cons (.fP 2 1 true rfl rfl) <| .cons (.lN 2 rfl rfl rfl) <| .cons (.fP 2 1 true rfl rfl) <| .cons (.lN 2 rfl rfl rfl) <| .cons (.cP [.tmp 16, .tmp 18] rfl rfl rfl rfl (eqAff_fn _ _ (by omega)) rfl) ?_
   refine .cons (.nt rfl rfl) <| .nil <| ks_n ?_
   refine ACode.condT rfl (fun h20 => ?_) (fun h20 => ?_)
   ·try simp only [zs1, zs2, zs3, zs4, zs5, zs6, zs7] at h20
    refine .seq <| .region <| .cons (.asg rfl rfl) <| .nil <| ks_n <| .ret <| ks_r ?_
    refine kf_ret rfl ?_ nobox
    exact leafB (by rw [sameE_eq, ← eqF_sameE]; first | (simp [*]; done) | grind)
   ·try simp only [zs1, zs2, zs3, zs4, zs5, zs6, zs7] at h20
    refine .skip <| ks_n <| .seq <| .seq <| .region <| .cons (.fP 4 1 true rfl rfl) <| .cons (.lN 2 rfl rfl rfl) <| .cons (.fP 4 1 true rfl rfl) <| .cons (.lN 2 rfl rfl rfl) <| .cons (.cP [.tmp 22, .tmp 24] rfl rfl rfl rfl (eqAcc_fn _ _ h1) rfl) ?_
    refine .cons (.nt rfl rfl) <| .nil <| ks_n ?_
    refine ACode.condT rfl (fun h26 => ?_) (fun h26 => ?_)
    ·try simp only [zs1, zs2, zs3, zs4, zs5, zs6, zs7] at h26
     refine .seq <| .region <| .cons (.asg rfl rfl) <| .nil <| ks_n <| .ret <| ks_r ?_
     refine kf_ret rfl ?_ nobox
     exact leafB (by rw [sameE_eq, ← eqF_sameE]; first | (simp [*]; done) | grind)
    ·try simp only [zs1, zs2, zs3, zs4, zs5, zs6, zs7] at h26
     refine .skip <| ks_n <| .seq <| .seq <| .region <| .cons (.fP 6 0 false rfl rfl) <| .cons (.l1 1 rfl rfl) <| .cons (.fP 6 0 false rfl rfl) <| .cons (.l1 1 rfl rfl) <| .cons (.cP [.tmp 28, .tmp 30] rfl rfl rfl rfl (eqExs_one x.ks y.ks h2 ih) rfl) ?_
     refine .cons (.nt rfl rfl) <| .nil <| ks_n ?_
     refine ACode.condT rfl (fun h32 => ?_) (fun h32 => ?_)
     ·try simp only [zs1, zs2, zs3, zs4, zs5, zs6, zs7] at h32
      refine .seq <| .region <| .cons (.asg rfl rfl) <| .nil <| ks_n <| .ret <| ks_r ?_
      refine kf_ret rfl ?_ nobox
      exact leafB (by rw [sameE_eq, ← eqF_sameE]; first | (simp [*]; done) | grind)
     ·try simp only [zs1, zs2, zs3, zs4, zs5, zs6, zs7] at h32
      refine .skip <| ks_n <| .seq <| .region <| .cons (.asg rfl rfl) <| .nil <| ks_n <| .ret ?_
      refine kf_ret rfl ?_ nobox
      exact leafB (by rw [sameE_eq, ← eqF_sameE]; first | (simp [*]; done) | grind)

theorem eqEx_fn : ∀ x y : Ex, szE x ≤ 1073741824 → Fn Tryz.prog 218 [] [ad (rX x), ad (rX y)] (.o (bo1 (sameE x y))) [] := by
  intro x
  induction x using Ex.rec' with
  | h x ih =>
    intro y hs
    rw [szE_eq] at hs
    exact eqEx_one x y (by omega) (by omega) (by omega) fun a ha b => ih a ha b (by have := szEs_mem ha; omega)

theorem eqStm_fn (s t : Stm) (h : szS s ≤ 1073741824) : Fn Tryz.prog 171 [] [ad (rS s), ad (rS t)] (.o (bo1 (sameS s t))) [] := by
 rw [szS] at h
 refine Fn.code0 Tryz.func171 rfl rfl rfl rfl ?_
 refine .seq <| .region <| .cons (St1.boxP rfl rfl rfl rfl rfl rfl) <| .cons (St1.boxP rfl rfl rfl rfl rfl rfl) <| .cons (.asg rfl rfl) <| .nil <| ks_n <| .seq <| .seq <| .region <| .cons (.fP 0 1 true rfl rfl) <| .cons (.lN 2 rfl rfl rfl) <| .cons (.fP 0 1 true rfl rfl) <| .cons (.lN 2 rfl rfl rfl) <| .cons (.cP [.tmp 6, .tmp 8] rfl rfl rfl rfl (eqAcc_fn _ _ (by omega)) rfl) ?_
 refine .cons (.nt rfl rfl) <| .nil <| ks_n ?_
 refine ACode.condT rfl (fun h10 => ?_) (fun h10 => ?_)
 ·try simp only [zs1, zs2, zs3, zs4, zs5, zs6, zs7] at h10
  refine .seq <| .region <| .cons (.asg rfl rfl) <| .nil <| ks_n <| .ret <| ks_r ?_
  refine kf_ret rfl ?_ nobox
  exact leafB (by rw [sameS]; first | (simp [*]; done) | grind)
 ·try simp only [zs1, zs2, zs3, zs4, zs5, zs6, zs7] at h10
  refine .skip <| ks_n <| .seq <| .seq <| .region <| .cons (.fP 2 6 true rfl rfl) <| .cons (.lN 7 rfl rfl rfl) <| .cons (.fP 2 6 true rfl rfl) <| .cons (.lN 7 rfl rfl rfl) <| .cons (.cP [.tmp 12, .tmp 14] rfl rfl rfl rfl (eqEx_fn _ _ (by omega)) rfl) ?_
  refine .cons (.nt rfl rfl) <| .nil <| ks_n ?_
  refine ACode.condT rfl (fun h16 => ?_) (fun h16 => ?_)
  ·try simp only [zs1, zs2, zs3, zs4, zs5, zs6, zs7] at h16
   refine .seq <| .region <| .cons (.asg rfl rfl) <| .nil <| ks_n <| .ret <| ks_r ?_
   refine kf_ret rfl ?_ nobox
   exact leafB (by rw [sameS]; first | (simp [*]; done) | grind)
  ·try simp only [zs1, zs2, zs3, zs4, zs5, zs6, zs7] at h16
   refine .skip <| ks_n <| .seq <| .region <| .cons (.asg rfl rfl) <| .nil <| ks_n <| .ret ?_
   refine kf_ret rfl ?_ nobox
   exact leafB (by rw [sameS]; first | (simp [*]; done) | grind)
/-- Sizes of loops. -/
def szL (l : Lp) : Nat := szAs l.1 + szAs l.2
def szLs (l : List Lp) : Nat := l.length + (l.map szL).sum
theorem szLs_mem {l : List Lp} {a : Lp} (h : a ∈ l) : l.length + szL a ≤ szLs l := by
  rw [szLs]
  have : ∀ (l : List Nat) (n : Nat), n ∈ l → n ≤ l.sum := by
    intro l
    induction l with
    | nil => intro n h; cases h
    | cons m l ih =>
      intro n h
      rw [List.sum_cons]
      rcases List.mem_cons.1 h with rfl | h
      · omega
      · have := ih n h; omega
  have := this _ _ (List.mem_map_of_mem (f := szL) h)
  omega
theorem szLs_len (l : List Lp) : l.length ≤ szLs l := Nat.le_add_right _ _

theorem szLoop_fn {x : Lp} {l : Int} (hl : 0 ≤ l ∧ l ≤ 1048576) (ho : okAs x.1 ∧ okAs x.2) : Fn Tryz.prog 161 [] [ad (rL x), nat1 l] (.o (nat1 (subZ l (szL x)))) [] := by
  have hsz : szL x = szAs x.1 + szAs x.2 := rfl
  have hb1 := subZ_bd (n := szAs x.1) hl
  obtain ⟨⟨o1, o2⟩, o3, o4⟩ := ho
  refine Fn.code0 Tryz.func161 rfl rfl rfl rfl ?_
  refine .seq <| .region <| .cons (St1.boxP rfl rfl rfl rfl rfl rfl) <| .cons (.asg rfl rfl) <| .nil <| ks_n <| .seq <| .region <| .cons (.fP 0 0 false rfl rfl) <| .cons (.l1 1 rfl rfl) <| .cons (.mv rfl rfl) <| .cons (.cP [.tmp 6, .tmp 7] rfl rfl rfl rfl (szAffs_fn x.1 hl o1 o2) rfl) ?_
  refine .cons (.asg rfl rfl) <| .nil <| ks_n <| .seq <| .seq <| .region <| .cons (.mv rfl rfl) <| .cons (.ls rfl rfl rfl) <| .nil <| ks_n ?_
  refine .cD rfl (fun h10 => ?_) (fun h10 => ?_)
  · skip
    refine .seq <| .region <| .cons (.asg rfl rfl) <| .nil <| ks_n <| .ret <| ks_r ?_
    refine kf_ret rfl ?_ nobox
    exact leafI (subZ_no (by have := subZ_neg h10 hl.1; omega)).symm
  · skip
    refine .skip <| ks_n <| .seq ?_
    have hp1 := subZ_pos h10
    have hb2 := subZ_bd (n := szAs x.2) (l := subZ l (szAs x.1)) (by omega)
    have e1 := subZ_yes hp1
    refine .region <| .cons (.fP 1 0 false rfl rfl) <| .cons (.l1 1 rfl rfl) <| .cons (.mv rfl rfl) <| .cons (.cP [.tmp 12, .tmp 13] rfl rfl rfl rfl (szAffs_fn x.2 (l := subZ l (szAs x.1)) (by omega) o3 o4) rfl) ?_
    refine .cons (.asg rfl rfl) <| .nil <| ks_n <| .seq <| .seq <| .region <| .cons (.mv rfl rfl) <| .cons (.ls rfl rfl rfl) <| .nil <| ks_n ?_
    refine .cD rfl (fun h16 => ?_) (fun h16 => ?_)
    · skip
      refine .seq <| .region <| .cons (.asg rfl rfl) <| .nil <| ks_n <| .ret <| ks_r ?_
      refine kf_ret rfl ?_ nobox
      exact leafI (subZ_no (by have h6 := subZ_neg h16 (by omega); omega)).symm
    · skip
      refine .skip <| ks_n <| .seq <| .region <| .cons (.mv rfl rfl) <| .cons (.asg rfl rfl) <| .nil <| ks_n <| .ret ?_
      refine kf_ret rfl ?_ nobox
      exact leafI (by have h6 := subZ_pos h16; rw [subZ_yes h6, e1, subZ_yes (l := l) (n := szL x) (by omega)]; omega)

theorem szLoops_fn (xs : List Lp) {l : Int} (hl : 0 ≤ l ∧ l ≤ 1048576) (hx : xs.length ≤ 17592186044416) (hq : ∀ x ∈ xs, okAs x.1 ∧ okAs x.2) : Fn Tryz.prog 114 [] [vD (dLs xs), nat1 l] (.o (nat1 (subZ l (szLs xs)))) [] := by
  refine Fn.code0 Tryz.func114 rfl rfl rfl rfl ?_
  refine .seq <| .region <| .cons (.asg rfl rfl) <| .nil <| ks_n <| .seq <| .region <| .cons (.mv rfl rfl) <| .cons (.mv rfl rfl) <| .cons (.ln 197 2 48 rfl rfl rfl) <| .cons (.sb rfl rfl rfl) <| .cons (.asg rfl rfl) <| .nil <| ks_n <| .seq <| .seq <| .region <| .cons (.mv rfl rfl) <| .cons (.ls rfl rfl rfl) <| .nil <| ks_n ?_
  refine .cD rfl (fun h11 => ?_) (fun h11 => ?_)
  · skip
    refine .seq <| .region <| .cons (.asg rfl rfl) <| .nil <| ks_n <| .ret <| ks_r ?_
    refine kf_ret rfl ?_ nobox
    exact leafI (subZ_no (by rw [szLs]; omega)).symm
  · skip
    refine .skip <| ks_n <| .seq <| .seq <| .region <| .cons (.asg rfl rfl) <| .nil <| ks_n <| .block ?_
    refine .loopK (fun m σ => (∃ i : Nat, m = xs.length - i ∧ (i ≤ xs.length) ∧ (((xs.length + ((xs.take i).map szL).sum : Nat) : Int) ≤ l) ∧ σ = [(.t 0, .v (.o (vD (dLs xs)))), (.t 1, .v (.o (nat1 (l - (xs.length + ((xs.take i).map szL).sum : Nat))))), (.t 4, .v (.o (nat1 0))), (.t 5, .v (.o (nat1 (i : Nat))))])) [] ⟨0, rfl, by omega, by simp; omega, rfl⟩ ⟨ks rfl .dt, ks rfl (.dt (vI (by first | (simp; done) | (rw [hT, subZ_yes (by omega)]; omega)))), ks rfl .dt, ks rfl .dt, trivial⟩ ?_
    rintro m σ ⟨i, hm0, hi, hF, rfl⟩
    refine .seq <| .seq <| .region <| .cons (.mv rfl rfl) <| .cons (.mv rfl rfl) <| .cons (.ln 197 2 48 rfl rfl rfl) <| .cons (.ls rfl rfl rfl) <| .nil <| ks_n ?_
    refine .cD rfl (fun h15 => ?_) (fun h15 => ?_)
    · skip
      obtain ⟨x, hx1⟩ : ∃ x, xs[i]? = some x := ⟨_, List.getElem?_eq_getElem (by omega)⟩
      have hT := sum_take szL hx1
      refine .skip <| ks_n <| .seq <| .block <| .seq <| .region <| .cons (.mv rfl rfl) <| .cons (.mv rfl rfl) <| .cons (.xL 197 2 48 rfl rfl rfl rfl rfl) ?_
      refine .cons (.lN 2 rfl rfl rfl) <| .cons (.mv rfl rfl) <| .cons (.cP [.tmp 21, .tmp 22] rfl rfl rfl rfl (szLoop_fn (l := l - (xs.length + ((xs.take i).map szL).sum : Nat)) (by omega) (hq x (List.mem_of_getElem? hx1))) rfl) ?_
      refine .cons (.asg rfl rfl) <| .nil <| ks_n <| .seq <| .region <| .cons (.mv rfl rfl) <| .cons (.ls rfl rfl rfl) <| .nil <| ks_n ?_
      refine .cD rfl (fun h25 => ?_) (fun h25 => ?_)
      · skip
        refine .seq <| .region <| .cons (.asg rfl rfl) <| .nil <| ks_n <| .ret <| kb_r <| ks_r <| kl_r <| kb_r <| ks_r ?_
        refine kf_ret rfl ?_ nobox
        exact leafI (subZ_no (by have h1 := subZ_neg h25 (by omega); have h2 := sum_take_le szL (l := xs) (i := i + 1); rw [szLs]; omega)).symm
      · skip
        have hP := subZ_pos h25
        refine .skip <| kb_n <| ks_n <| .region <| .cons (.mv rfl rfl) <| .cons (.pl rfl rfl rfl) <| .cons (.asg rfl rfl) <| .nil ?_
        refine kl_k [] ⟨i + 1, rfl, by omega, by rw [hT]; have := subZ_pos h25; omega, rfl⟩ ⟨ks rfl .dt, ks rfl (.dt (vI (by first | (simp; done) | (rw [hT, subZ_yes (by omega)]; omega)))), ks rfl .dt, ks rfl .dt, trivial⟩
    · skip
      have hall : xs.take i = xs := List.take_of_length_le (by omega)
      refine .exit <| ks_e <| kl_e <| kb_hit <| ks_n <| .seq <| .region <| .cons (.mv rfl rfl) <| .cons (.asg rfl rfl) <| .nil <| ks_n <| .ret ?_
      refine kf_ret rfl ?_ nobox
      exact leafI (by rw [subZ_yes (by rw [szLs, ← hall]; rw [hall]; rw [hall] at hF; omega), szLs, hall])

theorem eqLoop_fn (x y : Lp) (h : szL x ≤ 1073741824) : Fn Tryz.prog 170 [] [ad (rL x), ad (rL y)] (.o (bo1 (decide (x = y)))) [] := by
 have hsz : szL x = szAs x.1 + szAs x.2 := rfl
 have h1 := szAs_len x.1
 have h2 := szAs_len x.2
 refine Fn.code0 Tryz.func170 rfl rfl rfl rfl ?_
 refine .seq <| .region <| .cons (St1.boxP rfl rfl rfl rfl rfl rfl) <| .cons (St1.boxP rfl rfl rfl rfl rfl rfl) <| .cons (.asg rfl rfl) <| .nil <| ks_n <| .seq <| .seq <| .region <| .cons (.fP 0 0 false rfl rfl) <| .cons (.l1 1 rfl rfl) <| .cons (.fP 0 0 false rfl rfl) <| .cons (.l1 1 rfl rfl) <| .cons (.cP [.tmp 6, .tmp 8] rfl rfl rfl rfl (eqAffs_fn _ _ (by omega) (fun a ha => by have := szAs_mem ha; omega)) rfl) ?_
 refine .cons (.nt rfl rfl) <| .nil <| ks_n ?_
 refine ACode.condT rfl (fun h10 => ?_) (fun h10 => ?_)
 ·try simp only [zs1, zs2, zs3, zs4, zs5, zs6, zs7] at h10
  refine .seq <| .region <| .cons (.asg rfl rfl) <| .nil <| ks_n <| .ret <| ks_r ?_
  refine kf_ret rfl ?_ nobox
  exact leafB (by rw [Bool.eq_iff_iff]; simp [Prod.ext_iff, *])
 ·try simp only [zs1, zs2, zs3, zs4, zs5, zs6, zs7] at h10
  refine .skip <| ks_n <| .seq <| .seq <| .region <| .cons (.fP 1 0 false rfl rfl) <| .cons (.l1 1 rfl rfl) <| .cons (.fP 1 0 false rfl rfl) <| .cons (.l1 1 rfl rfl) <| .cons (.cP [.tmp 12, .tmp 14] rfl rfl rfl rfl (eqAffs_fn _ _ (by omega) (fun a ha => by have := szAs_mem ha; omega)) rfl) ?_
  refine .cons (.nt rfl rfl) <| .nil <| ks_n ?_
  refine ACode.condT rfl (fun h16 => ?_) (fun h16 => ?_)
  ·try simp only [zs1, zs2, zs3, zs4, zs5, zs6, zs7] at h16
   refine .seq <| .region <| .cons (.asg rfl rfl) <| .nil <| ks_n <| .ret <| ks_r ?_
   refine kf_ret rfl ?_ nobox
   exact leafB (by rw [Bool.eq_iff_iff]; simp [Prod.ext_iff, *])
  ·try simp only [zs1, zs2, zs3, zs4, zs5, zs6, zs7] at h16
   refine .skip <| ks_n <| .seq <| .region <| .cons (.asg rfl rfl) <| .nil <| ks_n <| .ret ?_
   refine kf_ret rfl ?_ nobox
   exact leafB (by rw [Bool.eq_iff_iff]; simp [Prod.ext_iff, *])

theorem eqLoops_f (xs ys : List Lp) (hx : xs.length ≤ 1099511627776) (hq : ∀ x ∈ xs, szL x ≤ 1073741824) : Fn Tryz.prog 127 [] [vD (dLs xs), vD (dLs ys)] (.o (bo1 (eqF (fun x y : Lp => decide (x = y)) xs ys))) [] := by
 refine Fn.code0 Tryz.func127 rfl rfl rfl rfl ?_
 refine .seq <| .region <| .cons (.asg rfl rfl) <| .nil <| ks_n <| .seq <| .seq <| .region <| .cons (.mv rfl rfl) <| .cons (.ln 172 2 48 rfl rfl rfl) <| .cons (.mv rfl rfl) <| .cons (.ln 172 2 48 rfl rfl rfl) <| .cons (.ne rfl rfl rfl) <| .nil <| ks_n ?_
 refine .cND rfl (fun h10 => ?_) (fun h10 => ?_)
 ·skip
  refine .seq <| .region <| .cons (.asg rfl rfl) <| .nil <| ks_n <| .ret <| ks_r ?_
  refine kf_ret rfl ?_ nobox
  exact leafB (eqF_len (by omega)).symm
 ·skip
  refine .skip <| ks_n <| .seq <| .seq <| .region <| .cons (.asg rfl rfl) <| .nil <| ks_n <| .block ?_
  refine .loopK (fun m σ => (∃ i : Nat, m = xs.length - i ∧ (i ≤ xs.length) ∧ (eqF (fun x y : Lp => decide (x = y)) xs ys = eqF (fun x y : Lp => decide (x = y)) (xs.drop i) (ys.drop i)) ∧ σ = [(.t 0, .v (.o (vD (dLs xs)))), (.t 1, .v (.o (vD (dLs ys)))), (.t 4, .v (.o (bo1 false))), (.t 5, .v (.o (nat1 (i : Nat))))])) [] ⟨0, rfl, by omega, by simp, rfl⟩ ⟨ks rfl .dt, ks rfl .dt, ks rfl .dt, ks rfl .dt, trivial⟩ ?_
  rintro m σ ⟨i, hm0, hi, hF, rfl⟩
  refine .seq <| .seq <| .region <| .cons (.mv rfl rfl) <| .cons (.mv rfl rfl) <| .cons (.ln 172 2 48 rfl rfl rfl) <| .cons (.ls rfl rfl rfl) <| .nil <| ks_n ?_
  refine .cD rfl (fun h14 => ?_) (fun h14 => ?_)
  ·skip
   obtain ⟨x, hx1⟩ : ∃ x, xs[i]? = some x := ⟨_, List.getElem?_eq_getElem (by omega)⟩
   obtain ⟨y, hy1⟩ : ∃ x, ys[i]? = some x := ⟨_, List.getElem?_eq_getElem (by omega)⟩
   refine .skip <| ks_n <| .seq <| .block <| .seq ?_
   refine ACode.drawK (by kernel_rfl) (by kernel_rfl) ?_
   refine .cons (.mv rfl rfl) <| .cons (.mv rfl rfl) <| .cons (.xL 172 2 48 rfl rfl rfl rfl rfl (map_at hx1)) ?_
   refine .cons (.lN 2 rfl rfl rfl) <| .cons (.mv rfl rfl) <| .cons (.mv rfl rfl) <| .cons (.xL 172 2 48 rfl rfl rfl rfl rfl (map_at hy1)) ?_
   refine .cons (.lN 2 rfl rfl rfl) <| .cons (.cP [.tmp 20, .tmp 24] rfl rfl rfl rfl (eqLoop_fn x y (hq x (List.mem_of_getElem? hx1))) rfl) ?_
   refine .cons (.nt rfl rfl) ?_
   refine .nil ⟨by kernel_rfl, ?_⟩
   refine ks_n ?_
   refine ACode.condT rfl (fun h26 => ?_) (fun h26 => ?_)
   ·try simp only [zs1, zs2, zs3, zs4, zs5, zs6, zs7] at h26
    have g : decide (x = y) = false := by first | assumption | exact decide_eq_false (by assumption) | (simp; omega)
    refine .seq <| .region <| .cons (.asg rfl rfl) <| .nil <| ks_n <| .ret <| kb_r <| ks_r <| kl_r <| kb_r <| ks_r ?_
    refine kf_ret rfl ?_ nobox
    exact leafB (by rw [hF, eqF_drop hx1 hy1, g]; rfl)
   ·try simp only [zs1, zs2, zs3, zs4, zs5, zs6, zs7] at h26
    have g : decide (x = y) = true := by first | assumption | exact decide_eq_true (by assumption) | (simp; omega)
    refine .skip <| kb_n <| ks_n <| .region <| .cons (.mv rfl rfl) <| .cons (.pl rfl rfl rfl) <| .cons (.asg rfl rfl) <| .nil ?_
    refine kl_k [] ⟨i + 1, rfl, by omega, by rw [hF, eqF_drop hx1 hy1, g, Bool.true_and], rfl⟩ ⟨ks rfl .dt, ks rfl .dt, ks rfl .dt, ks rfl .dt, trivial⟩
  ·skip
   refine .exit <| ks_e <| kl_e <| kb_hit <| ks_n <| .seq <| .region <| .cons (.asg rfl rfl) <| .nil <| ks_n <| .ret ?_
   refine kf_ret rfl ?_ nobox
   exact leafB (by rw [hF, show i = xs.length by omega, eqF_end (by omega)])

theorem eqLoops_fn (xs ys : List Lp) (h : szLs xs ≤ 1073741824) : Fn Tryz.prog 127 [] [vD (dLs xs), vD (dLs ys)] (.o (bo1 (decide (xs = ys)))) [] := by
  have hl := szLs_len xs
  rw [← eqF_dec]; exact eqLoops_f xs ys (by omega) fun x hx => by have := szLs_mem hx; omega
/-- Sizes of lists of data, of programs. -/
def szO {α : Type} (f : α → Nat) (l : List α) : Nat := l.length + (l.map f).sum
theorem mem_sum : ∀ (l : List Nat) (n : Nat), n ∈ l → n ≤ l.sum := by
  intro l
  induction l with
  | nil => intro n h; cases h
  | cons m l ih =>
    intro n h
    rw [List.sum_cons]
    rcases List.mem_cons.1 h with rfl | h
    · omega
    · have := ih n h; omega
theorem szO_mem {α : Type} {f : α → Nat} {l : List α} {a : α} (h : a ∈ l) : l.length + f a ≤ szO f l := by
  rw [szO]
  have := mem_sum _ _ (List.mem_map_of_mem (f := f) h)
  omega
theorem szO_len {α : Type} {f : α → Nat} (l : List α) : l.length ≤ szO f l := Nat.le_add_right _ _
def szR (a : Arr) : Nat := a.1.size + a.2.length
def szPt (p : Prt) : Nat := szLs p.1 + szO szS p.2
def szG (g : Prg) : Nat := szO szR g.1 + szO szPt g.2
def sameP (x y : Prt) : Bool := decide (x.1 = y.1) && eqF sameS x.2 y.2
def sameG (x y : Prg) : Bool := decide (x.1 = y.1) && eqF sameP x.2 y.2
theorem eqF_refl {α : Type} {p : α → α → Bool} (hp : ∀ x, p x x = true) : ∀ l : List α, eqF p l l = true
  | [] => rfl
  | x :: l => by rw [eqF, hp x, eqF_refl hp l]; rfl
theorem sameP_refl (x : Prt) : sameP x x = true := by rw [sameP, eqF_refl (fun s => sameS_iff.2 rfl)]; simp
theorem sameG_refl (x : Prg) : sameG x x = true := by rw [sameG, eqF_refl sameP_refl]; simp

theorem szArr_fn {x : Arr} {l : Int} (hl : 0 ≤ l ∧ l ≤ 1048576) (ho : okArr x) : Fn Tryz.prog 72 [] [ad (rR x), nat1 l] (.o (nat1 (subZ l (szR x)))) [] := by
  have hsz : szR x = x.1.size + x.2.length := rfl
  have ho1 := ho.1
  have ho2 := ho.2
  refine Fn.code0 Tryz.func72 rfl rfl rfl rfl ?_
  refine .seq <| .region <| .cons (St1.boxP rfl rfl rfl rfl rfl rfl) <| .cons (.asg rfl rfl) <| .nil <| ks_n <| .seq <| .region <| .cons (.mv rfl rfl) <| .cons (.fP 0 0 false rfl rfl) <| .cons (.l1 1 rfl rfl) <| .cons (St1.lenS rfl rfl rfl rfl rfl (by kernel_rfl) rfl) ?_
  refine .cons (.sb rfl rfl rfl) <| .cons (.asg rfl rfl) <| .nil <| ks_n <| .seq <| .seq <| .region <| .cons (.mv rfl rfl) <| .cons (.ls rfl rfl rfl) <| .nil <| ks_n ?_
  refine .cD rfl (fun h11 => ?_) (fun h11 => ?_)
  · skip
    refine .seq <| .region <| .cons (.asg rfl rfl) <| .nil <| ks_n <| .ret <| ks_r ?_
    refine kf_ret rfl ?_ nobox
    exact leafI (subZ_no (by omega)).symm
  · skip
    refine .skip <| ks_n <| .seq ?_
    have hb := subZ_bd (n := x.2.length) (l := l - (x.1.size : Nat)) (by omega)
    refine .region <| .cons (.fP 1 0 false rfl rfl) <| .cons (.l1 1 rfl rfl) <| .cons (.mv rfl rfl) <| .cons (.cP [.tmp 13, .tmp 14] rfl rfl rfl rfl (szInts_fn x.2 (l := l - (x.1.size : Nat)) (by omega) ho.2) rfl) ?_
    refine .cons (.asg rfl rfl) <| .nil <| ks_n <| .seq <| .seq <| .region <| .cons (.mv rfl rfl) <| .cons (.ls rfl rfl rfl) <| .nil <| ks_n ?_
    refine .cD rfl (fun h17 => ?_) (fun h17 => ?_)
    · skip
      refine .seq <| .region <| .cons (.asg rfl rfl) <| .nil <| ks_n <| .ret <| ks_r ?_
      refine kf_ret rfl ?_ nobox
      exact leafI (subZ_no (by have := subZ_neg h17 (by omega); omega)).symm
    · skip
      refine .skip <| ks_n <| .seq <| .region <| .cons (.mv rfl rfl) <| .cons (.asg rfl rfl) <| .nil <| ks_n <| .ret ?_
      refine kf_ret rfl ?_ nobox
      exact leafI (by have := subZ_pos h17; rw [subZ_yes this, subZ_yes (by omega)]; omega)

theorem szArrs_fn (xs : List Arr) {l : Int} (hl : 0 ≤ l ∧ l ≤ 1048576) (hx : xs.length ≤ 17592186044416) (hq : ∀ x ∈ xs, okArr x) : Fn Tryz.prog 32 [] [vD (dRs xs), nat1 l] (.o (nat1 (subZ l (szO szR xs)))) [] := by
  refine Fn.code0 Tryz.func32 rfl rfl rfl rfl ?_
  refine .seq <| .region <| .cons (.asg rfl rfl) <| .nil <| ks_n <| .seq <| .region <| .cons (.mv rfl rfl) <| .cons (.mv rfl rfl) <| .cons (.ln 109 2 40 rfl rfl rfl) <| .cons (.sb rfl rfl rfl) <| .cons (.asg rfl rfl) <| .nil <| ks_n <| .seq <| .seq <| .region <| .cons (.mv rfl rfl) <| .cons (.ls rfl rfl rfl) <| .nil <| ks_n ?_
  refine .cD rfl (fun h11 => ?_) (fun h11 => ?_)
  · skip
    refine .seq <| .region <| .cons (.asg rfl rfl) <| .nil <| ks_n <| .ret <| ks_r ?_
    refine kf_ret rfl ?_ nobox
    exact leafI (subZ_no (by rw [szO]; omega)).symm
  · skip
    refine .skip <| ks_n <| .seq <| .seq <| .region <| .cons (.asg rfl rfl) <| .nil <| ks_n <| .block ?_
    refine .loopK (fun m σ => (∃ i : Nat, m = xs.length - i ∧ (i ≤ xs.length) ∧ (((xs.length + ((xs.take i).map szR).sum : Nat) : Int) ≤ l) ∧ σ = [(.t 0, .v (.o (vD (dRs xs)))), (.t 1, .v (.o (nat1 (l - (xs.length + ((xs.take i).map szR).sum : Nat))))), (.t 4, .v (.o (nat1 0))), (.t 5, .v (.o (nat1 (i : Nat))))])) [] ⟨0, rfl, by omega, by simp; omega, rfl⟩ ⟨ks rfl .dt, ks rfl (.dt (vI (by first | (simp; done) | (rw [hT, subZ_yes (by omega)]; omega)))), ks rfl .dt, ks rfl .dt, trivial⟩ ?_
    rintro m σ ⟨i, hm0, hi, hF, rfl⟩
    refine .seq <| .seq <| .region <| .cons (.mv rfl rfl) <| .cons (.mv rfl rfl) <| .cons (.ln 109 2 40 rfl rfl rfl) <| .cons (.ls rfl rfl rfl) <| .nil <| ks_n ?_
    refine .cD rfl (fun h15 => ?_) (fun h15 => ?_)
    · skip
      obtain ⟨x, hx1⟩ : ∃ x, xs[i]? = some x := ⟨_, List.getElem?_eq_getElem (by omega)⟩
      have hT := sum_take szR hx1
      refine .skip <| ks_n <| .seq <| .block <| .seq <| .region <| .cons (.mv rfl rfl) <| .cons (.mv rfl rfl) <| .cons (.xL 109 2 40 rfl rfl rfl rfl rfl) ?_
      refine .cons (.lN 2 rfl rfl rfl) <| .cons (.mv rfl rfl) <| .cons (.cP [.tmp 21, .tmp 22] rfl rfl rfl rfl (szArr_fn (l := (l - (xs.length + ((xs.take i).map szR).sum : Nat))) (by omega) (hq x (List.mem_of_getElem? hx1))) rfl) ?_
      refine .cons (.asg rfl rfl) <| .nil <| ks_n <| .seq <| .region <| .cons (.mv rfl rfl) <| .cons (.ls rfl rfl rfl) <| .nil <| ks_n ?_
      refine .cD rfl (fun h25 => ?_) (fun h25 => ?_)
      · skip
        refine .seq <| .region <| .cons (.asg rfl rfl) <| .nil <| ks_n <| .ret <| kb_r <| ks_r <| kl_r <| kb_r <| ks_r ?_
        refine kf_ret rfl ?_ nobox
        exact leafI (subZ_no (by have h1 := subZ_neg h25 (by omega); have h2 := sum_take_le szR (l := xs) (i := i + 1); rw [szO]; omega)).symm
      · skip
        have hP := subZ_pos h25
        refine .skip <| kb_n <| ks_n <| .region <| .cons (.mv rfl rfl) <| .cons (.pl rfl rfl rfl) <| .cons (.asg rfl rfl) <| .nil ?_
        refine kl_k [] ⟨i + 1, rfl, by omega, by rw [hT]; have := subZ_pos h25; omega, rfl⟩ ⟨ks rfl .dt, ks rfl (.dt (vI (by first | (simp; done) | (rw [hT, subZ_yes (by omega)]; omega)))), ks rfl .dt, ks rfl .dt, trivial⟩
    · skip
      have hall : xs.take i = xs := List.take_of_length_le (by omega)
      refine .exit <| ks_e <| kl_e <| kb_hit <| ks_n <| .seq <| .region <| .cons (.mv rfl rfl) <| .cons (.asg rfl rfl) <| .nil <| ks_n <| .ret ?_
      refine kf_ret rfl ?_ nobox
      exact leafI (by rw [subZ_yes (by rw [szO, ← hall]; rw [hall]; rw [hall] at hF; omega), szO, hall])

theorem szStms_fn (xs : List Stm) {l : Int} (hl : 0 ≤ l ∧ l ≤ 1048576) (hx : xs.length ≤ 17592186044416) (hq : ∀ x ∈ xs, okS x) : Fn Tryz.prog 115 [] [vD (dMs xs), nat1 l] (.o (nat1 (subZ l (szO szS xs)))) [] := by
  refine Fn.code0 Tryz.func115 rfl rfl rfl rfl ?_
  refine .seq <| .region <| .cons (.asg rfl rfl) <| .nil <| ks_n <| .seq <| .region <| .cons (.mv rfl rfl) <| .cons (.mv rfl rfl) <| .cons (.ln 206 9 152 rfl rfl rfl) <| .cons (.sb rfl rfl rfl) <| .cons (.asg rfl rfl) <| .nil <| ks_n <| .seq <| .seq <| .region <| .cons (.mv rfl rfl) <| .cons (.ls rfl rfl rfl) <| .nil <| ks_n ?_
  refine .cD rfl (fun h11 => ?_) (fun h11 => ?_)
  · skip
    refine .seq <| .region <| .cons (.asg rfl rfl) <| .nil <| ks_n <| .ret <| ks_r ?_
    refine kf_ret rfl ?_ nobox
    exact leafI (subZ_no (by rw [szO]; omega)).symm
  · skip
    refine .skip <| ks_n <| .seq <| .seq <| .region <| .cons (.asg rfl rfl) <| .nil <| ks_n <| .block ?_
    refine .loopK (fun m σ => (∃ i : Nat, m = xs.length - i ∧ (i ≤ xs.length) ∧ (((xs.length + ((xs.take i).map szS).sum : Nat) : Int) ≤ l) ∧ σ = [(.t 0, .v (.o (vD (dMs xs)))), (.t 1, .v (.o (nat1 (l - (xs.length + ((xs.take i).map szS).sum : Nat))))), (.t 4, .v (.o (nat1 0))), (.t 5, .v (.o (nat1 (i : Nat))))])) [] ⟨0, rfl, by omega, by simp; omega, rfl⟩ ⟨ks rfl .dt, ks rfl (.dt (vI (by first | (simp; done) | (rw [hT, subZ_yes (by omega)]; omega)))), ks rfl .dt, ks rfl .dt, trivial⟩ ?_
    rintro m σ ⟨i, hm0, hi, hF, rfl⟩
    refine .seq <| .seq <| .region <| .cons (.mv rfl rfl) <| .cons (.mv rfl rfl) <| .cons (.ln 206 9 152 rfl rfl rfl) <| .cons (.ls rfl rfl rfl) <| .nil <| ks_n ?_
    refine .cD rfl (fun h15 => ?_) (fun h15 => ?_)
    · skip
      obtain ⟨x, hx1⟩ : ∃ x, xs[i]? = some x := ⟨_, List.getElem?_eq_getElem (by omega)⟩
      have hT := sum_take szS hx1
      refine .skip <| ks_n <| .seq <| .block <| .seq <| .region <| .cons (.mv rfl rfl) <| .cons (.mv rfl rfl) <| .cons (.xL 206 9 152 rfl rfl rfl rfl rfl) ?_
      refine .cons (.lN 9 rfl rfl rfl) <| .cons (.mv rfl rfl) <| .cons (.cP [.tmp 21, .tmp 22] rfl rfl rfl rfl (szStm_fn (l := (l - (xs.length + ((xs.take i).map szS).sum : Nat))) (hq x (List.mem_of_getElem? hx1)) (by omega)) rfl) ?_
      refine .cons (.asg rfl rfl) <| .nil <| ks_n <| .seq <| .region <| .cons (.mv rfl rfl) <| .cons (.ls rfl rfl rfl) <| .nil <| ks_n ?_
      refine .cD rfl (fun h25 => ?_) (fun h25 => ?_)
      · skip
        refine .seq <| .region <| .cons (.asg rfl rfl) <| .nil <| ks_n <| .ret <| kb_r <| ks_r <| kl_r <| kb_r <| ks_r ?_
        refine kf_ret rfl ?_ nobox
        exact leafI (subZ_no (by have h1 := subZ_neg h25 (by omega); have h2 := sum_take_le szS (l := xs) (i := i + 1); rw [szO]; omega)).symm
      · skip
        have hP := subZ_pos h25
        refine .skip <| kb_n <| ks_n <| .region <| .cons (.mv rfl rfl) <| .cons (.pl rfl rfl rfl) <| .cons (.asg rfl rfl) <| .nil ?_
        refine kl_k [] ⟨i + 1, rfl, by omega, by rw [hT]; have := subZ_pos h25; omega, rfl⟩ ⟨ks rfl .dt, ks rfl (.dt (vI (by first | (simp; done) | (rw [hT, subZ_yes (by omega)]; omega)))), ks rfl .dt, ks rfl .dt, trivial⟩
    · skip
      have hall : xs.take i = xs := List.take_of_length_le (by omega)
      refine .exit <| ks_e <| kl_e <| kb_hit <| ks_n <| .seq <| .region <| .cons (.mv rfl rfl) <| .cons (.asg rfl rfl) <| .nil <| ks_n <| .ret ?_
      refine kf_ret rfl ?_ nobox
      exact leafI (by rw [subZ_yes (by rw [szO, ← hall]; rw [hall]; rw [hall] at hF; omega), szO, hall])

theorem szPt_fn {x : Prt} {l : Int} (hl : 0 ≤ l ∧ l ≤ 1048576) (ho : okPrt x) : Fn Tryz.prog 73 [] [ad (rP x), nat1 l] (.o (nat1 (subZ l (szPt x)))) [] := by
  have hsz : szPt x = szLs x.1 + szO szS x.2 := rfl
  have hb1 := subZ_bd (n := szLs x.1) hl
  obtain ⟨⟨o1, o2⟩, o3, o4⟩ := ho
  refine Fn.code0 Tryz.func73 rfl rfl rfl rfl ?_
  refine .seq <| .region <| .cons (St1.boxP rfl rfl rfl rfl rfl rfl) <| .cons (.asg rfl rfl) <| .nil <| ks_n <| .seq <| .region <| .cons (.fP 0 0 false rfl rfl) <| .cons (.l1 1 rfl rfl) <| .cons (.mv rfl rfl) <| .cons (.cP [.tmp 6, .tmp 7] rfl rfl rfl rfl (szLoops_fn x.1 hl o1 o2) rfl) ?_
  refine .cons (.asg rfl rfl) <| .nil <| ks_n <| .seq <| .seq <| .region <| .cons (.mv rfl rfl) <| .cons (.ls rfl rfl rfl) <| .nil <| ks_n ?_
  refine .cD rfl (fun h10 => ?_) (fun h10 => ?_)
  · skip
    refine .seq <| .region <| .cons (.asg rfl rfl) <| .nil <| ks_n <| .ret <| ks_r ?_
    refine kf_ret rfl ?_ nobox
    exact leafI (subZ_no (by have := subZ_neg h10 hl.1; omega)).symm
  · skip
    refine .skip <| ks_n <| .seq ?_
    have hp1 := subZ_pos h10
    have hb2 := subZ_bd (n := szO szS x.2) (l := subZ l (szLs x.1)) (by omega)
    have e1 := subZ_yes hp1
    refine .region <| .cons (.fP 1 0 false rfl rfl) <| .cons (.l1 1 rfl rfl) <| .cons (.mv rfl rfl) <| .cons (.cP [.tmp 12, .tmp 13] rfl rfl rfl rfl (szStms_fn x.2 (l := subZ l (szLs x.1)) (by omega) o3 o4) rfl) ?_
    refine .cons (.asg rfl rfl) <| .nil <| ks_n <| .seq <| .seq <| .region <| .cons (.mv rfl rfl) <| .cons (.ls rfl rfl rfl) <| .nil <| ks_n ?_
    refine .cD rfl (fun h16 => ?_) (fun h16 => ?_)
    · skip
      refine .seq <| .region <| .cons (.asg rfl rfl) <| .nil <| ks_n <| .ret <| ks_r ?_
      refine kf_ret rfl ?_ nobox
      exact leafI (subZ_no (by have h6 := subZ_neg h16 (by omega); omega)).symm
    · skip
      refine .skip <| ks_n <| .seq <| .region <| .cons (.mv rfl rfl) <| .cons (.asg rfl rfl) <| .nil <| ks_n <| .ret ?_
      refine kf_ret rfl ?_ nobox
      exact leafI (by have h6 := subZ_pos h16; rw [subZ_yes h6, e1, subZ_yes (l := l) (n := szPt x) (by omega)]; omega)

theorem szPts_fn (xs : List Prt) {l : Int} (hl : 0 ≤ l ∧ l ≤ 1048576) (hx : xs.length ≤ 17592186044416) (hq : ∀ x ∈ xs, okPrt x) : Fn Tryz.prog 33 [] [vD (dPts xs), nat1 l] (.o (nat1 (subZ l (szO szPt xs)))) [] := by
  refine Fn.code0 Tryz.func33 rfl rfl rfl rfl ?_
  refine .seq <| .region <| .cons (.asg rfl rfl) <| .nil <| ks_n <| .seq <| .region <| .cons (.mv rfl rfl) <| .cons (.mv rfl rfl) <| .cons (.ln 114 2 48 rfl rfl rfl) <| .cons (.sb rfl rfl rfl) <| .cons (.asg rfl rfl) <| .nil <| ks_n <| .seq <| .seq <| .region <| .cons (.mv rfl rfl) <| .cons (.ls rfl rfl rfl) <| .nil <| ks_n ?_
  refine .cD rfl (fun h11 => ?_) (fun h11 => ?_)
  · skip
    refine .seq <| .region <| .cons (.asg rfl rfl) <| .nil <| ks_n <| .ret <| ks_r ?_
    refine kf_ret rfl ?_ nobox
    exact leafI (subZ_no (by rw [szO]; omega)).symm
  · skip
    refine .skip <| ks_n <| .seq <| .seq <| .region <| .cons (.asg rfl rfl) <| .nil <| ks_n <| .block ?_
    refine .loopK (fun m σ => (∃ i : Nat, m = xs.length - i ∧ (i ≤ xs.length) ∧ (((xs.length + ((xs.take i).map szPt).sum : Nat) : Int) ≤ l) ∧ σ = [(.t 0, .v (.o (vD (dPts xs)))), (.t 1, .v (.o (nat1 (l - (xs.length + ((xs.take i).map szPt).sum : Nat))))), (.t 4, .v (.o (nat1 0))), (.t 5, .v (.o (nat1 (i : Nat))))])) [] ⟨0, rfl, by omega, by simp; omega, rfl⟩ ⟨ks rfl .dt, ks rfl (.dt (vI (by first | (simp; done) | (rw [hT, subZ_yes (by omega)]; omega)))), ks rfl .dt, ks rfl .dt, trivial⟩ ?_
    rintro m σ ⟨i, hm0, hi, hF, rfl⟩
    refine .seq <| .seq <| .region <| .cons (.mv rfl rfl) <| .cons (.mv rfl rfl) <| .cons (.ln 114 2 48 rfl rfl rfl) <| .cons (.ls rfl rfl rfl) <| .nil <| ks_n ?_
    refine .cD rfl (fun h15 => ?_) (fun h15 => ?_)
    · skip
      obtain ⟨x, hx1⟩ : ∃ x, xs[i]? = some x := ⟨_, List.getElem?_eq_getElem (by omega)⟩
      have hT := sum_take szPt hx1
      refine .skip <| ks_n <| .seq <| .block <| .seq <| .region <| .cons (.mv rfl rfl) <| .cons (.mv rfl rfl) <| .cons (.xL 114 2 48 rfl rfl rfl rfl rfl) ?_
      refine .cons (.lN 2 rfl rfl rfl) <| .cons (.mv rfl rfl) <| .cons (.cP [.tmp 21, .tmp 22] rfl rfl rfl rfl (szPt_fn (l := (l - (xs.length + ((xs.take i).map szPt).sum : Nat))) (by omega) (hq x (List.mem_of_getElem? hx1))) rfl) ?_
      refine .cons (.asg rfl rfl) <| .nil <| ks_n <| .seq <| .region <| .cons (.mv rfl rfl) <| .cons (.ls rfl rfl rfl) <| .nil <| ks_n ?_
      refine .cD rfl (fun h25 => ?_) (fun h25 => ?_)
      · skip
        refine .seq <| .region <| .cons (.asg rfl rfl) <| .nil <| ks_n <| .ret <| kb_r <| ks_r <| kl_r <| kb_r <| ks_r ?_
        refine kf_ret rfl ?_ nobox
        exact leafI (subZ_no (by have h1 := subZ_neg h25 (by omega); have h2 := sum_take_le szPt (l := xs) (i := i + 1); rw [szO]; omega)).symm
      · skip
        have hP := subZ_pos h25
        refine .skip <| kb_n <| ks_n <| .region <| .cons (.mv rfl rfl) <| .cons (.pl rfl rfl rfl) <| .cons (.asg rfl rfl) <| .nil ?_
        refine kl_k [] ⟨i + 1, rfl, by omega, by rw [hT]; have := subZ_pos h25; omega, rfl⟩ ⟨ks rfl .dt, ks rfl (.dt (vI (by first | (simp; done) | (rw [hT, subZ_yes (by omega)]; omega)))), ks rfl .dt, ks rfl .dt, trivial⟩
    · skip
      have hall : xs.take i = xs := List.take_of_length_le (by omega)
      refine .exit <| ks_e <| kl_e <| kb_hit <| ks_n <| .seq <| .region <| .cons (.mv rfl rfl) <| .cons (.asg rfl rfl) <| .nil <| ks_n <| .ret ?_
      refine kf_ret rfl ?_ nobox
      exact leafI (by rw [subZ_yes (by rw [szO, ← hall]; rw [hall]; rw [hall] at hF; omega), szO, hall])

theorem szPrg_fn {x : Prg} {l : Int} (hl : 0 ≤ l ∧ l ≤ 1048576) (ho : okPrg x) : Fn Tryz.prog 10 [] [ad (rG x), nat1 l] (.o (nat1 (subZ l (szG x)))) [] := by
  have hsz : szG x = szO szR x.1 + szO szPt x.2 := rfl
  have hb1 := subZ_bd (n := szO szR x.1) hl
  obtain ⟨⟨o1, o2⟩, o3, o4⟩ := ho
  refine Fn.code0 Tryz.func10 rfl rfl rfl rfl ?_
  refine .seq <| .region <| .cons (St1.boxP rfl rfl rfl rfl rfl rfl) <| .cons (.asg rfl rfl) <| .nil <| ks_n <| .seq <| .region <| .cons (.fP 0 0 false rfl rfl) <| .cons (.l1 1 rfl rfl) <| .cons (.mv rfl rfl) <| .cons (.cP [.tmp 6, .tmp 7] rfl rfl rfl rfl (szArrs_fn x.1 hl o1 o2) rfl) ?_
  refine .cons (.asg rfl rfl) <| .nil <| ks_n <| .seq <| .seq <| .region <| .cons (.mv rfl rfl) <| .cons (.ls rfl rfl rfl) <| .nil <| ks_n ?_
  refine .cD rfl (fun h10 => ?_) (fun h10 => ?_)
  · skip
    refine .seq <| .region <| .cons (.asg rfl rfl) <| .nil <| ks_n <| .ret <| ks_r ?_
    refine kf_ret rfl ?_ nobox
    exact leafI (subZ_no (by have := subZ_neg h10 hl.1; omega)).symm
  · skip
    refine .skip <| ks_n <| .seq ?_
    have hp1 := subZ_pos h10
    have hb2 := subZ_bd (n := szO szPt x.2) (l := subZ l (szO szR x.1)) (by omega)
    have e1 := subZ_yes hp1
    refine .region <| .cons (.fP 1 0 false rfl rfl) <| .cons (.l1 1 rfl rfl) <| .cons (.mv rfl rfl) <| .cons (.cP [.tmp 12, .tmp 13] rfl rfl rfl rfl (szPts_fn x.2 (l := subZ l (szO szR x.1)) (by omega) o3 o4) rfl) ?_
    refine .cons (.asg rfl rfl) <| .nil <| ks_n <| .seq <| .seq <| .region <| .cons (.mv rfl rfl) <| .cons (.ls rfl rfl rfl) <| .nil <| ks_n ?_
    refine .cD rfl (fun h16 => ?_) (fun h16 => ?_)
    · skip
      refine .seq <| .region <| .cons (.asg rfl rfl) <| .nil <| ks_n <| .ret <| ks_r ?_
      refine kf_ret rfl ?_ nobox
      exact leafI (subZ_no (by have h6 := subZ_neg h16 (by omega); omega)).symm
    · skip
      refine .skip <| ks_n <| .seq <| .region <| .cons (.mv rfl rfl) <| .cons (.asg rfl rfl) <| .nil <| ks_n <| .ret ?_
      refine kf_ret rfl ?_ nobox
      exact leafI (by have h6 := subZ_pos h16; rw [subZ_yes h6, e1, subZ_yes (l := l) (n := szG x) (by omega)]; omega)

theorem eqArr_fn (x y : Arr) (h : szR x ≤ 1073741824) : Fn Tryz.prog 80 [] [ad (rR x), ad (rR y)] (.o (bo1 (decide (x = y)))) [] := by
 rw [szR] at h
 refine Fn.code0 Tryz.func80 rfl rfl rfl rfl ?_
 refine .seq <| .region <| .cons (St1.boxP rfl rfl rfl rfl rfl rfl) <| .cons (St1.boxP rfl rfl rfl rfl rfl rfl) <| .cons (.asg rfl rfl) <| .nil <| ks_n <| .seq <| .seq <| .region <| .cons (.fP 0 0 false rfl rfl) <| .cons (.l1 1 rfl rfl) <| .cons (.fP 0 0 false rfl rfl) <| .cons (.l1 1 rfl rfl) <| .cons (St1.neS rfl rfl rfl) <| .nil <| ks_n ?_
 refine ACode.condT rfl (fun h9 => ?_) (fun h9 => ?_)
 ·try simp only [zs1, zs2, zs3, zs4, zs5, zs6, zs7] at h9
  refine .seq <| .region <| .cons (.asg rfl rfl) <| .nil <| ks_n <| .ret <| ks_r ?_
  refine kf_ret rfl ?_ nobox
  exact leafB (by rw [Bool.eq_iff_iff]; simp only [decide_eq_true_eq, Prod.ext_iff, ← sEq_iff]; first | (simp [*]; done) | (simp_all; done))
 ·try simp only [zs1, zs2, zs3, zs4, zs5, zs6, zs7] at h9
  refine .skip <| ks_n <| .seq <| .seq <| .region <| .cons (.fP 1 0 false rfl rfl) <| .cons (.l1 1 rfl rfl) <| .cons (.fP 1 0 false rfl rfl) <| .cons (.l1 1 rfl rfl) <| .cons (.cP [.tmp 11, .tmp 13] rfl rfl rfl rfl (eqInts_fn _ _ (by omega)) rfl) ?_
  refine .cons (.nt rfl rfl) <| .nil <| ks_n ?_
  refine ACode.condT rfl (fun h15 => ?_) (fun h15 => ?_)
  ·try simp only [zs1, zs2, zs3, zs4, zs5, zs6, zs7] at h15
   refine .seq <| .region <| .cons (.asg rfl rfl) <| .nil <| ks_n <| .ret <| ks_r ?_
   refine kf_ret rfl ?_ nobox
   exact leafB (by rw [Bool.eq_iff_iff]; simp only [decide_eq_true_eq, Prod.ext_iff, ← sEq_iff]; first | (simp [*]; done) | (simp_all; done))
  ·try simp only [zs1, zs2, zs3, zs4, zs5, zs6, zs7] at h15
   refine .skip <| ks_n <| .seq <| .region <| .cons (.asg rfl rfl) <| .nil <| ks_n <| .ret ?_
   refine kf_ret rfl ?_ nobox
   exact leafB (by rw [Bool.eq_iff_iff]; simp only [decide_eq_true_eq, Prod.ext_iff, ← sEq_iff]; first | (simp [*]; done) | (simp_all; done))

theorem eqArrs_f (xs ys : List Arr) (hx : xs.length ≤ 1099511627776) (hq : ∀ x ∈ xs, szR x ≤ 1073741824) : Fn Tryz.prog 41 [] [vD (dRs xs), vD (dRs ys)] (.o (bo1 (eqF (fun x y : Arr => decide (x = y)) xs ys))) [] := by
 refine Fn.code0 Tryz.func41 rfl rfl rfl rfl ?_
 refine .seq <| .region <| .cons (.asg rfl rfl) <| .nil <| ks_n <| .seq <| .seq <| .region <| .cons (.mv rfl rfl) <| .cons (.ln 78 2 40 rfl rfl rfl) <| .cons (.mv rfl rfl) <| .cons (.ln 78 2 40 rfl rfl rfl) <| .cons (.ne rfl rfl rfl) <| .nil <| ks_n ?_
 refine .cND rfl (fun h10 => ?_) (fun h10 => ?_)
 ·skip
  refine .seq <| .region <| .cons (.asg rfl rfl) <| .nil <| ks_n <| .ret <| ks_r ?_
  refine kf_ret rfl ?_ nobox
  exact leafB (eqF_len (by omega)).symm
 ·skip
  refine .skip <| ks_n <| .seq <| .seq <| .region <| .cons (.asg rfl rfl) <| .nil <| ks_n <| .block ?_
  refine .loopK (fun m σ => (∃ i : Nat, m = xs.length - i ∧ (i ≤ xs.length) ∧ (eqF (fun x y : Arr => decide (x = y)) xs ys = eqF (fun x y : Arr => decide (x = y)) (xs.drop i) (ys.drop i)) ∧ σ = [(.t 0, .v (.o (vD (dRs xs)))), (.t 1, .v (.o (vD (dRs ys)))), (.t 4, .v (.o (bo1 false))), (.t 5, .v (.o (nat1 (i : Nat))))])) [] ⟨0, rfl, by omega, by simp, rfl⟩ ⟨ks rfl .dt, ks rfl .dt, ks rfl .dt, ks rfl .dt, trivial⟩ ?_
  rintro m σ ⟨i, hm0, hi, hF, rfl⟩
  refine .seq <| .seq <| .region <| .cons (.mv rfl rfl) <| .cons (.mv rfl rfl) <| .cons (.ln 78 2 40 rfl rfl rfl) <| .cons (.ls rfl rfl rfl) <| .nil <| ks_n ?_
  refine .cD rfl (fun h14 => ?_) (fun h14 => ?_)
  ·skip
   obtain ⟨x, hx1⟩ : ∃ x, xs[i]? = some x := ⟨_, List.getElem?_eq_getElem (by omega)⟩
   obtain ⟨y, hy1⟩ : ∃ x, ys[i]? = some x := ⟨_, List.getElem?_eq_getElem (by omega)⟩
   refine .skip <| ks_n <| .seq <| .block <| .seq ?_
   refine ACode.drawK (by kernel_rfl) (by kernel_rfl) ?_
   refine .cons (.mv rfl rfl) <| .cons (.mv rfl rfl) <| .cons (.xL 78 2 40 rfl rfl rfl rfl rfl (map_at hx1)) ?_
   refine .cons (.lN 2 rfl rfl rfl) <| .cons (.mv rfl rfl) <| .cons (.mv rfl rfl) <| .cons (.xL 78 2 40 rfl rfl rfl rfl rfl (map_at hy1)) ?_
   refine .cons (.lN 2 rfl rfl rfl) <| .cons (.cP [.tmp 20, .tmp 24] rfl rfl rfl rfl (eqArr_fn x y (hq x (List.mem_of_getElem? hx1))) rfl) ?_
   refine .cons (.nt rfl rfl) ?_
   refine .nil ⟨by kernel_rfl, ?_⟩
   refine ks_n ?_
   refine ACode.condT rfl (fun h26 => ?_) (fun h26 => ?_)
   ·try simp only [zs1, zs2, zs3, zs4, zs5, zs6, zs7] at h26
    have g : decide (x = y) = false := by first | assumption | exact decide_eq_false (by assumption) | (simp; omega)
    refine .seq <| .region <| .cons (.asg rfl rfl) <| .nil <| ks_n <| .ret <| kb_r <| ks_r <| kl_r <| kb_r <| ks_r ?_
    refine kf_ret rfl ?_ nobox
    exact leafB (by rw [hF, eqF_drop hx1 hy1, g]; rfl)
   ·try simp only [zs1, zs2, zs3, zs4, zs5, zs6, zs7] at h26
    have g : decide (x = y) = true := by first | assumption | exact decide_eq_true (by assumption) | (simp; omega)
    refine .skip <| kb_n <| ks_n <| .region <| .cons (.mv rfl rfl) <| .cons (.pl rfl rfl rfl) <| .cons (.asg rfl rfl) <| .nil ?_
    refine kl_k [] ⟨i + 1, rfl, by omega, by rw [hF, eqF_drop hx1 hy1, g, Bool.true_and], rfl⟩ ⟨ks rfl .dt, ks rfl .dt, ks rfl .dt, ks rfl .dt, trivial⟩
  ·skip
   refine .exit <| ks_e <| kl_e <| kb_hit <| ks_n <| .seq <| .region <| .cons (.asg rfl rfl) <| .nil <| ks_n <| .ret ?_
   refine kf_ret rfl ?_ nobox
   exact leafB (by rw [hF, show i = xs.length by omega, eqF_end (by omega)])

theorem eqArrs_fn (xs ys : List Arr) (h : szO szR xs ≤ 1073741824) : Fn Tryz.prog 41 [] [vD (dRs xs), vD (dRs ys)] (.o (bo1 (decide (xs = ys)))) [] := by
  have hl := szO_len (f := szR) xs
  rw [← eqF_dec]; exact eqArrs_f xs ys (by omega) fun x hx => by have := szO_mem (f := szR) hx; omega

theorem eqStms_fn (xs ys : List Stm) (hx : xs.length ≤ 1099511627776) (hq : ∀ x ∈ xs, szS x ≤ 1073741824) : Fn Tryz.prog 128 [] [vD (dMs xs), vD (dMs ys)] (.o (bo1 (eqF sameS xs ys))) [] := by
 refine Fn.code0 Tryz.func128 rfl rfl rfl rfl ?_
 refine .seq <| .region <| .cons (.asg rfl rfl) <| .nil <| ks_n <| .seq <| .seq <| .region <| .cons (.mv rfl rfl) <| .cons (.ln 96 9 152 rfl rfl rfl) <| .cons (.mv rfl rfl) <| .cons (.ln 96 9 152 rfl rfl rfl) <| .cons (.ne rfl rfl rfl) <| .nil <| ks_n ?_
 refine .cND rfl (fun h10 => ?_) (fun h10 => ?_)
 ·skip
  refine .seq <| .region <| .cons (.asg rfl rfl) <| .nil <| ks_n <| .ret <| ks_r ?_
  refine kf_ret rfl ?_ nobox
  exact leafB (eqF_len (by omega)).symm
 ·skip
  refine .skip <| ks_n <| .seq <| .seq <| .region <| .cons (.asg rfl rfl) <| .nil <| ks_n <| .block ?_
  refine .loopK (fun m σ => (∃ i : Nat, m = xs.length - i ∧ (i ≤ xs.length) ∧ (eqF sameS xs ys = eqF sameS (xs.drop i) (ys.drop i)) ∧ σ = [(.t 0, .v (.o (vD (dMs xs)))), (.t 1, .v (.o (vD (dMs ys)))), (.t 4, .v (.o (bo1 false))), (.t 5, .v (.o (nat1 (i : Nat))))])) [] ⟨0, rfl, by omega, by simp, rfl⟩ ⟨ks rfl .dt, ks rfl .dt, ks rfl .dt, ks rfl .dt, trivial⟩ ?_
  rintro m σ ⟨i, hm0, hi, hF, rfl⟩
  refine .seq <| .seq <| .region <| .cons (.mv rfl rfl) <| .cons (.mv rfl rfl) <| .cons (.ln 96 9 152 rfl rfl rfl) <| .cons (.ls rfl rfl rfl) <| .nil <| ks_n ?_
  refine .cD rfl (fun h14 => ?_) (fun h14 => ?_)
  ·skip
   obtain ⟨x, hx1⟩ : ∃ x, xs[i]? = some x := ⟨_, List.getElem?_eq_getElem (by omega)⟩
   obtain ⟨y, hy1⟩ : ∃ x, ys[i]? = some x := ⟨_, List.getElem?_eq_getElem (by omega)⟩
   refine .skip <| ks_n <| .seq <| .block <| .seq ?_
   refine ACode.drawK (by kernel_rfl) (by kernel_rfl) ?_
   refine .cons (.mv rfl rfl) <| .cons (.mv rfl rfl) <| .cons (.xL 96 9 152 rfl rfl rfl rfl rfl (map_at hx1)) ?_
   refine .cons (.lN 9 rfl rfl rfl) <| .cons (.mv rfl rfl) <| .cons (.mv rfl rfl) <| .cons (.xL 96 9 152 rfl rfl rfl rfl rfl (map_at hy1)) ?_
   refine .cons (.lN 9 rfl rfl rfl) <| .cons (.cP [.tmp 20, .tmp 24] rfl rfl rfl rfl (eqStm_fn x y (hq x (List.mem_of_getElem? hx1))) rfl) ?_
   refine .cons (.nt rfl rfl) ?_
   refine .nil ⟨by kernel_rfl, ?_⟩
   refine ks_n ?_
   refine ACode.condT rfl (fun h26 => ?_) (fun h26 => ?_)
   ·try simp only [zs1, zs2, zs3, zs4, zs5, zs6, zs7] at h26
    have g : sameS x y = false := by first | assumption | exact decide_eq_false (by assumption) | (simp; omega)
    refine .seq <| .region <| .cons (.asg rfl rfl) <| .nil <| ks_n <| .ret <| kb_r <| ks_r <| kl_r <| kb_r <| ks_r ?_
    refine kf_ret rfl ?_ nobox
    exact leafB (by rw [hF, eqF_drop hx1 hy1, g]; rfl)
   ·try simp only [zs1, zs2, zs3, zs4, zs5, zs6, zs7] at h26
    have g : sameS x y = true := by first | assumption | exact decide_eq_true (by assumption) | (simp; omega)
    refine .skip <| kb_n <| ks_n <| .region <| .cons (.mv rfl rfl) <| .cons (.pl rfl rfl rfl) <| .cons (.asg rfl rfl) <| .nil ?_
    refine kl_k [] ⟨i + 1, rfl, by omega, by rw [hF, eqF_drop hx1 hy1, g, Bool.true_and], rfl⟩ ⟨ks rfl .dt, ks rfl .dt, ks rfl .dt, ks rfl .dt, trivial⟩
  ·skip
   refine .exit <| ks_e <| kl_e <| kb_hit <| ks_n <| .seq <| .region <| .cons (.asg rfl rfl) <| .nil <| ks_n <| .ret ?_
   refine kf_ret rfl ?_ nobox
   exact leafB (by rw [hF, show i = xs.length by omega, eqF_end (by omega)])

theorem eqPt_fn (x y : Prt) (h : szPt x ≤ 1073741824) : Fn Tryz.prog 81 [] [ad (rP x), ad (rP y)] (.o (bo1 (sameP x y))) [] := by
 have hsz : szPt x = szLs x.1 + szO szS x.2 := rfl
 have h1 := szLs_len x.1
 have h2 := szO_len (f := szS) x.2
 refine Fn.code0 Tryz.func81 rfl rfl rfl rfl ?_
 refine .seq <| .region <| .cons (St1.boxP rfl rfl rfl rfl rfl rfl) <| .cons (St1.boxP rfl rfl rfl rfl rfl rfl) <| .cons (.asg rfl rfl) <| .nil <| ks_n <| .seq <| .seq <| .region <| .cons (.fP 0 0 false rfl rfl) <| .cons (.l1 1 rfl rfl) <| .cons (.fP 0 0 false rfl rfl) <| .cons (.l1 1 rfl rfl) <| .cons (.cP [.tmp 6, .tmp 8] rfl rfl rfl rfl (eqLoops_fn _ _ (by omega)) rfl) ?_
 refine .cons (.nt rfl rfl) <| .nil <| ks_n ?_
 refine ACode.condT rfl (fun h10 => ?_) (fun h10 => ?_)
 ·try simp only [zs1, zs2, zs3, zs4, zs5, zs6, zs7] at h10
  refine .seq <| .region <| .cons (.asg rfl rfl) <| .nil <| ks_n <| .ret <| ks_r ?_
  refine kf_ret rfl ?_ nobox
  exact leafB (by rw [sameP]; first | (simp [*]; done) | grind)
 ·try simp only [zs1, zs2, zs3, zs4, zs5, zs6, zs7] at h10
  refine .skip <| ks_n <| .seq <| .seq <| .region <| .cons (.fP 1 0 false rfl rfl) <| .cons (.l1 1 rfl rfl) <| .cons (.fP 1 0 false rfl rfl) <| .cons (.l1 1 rfl rfl) <| .cons (.cP [.tmp 12, .tmp 14] rfl rfl rfl rfl (eqStms_fn _ _ (by omega) (fun s hs => by have := szO_mem (f := szS) hs; omega)) rfl) ?_
  refine .cons (.nt rfl rfl) <| .nil <| ks_n ?_
  refine ACode.condT rfl (fun h16 => ?_) (fun h16 => ?_)
  ·try simp only [zs1, zs2, zs3, zs4, zs5, zs6, zs7] at h16
   refine .seq <| .region <| .cons (.asg rfl rfl) <| .nil <| ks_n <| .ret <| ks_r ?_
   refine kf_ret rfl ?_ nobox
   exact leafB (by rw [sameP]; first | (simp [*]; done) | grind)
  ·try simp only [zs1, zs2, zs3, zs4, zs5, zs6, zs7] at h16
   refine .skip <| ks_n <| .seq <| .region <| .cons (.asg rfl rfl) <| .nil <| ks_n <| .ret ?_
   refine kf_ret rfl ?_ nobox
   exact leafB (by rw [sameP]; first | (simp [*]; done) | grind)

theorem eqPts_fn (xs ys : List Prt) (hx : xs.length ≤ 1099511627776) (hq : ∀ x ∈ xs, szPt x ≤ 1073741824) : Fn Tryz.prog 42 [] [vD (dPts xs), vD (dPts ys)] (.o (bo1 (eqF sameP xs ys))) [] := by
 refine Fn.code0 Tryz.func42 rfl rfl rfl rfl ?_
 refine .seq <| .region <| .cons (.asg rfl rfl) <| .nil <| ks_n <| .seq <| .seq <| .region <| .cons (.mv rfl rfl) <| .cons (.ln 104 2 48 rfl rfl rfl) <| .cons (.mv rfl rfl) <| .cons (.ln 104 2 48 rfl rfl rfl) <| .cons (.ne rfl rfl rfl) <| .nil <| ks_n ?_
 refine .cND rfl (fun h10 => ?_) (fun h10 => ?_)
 ·skip
  refine .seq <| .region <| .cons (.asg rfl rfl) <| .nil <| ks_n <| .ret <| ks_r ?_
  refine kf_ret rfl ?_ nobox
  exact leafB (eqF_len (by omega)).symm
 ·skip
  refine .skip <| ks_n <| .seq <| .seq <| .region <| .cons (.asg rfl rfl) <| .nil <| ks_n <| .block ?_
  refine .loopK (fun m σ => (∃ i : Nat, m = xs.length - i ∧ (i ≤ xs.length) ∧ (eqF sameP xs ys = eqF sameP (xs.drop i) (ys.drop i)) ∧ σ = [(.t 0, .v (.o (vD (dPts xs)))), (.t 1, .v (.o (vD (dPts ys)))), (.t 4, .v (.o (bo1 false))), (.t 5, .v (.o (nat1 (i : Nat))))])) [] ⟨0, rfl, by omega, by simp, rfl⟩ ⟨ks rfl .dt, ks rfl .dt, ks rfl .dt, ks rfl .dt, trivial⟩ ?_
  rintro m σ ⟨i, hm0, hi, hF, rfl⟩
  refine .seq <| .seq <| .region <| .cons (.mv rfl rfl) <| .cons (.mv rfl rfl) <| .cons (.ln 104 2 48 rfl rfl rfl) <| .cons (.ls rfl rfl rfl) <| .nil <| ks_n ?_
  refine .cD rfl (fun h14 => ?_) (fun h14 => ?_)
  ·skip
   obtain ⟨x, hx1⟩ : ∃ x, xs[i]? = some x := ⟨_, List.getElem?_eq_getElem (by omega)⟩
   obtain ⟨y, hy1⟩ : ∃ x, ys[i]? = some x := ⟨_, List.getElem?_eq_getElem (by omega)⟩
   refine .skip <| ks_n <| .seq <| .block <| .seq ?_
   refine ACode.drawK (by kernel_rfl) (by kernel_rfl) ?_
   refine .cons (.mv rfl rfl) <| .cons (.mv rfl rfl) <| .cons (.xL 104 2 48 rfl rfl rfl rfl rfl (map_at hx1)) ?_
   refine .cons (.lN 2 rfl rfl rfl) <| .cons (.mv rfl rfl) <| .cons (.mv rfl rfl) <| .cons (.xL 104 2 48 rfl rfl rfl rfl rfl (map_at hy1)) ?_
   refine .cons (.lN 2 rfl rfl rfl) <| .cons (.cP [.tmp 20, .tmp 24] rfl rfl rfl rfl (eqPt_fn x y (hq x (List.mem_of_getElem? hx1))) rfl) ?_
   refine .cons (.nt rfl rfl) ?_
   refine .nil ⟨by kernel_rfl, ?_⟩
   refine ks_n ?_
   refine ACode.condT rfl (fun h26 => ?_) (fun h26 => ?_)
   ·try simp only [zs1, zs2, zs3, zs4, zs5, zs6, zs7] at h26
    have g : sameP x y = false := by first | assumption | exact decide_eq_false (by assumption) | (simp; omega)
    refine .seq <| .region <| .cons (.asg rfl rfl) <| .nil <| ks_n <| .ret <| kb_r <| ks_r <| kl_r <| kb_r <| ks_r ?_
    refine kf_ret rfl ?_ nobox
    exact leafB (by rw [hF, eqF_drop hx1 hy1, g]; rfl)
   ·try simp only [zs1, zs2, zs3, zs4, zs5, zs6, zs7] at h26
    have g : sameP x y = true := by first | assumption | exact decide_eq_true (by assumption) | (simp; omega)
    refine .skip <| kb_n <| ks_n <| .region <| .cons (.mv rfl rfl) <| .cons (.pl rfl rfl rfl) <| .cons (.asg rfl rfl) <| .nil ?_
    refine kl_k [] ⟨i + 1, rfl, by omega, by rw [hF, eqF_drop hx1 hy1, g, Bool.true_and], rfl⟩ ⟨ks rfl .dt, ks rfl .dt, ks rfl .dt, ks rfl .dt, trivial⟩
  ·skip
   refine .exit <| ks_e <| kl_e <| kb_hit <| ks_n <| .seq <| .region <| .cons (.asg rfl rfl) <| .nil <| ks_n <| .ret ?_
   refine kf_ret rfl ?_ nobox
   exact leafB (by rw [hF, show i = xs.length by omega, eqF_end (by omega)])

theorem eqPrg_fn (x y : Prg) (h : szG x ≤ 1073741824) : Fn Tryz.prog 14 [] [ad (rG x), ad (rG y)] (.o (bo1 (sameG x y))) [] := by
 have hsz : szG x = szO szR x.1 + szO szPt x.2 := rfl
 have h1 := szO_len (f := szR) x.1
 have h2 := szO_len (f := szPt) x.2
 refine Fn.code0 Tryz.func14 rfl rfl rfl rfl ?_
 refine .seq <| .region <| .cons (St1.boxP rfl rfl rfl rfl rfl rfl) <| .cons (St1.boxP rfl rfl rfl rfl rfl rfl) <| .cons (.asg rfl rfl) <| .nil <| ks_n <| .seq <| .seq <| .region <| .cons (.fP 0 0 false rfl rfl) <| .cons (.l1 1 rfl rfl) <| .cons (.fP 0 0 false rfl rfl) <| .cons (.l1 1 rfl rfl) <| .cons (.cP [.tmp 6, .tmp 8] rfl rfl rfl rfl (eqArrs_fn _ _ (by omega)) rfl) ?_
 refine .cons (.nt rfl rfl) <| .nil <| ks_n ?_
 refine ACode.condT rfl (fun h10 => ?_) (fun h10 => ?_)
 ·try simp only [zs1, zs2, zs3, zs4, zs5, zs6, zs7] at h10
  refine .seq <| .region <| .cons (.asg rfl rfl) <| .nil <| ks_n <| .ret <| ks_r ?_
  refine kf_ret rfl ?_ nobox
  exact leafB (by rw [sameG]; first | (simp [*]; done) | grind)
 ·try simp only [zs1, zs2, zs3, zs4, zs5, zs6, zs7] at h10
  refine .skip <| ks_n <| .seq <| .seq <| .region <| .cons (.fP 1 0 false rfl rfl) <| .cons (.l1 1 rfl rfl) <| .cons (.fP 1 0 false rfl rfl) <| .cons (.l1 1 rfl rfl) <| .cons (.cP [.tmp 12, .tmp 14] rfl rfl rfl rfl (eqPts_fn _ _ (by omega) (fun s hs => by have := szO_mem (f := szPt) hs; omega)) rfl) ?_
  refine .cons (.nt rfl rfl) <| .nil <| ks_n ?_
  refine ACode.condT rfl (fun h16 => ?_) (fun h16 => ?_)
  ·try simp only [zs1, zs2, zs3, zs4, zs5, zs6, zs7] at h16
   refine .seq <| .region <| .cons (.asg rfl rfl) <| .nil <| ks_n <| .ret <| ks_r ?_
   refine kf_ret rfl ?_ nobox
   exact leafB (by rw [sameG]; first | (simp [*]; done) | grind)
  ·try simp only [zs1, zs2, zs3, zs4, zs5, zs6, zs7] at h16
   refine .skip <| ks_n <| .seq <| .region <| .cons (.asg rfl rfl) <| .nil <| ks_n <| .ret ?_
   refine kf_ret rfl ?_ nobox
   exact leafB (by rw [sameG]; first | (simp [*]; done) | grind)
section
variable {a : Aff} {o : Pts} {x : List Int}
end
theorem npR_pt {ns : List Lp} {x : List Int} (h : x ∈ npR ns) : Small x ∧ x.length ≤ 4 := by
  obtain ⟨h1, h2, h3⟩ := npR_mem h
  have hv := (okP_iff.1 h1).1
  obtain ⟨h4, h5⟩ := mem_pts.1 h2
  have h6 := PB_of_in hv h4 h5 ns.length (Nat.le_refl _)
  rw [← h4, List.take_length] at h6
  have h7 := (nsV_at hv).1
  exact ⟨h6.small (by omega), by omega⟩
/-- Nests as large as memory lets them be. -/
def bgL (l : Lp) : Prop := l.1.length ≤ 1073741824 ∧ l.2.length ≤ 1073741824 ∧ (∀ a ∈ l.1, a.1.length ≤ 1073741824) ∧ ∀ a ∈ l.2, a.1.length ≤ 1073741824
def bgN (ns : List Lp) : Prop := ns.length ≤ 1073741824 ∧ ∀ l ∈ ns, bgL l
theorem smN_of {ns : List Lp} (h : nsV ns = true) : smN ns := by
  obtain ⟨h1, h2⟩ := nsV_at h
  refine ⟨by omega, fun l hl => ?_⟩
  obtain ⟨i, hi⟩ := List.mem_iff_getElem?.1 hl
  obtain ⟨a, b⟩ := h2 i l hi
  simp only [sideV, bndV, Bool.and_eq_true, List.all_eq_true, decide_eq_true_eq] at a b
  exact ⟨by omega, by omega, fun x hx => by rw [affV_len (a.1.1 x hx).1]; omega, fun x hx => by rw [affV_len (b.1.1 x hx).1]; omega⟩

theorem implNestV_B (ns : List Lp) (hs : bgN ns) : Fn Tryz.prog 145 [] [vD (dLs ns)] (.o (bo1 (nsV ns))) [] := by
 have hn := hs.1
 refine Fn.code0 Tryz.func145 rfl rfl rfl rfl ?_
 refine .seq <| .region <| .cons (.asg rfl rfl) <| .nil <| ks_n <| .seq <| .seq <| .region <| .cons (.mv rfl rfl) <| .cons (.ln 172 2 48 rfl rfl rfl) <| .cons (.mv rfl rfl) <| .nil <| ks_n <| .block ?_
 refine .loopK (fun m σ => (∃ i : Nat, m = ns.length - i ∧ (i ≤ ns.length) ∧ (nestG 0 ns = nestG i (ns.drop i)) ∧ σ = [(.t 0, .v (.o (vD (dLs ns)))), (.t 5, .v (.o (vD (dLs ns)))), (.t 6, .v (.o (nat1 (ns.length : Nat)))), (.t 7, .v (.o (nat1 (i : Nat))))])) [] ⟨0, rfl, by omega, by simp, rfl⟩ ⟨ks rfl .dt, ks rfl .dt, ks rfl .dt, ks rfl .dt, trivial⟩ ?_
 rintro m σ ⟨i, hm0, hi, hF, rfl⟩
 refine .seq <| .region <| .cons (.ls rfl rfl rfl) <| .nil <| ks_n <| .seq ?_
 refine .cD rfl (fun h8 => ?_) (fun h8 => ?_)
 ·skip
  obtain ⟨x, hx1⟩ : ∃ x, ns[i]? = some x := ⟨_, List.getElem?_eq_getElem (by omega)⟩
  have hq := hs.2 x (List.mem_of_getElem? hx1)
  refine .skip <| ks_n <| .seq <| .block <| .seq <| .region <| .cons (.mv rfl rfl) <| .cons (.xL 172 2 48 rfl rfl rfl rfl rfl) ?_
  refine .cons (.lN 2 rfl rfl rfl) <| .cons (.al 104 [.slice none 0 0, .slice none 0 0] rfl rfl rfl) <| .cons (.asg rfl rfl) <| .cons (.sT 2 true rfl rfl rfl rfl rfl rfl rfl) <| .nil <| ks_n <| .seq <| .region <| .cons (.fB 0 0 false rfl rfl rfl) <| .cons (.b1 1 rfl rfl rfl rfl rfl rfl) <| .cons (.mv rfl rfl) <| .cons (.cP [.tmp 13, .tmp 14] rfl rfl rfl rfl (boundsOk_fn i _ (Nat.le_trans hq.1 (by omega))) rfl) ?_
  refine .cons (.nt rfl rfl) <| .cons (.mv rfl rfl) ?_
  refine AOps.cases 17 _ rfl (fun g17 => ?_) (fun g17 => ?_)
  ·try simp only [zs1, zs2, zs3, zs4, zs5, zs6, zs7] at g17
   refine .cons (.gF rfl rfl rfl) <| .cons (.gF rfl rfl rfl) <| .cons (.gF rfl rfl rfl) <| .cons (.gF rfl rfl rfl) <| .cons (.gF rfl rfl rfl) <| .cons (.pT rfl rfl rfl) <| .nil <| ks_n ?_
   refine ACode.condT rfl (fun _ => ?_) (fun h => by first | (cases h; done) | (simp [*] at h; done) | (exfalso; simp_all; done))
   refine .seq ?_
   have g : (sideV i x.1 && sideV i x.2) = false := by simp [*]
   refine .region <| .cons (.asg rfl rfl) <| .nil <| ks_n <| .ret <| kb_r <| ks_r <| kl_r <| kb_r <| ks_r ?_
   refine kf_ret rfl ?_ nobox
   exact leafB (by rw [nsV, hF, nestG_drop hx1, g]; simp)
  ·try simp only [zs1, zs2, zs3, zs4, zs5, zs6, zs7] at g17
   refine .cons (.gT rfl rfl rfl (.fB 1 0 false rfl rfl rfl)) <| .cons (.gT rfl rfl rfl (.b1 1 rfl rfl rfl rfl rfl rfl)) <| .cons (.gT rfl rfl rfl (.mv rfl rfl)) <| .cons (.gT rfl rfl rfl (.cP [.tmp 19, .tmp 20] rfl rfl rfl rfl (boundsOk_fn i _ (Nat.le_trans hq.2.1 (by omega))) rfl)) ?_
   refine .cons (.gT rfl rfl rfl (.nt rfl rfl)) <| .cons (.pF rfl rfl rfl) <| .nil <| ks_n ?_
   refine ACode.condT rfl (fun h23 => ?_) (fun h23 => ?_)
   ·try simp only [zs1, zs2, zs3, zs4, zs5, zs6, zs7] at h23
    refine .seq ?_
    have g : (sideV i x.1 && sideV i x.2) = false := by simp [*]
    refine .region <| .cons (.asg rfl rfl) <| .nil <| ks_n <| .ret <| kb_r <| ks_r <| kl_r <| kb_r <| ks_r ?_
    refine kf_ret rfl ?_ nobox
    exact leafB (by rw [nsV, hF, nestG_drop hx1, g]; simp)
   ·try simp only [zs1, zs2, zs3, zs4, zs5, zs6, zs7] at h23
    refine .skip <| kb_n <| ks_n ?_
    have g : (sideV i x.1 && sideV i x.2) = true := by simp [*]
    refine .region <| .cons (.pl rfl rfl rfl) <| .cons (.mv rfl rfl) <| .nil ?_
    refine kl_k [] ⟨i + 1, rfl, by omega, by rw [hF, nestG_drop hx1, g, Bool.true_and], rfl⟩ ⟨ks rfl .dt, ks rfl .dt, ks rfl .dt, ks rfl .dt, trivial⟩
 ·skip
  refine .exit <| ks_e <| kl_e <| kb_hit <| ks_n <| .seq <| .region <| .cons (.mv rfl rfl) <| .cons (.ln 172 2 48 rfl rfl rfl) <| .cons (.le rfl rfl rfl) <| .cons (.asg rfl rfl) <| .nil <| ks_n <| .ret ?_
  refine kf_ret rfl ?_ nobox
  exact leafB (by rw [nsV, hF, List.drop_of_length_le (by omega), nestG, Bool.and_true, Bool.eq_iff_iff]; simp; omega)

theorem specNestV_B (ns : List Lp) (hs : bgN ns) : Fn Tryz.prog 175 [] [vD (dLs ns)] (.o (bo1 (nsV ns))) [] := by
 have hn := hs.1
 refine Fn.code0 Tryz.func175 rfl rfl rfl rfl ?_
 refine .seq <| .region <| .cons (.asg rfl rfl) <| .nil <| ks_n <| .seq <| .seq <| .region <| .cons (.asg rfl rfl) <| .nil <| ks_n <| .block ?_
 refine .loopK (fun m σ => (∃ i : Nat, m = ns.length - i ∧ (i ≤ ns.length) ∧ (nestG 0 ns = nestG i (ns.drop i)) ∧ σ = [(.t 0, .v (.o (vD (dLs ns)))), (.t 3, .v (.o (nat1 (i : Nat))))])) [] ⟨0, rfl, by omega, by simp, rfl⟩ ⟨ks rfl .dt, ks rfl .dt, trivial⟩ ?_
 rintro m σ ⟨i, hm0, hi, hF, rfl⟩
 refine .seq <| .seq <| .region <| .cons (.mv rfl rfl) <| .cons (.mv rfl rfl) <| .cons (.ln 172 2 48 rfl rfl rfl) <| .cons (.ls rfl rfl rfl) <| .cons (.mv rfl rfl) ?_
 refine .cD 8 rfl (fun g8 => ?_) (fun g8 => ?_)
 ·skip
  refine .cons (.gT rfl rfl rfl (.mv rfl rfl)) <| .cons (.gT rfl rfl rfl (.ln 172 2 48 rfl rfl rfl)) <| .cons (.gT rfl rfl rfl (.le rfl rfl rfl)) <| .cons (.pT rfl rfl rfl) <| .nil <| ks_n ?_
  refine ACode.condT rfl (fun h12 => ?_) (fun h12 => ?_)
  ·try simp only [zs1, zs2, zs3, zs4, zs5, zs6, zs7] at h12
   obtain ⟨x, hx1⟩ : ∃ x, ns[i]? = some x := ⟨_, List.getElem?_eq_getElem (by omega)⟩
   have hq := hs.2 x (List.mem_of_getElem? hx1)
   refine .skip <| ks_n <| .seq <| .block <| .seq <| .region <| .cons (.mv rfl rfl) <| .cons (.mv rfl rfl) <| .cons (.xL 172 2 48 rfl rfl rfl rfl rfl) ?_
   refine .cons (.fP 0 0 false rfl rfl) <| .cons (.l1 1 rfl rfl) <| .cons (.mv rfl rfl) <| .cons (.cP [.tmp 19, .tmp 20] rfl rfl rfl rfl (l2Side_fn i _ (Nat.le_trans hq.1 (by omega))) rfl) ?_
   refine .cons (.nt rfl rfl) <| .cons (.mv rfl rfl) ?_
   refine AOps.cases 23 _ rfl (fun g23 => ?_) (fun g23 => ?_)
   ·try simp only [zs1, zs2, zs3, zs4, zs5, zs6, zs7] at g23
    refine .cons (.gF rfl rfl rfl) <| .cons (.gF rfl rfl rfl) <| .cons (.gF rfl rfl rfl) <| .cons (.gF rfl rfl rfl) <| .cons (.gF rfl rfl rfl) <| .cons (.gF rfl rfl rfl) <| .cons (.gF rfl rfl rfl) <| .cons (.gF rfl rfl rfl) <| .cons (.pT rfl rfl rfl) <| .nil <| ks_n ?_
    refine ACode.condT rfl (fun _ => ?_) (fun h => by first | (cases h; done) | (simp [*] at h; done) | (exfalso; simp_all; done))
    refine .seq ?_
    have g : (sideV i x.1 && sideV i x.2) = false := by simp [*]
    refine .region <| .cons (.asg rfl rfl) <| .nil <| ks_n <| .ret <| kb_r <| ks_r <| kl_r <| kb_r <| ks_r ?_
    refine kf_ret rfl ?_ nobox
    exact leafB (by rw [nsV, hF, nestG_drop hx1, g]; simp)
   ·try simp only [zs1, zs2, zs3, zs4, zs5, zs6, zs7] at g23
    refine .cons (.gT rfl rfl rfl (.mv rfl rfl)) <| .cons (.gT rfl rfl rfl (.mv rfl rfl)) <| .cons (.gT rfl rfl rfl (.xL 172 2 48 rfl rfl rfl rfl rfl)) ?_
    refine .cons (.gT rfl rfl rfl (.fP 1 0 false rfl rfl)) <| .cons (.gT rfl rfl rfl (.l1 1 rfl rfl)) <| .cons (.gT rfl rfl rfl (.mv rfl rfl)) <| .cons (.gT rfl rfl rfl (.cP [.tmp 28, .tmp 29] rfl rfl rfl rfl (l2Side_fn i _ (Nat.le_trans hq.2.1 (by omega))) rfl)) ?_
    refine .cons (.gT rfl rfl rfl (.nt rfl rfl)) <| .cons (.pF rfl rfl rfl) <| .nil <| ks_n ?_
    refine ACode.condT rfl (fun h32 => ?_) (fun h32 => ?_)
    ·try simp only [zs1, zs2, zs3, zs4, zs5, zs6, zs7] at h32
     refine .seq ?_
     have g : (sideV i x.1 && sideV i x.2) = false := by simp [*]
     refine .region <| .cons (.asg rfl rfl) <| .nil <| ks_n <| .ret <| kb_r <| ks_r <| kl_r <| kb_r <| ks_r ?_
     refine kf_ret rfl ?_ nobox
     exact leafB (by rw [nsV, hF, nestG_drop hx1, g]; simp)
    ·try simp only [zs1, zs2, zs3, zs4, zs5, zs6, zs7] at h32
     refine .skip <| kb_n <| ks_n ?_
     have g : (sideV i x.1 && sideV i x.2) = true := by simp [*]
     refine .region <| .cons (.mv rfl rfl) <| .cons (.pl rfl rfl rfl) <| .cons (.asg rfl rfl) <| .nil ?_
     refine kl_k [] ⟨i + 1, rfl, by omega, by rw [hF, nestG_drop hx1, g, Bool.true_and], rfl⟩ ⟨ks rfl .dt, ks rfl .dt, trivial⟩
  ·try simp only [zs1, zs2, zs3, zs4, zs5, zs6, zs7] at h12
   refine .exit <| ks_e <| kl_e <| kb_hit <| ks_n <| .seq <| .region <| .cons (.mv rfl rfl) <| .cons (.ln 172 2 48 rfl rfl rfl) <| .cons (.le rfl rfl rfl) <| .cons (.asg rfl rfl) <| .nil <| ks_n <| .ret ?_
   refine kf_ret rfl ?_ nobox
   first | exact leafB (by rw [nsV, hF, List.drop_of_length_le (by omega), nestG, Bool.and_true, Bool.eq_iff_iff]; simp; omega) | exact leafB (by rw [nsV, decide_eq_false (show ¬ ns.length ≤ 4 by omega)]; simp; omega)
 ·skip
  refine .cons (.gF rfl rfl rfl) <| .cons (.gF rfl rfl rfl) <| .cons (.gF rfl rfl rfl) <| .cons (.pF rfl rfl rfl) <| .nil <| ks_n ?_
  refine ACode.condT rfl (fun h => by first | (cases h; done) | (simp [*] at h; done) | (exfalso; simp_all; done)) (fun _ => ?_)
  refine .exit <| ks_e <| kl_e <| kb_hit <| ks_n <| .seq <| .region <| .cons (.mv rfl rfl) <| .cons (.ln 172 2 48 rfl rfl rfl) <| .cons (.le rfl rfl rfl) <| .cons (.asg rfl rfl) <| .nil <| ks_n <| .ret ?_
  refine kf_ret rfl ?_ nobox
  first | exact leafB (by rw [nsV, hF, List.drop_of_length_le (by omega), nestG, Bool.and_true, Bool.eq_iff_iff]; simp; omega) | exact leafB (by rw [nsV, decide_eq_false (show ¬ ns.length ≤ 4 by omega)]; simp; omega)

theorem implNestPts_bad (ns : List Lp) (hs : bgN ns) (hb : nsV ns = false) : Fn Tryz.prog 96 [] [vD (dLs ns)] (.tup [vD (dPs (npR ns)), bo1 (okP ns)]) [] := by
 have hO : okP ns = false := by rw [okP, hb]; rfl
 have hN := npR_no hO
 refine Fn.code0 Tryz.func96 rfl rfl rfl rfl ?_
 refine .seq <| .region <| .cons (.asg rfl rfl) <| .cons (.asg rfl rfl) <| .nil <| ks_n <| .seq <| .seq <| .region <| .cons (.mv rfl rfl) <| .cons (.cP [.tmp 5] rfl rfl rfl rfl (implNestV_B ns hs) rfl) ?_
 refine .cons (.nt rfl rfl) <| .nil <| ks_n ?_
 refine ACode.condT rfl (fun h7 => ?_) (fun h7 => ?_)
 ·try simp only [zs1, zs2, zs3, zs4, zs5, zs6, zs7] at h7
  refine .seq <| .region <| .cons (.asg rfl rfl) <| .cons (.asg rfl rfl) <| .nil <| ks_n <| .ret <| ks_r ?_
  refine kf_wret [(.t 2, .v (.o (vD (dPs (npR ns))))), (.t 3, .v (.o (bo1 (okP ns))))] (Wk.keep [] rfl rfl ⟨ks rfl (.c (Cto.nilE 1 (by rw [hN]; rfl))), ks rfl (.dt (by rw [hO])), trivial⟩) rfl ?_ nobox
  rfl
 ·try simp only [zs1, zs2, zs3, zs4, zs5, zs6, zs7] at h7
  rw [hb] at h7; cases h7

theorem specNestPts_bad (ns : List Lp) (hs : bgN ns) (hb : nsV ns = false) : Fn Tryz.prog 134 [] [vD (dLs ns)] (.tup [vD (dPs (npR ns)), bo1 (okP ns)]) [] := by
 have hO : okP ns = false := by rw [okP, hb]; rfl
 have hN := npR_no hO
 refine Fn.code0 Tryz.func134 rfl rfl rfl rfl ?_
 refine .seq <| .region <| .cons (.asg rfl rfl) <| .cons (.asg rfl rfl) <| .nil <| ks_n <| .seq <| .seq <| .region <| .cons (.mv rfl rfl) <| .cons (.cP [.tmp 5] rfl rfl rfl rfl (specNestV_B ns hs) rfl) ?_
 refine .cons (.nt rfl rfl) <| .cons (.mv rfl rfl) ?_
 refine AOps.cases 8 _ rfl (fun g8 => ?_) (fun g8 => ?_)
 ·try simp only [zs1, zs2, zs3, zs4, zs5, zs6, zs7] at g8
  refine .cons (.gF rfl rfl rfl) <| .cons (.gF rfl rfl rfl) <| .cons (.gF rfl rfl rfl) <| .cons (.pT rfl rfl rfl) <| .nil <| ks_n ?_
  refine ACode.condT rfl (fun _ => ?_) (fun h => by first | (cases h; done) | (simp [*] at h; done) | (exfalso; simp_all; done))
  refine .seq <| .region <| .cons (St1.lit0 (k' := 113) (e := 35) (sz := 1) (b := true) rfl rfl rfl rfl (by kernel_rfl) rfl rfl) ?_
  refine .cons (.asg rfl rfl) <| .cons (.asg rfl rfl) <| .nil <| ks_n <| .ret <| ks_r ?_
  refine kf_wret [(.t 2, .v (.o (vD (dPs (npR ns))))), (.t 3, .v (.o (bo1 (okP ns))))] (Wk.keep [] rfl rfl ⟨ks rfl (.c (.fz rfl (by rw [hN]; first | rfl | simp [dR]) (by rw [hN]; rfl) (by omega))), ks rfl (.dt (by rw [hO])), trivial⟩) rfl ?_ nobox
  rfl
 ·try simp only [zs1, zs2, zs3, zs4, zs5, zs6, zs7] at g8
  rw [hb] at g8; cases g8

theorem implNestPts_B (ns : List Lp) (hs : bgN ns) : Fn Tryz.prog 96 [] [vD (dLs ns)] (.tup [vD (dPs (npR ns)), bo1 (okP ns)]) [] := by
  cases h : nsV ns with
  | true => exact implNestPts_fn ns (smN_of h)
  | false => exact implNestPts_bad ns hs h

theorem specNestPts_B (ns : List Lp) (hs : bgN ns) : Fn Tryz.prog 134 [] [vD (dLs ns)] (.tup [vD (dPs (npR ns)), bo1 (okP ns)]) [] := by
  cases h : nsV ns with
  | true => exact specNestPts_fn ns (smN_of h)
  | false => exact specNestPts_bad ns hs h
theorem sz_bg {ns : List Lp} (h : szLs ns ≤ 1073741824) : bgN ns := by
  have hl := szLs_len ns
  refine ⟨by omega, fun l hl2 => ?_⟩
  have h1 := szLs_mem hl2
  have e : szL l = szAs l.1 + szAs l.2 := rfl
  have a1 := szAs_len l.1
  have a2 := szAs_len l.2
  exact ⟨by omega, by omega, fun x hx => by have := szAs_mem hx; omega, fun x hx => by have := szAs_mem hx; omega⟩
theorem mem_rdEs {a : Acc} : ∀ {l : List Ex}, a ∈ rdEs l → ∃ x ∈ l, a ∈ rdE x
  | [], h => by rw [rdEs] at h; cases h
  | x :: l, h => by
    rw [rdEs, List.mem_append] at h
    rcases h with h | h
    · exact ⟨x, by simp, h⟩
    · obtain ⟨y, hy, h2⟩ := mem_rdEs h
      exact ⟨y, by simp [hy], h2⟩
theorem rdE_acc {d : Nat} {a : Acc} : ∀ {L : Nat} {e : Ex}, exV d L e = true → a ∈ rdE e → accV d a = true
  | 0, e, h, _ => by cases h
  | L + 1, e, h, ha => by
    rw [exV, Bool.and_eq_true, Bool.and_eq_true] at h
    rw [rdE_eq, List.mem_append] at ha
    rcases ha with ha | ha
    · split at ha
      · rename_i hk
        have h2 := h.1.2
        rw [fldV, if_neg (by omega), if_neg (by omega), if_pos hk, Bool.and_eq_true] at h2
        rw [List.mem_singleton.1 ha]; exact h2.2
      · cases ha
    · obtain ⟨x, hx, h3⟩ := mem_rdEs ha
      exact rdE_acc (List.all_eq_true.1 h.2 x hx) h3
theorem stm_accs {D : Int} {s : Stm} (h : stmtV D s = true) : accV D.toNat s.1 = true ∧ (∀ a ∈ rdE s.2, accV D.toNat a = true) ∧ (rdE s.2).length ≤ 12 := by
  obtain ⟨h1, h2, h3, _⟩ := stmtV_ex h
  exact ⟨h2, fun a ha => rdE_acc h1 ha, Nat.le_trans (rdE_len s.2) h3⟩
theorem accG_not {ar : List Arr} {p : List Int} : (fun a => decide (cellG a p ar 0 < 0)) = fun a => !accG ar p a := by
  funext a; rw [accG, Bool.eq_iff_iff]; simp
theorem cloneInts_fn (p : List Int) (hp : p.length ≤ 4294967296) : Fn Tryz.prog 102 [] [vD (dIs p)] (.o (vD (dIs p))) [] :=
  Fn.pure fun B bx al w vs hv => by
    obtain ⟨v, rfl, h⟩ := vals1 hv
    have h3 := dr_ints h
    obtain ⟨a, n, c, rfl, rfl⟩ := sl_form h3
    exact (clone_any B a _ c p w h3 hp).mono fun e w' ⟨v, h1, h2, h4⟩ => ⟨_, h1, h4, ints_dr ((h2.sl (by omega)).mono fun b hb _ => .inr (h2.lt b hb).1)⟩

theorem idx_stm {f : FuncId} {cap : List (List D)} (hc : callable Tryz.prog f = true) (p : Stm → Bool) (xs : List Stm) (hx : xs.length ≤ 1099511627776) (hf : ∀ x ∈ xs, Fn Tryz.prog f [] (ad (rS x) :: cap.map fun c => .c (.ptr c)) (.o (bo1 (p x))) []) : Fn Tryz.prog 147 [] [vD (.list 9 (xs.map rS)), .c (.fn f cap)] (.o (nat1 (idxF p xs))) [] := by
 refine Fn.code0 Tryz.func147 rfl rfl rfl rfl ?_
 refine .seq <| .region <| .cons (.asg rfl rfl) <| .nil <| ks_n <| .seq <| .seq <| .region <| .cons (.mv rfl rfl) <| .cons (.ln 96 9 152 rfl rfl rfl) <| .cons (.mv rfl rfl) <| .nil <| ks_n <| .block ?_
 refine .loopK (fun m σ => (∃ i : Nat, m = xs.length - i ∧ (i ≤ xs.length) ∧ (idxF p xs = idxG p i (xs.drop i)) ∧ σ = [(.t 0, .v (.o (vD (.list 9 (xs.map rS))))), (.t 1, .v (.o (.c (.fn f cap)))), (.t 7, .v (.o (nat1 (xs.length : Nat)))), (.t 8, .v (.o (nat1 (i : Nat))))])) [] ⟨0, rfl, by omega, rfl, rfl⟩ ⟨ks rfl .dt, ks rfl .dt, ks rfl .dt, ks rfl .dt, trivial⟩ ?_
 rintro m σ ⟨i, hm0, hi, hF, rfl⟩
 refine .seq <| .region <| .cons (.ls rfl rfl rfl) <| .nil <| ks_n <| .seq ?_
 refine .cD rfl (fun h9 => ?_) (fun h9 => ?_)
 ·skip
  obtain ⟨x, hx1⟩ : ∃ x_, xs[i]? = some x_ := ⟨_, List.getElem?_eq_getElem (by omega)⟩
  refine .skip <| ks_n <| .seq <| .block <| .seq <| .region <| .cons (.mv rfl rfl) <| .cons (.asg rfl rfl) <| .nil <| ks_n <| .seq <| .region <| .cons (.mv rfl rfl) <| .cons (.mv rfl rfl) <| .cons (.mv rfl rfl) <| .cons (.xL 96 9 152 rfl rfl rfl rfl rfl) ?_
  refine .cons (.lN 9 rfl rfl rfl) <| .cons (.cP [.tmp 15] rfl rfl rfl rfl (hf x (List.mem_of_getElem? hx1)) rfl hc) ?_
  refine .nil <| ks_n ?_
  refine ACode.condT rfl (fun h16 => ?_) (fun h16 => ?_)
  ·try simp only [zs1, zs2, zs3, zs4, zs5, zs6, zs7] at h16
   refine .seq <| .region <| .cons (.mv rfl rfl) <| .cons (.asg rfl rfl) <| .nil <| ks_n <| .ret <| kb_r <| ks_r <| kl_r <| kb_r <| ks_r ?_
   refine kf_ret rfl ?_ nobox
   exact leafI (by rw [hF, idxG_drop hx1, h16]; rfl)
  ·try simp only [zs1, zs2, zs3, zs4, zs5, zs6, zs7] at h16
   refine .skip <| kb_n <| ks_n <| .region <| .cons (.pl rfl rfl rfl) <| .cons (.mv rfl rfl) <| .nil ?_
   refine kl_k [] ⟨i + 1, rfl, by omega, by rw [hF, idxG_drop hx1, h16]; rfl, rfl⟩ ⟨ks rfl .dt, ks rfl .dt, ks rfl .dt, ks rfl .dt, trivial⟩
 ·skip
  refine .exit <| ks_e <| kl_e <| kb_hit <| ks_n <| .seq <| .region <| .cons (.asg rfl rfl) <| .nil <| ks_n <| .ret ?_
  refine kf_ret rfl ?_ nobox
  exact leafI (by rw [hF, List.drop_of_length_le (by omega)]; rfl)

theorem cnt_stm {f : FuncId} {cap : List (List D)} (hc : callable Tryz.prog f = true) (p : Stm → Bool) (xs : List Stm) (hx : xs.length ≤ 1099511627776) (hf : ∀ x ∈ xs, Fn Tryz.prog f [] (ad (rS x) :: cap.map fun c => .c (.ptr c)) (.o (bo1 (p x))) []) : Fn Tryz.prog 97 [] [vD (.list 9 (xs.map rS)), .c (.fn f cap)] (.o (bo1 (xs.any p))) [] := by
  refine Fn.code0 Tryz.func97 rfl rfl rfl rfl ?_
  refine .seq <| .region <| .cons (.asg rfl rfl) <| .nil <| ks_n <| .seq <| .region <| .cons (.mv rfl rfl) <| .cons (.mv rfl rfl) <| .cons (.cP [.tmp 5, .tmp 6] rfl rfl rfl rfl (idx_stm hc p xs hx hf) rfl) ?_
  refine .cons (.ge rfl rfl rfl) <| .cons (.asg rfl rfl) <| .nil <| ks_n <| .ret ?_
  refine kf_ret rfl ?_ nobox
  exact leafB idxG_any

theorem sok1_fn {g : Prg} (hv : arrsV g.1 = true) {D : Nat} {a : Acc} {p : List Int} (ha : accV D a = true) (hS : Small p) (hn : p.length ≤ 4) : Fn Tryz.prog 152 [] [ad (rC a), .c (.ptr (rG g)), .c (.ptr [dIs p])] (.o (bo1 (decide (cellG a p g.1 0 < 0)))) [] := by
  refine Fn.code0 Tryz.func152 rfl rfl rfl rfl ?_
  refine .seq <| .region <| .cons (St1.boxP rfl rfl rfl rfl rfl rfl) <| .cons (.asg rfl rfl) <| .nil <| ks_n <| .seq <| .region <| .cons (.lN 2 rfl rfl rfl) <| .cons (.lN 2 rfl rfl rfl) <| .cons (.l1 1 rfl rfl) <| .cons (.cP [.tmp 5, .tmp 6, .tmp 7] rfl rfl rfl rfl (cell_fn hv ha hS hn) rfl) ?_
  refine .cons (.ls rfl rfl rfl) <| .cons (.asg rfl rfl) <| .nil <| ks_n <| .ret ?_
  refine kf_ret rfl ?_ nobox
  rfl

theorem sok_fn {g : Prg} (hv : arrsV g.1 = true) {D : Int} {s : Stm} {p : List Int} (hs : stmtV D s = true) (hS : Small p) (hn : p.length ≤ 4) : Fn Tryz.prog 101 [] [ad (rG g), ad (rS s), vD (dIs p)] (.o (bo1 (stmG g.1 s p))) [] := by
  obtain ⟨ha, hr, hrl⟩ := stm_accs hs
  refine Fn.code0 Tryz.func101 rfl rfl rfl rfl ?_
  refine .seq <| .region <| .cons (St1.boxP rfl rfl rfl rfl rfl rfl) <| .cons (St1.boxP rfl rfl rfl rfl rfl rfl) <| .cons (St1.boxP rfl rfl rfl rfl rfl rfl) <| .cons (.asg rfl rfl) <| .nil <| ks_n <| .seq <| .region <| .cons (.lN 2 rfl rfl rfl) <| .cons (.fP 0 1 true rfl rfl) <| .cons (.lN 2 rfl rfl rfl) <| .cons (.l1 1 rfl rfl) <| .cons (.cP [.tmp 7, .tmp 9, .tmp 10] rfl rfl rfl rfl (cell_fn hv ha hS hn) rfl) ?_
  refine .cons (.ge rfl rfl rfl) <| .cons (.mv rfl rfl) ?_
  refine .cD 13 rfl (fun g13 => ?_) (fun g13 => ?_)
  · skip
    refine .cons (.gT rfl rfl rfl (.fP 2 6 true rfl rfl)) <| .cons (.gT rfl rfl rfl (.lN 7 rfl rfl rfl)) <| .cons (.gT rfl rfl rfl (.cP [.tmp 15] rfl rfl rfl rfl (reads_fn (L := 5) s.2 (by omega) (stmtV_ex hs).1) rfl)) ?_
    refine .cons (.gT rfl rfl rfl (St1.makeFunc (xs := [.tmp 3, .tmp 5]) rfl rfl rfl rfl rfl rfl rfl)) <| .cons (.gT rfl rfl rfl (.cP [.tmp 16, .tmp 17] rfl rfl rfl rfl (cnt_acc (f := 152) (cap := [rG g, [dIs p]]) (by kernel_rfl) (fun a => decide (cellG a p g.1 0 < 0)) (rdE s.2) (by omega) (fun a ha => sok1_fn hv (hr a ha) hS hn)) rfl)) ?_
    refine .cons (.gT rfl rfl rfl (.nt rfl rfl)) <| .cons (.pT rfl rfl rfl) <| .cons (.asg rfl rfl) <| .nil <| ks_n <| .ret ?_
    refine kf_ret rfl ?_ nobox
    exact leafB (by rw [stmG, accG]; first | (rw [accG_not, nany]; simp [*]; done) | (simp [*]; done))
  · skip
    refine .cons (.gF rfl rfl rfl) <| .cons (.gF rfl rfl rfl) <| .cons (.gF rfl rfl rfl) <| .cons (.gF rfl rfl rfl) <| .cons (.gF rfl rfl rfl) <| .cons (.gF rfl rfl rfl) <| .cons (.pF rfl rfl rfl) <| .cons (.asg rfl rfl) <| .nil <| ks_n <| .ret ?_
    refine kf_ret rfl ?_ nobox
    exact leafB (by rw [stmG, accG]; first | (rw [accG_not, nany]; simp [*]; done) | (simp [*]; done))

theorem ins1_fn {q : Prt} {s : Stm} (hs : szS s ≤ 1073741824) : Fn Tryz.prog 98 [] [ad (rS s), .c (.ptr (rP q))] (.o (bo1 (!stmtV (q.1.length : Nat) s))) [] := by
  refine Fn.code0 Tryz.func98 rfl rfl rfl rfl ?_
  refine .seq <| .region <| .cons (St1.boxP rfl rfl rfl rfl rfl rfl) <| .cons (.asg rfl rfl) <| .nil <| ks_n <| .seq <| .region <| .cons (.lN 9 rfl rfl rfl) <| .cons (.fP 0 0 false rfl rfl) <| .cons (.l1 1 rfl rfl) <| .cons (.ln 172 2 48 rfl rfl rfl) <| .cons (.cP [.tmp 4, .tmp 7] rfl rfl rfl rfl (implStmtV_fn (q.1.length : Nat) s (by omega)) rfl) ?_
  refine .cons (.nt rfl rfl) <| .cons (.asg rfl rfl) <| .nil <| ks_n <| .ret ?_
  refine kf_ret rfl ?_ nobox
  rfl
theorem all_of {α : Type} {l : List α} {p : α → Bool} (h : ∀ (j : Nat) x, l[j]? = some x → p x = true) : l.all p = true := by
  rw [List.all_eq_true]
  intro x hx
  obtain ⟨j, hj⟩ := List.mem_iff_getElem?.1 hx
  exact h j x hj

theorem instances_fn {g : Prg} (hs : szG g ≤ 1073741824) : Fn Tryz.prog 56 [] [ad (rG g)] (.tup [vD (dNs (insV g)), bo1 (prgV g)]) [] := by
 have h1 := szO_len (f := szR) g.1
 have h2 := szO_len (f := szPt) g.2
 have hsz : szG g = szO szR g.1 + szO szPt g.2 := rfl
 refine Fn.code0 Tryz.func56 rfl rfl rfl rfl ?_
 refine .seq <| .region <| .cons (St1.boxP rfl rfl rfl rfl rfl rfl) <| .cons (.asg rfl rfl) <| .cons (.asg rfl rfl) <| .nil <| ks_n <| .seq <| .seq <| .region <| .cons (.fP 0 0 false rfl rfl) <| .cons (.l1 1 rfl rfl) <| .cons (.cP [.tmp 14] rfl rfl rfl rfl (arraysOk_fn g.1 (by omega) (fun x hx => by have := szO_mem (f := szR) hx; have e : szR x = x.1.size + x.2.length := rfl; omega)) rfl) ?_
 refine .cons (.nt rfl rfl) <| .cons (.mv rfl rfl) ?_
 refine AOps.cases 17 _ rfl (fun g17 => ?_) (fun g17 => ?_)
 ·try simp only [zs1, zs2, zs3, zs4, zs5, zs6, zs7] at g17
  refine .cons (.gF rfl rfl rfl) <| .cons (.gF rfl rfl rfl) <| .cons (.gF rfl rfl rfl) <| .cons (.gF rfl rfl rfl) <| .cons (.pT rfl rfl rfl) <| .nil <| ks_n ?_
  refine ACode.condT rfl (fun _ => ?_) (fun h => by first | (cases h; done) | (simp [*] at h; done) | (exfalso; simp_all; done))
  refine .seq ?_
  obtain ⟨hO, hN⟩ := prgV_f (g := g) (by first | exact prgS_f2 (show ¬ g.2.length ≤ 4 by omega) | exact prgS_f1 (by assumption))
  refine .region <| .cons (.asg rfl rfl) <| .cons (.asg rfl rfl) <| .nil <| ks_n <| .ret <| ks_r ?_
  refine kf_wret [(.t 2, .v (.o (vD (dNs (insV g))))), (.t 3, .v (.o (bo1 (prgV g))))] (Wk.keep [] rfl rfl ⟨ks rfl (.c (Cto.nilE 3 (by first | (rw [hN]; rfl) | (rw [hN, hEz]; rfl)))), ks rfl (.dt (by first | exact congrArg (fun b => V.o (bo1 b)) hO.symm | exact congrArg (fun b => V.o (bo1 b)) (by rw [hO, hEz, decide_eq_decide]; simp) | exact congrArg (fun b => V.o (bo1 b)) (by rw [hO, hEz, decide_eq_decide]; omega))), trivial⟩) rfl ?_ nobox
  rfl
 ·try simp only [zs1, zs2, zs3, zs4, zs5, zs6, zs7] at g17
  refine .cons (.gT rfl rfl rfl (.fP 1 0 false rfl rfl)) <| .cons (.gT rfl rfl rfl (.l1 1 rfl rfl)) <| .cons (.gT rfl rfl rfl (.ln 104 2 48 rfl rfl rfl)) <| .cons (.gT rfl rfl rfl (.gt rfl rfl rfl)) <| .cons (.pF rfl rfl rfl) <| .nil <| ks_n ?_
  refine ACode.condT rfl (fun h22 => ?_) (fun h22 => ?_)
  ·try simp only [zs1, zs2, zs3, zs4, zs5, zs6, zs7] at h22
   refine .seq ?_
   obtain ⟨hO, hN⟩ := prgV_f (g := g) (by first | exact prgS_f2 (show ¬ g.2.length ≤ 4 by omega) | exact prgS_f1 (by assumption))
   refine .region <| .cons (.asg rfl rfl) <| .cons (.asg rfl rfl) <| .nil <| ks_n <| .ret <| ks_r ?_
   refine kf_wret [(.t 2, .v (.o (vD (dNs (insV g))))), (.t 3, .v (.o (bo1 (prgV g))))] (Wk.keep [] rfl rfl ⟨ks rfl (.c (Cto.nilE 3 (by first | (rw [hN]; rfl) | (rw [hN, hEz]; rfl)))), ks rfl (.dt (by first | exact congrArg (fun b => V.o (bo1 b)) hO.symm | exact congrArg (fun b => V.o (bo1 b)) (by rw [hO, hEz, decide_eq_decide]; simp) | exact congrArg (fun b => V.o (bo1 b)) (by rw [hO, hEz, decide_eq_decide]; omega))), trivial⟩) rfl ?_ nobox
   rfl
  ·try simp only [zs1, zs2, zs3, zs4, zs5, zs6, zs7] at h22
   have hA : arrsV g.1 = true := by first | assumption | simp_all
   have h4 : g.2.length ≤ 4 := by omega
   refine .skip <| ks_n <| .seq <| .region <| .cons (.asg rfl rfl) <| .nil <| ks_n <| .seq <| .seq <| .region <| .cons (.fP 1 0 false rfl rfl) <| .cons (.l1 1 rfl rfl) <| .cons (.ln 104 2 48 rfl rfl rfl) <| .cons (.mv rfl rfl) <| .nil <| ks_n <| .block ?_
   refine .loopK (fun m σ => (∃ k : Nat, m = g.2.length - k ∧ (k ≤ g.2.length) ∧ (∀ j q, j < k → g.2[j]? = some q → prtV g.1 q = true) ∧ (insG 0 (g.2.take k) = []) ∧ σ = [(.t 1, .v (.o (.c (.ptr (rG g))))), (.t 4, .v (.o (.c (.d (.val (.slice none 0 0)))))), (.t 24, .v (.o (vD (dPts g.2)))), (.t 25, .v (.o (nat1 (g.2.length : Nat)))), (.t 26, .v (.o (nat1 (k : Nat))))]) ∨ (∃ (k : Nat) (o : List Ins), m = g.2.length - k ∧ (k ≤ g.2.length) ∧ (∀ j q, j < k → g.2[j]? = some q → prtV g.1 q = true) ∧ (insG 0 (g.2.take k) = o) ∧ (o.length ≤ 480 * k) ∧ σ = [(.t 1, .v (.o (.c (.ptr (rG g))))), (.t 4, .v (.o (.c (.own 110 3 (o.length))))), (.t 24, .v (.o (vD (dPts g.2)))), (.t 25, .v (.o (nat1 (g.2.length : Nat)))), (.t 26, .v (.o (nat1 (k : Nat)))), (.b 110, .b 86 3 (dR (o.map rN))), (.u 110, .u)])) [] (.inl ⟨0, rfl, by omega, fun j q hj _ => absurd hj (by omega), rfl, rfl⟩) ⟨ks rfl .dt, ks rfl .dt, ks rfl .dt, ks rfl .dt, ks rfl .dt, trivial⟩ ?_
   rintro m σ (⟨k, hm0, hk, hF, hE, rfl⟩ | ⟨k, o, hm0, hk, hF, hE, ho, rfl⟩)
   ·skip
    refine .seq <| .region <| .cons (.ls rfl rfl rfl) <| .nil <| ks_n <| .seq ?_
    refine .cD rfl (fun h27 => ?_) (fun h27 => ?_)
    ·skip
     obtain ⟨q, hq1⟩ : ∃ x_, g.2[k]? = some x_ := ⟨_, List.getElem?_eq_getElem (by omega)⟩
     have hqm := List.mem_of_getElem? hq1
     have hqs := szO_mem (f := szPt) hqm
     have hqe : szPt q = szLs q.1 + szO szS q.2 := rfl
     have hbg := sz_bg (ns := q.1) (by omega)
     have hql := szO_len (f := szS) q.2
     refine .skip <| ks_n <| .seq <| .block <| .seq <| .region <| .cons (.mv rfl rfl) <| .cons (.xL 104 2 48 rfl rfl rfl rfl rfl) ?_
     refine .cons (.lN 2 rfl rfl rfl) <| .cons (.al 106 [.slice none 0 0, .slice none 0 0] rfl rfl rfl) <| .cons (.asg rfl rfl) <| .cons (.sT 2 true rfl rfl rfl rfl rfl rfl rfl) <| .nil <| ks_n <| .seq ?_
     refine .keep [(.t 1, .v (.o (.c (.ptr (rG g))))), (.t 4, .v (.o (.c (.d (.val (.slice none 0 0)))))), (.t 5, .v (.o (nat1 (k : Nat)))), (.t 6, .v (.o (.c (.ptr (rP q))))), (.t 24, .v (.o (vD (dPts g.2)))), (.t 25, .v (.o (nat1 (g.2.length : Nat)))), (.t 26, .v (.o (nat1 (k : Nat))))] [] ⟨ks rfl .dt, ks rfl .dt, ks rfl .dt, ks rfl (.c (.frzP _ _ _ _ _ _ _ _ rfl (show _ = dR [rP q] from rfl) rfl rfl rfl)), ks rfl .dt, ks rfl .dt, ks rfl .dt, trivial⟩ ?_
     refine .region <| .cons (.fP 0 0 false rfl rfl) <| .cons (.l1 1 rfl rfl) <| .cons (.cP [.tmp 33] rfl rfl rfl rfl (implNestPts_B q.1 hbg) rfl) ?_
     refine .cons (.mv rfl rfl) <| .cons (.ex rfl rfl rfl) <| .cons (.ex rfl rfl rfl) <| .cons (.asg rfl rfl) <| .cons (.asg rfl rfl) <| .nil <| ks_n <| .seq <| .seq <| .region <| .cons (.mv rfl rfl) <| .cons (.nt rfl rfl) <| .cons (.mv rfl rfl) ?_
     refine AOps.cases 39 _ rfl (fun g39 => ?_) (fun g39 => ?_)
     ·try simp only [zs1, zs2, zs3, zs4, zs5, zs6, zs7] at g39
      refine .cons (.gF rfl rfl rfl) <| .cons (.gF rfl rfl rfl) <| .cons (.gF rfl rfl rfl) <| .cons (.gF rfl rfl rfl) <| .cons (.gF rfl rfl rfl) <| .cons (.pT rfl rfl rfl) <| .cons (.mv rfl rfl) <| .cons (.gF rfl rfl rfl) <| .cons (.gF rfl rfl rfl) <| .cons (.gF rfl rfl rfl) <| .cons (.gF rfl rfl rfl) <| .cons (.pT rfl rfl rfl) <| .nil <| ks_n ?_
      refine ACode.condT rfl (fun _ => ?_) (fun h => by first | (cases h; done) | (simp [*] at h; done) | (exfalso; simp_all; done))
      refine .seq ?_
      have hbad : prtV g.1 q = false := by first | exact prtV_f1 (by assumption) | exact prtV_f2 (fun h => by simp_all [inB]; omega) | (obtain ⟨s, hs, hs2⟩ := List.any_eq_true.1 (by assumption); exact prtV_f3 hs (by simpa using hs2))
      obtain ⟨hO, hN⟩ := prgV_f (g := g) (prgS_f3 hqm hbad)
      refine .region <| .cons (.asg rfl rfl) <| .cons (.asg rfl rfl) <| .nil <| ks_n <| .ret <| ks_r <| kb_r <| ks_r <| kl_r <| kb_r <| ks_r ?_
      refine kf_wret [(.t 2, .v (.o (vD (dNs (insV g))))), (.t 3, .v (.o (bo1 (prgV g))))] (Wk.keep [] rfl rfl ⟨ks rfl (.c (Cto.nilE 3 (by first | (rw [hN]; rfl) | (rw [hN, hEz]; rfl)))), ks rfl (.dt (by first | exact congrArg (fun b => V.o (bo1 b)) hO.symm | exact congrArg (fun b => V.o (bo1 b)) (by rw [hO, hEz, decide_eq_decide]; simp) | exact congrArg (fun b => V.o (bo1 b)) (by rw [hO, hEz, decide_eq_decide]; omega))), trivial⟩) rfl ?_ nobox
      rfl
     ·try simp only [zs1, zs2, zs3, zs4, zs5, zs6, zs7] at g39
      refine .cons (.gT rfl rfl rfl (.fP 1 0 false rfl rfl)) <| .cons (.gT rfl rfl rfl (.l1 1 rfl rfl)) <| .cons (.gT rfl rfl rfl (.ln 96 9 152 rfl rfl rfl)) <| .cons (.gT rfl rfl rfl (.cP [.tmp 42, .const (.int .i64 (1)), .const (.int .i64 (4))] rfl rfl rfl rfl (within_fn _ 1 4) rfl)) ?_
      refine .cons (.gT rfl rfl rfl (.nt rfl rfl)) <| .cons (.pF rfl rfl rfl) <| .cons (.mv rfl rfl) ?_
      refine AOps.cases 46 _ rfl (fun g46 => ?_) (fun g46 => ?_)
      ·try simp only [zs1, zs2, zs3, zs4, zs5, zs6, zs7] at g46
       refine .cons (.gF rfl rfl rfl) <| .cons (.gF rfl rfl rfl) <| .cons (.gF rfl rfl rfl) <| .cons (.gF rfl rfl rfl) <| .cons (.pT rfl rfl rfl) <| .nil <| ks_n ?_
       refine ACode.condT rfl (fun _ => ?_) (fun h => by first | (cases h; done) | (simp [*] at h; done) | (exfalso; simp_all; done))
       refine .seq ?_
       have hbad : prtV g.1 q = false := by first | exact prtV_f1 (by assumption) | exact prtV_f2 (fun h => by simp_all [inB]; omega) | (obtain ⟨s, hs, hs2⟩ := List.any_eq_true.1 (by assumption); exact prtV_f3 hs (by simpa using hs2))
       obtain ⟨hO, hN⟩ := prgV_f (g := g) (prgS_f3 hqm hbad)
       refine .region <| .cons (.asg rfl rfl) <| .cons (.asg rfl rfl) <| .nil <| ks_n <| .ret <| ks_r <| kb_r <| ks_r <| kl_r <| kb_r <| ks_r ?_
       refine kf_wret [(.t 2, .v (.o (vD (dNs (insV g))))), (.t 3, .v (.o (bo1 (prgV g))))] (Wk.keep [] rfl rfl ⟨ks rfl (.c (Cto.nilE 3 (by first | (rw [hN]; rfl) | (rw [hN, hEz]; rfl)))), ks rfl (.dt (by first | exact congrArg (fun b => V.o (bo1 b)) hO.symm | exact congrArg (fun b => V.o (bo1 b)) (by rw [hO, hEz, decide_eq_decide]; simp) | exact congrArg (fun b => V.o (bo1 b)) (by rw [hO, hEz, decide_eq_decide]; omega))), trivial⟩) rfl ?_ nobox
       rfl
      ·try simp only [zs1, zs2, zs3, zs4, zs5, zs6, zs7] at g46
       refine .cons (.gT rfl rfl rfl (.fP 1 0 false rfl rfl)) <| .cons (.gT rfl rfl rfl (.l1 1 rfl rfl)) <| .cons (.gT rfl rfl rfl (St1.makeFunc (xs := [.tmp 6]) rfl rfl rfl rfl rfl rfl rfl)) <| .cons (.gT rfl rfl rfl (.cP [.tmp 48, .tmp 49] rfl rfl rfl rfl (cnt_stm (f := 98) (cap := [rP q]) (by kernel_rfl) (fun s => !stmtV (q.1.length : Nat) s) q.2 (by omega) (fun s hs => ins1_fn (by have := szO_mem (f := szS) hs; omega))) rfl)) ?_
       refine .cons (.pF rfl rfl rfl) <| .nil <| ks_n ?_
       refine ACode.condT rfl (fun h51 => ?_) (fun h51 => ?_)
       ·try simp only [zs1, zs2, zs3, zs4, zs5, zs6, zs7] at h51
        refine .seq ?_
        have hbad : prtV g.1 q = false := by first | exact prtV_f1 (by assumption) | exact prtV_f2 (fun h => by simp_all [inB]; omega) | (obtain ⟨s, hs, hs2⟩ := List.any_eq_true.1 (by assumption); exact prtV_f3 hs (by simpa using hs2))
        obtain ⟨hO, hN⟩ := prgV_f (g := g) (prgS_f3 hqm hbad)
        refine .region <| .cons (.asg rfl rfl) <| .cons (.asg rfl rfl) <| .nil <| ks_n <| .ret <| ks_r <| kb_r <| ks_r <| kl_r <| kb_r <| ks_r ?_
        refine kf_wret [(.t 2, .v (.o (vD (dNs (insV g))))), (.t 3, .v (.o (bo1 (prgV g))))] (Wk.keep [] rfl rfl ⟨ks rfl (.c (Cto.nilE 3 (by first | (rw [hN]; rfl) | (rw [hN, hEz]; rfl)))), ks rfl (.dt (by first | exact congrArg (fun b => V.o (bo1 b)) hO.symm | exact congrArg (fun b => V.o (bo1 b)) (by rw [hO, hEz, decide_eq_decide]; simp) | exact congrArg (fun b => V.o (bo1 b)) (by rw [hO, hEz, decide_eq_decide]; omega))), trivial⟩) rfl ?_ nobox
        rfl
       ·try simp only [zs1, zs2, zs3, zs4, zs5, zs6, zs7] at h51
        have hv1 : okP q.1 = true := by first | assumption | simp_all
        have hv2 : 1 ≤ q.2.length ∧ q.2.length ≤ 4 := by simp_all [inB]; omega
        have hv3 : ∀ s ∈ q.2, stmtV (q.1.length : Nat) s = true := by simp_all
        refine .skip <| ks_n <| .seq <| .region <| .cons (.mv rfl rfl) <| .cons (.ln 35 1 24 rfl rfl rfl) <| .cons (.mv rfl rfl) <| .nil <| ks_n <| .block ?_
        refine .loopK (fun m σ => (∃ i : Nat, m = (npR q.1).length - i ∧ (i = 0) ∧ σ = [(.t 1, .v (.o (.c (.ptr (rG g))))), (.t 4, .v (.o (.c (.d (.val (.slice none 0 0)))))), (.t 5, .v (.o (nat1 (k : Nat)))), (.t 6, .v (.o (.c (.ptr (rP q))))), (.t 24, .v (.o (vD (dPts g.2)))), (.t 25, .v (.o (nat1 (g.2.length : Nat)))), (.t 26, .v (.o (nat1 (k : Nat)))), (.t 52, .v (.o (vD (dPs (npR q.1))))), (.t 53, .v (.o (nat1 ((npR q.1).length : Nat)))), (.t 54, .v (.o (nat1 (i : Nat))))]) ∨ (∃ (i : Nat) (o2 : List Ins), m = (npR q.1).length - i ∧ (i ≤ (npR q.1).length) ∧ (∀ j p, j < i → (npR q.1)[j]? = some p → ptG' g.1 q.2 p = true) ∧ ([] ++ insT k q.2.length ((npR q.1).take i) = o2) ∧ (o2.length ≤ 480 * k + 4 * i) ∧ σ = [(.t 1, .v (.o (.c (.ptr (rG g))))), (.t 4, .v (.o (.c (.own 120 3 (o2.length))))), (.t 5, .v (.o (nat1 (k : Nat)))), (.t 6, .v (.o (.c (.ptr (rP q))))), (.t 24, .v (.o (vD (dPts g.2)))), (.t 25, .v (.o (nat1 (g.2.length : Nat)))), (.t 26, .v (.o (nat1 (k : Nat)))), (.t 52, .v (.o (vD (dPs (npR q.1))))), (.t 53, .v (.o (nat1 ((npR q.1).length : Nat)))), (.t 54, .v (.o (nat1 (i : Nat)))), (.b 120, .b 86 3 (dR (o2.map rN))), (.u 120, .u)])) [] (.inl ⟨0, rfl, rfl, rfl⟩) ⟨ks rfl .dt, ks rfl .dt, ks rfl .dt, ks rfl .dt, ks rfl .dt, ks rfl .dt, ks rfl .dt, ks rfl .dt, ks rfl .dt, ks rfl .dt, trivial⟩ ?_
        rintro m σ (⟨i, hm0, rfl, rfl⟩ | ⟨i, o2, hm0, hi, hG, hEo, ho2, rfl⟩)
        ·skip
         refine .seq <| .region <| .cons (.ls rfl rfl rfl) <| .nil <| ks_n <| .seq ?_
         refine .cD rfl (fun h55 => ?_) (fun h55 => ?_)
         ·skip
          obtain ⟨p, hp1⟩ : ∃ x_, (npR q.1)[0]? = some x_ := ⟨_, List.getElem?_eq_getElem (by omega)⟩
          have hpm := List.mem_of_getElem? hp1
          have hpt := npR_pt hpm
          have hnl := npR_len q.1
          refine .skip <| ks_n <| .seq <| .block <| .seq <| .region <| .cons (.xL 35 1 24 rfl rfl rfl rfl rfl) ?_
          refine .cons (.l1 1 rfl rfl) <| .cons (.asg rfl rfl) <| .nil <| ks_n <| .seq <| .seq <| .region <| .cons (.mv rfl rfl) <| .cons (.cP [.tmp 58] rfl rfl rfl rfl (isPoint_fn _) rfl) ?_
          refine .cons (.nt rfl rfl) <| .nil <| ks_n ?_
          refine ACode.condT rfl (fun h60 => ?_) (fun h60 => ?_)
          ·try simp only [zs1, zs2, zs3, zs4, zs5, zs6, zs7] at h60
           refine .seq ?_
           obtain ⟨hO, hN⟩ := prgV_f (g := g) (prgS_f3 hqm (prtV_f4 hpm (by assumption)))
           refine .region <| .cons (.asg rfl rfl) <| .cons (.asg rfl rfl) <| .nil <| ks_n <| .ret <| ks_r <| kb_r <| ks_r <| kl_r <| kb_r <| kb_r <| ks_r <| kl_r <| kb_r <| ks_r ?_
           refine kf_wret [(.t 2, .v (.o (vD (dNs (insV g))))), (.t 3, .v (.o (bo1 (prgV g))))] (Wk.keep [] rfl rfl ⟨ks rfl (.c (Cto.nilE 3 (by first | (rw [hN]; rfl) | (rw [hN, hEz]; rfl)))), ks rfl (.dt (by first | exact congrArg (fun b => V.o (bo1 b)) hO.symm | exact congrArg (fun b => V.o (bo1 b)) (by rw [hO, hEz, decide_eq_decide]; simp) | exact congrArg (fun b => V.o (bo1 b)) (by rw [hO, hEz, decide_eq_decide]; omega))), trivial⟩) rfl ?_ nobox
           rfl
          ·try simp only [zs1, zs2, zs3, zs4, zs5, zs6, zs7] at h60
           refine .skip <| ks_n <| .seq <| .region <| .cons (.fP 1 0 false rfl rfl) <| .cons (.l1 1 rfl rfl) <| .cons (.ln 96 9 152 rfl rfl rfl) <| .cons (.mv rfl rfl) <| .nil <| ks_n <| .block ?_
           refine .loopK (fun m σ => (∃ j : Nat, m = q.2.length - j ∧ (j = 0) ∧ σ = [(.t 1, .v (.o (.c (.ptr (rG g))))), (.t 4, .v (.o (.c (.d (.val (.slice none 0 0)))))), (.t 5, .v (.o (nat1 (k : Nat)))), (.t 6, .v (.o (.c (.ptr (rP q))))), (.t 10, .v (.o (vD (dIs p)))), (.t 24, .v (.o (vD (dPts g.2)))), (.t 25, .v (.o (nat1 (g.2.length : Nat)))), (.t 26, .v (.o (nat1 (k : Nat)))), (.t 52, .v (.o (vD (dPs (npR q.1))))), (.t 53, .v (.o (nat1 ((npR q.1).length : Nat)))), (.t 54, .v (.o (nat1 (0 : Nat)))), (.t 62, .v (.o (vD (dMs q.2)))), (.t 63, .v (.o (nat1 (q.2.length : Nat)))), (.t 64, .v (.o (nat1 (j : Nat))))]) ∨ (∃ (j : Nat) (o3 : List Ins), m = q.2.length - j ∧ (j ≤ q.2.length) ∧ (∀ t s, t < j → q.2[t]? = some s → stmG g.1 s p = true) ∧ ([] ++ rowI k j p = o3) ∧ (o3.length ≤ 480 * k + 4 * 0 + j) ∧ σ = [(.t 1, .v (.o (.c (.ptr (rG g))))), (.t 4, .v (.o (.c (.own 130 3 (o3.length))))), (.t 5, .v (.o (nat1 (k : Nat)))), (.t 6, .v (.o (.c (.ptr (rP q))))), (.t 10, .v (.o (vD (dIs p)))), (.t 24, .v (.o (vD (dPts g.2)))), (.t 25, .v (.o (nat1 (g.2.length : Nat)))), (.t 26, .v (.o (nat1 (k : Nat)))), (.t 52, .v (.o (vD (dPs (npR q.1))))), (.t 53, .v (.o (nat1 ((npR q.1).length : Nat)))), (.t 54, .v (.o (nat1 (0 : Nat)))), (.t 62, .v (.o (vD (dMs q.2)))), (.t 63, .v (.o (nat1 (q.2.length : Nat)))), (.t 64, .v (.o (nat1 (j : Nat)))), (.b 130, .b 86 3 (dR (o3.map rN))), (.u 130, .u)])) [] (.inl ⟨0, rfl, rfl, rfl⟩) ⟨ks rfl .dt, ks rfl .dt, ks rfl .dt, ks rfl .dt, ks rfl .dt, ks rfl .dt, ks rfl .dt, ks rfl .dt, ks rfl .dt, ks rfl .dt, ks rfl .dt, ks rfl .dt, ks rfl .dt, ks rfl .dt, trivial⟩ ?_
           rintro m σ (⟨j, hm0, rfl, rfl⟩ | ⟨j, o3, hm0, hj, hH, hEp, ho3, rfl⟩)
           ·skip
            refine .seq <| .region <| .cons (.ls rfl rfl rfl) <| .nil <| ks_n <| .seq ?_
            refine .cD rfl (fun h65 => ?_) (fun h65 => ?_)
            ·skip
             obtain ⟨s, hs1⟩ : ∃ x_, q.2[0]? = some x_ := ⟨_, List.getElem?_eq_getElem (by omega)⟩
             have hsm := List.mem_of_getElem? hs1
             have hsv := hv3 s hsm
             refine .skip <| ks_n <| .seq <| .block <| .seq <| .region <| .cons (.mv rfl rfl) <| .cons (.xL 96 9 152 rfl rfl rfl rfl rfl) ?_
             refine .cons (.lN 9 rfl rfl rfl) <| .cons (.al 112 [.string ByteArray.empty, .slice none 0 0, .int .i64 0, .int .i64 0, .slice none 0 0, .int .i64 0, .string ByteArray.empty, .slice none 0 0, .slice none 0 0] rfl rfl rfl) <| .cons (.asg rfl rfl) <| .cons (.sT 9 true rfl rfl rfl rfl rfl rfl rfl) <| .nil <| ks_n <| .seq <| .seq <| .region <| .cons (.lN 2 rfl rfl rfl) <| .cons (.bN 9 rfl rfl rfl rfl rfl rfl) <| .cons (.mv rfl rfl) <| .cons (.cP [.tmp 69, .tmp 70, .tmp 71] rfl rfl rfl rfl (sok_fn hA hsv hpt.1 hpt.2) rfl) ?_
             refine .cons (.nt rfl rfl) <| .nil <| ks_n ?_
             refine ACode.condT rfl (fun h73 => ?_) (fun h73 => ?_)
             ·try simp only [zs1, zs2, zs3, zs4, zs5, zs6, zs7] at h73
              refine .seq ?_
              obtain ⟨hO, hN⟩ := prgV_f (g := g) (prgS_f3 hqm (prtV_f5 hpm hsm (by assumption)))
              refine .region <| .cons (.asg rfl rfl) <| .cons (.asg rfl rfl) <| .nil <| ks_n <| .ret <| ks_r <| kb_r <| ks_r <| kl_r <| kb_r <| kb_r <| ks_r <| kl_r <| kb_r <| kb_r <| ks_r <| kl_r <| kb_r <| ks_r ?_
              refine kf_wret [(.t 2, .v (.o (vD (dNs (insV g))))), (.t 3, .v (.o (bo1 (prgV g))))] (Wk.keep [] rfl rfl ⟨ks rfl (.c (Cto.nilE 3 (by first | (rw [hN]; rfl) | (rw [hN, hEz]; rfl)))), ks rfl (.dt (by first | exact congrArg (fun b => V.o (bo1 b)) hO.symm | exact congrArg (fun b => V.o (bo1 b)) (by rw [hO, hEz, decide_eq_decide]; simp) | exact congrArg (fun b => V.o (bo1 b)) (by rw [hO, hEz, decide_eq_decide]; omega))), trivial⟩) rfl ?_ nobox
              rfl
             ·try simp only [zs1, zs2, zs3, zs4, zs5, zs6, zs7] at h73
              have hST : stmG g.1 s p = true := by assumption
              refine .skip <| ks_n <| .region <| .cons (.mv rfl rfl) <| .cons (.mv rfl rfl) <| .cons (.mv rfl rfl) <| .cons (.mv rfl rfl) <| .cons (.cP [.tmp 77] rfl rfl rfl rfl (cloneInts_fn p (by omega)) rfl) ?_
              refine .cons (.bu [(0, .tmp 75), (1, .tmp 76), (2, .tmp 78)] [(0, 1), (1, 1), (2, 1)] [.int .i64 0, .int .i64 0, .slice none 0 0] rfl rfl rfl rfl rfl) <| .cons (.li 86 2 0 [.tmp 79] rfl rfl rfl rfl rfl rfl) <| .cons (St1.appN (k' := 181) (e := 86) (sz := 2) (by' := 40) rfl rfl rfl rfl rfl (by kernel_rfl) rfl rfl rfl (by simp) (by first | (simp [dR]; done) | (simp [dR]; omega)) rfl rfl) ?_
              refine .cons (.asg rfl rfl) <| .nil <| kb_n <| ks_n <| .region <| .cons (.pl rfl rfl rfl) <| .cons (.mv rfl rfl) <| .nil ?_
              refine kl_k [(130, 181)] (.inr ⟨1, [((k : Int), ((0 : Nat) : Int), p)], rfl, by omega, fun t s' ht hs' => (Nat.lt_succ_iff_lt_or_eq.1 ht).elim (fun h => absurd h (by omega)) (fun h => by subst h; rw [hs1] at hs'; cases hs'; exact hST), rfl, by simp, rfl⟩) ⟨ks rfl .dt, ks rfl (.c .ow), ks rfl .dt, ks rfl .dt, ks rfl .dt, ks rfl .dt, ks rfl .dt, ks rfl .dt, ks rfl .dt, ks rfl .dt, ks rfl .dt, ks rfl .dt, ks rfl .dt, ks rfl .dt, kb 181 rfl (.dt rfl (by first | rfl | (simp [dR, rN, dI]; done))), trivial⟩
            ·skip
             exfalso; omega
           ·skip
            refine .seq <| .region <| .cons (.ls rfl rfl rfl) <| .nil <| ks_n <| .seq ?_
            refine .cD rfl (fun h65 => ?_) (fun h65 => ?_)
            ·skip
             obtain ⟨s, hs1⟩ : ∃ x_, q.2[j]? = some x_ := ⟨_, List.getElem?_eq_getElem (by omega)⟩
             have hsm := List.mem_of_getElem? hs1
             have hsv := hv3 s hsm
             refine .skip <| ks_n <| .seq <| .block <| .seq <| .region <| .cons (.mv rfl rfl) <| .cons (.xL 96 9 152 rfl rfl rfl rfl rfl) ?_
             refine .cons (.lN 9 rfl rfl rfl) <| .cons (.al 112 [.string ByteArray.empty, .slice none 0 0, .int .i64 0, .int .i64 0, .slice none 0 0, .int .i64 0, .string ByteArray.empty, .slice none 0 0, .slice none 0 0] rfl rfl rfl) <| .cons (.asg rfl rfl) <| .cons (.sT 9 true rfl rfl rfl rfl rfl rfl rfl) <| .nil <| ks_n <| .seq <| .seq <| .region <| .cons (.lN 2 rfl rfl rfl) <| .cons (.bN 9 rfl rfl rfl rfl rfl rfl) <| .cons (.mv rfl rfl) <| .cons (.cP [.tmp 69, .tmp 70, .tmp 71] rfl rfl rfl rfl (sok_fn hA hsv hpt.1 hpt.2) rfl) ?_
             refine .cons (.nt rfl rfl) <| .nil <| ks_n ?_
             refine ACode.condT rfl (fun h73 => ?_) (fun h73 => ?_)
             ·try simp only [zs1, zs2, zs3, zs4, zs5, zs6, zs7] at h73
              refine .seq ?_
              obtain ⟨hO, hN⟩ := prgV_f (g := g) (prgS_f3 hqm (prtV_f5 hpm hsm (by assumption)))
              refine .region <| .cons (.asg rfl rfl) <| .cons (.asg rfl rfl) <| .nil <| ks_n <| .ret <| ks_r <| kb_r <| ks_r <| kl_r <| kb_r <| kb_r <| ks_r <| kl_r <| kb_r <| kb_r <| ks_r <| kl_r <| kb_r <| ks_r ?_
              refine kf_wret [(.t 2, .v (.o (vD (dNs (insV g))))), (.t 3, .v (.o (bo1 (prgV g))))] (Wk.keep [] rfl rfl ⟨ks rfl (.c (Cto.nilE 3 (by first | (rw [hN]; rfl) | (rw [hN, hEz]; rfl)))), ks rfl (.dt (by first | exact congrArg (fun b => V.o (bo1 b)) hO.symm | exact congrArg (fun b => V.o (bo1 b)) (by rw [hO, hEz, decide_eq_decide]; simp) | exact congrArg (fun b => V.o (bo1 b)) (by rw [hO, hEz, decide_eq_decide]; omega))), trivial⟩) rfl ?_ nobox
              rfl
             ·try simp only [zs1, zs2, zs3, zs4, zs5, zs6, zs7] at h73
              have hST : stmG g.1 s p = true := by assumption
              refine .skip <| ks_n <| .region <| .cons (.mv rfl rfl) <| .cons (.mv rfl rfl) <| .cons (.mv rfl rfl) <| .cons (.mv rfl rfl) <| .cons (.cP [.tmp 77] rfl rfl rfl rfl (cloneInts_fn p (by omega)) rfl) ?_
              refine .cons (.bu [(0, .tmp 75), (1, .tmp 76), (2, .tmp 78)] [(0, 1), (1, 1), (2, 1)] [.int .i64 0, .int .i64 0, .slice none 0 0] rfl rfl rfl rfl rfl) <| .cons (.li 86 2 0 [.tmp 79] rfl rfl rfl rfl rfl rfl) <| .cons (St1.appB (k' := 181) (e := 86) (sz := 2) (by' := 40) rfl rfl rfl rfl rfl (by kernel_rfl) rfl rfl rfl rfl (by first | (simp [dR]; done) | (simp [dR]; omega)) (by first | (simp [dR]; done) | (simp [dR]; omega)) rfl rfl rfl) ?_
              refine .cons (.asg rfl rfl) <| .nil <| kb_n <| ks_n <| .region <| .cons (.pl rfl rfl rfl) <| .cons (.mv rfl rfl) <| .nil ?_
              refine kl_k [(130, 181)] (.inr ⟨j + 1, o3 ++ [((k : Int), ((j : Nat) : Int), p)], rfl, by omega, fun t s' ht hs' => (Nat.lt_succ_iff_lt_or_eq.1 ht).elim (fun h => hH t s' h hs') (fun h => by subst h; rw [hs1] at hs'; cases hs'; exact hST), by rw [rowI_snoc, ← List.append_assoc, hEp], by rw [List.length_append, List.length_singleton]; omega, rfl⟩) ⟨ks rfl .dt, ks rfl (.c .ow), ks rfl .dt, ks rfl .dt, ks rfl .dt, ks rfl .dt, ks rfl .dt, ks rfl .dt, ks rfl .dt, ks rfl .dt, ks rfl .dt, ks rfl .dt, ks rfl .dt, ks rfl .dt, kb 181 rfl (.dt rfl (by first | rfl | (simp [dR, rN, dI]; done))), trivial⟩
            ·skip
             obtain rfl : j = q.2.length := by omega
             have hPT : ptG' g.1 q.2 p = true := by rw [ptG', show isPt p = true by assumption, Bool.true_and]; exact all_of fun j s h => hH j s (List.getElem?_eq_some_iff.1 h).1 h
             refine .exit <| ks_e <| kl_e <| kb_hit <| kb_n <| ks_n <| .region <| .cons (.pl rfl rfl rfl) <| .cons (.mv rfl rfl) <| .nil ?_
             refine kl_k [(120, 130)] (.inr ⟨1, o3, rfl, by omega, fun j p' hj hp' => (Nat.lt_succ_iff_lt_or_eq.1 hj).elim (fun h => absurd h (by omega)) (fun h => by subst h; rw [hp1] at hp'; cases hp'; exact hPT), by rw [insT_take hp1]; exact hEp, by omega, rfl⟩) ⟨ks rfl .dt, ks rfl (.c .ow), ks rfl .dt, ks rfl .dt, ks rfl .dt, ks rfl .dt, ks rfl .dt, ks rfl .dt, ks rfl .dt, ks rfl .dt, kb 130 rfl (.dt rfl (by first | rfl | (simp [dR, rN, dI]; done))), trivial⟩
         ·skip
          have hn0 : npR q.1 = [] := List.eq_nil_of_length_eq_zero (by omega)
          have hPV : prtV g.1 q = true := by rw [prtV_eq hv1 hv2 (List.all_eq_true.2 hv3), hn0]; rfl
          refine .exit <| ks_e <| kl_e <| kb_hit <| kb_n <| ks_n <| .region <| .cons (.pl rfl rfl rfl) <| .cons (.mv rfl rfl) <| .nil ?_
          refine kl_k [] (.inl ⟨k + 1, rfl, by omega, fun j q' hj hq' => (Nat.lt_succ_iff_lt_or_eq.1 hj).elim (fun h => hF j q' h hq') (fun h => by subst h; rw [hq1] at hq'; cases hq'; exact hPV), by rw [insG_take hq1, hE, insP, hn0]; rfl, rfl⟩) ⟨ks rfl .dt, ks rfl .dt, ks rfl .dt, ks rfl .dt, ks rfl .dt, trivial⟩
        ·skip
         refine .seq <| .region <| .cons (.ls rfl rfl rfl) <| .nil <| ks_n <| .seq ?_
         refine .cD rfl (fun h55 => ?_) (fun h55 => ?_)
         ·skip
          obtain ⟨p, hp1⟩ : ∃ x_, (npR q.1)[i]? = some x_ := ⟨_, List.getElem?_eq_getElem (by omega)⟩
          have hpm := List.mem_of_getElem? hp1
          have hpt := npR_pt hpm
          have hnl := npR_len q.1
          refine .skip <| ks_n <| .seq <| .block <| .seq <| .region <| .cons (.xL 35 1 24 rfl rfl rfl rfl rfl) ?_
          refine .cons (.l1 1 rfl rfl) <| .cons (.asg rfl rfl) <| .nil <| ks_n <| .seq <| .seq <| .region <| .cons (.mv rfl rfl) <| .cons (.cP [.tmp 58] rfl rfl rfl rfl (isPoint_fn _) rfl) ?_
          refine .cons (.nt rfl rfl) <| .nil <| ks_n ?_
          refine ACode.condT rfl (fun h60 => ?_) (fun h60 => ?_)
          ·try simp only [zs1, zs2, zs3, zs4, zs5, zs6, zs7] at h60
           refine .seq ?_
           obtain ⟨hO, hN⟩ := prgV_f (g := g) (prgS_f3 hqm (prtV_f4 hpm (by assumption)))
           refine .region <| .cons (.asg rfl rfl) <| .cons (.asg rfl rfl) <| .nil <| ks_n <| .ret <| ks_r <| kb_r <| ks_r <| kl_r <| kb_r <| kb_r <| ks_r <| kl_r <| kb_r <| ks_r ?_
           refine kf_wret [(.t 2, .v (.o (vD (dNs (insV g))))), (.t 3, .v (.o (bo1 (prgV g))))] (Wk.keep [] rfl rfl ⟨ks rfl (.c (Cto.nilE 3 (by first | (rw [hN]; rfl) | (rw [hN, hEz]; rfl)))), ks rfl (.dt (by first | exact congrArg (fun b => V.o (bo1 b)) hO.symm | exact congrArg (fun b => V.o (bo1 b)) (by rw [hO, hEz, decide_eq_decide]; simp) | exact congrArg (fun b => V.o (bo1 b)) (by rw [hO, hEz, decide_eq_decide]; omega))), trivial⟩) rfl ?_ nobox
           rfl
          ·try simp only [zs1, zs2, zs3, zs4, zs5, zs6, zs7] at h60
           refine .skip <| ks_n <| .seq <| .region <| .cons (.fP 1 0 false rfl rfl) <| .cons (.l1 1 rfl rfl) <| .cons (.ln 96 9 152 rfl rfl rfl) <| .cons (.mv rfl rfl) <| .nil <| ks_n <| .block ?_
           refine .loopK (fun m σ => (∃ (j : Nat) (o3 : List Ins), m = q.2.length - j ∧ (j ≤ q.2.length) ∧ (∀ t s, t < j → q.2[t]? = some s → stmG g.1 s p = true) ∧ (o2 ++ rowI k j p = o3) ∧ (o3.length ≤ 480 * k + 4 * i + j) ∧ σ = [(.t 1, .v (.o (.c (.ptr (rG g))))), (.t 4, .v (.o (.c (.own 130 3 (o3.length))))), (.t 5, .v (.o (nat1 (k : Nat)))), (.t 6, .v (.o (.c (.ptr (rP q))))), (.t 10, .v (.o (vD (dIs p)))), (.t 24, .v (.o (vD (dPts g.2)))), (.t 25, .v (.o (nat1 (g.2.length : Nat)))), (.t 26, .v (.o (nat1 (k : Nat)))), (.t 52, .v (.o (vD (dPs (npR q.1))))), (.t 53, .v (.o (nat1 ((npR q.1).length : Nat)))), (.t 54, .v (.o (nat1 (i : Nat)))), (.t 62, .v (.o (vD (dMs q.2)))), (.t 63, .v (.o (nat1 (q.2.length : Nat)))), (.t 64, .v (.o (nat1 (j : Nat)))), (.b 130, .b 86 3 (dR (o3.map rN))), (.u 130, .u)])) [(130, 120)] ⟨0, o2, rfl, by omega, fun t s ht _ => absurd ht (by omega), by simp [rowI_zero], by omega, rfl⟩ ⟨ks rfl .dt, ks rfl (.c .ow), ks rfl .dt, ks rfl .dt, ks rfl .dt, ks rfl .dt, ks rfl .dt, ks rfl .dt, ks rfl .dt, ks rfl .dt, ks rfl .dt, ks rfl .dt, ks rfl .dt, ks rfl .dt, kb 120 rfl (.dt rfl (by first | rfl | (simp [dR, rN, dI]; done))), trivial⟩ ?_
           rintro m σ ⟨j, o3, hm0, hj, hH, hEp, ho3, rfl⟩
           refine .seq <| .region <| .cons (.ls rfl rfl rfl) <| .nil <| ks_n <| .seq ?_
           refine .cD rfl (fun h65 => ?_) (fun h65 => ?_)
           ·skip
            obtain ⟨s, hs1⟩ : ∃ x_, q.2[j]? = some x_ := ⟨_, List.getElem?_eq_getElem (by omega)⟩
            have hsm := List.mem_of_getElem? hs1
            have hsv := hv3 s hsm
            refine .skip <| ks_n <| .seq <| .block <| .seq <| .region <| .cons (.mv rfl rfl) <| .cons (.xL 96 9 152 rfl rfl rfl rfl rfl) ?_
            refine .cons (.lN 9 rfl rfl rfl) <| .cons (.al 112 [.string ByteArray.empty, .slice none 0 0, .int .i64 0, .int .i64 0, .slice none 0 0, .int .i64 0, .string ByteArray.empty, .slice none 0 0, .slice none 0 0] rfl rfl rfl) <| .cons (.asg rfl rfl) <| .cons (.sT 9 true rfl rfl rfl rfl rfl rfl rfl) <| .nil <| ks_n <| .seq <| .seq <| .region <| .cons (.lN 2 rfl rfl rfl) <| .cons (.bN 9 rfl rfl rfl rfl rfl rfl) <| .cons (.mv rfl rfl) <| .cons (.cP [.tmp 69, .tmp 70, .tmp 71] rfl rfl rfl rfl (sok_fn hA hsv hpt.1 hpt.2) rfl) ?_
            refine .cons (.nt rfl rfl) <| .nil <| ks_n ?_
            refine ACode.condT rfl (fun h73 => ?_) (fun h73 => ?_)
            ·try simp only [zs1, zs2, zs3, zs4, zs5, zs6, zs7] at h73
             refine .seq ?_
             obtain ⟨hO, hN⟩ := prgV_f (g := g) (prgS_f3 hqm (prtV_f5 hpm hsm (by assumption)))
             refine .region <| .cons (.asg rfl rfl) <| .cons (.asg rfl rfl) <| .nil <| ks_n <| .ret <| ks_r <| kb_r <| ks_r <| kl_r <| kb_r <| kb_r <| ks_r <| kl_r <| kb_r <| kb_r <| ks_r <| kl_r <| kb_r <| ks_r ?_
             refine kf_wret [(.t 2, .v (.o (vD (dNs (insV g))))), (.t 3, .v (.o (bo1 (prgV g))))] (Wk.keep [] rfl rfl ⟨ks rfl (.c (Cto.nilE 3 (by first | (rw [hN]; rfl) | (rw [hN, hEz]; rfl)))), ks rfl (.dt (by first | exact congrArg (fun b => V.o (bo1 b)) hO.symm | exact congrArg (fun b => V.o (bo1 b)) (by rw [hO, hEz, decide_eq_decide]; simp) | exact congrArg (fun b => V.o (bo1 b)) (by rw [hO, hEz, decide_eq_decide]; omega))), trivial⟩) rfl ?_ nobox
             rfl
            ·try simp only [zs1, zs2, zs3, zs4, zs5, zs6, zs7] at h73
             have hST : stmG g.1 s p = true := by assumption
             refine .skip <| ks_n <| .region <| .cons (.mv rfl rfl) <| .cons (.mv rfl rfl) <| .cons (.mv rfl rfl) <| .cons (.mv rfl rfl) <| .cons (.cP [.tmp 77] rfl rfl rfl rfl (cloneInts_fn p (by omega)) rfl) ?_
             refine .cons (.bu [(0, .tmp 75), (1, .tmp 76), (2, .tmp 78)] [(0, 1), (1, 1), (2, 1)] [.int .i64 0, .int .i64 0, .slice none 0 0] rfl rfl rfl rfl rfl) <| .cons (.li 86 2 0 [.tmp 79] rfl rfl rfl rfl rfl rfl) <| .cons (St1.appB (k' := 181) (e := 86) (sz := 2) (by' := 40) rfl rfl rfl rfl rfl (by kernel_rfl) rfl rfl rfl rfl (by first | (simp [dR]; done) | (simp [dR]; omega)) (by first | (simp [dR]; done) | (simp [dR]; omega)) rfl rfl rfl) ?_
             refine .cons (.asg rfl rfl) <| .nil <| kb_n <| ks_n <| .region <| .cons (.pl rfl rfl rfl) <| .cons (.mv rfl rfl) <| .nil ?_
             refine kl_k [(130, 181)] ⟨j + 1, o3 ++ [((k : Int), ((j : Nat) : Int), p)], rfl, by omega, fun t s' ht hs' => (Nat.lt_succ_iff_lt_or_eq.1 ht).elim (fun h => hH t s' h hs') (fun h => by subst h; rw [hs1] at hs'; cases hs'; exact hST), by rw [rowI_snoc, ← List.append_assoc, hEp], by rw [List.length_append, List.length_singleton]; omega, rfl⟩ ⟨ks rfl .dt, ks rfl (.c .ow), ks rfl .dt, ks rfl .dt, ks rfl .dt, ks rfl .dt, ks rfl .dt, ks rfl .dt, ks rfl .dt, ks rfl .dt, ks rfl .dt, ks rfl .dt, ks rfl .dt, ks rfl .dt, kb 181 rfl (.dt rfl (by first | rfl | (simp [dR, rN, dI]; done))), trivial⟩
           ·skip
            obtain rfl : j = q.2.length := by omega
            have hPT : ptG' g.1 q.2 p = true := by rw [ptG', show isPt p = true by assumption, Bool.true_and]; exact all_of fun j s h => hH j s (List.getElem?_eq_some_iff.1 h).1 h
            refine .exit <| ks_e <| kl_e <| kb_hit <| kb_n <| ks_n <| .region <| .cons (.pl rfl rfl rfl) <| .cons (.mv rfl rfl) <| .nil ?_
            refine kl_k [(120, 130)] (.inr ⟨i + 1, o3, rfl, by omega, fun j p' hj hp' => (Nat.lt_succ_iff_lt_or_eq.1 hj).elim (fun h => hG j p' h hp') (fun h => by subst h; rw [hp1] at hp'; cases hp'; exact hPT), by rw [insT_take hp1, ← List.append_assoc, hEo]; exact hEp, by omega, rfl⟩) ⟨ks rfl .dt, ks rfl (.c .ow), ks rfl .dt, ks rfl .dt, ks rfl .dt, ks rfl .dt, ks rfl .dt, ks rfl .dt, ks rfl .dt, ks rfl .dt, kb 130 rfl (.dt rfl (by first | rfl | (simp [dR, rN, dI]; done))), trivial⟩
         ·skip
          obtain rfl : i = (npR q.1).length := by omega
          rw [List.take_length] at hEo
          have hPV : prtV g.1 q = true := by rw [prtV_eq hv1 hv2 (List.all_eq_true.2 hv3)]; exact all_of fun j p h => hG j p (List.getElem?_eq_some_iff.1 h).1 h
          have hnl := npR_len q.1
          refine .exit <| ks_e <| kl_e <| kb_hit <| kb_n <| ks_n <| .region <| .cons (.pl rfl rfl rfl) <| .cons (.mv rfl rfl) <| .nil ?_
          refine kl_k [(110, 120)] (.inr ⟨k + 1, o2, rfl, by omega, fun j q' hj hq' => (Nat.lt_succ_iff_lt_or_eq.1 hj).elim (fun h => hF j q' h hq') (fun h => by subst h; rw [hq1] at hq'; cases hq'; exact hPV), by rw [insG_take hq1, hE]; exact hEo, by omega, rfl⟩) ⟨ks rfl .dt, ks rfl (.c .ow), ks rfl .dt, ks rfl .dt, ks rfl .dt, kb 120 rfl (.dt rfl (by first | rfl | (simp [dR, rN, dI]; done))), trivial⟩
    ·skip
     obtain rfl : k = g.2.length := by omega
     rw [List.take_length] at hE
     have hEz := hE
     obtain ⟨hO, hN⟩ := prgV_t (prgS_eq hA h4 hF)
     refine .exit <| ks_e <| kl_e <| kb_hit <| ks_n <| .seq <| .region <| .cons (.mv rfl rfl) <| .cons (.mv rfl rfl) <| .cons (St1.lenN (e := 86) (m := 3) (by' := 40) rfl rfl rfl rfl rfl (by kernel_rfl) rfl) ?_
     refine .cons (.le rfl rfl rfl) <| .cons (.asg rfl rfl) <| .cons (.asg rfl rfl) <| .nil <| ks_n <| .ret ?_
     refine kf_wret [(.t 2, .v (.o (vD (dNs (insV g))))), (.t 3, .v (.o (bo1 (prgV g))))] (Wk.keep [] rfl rfl ⟨ks rfl (.c (Cto.nilE 3 (by first | (rw [hN]; rfl) | (rw [hN, hEz]; rfl)))), ks rfl (.dt (by first | exact congrArg (fun b => V.o (bo1 b)) hO.symm | exact congrArg (fun b => V.o (bo1 b)) (by rw [hO, hEz, decide_eq_decide]; simp) | exact congrArg (fun b => V.o (bo1 b)) (by rw [hO, hEz, decide_eq_decide]; omega))), trivial⟩) rfl ?_ nobox
     rfl
   ·skip
    refine .seq <| .region <| .cons (.ls rfl rfl rfl) <| .nil <| ks_n <| .seq ?_
    refine .cD rfl (fun h27 => ?_) (fun h27 => ?_)
    ·skip
     obtain ⟨q, hq1⟩ : ∃ x_, g.2[k]? = some x_ := ⟨_, List.getElem?_eq_getElem (by omega)⟩
     have hqm := List.mem_of_getElem? hq1
     have hqs := szO_mem (f := szPt) hqm
     have hqe : szPt q = szLs q.1 + szO szS q.2 := rfl
     have hbg := sz_bg (ns := q.1) (by omega)
     have hql := szO_len (f := szS) q.2
     refine .skip <| ks_n <| .seq <| .block <| .seq <| .region <| .cons (.mv rfl rfl) <| .cons (.xL 104 2 48 rfl rfl rfl rfl rfl) ?_
     refine .cons (.lN 2 rfl rfl rfl) <| .cons (.al 106 [.slice none 0 0, .slice none 0 0] rfl rfl rfl) <| .cons (.asg rfl rfl) <| .cons (.sT 2 true rfl rfl rfl rfl rfl rfl rfl) <| .nil <| ks_n <| .seq ?_
     refine .keep [(.t 1, .v (.o (.c (.ptr (rG g))))), (.t 4, .v (.o (.c (.own 770 3 (o.length))))), (.t 5, .v (.o (nat1 (k : Nat)))), (.t 6, .v (.o (.c (.ptr (rP q))))), (.t 24, .v (.o (vD (dPts g.2)))), (.t 25, .v (.o (nat1 (g.2.length : Nat)))), (.t 26, .v (.o (nat1 (k : Nat)))), (.b 770, .b 86 3 (dR (o.map rN))), (.u 770, .u)] [(770, 110)] ⟨ks rfl .dt, ks rfl (.c .ow), ks rfl .dt, ks rfl (.c (.frzP _ _ _ _ _ _ _ _ rfl (show _ = dR [rP q] from rfl) rfl rfl rfl)), ks rfl .dt, ks rfl .dt, ks rfl .dt, kb 110 rfl (.dt rfl (by first | rfl | (simp [dR, rN, dI]; done))), trivial⟩ ?_
     refine .region <| .cons (.fP 0 0 false rfl rfl) <| .cons (.l1 1 rfl rfl) <| .cons (.cP [.tmp 33] rfl rfl rfl rfl (implNestPts_B q.1 hbg) rfl) ?_
     refine .cons (.mv rfl rfl) <| .cons (.ex rfl rfl rfl) <| .cons (.ex rfl rfl rfl) <| .cons (.asg rfl rfl) <| .cons (.asg rfl rfl) <| .nil <| ks_n <| .seq <| .seq <| .region <| .cons (.mv rfl rfl) <| .cons (.nt rfl rfl) <| .cons (.mv rfl rfl) ?_
     refine AOps.cases 39 _ rfl (fun g39 => ?_) (fun g39 => ?_)
     ·try simp only [zs1, zs2, zs3, zs4, zs5, zs6, zs7] at g39
      refine .cons (.gF rfl rfl rfl) <| .cons (.gF rfl rfl rfl) <| .cons (.gF rfl rfl rfl) <| .cons (.gF rfl rfl rfl) <| .cons (.gF rfl rfl rfl) <| .cons (.pT rfl rfl rfl) <| .cons (.mv rfl rfl) <| .cons (.gF rfl rfl rfl) <| .cons (.gF rfl rfl rfl) <| .cons (.gF rfl rfl rfl) <| .cons (.gF rfl rfl rfl) <| .cons (.pT rfl rfl rfl) <| .nil <| ks_n ?_
      refine ACode.condT rfl (fun _ => ?_) (fun h => by first | (cases h; done) | (simp [*] at h; done) | (exfalso; simp_all; done))
      refine .seq ?_
      have hbad : prtV g.1 q = false := by first | exact prtV_f1 (by assumption) | exact prtV_f2 (fun h => by simp_all [inB]; omega) | (obtain ⟨s, hs, hs2⟩ := List.any_eq_true.1 (by assumption); exact prtV_f3 hs (by simpa using hs2))
      obtain ⟨hO, hN⟩ := prgV_f (g := g) (prgS_f3 hqm hbad)
      refine .region <| .cons (.asg rfl rfl) <| .cons (.asg rfl rfl) <| .nil <| ks_n <| .ret <| ks_r <| kb_r <| ks_r <| kl_r <| kb_r <| ks_r ?_
      refine kf_wret [(.t 2, .v (.o (vD (dNs (insV g))))), (.t 3, .v (.o (bo1 (prgV g))))] (Wk.keep [] rfl rfl ⟨ks rfl (.c (Cto.nilE 3 (by first | (rw [hN]; rfl) | (rw [hN, hEz]; rfl)))), ks rfl (.dt (by first | exact congrArg (fun b => V.o (bo1 b)) hO.symm | exact congrArg (fun b => V.o (bo1 b)) (by rw [hO, hEz, decide_eq_decide]; simp) | exact congrArg (fun b => V.o (bo1 b)) (by rw [hO, hEz, decide_eq_decide]; omega))), trivial⟩) rfl ?_ nobox
      rfl
     ·try simp only [zs1, zs2, zs3, zs4, zs5, zs6, zs7] at g39
      refine .cons (.gT rfl rfl rfl (.fP 1 0 false rfl rfl)) <| .cons (.gT rfl rfl rfl (.l1 1 rfl rfl)) <| .cons (.gT rfl rfl rfl (.ln 96 9 152 rfl rfl rfl)) <| .cons (.gT rfl rfl rfl (.cP [.tmp 42, .const (.int .i64 (1)), .const (.int .i64 (4))] rfl rfl rfl rfl (within_fn _ 1 4) rfl)) ?_
      refine .cons (.gT rfl rfl rfl (.nt rfl rfl)) <| .cons (.pF rfl rfl rfl) <| .cons (.mv rfl rfl) ?_
      refine AOps.cases 46 _ rfl (fun g46 => ?_) (fun g46 => ?_)
      ·try simp only [zs1, zs2, zs3, zs4, zs5, zs6, zs7] at g46
       refine .cons (.gF rfl rfl rfl) <| .cons (.gF rfl rfl rfl) <| .cons (.gF rfl rfl rfl) <| .cons (.gF rfl rfl rfl) <| .cons (.pT rfl rfl rfl) <| .nil <| ks_n ?_
       refine ACode.condT rfl (fun _ => ?_) (fun h => by first | (cases h; done) | (simp [*] at h; done) | (exfalso; simp_all; done))
       refine .seq ?_
       have hbad : prtV g.1 q = false := by first | exact prtV_f1 (by assumption) | exact prtV_f2 (fun h => by simp_all [inB]; omega) | (obtain ⟨s, hs, hs2⟩ := List.any_eq_true.1 (by assumption); exact prtV_f3 hs (by simpa using hs2))
       obtain ⟨hO, hN⟩ := prgV_f (g := g) (prgS_f3 hqm hbad)
       refine .region <| .cons (.asg rfl rfl) <| .cons (.asg rfl rfl) <| .nil <| ks_n <| .ret <| ks_r <| kb_r <| ks_r <| kl_r <| kb_r <| ks_r ?_
       refine kf_wret [(.t 2, .v (.o (vD (dNs (insV g))))), (.t 3, .v (.o (bo1 (prgV g))))] (Wk.keep [] rfl rfl ⟨ks rfl (.c (Cto.nilE 3 (by first | (rw [hN]; rfl) | (rw [hN, hEz]; rfl)))), ks rfl (.dt (by first | exact congrArg (fun b => V.o (bo1 b)) hO.symm | exact congrArg (fun b => V.o (bo1 b)) (by rw [hO, hEz, decide_eq_decide]; simp) | exact congrArg (fun b => V.o (bo1 b)) (by rw [hO, hEz, decide_eq_decide]; omega))), trivial⟩) rfl ?_ nobox
       rfl
      ·try simp only [zs1, zs2, zs3, zs4, zs5, zs6, zs7] at g46
       refine .cons (.gT rfl rfl rfl (.fP 1 0 false rfl rfl)) <| .cons (.gT rfl rfl rfl (.l1 1 rfl rfl)) <| .cons (.gT rfl rfl rfl (St1.makeFunc (xs := [.tmp 6]) rfl rfl rfl rfl rfl rfl rfl)) <| .cons (.gT rfl rfl rfl (.cP [.tmp 48, .tmp 49] rfl rfl rfl rfl (cnt_stm (f := 98) (cap := [rP q]) (by kernel_rfl) (fun s => !stmtV (q.1.length : Nat) s) q.2 (by omega) (fun s hs => ins1_fn (by have := szO_mem (f := szS) hs; omega))) rfl)) ?_
       refine .cons (.pF rfl rfl rfl) <| .nil <| ks_n ?_
       refine ACode.condT rfl (fun h51 => ?_) (fun h51 => ?_)
       ·try simp only [zs1, zs2, zs3, zs4, zs5, zs6, zs7] at h51
        refine .seq ?_
        have hbad : prtV g.1 q = false := by first | exact prtV_f1 (by assumption) | exact prtV_f2 (fun h => by simp_all [inB]; omega) | (obtain ⟨s, hs, hs2⟩ := List.any_eq_true.1 (by assumption); exact prtV_f3 hs (by simpa using hs2))
        obtain ⟨hO, hN⟩ := prgV_f (g := g) (prgS_f3 hqm hbad)
        refine .region <| .cons (.asg rfl rfl) <| .cons (.asg rfl rfl) <| .nil <| ks_n <| .ret <| ks_r <| kb_r <| ks_r <| kl_r <| kb_r <| ks_r ?_
        refine kf_wret [(.t 2, .v (.o (vD (dNs (insV g))))), (.t 3, .v (.o (bo1 (prgV g))))] (Wk.keep [] rfl rfl ⟨ks rfl (.c (Cto.nilE 3 (by first | (rw [hN]; rfl) | (rw [hN, hEz]; rfl)))), ks rfl (.dt (by first | exact congrArg (fun b => V.o (bo1 b)) hO.symm | exact congrArg (fun b => V.o (bo1 b)) (by rw [hO, hEz, decide_eq_decide]; simp) | exact congrArg (fun b => V.o (bo1 b)) (by rw [hO, hEz, decide_eq_decide]; omega))), trivial⟩) rfl ?_ nobox
        rfl
       ·try simp only [zs1, zs2, zs3, zs4, zs5, zs6, zs7] at h51
        have hv1 : okP q.1 = true := by first | assumption | simp_all
        have hv2 : 1 ≤ q.2.length ∧ q.2.length ≤ 4 := by simp_all [inB]; omega
        have hv3 : ∀ s ∈ q.2, stmtV (q.1.length : Nat) s = true := by simp_all
        refine .skip <| ks_n <| .seq <| .region <| .cons (.mv rfl rfl) <| .cons (.ln 35 1 24 rfl rfl rfl) <| .cons (.mv rfl rfl) <| .nil <| ks_n <| .block ?_
        refine .loopK (fun m σ => (∃ (i : Nat) (o2 : List Ins), m = (npR q.1).length - i ∧ (i ≤ (npR q.1).length) ∧ (∀ j p, j < i → (npR q.1)[j]? = some p → ptG' g.1 q.2 p = true) ∧ (o ++ insT k q.2.length ((npR q.1).take i) = o2) ∧ (o2.length ≤ 480 * k + 4 * i) ∧ σ = [(.t 1, .v (.o (.c (.ptr (rG g))))), (.t 4, .v (.o (.c (.own 120 3 (o2.length))))), (.t 5, .v (.o (nat1 (k : Nat)))), (.t 6, .v (.o (.c (.ptr (rP q))))), (.t 24, .v (.o (vD (dPts g.2)))), (.t 25, .v (.o (nat1 (g.2.length : Nat)))), (.t 26, .v (.o (nat1 (k : Nat)))), (.t 52, .v (.o (vD (dPs (npR q.1))))), (.t 53, .v (.o (nat1 ((npR q.1).length : Nat)))), (.t 54, .v (.o (nat1 (i : Nat)))), (.b 120, .b 86 3 (dR (o2.map rN))), (.u 120, .u)])) [(120, 770)] ⟨0, o, rfl, by omega, fun j p hj _ => absurd hj (by omega), by simp [insT], by omega, rfl⟩ ⟨ks rfl .dt, ks rfl (.c .ow), ks rfl .dt, ks rfl .dt, ks rfl .dt, ks rfl .dt, ks rfl .dt, ks rfl .dt, ks rfl .dt, ks rfl .dt, kb 770 rfl (.dt rfl (by first | rfl | (simp [dR, rN, dI]; done))), trivial⟩ ?_
        rintro m σ ⟨i, o2, hm0, hi, hG, hEo, ho2, rfl⟩
        refine .seq <| .region <| .cons (.ls rfl rfl rfl) <| .nil <| ks_n <| .seq ?_
        refine .cD rfl (fun h55 => ?_) (fun h55 => ?_)
        ·skip
         obtain ⟨p, hp1⟩ : ∃ x_, (npR q.1)[i]? = some x_ := ⟨_, List.getElem?_eq_getElem (by omega)⟩
         have hpm := List.mem_of_getElem? hp1
         have hpt := npR_pt hpm
         have hnl := npR_len q.1
         refine .skip <| ks_n <| .seq <| .block <| .seq <| .region <| .cons (.xL 35 1 24 rfl rfl rfl rfl rfl) ?_
         refine .cons (.l1 1 rfl rfl) <| .cons (.asg rfl rfl) <| .nil <| ks_n <| .seq <| .seq <| .region <| .cons (.mv rfl rfl) <| .cons (.cP [.tmp 58] rfl rfl rfl rfl (isPoint_fn _) rfl) ?_
         refine .cons (.nt rfl rfl) <| .nil <| ks_n ?_
         refine ACode.condT rfl (fun h60 => ?_) (fun h60 => ?_)
         ·try simp only [zs1, zs2, zs3, zs4, zs5, zs6, zs7] at h60
          refine .seq ?_
          obtain ⟨hO, hN⟩ := prgV_f (g := g) (prgS_f3 hqm (prtV_f4 hpm (by assumption)))
          refine .region <| .cons (.asg rfl rfl) <| .cons (.asg rfl rfl) <| .nil <| ks_n <| .ret <| ks_r <| kb_r <| ks_r <| kl_r <| kb_r <| kb_r <| ks_r <| kl_r <| kb_r <| ks_r ?_
          refine kf_wret [(.t 2, .v (.o (vD (dNs (insV g))))), (.t 3, .v (.o (bo1 (prgV g))))] (Wk.keep [] rfl rfl ⟨ks rfl (.c (Cto.nilE 3 (by first | (rw [hN]; rfl) | (rw [hN, hEz]; rfl)))), ks rfl (.dt (by first | exact congrArg (fun b => V.o (bo1 b)) hO.symm | exact congrArg (fun b => V.o (bo1 b)) (by rw [hO, hEz, decide_eq_decide]; simp) | exact congrArg (fun b => V.o (bo1 b)) (by rw [hO, hEz, decide_eq_decide]; omega))), trivial⟩) rfl ?_ nobox
          rfl
         ·try simp only [zs1, zs2, zs3, zs4, zs5, zs6, zs7] at h60
          refine .skip <| ks_n <| .seq <| .region <| .cons (.fP 1 0 false rfl rfl) <| .cons (.l1 1 rfl rfl) <| .cons (.ln 96 9 152 rfl rfl rfl) <| .cons (.mv rfl rfl) <| .nil <| ks_n <| .block ?_
          refine .loopK (fun m σ => (∃ (j : Nat) (o3 : List Ins), m = q.2.length - j ∧ (j ≤ q.2.length) ∧ (∀ t s, t < j → q.2[t]? = some s → stmG g.1 s p = true) ∧ (o2 ++ rowI k j p = o3) ∧ (o3.length ≤ 480 * k + 4 * i + j) ∧ σ = [(.t 1, .v (.o (.c (.ptr (rG g))))), (.t 4, .v (.o (.c (.own 130 3 (o3.length))))), (.t 5, .v (.o (nat1 (k : Nat)))), (.t 6, .v (.o (.c (.ptr (rP q))))), (.t 10, .v (.o (vD (dIs p)))), (.t 24, .v (.o (vD (dPts g.2)))), (.t 25, .v (.o (nat1 (g.2.length : Nat)))), (.t 26, .v (.o (nat1 (k : Nat)))), (.t 52, .v (.o (vD (dPs (npR q.1))))), (.t 53, .v (.o (nat1 ((npR q.1).length : Nat)))), (.t 54, .v (.o (nat1 (i : Nat)))), (.t 62, .v (.o (vD (dMs q.2)))), (.t 63, .v (.o (nat1 (q.2.length : Nat)))), (.t 64, .v (.o (nat1 (j : Nat)))), (.b 130, .b 86 3 (dR (o3.map rN))), (.u 130, .u)])) [(130, 120)] ⟨0, o2, rfl, by omega, fun t s ht _ => absurd ht (by omega), by simp [rowI_zero], by omega, rfl⟩ ⟨ks rfl .dt, ks rfl (.c .ow), ks rfl .dt, ks rfl .dt, ks rfl .dt, ks rfl .dt, ks rfl .dt, ks rfl .dt, ks rfl .dt, ks rfl .dt, ks rfl .dt, ks rfl .dt, ks rfl .dt, ks rfl .dt, kb 120 rfl (.dt rfl (by first | rfl | (simp [dR, rN, dI]; done))), trivial⟩ ?_
          rintro m σ ⟨j, o3, hm0, hj, hH, hEp, ho3, rfl⟩
          refine .seq <| .region <| .cons (.ls rfl rfl rfl) <| .nil <| ks_n <| .seq ?_
          refine .cD rfl (fun h65 => ?_) (fun h65 => ?_)
          ·skip
           obtain ⟨s, hs1⟩ : ∃ x_, q.2[j]? = some x_ := ⟨_, List.getElem?_eq_getElem (by omega)⟩
           have hsm := List.mem_of_getElem? hs1
           have hsv := hv3 s hsm
           refine .skip <| ks_n <| .seq <| .block <| .seq <| .region <| .cons (.mv rfl rfl) <| .cons (.xL 96 9 152 rfl rfl rfl rfl rfl) ?_
           refine .cons (.lN 9 rfl rfl rfl) <| .cons (.al 112 [.string ByteArray.empty, .slice none 0 0, .int .i64 0, .int .i64 0, .slice none 0 0, .int .i64 0, .string ByteArray.empty, .slice none 0 0, .slice none 0 0] rfl rfl rfl) <| .cons (.asg rfl rfl) <| .cons (.sT 9 true rfl rfl rfl rfl rfl rfl rfl) <| .nil <| ks_n <| .seq <| .seq <| .region <| .cons (.lN 2 rfl rfl rfl) <| .cons (.bN 9 rfl rfl rfl rfl rfl rfl) <| .cons (.mv rfl rfl) <| .cons (.cP [.tmp 69, .tmp 70, .tmp 71] rfl rfl rfl rfl (sok_fn hA hsv hpt.1 hpt.2) rfl) ?_
           refine .cons (.nt rfl rfl) <| .nil <| ks_n ?_
           refine ACode.condT rfl (fun h73 => ?_) (fun h73 => ?_)
           ·try simp only [zs1, zs2, zs3, zs4, zs5, zs6, zs7] at h73
            refine .seq ?_
            obtain ⟨hO, hN⟩ := prgV_f (g := g) (prgS_f3 hqm (prtV_f5 hpm hsm (by assumption)))
            refine .region <| .cons (.asg rfl rfl) <| .cons (.asg rfl rfl) <| .nil <| ks_n <| .ret <| ks_r <| kb_r <| ks_r <| kl_r <| kb_r <| kb_r <| ks_r <| kl_r <| kb_r <| kb_r <| ks_r <| kl_r <| kb_r <| ks_r ?_
            refine kf_wret [(.t 2, .v (.o (vD (dNs (insV g))))), (.t 3, .v (.o (bo1 (prgV g))))] (Wk.keep [] rfl rfl ⟨ks rfl (.c (Cto.nilE 3 (by first | (rw [hN]; rfl) | (rw [hN, hEz]; rfl)))), ks rfl (.dt (by first | exact congrArg (fun b => V.o (bo1 b)) hO.symm | exact congrArg (fun b => V.o (bo1 b)) (by rw [hO, hEz, decide_eq_decide]; simp) | exact congrArg (fun b => V.o (bo1 b)) (by rw [hO, hEz, decide_eq_decide]; omega))), trivial⟩) rfl ?_ nobox
            rfl
           ·try simp only [zs1, zs2, zs3, zs4, zs5, zs6, zs7] at h73
            have hST : stmG g.1 s p = true := by assumption
            refine .skip <| ks_n <| .region <| .cons (.mv rfl rfl) <| .cons (.mv rfl rfl) <| .cons (.mv rfl rfl) <| .cons (.mv rfl rfl) <| .cons (.cP [.tmp 77] rfl rfl rfl rfl (cloneInts_fn p (by omega)) rfl) ?_
            refine .cons (.bu [(0, .tmp 75), (1, .tmp 76), (2, .tmp 78)] [(0, 1), (1, 1), (2, 1)] [.int .i64 0, .int .i64 0, .slice none 0 0] rfl rfl rfl rfl rfl) <| .cons (.li 86 2 0 [.tmp 79] rfl rfl rfl rfl rfl rfl) <| .cons (St1.appB (k' := 181) (e := 86) (sz := 2) (by' := 40) rfl rfl rfl rfl rfl (by kernel_rfl) rfl rfl rfl rfl (by first | (simp [dR]; done) | (simp [dR]; omega)) (by first | (simp [dR]; done) | (simp [dR]; omega)) rfl rfl rfl) ?_
            refine .cons (.asg rfl rfl) <| .nil <| kb_n <| ks_n <| .region <| .cons (.pl rfl rfl rfl) <| .cons (.mv rfl rfl) <| .nil ?_
            refine kl_k [(130, 181)] ⟨j + 1, o3 ++ [((k : Int), ((j : Nat) : Int), p)], rfl, by omega, fun t s' ht hs' => (Nat.lt_succ_iff_lt_or_eq.1 ht).elim (fun h => hH t s' h hs') (fun h => by subst h; rw [hs1] at hs'; cases hs'; exact hST), by rw [rowI_snoc, ← List.append_assoc, hEp], by rw [List.length_append, List.length_singleton]; omega, rfl⟩ ⟨ks rfl .dt, ks rfl (.c .ow), ks rfl .dt, ks rfl .dt, ks rfl .dt, ks rfl .dt, ks rfl .dt, ks rfl .dt, ks rfl .dt, ks rfl .dt, ks rfl .dt, ks rfl .dt, ks rfl .dt, ks rfl .dt, kb 181 rfl (.dt rfl (by first | rfl | (simp [dR, rN, dI]; done))), trivial⟩
          ·skip
           obtain rfl : j = q.2.length := by omega
           have hPT : ptG' g.1 q.2 p = true := by rw [ptG', show isPt p = true by assumption, Bool.true_and]; exact all_of fun j s h => hH j s (List.getElem?_eq_some_iff.1 h).1 h
           refine .exit <| ks_e <| kl_e <| kb_hit <| kb_n <| ks_n <| .region <| .cons (.pl rfl rfl rfl) <| .cons (.mv rfl rfl) <| .nil ?_
           refine kl_k [(120, 130)] ⟨i + 1, o3, rfl, by omega, fun j p' hj hp' => (Nat.lt_succ_iff_lt_or_eq.1 hj).elim (fun h => hG j p' h hp') (fun h => by subst h; rw [hp1] at hp'; cases hp'; exact hPT), by rw [insT_take hp1, ← List.append_assoc, hEo]; exact hEp, by omega, rfl⟩ ⟨ks rfl .dt, ks rfl (.c .ow), ks rfl .dt, ks rfl .dt, ks rfl .dt, ks rfl .dt, ks rfl .dt, ks rfl .dt, ks rfl .dt, ks rfl .dt, kb 130 rfl (.dt rfl (by first | rfl | (simp [dR, rN, dI]; done))), trivial⟩
        ·skip
         obtain rfl : i = (npR q.1).length := by omega
         rw [List.take_length] at hEo
         have hPV : prtV g.1 q = true := by rw [prtV_eq hv1 hv2 (List.all_eq_true.2 hv3)]; exact all_of fun j p h => hG j p (List.getElem?_eq_some_iff.1 h).1 h
         have hnl := npR_len q.1
         refine .exit <| ks_e <| kl_e <| kb_hit <| kb_n <| ks_n <| .region <| .cons (.pl rfl rfl rfl) <| .cons (.mv rfl rfl) <| .nil ?_
         refine kl_k [(110, 120)] (.inr ⟨k + 1, o2, rfl, by omega, fun j q' hj hq' => (Nat.lt_succ_iff_lt_or_eq.1 hj).elim (fun h => hF j q' h hq') (fun h => by subst h; rw [hq1] at hq'; cases hq'; exact hPV), by rw [insG_take hq1, hE]; exact hEo, by omega, rfl⟩) ⟨ks rfl .dt, ks rfl (.c .ow), ks rfl .dt, ks rfl .dt, ks rfl .dt, kb 120 rfl (.dt rfl (by first | rfl | (simp [dR, rN, dI]; done))), trivial⟩
    ·skip
     obtain rfl : k = g.2.length := by omega
     rw [List.take_length] at hE
     have hEz := hE
     obtain ⟨hO, hN⟩ := prgV_t (prgS_eq hA h4 hF)
     refine .exit <| ks_e <| kl_e <| kb_hit <| ks_n <| .seq <| .region <| .cons (.mv rfl rfl) <| .cons (.mv rfl rfl) <| .cons (.lB 86 3 40 rfl rfl rfl rfl) <| .cons (.le rfl rfl rfl) <| .cons (.asg rfl rfl) <| .cons (.asg rfl rfl) <| .nil <| ks_n <| .ret ?_
     refine kf_wret [(.t 2, .v (.o (vD (dNs (insV g))))), (.t 3, .v (.o (bo1 (prgV g))))] (Wk.keep [] rfl rfl ⟨ks rfl (.c (.fz rfl (by first | (rw [hN, hEz]; done) | (rw [hN, hEz]; rfl)) (by rw [hN, hEz, List.length_map]) (by omega))), ks rfl (.dt (by first | exact congrArg (fun b => V.o (bo1 b)) hO.symm | exact congrArg (fun b => V.o (bo1 b)) (by rw [hO, hEz, decide_eq_decide]; simp) | exact congrArg (fun b => V.o (bo1 b)) (by rw [hO, hEz, decide_eq_decide]; omega))), trivial⟩) rfl ?_ nobox
     rfl
end Go.Proofs.YtidfloikpieggaaGreat
