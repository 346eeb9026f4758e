/- Part 6 of 6 of the proof: laws on memory and data, then what the functions compute, in the order in which they build on each other; conditions: those that each theorem names. -/
import Derived.Lib.SliceRun
import Derived.Shelf.SlSortCmp.Whole1
import Derived.Sort.LotA
import Derived.Shelf.SlSortCmp.NoneTotal
import Derived.Test.YtidfloikpieggaaGreatProg
import Derived.Test.YtidfloikpieggaaGreatP5
set_option maxRecDepth 100000
set_option maxHeartbeats 1600000

namespace Go.Proofs.YtidfloikpieggaaGreat
set_option linter.unusedVariables false
set_option linter.unusedSimpArgs false
open Go.RowKit
theorem index_fn (l : List Int) (n : Int) (hl : l.length ≤ 1099511627776) : Fn Tryz.prog 160 [] [vD (dIs l), nat1 n] (.o (nat1 (idxF (fun m => decide (m = n)) l))) [] := by
  refine Fn.code0 Tryz.func160 rfl rfl rfl rfl ?_
  refine .seq <| .region <| .cons (.asg rfl rfl) <| .nil <| ks_n <| .seq <| .seq <| .region <| .cons (.mv rfl rfl) <| .cons (.ln 3 1 8 rfl rfl rfl) <| .cons (.mv rfl rfl) <| .nil <| ks_n <| .block ?_
  refine .loopK (fun m σ => (∃ i : Nat, m = l.length - i ∧ (i ≤ l.length) ∧ (idxF (fun m => decide (m = n)) l = idxG (fun m => decide (m = n)) i (l.drop i)) ∧ σ = [(.t 0, .v (.o (vD (dIs l)))), (.t 1, .v (.o (nat1 n))), (.t 7, .v (.o (nat1 (l.length : Nat)))), (.t 8, .v (.o (nat1 (i : Nat))))])) [] ⟨0, rfl, by omega, rfl, rfl⟩ ⟨ks rfl .dt, ks rfl .dt, ks rfl .dt, ks rfl .dt, trivial⟩ ?_
  rintro m σ ⟨i, hm0, hi, hF, rfl⟩
  refine .seq <| .region <| .cons (.ls rfl rfl rfl) <| .nil <| ks_n <| .seq ?_
  refine .cD rfl (fun h9 => ?_) (fun h9 => ?_)
  · skip
    obtain ⟨x, hx1⟩ : ∃ x_, l[i]? = some x_ := ⟨_, List.getElem?_eq_getElem (by omega)⟩
    refine .skip <| ks_n <| .seq <| .block <| .seq <| .region <| .cons (.mv rfl rfl) <| .cons (.asg rfl rfl) <| .nil <| ks_n <| .seq <| .region <| .cons (.mv rfl rfl) <| .cons (.mv rfl rfl) <| .cons (.mv rfl rfl) <| .cons (.xL 3 1 8 rfl rfl rfl rfl rfl) ?_
    refine .cons (.l1 1 rfl rfl) <| .cons (.eq rfl rfl rfl) <| .nil <| ks_n ?_
    refine .cD rfl (fun h16 => ?_) (fun h16 => ?_)
    · skip
      refine .seq <| .region <| .cons (.mv rfl rfl) <| .cons (.asg rfl rfl) <| .nil <| ks_n <| .ret <| kb_r <| ks_r <| kl_r <| kb_r <| ks_r ?_
      refine kf_ret rfl ?_ nobox
      exact leafI (by rw [hF, idxG_drop hx1, if_pos (by simp; omega)])
    · skip
      refine .skip <| kb_n <| ks_n <| .region <| .cons (.pl rfl rfl rfl) <| .cons (.mv rfl rfl) <| .nil ?_
      refine kl_k [] ⟨i + 1, rfl, by omega, by rw [hF, idxG_drop hx1, if_neg (by simp; omega)], rfl⟩ ⟨ks rfl .dt, ks rfl .dt, ks rfl .dt, ks rfl .dt, trivial⟩
  · skip
    refine .exit <| ks_e <| kl_e <| kb_hit <| ks_n <| .seq <| .region <| .cons (.asg rfl rfl) <| .nil <| ks_n <| .ret ?_
    refine kf_ret rfl ?_ nobox
    exact leafI (by rw [hF, List.drop_of_length_le (by omega)]; rfl)

theorem contains_fn (l : List Int) (n : Int) (hl : l.length ≤ 1099511627776) : Fn Tryz.prog 111 [] [vD (dIs l), nat1 n] (.o (bo1 (hasV l n))) [] := by
  refine Fn.code0 Tryz.func111 rfl rfl rfl rfl ?_
  refine .seq <| .region <| .cons (.asg rfl rfl) <| .nil <| ks_n <| .seq <| .region <| .cons (.mv rfl rfl) <| .cons (.mv rfl rfl) <| .cons (.cP [.tmp 5, .tmp 6] rfl rfl rfl rfl (index_fn l n hl) rfl) ?_
  refine .cons (.ge rfl rfl rfl) <| .cons (.asg rfl rfl) <| .nil <| ks_n <| .ret ?_
  refine kf_ret rfl ?_ nobox
  exact leafB (by first | exact idxG_any | (rw [hasV, ← idxG_any]; rfl))

theorem between_fn {g : Prg} {i k : Nat} {x y : Ins} (hx : (insG 0 g.2)[i]? = some x) (hy : (insG 0 g.2)[k]? = some y) (hlx : (usR g x).length ≤ 12) (hly : (usR g y).length ≤ 12) : Fn Tryz.prog 166 [] [.c (.ptr (rT g)), nat1 (i : Nat), nat1 (k : Nat)] (.o (nat1 (kindN g i k))) [] := by
 refine Fn.code0 Tryz.func166 rfl rfl rfl rfl ?_
 refine .seq <| .region <| .cons (.asg rfl rfl) <| .nil <| ks_n <| .seq <| .region <| .cons (.asg rfl rfl) <| .nil <| ks_n <| .seq <| .seq ?_
 refine ACode.drawK (by kernel_rfl) (by kernel_rfl) ?_
 refine .cons (.mv rfl rfl) <| .cons (.nP rfl rfl) <| .cons (.fP 3 0 false rfl rfl) <| .cons (.l1 1 rfl rfl) <| .cons (.mv rfl rfl) <| .cons (.xL 35 1 24 rfl rfl rfl rfl rfl (map_at (usRs_at hy))) ?_
 refine .cons (.l1 1 rfl rfl) <| .cons (.mv rfl rfl) <| .cons (.nP rfl rfl) <| .cons (.fP 4 0 false rfl rfl) <| .cons (.l1 1 rfl rfl) <| .cons (.mv rfl rfl) <| .cons (.xL 3 1 8 rfl rfl rfl rfl rfl (map_at (usWs_at hx))) ?_
 refine .cons (.l1 1 rfl rfl) <| .cons (.cP [.tmp 14, .tmp 21] rfl rfl rfl rfl (contains_fn _ _ (by omega)) rfl) ?_
 refine .nil ⟨by kernel_rfl, ?_⟩
 refine ks_n ?_
 refine ACode.condT rfl (fun h22 => ?_) (fun h22 => ?_)
 ·try simp only [zs1, zs2, zs3, zs4, zs5, zs6, zs7] at h22
  refine .region <| .cons (.mv rfl rfl) <| .cons (.pl rfl rfl rfl) <| .cons (.asg rfl rfl) <| .nil <| ks_n <| .seq <| .seq ?_
  refine ACode.drawK (by kernel_rfl) (by kernel_rfl) ?_
  refine .cons (.mv rfl rfl) <| .cons (.nP rfl rfl) <| .cons (.fP 3 0 false rfl rfl) <| .cons (.l1 1 rfl rfl) <| .cons (.mv rfl rfl) <| .cons (.xL 35 1 24 rfl rfl rfl rfl rfl (map_at (usRs_at hx))) ?_
  refine .cons (.l1 1 rfl rfl) <| .cons (.mv rfl rfl) <| .cons (.nP rfl rfl) <| .cons (.fP 4 0 false rfl rfl) <| .cons (.l1 1 rfl rfl) <| .cons (.mv rfl rfl) <| .cons (.xL 3 1 8 rfl rfl rfl rfl rfl (map_at (usWs_at hy))) ?_
  refine .cons (.l1 1 rfl rfl) <| .cons (.cP [.tmp 31, .tmp 38] rfl rfl rfl rfl (contains_fn _ _ (by omega)) rfl) ?_
  refine .nil ⟨by kernel_rfl, ?_⟩
  refine ks_n ?_
  refine ACode.condT rfl (fun h39 => ?_) (fun h39 => ?_)
  ·try simp only [zs1, zs2, zs3, zs4, zs5, zs6, zs7] at h39
   refine .region <| .cons (.mv rfl rfl) <| .cons (.pl rfl rfl rfl) <| .cons (.asg rfl rfl) <| .nil <| ks_n <| .seq <| .seq ?_
   refine ACode.drawK (by kernel_rfl) (by kernel_rfl) ?_
   refine .cons (.mv rfl rfl) <| .cons (.nP rfl rfl) <| .cons (.fP 4 0 false rfl rfl) <| .cons (.l1 1 rfl rfl) <| .cons (.mv rfl rfl) <| .cons (.xL 3 1 8 rfl rfl rfl rfl rfl (map_at (usWs_at hx))) ?_
   refine .cons (.l1 1 rfl rfl) <| .cons (.mv rfl rfl) <| .cons (.nP rfl rfl) <| .cons (.fP 4 0 false rfl rfl) <| .cons (.l1 1 rfl rfl) <| .cons (.mv rfl rfl) <| .cons (.xL 3 1 8 rfl rfl rfl rfl rfl (map_at (usWs_at hy))) ?_
   refine .cons (.l1 1 rfl rfl) <| .cons (.eq rfl rfl rfl) ?_
   refine .nil ⟨by kernel_rfl, ?_⟩
   refine ks_n ?_
   refine .cD rfl (fun h56 => ?_) (fun h56 => ?_)
   ·skip
    refine .region <| .cons (.mv rfl rfl) <| .cons (.pl rfl rfl rfl) <| .cons (.asg rfl rfl) <| .nil <| ks_n <| .seq <| .region <| .cons (.mv rfl rfl) <| .cons (.asg rfl rfl) <| .nil <| ks_n <| .ret ?_
    refine kf_ret rfl ?_ nobox
    exact leafI (by rw [kindN_eq (usL_at hx) (usL_at hy), kindU]; simp_all [usG])
   ·skip
    refine .skip <| ks_n <| .seq <| .region <| .cons (.mv rfl rfl) <| .cons (.asg rfl rfl) <| .nil <| ks_n <| .ret ?_
    refine kf_ret rfl ?_ nobox
    exact leafI (by rw [kindN_eq (usL_at hx) (usL_at hy), kindU]; simp_all [usG])
  ·try simp only [zs1, zs2, zs3, zs4, zs5, zs6, zs7] at h39
   refine .skip <| ks_n <| .seq <| .seq ?_
   refine ACode.drawK (by kernel_rfl) (by kernel_rfl) ?_
   refine .cons (.mv rfl rfl) <| .cons (.nP rfl rfl) <| .cons (.fP 4 0 false rfl rfl) <| .cons (.l1 1 rfl rfl) <| .cons (.mv rfl rfl) <| .cons (.xL 3 1 8 rfl rfl rfl rfl rfl (map_at (usWs_at hx))) ?_
   refine .cons (.l1 1 rfl rfl) <| .cons (.mv rfl rfl) <| .cons (.nP rfl rfl) <| .cons (.fP 4 0 false rfl rfl) <| .cons (.l1 1 rfl rfl) <| .cons (.mv rfl rfl) <| .cons (.xL 3 1 8 rfl rfl rfl rfl rfl (map_at (usWs_at hy))) ?_
   refine .cons (.l1 1 rfl rfl) <| .cons (.eq rfl rfl rfl) ?_
   refine .nil ⟨by kernel_rfl, ?_⟩
   refine ks_n ?_
   refine .cD rfl (fun h56 => ?_) (fun h56 => ?_)
   ·skip
    refine .region <| .cons (.mv rfl rfl) <| .cons (.pl rfl rfl rfl) <| .cons (.asg rfl rfl) <| .nil <| ks_n <| .seq <| .region <| .cons (.mv rfl rfl) <| .cons (.asg rfl rfl) <| .nil <| ks_n <| .ret ?_
    refine kf_ret rfl ?_ nobox
    exact leafI (by rw [kindN_eq (usL_at hx) (usL_at hy), kindU]; simp_all [usG])
   ·skip
    refine .skip <| ks_n <| .seq <| .region <| .cons (.mv rfl rfl) <| .cons (.asg rfl rfl) <| .nil <| ks_n <| .ret ?_
    refine kf_ret rfl ?_ nobox
    exact leafI (by rw [kindN_eq (usL_at hx) (usL_at hy), kindU]; simp_all [usG])
 ·try simp only [zs1, zs2, zs3, zs4, zs5, zs6, zs7] at h22
  refine .skip <| ks_n <| .seq <| .seq ?_
  refine ACode.drawK (by kernel_rfl) (by kernel_rfl) ?_
  refine .cons (.mv rfl rfl) <| .cons (.nP rfl rfl) <| .cons (.fP 3 0 false rfl rfl) <| .cons (.l1 1 rfl rfl) <| .cons (.mv rfl rfl) <| .cons (.xL 35 1 24 rfl rfl rfl rfl rfl (map_at (usRs_at hx))) ?_
  refine .cons (.l1 1 rfl rfl) <| .cons (.mv rfl rfl) <| .cons (.nP rfl rfl) <| .cons (.fP 4 0 false rfl rfl) <| .cons (.l1 1 rfl rfl) <| .cons (.mv rfl rfl) <| .cons (.xL 3 1 8 rfl rfl rfl rfl rfl (map_at (usWs_at hy))) ?_
  refine .cons (.l1 1 rfl rfl) <| .cons (.cP [.tmp 31, .tmp 38] rfl rfl rfl rfl (contains_fn _ _ (by omega)) rfl) ?_
  refine .nil ⟨by kernel_rfl, ?_⟩
  refine ks_n ?_
  refine ACode.condT rfl (fun h39 => ?_) (fun h39 => ?_)
  ·try simp only [zs1, zs2, zs3, zs4, zs5, zs6, zs7] at h39
   refine .region <| .cons (.mv rfl rfl) <| .cons (.pl rfl rfl rfl) <| .cons (.asg rfl rfl) <| .nil <| ks_n <| .seq <| .seq ?_
   refine ACode.drawK (by kernel_rfl) (by kernel_rfl) ?_
   refine .cons (.mv rfl rfl) <| .cons (.nP rfl rfl) <| .cons (.fP 4 0 false rfl rfl) <| .cons (.l1 1 rfl rfl) <| .cons (.mv rfl rfl) <| .cons (.xL 3 1 8 rfl rfl rfl rfl rfl (map_at (usWs_at hx))) ?_
   refine .cons (.l1 1 rfl rfl) <| .cons (.mv rfl rfl) <| .cons (.nP rfl rfl) <| .cons (.fP 4 0 false rfl rfl) <| .cons (.l1 1 rfl rfl) <| .cons (.mv rfl rfl) <| .cons (.xL 3 1 8 rfl rfl rfl rfl rfl (map_at (usWs_at hy))) ?_
   refine .cons (.l1 1 rfl rfl) <| .cons (.eq rfl rfl rfl) ?_
   refine .nil ⟨by kernel_rfl, ?_⟩
   refine ks_n ?_
   refine .cD rfl (fun h56 => ?_) (fun h56 => ?_)
   ·skip
    refine .region <| .cons (.mv rfl rfl) <| .cons (.pl rfl rfl rfl) <| .cons (.asg rfl rfl) <| .nil <| ks_n <| .seq <| .region <| .cons (.mv rfl rfl) <| .cons (.asg rfl rfl) <| .nil <| ks_n <| .ret ?_
    refine kf_ret rfl ?_ nobox
    exact leafI (by rw [kindN_eq (usL_at hx) (usL_at hy), kindU]; simp_all [usG])
   ·skip
    refine .skip <| ks_n <| .seq <| .region <| .cons (.mv rfl rfl) <| .cons (.asg rfl rfl) <| .nil <| ks_n <| .ret ?_
    refine kf_ret rfl ?_ nobox
    exact leafI (by rw [kindN_eq (usL_at hx) (usL_at hy), kindU]; simp_all [usG])
  ·try simp only [zs1, zs2, zs3, zs4, zs5, zs6, zs7] at h39
   refine .skip <| ks_n <| .seq <| .seq ?_
   refine ACode.drawK (by kernel_rfl) (by kernel_rfl) ?_
   refine .cons (.mv rfl rfl) <| .cons (.nP rfl rfl) <| .cons (.fP 4 0 false rfl rfl) <| .cons (.l1 1 rfl rfl) <| .cons (.mv rfl rfl) <| .cons (.xL 3 1 8 rfl rfl rfl rfl rfl (map_at (usWs_at hx))) ?_
   refine .cons (.l1 1 rfl rfl) <| .cons (.mv rfl rfl) <| .cons (.nP rfl rfl) <| .cons (.fP 4 0 false rfl rfl) <| .cons (.l1 1 rfl rfl) <| .cons (.mv rfl rfl) <| .cons (.xL 3 1 8 rfl rfl rfl rfl rfl (map_at (usWs_at hy))) ?_
   refine .cons (.l1 1 rfl rfl) <| .cons (.eq rfl rfl rfl) ?_
   refine .nil ⟨by kernel_rfl, ?_⟩
   refine ks_n ?_
   refine .cD rfl (fun h56 => ?_) (fun h56 => ?_)
   ·skip
    refine .region <| .cons (.mv rfl rfl) <| .cons (.pl rfl rfl rfl) <| .cons (.asg rfl rfl) <| .nil <| ks_n <| .seq <| .region <| .cons (.mv rfl rfl) <| .cons (.asg rfl rfl) <| .nil <| ks_n <| .ret ?_
    refine kf_ret rfl ?_ nobox
    exact leafI (by rw [kindN_eq (usL_at hx) (usL_at hy), kindU]; simp_all [usG])
   ·skip
    refine .skip <| ks_n <| .seq <| .region <| .cons (.mv rfl rfl) <| .cons (.asg rfl rfl) <| .nil <| ks_n <| .ret ?_
    refine kf_ret rfl ?_ nobox
    exact leafI (by rw [kindN_eq (usL_at hx) (usL_at hy), kindU]; simp_all [usG])

theorem l6Kinds_fn (x y : List Int × Int) (hx : x.1.length ≤ 12) (hy : y.1.length ≤ 12) : Fn Tryz.prog 172 [] [ad (rU x), ad (rU y)] (.o (nat1 (kindU x y))) [] := by
 refine Fn.code0 Tryz.func172 rfl rfl rfl rfl ?_
 refine .seq <| .region <| .cons (St1.boxP rfl rfl rfl rfl rfl rfl) <| .cons (St1.boxP rfl rfl rfl rfl rfl rfl) <| .cons (.asg rfl rfl) <| .nil <| ks_n <| .seq <| .region <| .cons (.asg rfl rfl) <| .nil <| ks_n <| .seq <| .seq <| .region <| .cons (.fP 0 0 false rfl rfl) <| .cons (.l1 1 rfl rfl) <| .cons (.fP 1 0 false rfl rfl) <| .cons (.l1 1 rfl rfl) <| .cons (.cP [.tmp 7, .tmp 9] rfl rfl rfl rfl (l6Has_fn _ _ (by omega)) rfl) ?_
 refine .nil <| ks_n ?_
 refine ACode.condT rfl (fun h10 => ?_) (fun h10 => ?_)
 ·try simp only [zs1, zs2, zs3, zs4, zs5, zs6, zs7] at h10
  refine .region <| .cons (.mv rfl rfl) <| .cons (.pl rfl rfl rfl) <| .cons (.asg rfl rfl) <| .nil <| ks_n <| .seq <| .seq <| .region <| .cons (.fP 0 0 false rfl rfl) <| .cons (.l1 1 rfl rfl) <| .cons (.fP 1 0 false rfl rfl) <| .cons (.l1 1 rfl rfl) <| .cons (.cP [.tmp 14, .tmp 16] rfl rfl rfl rfl (l6Has_fn _ _ (by omega)) rfl) ?_
  refine .nil <| ks_n ?_
  refine ACode.condT rfl (fun h17 => ?_) (fun h17 => ?_)
  ·try simp only [zs1, zs2, zs3, zs4, zs5, zs6, zs7] at h17
   refine .region <| .cons (.mv rfl rfl) <| .cons (.pl rfl rfl rfl) <| .cons (.asg rfl rfl) <| .nil <| ks_n <| .seq <| .seq <| .region <| .cons (.fP 1 0 false rfl rfl) <| .cons (.l1 1 rfl rfl) <| .cons (.fP 1 0 false rfl rfl) <| .cons (.l1 1 rfl rfl) <| .cons (.eq rfl rfl rfl) <| .nil <| ks_n ?_
   refine .cD rfl (fun h24 => ?_) (fun h24 => ?_)
   ·skip
    refine .region <| .cons (.mv rfl rfl) <| .cons (.pl rfl rfl rfl) <| .cons (.asg rfl rfl) <| .nil <| ks_n <| .seq <| .region <| .cons (.mv rfl rfl) <| .cons (.asg rfl rfl) <| .nil <| ks_n <| .ret ?_
    refine kf_ret rfl ?_ nobox
    exact leafI (by rw [kindU]; simp_all)
   ·skip
    refine .skip <| ks_n <| .seq <| .region <| .cons (.mv rfl rfl) <| .cons (.asg rfl rfl) <| .nil <| ks_n <| .ret ?_
    refine kf_ret rfl ?_ nobox
    exact leafI (by rw [kindU]; simp_all)
  ·try simp only [zs1, zs2, zs3, zs4, zs5, zs6, zs7] at h17
   refine .skip <| ks_n <| .seq <| .seq <| .region <| .cons (.fP 1 0 false rfl rfl) <| .cons (.l1 1 rfl rfl) <| .cons (.fP 1 0 false rfl rfl) <| .cons (.l1 1 rfl rfl) <| .cons (.eq rfl rfl rfl) <| .nil <| ks_n ?_
   refine .cD rfl (fun h24 => ?_) (fun h24 => ?_)
   ·skip
    refine .region <| .cons (.mv rfl rfl) <| .cons (.pl rfl rfl rfl) <| .cons (.asg rfl rfl) <| .nil <| ks_n <| .seq <| .region <| .cons (.mv rfl rfl) <| .cons (.asg rfl rfl) <| .nil <| ks_n <| .ret ?_
    refine kf_ret rfl ?_ nobox
    exact leafI (by rw [kindU]; simp_all)
   ·skip
    refine .skip <| ks_n <| .seq <| .region <| .cons (.mv rfl rfl) <| .cons (.asg rfl rfl) <| .nil <| ks_n <| .ret ?_
    refine kf_ret rfl ?_ nobox
    exact leafI (by rw [kindU]; simp_all)
 ·try simp only [zs1, zs2, zs3, zs4, zs5, zs6, zs7] at h10
  refine .skip <| ks_n <| .seq <| .seq <| .region <| .cons (.fP 0 0 false rfl rfl) <| .cons (.l1 1 rfl rfl) <| .cons (.fP 1 0 false rfl rfl) <| .cons (.l1 1 rfl rfl) <| .cons (.cP [.tmp 14, .tmp 16] rfl rfl rfl rfl (l6Has_fn _ _ (by omega)) rfl) ?_
  refine .nil <| ks_n ?_
  refine ACode.condT rfl (fun h17 => ?_) (fun h17 => ?_)
  ·try simp only [zs1, zs2, zs3, zs4, zs5, zs6, zs7] at h17
   refine .region <| .cons (.mv rfl rfl) <| .cons (.pl rfl rfl rfl) <| .cons (.asg rfl rfl) <| .nil <| ks_n <| .seq <| .seq <| .region <| .cons (.fP 1 0 false rfl rfl) <| .cons (.l1 1 rfl rfl) <| .cons (.fP 1 0 false rfl rfl) <| .cons (.l1 1 rfl rfl) <| .cons (.eq rfl rfl rfl) <| .nil <| ks_n ?_
   refine .cD rfl (fun h24 => ?_) (fun h24 => ?_)
   ·skip
    refine .region <| .cons (.mv rfl rfl) <| .cons (.pl rfl rfl rfl) <| .cons (.asg rfl rfl) <| .nil <| ks_n <| .seq <| .region <| .cons (.mv rfl rfl) <| .cons (.asg rfl rfl) <| .nil <| ks_n <| .ret ?_
    refine kf_ret rfl ?_ nobox
    exact leafI (by rw [kindU]; simp_all)
   ·skip
    refine .skip <| ks_n <| .seq <| .region <| .cons (.mv rfl rfl) <| .cons (.asg rfl rfl) <| .nil <| ks_n <| .ret ?_
    refine kf_ret rfl ?_ nobox
    exact leafI (by rw [kindU]; simp_all)
  ·try simp only [zs1, zs2, zs3, zs4, zs5, zs6, zs7] at h17
   refine .skip <| ks_n <| .seq <| .seq <| .region <| .cons (.fP 1 0 false rfl rfl) <| .cons (.l1 1 rfl rfl) <| .cons (.fP 1 0 false rfl rfl) <| .cons (.l1 1 rfl rfl) <| .cons (.eq rfl rfl rfl) <| .nil <| ks_n ?_
   refine .cD rfl (fun h24 => ?_) (fun h24 => ?_)
   ·skip
    refine .region <| .cons (.mv rfl rfl) <| .cons (.pl rfl rfl rfl) <| .cons (.asg rfl rfl) <| .nil <| ks_n <| .seq <| .region <| .cons (.mv rfl rfl) <| .cons (.asg rfl rfl) <| .nil <| ks_n <| .ret ?_
    refine kf_ret rfl ?_ nobox
    exact leafI (by rw [kindU]; simp_all)
   ·skip
    refine .skip <| ks_n <| .seq <| .region <| .cons (.mv rfl rfl) <| .cons (.asg rfl rfl) <| .nil <| ks_n <| .ret ?_
    refine kf_ret rfl ?_ nobox
    exact leafI (by rw [kindU]; simp_all)

theorem deps_fn {g : Prg} (hS : prgS g = true) (hL : (insG 0 g.2).length ≤ 120) : Fn Tryz.prog 120 [] [.c (.ptr (rT g))] (.o (vD (dDs (depsG g)))) [] := by
  refine Fn.code0 Tryz.func120 rfl rfl rfl rfl ?_
  refine .seq <| .region <| .cons (.asg rfl rfl) <| .nil <| ks_n <| .seq <| .region <| .cons (.asg rfl rfl) <| .nil <| ks_n <| .seq <| .seq <| .region <| .cons (.mv rfl rfl) <| .cons (.nP rfl rfl) <| .cons (.fP 2 0 false rfl rfl) <| .cons (.l1 1 rfl rfl) <| .cons (.ln 86 3 40 rfl rfl rfl) <| .cons (.mv rfl rfl) <| .nil <| ks_n <| .block ?_
  refine .loopK (fun m σ => (∃ i : Nat, m = (insG 0 g.2).length - i ∧ (i ≤ (insG 0 g.2).length) ∧ (depsN g i = []) ∧ σ = [(.t 0, .v (.o (.c (.ptr (rT g))))), (.t 3, .v (.o (.c (.d (.val (.slice none 0 0)))))), (.t 10, .v (.o (vD (dNs (insG 0 g.2))))), (.t 11, .v (.o (nat1 ((insG 0 g.2).length : Nat)))), (.t 12, .v (.o (nat1 (i : Nat))))]) ∨ (∃ (i : Nat) (o : List Dpn), m = (insG 0 g.2).length - i ∧ (i ≤ (insG 0 g.2).length) ∧ (depsN g i = o) ∧ (o.length ≤ 120 * i) ∧ σ = [(.t 0, .v (.o (.c (.ptr (rT g))))), (.t 3, .v (.o (.c (.own 110 3 (o.length))))), (.t 10, .v (.o (vD (dNs (insG 0 g.2))))), (.t 11, .v (.o (nat1 ((insG 0 g.2).length : Nat)))), (.t 12, .v (.o (nat1 (i : Nat)))), (.b 110, .b 159 3 (dR (o.map rD))), (.u 110, .u)])) [] (.inl ⟨0, rfl, by omega, rfl, rfl⟩) ⟨ks rfl .dt, ks rfl .dt, ks rfl .dt, ks rfl .dt, ks rfl .dt, trivial⟩ ?_
  rintro m σ (⟨i, hm0, hi, hE, rfl⟩ | ⟨i, o, hm0, hi, hE, ho, rfl⟩)
  · skip
    refine .seq <| .region <| .cons (.ls rfl rfl rfl) <| .nil <| ks_n <| .seq ?_
    refine .cD rfl (fun h13 => ?_) (fun h13 => ?_)
    · skip
      obtain ⟨x, hx1⟩ : ∃ x_, (insG 0 g.2)[i]? = some x_ := ⟨_, List.getElem?_eq_getElem (by omega)⟩
      obtain ⟨kx, cx, qx, hIx⟩ := ins_at hS (List.mem_of_getElem? hx1)
      have hlx := usR_len hIx
      refine .skip <| ks_n <| .seq <| .block <| .seq <| .region <| .cons (.mv rfl rfl) <| .cons (.asg rfl rfl) <| .nil <| ks_n <| .seq <| .region <| .cons (.mv rfl rfl) <| .cons (.pl rfl rfl rfl) <| .cons (.asg rfl rfl) <| .nil <| ks_n <| .block ?_
      refine .loopK (fun m σ => (∃ k : Nat, m = (insG 0 g.2).length - k ∧ (i + 1 ≤ k) ∧ (k ≤ (insG 0 g.2).length) ∧ (rowN g i k = []) ∧ σ = [(.t 0, .v (.o (.c (.ptr (rT g))))), (.t 3, .v (.o (.c (.d (.val (.slice none 0 0)))))), (.t 4, .v (.o (nat1 (i : Nat)))), (.t 5, .v (.o (nat1 (k : Nat)))), (.t 10, .v (.o (vD (dNs (insG 0 g.2))))), (.t 11, .v (.o (nat1 ((insG 0 g.2).length : Nat)))), (.t 12, .v (.o (nat1 (i : Nat))))]) ∨ (∃ (k : Nat) (o2 : List Dpn), m = (insG 0 g.2).length - k ∧ (i + 1 ≤ k) ∧ (k ≤ (insG 0 g.2).length) ∧ ([] ++ rowN g i k = o2) ∧ (o2.length ≤ 120 * i + k) ∧ σ = [(.t 0, .v (.o (.c (.ptr (rT g))))), (.t 3, .v (.o (.c (.own 120 3 (o2.length))))), (.t 4, .v (.o (nat1 (i : Nat)))), (.t 5, .v (.o (nat1 (k : Nat)))), (.t 10, .v (.o (vD (dNs (insG 0 g.2))))), (.t 11, .v (.o (nat1 ((insG 0 g.2).length : Nat)))), (.t 12, .v (.o (nat1 (i : Nat)))), (.b 120, .b 159 3 (dR (o2.map rD))), (.u 120, .u)])) [] (.inl ⟨i + 1, rfl, by omega, by omega, rowN_zero, rfl⟩) ⟨ks rfl .dt, ks rfl .dt, ks rfl .dt, ks rfl .dt, ks rfl .dt, ks rfl .dt, ks rfl .dt, trivial⟩ ?_
      rintro m σ (⟨k, hm0, hk1, hk, hEi, rfl⟩ | ⟨k, o2, hm0, hk1, hk, hEi, ho2, rfl⟩)
      · skip
        refine .seq <| .seq <| .region <| .cons (.mv rfl rfl) <| .cons (.mv rfl rfl) <| .cons (.nP rfl rfl) <| .cons (.fP 2 0 false rfl rfl) <| .cons (.l1 1 rfl rfl) <| .cons (.ln 86 3 40 rfl rfl rfl) <| .cons (.ls rfl rfl rfl) <| .nil <| ks_n ?_
        refine .cD rfl (fun h23 => ?_) (fun h23 => ?_)
        · skip
          obtain ⟨y, hy1⟩ : ∃ x_, (insG 0 g.2)[k]? = some x_ := ⟨_, List.getElem?_eq_getElem (by omega)⟩
          obtain ⟨ky, cy, qy, hIy⟩ := ins_at hS (List.mem_of_getElem? hy1)
          have hly := usR_len hIy
          have hkb := kindN_bd (g := g) (i := i) (k := k)
          refine .skip <| ks_n <| .seq <| .block <| .seq <| .region <| .cons (.mv rfl rfl) <| .cons (.mv rfl rfl) <| .cons (.mv rfl rfl) <| .cons (.cP [.tmp 26, .tmp 27, .tmp 28] rfl rfl rfl rfl (between_fn hx1 hy1 hlx hly) rfl) ?_
          refine .cons (.asg rfl rfl) <| .nil <| ks_n <| .seq <| .region <| .cons (.mv rfl rfl) <| .cons (.gt rfl rfl rfl) <| .nil <| ks_n ?_
          refine .cD rfl (fun h31 => ?_) (fun h31 => ?_)
          · skip
            have hkn : kindN g i k ≠ 0 := by omega
            refine .region <| .cons (.mv rfl rfl) <| .cons (.mv rfl rfl) <| .cons (.mv rfl rfl) <| .cons (.mv rfl rfl) <| .cons (.bu [(0, .tmp 33), (1, .tmp 34), (2, .tmp 35)] [(0, 1), (1, 1), (2, 1)] [.int .i64 0, .int .i64 0, .int .i64 0] rfl rfl rfl rfl rfl) <| .cons (.li 159 2 0 [.tmp 36] rfl rfl rfl rfl rfl rfl) <| .cons (St1.appN (k' := 138) (e := 159) (sz := 2) (by' := 24) rfl rfl rfl rfl rfl (by kernel_rfl) rfl rfl rfl (by simp) (by first | (simp [dR]; done) | (simp [dR]; omega)) rfl rfl) ?_
            refine .cons (.asg rfl rfl) <| .nil <| kb_n <| ks_n <| .region <| .cons (.mv rfl rfl) <| .cons (.pl rfl rfl rfl) <| .cons (.asg rfl rfl) <| .nil ?_
            refine kl_k [(120, 138)] (.inr ⟨k + 1, [((i : Int), ((k : Nat) : Int), kindN g i k)], rfl, by omega, by omega, by rw [rowN_yes (by omega) hkn, hEi]; rfl, by simp; omega, rfl⟩) ⟨ks rfl .dt, ks rfl (.c .ow), ks rfl .dt, ks rfl .dt, ks rfl .dt, ks rfl .dt, ks rfl .dt, kb 138 rfl (.dt rfl (by first | rfl | (simp [dR, rD, dI]; done) | (simp [dR, rD, dI]; rfl))), trivial⟩
          · skip
            have hkz : kindN g i k = 0 := by omega
            refine .skip <| kb_n <| ks_n <| .region <| .cons (.mv rfl rfl) <| .cons (.pl rfl rfl rfl) <| .cons (.asg rfl rfl) <| .nil ?_
            refine kl_k [] (.inl ⟨k + 1, rfl, by omega, by omega, by rw [rowN_no hkz, hEi], rfl⟩) ⟨ks rfl .dt, ks rfl .dt, ks rfl .dt, ks rfl .dt, ks rfl .dt, ks rfl .dt, ks rfl .dt, trivial⟩
        · skip
          obtain rfl : k = (insG 0 g.2).length := by omega
          refine .exit <| ks_e <| kl_e <| kb_hit <| kb_n <| ks_n <| .region <| .cons (.pl rfl rfl rfl) <| .cons (.mv rfl rfl) <| .nil ?_
          refine kl_k [] (.inl ⟨i + 1, rfl, by omega, by rw [depsN_next, hE, hEi]; rfl, rfl⟩) ⟨ks rfl .dt, ks rfl .dt, ks rfl .dt, ks rfl .dt, ks rfl .dt, trivial⟩
      · skip
        refine .seq <| .seq <| .region <| .cons (.mv rfl rfl) <| .cons (.mv rfl rfl) <| .cons (.nP rfl rfl) <| .cons (.fP 2 0 false rfl rfl) <| .cons (.l1 1 rfl rfl) <| .cons (.ln 86 3 40 rfl rfl rfl) <| .cons (.ls rfl rfl rfl) <| .nil <| ks_n ?_
        refine .cD rfl (fun h23 => ?_) (fun h23 => ?_)
        · skip
          obtain ⟨y, hy1⟩ : ∃ x_, (insG 0 g.2)[k]? = some x_ := ⟨_, List.getElem?_eq_getElem (by omega)⟩
          obtain ⟨ky, cy, qy, hIy⟩ := ins_at hS (List.mem_of_getElem? hy1)
          have hly := usR_len hIy
          have hkb := kindN_bd (g := g) (i := i) (k := k)
          refine .skip <| ks_n <| .seq <| .block <| .seq <| .region <| .cons (.mv rfl rfl) <| .cons (.mv rfl rfl) <| .cons (.mv rfl rfl) <| .cons (.cP [.tmp 26, .tmp 27, .tmp 28] rfl rfl rfl rfl (between_fn hx1 hy1 hlx hly) rfl) ?_
          refine .cons (.asg rfl rfl) <| .nil <| ks_n <| .seq <| .region <| .cons (.mv rfl rfl) <| .cons (.gt rfl rfl rfl) <| .nil <| ks_n ?_
          refine .cD rfl (fun h31 => ?_) (fun h31 => ?_)
          · skip
            have hkn : kindN g i k ≠ 0 := by omega
            refine .region <| .cons (.mv rfl rfl) <| .cons (.mv rfl rfl) <| .cons (.mv rfl rfl) <| .cons (.mv rfl rfl) <| .cons (.bu [(0, .tmp 33), (1, .tmp 34), (2, .tmp 35)] [(0, 1), (1, 1), (2, 1)] [.int .i64 0, .int .i64 0, .int .i64 0] rfl rfl rfl rfl rfl) <| .cons (.li 159 2 0 [.tmp 36] rfl rfl rfl rfl rfl rfl) <| .cons (St1.appB (k' := 138) (e := 159) (sz := 2) (by' := 24) rfl rfl rfl rfl rfl (by kernel_rfl) rfl rfl rfl rfl (by first | (simp [dR]; done) | (simp [dR]; omega)) (by first | (simp [dR]; done) | (simp [dR]; omega)) rfl rfl rfl) ?_
            refine .cons (.asg rfl rfl) <| .nil <| kb_n <| ks_n <| .region <| .cons (.mv rfl rfl) <| .cons (.pl rfl rfl rfl) <| .cons (.asg rfl rfl) <| .nil ?_
            refine kl_k [(120, 138)] (.inr ⟨k + 1, o2 ++ [((i : Int), ((k : Nat) : Int), kindN g i k)], rfl, by omega, by omega, by rw [rowN_yes (by omega) hkn, ← List.append_assoc, hEi], by rw [List.length_append, List.length_singleton]; omega, rfl⟩) ⟨ks rfl .dt, ks rfl (.c .ow), ks rfl .dt, ks rfl .dt, ks rfl .dt, ks rfl .dt, ks rfl .dt, kb 138 rfl (.dt rfl (by first | rfl | (simp [dR, rD, dI]; done) | (simp [dR, rD, dI]; rfl))), trivial⟩
          · skip
            have hkz : kindN g i k = 0 := by omega
            refine .skip <| kb_n <| ks_n <| .region <| .cons (.mv rfl rfl) <| .cons (.pl rfl rfl rfl) <| .cons (.asg rfl rfl) <| .nil ?_
            refine kl_k [(120, 120)] (.inr ⟨k + 1, o2, rfl, by omega, by omega, by rw [rowN_no hkz, hEi], by omega, rfl⟩) ⟨ks rfl .dt, ks rfl (.c .ow), ks rfl .dt, ks rfl .dt, ks rfl .dt, ks rfl .dt, ks rfl .dt, kb 120 rfl (.dt rfl (by first | rfl | (simp [dR, rD, dI]; done) | (simp [dR, rD, dI]; rfl))), trivial⟩
        · skip
          obtain rfl : k = (insG 0 g.2).length := by omega
          refine .exit <| ks_e <| kl_e <| kb_hit <| kb_n <| ks_n <| .region <| .cons (.pl rfl rfl rfl) <| .cons (.mv rfl rfl) <| .nil ?_
          refine kl_k [(110, 120)] (.inr ⟨i + 1, o2, rfl, by omega, by rw [depsN_next, hE]; exact hEi, by omega, rfl⟩) ⟨ks rfl .dt, ks rfl (.c .ow), ks rfl .dt, ks rfl .dt, ks rfl .dt, kb 120 rfl (.dt rfl (by first | rfl | (simp [dR, rD, dI]; done) | (simp [dR, rD, dI]; rfl))), trivial⟩
    · skip
      obtain rfl : i = (insG 0 g.2).length := by omega
      refine .exit <| ks_e <| kl_e <| kb_hit <| ks_n <| .seq <| .region <| .cons (.mv rfl rfl) <| .cons (.asg rfl rfl) <| .nil <| ks_n <| .ret ?_
      refine kf_wret [(.t 2, .v (.o (vD (dDs (depsG g)))))] (Wk.keep [] rfl rfl ⟨ks rfl (.c (Cto.nilE 3 (by rw [depsG, hE]; rfl))), trivial⟩) rfl ?_ nobox
      rfl
  · skip
    refine .seq <| .region <| .cons (.ls rfl rfl rfl) <| .nil <| ks_n <| .seq ?_
    refine .cD rfl (fun h13 => ?_) (fun h13 => ?_)
    · skip
      obtain ⟨x, hx1⟩ : ∃ x_, (insG 0 g.2)[i]? = some x_ := ⟨_, List.getElem?_eq_getElem (by omega)⟩
      obtain ⟨kx, cx, qx, hIx⟩ := ins_at hS (List.mem_of_getElem? hx1)
      have hlx := usR_len hIx
      refine .skip <| ks_n <| .seq <| .block <| .seq <| .region <| .cons (.mv rfl rfl) <| .cons (.asg rfl rfl) <| .nil <| ks_n <| .seq <| .region <| .cons (.mv rfl rfl) <| .cons (.pl rfl rfl rfl) <| .cons (.asg rfl rfl) <| .nil <| ks_n <| .block ?_
      refine .loopK (fun m σ => (∃ (k : Nat) (o2 : List Dpn), m = (insG 0 g.2).length - k ∧ (i + 1 ≤ k) ∧ (k ≤ (insG 0 g.2).length) ∧ (o ++ rowN g i k = o2) ∧ (o2.length ≤ 120 * i + k) ∧ σ = [(.t 0, .v (.o (.c (.ptr (rT g))))), (.t 3, .v (.o (.c (.own 120 3 (o2.length))))), (.t 4, .v (.o (nat1 (i : Nat)))), (.t 5, .v (.o (nat1 (k : Nat)))), (.t 10, .v (.o (vD (dNs (insG 0 g.2))))), (.t 11, .v (.o (nat1 ((insG 0 g.2).length : Nat)))), (.t 12, .v (.o (nat1 (i : Nat)))), (.b 120, .b 159 3 (dR (o2.map rD))), (.u 120, .u)])) [(120, 110)] ⟨i + 1, o, rfl, by omega, by omega, by rw [rowN_zero, List.append_nil], by omega, rfl⟩ ⟨ks rfl .dt, ks rfl (.c .ow), ks rfl .dt, ks rfl .dt, ks rfl .dt, ks rfl .dt, ks rfl .dt, kb 110 rfl (.dt rfl (by first | rfl | (simp [dR, rD, dI]; done) | (simp [dR, rD, dI]; rfl))), trivial⟩ ?_
      rintro m σ ⟨k, o2, hm0, hk1, hk, hEi, ho2, rfl⟩
      refine .seq <| .seq <| .region <| .cons (.mv rfl rfl) <| .cons (.mv rfl rfl) <| .cons (.nP rfl rfl) <| .cons (.fP 2 0 false rfl rfl) <| .cons (.l1 1 rfl rfl) <| .cons (.ln 86 3 40 rfl rfl rfl) <| .cons (.ls rfl rfl rfl) <| .nil <| ks_n ?_
      refine .cD rfl (fun h23 => ?_) (fun h23 => ?_)
      · skip
        obtain ⟨y, hy1⟩ : ∃ x_, (insG 0 g.2)[k]? = some x_ := ⟨_, List.getElem?_eq_getElem (by omega)⟩
        obtain ⟨ky, cy, qy, hIy⟩ := ins_at hS (List.mem_of_getElem? hy1)
        have hly := usR_len hIy
        have hkb := kindN_bd (g := g) (i := i) (k := k)
        refine .skip <| ks_n <| .seq <| .block <| .seq <| .region <| .cons (.mv rfl rfl) <| .cons (.mv rfl rfl) <| .cons (.mv rfl rfl) <| .cons (.cP [.tmp 26, .tmp 27, .tmp 28] rfl rfl rfl rfl (between_fn hx1 hy1 hlx hly) rfl) ?_
        refine .cons (.asg rfl rfl) <| .nil <| ks_n <| .seq <| .region <| .cons (.mv rfl rfl) <| .cons (.gt rfl rfl rfl) <| .nil <| ks_n ?_
        refine .cD rfl (fun h31 => ?_) (fun h31 => ?_)
        · skip
          have hkn : kindN g i k ≠ 0 := by omega
          refine .region <| .cons (.mv rfl rfl) <| .cons (.mv rfl rfl) <| .cons (.mv rfl rfl) <| .cons (.mv rfl rfl) <| .cons (.bu [(0, .tmp 33), (1, .tmp 34), (2, .tmp 35)] [(0, 1), (1, 1), (2, 1)] [.int .i64 0, .int .i64 0, .int .i64 0] rfl rfl rfl rfl rfl) <| .cons (.li 159 2 0 [.tmp 36] rfl rfl rfl rfl rfl rfl) <| .cons (St1.appB (k' := 138) (e := 159) (sz := 2) (by' := 24) rfl rfl rfl rfl rfl (by kernel_rfl) rfl rfl rfl rfl (by first | (simp [dR]; done) | (simp [dR]; omega)) (by first | (simp [dR]; done) | (simp [dR]; omega)) rfl rfl rfl) ?_
          refine .cons (.asg rfl rfl) <| .nil <| kb_n <| ks_n <| .region <| .cons (.mv rfl rfl) <| .cons (.pl rfl rfl rfl) <| .cons (.asg rfl rfl) <| .nil ?_
          refine kl_k [(120, 138)] ⟨k + 1, o2 ++ [((i : Int), ((k : Nat) : Int), kindN g i k)], rfl, by omega, by omega, by rw [rowN_yes (by omega) hkn, ← List.append_assoc, hEi], by rw [List.length_append, List.length_singleton]; omega, rfl⟩ ⟨ks rfl .dt, ks rfl (.c .ow), ks rfl .dt, ks rfl .dt, ks rfl .dt, ks rfl .dt, ks rfl .dt, kb 138 rfl (.dt rfl (by first | rfl | (simp [dR, rD, dI]; done) | (simp [dR, rD, dI]; rfl))), trivial⟩
        · skip
          have hkz : kindN g i k = 0 := by omega
          refine .skip <| kb_n <| ks_n <| .region <| .cons (.mv rfl rfl) <| .cons (.pl rfl rfl rfl) <| .cons (.asg rfl rfl) <| .nil ?_
          refine kl_k [(120, 120)] ⟨k + 1, o2, rfl, by omega, by omega, by rw [rowN_no hkz, hEi], by omega, rfl⟩ ⟨ks rfl .dt, ks rfl (.c .ow), ks rfl .dt, ks rfl .dt, ks rfl .dt, ks rfl .dt, ks rfl .dt, kb 120 rfl (.dt rfl (by first | rfl | (simp [dR, rD, dI]; done) | (simp [dR, rD, dI]; rfl))), trivial⟩
      · skip
        obtain rfl : k = (insG 0 g.2).length := by omega
        refine .exit <| ks_e <| kl_e <| kb_hit <| kb_n <| ks_n <| .region <| .cons (.pl rfl rfl rfl) <| .cons (.mv rfl rfl) <| .nil ?_
        refine kl_k [(110, 120)] (.inr ⟨i + 1, o2, rfl, by omega, by rw [depsN_next, hE]; exact hEi, by omega, rfl⟩) ⟨ks rfl .dt, ks rfl (.c .ow), ks rfl .dt, ks rfl .dt, ks rfl .dt, kb 120 rfl (.dt rfl (by first | rfl | (simp [dR, rD, dI]; done) | (simp [dR, rD, dI]; rfl))), trivial⟩
    · skip
      obtain rfl : i = (insG 0 g.2).length := by omega
      refine .exit <| ks_e <| kl_e <| kb_hit <| ks_n <| .seq <| .region <| .cons (.mv rfl rfl) <| .cons (.asg rfl rfl) <| .nil <| ks_n <| .ret ?_
      refine kf_wret [(.t 2, .v (.o (vD (dDs (depsG g)))))] (Wk.keep [] rfl rfl ⟨ks rfl (.c (.fz rfl (by rw [depsG, hE]) (by rw [depsG, hE, List.length_map]) (by omega))), trivial⟩) rfl ?_ nobox
      rfl

theorem l6Deps_fn {g : Prg} (hs : szG g ≤ 1073741824) (hS : prgS g = true) (hL : (insG 0 g.2).length ≤ 120) : Fn Tryz.prog 129 [] [ad (rG g)] (.o (vD (dDs (depsG g)))) [] := by
 have hul := usL_len (g := g)
 refine Fn.code0 Tryz.func129 rfl rfl rfl rfl ?_
 refine .seq <| .region <| .cons (St1.boxP rfl rfl rfl rfl rfl rfl) <| .cons (.asg rfl rfl) <| .nil <| ks_n <| .seq <| .region <| .cons (St1.lit0 (k' := 108) (e := 159) (sz := 3) (b := true) rfl rfl rfl rfl (by kernel_rfl) rfl rfl) ?_
 refine .cons (.asg rfl rfl) <| .nil <| ks_n <| .seq <| .region <| .cons (.lN 2 rfl rfl rfl) <| .cons (.cP [.tmp 9] rfl rfl rfl rfl (l6Uses_fn hs hS) rfl) ?_
 refine .cons (.asg rfl rfl) <| .nil <| ks_n <| .seq <| .seq <| .region <| .cons (.asg rfl rfl) <| .nil <| ks_n <| .block ?_
 refine .loopK (fun m σ => (∃ (i : Nat) (o : List Dpn), m = (insG 0 g.2).length - i ∧ (i ≤ (insG 0 g.2).length) ∧ (depsN g i = o) ∧ (o.length ≤ 120 * i) ∧ σ = [(.t 1, .v (.o (.c (.ptr (rG g))))), (.t 3, .v (.o (.c (.own 110 3 (o.length))))), (.t 4, .v (.o (vD (dUs (usL g))))), (.t 5, .v (.o (nat1 (i : Nat)))), (.b 110, .b 159 3 (dR (o.map rD))), (.u 110, .u)])) [(110, 108)] ⟨0, [], rfl, by omega, rfl, by simp, rfl⟩ ⟨ks rfl .dt, ks rfl (.c .ow), ks rfl .dt, ks rfl .dt, kb 108 rfl (.dt rfl (by first | rfl | (simp [dR, rD, dI]; done) | (simp [dR, rD, dI]; rfl))), trivial⟩ ?_
 rintro m σ ⟨i, o, hm0, hi, hE, ho, rfl⟩
 refine .seq <| .seq <| .region <| .cons (.mv rfl rfl) <| .cons (.mv rfl rfl) <| .cons (.ln 71 2 32 rfl rfl rfl) <| .cons (.ls rfl rfl rfl) <| .nil <| ks_n ?_
 refine .cD rfl (fun h14 => ?_) (fun h14 => ?_)
 ·skip
  obtain ⟨x, hx1⟩ : ∃ x_, (insG 0 g.2)[i]? = some x_ := ⟨_, List.getElem?_eq_getElem (by omega)⟩
  obtain ⟨kx, cx, qx, hIx⟩ := ins_at hS (List.mem_of_getElem? hx1)
  have hlx := usR_len hIx
  refine .skip <| ks_n <| .seq <| .block <| .seq <| .region <| .cons (.mv rfl rfl) <| .cons (.pl rfl rfl rfl) <| .cons (.asg rfl rfl) <| .nil <| ks_n <| .block ?_
  refine .loopK (fun m σ => (∃ (k : Nat) (o2 : List Dpn), m = (insG 0 g.2).length - k ∧ (i + 1 ≤ k) ∧ (k ≤ (insG 0 g.2).length) ∧ (o ++ rowN g i k = o2) ∧ (o2.length ≤ 120 * i + k) ∧ σ = [(.t 1, .v (.o (.c (.ptr (rG g))))), (.t 3, .v (.o (.c (.own 120 3 (o2.length))))), (.t 4, .v (.o (vD (dUs (usL g))))), (.t 5, .v (.o (nat1 (i : Nat)))), (.t 6, .v (.o (nat1 (k : Nat)))), (.b 120, .b 159 3 (dR (o2.map rD))), (.u 120, .u)])) [(120, 110)] ⟨i + 1, o, rfl, by omega, by omega, by rw [rowN_zero, List.append_nil], by omega, rfl⟩ ⟨ks rfl .dt, ks rfl (.c .ow), ks rfl .dt, ks rfl .dt, ks rfl .dt, kb 110 rfl (.dt rfl (by first | rfl | (simp [dR, rD, dI]; done) | (simp [dR, rD, dI]; rfl))), trivial⟩ ?_
  rintro m σ ⟨k, o2, hm0, hk1, hk, hEi, ho2, rfl⟩
  refine .seq <| .seq <| .region <| .cons (.mv rfl rfl) <| .cons (.mv rfl rfl) <| .cons (.ln 71 2 32 rfl rfl rfl) <| .cons (.ls rfl rfl rfl) <| .nil <| ks_n ?_
  refine .cD rfl (fun h22 => ?_) (fun h22 => ?_)
  ·skip
   obtain ⟨y, hy1⟩ : ∃ x_, (insG 0 g.2)[k]? = some x_ := ⟨_, List.getElem?_eq_getElem (by omega)⟩
   obtain ⟨ky, cy, qy, hIy⟩ := ins_at hS (List.mem_of_getElem? hy1)
   have hly := usR_len hIy
   have hkb := kindN_bd (g := g) (i := i) (k := k)
   have hke := kindN_eq (usL_at hx1) (usL_at hy1)
   refine .skip <| ks_n <| .seq <| .block <| .seq ?_
   refine ACode.drawK (by kernel_rfl) (by kernel_rfl) ?_
   refine .cons (.mv rfl rfl) <| .cons (.mv rfl rfl) <| .cons (.xL 71 2 32 rfl rfl rfl rfl rfl (map_at (usL_at hx1))) ?_
   refine .cons (.lN 2 rfl rfl rfl) <| .cons (.mv rfl rfl) <| .cons (.mv rfl rfl) <| .cons (.xL 71 2 32 rfl rfl rfl rfl rfl (map_at (usL_at hy1))) ?_
   refine .cons (.lN 2 rfl rfl rfl) <| .cons (.cP [.tmp 28, .tmp 32] rfl rfl rfl rfl (l6Kinds_fn (usG g x) (usG g y) hlx hly) rfl) ?_
   refine .cons (.asg rfl rfl) ?_
   refine .nil ⟨by kernel_rfl, ?_⟩
   refine ks_n <| .seq ?_
   refine .keep [(.t 1, .v (.o (.c (.ptr (rG g))))), (.t 3, .v (.o (.c (.own 800 3 (o2.length))))), (.t 4, .v (.o (vD (dUs (usL g))))), (.t 5, .v (.o (nat1 (i : Nat)))), (.t 6, .v (.o (nat1 (k : Nat)))), (.t 7, .v (.o (nat1 (kindN g i k)))), (.b 800, .b 159 3 (dR (o2.map rD))), (.u 800, .u)] [(800, 120)] ⟨ks rfl .dt, ks rfl (.c .ow), ks rfl .dt, ks rfl .dt, ks rfl .dt, ks rfl (.dt (by rw [hke])), kb 120 rfl (.dt rfl (by first | rfl | (simp [dR, rD, dI]; done) | (simp [dR, rD, dI]; rfl))), trivial⟩ ?_
   refine .region <| .cons (.mv rfl rfl) <| .cons (.ne rfl rfl rfl) <| .nil <| ks_n ?_
   refine .cND rfl (fun h35 => ?_) (fun h35 => ?_)
   ·skip
    have hkn : kindN g i k ≠ 0 := by omega
    refine .region <| .cons (.mv rfl rfl) <| .cons (.mv rfl rfl) <| .cons (.mv rfl rfl) <| .cons (.mv rfl rfl) <| .cons (.bu [(0, .tmp 37), (1, .tmp 38), (2, .tmp 39)] [(0, 1), (1, 1), (2, 1)] [.int .i64 0, .int .i64 0, .int .i64 0] rfl rfl rfl rfl rfl) <| .cons (.li 159 2 0 [.tmp 40] rfl rfl rfl rfl rfl rfl) <| .cons (St1.appB (k' := 142) (e := 159) (sz := 2) (by' := 24) rfl rfl rfl rfl rfl (by kernel_rfl) rfl rfl rfl rfl (by first | (simp [dR]; done) | (simp [dR]; omega)) (by first | (simp [dR]; done) | (simp [dR]; omega)) rfl rfl rfl) ?_
    refine .cons (.asg rfl rfl) <| .nil <| kb_n <| ks_n <| .region <| .cons (.mv rfl rfl) <| .cons (.pl rfl rfl rfl) <| .cons (.asg rfl rfl) <| .nil ?_
    refine kl_k [(120, 142)] ⟨k + 1, o2 ++ [((i : Int), ((k : Nat) : Int), kindN g i k)], rfl, by omega, by omega, by rw [rowN_yes (by omega) hkn, ← List.append_assoc, hEi], by rw [List.length_append, List.length_singleton]; omega, rfl⟩ ⟨ks rfl .dt, ks rfl (.c .ow), ks rfl .dt, ks rfl .dt, ks rfl .dt, kb 142 rfl (.dt rfl (by first | rfl | (simp [dR, rD, dI]; done) | (simp [dR, rD, dI]; rfl))), trivial⟩
   ·skip
    have hkz : kindN g i k = 0 := by omega
    refine .skip <| kb_n <| ks_n <| .region <| .cons (.mv rfl rfl) <| .cons (.pl rfl rfl rfl) <| .cons (.asg rfl rfl) <| .nil ?_
    refine kl_k [(120, 800)] ⟨k + 1, o2, rfl, by omega, by omega, by rw [rowN_no hkz, hEi], by omega, rfl⟩ ⟨ks rfl .dt, ks rfl (.c .ow), ks rfl .dt, ks rfl .dt, ks rfl .dt, kb 800 rfl (.dt rfl (by first | rfl | (simp [dR, rD, dI]; done) | (simp [dR, rD, dI]; rfl))), trivial⟩
  ·skip
   obtain rfl : k = (insG 0 g.2).length := by omega
   refine .exit <| ks_e <| kl_e <| kb_hit <| kb_n <| ks_n <| .region <| .cons (.mv rfl rfl) <| .cons (.pl rfl rfl rfl) <| .cons (.asg rfl rfl) <| .nil ?_
   refine kl_k [(110, 120)] ⟨i + 1, o2, rfl, by omega, by rw [depsN_next, hE]; exact hEi, by omega, rfl⟩ ⟨ks rfl .dt, ks rfl (.c .ow), ks rfl .dt, ks rfl .dt, kb 120 rfl (.dt rfl (by first | rfl | (simp [dR, rD, dI]; done) | (simp [dR, rD, dI]; rfl))), trivial⟩
 ·skip
  obtain rfl : i = (insG 0 g.2).length := by omega
  refine .exit <| ks_e <| kl_e <| kb_hit <| ks_n <| .seq <| .region <| .cons (.mv rfl rfl) <| .cons (.asg rfl rfl) <| .nil <| ks_n <| .ret ?_
  refine kf_wret [(.t 2, .v (.o (vD (dDs (depsG g)))))] (Wk.keep [] rfl rfl ⟨ks rfl (.c (.fz rfl (by rw [depsG, hE]) (by rw [depsG, hE, List.length_map]) (by omega))), trivial⟩) rfl ?_ nobox
  rfl

section
variable {P : Program} {n : Nat} {ops : Array Oper} {o : Oper} {σ : St} {d : Nat} {t e : TypeId} {x y : Operand} {k sz by' m i : Nat} {p : Int} {rows : List (List C)}
theorem St1.sliceToB (h4 : (o.op, o.guard, o.dst, Nat.blt d n) = (Op.slice t x none (some y) none, none, some d, true)) (ht : tyS P t = some (e, sz, by')) (hx : ev σ x = some (.o (.c (.own k sz m)))) (hb : lk σ (.b k) = .b e sz rows) (hy : ev σ y = some (.o (nat1 p))) (hp : p = (i : Int)) (hi : i ≤ m) :
    St1 P n ops o σ ((rd x ++ rd y) ++ [.b k]) [.t d] ((.t d, .v (.o (.c (.own k sz i)))) :: σ) := by
  simp only [Prod.mk.injEq] at h4
  obtain ⟨ho, hg, hd, hn⟩ := h4
  exact St1.value hg hd hn fun E bx τ a w hR hs => by
    subst hp
    have hk : τ (.b k) = .b e sz rows := (rd_r hR _ (by simp)).trans hb
    obtain ⟨cap, e1, c1, c2, c3⟩ := ev_own hx (rd_l (rd_l hR)) hs (Al_of hk)
    obtain ⟨hu, _⟩ := tyS_out ht
    have hrefs := (ev_ok hx (rd_l (rd_l hR)) hs).2
    refine ⟨⟨.slice (some ⟨(bx k).1, 0, none⟩) i cap, ?_, ⟨rfl, fun _ => ⟨cap, rfl, by omega, c2, c3⟩⟩⟩, hrefs⟩
    have hbd : 0 ≤ (i : Int) ∧ (i : Int) ≤ (cap : Int) := by omega
    simp [execOp, ho, e1, ev_val hy (rd_r (rd_l hR)) hs, sliceAt_list ht, Instr.slice, run_underlying hu, Instr.sliceBounds, Instr.sliceBound, asIntOf, hbd, run_sizeE ht]
    rw [if_pos (by omega)]
    simp [Addr.add]
/-- What clear writes is cells. -/
def tyC (P : Program) (t : TypeId) : Bool := match P.underlying t with
  | some (.slice e) => match P.info? e with
    | some i => match i.zero with
      | some z => Nat.beq z.cells.size i.size && (Nat.blt 0 i.size && z.cells.toList.all fun v => v.oneCell')
      | none => false
    | none => false
  | _ => false
theorem zeroCells_ok {zs : Array Value} {q : Nat} (h0 : 0 < zs.size) (h : ∀ v ∈ zs.toList, v.oneCell' = true) : (Builtin.zeroCells zs q).toList.length = q * zs.size ∧ ∀ v ∈ (Builtin.zeroCells zs q).toList, v.oneCell' = true := by
  refine ⟨by simp [Builtin.zeroCells], fun v hv => ?_⟩
  simp only [Builtin.zeroCells, Array.toList_map, List.mem_map] at hv
  obtain ⟨j, _, rfl⟩ := hv
  have hj : j % zs.size < zs.size := Nat.mod_lt _ h0
  rw [getElem!_pos zs _ hj]
  exact h _ (Array.mem_toList_iff.2 (Array.getElem_mem hj))
theorem run_clear_own {w : World} {b q c s : Nat} {cur : Array Value} (hc : tyC P t = true) (ht : tyS P t = some (e, sz, by')) (hw : w.heap[b]? = some (.cells cur e (0, 0))) (hq : 0 < q) (hs : s + q * sz ≤ cur.size) {ty : TypeId} :
    ∃ vs : List Value, vs.length = q * sz ∧ (Builtin.clear_ #[t] ty #[.slice (some ⟨b, s, none⟩) q c]).run P w = .ok (.tuple #[]) (w.setCells b s vs) := by
  obtain ⟨hu, i, hi, hsz, _⟩ := tyS_out ht
  simp only [tyC, hu, hi] at hc
  cases hz : i.zero with
  | none => rw [hz] at hc; cases hc
  | some z =>
    rw [hz] at hc
    simp only [Bool.and_eq_true] at hc
    obtain ⟨h1, h2, h3⟩ := hc
    have h1' := Nat.eq_of_beq_eq_true h1
    have h2' : 0 < i.size := by simpa using h2
    obtain ⟨g1, g2⟩ := zeroCells_ok (zs := z.cells) (q := q) (by omega) (fun v hv => List.all_eq_true.1 h3 v hv)
    refine ⟨(Builtin.zeroCells z.cells q).toList, by rw [g1, h1', hsz], ?_⟩
    have hst := run_storeCells_cells (P := P) b s (Builtin.zeroCells z.cells q).toList 0 w (fun j hj => by rw [cell_of_row w _ _ _ _ _ hw, Array.getElem?_eq_getElem (by rw [g1, h1', hsz] at hj; omega)]; rfl) (fun j hj => by simp [World.frozen?, hw]) g2
    simp only [Nat.add_zero] at hst
    obtain ⟨q', rfl⟩ : ∃ q', q = q' + 1 := ⟨q - 1, by omega⟩
    simp [Builtin.clear_, run_underlying hu, zeroValue, typeInfo, hi, hz, hst]
theorem AOps.clrB {o1 o2 : Oper} {l : List Oper} {K : St → Prop} (h4 : (o1.op, o1.guard, o1.dst, Nat.blt d n) = (Op.slice t x (some y) none none, none, some d, true)) (h5 : (o2.op, o2.guard, o2.dst) = (Op.call { callee := .builtin .clear, args := #[.tmp d], argTypes := #[t] }, none, none))
    (ht : tyS P t = some (e, sz, by')) (hc : tyC P t = true) (hx : ev σ x = some (.o (.c (.own k sz m)))) (hb : lk σ (.b k) = .b e sz rows) (hm : rows.length = m) (hy : ev σ y = some (.o (nat1 p))) (hp : p = (i : Int)) (hi : i < m)
    (kk : AOps P n ops l K ((.b k, .b e sz (rows.take i)) :: (.t d, .no) :: σ)) : AOps P n ops (o1 :: o2 :: l) K σ := by
  simp only [Prod.mk.injEq] at h4 h5
  obtain ⟨ho, hg, hd, hn⟩ := h4
  obtain ⟨ho2, hg2, hd2⟩ := h5
  subst hp hm
  intro E bx a w hE hs Q hQ
  have hR : ∀ r, lk σ r = lk σ r := fun _ => rfl
  obtain ⟨cap, e1, c1, c2, c3⟩ := ev_own hx (fun _ _ => rfl) hs (Al_of hb)
  obtain ⟨hu, _⟩ := tyS_out ht
  obtain ⟨cur, b1, b2, b3, b4, b5⟩ := hs.box k e sz rows hb
  refine wpList_step fun KK hKK => ?_
  rw [if_pos (by simp [Region.wanted, hg])]
  unfold Oper.wp
  have hbd : 0 ≤ (i : Int) ∧ (i : Int) ≤ (rows.length : Int) := by omega
  have hrun : (execOp a.eval o1).run P w = .ok (.value (.slice (some ⟨(bx k).1, i * sz, none⟩) (rows.length - i) (cap - i))) w := by
    simp [execOp, ho, e1, ev_val hy (fun _ _ => rfl) hs, sliceAt_list ht, Instr.slice, run_underlying hu, Instr.sliceBounds, Instr.sliceBound, asIntOf, hbd, run_sizeE ht]
    rw [if_pos (by omega), if_neg (by omega)]
    simp [Addr.add]
    exact fun h => h.symm
  rw [hrun, Oper.upon_value, hd]
  refine hKK _ _ ?_
  have hdn : d < E.n := by rw [hE]; simpa using hn
  have hs1 : SR E bx (upd (lk σ) (.t d) .no) (a.put (some d) (.slice (some ⟨(bx k).1, i * sz, none⟩) (rows.length - i) (cap - i))) w := hs.drop _
  refine wpList_step fun KK2 hKK2 => ?_
  rw [if_pos (by simp [Region.wanted, hg2])]
  unfold Oper.wp
  have hle := Nat.mul_le_mul_right sz (show i ≤ rows.length by omega)
  have hsum : i * sz + (rows.length - i) * sz ≤ cur.size := by rw [Nat.sub_mul]; omega
  obtain ⟨vs, v1, v2⟩ := run_clear_own (P := P) (w := w) (b := (bx k).1) (q := rows.length - i) (c := cap - i) (s := i * sz) hc ht b1 (by omega) hsum (ty := o2.type)
  have hrun2 : (execOp (a.put (some d) (.slice (some ⟨(bx k).1, i * sz, none⟩) (rows.length - i) (cap - i))).eval o2).run P w = .ok (.value (.tuple #[])) (w.setCells (bx k).1 (i * sz) vs) := by
    have hda : d < a.tmps.size := by rw [hs.size]; exact hdn
    have hev : (a.put (some d) (.slice (some ⟨(bx k).1, i * sz, none⟩) (rows.length - i) (cap - i))).eval (.tmp d) = .slice (some ⟨(bx k).1, i * sz, none⟩) (rows.length - i) (cap - i) := by
      simp [Act.put, Act.eval, hda]
    simp only [execOp, ho2, resolve, invoke, builtin, Sem.run_bind, Sem.run_pure, Result.andThen_ok, List.map_toArray, List.map_cons, List.map_nil, hev, v2]
  rw [hrun2, Oper.upon_value, hd2]
  refine hKK2 _ _ ?_
  obtain ⟨cur', f1, f2, f3⟩ := heap_setCells (bx k).1 e vs (i * sz) w cur b1 (by rw [v1]; exact hsum)
  have hkb : upd (lk σ) (.t d) .no (.b k) = .b e sz rows := by rw [upd_other _ _ (by simp)]; exact hb
  have hnew := hs1.write (rows' := rows.take i) hkb (setCells_grown (bx k).1 vs (i * sz) w) f1 (by rw [f2, b2]) (by rw [List.length_take, f2]; exact Nat.le_trans (Nat.mul_le_mul_right sz (Nat.min_le_right _ _)) b3)
    (fun j r hj => by rw [List.getElem?_take] at hj; split at hj; · exact b4 j r hj
                      · cases hj)
    (fun j r q c hj hq => by
      have hj0 : j < i ∧ rows[j]? = some r := by
        rw [List.getElem?_take] at hj
        split at hj
        · exact ⟨by assumption, hj⟩
        · cases hj
      obtain ⟨u, u1, u2⟩ := b5 j r q c hj0.2 hq
      have hqs : q < sz := by have := b4 j r hj0.2; have := (List.getElem?_eq_some_iff.1 hq).1; omega
      have hmul := Nat.mul_le_mul_right sz (show j + 1 ≤ i by omega)
      rw [Nat.add_mul, Nat.one_mul] at hmul
      have hal := Al_upd_t (lk σ) d .no
      have hbf := Bf_upd_t (E := E) (bx := bx) (lk σ) d .no
      refine ⟨u, ?_, by rw [hal, hbf]; exact u2⟩
      rw [← Array.getElem?_toList, f3, List.append_assoc, List.getElem?_append_left (by rw [List.length_take, Array.length_toList]; omega), List.getElem?_take, if_pos (by omega), Array.getElem?_toList]
      exact u1)
    (fun r hr c hc' l hl => by
      rw [upd_other _ _ (by simp)]
      exact fun hu' => (hs.unused l hu').2.2 k e sz rows hb r (List.mem_of_mem_take hr) c hc' hl)
  refine kk E bx _ _ hE ?_ Q hQ
  have e9 : lk ((.b k, .b e sz (rows.take i)) :: (.t d, .no) :: σ) = upd (upd (lk σ) (.t d) .no) (.b k) (.b e sz (rows.take i)) := by rw [lk_cons, lk_cons]
  rw [e9]
  exact hnew
/-! ### The last rows of a slice of the call's own, read on -/
theorem ev_off {E : Env} {bx : Nat → Nat × Nat} {τ : Res → RC} {a : Act} {w : World} {k sz i m : Nat} (h : ev σ x = some (.o (.c (.off k sz i m)))) (hr : ∀ r ∈ rd x, τ r = lk σ r) (hs : SR E bx τ a w) (hk : Al τ k) :
    ∃ cap, a.eval x = .slice (some ⟨(bx k).1, i * sz, none⟩) m cap ∧ m ≤ cap ∧ cap ≤ maxLen := (ev_ok h hr hs).1.2 hk
theorem St1.sliceFromB (h4 : (o.op, o.guard, o.dst, Nat.blt d n) = (Op.slice t x (some y) none none, none, some d, true)) (ht : tyS P t = some (e, sz, by')) (hx : ev σ x = some (.o (.c (.own k sz m)))) (hb : lk σ (.b k) = .b e sz rows) (hy : ev σ y = some (.o (nat1 p))) (hp : p = (i : Int)) (hi : i < m) :
    St1 P n ops o σ ((rd x ++ rd y) ++ [.b k]) [.t d] ((.t d, .v (.o (.c (.off k sz i (m - i))))) :: σ) := by
  simp only [Prod.mk.injEq] at h4
  obtain ⟨ho, hg, hd, hn⟩ := h4
  exact St1.value hg hd hn fun E bx τ a w hR hs => by
    subst hp
    have hk : τ (.b k) = .b e sz rows := (rd_r hR _ (by simp)).trans hb
    obtain ⟨cap, e1, c1, c2, c3⟩ := ev_own hx (rd_l (rd_l hR)) hs (Al_of hk)
    obtain ⟨hu, _⟩ := tyS_out ht
    have hrefs := (ev_ok hx (rd_l (rd_l hR)) hs).2
    refine ⟨⟨.slice (some ⟨(bx k).1, i * sz, none⟩) (m - i) (cap - i), ?_, ⟨rfl, fun _ => ⟨cap - i, rfl, by omega, by omega⟩⟩⟩, hrefs⟩
    have hbd : 0 ≤ (i : Int) ∧ (i : Int) ≤ (m : Int) := by omega
    simp [execOp, ho, e1, ev_val hy (rd_r (rd_l hR)) hs, sliceAt_list ht, Instr.slice, run_underlying hu, Instr.sliceBounds, Instr.sliceBound, asIntOf, hbd, run_sizeE ht]
    rw [if_pos (by omega), if_neg (by omega)]
    simp [Addr.add]
    exact fun h => h.symm
theorem St1.indexO {t e e' : TypeId} {x y : Operand} {sz sz' sz2 by' i0 i k m : Nat} {rows : List (List C)} {z : Int} (h4 : (o.op, o.guard, o.dst, Nat.blt d n) = (Op.indexAddr t x y, none, some d, true)) (ht : tyS P t = some (e, sz, by'))
    (hx : ev σ x = some (.o (.c (.off k sz' i0 m)))) (hsz : sz' = sz) (hb : lk σ (.b k) = .b e' sz2 rows) (hy : ev σ y = some (.o (nat1 z))) (hz : z = (i : Int)) (hi : i < m) : St1 P n ops o σ ((rd x ++ rd y) ++ [.b k]) [.t d] ((.t d, .v (.o (.c (.box k sz' (i0 + i) 0)))) :: σ) := by
  simp only [Prod.mk.injEq] at h4
  obtain ⟨ho, hg, hd, hn⟩ := h4
  exact St1.value hg hd hn fun E bx τ a w hR hs => by
    subst hsz hz
    have hk : τ (.b k) = .b e' sz2 rows := (rd_r hR _ (by simp)).trans hb
    obtain ⟨cap, e1, h1, h2⟩ := ev_off hx (rd_l (rd_l hR)) hs (Al_of hk)
    refine ⟨⟨_, by simp only [execOp, ho, e1, ev_val hy (rd_r (rd_l hR)) hs, Sem.run_bind, run_indexAt' ht w _ _ _ cap i hi]; rfl, rfl, fun _ => by rw [Nat.add_mul]; rfl⟩, fun l hl hu => ?_⟩
    exact (ev_ok hx (rd_l (rd_l hR)) hs).2 l hl hu
theorem St1.lenO {e e' : TypeId} {m by' sz sz' k i0 l : Nat} {rows : List (List C)} {ts : Array TypeId} (h4 : (o.op, o.guard, o.dst, Nat.blt d n) = (Op.call { callee := .builtin .len, args := #[x], argTypes := ts }, none, some d, true)) (hts : ts = #[t]) (ht : tyS P t = some (e, m, by')) (hx : ev σ x = some (.o (.c (.off k sz i0 l)))) (hb : lk σ (.b k) = .b e' sz' rows) :
    St1 P n ops o σ (rd x ++ [.b k]) [.t d] ((.t d, .v (.o (nat1 (l : Nat)))) :: σ) := by
  simp only [Prod.mk.injEq] at h4
  obtain ⟨ho, hg, hd, hn⟩ := h4
  exact St1.value hg hd hn fun E bx τ a w hR hs => by
    subst hts
    have hk : τ (.b k) = .b e' sz' rows := (rd_r hR _ (by simp)).trans hb
    obtain ⟨cap, e1, _⟩ := ev_off hx (rd_l hR) hs (Al_of hk)
    obtain ⟨hu, _⟩ := tyS_out ht
    exact ⟨⟨_, by simp [execOp, ho, resolve, invoke, builtin, e1, Builtin.len_, run_underlying hu, goInt], .val _ rfl⟩, fun k hk => by cases hk⟩
theorem Cto.of {σ : St} {inv : Inv} {k k' sz i n m : Nat} (hn : n = m := by first | rfl | omega) (h : (k', k) ∈ inv := by first | decide | simp) : Cto σ inv (.off k sz i n) (.off k' sz i m) := .off _ _ _ _ _ _ h hn
end






theorem vals2_parts {R : V1 → Value → Prop} {x y : V1} {vs : List Value} (h : Vals R [x, y] vs) : ∃ u v, vs = [u, v] ∧ R x u ∧ R y v := by
  obtain ⟨hl, h⟩ := h
  obtain ⟨u, l0, rfl, h0⟩ := len_cons (show vs.length = 1 + 1 from hl)
  obtain ⟨v, l1, rfl, h1⟩ := len_cons (show l0.length = 0 + 1 from h0)
  obtain rfl := len_zero h1
  exact ⟨u, v, rfl, h 0 x u rfl rfl, h 1 y v rfl rfl⟩
/-- A block of flags. -/
def TB (w : World) (g : Nat) (fl : List Bool) : Prop := w.heap[g]? = some (.cells (fl.map Value.bool).toArray 4 (0, 0))
section
variable {w w' : World} {g : Nat} {fl : List Bool}
theorem TB.cell (h : TB w g fl) {i : Nat} {b : Bool} (hb : fl[i]? = some b) : w.cell? ⟨g, i, none⟩ = some (.bool b) := by
  rw [cell_of_row w _ _ _ _ _ h, List.getElem?_toArray, List.getElem?_map, hb]; rfl
theorem TB.set (h : TB w g fl) (i : Nat) (b : Bool) : TB (w.setCell ⟨g, i, none⟩ (.bool b)) g (fl.set i b) := by
  have := heap_setCell_same w g i _ _ (.bool b) h
  rw [TB, this, List.setIfInBounds_toArray, List.map_set]
theorem TB.to (h : TB w g fl) (hb : w'.heap[g]? = w.heap[g]?) : TB w' g fl := hb.trans h
theorem TB.lt (h : TB w g fl) : g < w.heap.size := blk_lt h
theorem TB.dr (h : TB w g fl) (hn : fl.length ≤ 1000000) : Dr (fun _ => True) w (dBs fl) (.slice (some ⟨g, 0, none⟩) fl.length fl.length) := by
  refine Dr.list 1 (fl.map rB) _ _ _ g 0 (fun i _ => .bool (fl.getD i false)) (by rw [List.length_map]) (Nat.le_refl _) (by omega) (fun e => by cases e) (fun _ => rfl) (fun i r hi => ?_) (fun i r j x hi hj => ?_) (fun i r j x hi hj => ?_)
  all_goals
    rw [List.getElem?_map] at hi
    cases hd : fl[i]? with
    | none => rw [hd] at hi; cases hi
    | some b =>
      rw [hd] at hi; cases hi
      first
      | rfl
      | (obtain rfl : j = 0 := by have := (List.getElem?_eq_some_iff.1 hj).1; simp [rB] at this; omega
         cases hj
         first
         | exact ⟨trivial, by rw [Nat.mul_one, Nat.zero_add, Nat.add_zero, h.cell hd, List.getD, hd]; rfl⟩
         | (rw [List.getD, hd]; exact Dr.val _ rfl))
/-- But for the blocks of X nothing that was there has turned. -/
structure Chg (X : Nat → Prop) (w w' : World) : Prop where
  os : w'.os = w.os
  tape : w'.tape = w.tape
  output : w'.output = w.output
  size : w.heap.size ≤ w'.heap.size
  old : ∀ b, b < w.heap.size → ¬ X b → w'.heap[b]? = w.heap[b]?
theorem Chg.refl (X : Nat → Prop) (w : World) : Chg X w w := ⟨rfl, rfl, rfl, Nat.le_refl _, fun _ _ _ => rfl⟩
theorem Chg.fwd {X : Nat → Prop} {w'' : World} (h : Chg X w w') (hb : Below w'.heap.size w' w'') : Chg X w w'' :=
  ⟨hb.os.trans h.os, hb.tape.trans h.tape, hb.output.trans h.output, Nat.le_trans h.size hb.size, fun b h1 h2 => (hb.block b (Nat.lt_of_lt_of_le h1 h.size)).trans (h.old b h1 h2)⟩
theorem Chg.set {X : Nat → Prop} (h : Chg X w w') {b : Nat} (hX : w.heap.size ≤ b ∨ X b) (i : Nat) (v : Value) : Chg X w (w'.setCell ⟨b, i, none⟩ v) :=
  ⟨h.os, h.tape, h.output, Nat.le_trans h.size (by simp [World.setCell]), fun c h1 h2 => (Below.heap_setCell _ _ _ _ (by show c ≠ b; rintro rfl; rcases hX with h3 | h3; omega; exact h2 h3)).trans (h.old c h1 h2)⟩
theorem Chg.grown {X : Nat → Prop} {w'' : World} {r : Option Nat} (h : Chg X w w') (hg : w'.grownBy w'' r) (hX : ∀ k, r = some k → w.heap.size ≤ k ∨ X k) : Chg X w w'' :=
  ⟨hg.os.trans h.os, hg.tape.trans h.tape, hg.output.trans h.output, Nat.le_trans h.size hg.size, fun b h1 h2 => (hg.block b (Nat.lt_of_lt_of_le h1 h.size) (fun e => by rcases hX b e.symm with h3 | h3; omega; exact h2 h3)).trans (h.old b h1 h2)⟩
theorem Chg.below {X : Nat → Prop} {n : Nat} (h : Chg X w w') (hn : n ≤ w.heap.size) (hX : ∀ b, X b → n ≤ b) : Below n w w' := ⟨h.os, h.tape, h.output, h.size, fun b hb => h.old b (by omega) fun hx => by have := hX b hx; omega⟩
end

theorem Vals.none {args : List V1} {vs : List Value} {bx : Nat → Nat × Nat} {B : Nat → Prop} {w : World} (h : Vals (V1r bx (Al (lk [])) B w) args vs) : Vals (V1r bx0 al0 B w) args vs :=
  ⟨h.1, fun i x v hx hv => (h.2 i x v hx hv).to (Same.refl _ _) (fun b hb _ => hb) (fun k _ hk => (no_al0 k hk).elim)⟩
theorem al_one {k : Nat} {x : RC} : Al (lk [(.b 100, x), (.u 100, .u)]) k → k = 100 := fun ⟨e, sz, rows, h⟩ => by
  by_cases hk : k = 100
  · exact hk
  · rw [lk_other _ _ _ _ (by simp; omega), lk_other _ _ _ _ (by simp)] at h; cases h
/-- A call that answers numbers in memory of its own, told over abstract states. -/
theorem OwnC.fn {f : FuncId} {args : List V1} {xs : List Int} (hne : xs ≠ []) (h : OwnC f args xs) : Fn Tryz.prog f [] args (.o (.c (.own 100 1 xs.length))) [(.b 100, .b 3 1 (dR (xs.map rI))), (.u 100, .u)] := by
  intro B bx w vs hok hv
  refine (h B w vs hv.none).mono ?_
  rintro e w' ⟨⟨a, c, rfl, ho⟩, hb⟩
  obtain ⟨h1, ⟨_, h0⟩ | ⟨g, cap, cur, e, hg, hc, h3, h4, h5, r⟩⟩ := ho
  · exact absurd (List.eq_nil_of_length_eq_zero h0) hne
  cases e
  have hk : ∀ k, Al (lk [(.b 100, RC.b 3 1 (dR (xs.map rI))), (.u 100, .u)]) k → k = 100 := fun k => al_one
  refine ⟨_, fun _ => (g, cur.size), rfl, ⟨⟨fun k e sz rows hl => ?_, fun k l h1 h2 _ => (hk k h1).trans (hk l h2).symm, fun k h1 h2 => h2.2 k h1 rfl⟩, ⟨rfl, fun _ => ⟨c, rfl, h3, h4, by show c * 1 = cur.size; omega⟩⟩, hb.os, hb.tape, hb.output, hb.size, fun b hl _ => hb.block b hl, fun k h1 h2 => by have := hk k h2; omega, fun k _ => .inl hg⟩⟩
  obtain rfl := hk k ⟨e, sz, rows, hl⟩
  have hl : RC.b 3 1 (dR (xs.map rI)) = .b e sz rows := hl
  cases hl
  have hlen : (dR (xs.map rI)).length = xs.length := by simp [dR]
  refine ⟨cur, hc, rfl, by rw [hlen]; omega, fun i r hi => ?_, fun i r j c hi hj => ?_⟩
  all_goals
    rw [dR, List.getElem?_map, List.getElem?_map] at hi
    cases hx : xs[i]? with
    | none => rw [hx] at hi; cases hi
    | some x =>
      rw [hx] at hi; cases hi
      first
      | rfl
      | (obtain rfl : j = 0 := by have := (List.getElem?_eq_some_iff.1 hj).1; simp [rI] at this; omega
         cases hj
         refine ⟨.int .i64 x, ?_, Dr.val _ rfl⟩
         have hil := (List.getElem?_eq_some_iff.1 hx).1
         have := congrArg (fun l => l[i]?) r
         simp only [List.getElem?_map, hx] at this
         rw [List.getElem?_take, if_pos (by omega), Array.getElem?_toList] at this
         rw [Nat.mul_one, Nat.add_zero]; exact this)
end Go.Proofs.YtidfloikpieggaaGreat
namespace Go.Proofs.YtidfloikpieggaaGreat
set_option linter.unusedVariables false
set_option linter.unusedSimpArgs false
open Go.RowKit Go.Shelf Go.Lib
def ltL (x y : List Int) : Bool := decide (cmpL x y < 0)
theorem swoL : Go.Sort.SWO ltL where
  irrefl x := by rw [ltL, cmpL_self]; rfl
  trans x y z h1 h2 := by
    rw [ltL, decide_eq_true_eq] at *; exact cmpL_trans x y z h1 h2
  ntrans x y z h1 h2 := by
    rw [ltL, decide_eq_false_iff_not] at *
    have e1 := cmpL_anti x y; have e2 := cmpL_anti y z; have e3 := cmpL_anti x z
    intro h
    by_cases q1 : cmpL y x = 0
    · rw [cmpL_zero _ _ q1] at h2; exact h2 h
    · by_cases q2 : cmpL z y = 0
      · rw [cmpL_zero _ _ q2] at h; exact h1 h
      · have := cmpL_trans z y x (by omega) (by omega); omega
/-- The sorted list. -/
def sortL (ls : List (List Int)) : List (List Int) := ls.mergeSort fun x y => !ltL y x
theorem sortL_len {ls : List (List Int)} : (sortL ls).length = ls.length := List.length_mergeSort ..
theorem mem_sortL {ls : List (List Int)} {x : List Int} : x ∈ sortL ls ↔ x ∈ ls := (List.mergeSort_perm ls _).mem_iff
/-- A value and the numbers that it stands for. -/
abbrev VL (B : Nat → Prop) (w : World) := { p : Value × List Int // Dr B w (dIs p.2) p.1 }
theorem dr_nilI (B : Nat → Prop) (w : World) : Dr B w (dIs []) (.slice none 0 0) :=
  Dr.list 1 [] none 0 0 0 0 (fun _ _ => undef) rfl (Nat.le_refl _) (by omega) (fun _ => rfl) (fun h => absurd h (by omega)) (fun i r h => by cases h) (fun i r j x h => by cases h) (fun i r j x h => by cases h)
instance instVL (B : Nat → Prop) (w : World) : Inhabited (VL B w) := ⟨⟨(.slice none 0 0, []), dr_nilI B w⟩⟩
def vlV {B : Nat → Prop} {w : World} (p : VL B w) : Value := p.1.1
def vlC {B : Nat → Prop} {w : World} (p q : VL B w) : Int := cmpL p.1.2 q.1.2
theorem swoV (B : Nat → Prop) (w : World) : Go.Sort.SWO (ltOf (vlC (B := B) (w := w))) where
  irrefl x := swoL.irrefl x.1.2
  trans x y z := swoL.trans x.1.2 y.1.2 z.1.2
  ntrans x y z := swoL.ntrans x.1.2 y.1.2 z.1.2
section
variable {B : Nat → Prop} {w : World} {blk : Nat}
theorem sortWorld_block {d : Array (VL B w)} {m b : Nat} {os : Array Obj} (hb : b < w.heap.size) (hne : b ≠ blk) : (sortWorld vlV w blk 0 m d os).heap[b]? = w.heap[b]? := by
  show ((w.heap.modify blk _) ++ os)[b]? = _
  rw [Array.getElem?_append_left (by simpa using hb), Array.getElem?_modify, if_neg (fun e => hne e.symm)]
theorem sortWorld_own {d : Array (VL B w)} {m : Nat} {os : Array Obj} {cur : Array Value} {e : TypeId} (h : w.heap[blk]? = some (.cells cur e (0, 0))) : (sortWorld vlV w blk 0 m d os).heap[blk]? = some (.cells (Go.Sort.putCells vlV 0 d cur) e (0, 0)) := by
  have hb := (Array.getElem?_eq_some_iff.1 h).1
  show ((w.heap.modify blk _) ++ os)[blk]? = _
  rw [Array.getElem?_append_left (by simpa using hb), Array.getElem?_modify, if_pos rfl, h]; rfl
theorem sortWorld_size {d : Array (VL B w)} {m : Nat} {os : Array Obj} : w.heap.size ≤ (sortWorld vlV w blk 0 m d os).heap.size := by
  show _ ≤ ((w.heap.modify blk _) ++ os).size
  simp
theorem sortWorld_same {d : Array (VL B w)} {m : Nat} {os : Array Obj} (hB : ¬ B blk) : Same B w (sortWorld vlV w blk 0 m d os) := fun b hb hl => sortWorld_block hl fun e => hB (e ▸ hb)
end
/-- The sorted permutation of what stood there, read as lists. -/
theorem perm_sortL {B : Nat → Prop} {w : World} {d d' : Array (VL B w)} (hp : Go.Sort.PermIn 0 d.size d d') (hs : Go.Sort.SortedIn (ltOf vlC) 0 d.size d') : d'.toList.map (fun p => p.1.2) = sortL (d.toList.map fun p => p.1.2) := by
  have hsz := hp.1
  have key := Go.Sort.sorted_unique_holds (lt := ltL) swoL (fun x y h1 h2 => by
    rw [ltL, decide_eq_false_iff_not] at h1 h2
    have := cmpL_anti x y
    exact cmpL_zero x y (by omega)) (d.map fun p => p.1.2) (d'.map fun p => p.1.2) ⟨by simp [hsz], fun i hi => ?_, ?_⟩ fun i j h1 h2 h3 => ?_
  · simpa [sortL] using key
  · rw [Array.size_map] at hi
    have hi : d.size ≤ i := by omega
    rw [getElem!_neg _ i (by simp; omega), getElem!_neg _ i (by simp; omega)]
  · have h := hp.2.2
    have e1 : d'.extract 0 d.size = d' := by rw [← hsz]; exact Array.extract_size
    rw [e1, Array.extract_size] at h
    have e2 : (d'.map fun p => p.1.2).extract 0 (d.map fun p => p.1.2).size = d'.map fun p => p.1.2 := by rw [Array.size_map, ← hsz, ← Array.size_map (f := fun p : VL B w => p.1.2)]; exact Array.extract_size
    rw [Array.size_map] at *
    have e3 : (d.map fun p => p.1.2).extract 0 d.size = d.map fun p => p.1.2 := by rw [← Array.size_map (f := fun p : VL B w => p.1.2)]; exact Array.extract_size
    rw [e2, e3, Array.toList_map, Array.toList_map]
    exact h.map _
  · rw [Array.size_map] at h3
    have h := hs i j h1 h2 h3
    have q1 : j < d'.size := by omega
    have q2 : i < d'.size := by omega
    rw [getElem!_pos _ j (by simpa using q1), getElem!_pos _ i (by simpa using q2), Array.getElem_map, Array.getElem_map]
    rw [getElem!_pos _ j q1, getElem!_pos _ i q2] at h
    exact h
theorem al_z {x : RC} {k : Nat} : Al (lk [(.b 0, x), (.u 0, .u)]) k → k = 0 := fun ⟨e, sz, rows, h⟩ => by
  by_cases hk : k = 0
  · exact hk
  · rw [lk_other _ _ _ _ (by simp; omega), lk_other _ _ _ _ (by simp)] at h; cases h
theorem sort_fn {ρ : Go.Shelf.Ren} (L : SlLaysF.n6 Tryz.prog ρ) {ls : List (List Int)} (hl : ls.length ≤ 1000000) : Fn Tryz.prog (ρ.f 6) [(.b 0, .b 35 1 (dR (ls.map rIs))), (.u 0, .u)] [.c (.own 0 1 ls.length), .c (.fn 122 [])] (.tup []) [(.b 0, .b 35 1 (dR ((sortL ls).map rIs))), (.u 0, .u)] := by
  intro B bx w vs hok hv
  obtain ⟨v0, v1, rfl, q0, q1⟩ := vals2_parts hv
  have ha : Al (lk [(.b 0, RC.b 35 1 (dR (ls.map rIs))), (.u 0, .u)]) 0 := ⟨_, _, _, rfl⟩
  obtain ⟨_, h2⟩ := (show Cr bx (Al (lk [(.b 0, RC.b 35 1 (dR (ls.map rIs))), (.u 0, .u)])) B w (.own 0 1 ls.length) v0 from q0)
  obtain ⟨cap, rfl, h3, h4, h5⟩ := h2 ha
  obtain ⟨us, rfl, hus, _⟩ := (show Cr bx (Al (lk [(.b 0, RC.b 35 1 (dR (ls.map rIs))), (.u 0, .u)])) B w (.fn 122 []) v1 from q1)
  obtain rfl := List.eq_nil_of_length_eq_zero (show us.length = 0 from hus)
  obtain ⟨cur, hc, hcs, hcl, hr, hcells⟩ := hok.box 0 _ _ _ rfl
  have hB : ¬ B (bx 0).1 := hok.exc 0 ha
  have hlen : (dR (ls.map rIs)).length = ls.length := by simp [dR]
  rw [hlen, Nat.mul_one] at hcl
  have hat : ∀ i (hi : i < ls.length), ∃ u, cur[i]? = some u ∧ Dr B w (dIs ls[i]) u := fun i hi => by
    obtain ⟨u, e1, e2⟩ := hcells i [.d (dIs ls[i])] 0 (.d (dIs ls[i])) (by rw [dR, List.getElem?_map, List.getElem?_map, List.getElem?_eq_getElem hi]; rfl) rfl
    exact ⟨u, by rw [Nat.mul_one, Nat.add_zero] at e1; exact e1, e2⟩
  obtain ⟨d, hds, hd⟩ : ∃ d : Array (VL B w), d.size = ls.length ∧ ∀ i (hi : i < d.size), cur[i]? = some (vlV d[i]) ∧ ls[i]? = some d[i].1.2 := by
    refine ⟨Array.ofFn (n := ls.length) fun i => ⟨((hat i i.2).choose, ls[i]), (hat i i.2).choose_spec.2⟩, Array.size_ofFn, fun i hi => ?_⟩
    rw [Array.size_ofFn] at hi
    rw [Array.getElem_ofFn]
    exact ⟨(hat i hi).choose_spec.1, List.getElem?_eq_getElem hi⟩
  have hmap : d.toList.map (fun p => p.1.2) = ls := by
    apply List.ext_getElem?
    intro i
    rw [List.getElem?_map, Array.getElem?_toList]
    by_cases hi : i < d.size
    · rw [Array.getElem?_eq_getElem hi, (hd i hi).2]; rfl
    · rw [Array.getElem?_eq_none (by omega), List.getElem?_eq_none (by omega)]; rfl
  have hH : Go.Sort.Holds vlV w (bx 0).1 0 d := fun j hj => ⟨by rw [cell_of_row w _ _ _ _ _ hc, Nat.zero_add, getElem!_pos d j hj]; exact (hd j hj).1, by simp [World.frozen?, hc]⟩
  have hcmp : CmpLays1 Tryz.prog 122 #[] vlV vlC (bx 0).1 0 d.size w := fun m os dk hs x y => by
    have hs' : Same B w (sortWorld vlV w (bx 0).1 0 m dk os) := sortWorld_same hB
    have hx := x.2.frame hs'
    have hy := y.2.frame hs'
    obtain ⟨a1, c1, e1, _⟩ := Dr.slice (show Dr B _ (.list 1 (x.1.2.map rI)) x.1.1 from hx)
    obtain ⟨a2, c2, e2, _⟩ := Dr.slice (show Dr B _ (.list 1 (y.1.2.map rI)) y.1.1 from hy)
    rw [e1] at hx; rw [e2] at hy
    show Calls Tryz.prog _ (#[x.1.1, y.1.1] ++ #[]) _ _
    rw [e1, e2]
    refine (slCompare_any B B _ _ _ _ _ _ x.1.2 y.1.2 _ (dr_ints hx) (dr_ints hy)).mono ?_
    rintro e w' ⟨rfl, rfl⟩
    exact ⟨rfl, 0, #[], by rw [Go.Sort.grow_empty]; rfl⟩
  have eg : ∀ args w, (callFunc 122 args).run Tryz.prog w = .ok (.enter 122 args) w := fun _ _ => by kernel_rfl
  have hfin := Any.slices_SortFunc L vlV (fun x => x.2.one) vlC (swoV B w) 122 #[] (bx 0).1 0 cap d w eg hcmp hH (Array.getElem?_eq_some_iff.1 hc).1 (by omega)
  rw [hds] at hfin
  refine hfin.mono ?_
  rintro e w' ⟨rfl, d', n, os, hp, hso, rfl⟩
  rw [← hds] at hp hso
  have hperm := perm_sortL hp hso
  rw [hmap] at hperm
  have hsz := hp.1
  have hsame : Same B w (sortWorld vlV w (bx 0).1 0 n d' os) := sortWorld_same hB
  have hk : ∀ k, Al (lk [(.b 0, RC.b 35 1 (dR ((sortL ls).map rIs))), (.u 0, .u)]) k → k = 0 := fun k => al_z
  refine ⟨.tuple #[], bx, rfl, ⟨⟨fun k e sz rows hl => ?_, fun k l h1 h2 _ => (hk k h1).trans (hk l h2).symm, fun k h1 h2 => h2.2 k h1 rfl⟩, ⟨[], rfl, rfl, fun i c u h => by cases h⟩, rfl, rfl, rfl, sortWorld_size, fun b hl h => sortWorld_block hl (h 0 ha), fun k _ h2 => by obtain rfl := hk k h2; exact ⟨ha, rfl⟩, fun k h2 => by obtain rfl := hk k h2; exact .inr ⟨0, ha, rfl⟩⟩⟩
  obtain rfl := hk k ⟨e, sz, rows, hl⟩
  have hl : RC.b 35 1 (dR ((sortL ls).map rIs)) = .b e sz rows := hl
  cases hl
  have hlen' : (dR ((sortL ls).map rIs)).length = ls.length := by simp [dR, sortL_len]
  refine ⟨_, sortWorld_own hc, by simp [Go.Sort.putCells, hcs], by rw [hlen', Nat.mul_one]; simp [Go.Sort.putCells]; omega, fun i r hi => ?_, fun i r j c hi hj => ?_⟩
  all_goals
    rw [dR, List.getElem?_map, List.getElem?_map] at hi
    cases hx : (sortL ls)[i]? with
    | none => rw [hx] at hi; cases hi
    | some l =>
      rw [hx] at hi; cases hi
      first
      | rfl
      | (obtain rfl : j = 0 := by have := (List.getElem?_eq_some_iff.1 hj).1; simp [rIs] at this; omega
         cases hj
         have hil : i < d'.size := by have := (List.getElem?_eq_some_iff.1 hx).1; rw [sortL_len] at this; omega
         rw [← hperm, List.getElem?_map, Array.getElem?_toList, Array.getElem?_eq_getElem hil] at hx
         have hx : d'[i].1.2 = l := by simpa using hx
         refine ⟨vlV d'[i], ?_, ?_⟩
         · rw [Nat.mul_one, Nat.add_zero, Go.Sort.putCells, Array.getElem?_mapIdx, (hd i (by omega)).1]
           simp [hil]
         · subst hx
           exact Dr.mono (B' := Baft bx B w (lk [(.b 0, RC.b 35 1 (dR ((sortL ls).map rIs))), (.u 0, .u)])) (fun b hb _ => ⟨.inl hb, fun k h1 e => by obtain rfl := hk k h1; exact hB (e ▸ hb)⟩) (d'[i].2.frame hsame))
end Go.Proofs.YtidfloikpieggaaGreat
namespace Go.Proofs.YtidfloikpieggaaGreat
set_option linter.unusedVariables false
set_option linter.unusedSimpArgs false
open Go.RowKit
theorem slEq_fn (p q : List Int) : Fn Tryz.prog 124 [] [vD (dIs p), vD (dIs q)] (.o (bo1 (decide (p = q)))) [] :=
  Fn.pure fun B bx al w vs hv => by
    obtain ⟨u, v, rfl, h1, h2⟩ := vals2 hv
    have h3 := dr_ints h1
    have h4 := dr_ints h2
    obtain ⟨a, n, c, rfl, rfl⟩ := sl_form h3
    obtain ⟨a2, n2, c2, rfl, rfl⟩ := sl_form h4
    exact (slEq_any B B a a2 _ _ c c2 p q w h3 h4).mono fun e w' ⟨h1, h2⟩ => ⟨_, h1, h2.below _, .val _ rfl⟩
theorem l1Ints_fn (p q : List Int) : Fn Tryz.prog 173 [] [vD (dIs p), vD (dIs q)] (.o (bo1 (decide (p = q)))) [] :=
  Fn.pure fun B bx al w vs hv => by
    obtain ⟨u, v, rfl, h1, h2⟩ := vals2 hv
    have h3 := dr_ints h1
    have h4 := dr_ints h2
    obtain ⟨a, n, c, rfl, rfl⟩ := sl_form h3
    obtain ⟨a2, n2, c2, rfl, rfl⟩ := sl_form h4
    exact (l1Ints_any B B a a2 _ _ c c2 p q w h3 h4).mono fun e w' ⟨h1, h2⟩ => ⟨_, h1, h2.below _, .val _ rfl⟩
theorem specLex_fn (p q : List Int) : Fn Tryz.prog 174 [] [vD (dIs p), vD (dIs q)] (.o (bo1 (lexB p q))) [] :=
  Fn.pure fun B bx al w vs hv => by
    obtain ⟨u, v, rfl, h1, h2⟩ := vals2 hv
    have h3 := dr_ints h1
    have h4 := dr_ints h2
    obtain ⟨a, n, c, rfl, rfl⟩ := sl_form h3
    obtain ⟨a2, n2, c2, rfl, rfl⟩ := sl_form h4
    exact (specLex_any B B a a2 _ _ c c2 p q w h3 h4).mono fun e w' ⟨h1, h2⟩ => ⟨_, h1, h2.below _, .val _ rfl⟩
theorem carry_fn (p : List Int) : Fn Tryz.prog 79 [] [vD (dIs p)] (.o (nat1 (carry p))) [] :=
  Fn.pure fun B bx al w vs hv => by
    obtain ⟨u, rfl, h1⟩ := vals1 hv
    have h3 := dr_ints h1
    obtain ⟨a, n, c, rfl, rfl⟩ := sl_form h3
    exact (implCarry_any B a _ c p w h3).mono fun e w' ⟨h1, h2⟩ => ⟨_, h1, by rw [← h2]; exact Below.refl _ _, .val _ rfl⟩
theorem specCarry_fn (p : List Int) : Fn Tryz.prog 44 [] [vD (dIs p)] (.o (nat1 (carry p))) [] :=
  Fn.pure fun B bx al w vs hv => by
    obtain ⟨u, rfl, h1⟩ := vals1 hv
    have h3 := dr_ints h1
    obtain ⟨a, n, c, rfl, rfl⟩ := sl_form h3
    exact (specCarry_any B a _ c p w h3).mono fun e w' ⟨h1, h2⟩ => ⟨_, h1, by rw [← h2]; exact Below.refl _ _, .val _ rfl⟩

theorem compact_fn {ls : List (List Int)} (hl : ls.length ≤ 1000000) (h0 : 0 < ls.length) : Fn Tryz.prog 123 [(.b 0, .b 35 1 (dR ((ls).map rIs))), (.u 0, .u)] [.c (.own 0 1 ls.length), .c (.fn 124 [])] (.o (.c (.own 0 1 (kpV ls).length))) [(.b 0, .b 35 1 (dR ((kpV ls).map rIs))), (.u 0, .u)] := by
 refine Fn.of_code Tryz.func123 rfl rfl HB.nil.data rfl rfl HB.nil.data rfl (fun k _ h => by obtain rfl := al_z h; exact ⟨_, _, _, rfl⟩) ?_
 refine .seq <| .region <| .cons (.asg rfl rfl) <| .nil <| ks_n <| .seq <| .seq <| .region <| .cons (.mv rfl rfl) <| .cons (.lB 35 1 24 rfl rfl rfl rfl) <| .cons (.ls rfl rfl rfl) <| .nil <| ks_n ?_
 refine .cD rfl (fun h10 => ?_) (fun h10 => ?_)
 ·skip
  have hall : kpV ls = ls := by rw [kpV, show ls.length = 1 by omega, kpL_one (by omega), List.take_of_length_le (by omega)]
  refine .seq <| .region <| .cons (.mv rfl rfl) <| .cons (.asg rfl rfl) <| .nil <| ks_n <| .ret <| ks_r ?_
  refine kf_wret [(.t 4, .v (.o (.c (.own 0 1 ((kpV ls).length))))), (.b 0, .b 35 1 (dR ((kpV ls).map rIs))), (.u 0, .u)] (Wk.keep [(0, 0)] rfl rfl ⟨ks rfl (.c (.ow (by first | (rw [hall]; done) | (rw [kpV, ← hkq]; done)))), kb 0 rfl (.dt rfl (by first | (rw [hall]; done) | (rw [dR_takeP, ← List.map_take, rowsK_take, kpV, ← hkq]; done))), trivial⟩) rfl ?_ (one_box rfl)
  rfl
 ·skip
  refine .skip <| ks_n <| .seq <| .seq <| .region <| .cons (.asg rfl rfl) <| .nil <| ks_n <| .block ?_
  refine .loopK (fun m σ => (∃ k : Nat, m = ls.length - k ∧ (1 ≤ k) ∧ (k ≤ ls.length) ∧ (kpL ls k = ls.take k) ∧ σ = [(.t 0, .v (.o (.c (.own 0 1 (ls.length))))), (.t 1, .v (.o (.c (.fn 124 [])))), (.t 5, .v (.o (nat1 (k : Nat)))), (.b 0, .b 35 1 (dR ((ls).map rIs))), (.u 0, .u)])) [(0, 0)] ⟨1, rfl, by omega, by omega, kpL_one (by omega), rfl⟩ ⟨ks rfl (.c .ow), ks rfl .dt, ks rfl .dt, kb 0 rfl (.dt rfl rfl), trivial⟩ ?_
  rintro m σ ⟨k, hm0, hk1, hk, hE, rfl⟩
  refine .seq <| .seq <| .region <| .cons (.mv rfl rfl) <| .cons (.mv rfl rfl) <| .cons (.lB 35 1 24 rfl rfl rfl rfl) <| .cons (.ls rfl rfl rfl) <| .nil <| ks_n ?_
  refine .cD rfl (fun h15 => ?_) (fun h15 => ?_)
  ·skip
   obtain ⟨x, hx1⟩ : ∃ x_, ls[k]? = some x_ := ⟨_, List.getElem?_eq_getElem (by omega)⟩
   obtain ⟨y, hy1⟩ : ∃ x_, ls[k - 1]? = some x_ := ⟨_, List.getElem?_eq_getElem (by omega)⟩
   refine .skip <| ks_n <| .seq <| .block <| .seq ?_
   refine ACode.drawK (by kernel_rfl) (by kernel_rfl) ?_
   refine .cons (.mv rfl rfl) <| .cons (.mv rfl rfl) <| .cons (.mv rfl rfl) <| .cons (.xB 35 1 24 (i := k) rfl rfl rfl rfl rfl rfl (by omega)) ?_
   refine .cons (.b1 1 rfl rfl rfl rfl (dR_at (map_at hx1)) rfl) <| .cons (.mv rfl rfl) <| .cons (.mv rfl rfl) <| .cons (.sb rfl rfl rfl) <| .cons (.xB 35 1 24 (i := (k - 1)) rfl rfl rfl rfl rfl (by omega) (by omega)) ?_
   refine .cons (.b1 1 rfl rfl rfl rfl (dR_at (map_at hy1)) rfl) <| .cons (.cP [.tmp 22, .tmp 27] rfl rfl rfl rfl (slEq_fn x y) rfl (by kernel_rfl)) ?_
   refine .nil ⟨by kernel_rfl, ?_⟩
   refine ks_n ?_
   refine ACode.condT rfl (fun h28 => ?_) (fun h28 => ?_)
   ·try simp only [zs1, zs2, zs3, zs4, zs5, zs6, zs7] at h28
    have hdup := kpL_dup (by omega) hx1 hy1 (by first | assumption | simp_all)
    have hdl : (kpL ls k).length = k := by rw [hE, List.length_take]; omega
    have hd0 : (kpL ls k).length < k + 1 := by omega
    have hr0 : rowsK ls (k + 1) = ls := by rw [rowsK, hdup, hE, List.length_take, Nat.min_eq_left (by omega), List.take_append_drop]
    refine .seq <| .region <| .cons (.mv rfl rfl) <| .cons (.mv rfl rfl) <| .cons (St1.sliceFromB (e := 35) (sz := 1) (by' := 24) (i := k) rfl (by kernel_rfl) rfl rfl rfl rfl (by omega)) ?_
    refine .cons (.asg rfl rfl) <| .nil <| ks_n <| .seq <| .seq <| .region <| .cons (.asg rfl rfl) <| .nil <| ks_n <| .block ?_
    refine .loopK (fun m σ => (∃ q : Nat, m = ls.length - q ∧ (1 ≤ q) ∧ (k + q ≤ ls.length) ∧ ((kpL ls (k + q)).length < k + q) ∧ σ = [(.t 0, .v (.o (.c (.own 0 1 (ls.length))))), (.t 1, .v (.o (.c (.fn 124 [])))), (.t 5, .v (.o (nat1 ((kpL ls (k + q)).length : Nat)))), (.t 6, .v (.o (.c (.off 0 1 (k) (ls.length - k))))), (.t 7, .v (.o (nat1 (q : Nat)))), (.b 0, .b 35 1 (dR ((rowsK ls (k + q)).map rIs))), (.u 0, .u)])) [(0, 0)] ⟨1, rfl, by omega, by omega, by rw [hdup]; exact hd0, rfl⟩ ⟨ks rfl (.c .ow), ks rfl .dt, ks rfl (.dt (vI (by first | omega | (rw [hdup, hdl]; done) | (rw [← Nat.add_assoc, hsk]; done) | (rw [← Nat.add_assoc, hne, List.length_append, List.length_singleton]; omega)))), ks rfl (.c .of), ks rfl .dt, kb 0 rfl (.dt rfl (by first | rfl | (rw [hr0]; done) | (rw [hrk]; done) | (rw [← Nat.add_assoc, ← rowsK_set hne (by omega)]; exact dR_setP _ _ _ _))), trivial⟩ ?_
    rintro m σ ⟨q, hm0, hq1, hq, hkl, rfl⟩
    refine .seq <| .seq <| .region <| .cons (.mv rfl rfl) <| .cons (.mv rfl rfl) <| .cons (St1.lenO (e := 35) (m := 1) (by' := 24) rfl rfl (by kernel_rfl) rfl rfl) ?_
    refine .cons (.ls rfl rfl rfl) <| .nil <| ks_n ?_
    refine .cD rfl (fun h35 => ?_) (fun h35 => ?_)
    ·skip
     obtain ⟨x, hx1⟩ : ∃ x_, ls[k + q]? = some x_ := ⟨_, List.getElem?_eq_getElem (by omega)⟩
     obtain ⟨y, hy1⟩ : ∃ x_, ls[k + (q - 1)]? = some x_ := ⟨_, List.getElem?_eq_getElem (by omega)⟩
     have hy2 : ls[k + q - 1]? = some y := by rw [show k + q - 1 = k + (q - 1) by omega]; exact hy1
     refine .skip <| ks_n <| .seq <| .block <| .seq ?_
     refine ACode.drawK (by kernel_rfl) (by kernel_rfl) ?_
     refine .cons (.mv rfl rfl) <| .cons (.mv rfl rfl) <| .cons (.mv rfl rfl) <| .cons (St1.indexO (e := 35) (sz := 1) (by' := 24) (i := q) rfl (by kernel_rfl) rfl rfl rfl rfl rfl (by omega)) ?_
     refine .cons (.b1 1 rfl rfl rfl rfl (dR_at (map_at (rowsK_at hx1 (by omega)))) rfl) ?_
     refine .cons (.mv rfl rfl) <| .cons (.mv rfl rfl) <| .cons (.sb rfl rfl rfl) <| .cons (St1.indexO (e := 35) (sz := 1) (by' := 24) (i := (q - 1)) rfl (by kernel_rfl) rfl rfl rfl rfl (by omega) (by omega)) ?_
     refine .cons (.b1 1 rfl rfl rfl rfl (dR_at (map_at (rowsK_at hy1 (by omega)))) rfl) ?_
     refine .cons (.cP [.tmp 42, .tmp 47] rfl rfl rfl rfl (slEq_fn x y) rfl (by kernel_rfl)) ?_
     refine .cons (.nt rfl rfl) ?_
     refine .nil ⟨by kernel_rfl, ?_⟩
     refine ks_n ?_
     refine ACode.condT rfl (fun h49 => ?_) (fun h49 => ?_)
     ·try simp only [zs1, zs2, zs3, zs4, zs5, zs6, zs7] at h49
      have hne := kpL_new hx1 hy2 (by first | assumption | simp_all)
      obtain ⟨z, hz1⟩ : ∃ z_, (rowsK ls (k + q))[(kpL ls (k + q)).length]? = some z_ := ⟨_, List.getElem?_eq_getElem (by rw [rowsK_len (by omega)]; omega)⟩
      refine .seq <| .region <| .cons (.mv rfl rfl) <| .cons (.mv rfl rfl) <| .cons (.mv rfl rfl) <| .cons (.mv rfl rfl) <| .cons (St1.indexO (e := 35) (sz := 1) (by' := 24) (i := q) rfl (by kernel_rfl) rfl rfl rfl rfl rfl (by omega)) ?_
      refine .cons (.b1 1 rfl rfl rfl rfl (dR_at (map_at (rowsK_at hx1 (by omega)))) rfl) ?_
      refine .cons (.xB 35 1 24 (i := (kpL ls (k + q)).length) rfl rfl rfl rfl rfl rfl (by omega)) ?_
      refine .cons (.sT 1 false rfl rfl rfl rfl (dR_at (map_at hz1)) rfl rfl) <| .nil <| ks_n <| .region <| .cons (.mv rfl rfl) <| .cons (.pl rfl rfl rfl) <| .cons (.asg rfl rfl) <| .nil <| kb_n <| ks_n <| .region <| .cons (.mv rfl rfl) <| .cons (.pl rfl rfl rfl) <| .cons (.asg rfl rfl) <| .nil ?_
      refine kl_k [(0, 0)] ⟨q + 1, rfl, by omega, by omega, by first | (rw [← Nat.add_assoc, hsk]; omega) | (rw [← Nat.add_assoc, hne, List.length_append, List.length_singleton]; omega), rfl⟩ ⟨ks rfl (.c .ow), ks rfl .dt, ks rfl (.dt (vI (by first | omega | (rw [hdup, hdl]; done) | (rw [← Nat.add_assoc, hsk]; done) | (rw [← Nat.add_assoc, hne, List.length_append, List.length_singleton]; omega)))), ks rfl (.c .of), ks rfl .dt, kb 0 rfl (.dt rfl (by first | rfl | (rw [hr0]; done) | (rw [hrk]; done) | (rw [← Nat.add_assoc, ← rowsK_set hne (by omega)]; exact dR_setP _ _ _ _))), trivial⟩
     ·try simp only [zs1, zs2, zs3, zs4, zs5, zs6, zs7] at h49
      have hsk := kpL_dup (by omega) hx1 hy2 (by first | assumption | simp_all)
      have hrk : rowsK ls (k + (q + 1)) = rowsK ls (k + q) := by rw [← Nat.add_assoc, rowsK, hsk]; rfl
      refine .skip <| kb_n <| ks_n <| .region <| .cons (.mv rfl rfl) <| .cons (.pl rfl rfl rfl) <| .cons (.asg rfl rfl) <| .nil ?_
      refine kl_k [(0, 0)] ⟨q + 1, rfl, by omega, by omega, by first | (rw [← Nat.add_assoc, hsk]; omega) | (rw [← Nat.add_assoc, hne, List.length_append, List.length_singleton]; omega), rfl⟩ ⟨ks rfl (.c .ow), ks rfl .dt, ks rfl (.dt (vI (by first | omega | (rw [hdup, hdl]; done) | (rw [← Nat.add_assoc, hsk]; done) | (rw [← Nat.add_assoc, hne, List.length_append, List.length_singleton]; omega)))), ks rfl (.c .of), ks rfl .dt, kb 0 rfl (.dt rfl (by first | rfl | (rw [hr0]; done) | (rw [hrk]; done) | (rw [← Nat.add_assoc, ← rowsK_set hne (by omega)]; exact dR_setP _ _ _ _))), trivial⟩
    ·skip
     have hkq : k + q = ls.length := by omega
     refine .exit <| ks_e <| kl_e <| kb_hit <| ks_n <| .seq <| .region <| .cons (.mv rfl rfl) <| .cons (.mv rfl rfl) ?_
     refine .clrB (e := 35) (sz := 1) (by' := 24) (i := (kpL ls (k + q)).length) rfl rfl rfl (by kernel_rfl) rfl rfl (by rw [dR_len, List.length_map, rowsK_len (by omega)]) rfl (by first | rfl | omega) (by omega) ?_
     refine .nil <| ks_n <| .seq <| .region <| .cons (.mv rfl rfl) <| .cons (.mv rfl rfl) <| .cons (St1.sliceToB (e := 35) (sz := 1) (by' := 24) (i := (kpL ls (k + q)).length) rfl rfl rfl rfl rfl (by first | rfl | omega) (by omega)) ?_
     refine .cons (.asg rfl rfl) <| .nil <| ks_n <| .ret <| kb_r <| ks_r <| kl_r <| kb_r <| ks_r ?_
     refine kf_wret [(.t 4, .v (.o (.c (.own 0 1 ((kpV ls).length))))), (.b 0, .b 35 1 (dR ((kpV ls).map rIs))), (.u 0, .u)] (Wk.keep [(0, 0)] rfl rfl ⟨ks rfl (.c (.ow (by first | (rw [hall]; done) | (rw [kpV, ← hkq]; done)))), kb 0 rfl (.dt rfl (by first | (rw [hall]; done) | (rw [dR_takeP, ← List.map_take, rowsK_take, kpV, ← hkq]; done))), trivial⟩) rfl ?_ (one_box rfl)
     rfl
   ·try simp only [zs1, zs2, zs3, zs4, zs5, zs6, zs7] at h28
    have hnew : kpL ls (k + 1) = ls.take (k + 1) := by rw [kpL_new hx1 hy1 (by first | assumption | simp_all), hE, List.take_add_one, hx1]; rfl
    refine .skip <| kb_n <| ks_n <| .region <| .cons (.mv rfl rfl) <| .cons (.pl rfl rfl rfl) <| .cons (.asg rfl rfl) <| .nil ?_
    refine kl_k [(0, 0)] ⟨k + 1, rfl, by omega, by omega, hnew, rfl⟩ ⟨ks rfl (.c .ow), ks rfl .dt, ks rfl .dt, kb 0 rfl (.dt rfl rfl), trivial⟩
  ·skip
   have hall : kpV ls = ls := by rw [kpV, ← show k = ls.length by omega, hE, List.take_of_length_le (by omega)]
   refine .exit <| ks_e <| kl_e <| kb_hit <| ks_n <| .seq <| .region <| .cons (.mv rfl rfl) <| .cons (.asg rfl rfl) <| .nil <| ks_n <| .ret ?_
   refine kf_wret [(.t 4, .v (.o (.c (.own 0 1 ((kpV ls).length))))), (.b 0, .b 35 1 (dR ((kpV ls).map rIs))), (.u 0, .u)] (Wk.keep [(0, 0)] rfl rfl ⟨ks rfl (.c (.ow (by first | (rw [hall]; done) | (rw [kpV, ← hkq]; done)))), kb 0 rfl (.dt rfl (by first | (rw [hall]; done) | (rw [dR_takeP, ← List.map_take, rowsK_take, kpV, ← hkq]; done))), trivial⟩) rfl ?_ (one_box rfl)
   rfl
end Go.Proofs.YtidfloikpieggaaGreat
/- The library's sort at this dump: the numbers of its functions, each fact by the kernel (laid by the shelf's tools for the seat of r9a alone); no condition. -/
namespace Go.Proofs
open Go.Shelf
def Tryz.laysSlF6_f121_ren : Go.Shelf.Ren := ⟨fun | 6 => 121 | 15 => 168 | 14 => 167 | 28 => 213 | 29 => 214 | 20 => 205 | 21 => 206 | 22 => 207 | 23 => 208 | 24 => 209 | 25 => 210 | 26 => 211 | 27 => 212 | 46 => 237 | 47 => 238 | 48 => 239 | 49 => 240 | 50 => 241 | 57 => 250 | n => n, fun | 22 => 60 | 24 => 35 | 25 => 161 | 3 => 3 | 39 => 212 | 0 => 0 | 53 => 244 | 55 => 246 | 4 => 4 | 46 => 238 | 45 => 237 | 50 => 127 | 5 => 5 | 9 => 9 | 66 => 262 | 70 => 187 | 76 => 269 | 77 => 192 | n => n, fun | n => n⟩
theorem Tryz.laysSlF6_f121 : Go.Proofs.SlLaysF.n6 Tryz.prog Tryz.laysSlF6_f121_ren := {
  mixed := by kernel_rfl
  f6 := ⟨Tryz.f121.name, by decide, Tryz.func121.trans (congrArg some (by kernel_rfl))⟩
  f14 := ⟨Tryz.f167.name, by decide, Tryz.func167.trans (congrArg some (by kernel_rfl))⟩
  f15 := Tryz.func168.trans (congrArg some (by kernel_rfl))
  f20 := ⟨Tryz.f205.name, by decide, Tryz.func205.trans (congrArg some (by kernel_rfl))⟩
  f21 := ⟨Tryz.f206.name, by decide, Tryz.func206.trans (congrArg some (by kernel_rfl))⟩
  f22 := ⟨Tryz.f207.name, by decide, Tryz.func207.trans (congrArg some (by kernel_rfl))⟩
  f23 := ⟨Tryz.f208.name, by decide, Tryz.func208.trans (congrArg some (by kernel_rfl))⟩
  f24 := ⟨Tryz.f209.name, by decide, Tryz.func209.trans (congrArg some (by kernel_rfl))⟩
  f25 := ⟨Tryz.f210.name, by decide, Tryz.func210.trans (congrArg some (by kernel_rfl))⟩
  f26 := ⟨Tryz.f211.name, by decide, Tryz.func211.trans (congrArg some (by kernel_rfl))⟩
  f27 := ⟨Tryz.f212.name, by decide, Tryz.func212.trans (congrArg some (by kernel_rfl))⟩
  f28 := Tryz.func213.trans (congrArg some (by kernel_rfl))
  f29 := Tryz.func214.trans (congrArg some (by kernel_rfl))
  f46 := ⟨Tryz.f237.name, by decide, Tryz.func237.trans (congrArg some (by kernel_rfl))⟩
  f47 := Tryz.func238.trans (congrArg some (by kernel_rfl))
  f48 := Tryz.func239.trans (congrArg some (by kernel_rfl))
  f49 := ⟨Tryz.f240.name, by decide, Tryz.func240.trans (congrArg some (by kernel_rfl))⟩
  f50 := ⟨Tryz.f241.name, by decide, Tryz.func241.trans (congrArg some (by kernel_rfl))⟩
  f57 := ⟨Tryz.f250.name, by decide, Tryz.func250.trans (congrArg some (by kernel_rfl))⟩
  t0 := Tryz.underlying0
  a0 := Tryz.isAgg0
  z0 := Tryz.sizeOf0
  v0 := Tryz.zeroValue0
  t3 := Tryz.underlying3
  a3 := Tryz.isAgg3
  z3 := Tryz.sizeOf3
  v3 := Tryz.zeroValue3
  t4 := Tryz.underlying4
  a4 := Tryz.isAgg4
  z4 := Tryz.sizeOf4
  v4 := Tryz.zeroValue4
  t5 := Tryz.underlying5
  a5 := Tryz.isAgg5
  z5 := Tryz.sizeOf5
  v5 := Tryz.zeroValue5
  t9 := Tryz.underlying9
  a9 := Tryz.isAgg9
  z9 := Tryz.sizeOf9
  v9 := Tryz.zeroValue9
  t22 := Tryz.underlying60
  a22 := Tryz.isAgg60
  z22 := Tryz.sizeOf60
  v22 := Tryz.zeroValue60
  a24 := Tryz.isAgg35
  z24 := Tryz.sizeOf35
  t25 := Tryz.underlying161
  a25 := Tryz.isAgg161
  z25 := Tryz.sizeOf161
  v25 := Tryz.zeroValue161
  t39 := Tryz.underlying212
  a39 := Tryz.isAgg212
  z39 := Tryz.sizeOf212
  v39 := Tryz.zeroValue212
  t45 := Tryz.underlying237
  a45 := Tryz.isAgg237
  z45 := Tryz.sizeOf237
  v45 := Tryz.zeroValue237
  t46 := Tryz.underlying238
  a46 := Tryz.isAgg238
  z46 := Tryz.sizeOf238
  v46 := Tryz.zeroValue238
  t50 := Tryz.underlying127
  a50 := Tryz.isAgg127
  z50 := Tryz.sizeOf127
  v50 := Tryz.zeroValue127
  t53 := Tryz.underlying244
  a53 := Tryz.isAgg244
  z53 := Tryz.sizeOf244
  v53 := Tryz.zeroValue244
  t55 := Tryz.underlying246
  a55 := Tryz.isAgg246
  z55 := Tryz.sizeOf246
  v55 := Tryz.zeroValue246
  t66 := Tryz.underlying262
  a66 := Tryz.isAgg262
  z66 := Tryz.sizeOf262
  v66 := Tryz.zeroValue262
  t70 := Tryz.underlying187
  a70 := Tryz.isAgg187
  z70 := Tryz.sizeOf187
  v70 := Tryz.zeroValue187
  t76 := Tryz.underlying269
  a76 := Tryz.isAgg269
  z76 := Tryz.sizeOf269
  v76 := Tryz.zeroValue269
  t77 := Tryz.underlying192
  a77 := Tryz.isAgg192
  z77 := Tryz.sizeOf192
  v77 := Tryz.zeroValue192 }
def Tryz.laysSlF06_f121_ren : Go.Shelf.Ren := ⟨fun | 6 => 121 | 15 => 168 | 14 => 167 | 28 => 213 | 29 => 214 | 20 => 205 | 21 => 206 | 22 => 207 | 23 => 208 | 24 => 209 | 25 => 210 | 26 => 211 | 27 => 212 | 46 => 237 | 47 => 238 | 48 => 239 | 49 => 240 | 50 => 241 | 57 => 250 | n => n, fun | 22 => 60 | 24 => 35 | 25 => 161 | 3 => 3 | 39 => 212 | 0 => 0 | 53 => 244 | 55 => 246 | 4 => 4 | 46 => 238 | 45 => 237 | 50 => 127 | 5 => 5 | 9 => 9 | 66 => 262 | 70 => 187 | 76 => 269 | 77 => 192 | n => n, fun | n => n⟩
theorem Tryz.laysSlF06_f121 : Go.Proofs.SlLaysF0.n6 Tryz.prog Tryz.laysSlF06_f121_ren := {
  mixed := by kernel_rfl
  f6 := ⟨Tryz.f121.name, by decide, Tryz.func121.trans (congrArg some (by kernel_rfl))⟩
  f14 := ⟨Tryz.f167.name, by decide, Tryz.func167.trans (congrArg some (by kernel_rfl))⟩
  f15 := Tryz.func168.trans (congrArg some (by kernel_rfl))
  f20 := ⟨Tryz.f205.name, by decide, Tryz.func205.trans (congrArg some (by kernel_rfl))⟩
  f21 := ⟨Tryz.f206.name, by decide, Tryz.func206.trans (congrArg some (by kernel_rfl))⟩
  f22 := ⟨Tryz.f207.name, by decide, Tryz.func207.trans (congrArg some (by kernel_rfl))⟩
  f23 := ⟨Tryz.f208.name, by decide, Tryz.func208.trans (congrArg some (by kernel_rfl))⟩
  f24 := ⟨Tryz.f209.name, by decide, Tryz.func209.trans (congrArg some (by kernel_rfl))⟩
  f25 := ⟨Tryz.f210.name, by decide, Tryz.func210.trans (congrArg some (by kernel_rfl))⟩
  f26 := ⟨Tryz.f211.name, by decide, Tryz.func211.trans (congrArg some (by kernel_rfl))⟩
  f27 := ⟨Tryz.f212.name, by decide, Tryz.func212.trans (congrArg some (by kernel_rfl))⟩
  f28 := Tryz.func213.trans (congrArg some (by kernel_rfl))
  f29 := Tryz.func214.trans (congrArg some (by kernel_rfl))
  f46 := ⟨Tryz.f237.name, by decide, Tryz.func237.trans (congrArg some (by kernel_rfl))⟩
  f47 := Tryz.func238.trans (congrArg some (by kernel_rfl))
  f48 := Tryz.func239.trans (congrArg some (by kernel_rfl))
  f49 := ⟨Tryz.f240.name, by decide, Tryz.func240.trans (congrArg some (by kernel_rfl))⟩
  f50 := ⟨Tryz.f241.name, by decide, Tryz.func241.trans (congrArg some (by kernel_rfl))⟩
  f57 := ⟨Tryz.f250.name, by decide, Tryz.func250.trans (congrArg some (by kernel_rfl))⟩
  t0 := Tryz.underlying0
  a0 := Tryz.isAgg0
  z0 := Tryz.sizeOf0
  v0 := Tryz.zeroValue0
  t3 := Tryz.underlying3
  a3 := Tryz.isAgg3
  z3 := Tryz.sizeOf3
  v3 := Tryz.zeroValue3
  t4 := Tryz.underlying4
  a4 := Tryz.isAgg4
  z4 := Tryz.sizeOf4
  v4 := Tryz.zeroValue4
  t5 := Tryz.underlying5
  a5 := Tryz.isAgg5
  z5 := Tryz.sizeOf5
  v5 := Tryz.zeroValue5
  t9 := Tryz.underlying9
  a9 := Tryz.isAgg9
  z9 := Tryz.sizeOf9
  v9 := Tryz.zeroValue9
  t22 := Tryz.underlying60
  a22 := Tryz.isAgg60
  z22 := Tryz.sizeOf60
  v22 := Tryz.zeroValue60
  t25 := Tryz.underlying161
  a25 := Tryz.isAgg161
  z25 := Tryz.sizeOf161
  v25 := Tryz.zeroValue161
  t39 := Tryz.underlying212
  a39 := Tryz.isAgg212
  z39 := Tryz.sizeOf212
  v39 := Tryz.zeroValue212
  t45 := Tryz.underlying237
  a45 := Tryz.isAgg237
  z45 := Tryz.sizeOf237
  v45 := Tryz.zeroValue237
  t46 := Tryz.underlying238
  a46 := Tryz.isAgg238
  z46 := Tryz.sizeOf238
  v46 := Tryz.zeroValue238
  t50 := Tryz.underlying127
  a50 := Tryz.isAgg127
  z50 := Tryz.sizeOf127
  v50 := Tryz.zeroValue127
  t53 := Tryz.underlying244
  a53 := Tryz.isAgg244
  z53 := Tryz.sizeOf244
  v53 := Tryz.zeroValue244
  t55 := Tryz.underlying246
  a55 := Tryz.isAgg246
  z55 := Tryz.sizeOf246
  v55 := Tryz.zeroValue246
  t66 := Tryz.underlying262
  a66 := Tryz.isAgg262
  z66 := Tryz.sizeOf262
  v66 := Tryz.zeroValue262
  t70 := Tryz.underlying187
  a70 := Tryz.isAgg187
  z70 := Tryz.sizeOf187
  v70 := Tryz.zeroValue187
  t76 := Tryz.underlying269
  a76 := Tryz.isAgg269
  z76 := Tryz.sizeOf269
  v76 := Tryz.zeroValue269
  t77 := Tryz.underlying192
  a77 := Tryz.isAgg192
  z77 := Tryz.sizeOf192
  v77 := Tryz.zeroValue192 }
end Go.Proofs
namespace Go.Proofs.YtidfloikpieggaaGreat
set_option linter.unusedVariables false
set_option linter.unusedSimpArgs false
open Go.RowKit Go.Shelf
theorem sortP_fn {ls : List (List Int)} (hl : ls.length ≤ 1000000) : Fn Tryz.prog 121 [(.b 0, .b 35 1 (dR (ls.map rIs))), (.u 0, .u)] [.c (.own 0 1 ls.length), .c (.fn 122 [])] (.tup []) [(.b 0, .b 35 1 (dR ((sortL ls).map rIs))), (.u 0, .u)] := sort_fn Tryz.laysSlF6_f121 hl
theorem sortN_fn : Fn Tryz.prog 121 [] [.c (.d (.val (.slice none 0 0))), .c (.fn 122 [])] (.tup []) [] := by
  intro B bx w vs hok hv
  obtain ⟨v0, v1, rfl, q0, q1⟩ := vals2_parts hv
  have q0 : Dr B w (.val (.slice none 0 0)) v0 := q0
  cases q0
  have h := AnyF.slices_SortFunc_none Tryz.laysSlF06_f121 none 0 v1 w
  refine (show Calls Tryz.prog 121 #[.slice none 0 0, v1] w _ from h).mono ?_
  rintro e w' ⟨rfl, rfl⟩
  exact ⟨.tuple #[], bx, rfl, ⟨⟨fun k e sz rows hl => (by cases hl), fun k l hk => (no_al0 k hk).elim, fun k hk => (no_al0 k hk).elim⟩, ⟨[], rfl, rfl, fun i c u h => by cases h⟩, rfl, rfl, rfl, Nat.le_refl _, fun b hl _ => rfl, fun k _ hk => (no_al0 k hk).elim, fun k hk => (no_al0 k hk).elim⟩⟩
end Go.Proofs.YtidfloikpieggaaGreat
namespace Go.Proofs.YtidfloikpieggaaGreat
set_option linter.unusedVariables false
set_option linter.unusedSimpArgs false
open Go.RowKit
theorem ins_len {g : Prg} {x : Ins} {k c : Nat} {q : Prt} (h : InsOk g x k c q) : x.2.2.length = q.1.length := by
  have hp := h.pt
  rw [npR] at hp
  split at hp
  · exact (mem_pts.1 hp).1
  · cases hp
theorem ins_same {g : Prg} {x y : Ins} {k c k' c' : Nat} {q q' : Prt} (h : InsOk g x k c q) (h' : InsOk g y k' c' q') (e : x.1 = y.1) : x.2.2.length = y.2.2.length := by
  have e1 := h.e1; have e2 := h'.e1
  have : k = k' := by omega
  subst this
  have e3 := h.hq; rw [h'.hq] at e3; cases e3
  rw [ins_len h, ins_len h']
/-- The distances of a part, sorted, each once. -/
def dstV (g : Prg) (part : Int) : List (List Int) := kpV (sortL (dstG g part))
theorem mem_dstV {g : Prg} {part : Int} {d : List Int} : d ∈ dstV g part ↔ d ∈ dstG g part := by rw [dstV, mem_kpV, mem_sortL]
theorem sortL_nil : sortL [] = [] := List.eq_nil_of_length_eq_zero sortL_len
theorem subL_end {y x : List Int} {k : Nat} (h : y.length = x.length) (hk : y.length ≤ k) : (subL y x).take k = subL y x := List.take_of_length_le (by rw [subL_len h]; omega)
theorem pt_at {p : List Int} (h : isPt p = true) {i : Nat} {a : Int} (ha : p[i]? = some a) : -9999 ≤ a ∧ a ≤ 9999 := by
  rw [isPt, Bool.and_eq_true, Bool.not_eq_true', List.any_eq_false] at h
  have := h.2 a (List.mem_of_getElem? ha)
  simp [inB] at this
  omega

theorem compact_nil  : Fn Tryz.prog 123 [] [.c (.d (.val (.slice none 0 0))), .c (.fn 124 [])] (.o (.c (.d (.val (.slice none 0 0))))) [] := by
  refine Fn.code0 Tryz.func123 rfl rfl rfl rfl ?_
  refine .seq <| .region <| .cons (.asg rfl rfl) <| .nil <| ks_n <| .seq <| .seq <| .region <| .cons (.mv rfl rfl) <| .cons (St1.lenN (e := 35) (m := 1) (by' := 24) rfl rfl rfl rfl rfl (by kernel_rfl) rfl) ?_
  refine .cons (.ls rfl rfl rfl) <| .nil <| ks_n ?_
  refine .cD rfl (fun h10 => ?_) (fun h10 => ?_)
  · skip
    refine .seq <| .region <| .cons (.mv rfl rfl) <| .cons (.asg rfl rfl) <| .nil <| ks_n <| .ret <| ks_r ?_
    refine kf_ret rfl ?_ nobox
    rfl
  · skip
    omega

theorem dist_fn {g : Prg} (hS : prgS g = true) (hL : (insG 0 g.2).length ≤ 120) (part : Int)  : Fn Tryz.prog 78 [] [.c (.ptr (rT g)), nat1 part] (.o (vD (dPs (dstV g part)))) [] := by
 have hdl := depsN_len hL (n := (insG 0 g.2).length)
 have hdl2 : (depsG g).length ≤ 14400 := by unfold depsG; omega
 refine Fn.code0 Tryz.func78 rfl rfl rfl rfl ?_
 refine .seq <| .region <| .cons (.asg rfl rfl) <| .nil <| ks_n <| .seq <| .region <| .cons (.asg rfl rfl) <| .nil <| ks_n <| .seq <| .seq <| .region <| .cons (.mv rfl rfl) <| .cons (.cP [.tmp 12] rfl rfl rfl rfl (deps_fn hS hL) rfl) ?_
 refine .cons (.ln 159 3 24 rfl rfl rfl) <| .cons (.mv rfl rfl) <| .nil <| ks_n <| .block ?_
 refine .loopK (fun m σ => (∃ j : Nat, m = (depsG g).length - j ∧ (j ≤ (depsG g).length) ∧ (dstN g part j = []) ∧ σ = [(.t 0, .v (.o (.c (.ptr (rT g))))), (.t 1, .v (.o (nat1 part))), (.t 5, .v (.o (.c (.d (.val (.slice none 0 0)))))), (.t 13, .v (.o (vD (dDs (depsG g))))), (.t 14, .v (.o (nat1 ((depsG g).length : Nat)))), (.t 15, .v (.o (nat1 (j : Nat))))]) ∨ (∃ (j : Nat) (o : Pts), m = (depsG g).length - j ∧ (j ≤ (depsG g).length) ∧ (dstN g part j = o) ∧ (0 < o.length) ∧ σ = [(.t 0, .v (.o (.c (.ptr (rT g))))), (.t 1, .v (.o (nat1 part))), (.t 5, .v (.o (.c (.own 110 1 (o.length))))), (.t 13, .v (.o (vD (dDs (depsG g))))), (.t 14, .v (.o (nat1 ((depsG g).length : Nat)))), (.t 15, .v (.o (nat1 (j : Nat)))), (.b 110, .b 35 1 (dR (o.map rIs))), (.u 110, .u)])) [] (.inl ⟨0, rfl, by omega, rfl, rfl⟩) ⟨ks rfl .dt, ks rfl .dt, ks rfl .dt, ks rfl .dt, ks rfl .dt, ks rfl .dt, trivial⟩ ?_
 rintro m σ (⟨j, hm0, hj, hE, rfl⟩ | ⟨j, o, hm0, hj, hE, ho0, rfl⟩)
 ·skip
  refine .seq <| .region <| .cons (.ls rfl rfl rfl) <| .nil <| ks_n <| .seq ?_
  refine .cD rfl (fun h16 => ?_) (fun h16 => ?_)
  ·skip
   obtain ⟨d, hd1⟩ : ∃ x_, (depsG g)[j]? = some x_ := ⟨_, List.getElem?_eq_getElem (by omega)⟩
   obtain ⟨a, b, hde, hab, hbl, _⟩ := deps_mem (List.mem_of_getElem? hd1)
   obtain ⟨x, hx1⟩ : ∃ x, (insG 0 g.2)[a]? = some x := ⟨_, List.getElem?_eq_getElem (by omega)⟩
   obtain ⟨y, hy1⟩ : ∃ y, (insG 0 g.2)[b]? = some y := ⟨_, List.getElem?_eq_getElem hbl⟩
   obtain ⟨kx, cx, qx, hIx⟩ := ins_at hS (List.mem_of_getElem? hx1)
   obtain ⟨ky, cy, qy, hIy⟩ := ins_at hS (List.mem_of_getElem? hy1)
   have hda : d.1 = (a : Int) := by rw [hde]
   have hdb : d.2.1 = (b : Int) := by rw [hde]
   have hdd := dstD_eq (g := g) (part := part) hda hdb hx1 hy1
   have hyl := isPt_len hIy.ip
   refine .skip <| ks_n <| .seq <| .block <| .seq <| .region <| .cons (.xL 159 3 24 (i := j) rfl rfl rfl rfl rfl (map_at hd1)) ?_
   refine .cons (.lN 3 rfl rfl rfl) <| .cons (.al 107 [.int .i64 0, .int .i64 0, .int .i64 0] rfl rfl rfl) <| .cons (.sT 3 true rfl rfl rfl rfl rfl rfl rfl) <| .nil <| ks_n <| .seq ?_
   refine ACode.drawK (by kernel_rfl) (by kernel_rfl) ?_
   refine .cons (.mv rfl rfl) <| .cons (.nP rfl rfl) <| .cons (.fP 2 0 false rfl rfl) <| .cons (.l1 1 rfl rfl) <| .cons (.fB 0 0 false rfl rfl rfl) <| .cons (.b1 1 rfl rfl rfl rfl rfl rfl) <| .cons (.xL 86 3 40 (i := a) rfl rfl rfl rfl hda (map_at hx1)) ?_
   refine .cons (.lN 3 rfl rfl rfl) <| .cons (.mv rfl rfl) <| .cons (.nP rfl rfl) <| .cons (.fP 2 0 false rfl rfl) <| .cons (.l1 1 rfl rfl) <| .cons (.fB 1 0 false rfl rfl rfl) <| .cons (.b1 1 rfl rfl rfl rfl rfl rfl) <| .cons (.xL 86 3 40 (i := b) rfl rfl rfl rfl hdb (map_at hy1)) ?_
   refine .cons (.lN 3 rfl rfl rfl) <| .cons (.al 108 [.int .i64 0, .int .i64 0, .slice none 0 0] rfl rfl rfl) <| .cons (.al 109 [.int .i64 0, .int .i64 0, .slice none 0 0] rfl rfl rfl) <| .cons (.sT 3 true rfl rfl rfl rfl rfl rfl rfl) <| .cons (.sT 3 true rfl rfl rfl rfl rfl rfl rfl) ?_
   refine .nil ⟨by kernel_rfl, ?_⟩
   refine ks_n <| .seq <| .seq <| .region <| .cons (.fB 0 0 false rfl rfl rfl) <| .cons (.b1 1 rfl rfl rfl rfl rfl rfl) <| .cons (.mv rfl rfl) <| .cons (.ne rfl rfl rfl) <| .cons (.mv rfl rfl) ?_
   refine .cND 39 rfl (fun g39 => ?_) (fun g39 => ?_)
   ·skip
    have hdn : dstD g part d = none := by rw [hdd, if_neg (by omega)]
    refine .cons (.gF rfl rfl rfl) <| .cons (.gF rfl rfl rfl) <| .cons (.gF rfl rfl rfl) <| .cons (.gF rfl rfl rfl) <| .cons (.pT rfl rfl rfl) <| .nil <| ks_n ?_
    refine ACode.condT rfl (fun _ => ?_) (fun h => by first | (cases h; done) | (simp [*] at h; done) | (exfalso; simp_all; done))
    refine .exit <| ks_e <| kb_hit <| ks_n <| .region <| .cons (.pl rfl rfl rfl) <| .cons (.mv rfl rfl) <| .nil ?_
    refine kl_k [] (.inl ⟨j + 1, rfl, by omega, by rw [dstN_next hd1, hE, hdn]; rfl, rfl⟩) ⟨ks rfl .dt, ks rfl .dt, ks rfl .dt, ks rfl .dt, ks rfl .dt, ks rfl .dt, trivial⟩
   ·skip
    have hxp : x.1 = part := by omega
    refine .cons (.gT rfl rfl rfl (.fB 0 0 false rfl rfl rfl)) <| .cons (.gT rfl rfl rfl (.b1 1 rfl rfl rfl rfl rfl rfl)) <| .cons (.gT rfl rfl rfl (.mv rfl rfl)) <| .cons (.gT rfl rfl rfl (.ne rfl rfl rfl)) <| .cons (.pF rfl rfl rfl) <| .nil <| ks_n ?_
    refine ACode.condT rfl (fun h44 => ?_) (fun h44 => ?_)
    ·try simp only [zs1, zs2, zs3, zs4, zs5, zs6, zs7] at h44
     have hdn : dstD g part d = none := by rw [hdd, if_neg (by omega)]
     refine .exit <| ks_e <| kb_hit <| ks_n <| .region <| .cons (.pl rfl rfl rfl) <| .cons (.mv rfl rfl) <| .nil ?_
     refine kl_k [] (.inl ⟨j + 1, rfl, by omega, by rw [dstN_next hd1, hE, hdn]; rfl, rfl⟩) ⟨ks rfl .dt, ks rfl .dt, ks rfl .dt, ks rfl .dt, ks rfl .dt, ks rfl .dt, trivial⟩
    ·try simp only [zs1, zs2, zs3, zs4, zs5, zs6, zs7] at h44
     have hyp : y.1 = part := by omega
     have hds : dstD g part d = some (subL y.2.2 x.2.2) := by rw [hdd, if_pos ⟨hxp, hyp⟩]
     have hlen := (ins_same hIx hIy (by omega)).symm
     refine .skip <| ks_n <| .seq <| .region <| .cons (.asg rfl rfl) <| .nil <| ks_n <| .seq <| .seq <| .region <| .cons (.fB 2 0 false rfl rfl rfl) <| .cons (.b1 1 rfl rfl rfl rfl rfl rfl) <| .cons (.ln 3 1 8 rfl rfl rfl) <| .cons (.mv rfl rfl) <| .nil <| ks_n <| .block ?_
     refine .loopK (fun m σ => (∃ k : Nat, m = y.2.2.length - k ∧ (k = 0) ∧ σ = [(.t 0, .v (.o (.c (.ptr (rT g))))), (.t 1, .v (.o (nat1 part))), (.t 5, .v (.o (.c (.d (.val (.slice none 0 0)))))), (.t 8, .v (.o (.c (.ptr (rN x))))), (.t 9, .v (.o (.c (.ptr (rN y))))), (.t 10, .v (.o (.c (.d (.val (.slice none 0 0)))))), (.t 13, .v (.o (vD (dDs (depsG g))))), (.t 14, .v (.o (nat1 ((depsG g).length : Nat)))), (.t 15, .v (.o (nat1 (j : Nat)))), (.t 46, .v (.o (vD (dIs y.2.2)))), (.t 47, .v (.o (nat1 (y.2.2.length : Nat)))), (.t 48, .v (.o (nat1 (k : Nat))))]) ∨ (∃ k : Nat, m = y.2.2.length - k ∧ (1 ≤ k) ∧ (k ≤ y.2.2.length) ∧ σ = [(.t 0, .v (.o (.c (.ptr (rT g))))), (.t 1, .v (.o (nat1 part))), (.t 5, .v (.o (.c (.d (.val (.slice none 0 0)))))), (.t 8, .v (.o (.c (.ptr (rN x))))), (.t 9, .v (.o (.c (.ptr (rN y))))), (.t 10, .v (.o (.c (.own 120 1 (k))))), (.t 13, .v (.o (vD (dDs (depsG g))))), (.t 14, .v (.o (nat1 ((depsG g).length : Nat)))), (.t 15, .v (.o (nat1 (j : Nat)))), (.t 46, .v (.o (vD (dIs y.2.2)))), (.t 47, .v (.o (nat1 (y.2.2.length : Nat)))), (.t 48, .v (.o (nat1 (k : Nat)))), (.b 120, .b 3 1 (dR (((subL y.2.2 x.2.2).take k).map rI))), (.u 120, .u)])) [] (.inl ⟨0, rfl, rfl, rfl⟩) ⟨ks rfl .dt, ks rfl .dt, ks rfl .dt, ks rfl (.c (.frzP _ _ _ _ _ _ _ _ rfl (show _ = dR [rN x] from rfl) rfl rfl rfl)), ks rfl (.c (.frzP _ _ _ _ _ _ _ _ rfl (show _ = dR [rN y] from rfl) rfl rfl rfl)), ks rfl .dt, ks rfl .dt, ks rfl .dt, ks rfl .dt, ks rfl .dt, ks rfl .dt, ks rfl .dt, trivial⟩ ?_
     rintro m σ (⟨k, hm0, hk0, rfl⟩ | ⟨k, hm0, hk1, hk, rfl⟩)
     ·skip
      refine .seq <| .region <| .cons (.ls rfl rfl rfl) <| .nil <| ks_n <| .seq ?_
      refine .cD rfl (fun h49 => ?_) (fun h49 => ?_)
      ·skip
       obtain ⟨u, hu1⟩ : ∃ u, y.2.2[k]? = some u := ⟨_, List.getElem?_eq_getElem (by omega)⟩
       obtain ⟨v, hv1⟩ : ∃ v, x.2.2[k]? = some v := ⟨_, List.getElem?_eq_getElem (by omega)⟩
       have hub := pt_at hIy.ip hu1
       have hvb := pt_at hIx.ip hv1
       have hsn := subL_take hu1 hv1
       have hsl : ((subL y.2.2 x.2.2).take k).length = k := by rw [List.length_take, subL_len hlen]; omega
       have hs1 : ((subL y.2.2 x.2.2).take (k + 1)) = (subL y.2.2 x.2.2).take k ++ [u - v] := hsn
       refine .skip <| ks_n <| .seq <| .block <| .seq <| .region <| .cons (.mv rfl rfl) <| .cons (.asg rfl rfl) <| .nil <| ks_n ?_
       refine ACode.drawK (by kernel_rfl) (by kernel_rfl) ?_
       refine .cons (.mv rfl rfl) <| .cons (.fP 2 0 false rfl rfl) <| .cons (.l1 1 rfl rfl) <| .cons (.mv rfl rfl) <| .cons (.xL 3 1 8 (i := k) rfl rfl rfl rfl rfl (map_at hu1)) ?_
       refine .cons (.l1 1 rfl rfl) <| .cons (.fP 2 0 false rfl rfl) <| .cons (.l1 1 rfl rfl) <| .cons (.mv rfl rfl) <| .cons (.xL 3 1 8 (i := k) rfl rfl rfl rfl rfl (map_at hv1)) ?_
       refine .cons (.l1 1 rfl rfl) <| .cons (.sb rfl rfl rfl (by omega)) ?_
       refine .cons (.li 3 0 0 [.tmp 62] rfl rfl rfl rfl rfl rfl) <| .cons (St1.appN (k' := 164) (e := 3) (sz := 0) (by' := 8) rfl rfl rfl rfl rfl (by kernel_rfl) rfl rfl rfl (by simp) (by first | (simp [dR]; done) | (simp [dR]; omega)) rfl rfl) ?_
       refine .cons (.asg rfl rfl) ?_
       refine .nil ⟨by kernel_rfl, ?_⟩
       refine kb_n <| ks_n <| .region <| .cons (.pl rfl rfl rfl) <| .cons (.mv rfl rfl) <| .nil ?_
       refine kl_k [(120, 164)] (.inr ⟨k + 1, rfl, by omega, by omega, rfl⟩) ⟨ks rfl .dt, ks rfl .dt, ks rfl .dt, ks rfl .dt, ks rfl .dt, ks rfl (.c .ow), ks rfl .dt, ks rfl .dt, ks rfl .dt, ks rfl .dt, ks rfl .dt, ks rfl .dt, kb 164 rfl (.dt rfl (by first | rfl | (rw [hsn]; simp [dR, rI, dI]; done) | (rw [hsn, hk0]; simp [dR, rI, dI]; done))), trivial⟩
      ·skip
       have hse := subL_end (k := k) hlen (by omega)
       have hs0 : k = 0 → subL y.2.2 x.2.2 = [] := fun h => by rw [← hse, h]; rfl
       refine .exit <| ks_e <| kl_e <| kb_hit <| ks_n ?_
       refine .keep [(.t 0, .v (.o (.c (.ptr (rT g))))), (.t 1, .v (.o (nat1 part))), (.t 5, .v (.o (.c (.d (.val (.slice none 0 0)))))), (.t 10, .v (.o (vD (dIs (subL y.2.2 x.2.2))))), (.t 13, .v (.o (vD (dDs (depsG g))))), (.t 14, .v (.o (nat1 ((depsG g).length : Nat)))), (.t 15, .v (.o (nat1 (j : Nat))))] [] ⟨ks rfl .dt, ks rfl .dt, ks rfl .dt, ks rfl (.c (Cto.nilE 1 (by rw [hs0 hk0]; rfl))), ks rfl .dt, ks rfl .dt, ks rfl .dt, trivial⟩ ?_
       refine .region <| .cons (.mv rfl rfl) <| .cons (.mv rfl rfl) <| .cons (.li 35 0 0 [.tmp 67] rfl rfl rfl rfl rfl rfl) <| .cons (St1.appN (k' := 169) (e := 35) (sz := 0) (by' := 24) rfl rfl rfl rfl rfl (by kernel_rfl) rfl rfl rfl (by simp) (by first | (simp [dR]; done) | (simp [dR]; omega)) rfl rfl) ?_
       refine .cons (.asg rfl rfl) <| .nil <| kb_n <| ks_n <| .region <| .cons (.pl rfl rfl rfl) <| .cons (.mv rfl rfl) <| .nil ?_
       refine kl_k [(110, 169)] (.inr ⟨j + 1, [subL y.2.2 x.2.2], rfl, by omega, by rw [dstN_next hd1, hE, hds]; rfl, by simp, rfl⟩) ⟨ks rfl .dt, ks rfl .dt, ks rfl (.c .ow), ks rfl .dt, ks rfl .dt, ks rfl .dt, kb 169 rfl (.dt rfl (by first | rfl | (simp [dR, rIs]; done) | (simp [dR, rIs]; rfl))), trivial⟩
     ·skip
      refine .seq <| .region <| .cons (.ls rfl rfl rfl) <| .nil <| ks_n <| .seq ?_
      refine .cD rfl (fun h49 => ?_) (fun h49 => ?_)
      ·skip
       obtain ⟨u, hu1⟩ : ∃ u, y.2.2[k]? = some u := ⟨_, List.getElem?_eq_getElem (by omega)⟩
       obtain ⟨v, hv1⟩ : ∃ v, x.2.2[k]? = some v := ⟨_, List.getElem?_eq_getElem (by omega)⟩
       have hub := pt_at hIy.ip hu1
       have hvb := pt_at hIx.ip hv1
       have hsn := subL_take hu1 hv1
       have hsl : ((subL y.2.2 x.2.2).take k).length = k := by rw [List.length_take, subL_len hlen]; omega
       have hs1 : ((subL y.2.2 x.2.2).take (k + 1)) = (subL y.2.2 x.2.2).take k ++ [u - v] := hsn
       refine .skip <| ks_n <| .seq <| .block <| .seq <| .region <| .cons (.mv rfl rfl) <| .cons (.asg rfl rfl) <| .nil <| ks_n ?_
       refine ACode.drawK (by kernel_rfl) (by kernel_rfl) ?_
       refine .cons (.mv rfl rfl) <| .cons (.fP 2 0 false rfl rfl) <| .cons (.l1 1 rfl rfl) <| .cons (.mv rfl rfl) <| .cons (.xL 3 1 8 (i := k) rfl rfl rfl rfl rfl (map_at hu1)) ?_
       refine .cons (.l1 1 rfl rfl) <| .cons (.fP 2 0 false rfl rfl) <| .cons (.l1 1 rfl rfl) <| .cons (.mv rfl rfl) <| .cons (.xL 3 1 8 (i := k) rfl rfl rfl rfl rfl (map_at hv1)) ?_
       refine .cons (.l1 1 rfl rfl) <| .cons (.sb rfl rfl rfl (by omega)) ?_
       refine .cons (.li 3 0 0 [.tmp 62] rfl rfl rfl rfl rfl rfl) <| .cons (St1.appB (k' := 164) (e := 3) (sz := 0) (by' := 8) rfl rfl rfl rfl rfl (by kernel_rfl) rfl rfl rfl rfl (by first | rfl | (rw [dR_len, List.length_map]; exact hsl) | (simp [dR]; done)) (by first | (simp [dR]; done) | (simp [dR]; omega)) rfl rfl rfl) ?_
       refine .cons (.asg rfl rfl) ?_
       refine .nil ⟨by kernel_rfl, ?_⟩
       refine kb_n <| ks_n <| .region <| .cons (.pl rfl rfl rfl) <| .cons (.mv rfl rfl) <| .nil ?_
       refine kl_k [(120, 164)] (.inr ⟨k + 1, rfl, by omega, by omega, rfl⟩) ⟨ks rfl .dt, ks rfl .dt, ks rfl .dt, ks rfl .dt, ks rfl .dt, ks rfl (.c .ow), ks rfl .dt, ks rfl .dt, ks rfl .dt, ks rfl .dt, ks rfl .dt, ks rfl .dt, kb 164 rfl (.dt rfl (by first | rfl | (rw [hsn]; simp [dR, rI, dI]; done) | (rw [hsn, hk0]; simp [dR, rI, dI]; done))), trivial⟩
      ·skip
       have hse := subL_end (k := k) hlen (by omega)
       have hs0 : k = 0 → subL y.2.2 x.2.2 = [] := fun h => by rw [← hse, h]; rfl
       refine .exit <| ks_e <| kl_e <| kb_hit <| ks_n ?_
       refine .keep [(.t 0, .v (.o (.c (.ptr (rT g))))), (.t 1, .v (.o (nat1 part))), (.t 5, .v (.o (.c (.d (.val (.slice none 0 0)))))), (.t 10, .v (.o (vD (dIs (subL y.2.2 x.2.2))))), (.t 13, .v (.o (vD (dDs (depsG g))))), (.t 14, .v (.o (nat1 ((depsG g).length : Nat)))), (.t 15, .v (.o (nat1 (j : Nat))))] [] ⟨ks rfl .dt, ks rfl .dt, ks rfl .dt, ks rfl (.c (.fz rfl (by rw [hse]) (by rw [List.length_map, subL_len hlen]; omega) (by omega))), ks rfl .dt, ks rfl .dt, ks rfl .dt, trivial⟩ ?_
       refine .region <| .cons (.mv rfl rfl) <| .cons (.mv rfl rfl) <| .cons (.li 35 0 0 [.tmp 67] rfl rfl rfl rfl rfl rfl) <| .cons (St1.appN (k' := 169) (e := 35) (sz := 0) (by' := 24) rfl rfl rfl rfl rfl (by kernel_rfl) rfl rfl rfl (by simp) (by first | (simp [dR]; done) | (simp [dR]; omega)) rfl rfl) ?_
       refine .cons (.asg rfl rfl) <| .nil <| kb_n <| ks_n <| .region <| .cons (.pl rfl rfl rfl) <| .cons (.mv rfl rfl) <| .nil ?_
       refine kl_k [(110, 169)] (.inr ⟨j + 1, [subL y.2.2 x.2.2], rfl, by omega, by rw [dstN_next hd1, hE, hds]; rfl, by simp, rfl⟩) ⟨ks rfl .dt, ks rfl .dt, ks rfl (.c .ow), ks rfl .dt, ks rfl .dt, ks rfl .dt, kb 169 rfl (.dt rfl (by first | rfl | (simp [dR, rIs]; done) | (simp [dR, rIs]; rfl))), trivial⟩
  ·skip
   have hE2 := hE
   rw [dstN_end (j := j) (by omega)] at hE2
   refine .exit <| ks_e <| kl_e <| kb_hit <| ks_n <| .seq <| .region <| .cons (.mv rfl rfl) <| .cons (.cP [.tmp 71, .func 122] rfl rfl rfl rfl (sortN_fn) rfl) ?_
   refine .nil <| ks_n <| .seq <| .region <| .cons (.mv rfl rfl) <| .cons (.cP [.tmp 73, .func 124] rfl rfl rfl rfl (compact_nil) rfl) ?_
   refine .cons (.asg rfl rfl) <| .nil <| ks_n <| .ret ?_
   refine kf_wret [(.t 4, .v (.o (vD (dPs (dstV g part)))))] (Wk.keep [] rfl rfl ⟨ks rfl (.c (Cto.nilE 1 (by rw [dstV, hE2, sortL_nil]; rfl))), trivial⟩) rfl ?_ nobox
   rfl
 ·skip
  have ho := dstN_len (g := g) (part := part) (j := j)
  rw [hE] at ho
  refine .seq <| .region <| .cons (.ls rfl rfl rfl) <| .nil <| ks_n <| .seq ?_
  refine .cD rfl (fun h16 => ?_) (fun h16 => ?_)
  ·skip
   obtain ⟨d, hd1⟩ : ∃ x_, (depsG g)[j]? = some x_ := ⟨_, List.getElem?_eq_getElem (by omega)⟩
   obtain ⟨a, b, hde, hab, hbl, _⟩ := deps_mem (List.mem_of_getElem? hd1)
   obtain ⟨x, hx1⟩ : ∃ x, (insG 0 g.2)[a]? = some x := ⟨_, List.getElem?_eq_getElem (by omega)⟩
   obtain ⟨y, hy1⟩ : ∃ y, (insG 0 g.2)[b]? = some y := ⟨_, List.getElem?_eq_getElem hbl⟩
   obtain ⟨kx, cx, qx, hIx⟩ := ins_at hS (List.mem_of_getElem? hx1)
   obtain ⟨ky, cy, qy, hIy⟩ := ins_at hS (List.mem_of_getElem? hy1)
   have hda : d.1 = (a : Int) := by rw [hde]
   have hdb : d.2.1 = (b : Int) := by rw [hde]
   have hdd := dstD_eq (g := g) (part := part) hda hdb hx1 hy1
   have hyl := isPt_len hIy.ip
   refine .skip <| ks_n <| .seq <| .block <| .seq <| .region <| .cons (.xL 159 3 24 (i := j) rfl rfl rfl rfl rfl (map_at hd1)) ?_
   refine .cons (.lN 3 rfl rfl rfl) <| .cons (.al 107 [.int .i64 0, .int .i64 0, .int .i64 0] rfl rfl rfl) <| .cons (.sT 3 true rfl rfl rfl rfl rfl rfl rfl) <| .nil <| ks_n <| .seq ?_
   refine ACode.drawK (by kernel_rfl) (by kernel_rfl) ?_
   refine .cons (.mv rfl rfl) <| .cons (.nP rfl rfl) <| .cons (.fP 2 0 false rfl rfl) <| .cons (.l1 1 rfl rfl) <| .cons (.fB 0 0 false rfl rfl rfl) <| .cons (.b1 1 rfl rfl rfl rfl rfl rfl) <| .cons (.xL 86 3 40 (i := a) rfl rfl rfl rfl hda (map_at hx1)) ?_
   refine .cons (.lN 3 rfl rfl rfl) <| .cons (.mv rfl rfl) <| .cons (.nP rfl rfl) <| .cons (.fP 2 0 false rfl rfl) <| .cons (.l1 1 rfl rfl) <| .cons (.fB 1 0 false rfl rfl rfl) <| .cons (.b1 1 rfl rfl rfl rfl rfl rfl) <| .cons (.xL 86 3 40 (i := b) rfl rfl rfl rfl hdb (map_at hy1)) ?_
   refine .cons (.lN 3 rfl rfl rfl) <| .cons (.al 108 [.int .i64 0, .int .i64 0, .slice none 0 0] rfl rfl rfl) <| .cons (.al 109 [.int .i64 0, .int .i64 0, .slice none 0 0] rfl rfl rfl) <| .cons (.sT 3 true rfl rfl rfl rfl rfl rfl rfl) <| .cons (.sT 3 true rfl rfl rfl rfl rfl rfl rfl) ?_
   refine .nil ⟨by kernel_rfl, ?_⟩
   refine ks_n <| .seq <| .seq <| .region <| .cons (.fB 0 0 false rfl rfl rfl) <| .cons (.b1 1 rfl rfl rfl rfl rfl rfl) <| .cons (.mv rfl rfl) <| .cons (.ne rfl rfl rfl) <| .cons (.mv rfl rfl) ?_
   refine .cND 39 rfl (fun g39 => ?_) (fun g39 => ?_)
   ·skip
    have hdn : dstD g part d = none := by rw [hdd, if_neg (by omega)]
    refine .cons (.gF rfl rfl rfl) <| .cons (.gF rfl rfl rfl) <| .cons (.gF rfl rfl rfl) <| .cons (.gF rfl rfl rfl) <| .cons (.pT rfl rfl rfl) <| .nil <| ks_n ?_
    refine ACode.condT rfl (fun _ => ?_) (fun h => by first | (cases h; done) | (simp [*] at h; done) | (exfalso; simp_all; done))
    refine .exit <| ks_e <| kb_hit <| ks_n <| .region <| .cons (.pl rfl rfl rfl) <| .cons (.mv rfl rfl) <| .nil ?_
    refine kl_k [(110, 110)] (.inr ⟨j + 1, o, rfl, by omega, by rw [dstN_next hd1, hE, hdn]; simp, ho0, rfl⟩) ⟨ks rfl .dt, ks rfl .dt, ks rfl (.c .ow), ks rfl .dt, ks rfl .dt, ks rfl .dt, kb 110 rfl (.dt rfl (by first | rfl | (simp [dR, rIs]; done) | (simp [dR, rIs]; rfl))), trivial⟩
   ·skip
    have hxp : x.1 = part := by omega
    refine .cons (.gT rfl rfl rfl (.fB 0 0 false rfl rfl rfl)) <| .cons (.gT rfl rfl rfl (.b1 1 rfl rfl rfl rfl rfl rfl)) <| .cons (.gT rfl rfl rfl (.mv rfl rfl)) <| .cons (.gT rfl rfl rfl (.ne rfl rfl rfl)) <| .cons (.pF rfl rfl rfl) <| .nil <| ks_n ?_
    refine ACode.condT rfl (fun h44 => ?_) (fun h44 => ?_)
    ·try simp only [zs1, zs2, zs3, zs4, zs5, zs6, zs7] at h44
     have hdn : dstD g part d = none := by rw [hdd, if_neg (by omega)]
     refine .exit <| ks_e <| kb_hit <| ks_n <| .region <| .cons (.pl rfl rfl rfl) <| .cons (.mv rfl rfl) <| .nil ?_
     refine kl_k [(110, 110)] (.inr ⟨j + 1, o, rfl, by omega, by rw [dstN_next hd1, hE, hdn]; simp, ho0, rfl⟩) ⟨ks rfl .dt, ks rfl .dt, ks rfl (.c .ow), ks rfl .dt, ks rfl .dt, ks rfl .dt, kb 110 rfl (.dt rfl (by first | rfl | (simp [dR, rIs]; done) | (simp [dR, rIs]; rfl))), trivial⟩
    ·try simp only [zs1, zs2, zs3, zs4, zs5, zs6, zs7] at h44
     have hyp : y.1 = part := by omega
     have hds : dstD g part d = some (subL y.2.2 x.2.2) := by rw [hdd, if_pos ⟨hxp, hyp⟩]
     have hlen := (ins_same hIx hIy (by omega)).symm
     refine .skip <| ks_n <| .seq <| .region <| .cons (.asg rfl rfl) <| .nil <| ks_n <| .seq <| .seq <| .region <| .cons (.fB 2 0 false rfl rfl rfl) <| .cons (.b1 1 rfl rfl rfl rfl rfl rfl) <| .cons (.ln 3 1 8 rfl rfl rfl) <| .cons (.mv rfl rfl) <| .nil <| ks_n <| .block ?_
     refine .loopK (fun m σ => (∃ k : Nat, m = y.2.2.length - k ∧ (k = 0) ∧ σ = [(.t 0, .v (.o (.c (.ptr (rT g))))), (.t 1, .v (.o (nat1 part))), (.t 5, .v (.o (.c (.own 120 1 (o.length))))), (.t 8, .v (.o (.c (.ptr (rN x))))), (.t 9, .v (.o (.c (.ptr (rN y))))), (.t 10, .v (.o (.c (.d (.val (.slice none 0 0)))))), (.t 13, .v (.o (vD (dDs (depsG g))))), (.t 14, .v (.o (nat1 ((depsG g).length : Nat)))), (.t 15, .v (.o (nat1 (j : Nat)))), (.t 46, .v (.o (vD (dIs y.2.2)))), (.t 47, .v (.o (nat1 (y.2.2.length : Nat)))), (.t 48, .v (.o (nat1 (k : Nat)))), (.b 120, .b 35 1 (dR (o.map rIs))), (.u 120, .u)]) ∨ (∃ k : Nat, m = y.2.2.length - k ∧ (1 ≤ k) ∧ (k ≤ y.2.2.length) ∧ σ = [(.t 0, .v (.o (.c (.ptr (rT g))))), (.t 1, .v (.o (nat1 part))), (.t 5, .v (.o (.c (.own 120 1 (o.length))))), (.t 8, .v (.o (.c (.ptr (rN x))))), (.t 9, .v (.o (.c (.ptr (rN y))))), (.t 10, .v (.o (.c (.own 121 1 (k))))), (.t 13, .v (.o (vD (dDs (depsG g))))), (.t 14, .v (.o (nat1 ((depsG g).length : Nat)))), (.t 15, .v (.o (nat1 (j : Nat)))), (.t 46, .v (.o (vD (dIs y.2.2)))), (.t 47, .v (.o (nat1 (y.2.2.length : Nat)))), (.t 48, .v (.o (nat1 (k : Nat)))), (.b 120, .b 35 1 (dR (o.map rIs))), (.u 120, .u), (.b 121, .b 3 1 (dR (((subL y.2.2 x.2.2).take k).map rI))), (.u 121, .u)])) [(120, 110)] (.inl ⟨0, rfl, rfl, rfl⟩) ⟨ks rfl .dt, ks rfl .dt, ks rfl (.c .ow), ks rfl (.c (.frzP _ _ _ _ _ _ _ _ rfl (show _ = dR [rN x] from rfl) rfl rfl rfl)), ks rfl (.c (.frzP _ _ _ _ _ _ _ _ rfl (show _ = dR [rN y] from rfl) rfl rfl rfl)), ks rfl .dt, ks rfl .dt, ks rfl .dt, ks rfl .dt, ks rfl .dt, ks rfl .dt, ks rfl .dt, kb 110 rfl (.dt rfl (by first | rfl | (simp [dR, rIs]; done) | (simp [dR, rIs]; rfl))), trivial⟩ ?_
     rintro m σ (⟨k, hm0, hk0, rfl⟩ | ⟨k, hm0, hk1, hk, rfl⟩)
     ·skip
      refine .seq <| .region <| .cons (.ls rfl rfl rfl) <| .nil <| ks_n <| .seq ?_
      refine .cD rfl (fun h49 => ?_) (fun h49 => ?_)
      ·skip
       obtain ⟨u, hu1⟩ : ∃ u, y.2.2[k]? = some u := ⟨_, List.getElem?_eq_getElem (by omega)⟩
       obtain ⟨v, hv1⟩ : ∃ v, x.2.2[k]? = some v := ⟨_, List.getElem?_eq_getElem (by omega)⟩
       have hub := pt_at hIy.ip hu1
       have hvb := pt_at hIx.ip hv1
       have hsn := subL_take hu1 hv1
       have hsl : ((subL y.2.2 x.2.2).take k).length = k := by rw [List.length_take, subL_len hlen]; omega
       have hs1 : ((subL y.2.2 x.2.2).take (k + 1)) = (subL y.2.2 x.2.2).take k ++ [u - v] := hsn
       refine .skip <| ks_n <| .seq <| .block <| .seq <| .region <| .cons (.mv rfl rfl) <| .cons (.asg rfl rfl) <| .nil <| ks_n ?_
       refine ACode.drawK (by kernel_rfl) (by kernel_rfl) ?_
       refine .cons (.mv rfl rfl) <| .cons (.fP 2 0 false rfl rfl) <| .cons (.l1 1 rfl rfl) <| .cons (.mv rfl rfl) <| .cons (.xL 3 1 8 (i := k) rfl rfl rfl rfl rfl (map_at hu1)) ?_
       refine .cons (.l1 1 rfl rfl) <| .cons (.fP 2 0 false rfl rfl) <| .cons (.l1 1 rfl rfl) <| .cons (.mv rfl rfl) <| .cons (.xL 3 1 8 (i := k) rfl rfl rfl rfl rfl (map_at hv1)) ?_
       refine .cons (.l1 1 rfl rfl) <| .cons (.sb rfl rfl rfl (by omega)) ?_
       refine .cons (.li 3 0 0 [.tmp 62] rfl rfl rfl rfl rfl rfl) <| .cons (St1.appN (k' := 164) (e := 3) (sz := 0) (by' := 8) rfl rfl rfl rfl rfl (by kernel_rfl) rfl rfl rfl (by simp) (by first | (simp [dR]; done) | (simp [dR]; omega)) rfl rfl) ?_
       refine .cons (.asg rfl rfl) ?_
       refine .nil ⟨by kernel_rfl, ?_⟩
       refine kb_n <| ks_n <| .region <| .cons (.pl rfl rfl rfl) <| .cons (.mv rfl rfl) <| .nil ?_
       refine kl_k [(120, 120), (121, 164)] (.inr ⟨k + 1, rfl, by omega, by omega, rfl⟩) ⟨ks rfl .dt, ks rfl .dt, ks rfl (.c .ow), ks rfl .dt, ks rfl .dt, ks rfl (.c .ow), ks rfl .dt, ks rfl .dt, ks rfl .dt, ks rfl .dt, ks rfl .dt, ks rfl .dt, kb 120 rfl (.dt rfl (by first | rfl | (simp [dR, rIs]; done) | (simp [dR, rIs]; rfl))), kb 164 rfl (.dt rfl (by first | rfl | (rw [hsn]; simp [dR, rI, dI]; done) | (rw [hsn, hk0]; simp [dR, rI, dI]; done))), trivial⟩
      ·skip
       have hse := subL_end (k := k) hlen (by omega)
       have hs0 : k = 0 → subL y.2.2 x.2.2 = [] := fun h => by rw [← hse, h]; rfl
       refine .exit <| ks_e <| kl_e <| kb_hit <| ks_n ?_
       refine .keep [(.t 0, .v (.o (.c (.ptr (rT g))))), (.t 1, .v (.o (nat1 part))), (.t 5, .v (.o (.c (.own 830 1 (o.length))))), (.t 10, .v (.o (vD (dIs (subL y.2.2 x.2.2))))), (.t 13, .v (.o (vD (dDs (depsG g))))), (.t 14, .v (.o (nat1 ((depsG g).length : Nat)))), (.t 15, .v (.o (nat1 (j : Nat)))), (.b 830, .b 35 1 (dR (o.map rIs))), (.u 830, .u)] [(830, 120)] ⟨ks rfl .dt, ks rfl .dt, ks rfl (.c .ow), ks rfl (.c (Cto.nilE 1 (by rw [hs0 hk0]; rfl))), ks rfl .dt, ks rfl .dt, ks rfl .dt, kb 120 rfl (.dt rfl (by first | rfl | (simp [dR, rIs]; done) | (simp [dR, rIs]; rfl))), trivial⟩ ?_
       refine .region <| .cons (.mv rfl rfl) <| .cons (.mv rfl rfl) <| .cons (.li 35 0 0 [.tmp 67] rfl rfl rfl rfl rfl rfl) <| .cons (St1.appB (k' := 169) (e := 35) (sz := 0) (by' := 24) rfl rfl rfl rfl rfl (by kernel_rfl) rfl rfl rfl rfl (by first | (simp [dR]; done) | (simp [dR]; omega)) (by first | (simp [dR]; done) | (simp [dR]; omega)) rfl rfl rfl) ?_
       refine .cons (.asg rfl rfl) <| .nil <| kb_n <| ks_n <| .region <| .cons (.pl rfl rfl rfl) <| .cons (.mv rfl rfl) <| .nil ?_
       refine kl_k [(110, 169)] (.inr ⟨j + 1, o ++ [subL y.2.2 x.2.2], rfl, by omega, by rw [dstN_next hd1, hE, hds]; rfl, by simp, rfl⟩) ⟨ks rfl .dt, ks rfl .dt, ks rfl (.c .ow), ks rfl .dt, ks rfl .dt, ks rfl .dt, kb 169 rfl (.dt rfl (by first | rfl | (simp [dR, rIs]; done) | (simp [dR, rIs]; rfl))), trivial⟩
     ·skip
      refine .seq <| .region <| .cons (.ls rfl rfl rfl) <| .nil <| ks_n <| .seq ?_
      refine .cD rfl (fun h49 => ?_) (fun h49 => ?_)
      ·skip
       obtain ⟨u, hu1⟩ : ∃ u, y.2.2[k]? = some u := ⟨_, List.getElem?_eq_getElem (by omega)⟩
       obtain ⟨v, hv1⟩ : ∃ v, x.2.2[k]? = some v := ⟨_, List.getElem?_eq_getElem (by omega)⟩
       have hub := pt_at hIy.ip hu1
       have hvb := pt_at hIx.ip hv1
       have hsn := subL_take hu1 hv1
       have hsl : ((subL y.2.2 x.2.2).take k).length = k := by rw [List.length_take, subL_len hlen]; omega
       have hs1 : ((subL y.2.2 x.2.2).take (k + 1)) = (subL y.2.2 x.2.2).take k ++ [u - v] := hsn
       refine .skip <| ks_n <| .seq <| .block <| .seq <| .region <| .cons (.mv rfl rfl) <| .cons (.asg rfl rfl) <| .nil <| ks_n ?_
       refine ACode.drawK (by kernel_rfl) (by kernel_rfl) ?_
       refine .cons (.mv rfl rfl) <| .cons (.fP 2 0 false rfl rfl) <| .cons (.l1 1 rfl rfl) <| .cons (.mv rfl rfl) <| .cons (.xL 3 1 8 (i := k) rfl rfl rfl rfl rfl (map_at hu1)) ?_
       refine .cons (.l1 1 rfl rfl) <| .cons (.fP 2 0 false rfl rfl) <| .cons (.l1 1 rfl rfl) <| .cons (.mv rfl rfl) <| .cons (.xL 3 1 8 (i := k) rfl rfl rfl rfl rfl (map_at hv1)) ?_
       refine .cons (.l1 1 rfl rfl) <| .cons (.sb rfl rfl rfl (by omega)) ?_
       refine .cons (.li 3 0 0 [.tmp 62] rfl rfl rfl rfl rfl rfl) <| .cons (St1.appB (k' := 164) (e := 3) (sz := 0) (by' := 8) rfl rfl rfl rfl rfl (by kernel_rfl) rfl rfl rfl rfl (by first | rfl | (rw [dR_len, List.length_map]; exact hsl) | (simp [dR]; done)) (by first | (simp [dR]; done) | (simp [dR]; omega)) rfl rfl rfl) ?_
       refine .cons (.asg rfl rfl) ?_
       refine .nil ⟨by kernel_rfl, ?_⟩
       refine kb_n <| ks_n <| .region <| .cons (.pl rfl rfl rfl) <| .cons (.mv rfl rfl) <| .nil ?_
       refine kl_k [(120, 120), (121, 164)] (.inr ⟨k + 1, rfl, by omega, by omega, rfl⟩) ⟨ks rfl .dt, ks rfl .dt, ks rfl (.c .ow), ks rfl .dt, ks rfl .dt, ks rfl (.c .ow), ks rfl .dt, ks rfl .dt, ks rfl .dt, ks rfl .dt, ks rfl .dt, ks rfl .dt, kb 120 rfl (.dt rfl (by first | rfl | (simp [dR, rIs]; done) | (simp [dR, rIs]; rfl))), kb 164 rfl (.dt rfl (by first | rfl | (rw [hsn]; simp [dR, rI, dI]; done) | (rw [hsn, hk0]; simp [dR, rI, dI]; done))), trivial⟩
      ·skip
       have hse := subL_end (k := k) hlen (by omega)
       have hs0 : k = 0 → subL y.2.2 x.2.2 = [] := fun h => by rw [← hse, h]; rfl
       refine .exit <| ks_e <| kl_e <| kb_hit <| ks_n ?_
       refine .keep [(.t 0, .v (.o (.c (.ptr (rT g))))), (.t 1, .v (.o (nat1 part))), (.t 5, .v (.o (.c (.own 830 1 (o.length))))), (.t 10, .v (.o (vD (dIs (subL y.2.2 x.2.2))))), (.t 13, .v (.o (vD (dDs (depsG g))))), (.t 14, .v (.o (nat1 ((depsG g).length : Nat)))), (.t 15, .v (.o (nat1 (j : Nat)))), (.b 830, .b 35 1 (dR (o.map rIs))), (.u 830, .u)] [(830, 120)] ⟨ks rfl .dt, ks rfl .dt, ks rfl (.c .ow), ks rfl (.c (.fz rfl (by rw [hse]) (by rw [List.length_map, subL_len hlen]; omega) (by omega))), ks rfl .dt, ks rfl .dt, ks rfl .dt, kb 120 rfl (.dt rfl (by first | rfl | (simp [dR, rIs]; done) | (simp [dR, rIs]; rfl))), trivial⟩ ?_
       refine .region <| .cons (.mv rfl rfl) <| .cons (.mv rfl rfl) <| .cons (.li 35 0 0 [.tmp 67] rfl rfl rfl rfl rfl rfl) <| .cons (St1.appB (k' := 169) (e := 35) (sz := 0) (by' := 24) rfl rfl rfl rfl rfl (by kernel_rfl) rfl rfl rfl rfl (by first | (simp [dR]; done) | (simp [dR]; omega)) (by first | (simp [dR]; done) | (simp [dR]; omega)) rfl rfl rfl) ?_
       refine .cons (.asg rfl rfl) <| .nil <| kb_n <| ks_n <| .region <| .cons (.pl rfl rfl rfl) <| .cons (.mv rfl rfl) <| .nil ?_
       refine kl_k [(110, 169)] (.inr ⟨j + 1, o ++ [subL y.2.2 x.2.2], rfl, by omega, by rw [dstN_next hd1, hE, hds]; rfl, by simp, rfl⟩) ⟨ks rfl .dt, ks rfl .dt, ks rfl (.c .ow), ks rfl .dt, ks rfl .dt, ks rfl .dt, kb 169 rfl (.dt rfl (by first | rfl | (simp [dR, rIs]; done) | (simp [dR, rIs]; rfl))), trivial⟩
  ·skip
   have hE2 := hE
   rw [dstN_end (j := j) (by omega)] at hE2
   refine .exit <| ks_e <| kl_e <| kb_hit <| ks_n <| .seq <| .region <| .cons (.mv rfl rfl) <| .cons (.cO [.tmp 71, .func 122] [(0, 110)] rfl rfl rfl rfl (sortP_fn (ls := o) (by omega)) rfl ⟨by rw [renR_dR]; rfl, trivial⟩ (.cons .nil rfl) (.cons .nil rfl) (.data .nil) outS_one) ?_
   refine .nil <| ks_n <| .seq <| .region <| .cons (.mv rfl rfl) <| .cons (.cO [.tmp 73, .func 124] [(0, 110)] rfl rfl rfl rfl (compact_fn (ls := sortL o) (by rw [sortL_len]; omega) (by rw [sortL_len]; omega)) (by rw [sortL_len]; rfl) ⟨by rw [renR_dR]; rfl, trivial⟩ (.cons .nil rfl) (.cons .nil rfl) (.data .nil) outS_one) ?_
   refine .cons (.asg rfl rfl) <| .nil <| ks_n <| .ret ?_
   refine kf_wret [(.t 4, .v (.o (vD (dPs (dstV g part)))))] (Wk.keep [] rfl rfl ⟨ks rfl (.c (.fz rfl (by rw [dstV, hE2]) (by rw [List.length_map, dstV, hE2]) (by have := kpL_len (sortL o) (sortL o).length; have := sortL_len (ls := o); unfold kpV; omega))), trivial⟩) rfl ?_ nobox
   rfl
theorem dstG_mem {g : Prg} (hS : prgS g = true) {part : Int} {d : List Int} (h : d ∈ dstG g part) : ∃ k q, part = ((k : Nat) : Int) ∧ g.2[k]? = some q ∧ d.length = q.1.length := by
  rw [dstG, List.mem_filterMap] at h
  obtain ⟨e, he, hd⟩ := h
  obtain ⟨a, b, hde, hab, hbl, _⟩ := deps_mem he
  obtain ⟨x, hx1⟩ : ∃ x, (insG 0 g.2)[a]? = some x := ⟨_, List.getElem?_eq_getElem (by omega)⟩
  obtain ⟨y, hy1⟩ : ∃ y, (insG 0 g.2)[b]? = some y := ⟨_, List.getElem?_eq_getElem hbl⟩
  obtain ⟨kx, cx, qx, hIx⟩ := ins_at hS (List.mem_of_getElem? hx1)
  obtain ⟨ky, cy, qy, hIy⟩ := ins_at hS (List.mem_of_getElem? hy1)
  rw [dstD_eq (by rw [hde]) (by rw [hde]) hx1 hy1] at hd
  split at hd
  · rename_i hp
    cases hd
    have e1 := hIx.e1
    have hl := ins_same hIx hIy (by omega)
    exact ⟨kx, qx, by omega, hIx.hq, by rw [subL_len hl.symm, ← hl]; exact ins_len hIx⟩
  · cases hd
/-- The number of loops of a part. -/
def nestQ (g : Prg) (part : Int) : Nat := match g.2[part.toNat]? with | some q => q.1.length | none => 0
theorem nestQ_eq {g : Prg} {part : Int} {k : Nat} {q : Prt} (h : part = (k : Int)) (hq : g.2[k]? = some q) : nestQ g part = q.1.length := by rw [nestQ, h, Int.toNat_natCast, hq]
theorem prt_nest {g : Prg} (hS : prgS g = true) {k : Nat} {q : Prt} (hq : g.2[k]? = some q) : q.1.length ≤ 4 := by
  have h := (prtV_iff.1 ((prgS_iff.1 hS).2.2 q (List.mem_of_getElem? hq))).1
  exact (nsV_at (np_pts h).1).1
theorem part_at {g : Prg} {part : Int} (h : inB part 0 ((g.2.length : Nat) - 1) = true) : ∃ k q, part = ((k : Nat) : Int) ∧ g.2[k]? = some q := by
  have h := of_decide_eq_true h
  exact ⟨part.toNat, g.2[part.toNat]'(by omega), by omega, List.getElem?_eq_getElem (by omega)⟩
theorem part_in {g : Prg} {part : Int} {k : Nat} {q : Prt} (h : part = (k : Int)) (hq : g.2[k]? = some q) : inB part 0 ((g.2.length : Nat) - 1) = true := by
  have := (List.getElem?_eq_some_iff.1 hq).1
  exact decide_eq_true (by omega)
def crV (g : Prg) (part : Int) : List Bool := carF (nestQ g part) (dstV g part)
theorem crV_len {g : Prg} {part : Int} : (crV g part).length = nestQ g part := carF_len
theorem crV_eq {g : Prg} {part : Int} {k : Nat} {q : Prt} (h : part = (k : Int)) (hq : g.2[k]? = some q) : crV g part = carF q.1.length (dstV g part) := by rw [crV, nestQ_eq h hq]
/-- The loops that carry a distance. -/
def crl (g : Prg) (part : Int) : List Int := if prgV g = true ∧ inB part 0 ((g.2.length : Nat) - 1) = true then flagV (crV g part) else []
/-- The loops that carry none. -/
def prl (g : Prg) (part : Int) : List Int := if prgV g = true ∧ inB part 0 ((g.2.length : Nat) - 1) = true then flagV ((crV g part).map not) else []
def hasL (g : Prg) (part loop : Int) : Bool := prgV g && (inB part 0 ((g.2.length : Nat) - 1) && inB loop 0 ((nestQ g part : Nat) - 1))
def parB (g : Prg) (part loop : Int) : Bool := hasL g part loop && !(crV g part).getD loop.toNat false
theorem carF_nil {n i : Nat} : (carF n []).getD i false = false := by
  rw [carF, List.foldl_nil, List.getD]
  by_cases h : i < n
  · rw [List.getElem?_replicate, if_pos h]; rfl
  · rw [List.getElem?_replicate, if_neg h]; rfl
theorem flagV_none {l : List Bool} (h : ∀ i, l.getD i false = false) : flagV l = [] := by
  rw [flagV, flagN]
  rw [List.filter_eq_nil_iff.2 (fun i _ => by rw [h i]; simp)]; rfl
/-- From the reference's list of distances: the same loops. -/
theorem crl_ref {g : Prg} {part : Int} {l : List (List Int)} (hV : prgV g = true) (hl : ∀ d, d ∈ l ↔ d ∈ dstG g part) : flagV (carF 4 l) = crl g part := by
  have hS := (prgV_s hV).1
  rw [crl]
  split
  · rename_i h
    obtain ⟨k, q, hk, hq⟩ := part_at h.2
    rw [crV_eq hk hq]
    refine (flagV_congr (carF_same (fun d => ?_) (prt_nest hS hq) fun d hd => ?_)).symm
    · rw [mem_dstV]; exact (hl d).symm
    · obtain ⟨k', q', hk', hq', hd'⟩ := dstG_mem hS (mem_dstV.1 hd)
      have : k = k' := by omega
      subst this
      rw [hq] at hq'; cases hq'
      exact hd'
  · rename_i h
    have e : l = [] := by
      cases l with
      | nil => rfl
      | cons d l =>
        obtain ⟨k', q', hk', hq', _⟩ := dstG_mem hS ((hl d).1 (by simp))
        exact absurd ⟨hV, part_in hk' hq'⟩ h
    rw [e]
    exact flagV_none fun i => carF_nil
theorem crl_no {g : Prg} {part : Int} (h : prgV g = false) : crl g part = [] := by rw [crl, if_neg (by rw [h]; simp)]
theorem crl_yes {g : Prg} {part : Int} (h : prgV g = true) (h2 : inB part 0 ((g.2.length : Nat) - 1) = true) : crl g part = flagV (crV g part) := by rw [crl, if_pos ⟨h, h2⟩]
theorem prl_no {g : Prg} {part : Int} (h : prgV g = false) : prl g part = [] := by rw [prl, if_neg (by rw [h]; simp)]
theorem prl_out {g : Prg} {part : Int} (h : inB part 0 ((g.2.length : Nat) - 1) = false) : prl g part = [] := by rw [prl, if_neg (by rw [h]; simp)]
theorem prl_yes {g : Prg} {part : Int} (h : prgV g = true) (h2 : inB part 0 ((g.2.length : Nat) - 1) = true) : prl g part = flagV ((crV g part).map not) := by rw [prl, if_pos ⟨h, h2⟩]
theorem has_flagV {l : List Bool} {n : Int} (h : 0 ≤ n) : hasV (flagV l) n = l.getD n.toNat false := by
  rw [Bool.eq_iff_iff, hasV, List.any_eq_true]
  constructor
  · rintro ⟨m, hm, e⟩
    obtain ⟨i, rfl, _, h2⟩ := flagV_mem.1 hm
    have e := of_decide_eq_true e
    rw [show n.toNat = i by omega]; exact h2
  · intro h2
    refine ⟨n, flagV_mem.2 ⟨n.toNat, by omega, ?_, h2⟩, by simp⟩
    by_cases q : n.toNat < l.length
    · exact q
    · rw [List.getD, List.getElem?_eq_none (by omega)] at h2; cases h2
theorem parB_ref {g : Prg} {part loop : Int} (h : hasL g part loop = true) : parB g part loop = !hasV (crl g part) loop := by
  have h2 := h
  rw [hasL, Bool.and_eq_true, Bool.and_eq_true] at h2
  have h3 := of_decide_eq_true h2.2.2
  rw [parB, h, crl_yes h2.1 h2.2.1, has_flagV h3.1, Bool.true_and]
/-- The reference's parallel loops: of the first n. -/
def prN (g : Prg) (part : Int) (n : Nat) : List Int := ((List.range n).filter fun i => parB g part (i : Nat)).map fun (i : Nat) => (i : Int)
theorem prN_next {g : Prg} {part : Int} {n : Nat} : prN g part (n + 1) = if parB g part (n : Nat) = true then prN g part n ++ [(n : Int)] else prN g part n := by
  rw [prN, List.range_succ, List.filter_append, List.map_append]
  cases h : parB g part (n : Nat) with
  | true => rw [if_pos rfl, List.filter_cons_of_pos (p := fun i : Nat => parB g part (i : Nat)) (by rw [h])]; rfl
  | false => rw [if_neg (by simp), List.filter_cons_of_neg (p := fun i : Nat => parB g part (i : Nat)) (by rw [h]; simp)]; simp [prN]
theorem prN_end {g : Prg} {part : Int} : prN g part 4 = prl g part := by
  have ext : ∀ (l : List Bool) (m : Nat), l.length ≤ m → flagV l = flagN l m := by
    intro l m hm
    obtain ⟨e, rfl⟩ : ∃ e, m = l.length + e := ⟨m - l.length, by omega⟩
    clear hm
    induction e with
    | zero => rfl
    | succ e ih =>
      have h0 : l.getD (l.length + e) false = false := by rw [List.getD, List.getElem?_eq_none (by omega)]; rfl
      rw [ih, flagN, flagN, show l.length + (e + 1) = (l.length + e) + 1 by omega, List.range_succ, List.filter_append, List.map_append, List.filter_cons_of_neg (by rw [h0]; simp)]
      simp
  cases hV : prgV g with
  | false =>
    rw [prl_no hV, prN, List.filter_eq_nil_iff.2 (fun i _ => by rw [parB, hasL, hV]; simp)]; rfl
  | true =>
    cases hp : inB part 0 ((g.2.length : Nat) - 1) with
    | false => rw [prl_out hp, prN, List.filter_eq_nil_iff.2 (fun i _ => by rw [parB, hasL, hp]; simp)]; rfl
    | true =>
      obtain ⟨k, q, hk, hq⟩ := part_at hp
      have hn := prt_nest (prgV_s hV).1 hq
      rw [prl_yes hV hp, ext _ 4 (by rw [List.length_map, crV_len, nestQ_eq hk hq]; exact hn), prN, flagN]
      congr 2
      funext i
      rw [parB, hasL, hV, hp, Bool.true_and, Bool.true_and, Int.toNat_natCast, List.getD, List.getD, List.getElem?_map]
      by_cases hi : i < (crV g part).length
      · rw [List.getElem?_eq_getElem hi, show inB (i : Nat) 0 ((nestQ g part : Nat) - 1) = true from decide_eq_true (by rw [crV_len] at hi; omega)]
        simp
      · rw [List.getElem?_eq_none (by omega), show inB (i : Nat) 0 ((nestQ g part : Nat) - 1) = false from decide_eq_false (by rw [crV_len] at hi; omega)]
        simp
/-- The reference's list of distances. -/
def insS (d : List Int) : List (List Int) → List (List Int)
  | [] => [d]
  | x :: l => if lexB d x = true then d :: x :: l else x :: insS d l
def addS (l : List (List Int)) (d : List Int) : List (List Int) := if d ∈ l then l else insS d l
theorem mem_insS {d x : List Int} : ∀ {l : List (List Int)}, x ∈ insS d l ↔ x = d ∨ x ∈ l
  | [] => by simp [insS]
  | y :: l => by
    rw [insS]
    split
    · simp
    · rw [List.mem_cons, mem_insS, List.mem_cons]
      constructor
      · rintro (h | h | h)
        · exact .inr (.inl h)
        · exact .inl h
        · exact .inr (.inr h)
      · rintro (h | h | h)
        · exact .inr (.inl h)
        · exact .inl h
        · exact .inr (.inr h)
theorem mem_addS {d x : List Int} {l : List (List Int)} : x ∈ addS l d ↔ x ∈ l ∨ x = d := by
  rw [addS]
  split
  · rename_i h
    exact ⟨.inl, fun h2 => h2.elim id fun e => e ▸ h⟩
  · rw [mem_insS]; exact ⟨fun h => h.elim .inr .inl, fun h => h.elim .inr .inl⟩
theorem insS_len {d : List Int} : ∀ {l : List (List Int)}, (insS d l).length = l.length + 1
  | [] => rfl
  | y :: l => by
    rw [insS]; split
    · rfl
    · rw [List.length_cons, insS_len, List.length_cons]
theorem addS_len {d : List Int} {l : List (List Int)} : (addS l d).length ≤ l.length + 1 := by
  rw [addS]; split
  · omega
  · rw [insS_len]; omega
theorem insS_app {d : List Int} {r : List (List Int)} : ∀ {l : List (List Int)}, (l.any fun x => lexB d x) = true → insS d (l ++ r) = insS d l ++ r
  | [], h => by simp at h
  | x :: l, h => by
    rw [List.cons_append, insS, insS]
    split
    · rfl
    · rename_i hx
      rw [List.any_cons, Bool.or_eq_true] at h
      rw [insS_app (h.resolve_left hx)]; rfl
theorem insS_new {d x : List Int} : ∀ {l : List (List Int)}, (l.any fun x => lexB d x) = false → lexB d x = true → insS d (l ++ [x]) = l ++ [d, x]
  | [], _, hx => by rw [List.nil_append, insS, if_pos hx]; rfl
  | y :: l, h, hx => by
    rw [List.any_cons, Bool.or_eq_false_iff] at h
    rw [List.cons_append, insS, if_neg (by rw [h.1]; simp), insS_new h.2 hx]; rfl
theorem insS_last {d : List Int} : ∀ {l : List (List Int)}, (l.any fun x => lexB d x) = false → insS d l = l ++ [d]
  | [], _ => rfl
  | y :: l, h => by
    rw [List.any_cons, Bool.or_eq_false_iff] at h
    rw [insS, if_neg (by rw [h.1]; simp), insS_last h.2]; rfl
/-- Behind i rows: what was written, and whether d is among it. -/
def addN (l : List (List Int)) (d : List Int) (i : Nat) : List (List Int) := if ((l.take i).any fun x => lexB d x) = true then insS d (l.take i) else l.take i
def addB (l : List (List Int)) (d : List Int) (i : Nat) : Bool := (l.take i).any fun x => lexB d x
theorem addB_next {l : List (List Int)} {d x : List Int} {i : Nat} (h : l[i]? = some x) : addB l d (i + 1) = (addB l d i || lexB d x) := by
  rw [addB, List.take_add_one, h, List.any_append]; simp [addB]
theorem addN_old {l : List (List Int)} {d x : List Int} {i : Nat} (h : l[i]? = some x) (hb : addB l d i = true ∨ lexB d x = false) : addN l d (i + 1) = addN l d i ++ [x] := by
  have e := addB_next (d := d) h
  have ht : l.take (i + 1) = l.take i ++ [x] := by rw [List.take_add_one, h]; rfl
  unfold addB at e hb
  rw [addN, addN, e]
  rcases hb with hb | hb
  · rw [hb, Bool.true_or, if_pos rfl, if_pos rfl, ht, insS_app hb]
  · rw [hb, Bool.or_false]
    by_cases q : ((l.take i).any fun x => lexB d x) = true
    · rw [if_pos q, if_pos q, ht, insS_app q]
    · rw [if_neg q, if_neg q, ht]
theorem addN_new {l : List (List Int)} {d x : List Int} {i : Nat} (h : l[i]? = some x) (hb : addB l d i = false) (hx : lexB d x = true) : addN l d (i + 1) = addN l d i ++ [d] ++ [x] := by
  have e := addB_next (d := d) h
  have ht : l.take (i + 1) = l.take i ++ [x] := by rw [List.take_add_one, h]; rfl
  unfold addB at e hb
  rw [addN, addN, e, hb, hx, Bool.false_or, if_pos rfl, if_neg (by simp), ht, insS_new hb hx, List.append_assoc]; rfl
theorem addN_end {l : List (List Int)} {d : List Int} (h : ∀ j x, j < l.length → l[j]? = some x → ¬ x = d) : addS l d = if addB l d l.length = true then addN l d l.length else addN l d l.length ++ [d] := by
  have hm : d ∉ l := fun hd => by
    obtain ⟨j, hj⟩ := List.mem_iff_getElem?.1 hd
    exact h j d (List.getElem?_eq_some_iff.1 hj).1 hj rfl
  rw [addS, if_neg hm, addN, addB, List.take_length]
  split
  · rfl
  · rename_i q; exact insS_last (by simpa using q)
theorem addS_in {l : List (List Int)} {d x : List Int} {i : Nat} (h : l[i]? = some x) (e : x = d) : addS l d = l := by rw [addS, if_pos (e ▸ List.mem_of_getElem? h)]
def dstS (g : Prg) (part : Int) (j : Nat) : List (List Int) := (dstN g part j).foldl addS []
theorem dstS_none {g : Prg} {part : Int} {j : Nat} {d : Dpn} (h : (depsG g)[j]? = some d) (hn : dstD g part d = none) : dstS g part (j + 1) = dstS g part j := by rw [dstS, dstN_next h, hn]; simp [dstS]
theorem dstS_some {g : Prg} {part : Int} {j : Nat} {d : Dpn} {v : List Int} (h : (depsG g)[j]? = some d) (hn : dstD g part d = some v) : dstS g part (j + 1) = addS (dstS g part j) v := by rw [dstS, dstN_next h, hn]; simp [dstS, List.foldl_append]
theorem mem_foldS {d : List Int} : ∀ {l a : List (List Int)}, d ∈ l.foldl addS a ↔ d ∈ a ∨ d ∈ l
  | [], a => by simp
  | x :: l, a => by
    rw [List.foldl_cons, mem_foldS, mem_addS, List.mem_cons, or_assoc]
theorem mem_dstS {g : Prg} {part : Int} {j : Nat} {d : List Int} (h : (depsG g).length ≤ j) : d ∈ dstS g part j ↔ d ∈ dstG g part := by rw [dstS, mem_foldS, dstN_end h]; simp
theorem dstS_len {g : Prg} {part : Int} : ∀ j, (dstS g part j).length ≤ j := by
  intro j
  have key : ∀ (l a : List (List Int)), (l.foldl addS a).length ≤ a.length + l.length := by
    intro l
    induction l with
    | nil => intro a; simp
    | cons x l ih =>
      intro a
      have h1 := ih (addS a x)
      have h2 := addS_len (d := x) (l := a)
      rw [List.foldl_cons, List.length_cons]; omega
  have h1 := key (dstN g part j) []
  have h2 := dstN_len (g := g) (part := part) (j := j)
  rw [dstS]; simp at h1; omega
theorem half_at {l : List Bool} {i : Nat} {b : Bool} (h : l[i]? = some b) : ((l.map not).take i ++ l.drop i)[i]? = some b := by
  have hl := (List.getElem?_eq_some_iff.1 h).1
  rw [List.getElem?_append_right (by simp; omega), List.length_take, List.length_map, Nat.min_eq_left (by omega), Nat.sub_self, List.getElem?_drop, Nat.add_zero]; exact h
theorem half_next {l : List Bool} {i : Nat} {b : Bool} (h : l[i]? = some b) : ((l.map not).take i ++ l.drop i).set i (!b) = (l.map not).take (i + 1) ++ l.drop (i + 1) := by
  have hl := (List.getElem?_eq_some_iff.1 h).1
  rw [List.set_append, if_neg (by simp; omega), List.length_take, List.length_map, Nat.min_eq_left (by omega), Nat.sub_self, List.drop_eq_getElem_cons hl, List.set_cons_zero, List.take_add_one, List.getElem?_map, h, List.append_assoc]
  rfl

theorem carried_own {g : Prg} (hS : prgS g = true) (hL : (insG 0 g.2).length ≤ 120) {part : Int} {k : Nat} {q : Prt} (hk : part = (k : Int)) (hq : g.2[k]? = some q)  : Fn Tryz.prog 40 [] [.c (.ptr (rT g)), nat1 part] (.o (.c (.own 100 1 q.1.length))) [(.b 100, .b 4 1 (dR ((crV g part).map rB))), (.u 100, .u)] := by
  have hqn := prt_nest hS hq
  have hdl := kpL_len (sortL (dstG g part)) (sortL (dstG g part)).length
  have hsl := sortL_len (ls := dstG g part)
  have hdg : (dstG g part).length ≤ 14400 := by
    have h1 := depsN_len hL (n := (insG 0 g.2).length)
    have h2 := dstN_len (g := g) (part := part) (j := (depsG g).length)
    rw [dstN_end (Nat.le_refl _)] at h2
    have h3 : (depsG g).length ≤ 14400 := by unfold depsG; omega
    omega
  have hdv : (dstV g part).length ≤ 14400 := by unfold dstV kpV; omega
  refine Fn.of_code Tryz.func40 rfl rfl HB.nil rfl rfl HB.nil.data rfl (one_num rfl) ?_
  refine .seq <| .region <| .cons (.asg rfl rfl) <| .nil <| ks_n <| .seq <| .region <| .cons (.mv rfl rfl) <| .cons (.nP rfl rfl) <| .cons (.fP 0 1 true rfl rfl) <| .cons (.fP 1 0 false rfl rfl) <| .cons (.l1 1 rfl rfl) <| .cons (.mv rfl rfl) <| .cons (.xL 104 2 48 (i := k) rfl rfl rfl rfl hk (map_at hq)) ?_
  refine .cons (.fP 0 0 false rfl rfl) <| .cons (.l1 1 rfl rfl) <| .cons (.ln 172 2 48 rfl rfl rfl) <| .cons (.mk 119 4 1 1 [.bool false] rfl rfl rfl (by omega) rfl rfl) ?_
  refine .cons (.asg rfl rfl) <| .nil <| ks_n <| .seq <| .seq <| .region <| .cons (.mv rfl rfl) <| .cons (.mv rfl rfl) <| .cons (.cP [.tmp 20, .tmp 21] rfl rfl rfl rfl (dist_fn hS hL part) rfl) ?_
  refine .cons (.ln 35 1 24 rfl rfl rfl) <| .cons (.mv rfl rfl) <| .nil <| ks_n <| .block ?_
  refine .loopK (fun m σ => (∃ j : Nat, m = (dstV g part).length - j ∧ (j ≤ (dstV g part).length) ∧ σ = [(.t 5, .v (.o (.c (.own 110 1 (q.1.length))))), (.t 22, .v (.o (vD (dPs (dstV g part))))), (.t 23, .v (.o (nat1 ((dstV g part).length : Nat)))), (.t 24, .v (.o (nat1 (j : Nat)))), (.b 110, .b 4 1 (dR ((carF q.1.length ((dstV g part).take j)).map rB))), (.u 110, .u)])) [(110, 119)] ⟨0, rfl, by omega, rfl⟩ ⟨ks rfl (.c .ow), ks rfl .dt, ks rfl .dt, ks rfl .dt, kb 119 rfl (.dt rfl (by first | exact dR_repB _ | rfl | (rw [hcn, carS, if_neg (by omega)]; done) | (rw [hcn, carS, if_pos (by omega)]; exact dR_setB _ _ _ _))), trivial⟩ ?_
  rintro m σ ⟨j, hm0, hj, rfl⟩
  refine .seq <| .region <| .cons (.ls rfl rfl rfl) <| .nil <| ks_n <| .seq ?_
  refine .cD rfl (fun h25 => ?_) (fun h25 => ?_)
  · skip
    obtain ⟨d, hd1⟩ : ∃ x_, (dstV g part)[j]? = some x_ := ⟨_, List.getElem?_eq_getElem (by omega)⟩
    obtain ⟨k', q', hk', hq', hd'⟩ := dstG_mem hS (mem_dstV.1 (List.mem_of_getElem? hd1))
    have hkk : k = k' := by omega
    subst hkk
    rw [hq] at hq'; cases hq'
    have hcb := carry_bd (d := d)
    have hcn := carF_next (n := q.1.length) hd1
    refine .skip <| ks_n <| .seq <| .block <| .seq <| .region <| .cons (.xL 35 1 24 (i := j) rfl rfl rfl rfl rfl (map_at hd1)) ?_
    refine .cons (.l1 1 rfl rfl) <| .cons (.asg rfl rfl) <| .nil <| ks_n <| .seq <| .region <| .cons (.mv rfl rfl) <| .cons (.cP [.tmp 28] rfl rfl rfl rfl (carry_fn d) rfl) ?_
    refine .cons (.asg rfl rfl) <| .nil <| ks_n <| .seq <| .region <| .cons (.mv rfl rfl) <| .cons (.ge rfl rfl rfl) <| .nil <| ks_n ?_
    refine .cD rfl (fun h31 => ?_) (fun h31 => ?_)
    · skip
      obtain ⟨f, hf1⟩ : ∃ f, (carF q.1.length ((dstV g part).take j))[(carry d).toNat]? = some f := ⟨_, List.getElem?_eq_getElem (by rw [carF_len]; omega)⟩
      refine .region <| .cons (.mv rfl rfl) <| .cons (.mv rfl rfl) <| .cons (.xB 4 1 1 (i := (carry d).toNat) rfl rfl rfl rfl rfl (by omega) (by omega)) ?_
      refine .cons (.sT 1 false rfl rfl rfl rfl (dR_at (map_at hf1)) rfl rfl) <| .nil <| kb_n <| ks_n <| .region <| .cons (.pl rfl rfl rfl) <| .cons (.mv rfl rfl) <| .nil ?_
      refine kl_k [(110, 110)] ⟨j + 1, rfl, by omega, rfl⟩ ⟨ks rfl (.c .ow), ks rfl .dt, ks rfl .dt, ks rfl .dt, kb 110 rfl (.dt rfl (by first | exact dR_repB _ | rfl | (rw [hcn, carS, if_neg (by omega)]; done) | (rw [hcn, carS, if_pos (by omega)]; exact dR_setB _ _ _ _))), trivial⟩
    · skip
      refine .skip <| kb_n <| ks_n <| .region <| .cons (.pl rfl rfl rfl) <| .cons (.mv rfl rfl) <| .nil ?_
      refine kl_k [(110, 110)] ⟨j + 1, rfl, by omega, rfl⟩ ⟨ks rfl (.c .ow), ks rfl .dt, ks rfl .dt, ks rfl .dt, kb 110 rfl (.dt rfl (by first | exact dR_repB _ | rfl | (rw [hcn, carS, if_neg (by omega)]; done) | (rw [hcn, carS, if_pos (by omega)]; exact dR_setB _ _ _ _))), trivial⟩
  · skip
    obtain rfl : j = (dstV g part).length := by omega
    have hce : crV g part = carF q.1.length ((dstV g part).take (dstV g part).length) := by rw [crV_eq hk hq, List.take_length]
    refine .exit <| ks_e <| kl_e <| kb_hit <| ks_n <| .seq <| .region <| .cons (.mv rfl rfl) <| .cons (.asg rfl rfl) <| .nil <| ks_n <| .ret ?_
    refine kf_wret [(.t 4, .v (.o (.c (.own 100 1 (q.1.length))))), (.b 100, .b 4 1 (dR ((crV g part).map rB))), (.u 100, .u)] (Wk.keep [(100, 110)] rfl rfl ⟨ks rfl (.c (.ow rfl)), kb 110 rfl (.dt rfl (by rw [hce])), trivial⟩) rfl ?_ (one_box rfl)
    rfl

theorem pl_bad {g : Prg} (hs : szG g ≤ 1073741824) (part : Int) (hV : prgV g = false) : Fn Tryz.prog 22 [] [ad (rG g), nat1 part] (.o (.c (.d (.val (.slice none 0 0))))) [] := by
 refine Fn.code0 Tryz.func22 rfl rfl rfl rfl ?_
 refine .seq <| .region <| .cons (St1.boxP rfl rfl rfl rfl rfl rfl) <| .cons (.asg rfl rfl) <| .nil <| ks_n <| .seq <| .region <| .cons (.lN 2 rfl rfl rfl) <| .cons (.cP [.tmp 11] rfl rfl rfl rfl (trace_no hs hV) rfl) ?_
 refine .cons (.mv rfl rfl) <| .cons (.ex rfl rfl rfl) <| .cons (.ex rfl rfl rfl) <| .cons (.asg rfl rfl) <| .cons (.asg rfl rfl) <| .nil <| ks_n <| .seq <| .seq <| .region <| .cons (.mv rfl rfl) <| .cons (.nt rfl rfl) <| .cons (.mv rfl rfl) ?_
 refine AOps.cases 17 _ rfl (fun g17 => ?_) (fun g17 => ?_)
 ·try simp only [zs1, zs2, zs3, zs4, zs5, zs6, zs7] at g17
  refine .cons (.gF rfl rfl rfl) <| .cons (.gF rfl rfl rfl) <| .cons (.gF rfl rfl rfl) <| .cons (.gF rfl rfl rfl) <| .cons (.pT rfl rfl rfl) <| .nil <| ks_n ?_
  refine ACode.condT rfl (fun _ => ?_) (fun h => by first | (cases h; done) | (simp [*] at h; done) | (exfalso; simp_all; done))
  refine .seq <| .region <| .cons (.asg rfl rfl) <| .nil <| ks_n <| .ret <| ks_r ?_
  refine kf_ret rfl ?_ nobox
  rfl
 ·try simp only [zs1, zs2, zs3, zs4, zs5, zs6, zs7] at g17
  cases g17

theorem pl_out {g : Prg} (hs : szG g ≤ 1073741824) (part : Int) (hV : prgV g = true) (hp : inB part 0 ((g.2.length : Nat) - 1) = false) : Fn Tryz.prog 22 [] [ad (rG g), nat1 part] (.o (.c (.d (.val (.slice none 0 0))))) [] := by
 obtain ⟨hS, hN, hL⟩ := prgV_s hV
 have h4 := (prgS_iff.1 hS).2.1
 refine Fn.code0 Tryz.func22 rfl rfl rfl rfl ?_
 refine .seq <| .region <| .cons (St1.boxP rfl rfl rfl rfl rfl rfl) <| .cons (.asg rfl rfl) <| .nil <| ks_n <| .seq <| .region <| .cons (.lN 2 rfl rfl rfl) <| .cons (.cP [.tmp 11] rfl rfl rfl rfl (trace_fn hs hV) rfl) ?_
 refine .cons (.mv rfl rfl) <| .cons (.ex rfl rfl rfl) <| .cons (.ex rfl rfl rfl) <| .cons (.asg rfl rfl) <| .cons (.asg rfl rfl) <| .nil <| ks_n <| .seq <| .seq <| .region <| .cons (.mv rfl rfl) <| .cons (.nt rfl rfl) <| .cons (.mv rfl rfl) ?_
 refine AOps.cases 17 _ rfl (fun g17 => ?_) (fun g17 => ?_)
 ·try simp only [zs1, zs2, zs3, zs4, zs5, zs6, zs7] at g17
  cases g17
 ·try simp only [zs1, zs2, zs3, zs4, zs5, zs6, zs7] at g17
  refine .cons (.gT rfl rfl rfl (.lN 2 rfl rfl rfl)) <| .cons (.gT rfl rfl rfl (.mv rfl rfl)) <| .cons (.gT rfl rfl rfl (.cP [.tmp 18, .tmp 19] rfl rfl rfl rfl (isPart_fn (by omega) part) rfl)) ?_
  refine .cons (.gT rfl rfl rfl (.nt rfl rfl)) <| .cons (.pF rfl rfl rfl) <| .nil <| ks_n ?_
  refine ACode.condT rfl (fun h22 => ?_) (fun h22 => ?_)
  ·try simp only [zs1, zs2, zs3, zs4, zs5, zs6, zs7] at h22
   refine .seq <| .region <| .cons (.asg rfl rfl) <| .nil <| ks_n <| .ret <| ks_r ?_
   refine kf_ret rfl ?_ nobox
   rfl
  ·try simp only [zs1, zs2, zs3, zs4, zs5, zs6, zs7] at h22
   simp_all

theorem pl_nil {g : Prg} (hs : szG g ≤ 1073741824) (part : Int) (hV : prgV g = true) (hp : inB part 0 ((g.2.length : Nat) - 1) = true) (hz : flagV ((crV g part).map not) = []) : Fn Tryz.prog 22 [] [ad (rG g), nat1 part] (.o (.c (.d (.val (.slice none 0 0))))) [] := by
 obtain ⟨hS, hN, hL⟩ := prgV_s hV
 have h4 := (prgS_iff.1 hS).2.1
 obtain ⟨k, q, hk, hq⟩ := part_at hp
 have hqn := prt_nest hS hq
 have hcl : (crV g part).length = q.1.length := by rw [crV_len, nestQ_eq hk hq]
 have hfl : ((crV g part).map not).length ≤ 1000000 := by first | omega | (rw [List.length_map]; omega)
 refine Fn.code0 Tryz.func22 rfl rfl rfl rfl ?_
 refine .seq <| .region <| .cons (St1.boxP rfl rfl rfl rfl rfl rfl) <| .cons (.asg rfl rfl) <| .nil <| ks_n <| .seq <| .region <| .cons (.lN 2 rfl rfl rfl) <| .cons (.cP [.tmp 11] rfl rfl rfl rfl (trace_fn hs hV) rfl) ?_
 refine .cons (.mv rfl rfl) <| .cons (.ex rfl rfl rfl) <| .cons (.ex rfl rfl rfl) <| .cons (.asg rfl rfl) <| .cons (.asg rfl rfl) <| .nil <| ks_n <| .seq <| .seq <| .region <| .cons (.mv rfl rfl) <| .cons (.nt rfl rfl) <| .cons (.mv rfl rfl) ?_
 refine AOps.cases 17 _ rfl (fun g17 => ?_) (fun g17 => ?_)
 ·try simp only [zs1, zs2, zs3, zs4, zs5, zs6, zs7] at g17
  cases g17
 ·try simp only [zs1, zs2, zs3, zs4, zs5, zs6, zs7] at g17
  refine .cons (.gT rfl rfl rfl (.lN 2 rfl rfl rfl)) <| .cons (.gT rfl rfl rfl (.mv rfl rfl)) <| .cons (.gT rfl rfl rfl (.cP [.tmp 18, .tmp 19] rfl rfl rfl rfl (isPart_fn (by omega) part) rfl)) ?_
  refine .cons (.gT rfl rfl rfl (.nt rfl rfl)) <| .cons (.pF rfl rfl rfl) <| .nil <| ks_n ?_
  refine ACode.condT rfl (fun h22 => ?_) (fun h22 => ?_)
  ·try simp only [zs1, zs2, zs3, zs4, zs5, zs6, zs7] at h22
   simp_all
  ·try simp only [zs1, zs2, zs3, zs4, zs5, zs6, zs7] at h22
   refine .skip <| ks_n <| .seq <| .region <| .cons (.mv rfl rfl) <| .cons (.mv rfl rfl) <| .cons (.cO [.tmp 23, .tmp 24] [(100, 125)] rfl rfl rfl rfl (carried_own hS hL hk hq) rfl trivial flatS.nil (flatS.nil.cons rfl) HB.nil.data outS_one) ?_
   refine .cons (.asg rfl rfl) <| .nil <| ks_n <| .seq <| .seq <| .region <| .cons (.mv rfl rfl) <| .cons (.lB 4 1 1 rfl rfl rfl rfl) <| .cons (.mv rfl rfl) <| .nil <| ks_n <| .block ?_
   refine .loopK (fun m σ => (∃ i : Nat, m = q.1.length - i ∧ (i ≤ q.1.length) ∧ σ = [(.t 26, .v (.o (.c (.own 110 1 (q.1.length))))), (.t 27, .v (.o (nat1 (q.1.length : Nat)))), (.t 28, .v (.o (nat1 (i : Nat)))), (.t 7, .v (.o (.c (.own 110 1 (q.1.length))))), (.b 110, .b 4 1 (dR ((((crV g part).map not).take i ++ (crV g part).drop i).map rB))), (.u 110, .u)])) [(110, 125)] ⟨0, rfl, by omega, rfl⟩ ⟨ks rfl (.c .ow), ks rfl .dt, ks rfl .dt, ks rfl (.c .ow), kb 125 rfl (.dt rfl (by first | rfl | (rw [← half_next hb1]; exact dR_setB _ _ _ _))), trivial⟩ ?_
   rintro m σ ⟨i, hm0, hi, rfl⟩
   refine .seq <| .region <| .cons (.ls rfl rfl rfl) <| .nil <| ks_n <| .seq ?_
   refine .cD rfl (fun h29 => ?_) (fun h29 => ?_)
   ·skip
    obtain ⟨b, hb1⟩ : ∃ x_, (crV g part)[i]? = some x_ := ⟨_, List.getElem?_eq_getElem (by omega)⟩
    refine .skip <| ks_n <| .seq <| .block <| .seq <| .region <| .cons (.mv rfl rfl) <| .cons (.xB 4 1 1 (i := i) rfl rfl rfl rfl rfl rfl (by omega)) ?_
    refine .cons (.b1 1 rfl rfl rfl rfl (dR_at (map_at (half_at hb1))) rfl) <| .cons (.asg rfl rfl) <| .cons (.asg rfl rfl) <| .nil <| ks_n <| .region <| .cons (.mv rfl rfl) <| .cons (.mv rfl rfl) <| .cons (.mv rfl rfl) <| .cons (.nt rfl rfl) <| .cons (.xB 4 1 1 (i := i) rfl rfl rfl rfl rfl rfl (by omega)) ?_
    refine .cons (.sT 1 false rfl rfl rfl rfl (dR_at (map_at (half_at hb1))) rfl rfl) <| .nil <| kb_n <| ks_n <| .region <| .cons (.pl rfl rfl rfl) <| .cons (.mv rfl rfl) <| .nil ?_
    refine kl_k [(110, 110)] ⟨i + 1, rfl, by omega, rfl⟩ ⟨ks rfl (.c .ow), ks rfl .dt, ks rfl .dt, ks rfl (.c .ow), kb 110 rfl (.dt rfl (by first | rfl | (rw [← half_next hb1]; exact dR_setB _ _ _ _))), trivial⟩
   ·skip
    obtain rfl : i = q.1.length := by omega
    have hall : ((crV g part).map not).take q.1.length ++ (crV g part).drop q.1.length = (crV g part).map not := by rw [List.take_of_length_le (by rw [List.length_map]; omega), List.drop_of_length_le (by omega), List.append_nil]
    refine .exit <| ks_e <| kl_e <| kb_hit <| ks_n <| .seq ?_
    refine .keep [(.t 7, .v (.o (vD (dBs ((crV g part).map not)))))] [] ⟨ks rfl (.c (.fz rfl (by rw [hall]) (by rw [List.length_map, List.length_map, hcl]) (by omega))), trivial⟩ ?_
    refine .region <| .cons (.mv rfl rfl) <| .cons (.cP [.tmp 39] rfl rfl rfl rfl (chosen_nil _ hfl hz) rfl) ?_
    refine .cons (.asg rfl rfl) <| .nil <| ks_n <| .ret ?_
    refine kf_ret rfl ?_ nobox
    rfl

theorem pl_own {g : Prg} (hs : szG g ≤ 1073741824) (part : Int) (hV : prgV g = true) (hp : inB part 0 ((g.2.length : Nat) - 1) = true) (hz : flagV ((crV g part).map not) ≠ []) : Fn Tryz.prog 22 [] [ad (rG g), nat1 part] (.o (.c (.own 100 1 (flagV ((crV g part).map not)).length))) [(.b 100, .b 3 1 (dR ((flagV ((crV g part).map not)).map rI))), (.u 100, .u)] := by
 obtain ⟨hS, hN, hL⟩ := prgV_s hV
 have h4 := (prgS_iff.1 hS).2.1
 obtain ⟨k, q, hk, hq⟩ := part_at hp
 have hqn := prt_nest hS hq
 have hcl : (crV g part).length = q.1.length := by rw [crV_len, nestQ_eq hk hq]
 have hfl : ((crV g part).map not).length ≤ 1000000 := by first | omega | (rw [List.length_map]; omega)
 refine Fn.of_code Tryz.func22 rfl rfl HB.nil rfl rfl HB.nil.data rfl (one_num rfl) ?_
 refine .seq <| .region <| .cons (St1.boxP rfl rfl rfl rfl rfl rfl) <| .cons (.asg rfl rfl) <| .nil <| ks_n <| .seq <| .region <| .cons (.lN 2 rfl rfl rfl) <| .cons (.cP [.tmp 11] rfl rfl rfl rfl (trace_fn hs hV) rfl) ?_
 refine .cons (.mv rfl rfl) <| .cons (.ex rfl rfl rfl) <| .cons (.ex rfl rfl rfl) <| .cons (.asg rfl rfl) <| .cons (.asg rfl rfl) <| .nil <| ks_n <| .seq <| .seq <| .region <| .cons (.mv rfl rfl) <| .cons (.nt rfl rfl) <| .cons (.mv rfl rfl) ?_
 refine AOps.cases 17 _ rfl (fun g17 => ?_) (fun g17 => ?_)
 ·try simp only [zs1, zs2, zs3, zs4, zs5, zs6, zs7] at g17
  cases g17
 ·try simp only [zs1, zs2, zs3, zs4, zs5, zs6, zs7] at g17
  refine .cons (.gT rfl rfl rfl (.lN 2 rfl rfl rfl)) <| .cons (.gT rfl rfl rfl (.mv rfl rfl)) <| .cons (.gT rfl rfl rfl (.cP [.tmp 18, .tmp 19] rfl rfl rfl rfl (isPart_fn (by omega) part) rfl)) ?_
  refine .cons (.gT rfl rfl rfl (.nt rfl rfl)) <| .cons (.pF rfl rfl rfl) <| .nil <| ks_n ?_
  refine ACode.condT rfl (fun h22 => ?_) (fun h22 => ?_)
  ·try simp only [zs1, zs2, zs3, zs4, zs5, zs6, zs7] at h22
   simp_all
  ·try simp only [zs1, zs2, zs3, zs4, zs5, zs6, zs7] at h22
   refine .skip <| ks_n <| .seq <| .region <| .cons (.mv rfl rfl) <| .cons (.mv rfl rfl) <| .cons (.cO [.tmp 23, .tmp 24] [(100, 125)] rfl rfl rfl rfl (carried_own hS hL hk hq) rfl trivial flatS.nil (flatS.nil.cons rfl) HB.nil.data outS_one) ?_
   refine .cons (.asg rfl rfl) <| .nil <| ks_n <| .seq <| .seq <| .region <| .cons (.mv rfl rfl) <| .cons (.lB 4 1 1 rfl rfl rfl rfl) <| .cons (.mv rfl rfl) <| .nil <| ks_n <| .block ?_
   refine .loopK (fun m σ => (∃ i : Nat, m = q.1.length - i ∧ (i ≤ q.1.length) ∧ σ = [(.t 26, .v (.o (.c (.own 110 1 (q.1.length))))), (.t 27, .v (.o (nat1 (q.1.length : Nat)))), (.t 28, .v (.o (nat1 (i : Nat)))), (.t 7, .v (.o (.c (.own 110 1 (q.1.length))))), (.b 110, .b 4 1 (dR ((((crV g part).map not).take i ++ (crV g part).drop i).map rB))), (.u 110, .u)])) [(110, 125)] ⟨0, rfl, by omega, rfl⟩ ⟨ks rfl (.c .ow), ks rfl .dt, ks rfl .dt, ks rfl (.c .ow), kb 125 rfl (.dt rfl (by first | rfl | (rw [← half_next hb1]; exact dR_setB _ _ _ _))), trivial⟩ ?_
   rintro m σ ⟨i, hm0, hi, rfl⟩
   refine .seq <| .region <| .cons (.ls rfl rfl rfl) <| .nil <| ks_n <| .seq ?_
   refine .cD rfl (fun h29 => ?_) (fun h29 => ?_)
   ·skip
    obtain ⟨b, hb1⟩ : ∃ x_, (crV g part)[i]? = some x_ := ⟨_, List.getElem?_eq_getElem (by omega)⟩
    refine .skip <| ks_n <| .seq <| .block <| .seq <| .region <| .cons (.mv rfl rfl) <| .cons (.xB 4 1 1 (i := i) rfl rfl rfl rfl rfl rfl (by omega)) ?_
    refine .cons (.b1 1 rfl rfl rfl rfl (dR_at (map_at (half_at hb1))) rfl) <| .cons (.asg rfl rfl) <| .cons (.asg rfl rfl) <| .nil <| ks_n <| .region <| .cons (.mv rfl rfl) <| .cons (.mv rfl rfl) <| .cons (.mv rfl rfl) <| .cons (.nt rfl rfl) <| .cons (.xB 4 1 1 (i := i) rfl rfl rfl rfl rfl rfl (by omega)) ?_
    refine .cons (.sT 1 false rfl rfl rfl rfl (dR_at (map_at (half_at hb1))) rfl rfl) <| .nil <| kb_n <| ks_n <| .region <| .cons (.pl rfl rfl rfl) <| .cons (.mv rfl rfl) <| .nil ?_
    refine kl_k [(110, 110)] ⟨i + 1, rfl, by omega, rfl⟩ ⟨ks rfl (.c .ow), ks rfl .dt, ks rfl .dt, ks rfl (.c .ow), kb 110 rfl (.dt rfl (by first | rfl | (rw [← half_next hb1]; exact dR_setB _ _ _ _))), trivial⟩
   ·skip
    obtain rfl : i = q.1.length := by omega
    have hall : ((crV g part).map not).take q.1.length ++ (crV g part).drop q.1.length = (crV g part).map not := by rw [List.take_of_length_le (by rw [List.length_map]; omega), List.drop_of_length_le (by omega), List.append_nil]
    refine .exit <| ks_e <| kl_e <| kb_hit <| ks_n <| .seq ?_
    refine .keep [(.t 7, .v (.o (vD (dBs ((crV g part).map not)))))] [] ⟨ks rfl (.c (.fz rfl (by rw [hall]) (by rw [List.length_map, List.length_map, hcl]) (by omega))), trivial⟩ ?_
    refine .region <| .cons (.mv rfl rfl) <| .cons (.cO [.tmp 39] [(100, 140)] rfl rfl rfl rfl (chosen_own _ hfl hz) rfl trivial flatS.nil (flatS.nil.cons rfl) HB.nil.data outS_one) ?_
    refine .cons (.asg rfl rfl) <| .nil <| ks_n <| .ret ?_
    refine kf_wret [(.t 4, .v (.o (.c (.own 100 1 ((flagV ((crV g part).map not)).length))))), (.b 100, .b 3 1 (dR ((flagV ((crV g part).map not)).map rI))), (.u 100, .u)] (Wk.keep [(100, 140)] rfl rfl ⟨ks rfl (.c (.ow rfl)), kb 140 rfl (.dt rfl rfl), trivial⟩) rfl ?_ (one_box rfl)
    rfl
theorem pl_ownC {g : Prg} (hs : szG g ≤ 1073741824) (part : Int) : OwnC 22 [ad (rG g), nat1 part] (prl g part) := by
  cases hV : prgV g with
  | false => rw [prl_no hV]; exact (pl_bad hs part hV).nilC
  | true =>
    cases hp : inB part 0 ((g.2.length : Nat) - 1) with
    | false => rw [prl_out hp]; exact (pl_out hs part hV hp).nilC
    | true =>
      rw [prl_yes hV hp]
      by_cases hz : flagV ((crV g part).map not) = []
      · rw [hz]; exact (pl_nil hs part hV hp hz).nilC
      · exact (pl_own hs part hV hp hz).ownC
theorem l6Minus_fn {y x : List Int} (hl : y.length = x.length) (h4 : y.length ≤ 4) (hyb : ∀ a ∈ y, -9999 ≤ a ∧ a ≤ 9999) (hxb : ∀ a ∈ x, -9999 ≤ a ∧ a ≤ 9999) : Fn Tryz.prog 131 [] [vD (dIs y), vD (dIs x)] (.o (vD (dIs (subL y x)))) [] := by
 refine Fn.code0 Tryz.func131 rfl rfl rfl rfl ?_
 refine .seq <| .region <| .cons (.asg rfl rfl) <| .nil <| ks_n <| .seq <| .region <| .cons (St1.lit0 (k' := 107) (e := 3) (sz := 1) (b := true) rfl rfl rfl rfl (by kernel_rfl) rfl rfl) ?_
 refine .cons (.asg rfl rfl) <| .nil <| ks_n <| .seq <| .seq <| .region <| .cons (.asg rfl rfl) <| .nil <| ks_n <| .block ?_
 refine .loopK (fun m σ => (∃ k : Nat, m = y.length - k ∧ (k ≤ y.length) ∧ σ = [(.t 0, .v (.o (vD (dIs y)))), (.t 1, .v (.o (vD (dIs x)))), (.t 5, .v (.o (.c (.own 110 1 (k))))), (.t 6, .v (.o (nat1 (k : Nat)))), (.b 110, .b 3 1 (dR (((subL y x).take k).map rI))), (.u 110, .u)])) [(110, 107)] ⟨0, rfl, by omega, rfl⟩ ⟨ks rfl .dt, ks rfl .dt, ks rfl (.c .ow), ks rfl .dt, kb 107 rfl (.dt rfl (by first | rfl | (rw [hsn]; simp [dR, rI, dI]; done))), trivial⟩ ?_
 rintro m σ ⟨k, hm0, hk, rfl⟩
 refine .seq <| .seq <| .region <| .cons (.mv rfl rfl) <| .cons (.mv rfl rfl) <| .cons (.ln 3 1 8 rfl rfl rfl) <| .cons (.ls rfl rfl rfl) <| .nil <| ks_n ?_
 refine .cD rfl (fun h11 => ?_) (fun h11 => ?_)
 ·skip
  obtain ⟨u, hu1⟩ : ∃ u, y[k]? = some u := ⟨_, List.getElem?_eq_getElem (by omega)⟩
  obtain ⟨v, hv1⟩ : ∃ v, x[k]? = some v := ⟨_, List.getElem?_eq_getElem (by omega)⟩
  have hub := hyb u (List.mem_of_getElem? hu1)
  have hvb := hxb v (List.mem_of_getElem? hv1)
  have hsn := subL_take hu1 hv1
  have hsl : ((subL y x).take k).length = k := by rw [List.length_take, subL_len hl]; omega
  refine .skip <| ks_n <| .seq <| .block ?_
  refine ACode.drawK (by kernel_rfl) (by kernel_rfl) ?_
  refine .cons (.mv rfl rfl) <| .cons (.mv rfl rfl) <| .cons (.mv rfl rfl) <| .cons (.xL 3 1 8 (i := k) rfl rfl rfl rfl rfl (map_at hu1)) ?_
  refine .cons (.l1 1 rfl rfl) <| .cons (.mv rfl rfl) <| .cons (.mv rfl rfl) <| .cons (.xL 3 1 8 (i := k) rfl rfl rfl rfl rfl (map_at hv1)) ?_
  refine .cons (.l1 1 rfl rfl) <| .cons (.sb rfl rfl rfl (by omega)) ?_
  refine .cons (.li 3 0 0 [.tmp 23] rfl rfl rfl rfl rfl rfl) <| .cons (St1.appB (k' := 125) (e := 3) (sz := 0) (by' := 8) rfl rfl rfl rfl rfl (by kernel_rfl) rfl rfl rfl rfl (by rw [dR_len, List.length_map]; exact hsl) (by simp [dR]; omega) rfl rfl rfl) ?_
  refine .cons (.asg rfl rfl) ?_
  refine .nil ⟨by kernel_rfl, ?_⟩
  refine kb_n <| ks_n <| .region <| .cons (.mv rfl rfl) <| .cons (.pl rfl rfl rfl) <| .cons (.asg rfl rfl) <| .nil ?_
  refine kl_k [(110, 125)] ⟨k + 1, rfl, by omega, rfl⟩ ⟨ks rfl .dt, ks rfl .dt, ks rfl (.c .ow), ks rfl .dt, kb 125 rfl (.dt rfl (by first | rfl | (rw [hsn]; simp [dR, rI, dI]; done))), trivial⟩
 ·skip
  have hse := subL_end (k := k) hl (by omega)
  obtain rfl : k = y.length := by omega
  refine .exit <| ks_e <| kl_e <| kb_hit <| ks_n <| .seq <| .region <| .cons (.mv rfl rfl) <| .cons (.asg rfl rfl) <| .nil <| ks_n <| .ret ?_
  refine kf_wret [(.t 4, .v (.o (vD (dIs (subL y x)))))] (Wk.keep [] rfl rfl ⟨ks rfl (.c (.fz rfl (by rw [hse]) (by rw [List.length_map, subL_len hl]) (by omega))), trivial⟩) rfl ?_ nobox
  rfl

theorem l6Add_fn (l : List (List Int)) (d : List Int) (hl : l.length ≤ 1000000) : Fn Tryz.prog 130 [] [vD (dPs l), vD (dIs d)] (.o (vD (dPs (addS l d)))) [] := by
 refine Fn.code0 Tryz.func130 rfl rfl rfl rfl ?_
 refine .seq <| .region <| .cons (.asg rfl rfl) <| .nil <| ks_n <| .seq <| .region <| .cons (St1.lit0 (k' := 108) (e := 35) (sz := 1) (b := true) rfl rfl rfl rfl (by kernel_rfl) rfl rfl) ?_
 refine .cons (.asg rfl rfl) <| .nil <| ks_n <| .seq <| .region <| .cons (.asg rfl rfl) <| .nil <| ks_n <| .seq <| .seq <| .region <| .cons (.asg rfl rfl) <| .nil <| ks_n <| .block ?_
 refine .loopK (fun m σ => (∃ (i : Nat) (o : Pts), m = l.length - i ∧ (i ≤ l.length) ∧ (addN l d i = o) ∧ (o.length ≤ 2 * i) ∧ (∀ j x, j < i → l[j]? = some x → ¬ x = d) ∧ σ = [(.t 0, .v (.o (vD (dPs l)))), (.t 1, .v (.o (vD (dIs d)))), (.t 5, .v (.o (.c (.own 110 1 (o.length))))), (.t 6, .v (.o (bo1 (addB l d i)))), (.t 7, .v (.o (nat1 (i : Nat)))), (.b 110, .b 35 1 (dR ((o).map rIs))), (.u 110, .u)])) [(110, 108)] ⟨0, [], rfl, by omega, rfl, by simp, fun j x hj _ => absurd hj (by omega), rfl⟩ ⟨ks rfl .dt, ks rfl .dt, ks rfl (.c .ow), ks rfl (.dt (vB (by first | rfl | (rw [addB_next hx1]; simp_all; done)))), ks rfl .dt, kb 108 rfl (.dt rfl (by first | rfl | (simp [dR, rIs]; done) | (simp [dR, rIs]; rfl))), trivial⟩ ?_
 rintro m σ ⟨i, o, hm0, hi, hE, ho, hF, rfl⟩
 refine .seq <| .seq <| .region <| .cons (.mv rfl rfl) <| .cons (.mv rfl rfl) <| .cons (.ln 35 1 24 rfl rfl rfl) <| .cons (.ls rfl rfl rfl) <| .nil <| ks_n ?_
 refine .cD rfl (fun h12 => ?_) (fun h12 => ?_)
 ·skip
  obtain ⟨x, hx1⟩ : ∃ x_, l[i]? = some x_ := ⟨_, List.getElem?_eq_getElem (by omega)⟩
  refine .skip <| ks_n <| .seq <| .block <| .seq <| .seq <| .region <| .cons (.mv rfl rfl) <| .cons (.mv rfl rfl) <| .cons (.xL 35 1 24 (i := i) rfl rfl rfl rfl rfl (map_at hx1)) ?_
  refine .cons (.l1 1 rfl rfl) <| .cons (.mv rfl rfl) <| .cons (.cP [.tmp 18, .tmp 19] rfl rfl rfl rfl (l1Ints_fn _ _) rfl) ?_
  refine .nil <| ks_n ?_
  refine ACode.condT rfl (fun h20 => ?_) (fun h20 => ?_)
  ·try simp only [zs1, zs2, zs3, zs4, zs5, zs6, zs7] at h20
   have heq : x = d := by first | assumption | simp_all
   have hin := addS_in hx1 heq
   refine .seq <| .region <| .cons (.mv rfl rfl) <| .cons (.asg rfl rfl) <| .nil <| ks_n <| .ret <| ks_r <| kb_r <| ks_r <| kl_r <| kb_r <| ks_r ?_
   refine kf_wret [(.t 4, .v (.o (vD (dPs (addS l d)))))] (Wk.keep [] rfl rfl ⟨ks rfl (.dt (by rw [hin])), trivial⟩) rfl ?_ nobox
   rfl
  ·try simp only [zs1, zs2, zs3, zs4, zs5, zs6, zs7] at h20
   have hne : ¬ x = d := by first | assumption | simp_all
   refine .skip <| ks_n <| .seq <| .seq <| .region <| .cons (.mv rfl rfl) <| .cons (.nt rfl rfl) <| .cons (.mv rfl rfl) ?_
   refine AOps.cases 24 _ rfl (fun g24 => ?_) (fun g24 => ?_)
   ·try simp only [zs1, zs2, zs3, zs4, zs5, zs6, zs7] at g24
    have hb0 : addB l d i = false := by first | assumption | simp_all
    refine .cons (.gT rfl rfl rfl (.mv rfl rfl)) <| .cons (.gT rfl rfl rfl (.mv rfl rfl)) <| .cons (.gT rfl rfl rfl (.mv rfl rfl)) <| .cons (.gT rfl rfl rfl (.xL 35 1 24 (i := i) rfl rfl rfl rfl rfl (map_at hx1))) ?_
    refine .cons (.gT rfl rfl rfl (.l1 1 rfl rfl)) <| .cons (.gT rfl rfl rfl (.cP [.tmp 25, .tmp 29] rfl rfl rfl rfl (specLex_fn _ _) rfl)) ?_
    refine .cons (.pT rfl rfl rfl) <| .nil <| ks_n ?_
    refine ACode.condT rfl (fun h31 => ?_) (fun h31 => ?_)
    ·try simp only [zs1, zs2, zs3, zs4, zs5, zs6, zs7] at h31
     have hlx : lexB d x = true := by first | assumption | simp_all
     refine .seq <| .region <| .cons (.mv rfl rfl) <| .cons (.mv rfl rfl) <| .cons (.li 35 0 0 [.tmp 33] rfl rfl rfl rfl rfl rfl) <| .cons (St1.appB (k' := 135) (e := 35) (sz := 0) (by' := 24) rfl rfl rfl rfl rfl (by kernel_rfl) rfl rfl rfl rfl (by first | (simp [dR]; done) | (simp [dR]; omega)) (by first | (simp [dR]; done) | (simp [dR]; omega)) rfl rfl rfl) ?_
     refine .cons (.asg rfl rfl) <| .nil <| ks_n <| .region <| .cons (.asg rfl rfl) <| .nil <| ks_n <| .region <| .cons (.mv rfl rfl) <| .cons (.mv rfl rfl) <| .cons (.mv rfl rfl) <| .cons (.xL 35 1 24 (i := i) rfl rfl rfl rfl rfl (map_at hx1)) ?_
     refine .cons (.l1 1 rfl rfl) <| .cons (.li 35 0 0 [.tmp 40] rfl rfl rfl rfl rfl rfl) <| .cons (St1.appB (k' := 142) (e := 35) (sz := 0) (by' := 24) rfl rfl rfl rfl rfl (by kernel_rfl) rfl rfl rfl rfl (by first | (simp [dR]; done) | (simp [dR]; omega)) (by first | (simp [dR]; done) | (simp [dR]; omega)) rfl rfl rfl) ?_
     refine .cons (.asg rfl rfl) <| .nil <| kb_n <| ks_n <| .region <| .cons (.mv rfl rfl) <| .cons (.pl rfl rfl rfl) <| .cons (.asg rfl rfl) <| .nil ?_
     refine kl_k [(110, 142)] ⟨i + 1, o ++ [d] ++ [x], rfl, by omega, by rw [addN_new hx1 hb0 hlx, hE], by simp; omega, fun j y hj h => (Nat.lt_succ_iff_lt_or_eq.1 hj).elim (fun h2 => hF j y h2 h) (fun h2 => by subst h2; rw [hx1] at h; cases h; exact hne), rfl⟩ ⟨ks rfl .dt, ks rfl .dt, ks rfl (.c .ow), ks rfl (.dt (vB (by first | rfl | (rw [addB_next hx1]; simp_all; done)))), ks rfl .dt, kb 142 rfl (.dt rfl (by first | rfl | (simp [dR, rIs]; done) | (simp [dR, rIs]; rfl))), trivial⟩
    ·try simp only [zs1, zs2, zs3, zs4, zs5, zs6, zs7] at h31
     have hlx : lexB d x = false := by first | assumption | simp_all
     refine .skip <| ks_n <| .region <| .cons (.mv rfl rfl) <| .cons (.mv rfl rfl) <| .cons (.mv rfl rfl) <| .cons (.xL 35 1 24 (i := i) rfl rfl rfl rfl rfl (map_at hx1)) ?_
     refine .cons (.l1 1 rfl rfl) <| .cons (.li 35 0 0 [.tmp 40] rfl rfl rfl rfl rfl rfl) <| .cons (St1.appB (k' := 142) (e := 35) (sz := 0) (by' := 24) rfl rfl rfl rfl rfl (by kernel_rfl) rfl rfl rfl rfl (by first | (simp [dR]; done) | (simp [dR]; omega)) (by first | (simp [dR]; done) | (simp [dR]; omega)) rfl rfl rfl) ?_
     refine .cons (.asg rfl rfl) <| .nil <| kb_n <| ks_n <| .region <| .cons (.mv rfl rfl) <| .cons (.pl rfl rfl rfl) <| .cons (.asg rfl rfl) <| .nil ?_
     refine kl_k [(110, 142)] ⟨i + 1, o ++ [x], rfl, by omega, by rw [addN_old hx1 (by first | exact .inl hbt | exact .inr hlx), hE], by simp; omega, fun j y hj h => (Nat.lt_succ_iff_lt_or_eq.1 hj).elim (fun h2 => hF j y h2 h) (fun h2 => by subst h2; rw [hx1] at h; cases h; exact hne), rfl⟩ ⟨ks rfl .dt, ks rfl .dt, ks rfl (.c .ow), ks rfl (.dt (vB (by first | rfl | (rw [addB_next hx1]; simp_all; done)))), ks rfl .dt, kb 142 rfl (.dt rfl (by first | rfl | (simp [dR, rIs]; done) | (simp [dR, rIs]; rfl))), trivial⟩
   ·try simp only [zs1, zs2, zs3, zs4, zs5, zs6, zs7] at g24
    have hbt : addB l d i = true := by first | assumption | simp_all
    refine .cons (.gF rfl rfl rfl) <| .cons (.gF rfl rfl rfl) <| .cons (.gF rfl rfl rfl) <| .cons (.gF rfl rfl rfl) <| .cons (.gF rfl rfl rfl) <| .cons (.gF rfl rfl rfl) <| .cons (.pF rfl rfl rfl) <| .nil <| ks_n ?_
    refine ACode.condT rfl (fun h => by first | (cases h; done) | (simp [*] at h; done) | (exfalso; simp_all; done)) (fun _ => ?_)
    refine .skip <| ks_n <| .region <| .cons (.mv rfl rfl) <| .cons (.mv rfl rfl) <| .cons (.mv rfl rfl) <| .cons (.xL 35 1 24 (i := i) rfl rfl rfl rfl rfl (map_at hx1)) ?_
    refine .cons (.l1 1 rfl rfl) <| .cons (.li 35 0 0 [.tmp 40] rfl rfl rfl rfl rfl rfl) <| .cons (St1.appB (k' := 142) (e := 35) (sz := 0) (by' := 24) rfl rfl rfl rfl rfl (by kernel_rfl) rfl rfl rfl rfl (by first | (simp [dR]; done) | (simp [dR]; omega)) (by first | (simp [dR]; done) | (simp [dR]; omega)) rfl rfl rfl) ?_
    refine .cons (.asg rfl rfl) <| .nil <| kb_n <| ks_n <| .region <| .cons (.mv rfl rfl) <| .cons (.pl rfl rfl rfl) <| .cons (.asg rfl rfl) <| .nil ?_
    refine kl_k [(110, 142)] ⟨i + 1, o ++ [x], rfl, by omega, by rw [addN_old hx1 (by first | exact .inl hbt | exact .inr hlx), hE], by simp; omega, fun j y hj h => (Nat.lt_succ_iff_lt_or_eq.1 hj).elim (fun h2 => hF j y h2 h) (fun h2 => by subst h2; rw [hx1] at h; cases h; exact hne), rfl⟩ ⟨ks rfl .dt, ks rfl .dt, ks rfl (.c .ow), ks rfl (.dt (vB (by first | rfl | (rw [addB_next hx1]; simp_all; done)))), ks rfl .dt, kb 142 rfl (.dt rfl (by first | rfl | (simp [dR, rIs]; done) | (simp [dR, rIs]; rfl))), trivial⟩
 ·skip
  obtain rfl : i = l.length := by omega
  have hend := addN_end hF
  refine .exit <| ks_e <| kl_e <| kb_hit <| ks_n <| .seq <| .seq <| .region <| .cons (.mv rfl rfl) <| .cons (.nt rfl rfl) <| .nil <| ks_n ?_
  refine ACode.condT rfl (fun h44 => ?_) (fun h44 => ?_)
  ·try simp only [zs1, zs2, zs3, zs4, zs5, zs6, zs7] at h44
   have hb0 : addB l d l.length = false := by first | assumption | simp_all
   rw [if_neg (by rw [hb0]; simp), hE] at hend
   refine .region <| .cons (.mv rfl rfl) <| .cons (.mv rfl rfl) <| .cons (.li 35 0 0 [.tmp 46] rfl rfl rfl rfl rfl rfl) <| .cons (St1.appB (k' := 148) (e := 35) (sz := 0) (by' := 24) rfl rfl rfl rfl rfl (by kernel_rfl) rfl rfl rfl rfl (by first | (simp [dR]; done) | (simp [dR]; omega)) (by first | (simp [dR]; done) | (simp [dR]; omega)) rfl rfl rfl) ?_
   refine .cons (.asg rfl rfl) <| .nil <| ks_n <| .seq <| .region <| .cons (.mv rfl rfl) <| .cons (.asg rfl rfl) <| .nil <| ks_n <| .ret ?_
   refine kf_wret [(.t 4, .v (.o (vD (dPs (addS l d)))))] (Wk.keep [] rfl rfl ⟨ks rfl (.c (.fz rfl (by first | (rw [hend]; done) | (rw [hend]; simp [dR, rIs]; done) | (rw [hend]; simp [dR, rIs]; rfl)) (by first | (rw [List.length_map, hend]; done) | (rw [List.length_map, hend]; simp)) (by first | omega | (simp; omega)))), trivial⟩) rfl ?_ nobox
   rfl
  ·try simp only [zs1, zs2, zs3, zs4, zs5, zs6, zs7] at h44
   have hbt : addB l d l.length = true := by first | assumption | simp_all
   rw [if_pos hbt, hE] at hend
   refine .skip <| ks_n <| .seq <| .region <| .cons (.mv rfl rfl) <| .cons (.asg rfl rfl) <| .nil <| ks_n <| .ret ?_
   refine kf_wret [(.t 4, .v (.o (vD (dPs (addS l d)))))] (Wk.keep [] rfl rfl ⟨ks rfl (.c (.fz rfl (by first | (rw [hend]; done) | (rw [hend]; simp [dR, rIs]; done) | (rw [hend]; simp [dR, rIs]; rfl)) (by first | (rw [List.length_map, hend]; done) | (rw [List.length_map, hend]; simp)) (by first | omega | (simp; omega)))), trivial⟩) rfl ?_ nobox
   rfl

theorem l6Dist_fn {g : Prg} (hs : szG g ≤ 1073741824) (hS : prgS g = true) (hL : (insG 0 g.2).length ≤ 120) (part : Int) : Fn Tryz.prog 82 [] [ad (rG g), nat1 part] (.o (vD (dPs (dstS g part (depsG g).length)))) [] := by
 have hdl := depsN_len hL (n := (insG 0 g.2).length)
 have hdl2 : (depsG g).length ≤ 14400 := by unfold depsG; omega
 refine Fn.code0 Tryz.func82 rfl rfl rfl rfl ?_
 refine .seq <| .region <| .cons (St1.boxP rfl rfl rfl rfl rfl rfl) <| .cons (.asg rfl rfl) <| .nil <| ks_n <| .seq <| .region <| .cons (St1.lit0D (e := 35) (sz := 1) (b := true) rfl rfl rfl rfl (by kernel_rfl)) ?_
 refine .cons (.asg rfl rfl) <| .nil <| ks_n <| .seq <| .region <| .cons (.lN 2 rfl rfl rfl) <| .cons (.cP [.tmp 12] rfl rfl rfl rfl (l4Instances_fn hS) rfl) ?_
 refine .cons (.asg rfl rfl) <| .nil <| ks_n <| .seq <| .region <| .cons (.lN 2 rfl rfl rfl) <| .cons (.cP [.tmp 14] rfl rfl rfl rfl (l6Deps_fn hs hS hL) rfl) ?_
 refine .cons (.asg rfl rfl) <| .nil <| ks_n <| .seq <| .seq <| .region <| .cons (.asg rfl rfl) <| .nil <| ks_n <| .block ?_
 refine .loopK (fun m σ => (∃ j : Nat, m = (depsG g).length - j ∧ (j ≤ (depsG g).length) ∧ σ = [(.t 1, .v (.o (nat1 part))), (.t 2, .v (.o (.c (.ptr (rG g))))), (.t 5, .v (.o (vD (dPs (dstS g part j))))), (.t 6, .v (.o (vD (dNs (insG 0 g.2))))), (.t 7, .v (.o (vD (dDs (depsG g))))), (.t 8, .v (.o (nat1 (j : Nat))))])) [] ⟨0, rfl, by omega, rfl⟩ ⟨ks rfl .dt, ks rfl .dt, ks rfl (.dt (by first | rfl | (rw [dstS_none hd1 hdn]; done) | (rw [dstS_some hd1 hds]; done))), ks rfl .dt, ks rfl .dt, ks rfl .dt, trivial⟩ ?_
 rintro m σ ⟨j, hm0, hj, rfl⟩
 have hsl := dstS_len (g := g) (part := part) j
 refine .seq <| .seq <| .region <| .cons (.mv rfl rfl) <| .cons (.mv rfl rfl) <| .cons (.ln 159 3 24 rfl rfl rfl) <| .cons (.ls rfl rfl rfl) <| .nil <| ks_n ?_
 refine .cD rfl (fun h19 => ?_) (fun h19 => ?_)
 ·skip
  obtain ⟨d, hd1⟩ : ∃ x_, (depsG g)[j]? = some x_ := ⟨_, List.getElem?_eq_getElem (by omega)⟩
  obtain ⟨a, b, hde, hab, hbl, _⟩ := deps_mem (List.mem_of_getElem? hd1)
  obtain ⟨x, hx1⟩ : ∃ x, (insG 0 g.2)[a]? = some x := ⟨_, List.getElem?_eq_getElem (by omega)⟩
  obtain ⟨y, hy1⟩ : ∃ y, (insG 0 g.2)[b]? = some y := ⟨_, List.getElem?_eq_getElem hbl⟩
  obtain ⟨kx, cx, qx, hIx⟩ := ins_at hS (List.mem_of_getElem? hx1)
  obtain ⟨ky, cy, qy, hIy⟩ := ins_at hS (List.mem_of_getElem? hy1)
  have hda : d.1 = (a : Int) := by rw [hde]
  have hdb : d.2.1 = (b : Int) := by rw [hde]
  have hdd := dstD_eq (g := g) (part := part) hda hdb hx1 hy1
  have hyl := isPt_len hIy.ip
  refine .skip <| ks_n <| .seq <| .block <| .seq <| .region <| .cons (.mv rfl rfl) <| .cons (.mv rfl rfl) <| .cons (.mv rfl rfl) <| .cons (.xL 159 3 24 (i := j) rfl rfl rfl rfl rfl (map_at hd1)) ?_
  refine .cons (.fP 0 0 false rfl rfl) <| .cons (.l1 1 rfl rfl) <| .cons (.xL 86 3 40 (i := a) rfl rfl rfl rfl hda (map_at hx1)) ?_
  refine .cons (.lN 3 rfl rfl rfl) <| .cons (.al 109 [.int .i64 0, .int .i64 0, .slice none 0 0] rfl rfl rfl) <| .cons (.sT 3 true rfl rfl rfl rfl rfl rfl rfl) <| .nil <| ks_n <| .seq <| .region <| .cons (.mv rfl rfl) <| .cons (.mv rfl rfl) <| .cons (.mv rfl rfl) <| .cons (.xL 159 3 24 (i := j) rfl rfl rfl rfl rfl (map_at hd1)) ?_
  refine .cons (.fP 1 0 false rfl rfl) <| .cons (.l1 1 rfl rfl) <| .cons (.xL 86 3 40 (i := b) rfl rfl rfl rfl hdb (map_at hy1)) ?_
  refine .cons (.lN 3 rfl rfl rfl) <| .cons (.al 110 [.int .i64 0, .int .i64 0, .slice none 0 0] rfl rfl rfl) <| .cons (.sT 3 true rfl rfl rfl rfl rfl rfl rfl) <| .nil <| ks_n <| .seq <| .region <| .cons (.fB 0 0 false rfl rfl rfl) <| .cons (.b1 1 rfl rfl rfl rfl rfl rfl) <| .cons (.mv rfl rfl) <| .cons (.eq rfl rfl rfl) <| .cons (.mv rfl rfl) ?_
  refine .cD 42 rfl (fun g42 => ?_) (fun g42 => ?_)
  ·skip
   have hxp : x.1 = part := by omega
   refine .cons (.gT rfl rfl rfl (.fB 0 0 false rfl rfl rfl)) <| .cons (.gT rfl rfl rfl (.b1 1 rfl rfl rfl rfl rfl rfl)) <| .cons (.gT rfl rfl rfl (.mv rfl rfl)) <| .cons (.gT rfl rfl rfl (.eq rfl rfl rfl)) <| .cons (.pT rfl rfl rfl) <| .nil <| ks_n ?_
   refine ACode.condT rfl (fun h47 => ?_) (fun h47 => ?_)
   ·try simp only [zs1, zs2, zs3, zs4, zs5, zs6, zs7] at h47
    have hyp : y.1 = part := by omega
    have hds : dstD g part d = some (subL y.2.2 x.2.2) := by rw [hdd, if_pos ⟨hxp, hyp⟩]
    have hlen := (ins_same hIx hIy (by omega)).symm
    refine .region <| .cons (.mv rfl rfl) <| .cons (.fB 2 0 false rfl rfl rfl) <| .cons (.b1 1 rfl rfl rfl rfl rfl rfl) <| .cons (.fB 2 0 false rfl rfl rfl) <| .cons (.b1 1 rfl rfl rfl rfl rfl rfl) <| .cons (.cP [.tmp 50, .tmp 52] rfl rfl rfl rfl (l6Minus_fn hlen hyl (fun a ha => by obtain ⟨i, hi⟩ := List.mem_iff_getElem?.1 ha; exact pt_at hIy.ip hi) (fun a ha => by obtain ⟨i, hi⟩ := List.mem_iff_getElem?.1 ha; exact pt_at hIx.ip hi)) rfl) ?_
    refine .cons (.cP [.tmp 48, .tmp 53] rfl rfl rfl rfl (l6Add_fn _ _ (by omega)) rfl) ?_
    refine .cons (.asg rfl rfl) <| .nil <| kb_n <| ks_n <| .region <| .cons (.mv rfl rfl) <| .cons (.pl rfl rfl rfl) <| .cons (.asg rfl rfl) <| .nil ?_
    refine kl_k [] ⟨j + 1, rfl, by omega, rfl⟩ ⟨ks rfl .dt, ks rfl .dt, ks rfl (.dt (by first | rfl | (rw [dstS_none hd1 hdn]; done) | (rw [dstS_some hd1 hds]; done))), ks rfl .dt, ks rfl .dt, ks rfl .dt, trivial⟩
   ·try simp only [zs1, zs2, zs3, zs4, zs5, zs6, zs7] at h47
    have hdn : dstD g part d = none := by rw [hdd, if_neg (by omega)]
    refine .skip <| kb_n <| ks_n <| .region <| .cons (.mv rfl rfl) <| .cons (.pl rfl rfl rfl) <| .cons (.asg rfl rfl) <| .nil ?_
    refine kl_k [] ⟨j + 1, rfl, by omega, rfl⟩ ⟨ks rfl .dt, ks rfl .dt, ks rfl (.dt (by first | rfl | (rw [dstS_none hd1 hdn]; done) | (rw [dstS_some hd1 hds]; done))), ks rfl .dt, ks rfl .dt, ks rfl .dt, trivial⟩
  ·skip
   have hdn : dstD g part d = none := by rw [hdd, if_neg (by omega)]
   refine .cons (.gF rfl rfl rfl) <| .cons (.gF rfl rfl rfl) <| .cons (.gF rfl rfl rfl) <| .cons (.gF rfl rfl rfl) <| .cons (.pF rfl rfl rfl) <| .nil <| ks_n ?_
   refine ACode.condT rfl (fun h => by first | (cases h; done) | (simp [*] at h; done) | (exfalso; simp_all; done)) (fun _ => ?_)
   refine .skip <| kb_n <| ks_n <| .region <| .cons (.mv rfl rfl) <| .cons (.pl rfl rfl rfl) <| .cons (.asg rfl rfl) <| .nil ?_
   refine kl_k [] ⟨j + 1, rfl, by omega, rfl⟩ ⟨ks rfl .dt, ks rfl .dt, ks rfl (.dt (by first | rfl | (rw [dstS_none hd1 hdn]; done) | (rw [dstS_some hd1 hds]; done))), ks rfl .dt, ks rfl .dt, ks rfl .dt, trivial⟩
 ·skip
  obtain rfl : j = (depsG g).length := by omega
  refine .exit <| ks_e <| kl_e <| kb_hit <| ks_n <| .seq <| .region <| .cons (.mv rfl rfl) <| .cons (.asg rfl rfl) <| .nil <| ks_n <| .ret ?_
  refine kf_ret rfl ?_ nobox
  rfl

theorem specDist_fn {g : Prg} (hs : szG g ≤ 1073741824) (part : Int) : Fn Tryz.prog 43 [] [ad (rG g), nat1 part] (.o (vD (dPs (if prgV g = true then dstS g part (depsG g).length else [])))) [] := by
 refine Fn.code0 Tryz.func43 rfl rfl rfl rfl ?_
 refine .seq <| .region <| .cons (St1.boxP rfl rfl rfl rfl rfl rfl) <| .cons (.asg rfl rfl) <| .nil <| ks_n <| .seq <| .seq <| .region <| .cons (.lN 2 rfl rfl rfl) <| .cons (.cP [.tmp 5] rfl rfl rfl rfl (specPV_fn hs) rfl) ?_
 refine .cons (.nt rfl rfl) <| .nil <| ks_n ?_
 refine ACode.condT rfl (fun h7 => ?_) (fun h7 => ?_)
 ·try simp only [zs1, zs2, zs3, zs4, zs5, zs6, zs7] at h7
  have hV : prgV g = false := by first | assumption | simp_all
  refine .seq <| .region <| .cons (St1.lit0D (e := 35) (sz := 1) (b := true) rfl rfl rfl rfl (by kernel_rfl)) ?_
  refine .cons (.asg rfl rfl) <| .nil <| ks_n <| .ret <| ks_r ?_
  refine kf_wret [(.t 4, .v (.o (vD (dPs (if prgV g = true then dstS g part (depsG g).length else [])))))] (Wk.keep [] rfl rfl ⟨ks rfl (.dt (by rw [if_neg (by rw [hV]; simp)]; rfl)), trivial⟩) rfl ?_ nobox
  rfl
 ·try simp only [zs1, zs2, zs3, zs4, zs5, zs6, zs7] at h7
  have hV : prgV g = true := by first | assumption | simp_all
  obtain ⟨hS, hN, hL⟩ := prgV_s hV
  refine .skip <| ks_n <| .seq <| .region <| .cons (.lN 2 rfl rfl rfl) <| .cons (.mv rfl rfl) <| .cons (.cP [.tmp 9, .tmp 10] rfl rfl rfl rfl (l6Dist_fn hs hS hL part) rfl) ?_
  refine .cons (.asg rfl rfl) <| .nil <| ks_n <| .ret ?_
  refine kf_wret [(.t 4, .v (.o (vD (dPs (if prgV g = true then dstS g part (depsG g).length else [])))))] (Wk.keep [] rfl rfl ⟨ks rfl (.dt (by rw [if_pos hV])), trivial⟩) rfl ?_ nobox
  rfl

theorem specCl_fn {g : Prg} (hs : szG g ≤ 1073741824) (part : Int) : Fn Tryz.prog 15 [] [ad (rG g), nat1 part] (.o (vD (dIs (crl g part)))) [] := by
  have hdl : (if prgV g = true then dstS g part (depsG g).length else []).length ≤ 14400 := by
    split
    · rename_i hV
      have h1 := depsN_len (prgV_s hV).2.2 (n := (insG 0 g.2).length)
      have h2 := dstS_len (g := g) (part := part) (depsG g).length
      have h3 : (depsG g).length ≤ 14400 := by have := (prgV_s hV).2.2; unfold depsG; omega
      omega
    · simp
  have hfin : flagV (carF 4 (if prgV g = true then dstS g part (depsG g).length else [])) = crl g part := by
    cases hV : prgV g with
    | false => rw [if_neg (by simp), crl_no hV]; exact flagV_none fun i => carF_nil
    | true => rw [if_pos rfl]; exact crl_ref hV fun d => mem_dstS (Nat.le_refl _)
  have hl4 : ∀ d ∈ (if prgV g = true then dstS g part (depsG g).length else []), d.length ≤ 4 := by
    intro d hd
    split at hd
    · rename_i hV
      obtain ⟨k, q, _, hq, h⟩ := dstG_mem (prgV_s hV).1 ((mem_dstS (Nat.le_refl _)).1 hd)
      have := prt_nest (prgV_s hV).1 hq
      omega
    · cases hd
  generalize hls : (if prgV g = true then dstS g part (depsG g).length else []) = ls at *
  refine Fn.code0 Tryz.func15 rfl rfl rfl rfl ?_
  refine .seq <| .region <| .cons (St1.boxP rfl rfl rfl rfl rfl rfl) <| .cons (.asg rfl rfl) <| .nil <| ks_n <| .seq <| .region <| .cons (.mk 109 4 1 1 [.bool false] (m := 4) rfl rfl rfl (by omega) rfl rfl) ?_
  refine .cons (.asg rfl rfl) <| .nil <| ks_n <| .seq <| .region <| .cons (.lN 2 rfl rfl rfl) <| .cons (.mv rfl rfl) <| .cons (.cP [.tmp 10, .tmp 11] rfl rfl rfl rfl ((hls ▸ specDist_fn hs part : Fn Tryz.prog 43 [] [ad (rG g), nat1 part] (.o (vD (dPs ls))) [])) rfl) ?_
  refine .cons (.asg rfl rfl) <| .nil <| ks_n <| .seq <| .seq <| .region <| .cons (.asg rfl rfl) <| .nil <| ks_n <| .block ?_
  refine .loopK (fun m σ => (∃ j : Nat, m = ls.length - j ∧ (j ≤ ls.length) ∧ σ = [(.t 5, .v (.o (.c (.own 110 1 (4))))), (.t 6, .v (.o (vD (dPs ls)))), (.t 7, .v (.o (nat1 (j : Nat)))), (.b 110, .b 4 1 (dR ((carF 4 (ls.take j)).map rB))), (.u 110, .u)])) [(110, 109)] ⟨0, rfl, by omega, rfl⟩ ⟨ks rfl (.c .ow), ks rfl .dt, ks rfl .dt, kb 109 rfl (.dt rfl (by first | exact dR_repB _ | rfl | (rw [hcn, carS, if_neg (by omega)]; done) | (rw [hcn, carS, if_pos (by omega)]; exact dR_setB _ _ _ _))), trivial⟩ ?_
  rintro m σ ⟨j, hm0, hj, rfl⟩
  refine .seq <| .seq <| .region <| .cons (.mv rfl rfl) <| .cons (.mv rfl rfl) <| .cons (.ln 35 1 24 rfl rfl rfl) <| .cons (.ls rfl rfl rfl) <| .nil <| ks_n ?_
  refine .cD rfl (fun h16 => ?_) (fun h16 => ?_)
  · skip
    obtain ⟨d, hd1⟩ : ∃ x_, ls[j]? = some x_ := ⟨_, List.getElem?_eq_getElem (by omega)⟩
    have hcb := carry_bd (d := d)
    have hd4 := hl4 d (List.mem_of_getElem? hd1)
    have hcn := carF_next (n := 4) hd1
    refine .skip <| ks_n <| .seq <| .block <| .seq <| .region <| .cons (.mv rfl rfl) <| .cons (.mv rfl rfl) <| .cons (.xL 35 1 24 (i := j) rfl rfl rfl rfl rfl (map_at hd1)) ?_
    refine .cons (.l1 1 rfl rfl) <| .cons (.cP [.tmp 22] rfl rfl rfl rfl (specCarry_fn d) rfl) ?_
    refine .cons (.asg rfl rfl) <| .nil <| ks_n <| .seq <| .region <| .cons (.mv rfl rfl) <| .cons (.ge rfl rfl rfl) <| .nil <| ks_n ?_
    refine .cD rfl (fun h25 => ?_) (fun h25 => ?_)
    · skip
      obtain ⟨f, hf1⟩ : ∃ f, (carF 4 (ls.take j))[(carry d).toNat]? = some f := ⟨_, List.getElem?_eq_getElem (by rw [carF_len]; omega)⟩
      refine .region <| .cons (.mv rfl rfl) <| .cons (.mv rfl rfl) <| .cons (.xB 4 1 1 (i := (carry d).toNat) rfl rfl rfl rfl rfl (by omega) (by omega)) ?_
      refine .cons (.sT 1 false rfl rfl rfl rfl (dR_at (map_at hf1)) rfl rfl) <| .nil <| kb_n <| ks_n <| .region <| .cons (.mv rfl rfl) <| .cons (.pl rfl rfl rfl) <| .cons (.asg rfl rfl) <| .nil ?_
      refine kl_k [(110, 110)] ⟨j + 1, rfl, by omega, rfl⟩ ⟨ks rfl (.c .ow), ks rfl .dt, ks rfl .dt, kb 110 rfl (.dt rfl (by first | exact dR_repB _ | rfl | (rw [hcn, carS, if_neg (by omega)]; done) | (rw [hcn, carS, if_pos (by omega)]; exact dR_setB _ _ _ _))), trivial⟩
    · skip
      refine .skip <| kb_n <| ks_n <| .region <| .cons (.mv rfl rfl) <| .cons (.pl rfl rfl rfl) <| .cons (.asg rfl rfl) <| .nil ?_
      refine kl_k [(110, 110)] ⟨j + 1, rfl, by omega, rfl⟩ ⟨ks rfl (.c .ow), ks rfl .dt, ks rfl .dt, kb 110 rfl (.dt rfl (by first | exact dR_repB _ | rfl | (rw [hcn, carS, if_neg (by omega)]; done) | (rw [hcn, carS, if_pos (by omega)]; exact dR_setB _ _ _ _))), trivial⟩
  · skip
    obtain rfl : j = ls.length := by omega
    refine .exit <| ks_e <| kl_e <| kb_hit <| ks_n <| .seq ?_
    refine .keep [(.t 5, .v (.o (vD (dBs (carF 4 ls)))))] [] ⟨ks rfl (.c (.fz rfl (by rw [List.take_length]) (by rw [List.length_map, carF_len]) (by omega))), trivial⟩ ?_
    refine .region <| .cons (.mv rfl rfl) <| .cons (.cP [.tmp 29] rfl rfl rfl rfl (l5Flagged_fn _ (by rw [carF_len]; omega)) rfl) ?_
    refine .cons (.asg rfl rfl) <| .nil <| ks_n <| .ret ?_
    refine kf_ret rfl ?_ nobox
    (rw [hfin]; rfl)

theorem l8Has_fn {g : Prg} (hs : szG g ≤ 1073741824) (part loop : Int) : Fn Tryz.prog 34 [] [ad (rG g), nat1 part, nat1 loop] (.o (bo1 (hasL g part loop))) [] := by
  refine Fn.code0 Tryz.func34 rfl rfl rfl rfl ?_
  refine .seq <| .region <| .cons (St1.boxP rfl rfl rfl rfl rfl rfl) <| .cons (.asg rfl rfl) <| .nil <| ks_n <| .seq <| .region <| .cons (.lN 2 rfl rfl rfl) <| .cons (.cP [.tmp 7] rfl rfl rfl rfl (specPV_fn hs) rfl) ?_
  refine .cons (.mv rfl rfl) ?_
  refine AOps.cases 9 _ rfl (fun g9 => ?_) (fun g9 => ?_)
  · try simp only [zs1, zs2, zs3, zs4, zs5, zs6, zs7] at g9
    have hV : prgV g = true := by first | assumption | simp_all
    have h4 := (prgS_iff.1 (prgV_s hV).1).2.1
    refine .cons (.gT rfl rfl rfl (.mv rfl rfl)) <| .cons (.gT rfl rfl rfl (.ge rfl rfl rfl)) <| .cons (.pT rfl rfl rfl) <| .cons (.mv rfl rfl) ?_
    refine AOps.cases 13 _ rfl (fun g13 => ?_) (fun g13 => ?_)
    · try simp only [zs1, zs2, zs3, zs4, zs5, zs6, zs7] at g13
      refine .cons (.gT rfl rfl rfl (.mv rfl rfl)) <| .cons (.gT rfl rfl rfl (.fP 1 0 false rfl rfl)) <| .cons (.gT rfl rfl rfl (.l1 1 rfl rfl)) <| .cons (.gT rfl rfl rfl (.ln 104 2 48 rfl rfl rfl)) <| .cons (.gT rfl rfl rfl (.ls rfl rfl rfl)) <| .cons (.pT rfl rfl rfl) <| .cons (.mv rfl rfl) ?_
      refine AOps.cases 20 _ rfl (fun g20 => ?_) (fun g20 => ?_)
      · try simp only [zs1, zs2, zs3, zs4, zs5, zs6, zs7] at g20
        have hin : inB part 0 ((g.2.length : Nat) - 1) = true := decide_eq_true (by omega)
        obtain ⟨k, q, hk, hq⟩ := part_at (part := part) (g := g) (by first | assumption | exact decide_eq_true (by omega))
        have hnq := nestQ_eq hk hq
        refine .cons (.gT rfl rfl rfl (.mv rfl rfl)) <| .cons (.gT rfl rfl rfl (.ge rfl rfl rfl)) <| .cons (.pT rfl rfl rfl) <| .cons (.mv rfl rfl) ?_
        refine AOps.cases 24 _ rfl (fun g24 => ?_) (fun g24 => ?_)
        · try simp only [zs1, zs2, zs3, zs4, zs5, zs6, zs7] at g24
          have hlq : inB loop 0 ((nestQ g part : Nat) - 1) = decide (loop < (q.1.length : Nat)) := by rw [hnq, inB]; congr 1; exact propext ⟨fun h => by omega, fun h => by omega⟩
          refine .cons (.gT rfl rfl rfl (.mv rfl rfl)) <| .cons (.gT rfl rfl rfl (.fP 1 0 false rfl rfl)) <| .cons (.gT rfl rfl rfl (.l1 1 rfl rfl)) <| .cons (.gT rfl rfl rfl (.mv rfl rfl)) <| .cons (.gT rfl rfl rfl (.xL 104 2 48 (i := k) rfl rfl rfl rfl hk (map_at hq))) ?_
          refine .cons (.gT rfl rfl rfl (.fP 0 0 false rfl rfl)) <| .cons (.gT rfl rfl rfl (.l1 1 rfl rfl)) <| .cons (.gT rfl rfl rfl (.ln 172 2 48 rfl rfl rfl)) <| .cons (.gT rfl rfl rfl (.ls rfl rfl rfl)) <| .cons (.pT rfl rfl rfl) <| .cons (.asg rfl rfl) <| .nil <| ks_n <| .ret ?_
          refine kf_ret rfl ?_ nobox
          exact leafB (by first | (rw [hasL, hV]; rfl) | (rw [hasL, hV, hout]; rfl) | (rw [hasL, hV, hin, hlf]; rfl) | (rw [hasL, hV, hin, hlq]; rfl))
        · try simp only [zs1, zs2, zs3, zs4, zs5, zs6, zs7] at g24
          have hlf : inB loop 0 ((nestQ g part : Nat) - 1) = false := decide_eq_false (by omega)
          refine .cons (.gF rfl rfl rfl) <| .cons (.gF rfl rfl rfl) <| .cons (.gF rfl rfl rfl) <| .cons (.gF rfl rfl rfl) <| .cons (.gF rfl rfl rfl) <| .cons (.gF rfl rfl rfl) <| .cons (.gF rfl rfl rfl) <| .cons (.gF rfl rfl rfl) <| .cons (.gF rfl rfl rfl) <| .cons (.pF rfl rfl rfl) <| .cons (.asg rfl rfl) <| .nil <| ks_n <| .ret ?_
          refine kf_ret rfl ?_ nobox
          exact leafB (by first | (rw [hasL, hV]; rfl) | (rw [hasL, hV, hout]; rfl) | (rw [hasL, hV, hin, hlf]; rfl) | (rw [hasL, hV, hin, hlq]; rfl))
      · try simp only [zs1, zs2, zs3, zs4, zs5, zs6, zs7] at g20
        have hout : inB part 0 ((g.2.length : Nat) - 1) = false := decide_eq_false (by omega)
        refine .cons (.gF rfl rfl rfl) <| .cons (.gF rfl rfl rfl) <| .cons (.pF rfl rfl rfl) <| .cons (.mv rfl rfl) <| .cons (.gF rfl rfl rfl) <| .cons (.gF rfl rfl rfl) <| .cons (.gF rfl rfl rfl) <| .cons (.gF rfl rfl rfl) <| .cons (.gF rfl rfl rfl) <| .cons (.gF rfl rfl rfl) <| .cons (.gF rfl rfl rfl) <| .cons (.gF rfl rfl rfl) <| .cons (.gF rfl rfl rfl) <| .cons (.pF rfl rfl rfl) <| .cons (.asg rfl rfl) <| .nil <| ks_n <| .ret ?_
        refine kf_ret rfl ?_ nobox
        exact leafB (by first | (rw [hasL, hV]; rfl) | (rw [hasL, hV, hout]; rfl) | (rw [hasL, hV, hin, hlf]; rfl) | (rw [hasL, hV, hin, hlq]; rfl))
    · try simp only [zs1, zs2, zs3, zs4, zs5, zs6, zs7] at g13
      have hout : inB part 0 ((g.2.length : Nat) - 1) = false := decide_eq_false (by omega)
      refine .cons (.gF rfl rfl rfl) <| .cons (.gF rfl rfl rfl) <| .cons (.gF rfl rfl rfl) <| .cons (.gF rfl rfl rfl) <| .cons (.gF rfl rfl rfl) <| .cons (.pF rfl rfl rfl) <| .cons (.mv rfl rfl) <| .cons (.gF rfl rfl rfl) <| .cons (.gF rfl rfl rfl) <| .cons (.pF rfl rfl rfl) <| .cons (.mv rfl rfl) <| .cons (.gF rfl rfl rfl) <| .cons (.gF rfl rfl rfl) <| .cons (.gF rfl rfl rfl) <| .cons (.gF rfl rfl rfl) <| .cons (.gF rfl rfl rfl) <| .cons (.gF rfl rfl rfl) <| .cons (.gF rfl rfl rfl) <| .cons (.gF rfl rfl rfl) <| .cons (.gF rfl rfl rfl) <| .cons (.pF rfl rfl rfl) <| .cons (.asg rfl rfl) <| .nil <| ks_n <| .ret ?_
      refine kf_ret rfl ?_ nobox
      exact leafB (by first | (rw [hasL, hV]; rfl) | (rw [hasL, hV, hout]; rfl) | (rw [hasL, hV, hin, hlf]; rfl) | (rw [hasL, hV, hin, hlq]; rfl))
  · try simp only [zs1, zs2, zs3, zs4, zs5, zs6, zs7] at g9
    have hV : prgV g = false := by first | assumption | simp_all
    refine .cons (.gF rfl rfl rfl) <| .cons (.gF rfl rfl rfl) <| .cons (.pF rfl rfl rfl) <| .cons (.mv rfl rfl) <| .cons (.gF rfl rfl rfl) <| .cons (.gF rfl rfl rfl) <| .cons (.gF rfl rfl rfl) <| .cons (.gF rfl rfl rfl) <| .cons (.gF rfl rfl rfl) <| .cons (.pF rfl rfl rfl) <| .cons (.mv rfl rfl) <| .cons (.gF rfl rfl rfl) <| .cons (.gF rfl rfl rfl) <| .cons (.pF rfl rfl rfl) <| .cons (.mv rfl rfl) <| .cons (.gF rfl rfl rfl) <| .cons (.gF rfl rfl rfl) <| .cons (.gF rfl rfl rfl) <| .cons (.gF rfl rfl rfl) <| .cons (.gF rfl rfl rfl) <| .cons (.gF rfl rfl rfl) <| .cons (.gF rfl rfl rfl) <| .cons (.gF rfl rfl rfl) <| .cons (.gF rfl rfl rfl) <| .cons (.pF rfl rfl rfl) <| .cons (.asg rfl rfl) <| .nil <| ks_n <| .ret ?_
    refine kf_ret rfl ?_ nobox
    exact leafB (by first | (rw [hasL, hV]; rfl) | (rw [hasL, hV, hout]; rfl) | (rw [hasL, hV, hin, hlf]; rfl) | (rw [hasL, hV, hin, hlq]; rfl))

theorem specPar_fn {g : Prg} (hs : szG g ≤ 1073741824) (part loop : Int) : Fn Tryz.prog 11 [] [ad (rG g), nat1 part, nat1 loop] (.o (bo1 (parB g part loop))) [] := by
  have hcl : (crl g part).length ≤ 1000000 := by
    rw [crl]; split
    · rename_i h
      obtain ⟨k, q, hk, hq⟩ := part_at h.2
      have h1 := flagN_len (l := crV g part) (n := (crV g part).length)
      have h2 := prt_nest (prgV_s h.1).1 hq
      rw [flagV]; rw [crV_len, nestQ_eq hk hq] at h1 ⊢; omega
    · simp
  refine Fn.code0 Tryz.func11 rfl rfl rfl rfl ?_
  refine .seq <| .region <| .cons (St1.boxP rfl rfl rfl rfl rfl rfl) <| .cons (.asg rfl rfl) <| .nil <| ks_n <| .seq <| .region <| .cons (.lN 2 rfl rfl rfl) <| .cons (.mv rfl rfl) <| .cons (.mv rfl rfl) <| .cons (.cP [.tmp 7, .tmp 8, .tmp 9] rfl rfl rfl rfl (l8Has_fn hs part loop) rfl) ?_
  refine .cons (.mv rfl rfl) ?_
  refine AOps.cases 11 _ rfl (fun g11 => ?_) (fun g11 => ?_)
  · try simp only [zs1, zs2, zs3, zs4, zs5, zs6, zs7] at g11
    have hH : hasL g part loop = true := by first | assumption | simp_all
    have hpr := parB_ref hH
    refine .cons (.gT rfl rfl rfl (.lN 2 rfl rfl rfl)) <| .cons (.gT rfl rfl rfl (.mv rfl rfl)) <| .cons (.gT rfl rfl rfl (.cP [.tmp 12, .tmp 13] rfl rfl rfl rfl (specCl_fn hs part) rfl)) ?_
    refine .cons (.gT rfl rfl rfl (.mv rfl rfl)) <| .cons (.gT rfl rfl rfl (.cP [.tmp 14, .tmp 15] rfl rfl rfl rfl (l6Has_fn _ _ (by omega)) rfl)) ?_
    refine .cons (.gT rfl rfl rfl (.nt rfl rfl)) <| .cons (.pT rfl rfl rfl) <| .cons (.asg rfl rfl) <| .nil <| ks_n <| .ret ?_
    refine kf_ret rfl ?_ nobox
    exact leafB (by first | (rw [hpr]; done) | (rw [parB, hH]; rfl))
  · try simp only [zs1, zs2, zs3, zs4, zs5, zs6, zs7] at g11
    have hH : hasL g part loop = false := by first | assumption | simp_all
    refine .cons (.gF rfl rfl rfl) <| .cons (.gF rfl rfl rfl) <| .cons (.gF rfl rfl rfl) <| .cons (.gF rfl rfl rfl) <| .cons (.gF rfl rfl rfl) <| .cons (.gF rfl rfl rfl) <| .cons (.pF rfl rfl rfl) <| .cons (.asg rfl rfl) <| .nil <| ks_n <| .ret ?_
    refine kf_ret rfl ?_ nobox
    exact leafB (by first | (rw [hpr]; done) | (rw [parB, hH]; rfl))

theorem specPl_fn {g : Prg} (hs : szG g ≤ 1073741824) (part : Int) : Fn Tryz.prog 21 [] [ad (rG g), nat1 part] (.o (vD (dIs (prl g part)))) [] := by
 refine Fn.code0 Tryz.func21 rfl rfl rfl rfl ?_
 refine .seq <| .region <| .cons (St1.boxP rfl rfl rfl rfl rfl rfl) <| .cons (.asg rfl rfl) <| .nil <| ks_n <| .seq <| .region <| .cons (St1.lit0 (k' := 107) (e := 3) (sz := 1) (b := true) rfl rfl rfl rfl (by kernel_rfl) rfl rfl) ?_
 refine .cons (.asg rfl rfl) <| .nil <| ks_n <| .seq <| .seq <| .region <| .cons (.asg rfl rfl) <| .nil <| ks_n <| .block ?_
 refine .loopK (fun m σ => (∃ (i : Nat) (o : List Int), m = 4 - i ∧ (i ≤ 4) ∧ (prN g part i = o) ∧ (o.length ≤ i) ∧ σ = [(.t 1, .v (.o (nat1 part))), (.t 2, .v (.o (.c (.ptr (rG g))))), (.t 5, .v (.o (.c (.own 110 1 (o.length))))), (.t 6, .v (.o (nat1 (i : Nat)))), (.b 110, .b 3 1 (dR (o.map rI))), (.u 110, .u)])) [(110, 107)] ⟨0, [], rfl, by omega, rfl, by simp, rfl⟩ ⟨ks rfl .dt, ks rfl .dt, ks rfl (.c .ow), ks rfl .dt, kb 107 rfl (.dt rfl (by first | rfl | (simp [dR, rI, dI]; done) | (simp [dR, rI]; done) | (simp [dR]; rfl))), trivial⟩ ?_
 rintro m σ ⟨i, o, hm0, hi, hE, ho, rfl⟩
 refine .seq <| .seq <| .region <| .cons (.mv rfl rfl) <| .cons (.ls rfl rfl rfl) <| .nil <| ks_n ?_
 refine .cD rfl (fun h9 => ?_) (fun h9 => ?_)
 ·skip
  refine .skip <| ks_n <| .seq <| .block <| .seq <| .region <| .cons (.lN 2 rfl rfl rfl) <| .cons (.mv rfl rfl) <| .cons (.mv rfl rfl) <| .cons (.cP [.tmp 12, .tmp 13, .tmp 14] rfl rfl rfl rfl (specPar_fn hs part (i : Nat)) rfl) ?_
  refine .nil <| ks_n ?_
  refine ACode.condT rfl (fun h15 => ?_) (fun h15 => ?_)
  ·try simp only [zs1, zs2, zs3, zs4, zs5, zs6, zs7] at h15
   have hpb : parB g part (i : Nat) = true := by first | assumption | simp_all
   refine .region <| .cons (.mv rfl rfl) <| .cons (.mv rfl rfl) <| .cons (.li 3 0 0 [.tmp 17] rfl rfl rfl rfl rfl rfl) <| .cons (St1.appB (k' := 119) (e := 3) (sz := 0) (by' := 8) rfl rfl rfl rfl rfl (by kernel_rfl) rfl rfl rfl rfl (by first | (simp [dR]; done) | (simp [dR]; omega)) (by first | (simp [dR]; done) | (simp [dR]; omega)) rfl rfl rfl) ?_
   refine .cons (.asg rfl rfl) <| .nil <| kb_n <| ks_n <| .region <| .cons (.mv rfl rfl) <| .cons (.pl rfl rfl rfl) <| .cons (.asg rfl rfl) <| .nil ?_
   refine kl_k [(110, 119)] ⟨i + 1, o ++ [(i : Int)], rfl, by omega, by rw [prN_next, if_pos hpb, hE], by simp; omega, rfl⟩ ⟨ks rfl .dt, ks rfl .dt, ks rfl (.c .ow), ks rfl .dt, kb 119 rfl (.dt rfl (by first | rfl | (simp [dR, rI, dI]; done) | (simp [dR, rI]; done) | (simp [dR]; rfl))), trivial⟩
  ·try simp only [zs1, zs2, zs3, zs4, zs5, zs6, zs7] at h15
   have hpb : parB g part (i : Nat) = false := by first | assumption | simp_all
   refine .skip <| kb_n <| ks_n <| .region <| .cons (.mv rfl rfl) <| .cons (.pl rfl rfl rfl) <| .cons (.asg rfl rfl) <| .nil ?_
   refine kl_k [(110, 110)] ⟨i + 1, o, rfl, by omega, by rw [prN_next, if_neg (by rw [hpb]; simp), hE], by omega, rfl⟩ ⟨ks rfl .dt, ks rfl .dt, ks rfl (.c .ow), ks rfl .dt, kb 110 rfl (.dt rfl (by first | rfl | (simp [dR, rI, dI]; done) | (simp [dR, rI]; done) | (simp [dR]; rfl))), trivial⟩
 ·skip
  obtain rfl : i = 4 := by omega
  rw [prN_end] at hE
  refine .exit <| ks_e <| kl_e <| kb_hit <| ks_n <| .seq <| .region <| .cons (.mv rfl rfl) <| .cons (.asg rfl rfl) <| .nil <| ks_n <| .ret ?_
  refine kf_wret [(.t 4, .v (.o (vD (dIs (prl g part)))))] (Wk.keep [] rfl rfl ⟨ks rfl (.c (.fz rfl (by rw [hE]) (by rw [List.length_map, hE]) (by omega))), trivial⟩) rfl ?_ nobox
  rfl
theorem prl_len {g : Prg} {p : Int} : (prl g p).length ≤ 1000000 := by
  rw [prl]; split
  · rename_i h
    obtain ⟨k, q, hk, hq⟩ := part_at h.2
    have h1 := flagN_len (l := (crV g p).map not) (n := ((crV g p).map not).length)
    have h2 := prt_nest (prgV_s h.1).1 hq
    rw [flagV]; rw [List.length_map, crV_len, nestQ_eq hk hq] at h1 ⊢; omega
  · simp
set_option maxHeartbeats 6400000 in
theorem lawXpl {g : Prg} (ho : okPrg g) (p : Int) {xs : List Int} (hx : xs.length ≤ 1000000) (qs : szG g ≤ 1048576 → PureC 21 [ad (rG g), nat1 p] xs) (qi : szG g ≤ 1048576 → OwnC 22 [ad (rG g), nat1 p] xs)
    {w : World} {u0 u1 : Value} (d0 : Dr (fun b => b < w.heap.size) w (dRs g.1) u0) (d1 : Dr (fun b => b < w.heap.size) w (dPts g.2) u1) : Truth Tryz.prog 5 #[.agg #[u0, u1], .int .i64 p] w := by
  have L0 := LawS.start w [u0, u1]
  have hz := szPrg_fn (l := 1048576) (by omega) ho
  have D0 := hid d0; have D1 := hid d1; clear d0 d1
  have HL0 := hid L0; clear L0
  have HX := hid hx; clear hx
  by_cases hs : szG g ≤ 1048576
  case neg =>
    rw [subZ_no (by omega)] at hz
    have HZ := hid hz; clear hz qs qi ho
    go_enter Tryz.func5, Tryz.ntmps5
    go_wp2_with fail
    refine (HZ.out.callsI (vs := [_, _]) (vals2_mk (ad2_v (D0.out.frame (below_sameAll HL0.out.below _)) (D1.out.frame (below_sameAll HL0.out.below _))) (Dr.val (.int .i64 1048576) rfl))).mono ?_
    rintro e wA ⟨rfl, bA⟩
    have LA := HL0.out.fwd bA HL0.out.lt
    have HLA := hid LA; clear LA
    go_wp2_with fail
    go_ret
    exact ⟨rfl, HLA.out.below⟩
  rw [subZ_yes (by omega)] at hz
  have qs := hid (qs hs); have qi := hid (qi hs)
  have hcp := hid (copyPrg hs)
  have hep := hid (eqPrg_fn g g (by omega))
  have HS := hid hs
  have HZ := hid hz
  have hz0 : (0 : Int) ≤ 1048576 - (szG g : Nat) := by omega
  clear hz ho hs
  obtain ⟨z, hz1⟩ : ∃ z : Int, z = 1048576 - (szG g : Nat) := ⟨_, rfl⟩
  rw [← hz1] at HZ hz0
  clear hz1
  go_enter Tryz.func5, Tryz.ntmps5
  go_wp2_with fail
  refine (HZ.out.callsI (vs := [_, _]) (vals2_mk (ad2_v (D0.out.frame (below_sameAll HL0.out.below _)) (D1.out.frame (below_sameAll HL0.out.below _))) (Dr.val (.int .i64 1048576) rfl))).mono ?_
  rintro e wA ⟨rfl, bA⟩
  have HLA := hid (HL0.out.fwd bA HL0.out.lt); clear bA
  have c0 := HLA.out.c 0 rfl; have c1 := HLA.out.c 1 rfl
  go_wp2_with fail
  clear c0 c1
  refine (hcp.out _ _ [u0, u1] rfl (all2 (D0.out.frame (below_sameAll HLA.out.below _)) (D1.out.frame (below_sameAll HLA.out.below _)))).mono ?_
  rintro e wB ⟨vs, rfl, bB, hv⟩
  obtain ⟨y0, l0, rfl, hv1⟩ := len_cons hv.1
  obtain ⟨y1, l1, rfl, hv2⟩ := len_cons hv1
  obtain rfl := len_zero hv2
  have NB0 := hid (hv.2 0 _ _ rfl rfl); have NB1 := hid (hv.2 1 _ _ rfl rfl); clear hv hv1 hv2
  have HLB := hid (HLA.out.fwd bB HLA.out.lt); clear bB
  go_wp2_with fail
  refine (qs.out _ _ [.agg #[y0, y1], .int .i64 p] (vals2_mk (ad2_v NB0.out.dr NB1.out.dr) (Dr.val (.int .i64 p) rfl))).mono ?_
  rintro e wC ⟨⟨a0, k0, rfl, i0⟩, bC⟩
  have HLC := hid (HLB.out.fwd bC HLB.out.lt); clear bC NB0 NB1
  have I0 := hid i0; clear i0
  have c0 := HLC.out.c 0 rfl; have c1 := HLC.out.c 1 rfl
  go_wp2_with fail
  clear c0 c1
  refine (hcp.out _ _ [u0, u1] rfl (all2 (D0.out.frame (below_sameAll HLC.out.below _)) (D1.out.frame (below_sameAll HLC.out.below _)))).mono ?_
  rintro e wD ⟨vs, rfl, bD, hv⟩
  obtain ⟨x0, l0, rfl, hv1⟩ := len_cons hv.1
  obtain ⟨x1, l1, rfl, hv2⟩ := len_cons hv1
  obtain rfl := len_zero hv2
  have ND0 := hid (hv.2 0 _ _ rfl rfl); have ND1 := hid (hv.2 1 _ _ rfl rfl); clear hv hv1 hv2
  have HBD := hid bD; clear bD
  have HA := hid ((HBD.out).alloc HBD.out.size (.cells #[x0, x1] 31))
  have HBx := hid (heap_alloc_new wD (.cells #[x0, x1] 31))
  have HAl := hid (show Below wD.heap.size wD (wD.alloc (.cells #[x0, x1] 31)) from (Below.refl _ _).alloc (Nat.le_refl _) _)
  have ND0a := hid (ND0.out.fwd HAl.out); have ND1a := hid (ND1.out.fwd HAl.out)
  have s0 := fun a m w => run_store Tryz.prog w a x0 m ND0.out.one; have s1 := fun a m w => run_store Tryz.prog w a x1 m ND1.out.one
  go_wp2_with fail
  clear s0 s1
  refine (qi.out _ _ [.agg #[x0, x1], .int .i64 p] (vals2_mk (ad2_v ND0a.out.dr ND1a.out.dr) (Dr.val (.int .i64 p) rfl))).mono ?_
  rintro e wE ⟨⟨a1, k1, rfl, o1⟩, bE⟩
  have O1 := hid (show OwnS wE (wD.heap.size + 1) _ _ by have := o1; simpa using this); clear o1
  have HBE := hid (HA.out.trans (bE.mono HA.out.size))
  have HDE := hid (HAl.out.trans (bE.mono HAl.out.size))
  have HBx1 := hid ((bE.block _ (by simp)).trans HBx.out); clear bE
  go_wp2_with fail
  refine (eqIntS_any _ _ _ _ _ _ xs xs _ (O1.out.intsA (by have := HX.out; omega)) (I0.out.below HBE.out)).mono ?_
  rintro e wF ⟨rfl, q⟩
  rw [dec_self]
  have HBF := hid (HBE.out.trans ((q.below _).mono HBE.out.size)); have HDF := hid (HDE.out.trans ((q.below _).mono HDE.out.size))
  have O1F := hid (O1.out.below' (q.below _)); have HBxF := hid (((q.below wE.heap.size).block _ (blk_lt HBx1.out)).trans HBx1.out); clear q
  have HLF := hid (HLC.out.fwd HBF.out HLC.out.lt)
  have c0 := HLF.out.c 0 rfl; have c1 := HLF.out.c 1 rfl
  have e0 : wF.cell? ⟨wD.heap.size, 0, none⟩ = some x0 := by rw [cell_of_row wF _ _ _ _ _ HBxF.out]; rfl
  have e1 : wF.cell? ⟨wD.heap.size, 1, none⟩ = some x1 := by rw [cell_of_row wF _ _ _ _ _ HBxF.out]; rfl
  go_wp2_with fail
  go_region_held3 (fun wq => wq.cell? ⟨w.heap.size, 0, none⟩ = some u0 ∧ wq.cell? ⟨w.heap.size, 1, none⟩ = some u1 ∧ wq.cell? ⟨wD.heap.size, 0, none⟩ = some x0 ∧ wq.cell? ⟨wD.heap.size, 1, none⟩ = some x1)
    ((repeat' apply And.intro) <;> first | assumption | go_keep)
    (first
    | (go_at_call 12
       refine (hcp.out _ _ [u0, u1] rfl (all2 (D0.out.frame (below_sameAll (HLF.out.below.drew) _)) (D1.out.frame (below_sameAll (HLF.out.below.drew) _)))).mono ?_
       rintro e wG ⟨vs, rfl, bG, hv⟩
       obtain ⟨z0, l0, rfl, hv1⟩ := len_cons hv.1
       obtain ⟨z1, l1, rfl, hv2⟩ := len_cons hv1
       obtain rfl := len_zero hv2
       have NG0 := hid (hv.2 0 _ _ rfl rfl); have NG1 := hid (hv.2 1 _ _ rfl rfl)
       have HFG := hid (show Below wF.heap.size wF wG from (Below.refl _ _).drew.trans bG)
       clear hv hv1 hv2 bG
       have c0 := (HLF.out.fwd HFG.out HLF.out.lt).c 0 rfl; have c1 := (HLF.out.fwd HFG.out HLF.out.lt).c 1 rfl
       have e0 : wG.cell? ⟨wD.heap.size, 0, none⟩ = some x0 := by rw [cell_of_row wG _ _ _ _ _ ((HFG.out.block _ (blk_lt HBxF.out)).trans HBxF.out)]; rfl
       have e1 : wG.cell? ⟨wD.heap.size, 1, none⟩ = some x1 := by rw [cell_of_row wG _ _ _ _ _ ((HFG.out.block _ (blk_lt HBxF.out)).trans HBxF.out)]; rfl)
    | (go_at_call 14
       refine (hep.out.callsB (vs := [_, _]) (B := fun _ => True) (vals2_mk (ad2_v (((ND0.out.fwd HDF.out).fwd HFG.out).dr.mono fun _ _ _ => trivial) (((ND1.out.fwd HDF.out).fwd HFG.out).dr.mono fun _ _ _ => trivial)) (ad2_v (NG0.out.dr.mono fun _ _ _ => trivial) (NG1.out.dr.mono fun _ _ _ => trivial)))).mono ?_
       rintro e wH ⟨rfl, bH⟩
       rw [sameG_refl]
       have HFH := hid (HFG.out.trans (bH.mono HFG.out.size))
       clear bH
       have c0 := (HLF.out.fwd HFH.out HLF.out.lt).c 0 rfl; have c1 := (HLF.out.fwd HFH.out HLF.out.lt).c 1 rfl
       have e0 : wH.cell? ⟨wD.heap.size, 0, none⟩ = some x0 := by rw [cell_of_row wH _ _ _ _ _ ((HFH.out.block _ (blk_lt HBxF.out)).trans HBxF.out)]; rfl
       have e1 : wH.cell? ⟨wD.heap.size, 1, none⟩ = some x1 := by rw [cell_of_row wH _ _ _ _ _ ((HFH.out.block _ (blk_lt HBxF.out)).trans HBxF.out)]; rfl))

  have HBH := hid (HBF.out.trans (HFH.out.mono HBF.out.size)); have HDH := hid (HDF.out.trans (HFH.out.mono HDF.out.size))
  have O1H := hid (O1F.out.below' HFH.out)
  clear NG0 NG1 HFG HFH HLF HBxF
  go_wp2_with fail
  clear c0 c1 e0 e1
  refine (markPrg_k HS.out (S := fun b => wC.heap.size ≤ b ∧ b < wD.heap.size) ((ND0.out.k fun b h1 h2 => ⟨h1, h2⟩).mark (marked_of HDH.out (fun _ => True))) ((ND1.out.k fun b h1 h2 => ⟨h1, h2⟩).mark (marked_of HDH.out (fun _ => True))) (fun b h => Nat.lt_of_lt_of_le h.2 HDH.out.size)).mono ?_
  rintro e wI ⟨⟨k, hk0, hk1, rfl⟩, mI⟩
  have HBI := hid (HBH.out.trans (mI.below (fun b h => h.1) HBH.out.size))
  have O1I := hid (O1H.out.marked mI (fun b h => by have := h.2; omega)); clear mI
  have h2 : decide (k < 0) = false := by simp; omega
  go_wp2_with fail
  clear h2
  refine (eqIntS_any _ _ _ _ _ _ xs xs _ (O1I.out.intsA (by have := HX.out; omega)) (I0.out.below HBI.out)).mono ?_
  rintro e wJ ⟨rfl, q⟩
  rw [dec_self]
  have HBJ := hid (HBI.out.trans ((q.below _).mono HBI.out.size)); have O1J := hid (O1I.out.below' (q.below _)); clear q
  go_wp2_with fail
  refine (markIntS_any _ _ _ _ 1 _ _ O1J.out (by have := HX.out; omega) (by omega) (by omega)).mono ?_
  rintro e wK ⟨rfl, o, gK⟩
  have HBK := hid (HBJ.out.grown gK HBJ.out.size (fun k hk => by have := (O1J.out.lt k hk).1; have := HBD.out.size; omega))
  have O1K := hid o; clear o gK
  go_wp2_with fail
  refine (heldIntS_any _ _ _ 1 _ (O1K.out.intsA (by have := HX.out; omega)) (by omega) (by omega)).mono ?_
  rintro e wL ⟨rfl, q⟩
  have HBL := hid (HBK.out.trans ((q.below _).mono HBK.out.size)); have O1L := hid (O1K.out.below' (q.below _)); clear q
  have HLL := hid (HLC.out.fwd HBL.out HLC.out.lt)
  have h3 : decide ((1 : Int) + (xs.length : Nat) < 0) = false := by simp; omega
  have c0 := HLL.out.c 0 rfl; have c1 := HLL.out.c 1 rfl
  go_wp2_with fail
  clear c0 c1
  refine (hcp.out _ _ [u0, u1] rfl (all2 (D0.out.frame (below_sameAll HLL.out.below _)) (D1.out.frame (below_sameAll HLL.out.below _)))).mono ?_
  rintro e wM ⟨vs, rfl, bM, hv⟩
  obtain ⟨m0, l0, rfl, hv1⟩ := len_cons hv.1
  obtain ⟨m1, l1, rfl, hv2⟩ := len_cons hv1
  obtain rfl := len_zero hv2
  have NM0 := hid (hv.2 0 _ _ rfl rfl); have NM1 := hid (hv.2 1 _ _ rfl rfl); clear hv hv1 hv2
  have HBM := hid (HBL.out.trans (bM.mono HBL.out.size)); have O1M := hid (O1L.out.below' bM); clear bM
  go_wp2_with fail
  refine (qi.out _ _ [.agg #[m0, m1], .int .i64 p] (vals2_mk (ad2_v NM0.out.dr NM1.out.dr) (Dr.val (.int .i64 p) rfl))).mono ?_
  rintro e wN ⟨⟨a2, k2, rfl, o2⟩, bN⟩
  have O2 := hid o2; clear o2
  have HBN := hid (HBM.out.trans (bN.mono HBM.out.size)); have O1N := hid (O1M.out.below' bN); clear bN
  go_wp2_with fail
  refine (eqIntS_any _ _ _ _ _ _ xs xs _ (O2.out.intsA (by have := HX.out; omega)) (I0.out.below HBN.out)).mono ?_
  rintro e wO ⟨rfl, q⟩
  rw [dec_self]
  have HBO := hid (HBN.out.trans ((q.below _).mono HBN.out.size)); have O1O := hid (O1N.out.below' (q.below _)); clear q
  go_wp2_with fail
  refine (heldIntS_any _ _ _ 1 _ (O1O.out.intsA (by have := HX.out; omega)) (by omega) (by omega)).mono ?_
  rintro e wP ⟨rfl, q⟩
  have HBP := hid (HBO.out.trans ((q.below _).mono HBO.out.size)); clear q
  go_wp2_with fail
  go_ret
  exact ⟨rfl, HLC.out.below.trans (HBP.out.mono (Nat.le_of_lt HLC.out.lt))⟩
theorem lawExpl {g : Prg} (ho : okPrg g) (p : Int) {w : World} {v : Value} (e0 : V1r bx0 al0 (fun b => b < w.heap.size) w (ad (rG g)) v) : Truth Tryz.prog 5 #[v, .int .i64 p] w := by
  obtain ⟨u0, u1, rfl, d0, d1⟩ := e0_parts e0
  exact lawXpl ho p (prl_len) (fun hs => (specPl_fn (by omega) p).pureC) (fun hs => pl_ownC (by omega) p) d0 d1
end Go.Proofs.YtidfloikpieggaaGreat
