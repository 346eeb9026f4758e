/- Part 6 of 6 of the proof: laws on memory and data, then what the functions compute, in the order in which they build on each other; conditions: those that each theorem names. -/
import Derived.Lib.SliceRun
import Derived.Test.YtlecfjlgbkghfaaGreatP5
set_option maxRecDepth 100000
set_option maxHeartbeats 1600000

namespace Go.Proofs.YtlecfjlgbkghfaaGreat
set_option linter.unusedVariables false
set_option linter.unusedSimpArgs false
open Go.RowKit
theorem index_fn (l : List Int) (n : Int) (hl : l.length ≤ 1099511627776) : Fn Tryz.prog 133 [] [vD (dIs l), nat1 n] (.o (nat1 (idxF (fun m => decide (m = n)) l))) [] := by
  refine Fn.code0 Tryz.func133 rfl rfl rfl rfl ?_
  refine .seq <| .region <| .cons (.asg rfl rfl) <| .nil <| ks_n <| .seq <| .seq <| .region <| .cons (.mv rfl rfl) <| .cons (.ln 3 1 8 rfl rfl rfl) <| .cons (.mv rfl rfl) <| .nil <| ks_n <| .block ?_
  refine .loopK (fun m σ => (∃ i : Nat, m = l.length - i ∧ (i ≤ l.length) ∧ (idxF (fun m => decide (m = n)) l = idxG (fun m => decide (m = n)) i (l.drop i)) ∧ σ = [(.t 0, .v (.o (vD (dIs l)))), (.t 1, .v (.o (nat1 n))), (.t 7, .v (.o (nat1 (l.length : Nat)))), (.t 8, .v (.o (nat1 (i : Nat))))])) [] ⟨0, rfl, by omega, rfl, rfl⟩ ⟨ks rfl .dt, ks rfl .dt, ks rfl .dt, ks rfl .dt, trivial⟩ ?_
  rintro m σ ⟨i, hm0, hi, hF, rfl⟩
  refine .seq <| .region <| .cons (.ls rfl rfl rfl) <| .nil <| ks_n <| .seq ?_
  refine .cD rfl (fun h9 => ?_) (fun h9 => ?_)
  · skip
    obtain ⟨x, hx1⟩ : ∃ x_, l[i]? = some x_ := ⟨_, List.getElem?_eq_getElem (by omega)⟩
    refine .skip <| ks_n <| .seq <| .block <| .seq <| .region <| .cons (.mv rfl rfl) <| .cons (.asg rfl rfl) <| .nil <| ks_n <| .seq <| .region <| .cons (.mv rfl rfl) <| .cons (.mv rfl rfl) <| .cons (.mv rfl rfl) <| .cons (.xL 3 1 8 rfl rfl rfl rfl rfl) ?_
    refine .cons (.l1 1 rfl rfl) <| .cons (.eq rfl rfl rfl) <| .nil <| ks_n ?_
    refine .cD rfl (fun h16 => ?_) (fun h16 => ?_)
    · skip
      refine .seq <| .region <| .cons (.mv rfl rfl) <| .cons (.asg rfl rfl) <| .nil <| ks_n <| .ret <| kb_r <| ks_r <| kl_r <| kb_r <| ks_r ?_
      refine kf_ret rfl ?_ nobox
      exact leafI (by rw [hF, idxG_drop hx1, if_pos (by simp; omega)])
    · skip
      refine .skip <| kb_n <| ks_n <| .region <| .cons (.pl rfl rfl rfl) <| .cons (.mv rfl rfl) <| .nil ?_
      refine kl_k [] ⟨i + 1, rfl, by omega, by rw [hF, idxG_drop hx1, if_neg (by simp; omega)], rfl⟩ ⟨ks rfl .dt, ks rfl .dt, ks rfl .dt, ks rfl .dt, trivial⟩
  · skip
    refine .exit <| ks_e <| kl_e <| kb_hit <| ks_n <| .seq <| .region <| .cons (.asg rfl rfl) <| .nil <| ks_n <| .ret ?_
    refine kf_ret rfl ?_ nobox
    exact leafI (by rw [hF, List.drop_of_length_le (by omega)]; rfl)

theorem contains_fn (l : List Int) (n : Int) (hl : l.length ≤ 1099511627776) : Fn Tryz.prog 101 [] [vD (dIs l), nat1 n] (.o (bo1 (hasV l n))) [] := by
  refine Fn.code0 Tryz.func101 rfl rfl rfl rfl ?_
  refine .seq <| .region <| .cons (.asg rfl rfl) <| .nil <| ks_n <| .seq <| .region <| .cons (.mv rfl rfl) <| .cons (.mv rfl rfl) <| .cons (.cP [.tmp 5, .tmp 6] rfl rfl rfl rfl (index_fn l n hl) rfl) ?_
  refine .cons (.ge rfl rfl rfl) <| .cons (.asg rfl rfl) <| .nil <| ks_n <| .ret ?_
  refine kf_ret rfl ?_ nobox
  exact leafB (by first | exact idxG_any | (rw [hasV, ← idxG_any]; rfl))

theorem between_fn {g : Prg} {i k : Nat} {x y : Ins} (hx : (insG 0 g.2)[i]? = some x) (hy : (insG 0 g.2)[k]? = some y) (hlx : (usR g x).length ≤ 12) (hly : (usR g y).length ≤ 12) : Fn Tryz.prog 65 [] [.c (.ptr (rT g)), nat1 (i : Nat), nat1 (k : Nat)] (.o (nat1 (kindN g i k))) [] := by
 refine Fn.code0 Tryz.func65 rfl rfl rfl rfl ?_
 refine .seq <| .region <| .cons (.asg rfl rfl) <| .nil <| ks_n <| .seq <| .region <| .cons (.asg rfl rfl) <| .nil <| ks_n <| .seq <| .seq ?_
 refine ACode.drawK (by kernel_rfl) (by kernel_rfl) ?_
 refine .cons (.mv rfl rfl) <| .cons (.nP rfl rfl) <| .cons (.fP 3 0 false rfl rfl) <| .cons (.l1 1 rfl rfl) <| .cons (.mv rfl rfl) <| .cons (.xL 27 1 24 rfl rfl rfl rfl rfl (map_at (usRs_at hy))) ?_
 refine .cons (.l1 1 rfl rfl) <| .cons (.mv rfl rfl) <| .cons (.nP rfl rfl) <| .cons (.fP 4 0 false rfl rfl) <| .cons (.l1 1 rfl rfl) <| .cons (.mv rfl rfl) <| .cons (.xL 3 1 8 rfl rfl rfl rfl rfl (map_at (usWs_at hx))) ?_
 refine .cons (.l1 1 rfl rfl) <| .cons (.cP [.tmp 14, .tmp 21] rfl rfl rfl rfl (contains_fn _ _ (by omega)) rfl) ?_
 refine .nil ⟨by kernel_rfl, ?_⟩
 refine ks_n ?_
 refine ACode.condT rfl (fun h22 => ?_) (fun h22 => ?_)
 ·try simp only [zs1, zs2, zs3, zs4, zs5, zs6, zs7] at h22
  refine .region <| .cons (.mv rfl rfl) <| .cons (.pl rfl rfl rfl) <| .cons (.asg rfl rfl) <| .nil <| ks_n <| .seq <| .seq ?_
  refine ACode.drawK (by kernel_rfl) (by kernel_rfl) ?_
  refine .cons (.mv rfl rfl) <| .cons (.nP rfl rfl) <| .cons (.fP 3 0 false rfl rfl) <| .cons (.l1 1 rfl rfl) <| .cons (.mv rfl rfl) <| .cons (.xL 27 1 24 rfl rfl rfl rfl rfl (map_at (usRs_at hx))) ?_
  refine .cons (.l1 1 rfl rfl) <| .cons (.mv rfl rfl) <| .cons (.nP rfl rfl) <| .cons (.fP 4 0 false rfl rfl) <| .cons (.l1 1 rfl rfl) <| .cons (.mv rfl rfl) <| .cons (.xL 3 1 8 rfl rfl rfl rfl rfl (map_at (usWs_at hy))) ?_
  refine .cons (.l1 1 rfl rfl) <| .cons (.cP [.tmp 31, .tmp 38] rfl rfl rfl rfl (contains_fn _ _ (by omega)) rfl) ?_
  refine .nil ⟨by kernel_rfl, ?_⟩
  refine ks_n ?_
  refine ACode.condT rfl (fun h39 => ?_) (fun h39 => ?_)
  ·try simp only [zs1, zs2, zs3, zs4, zs5, zs6, zs7] at h39
   refine .region <| .cons (.mv rfl rfl) <| .cons (.pl rfl rfl rfl) <| .cons (.asg rfl rfl) <| .nil <| ks_n <| .seq <| .seq ?_
   refine ACode.drawK (by kernel_rfl) (by kernel_rfl) ?_
   refine .cons (.mv rfl rfl) <| .cons (.nP rfl rfl) <| .cons (.fP 4 0 false rfl rfl) <| .cons (.l1 1 rfl rfl) <| .cons (.mv rfl rfl) <| .cons (.xL 3 1 8 rfl rfl rfl rfl rfl (map_at (usWs_at hx))) ?_
   refine .cons (.l1 1 rfl rfl) <| .cons (.mv rfl rfl) <| .cons (.nP rfl rfl) <| .cons (.fP 4 0 false rfl rfl) <| .cons (.l1 1 rfl rfl) <| .cons (.mv rfl rfl) <| .cons (.xL 3 1 8 rfl rfl rfl rfl rfl (map_at (usWs_at hy))) ?_
   refine .cons (.l1 1 rfl rfl) <| .cons (.eq rfl rfl rfl) ?_
   refine .nil ⟨by kernel_rfl, ?_⟩
   refine ks_n ?_
   refine .cD rfl (fun h56 => ?_) (fun h56 => ?_)
   ·skip
    refine .region <| .cons (.mv rfl rfl) <| .cons (.pl rfl rfl rfl) <| .cons (.asg rfl rfl) <| .nil <| ks_n <| .seq <| .region <| .cons (.mv rfl rfl) <| .cons (.asg rfl rfl) <| .nil <| ks_n <| .ret ?_
    refine kf_ret rfl ?_ nobox
    exact leafI (by rw [kindN_eq (usL_at hx) (usL_at hy), kindU]; simp_all [usG])
   ·skip
    refine .skip <| ks_n <| .seq <| .region <| .cons (.mv rfl rfl) <| .cons (.asg rfl rfl) <| .nil <| ks_n <| .ret ?_
    refine kf_ret rfl ?_ nobox
    exact leafI (by rw [kindN_eq (usL_at hx) (usL_at hy), kindU]; simp_all [usG])
  ·try simp only [zs1, zs2, zs3, zs4, zs5, zs6, zs7] at h39
   refine .skip <| ks_n <| .seq <| .seq ?_
   refine ACode.drawK (by kernel_rfl) (by kernel_rfl) ?_
   refine .cons (.mv rfl rfl) <| .cons (.nP rfl rfl) <| .cons (.fP 4 0 false rfl rfl) <| .cons (.l1 1 rfl rfl) <| .cons (.mv rfl rfl) <| .cons (.xL 3 1 8 rfl rfl rfl rfl rfl (map_at (usWs_at hx))) ?_
   refine .cons (.l1 1 rfl rfl) <| .cons (.mv rfl rfl) <| .cons (.nP rfl rfl) <| .cons (.fP 4 0 false rfl rfl) <| .cons (.l1 1 rfl rfl) <| .cons (.mv rfl rfl) <| .cons (.xL 3 1 8 rfl rfl rfl rfl rfl (map_at (usWs_at hy))) ?_
   refine .cons (.l1 1 rfl rfl) <| .cons (.eq rfl rfl rfl) ?_
   refine .nil ⟨by kernel_rfl, ?_⟩
   refine ks_n ?_
   refine .cD rfl (fun h56 => ?_) (fun h56 => ?_)
   ·skip
    refine .region <| .cons (.mv rfl rfl) <| .cons (.pl rfl rfl rfl) <| .cons (.asg rfl rfl) <| .nil <| ks_n <| .seq <| .region <| .cons (.mv rfl rfl) <| .cons (.asg rfl rfl) <| .nil <| ks_n <| .ret ?_
    refine kf_ret rfl ?_ nobox
    exact leafI (by rw [kindN_eq (usL_at hx) (usL_at hy), kindU]; simp_all [usG])
   ·skip
    refine .skip <| ks_n <| .seq <| .region <| .cons (.mv rfl rfl) <| .cons (.asg rfl rfl) <| .nil <| ks_n <| .ret ?_
    refine kf_ret rfl ?_ nobox
    exact leafI (by rw [kindN_eq (usL_at hx) (usL_at hy), kindU]; simp_all [usG])
 ·try simp only [zs1, zs2, zs3, zs4, zs5, zs6, zs7] at h22
  refine .skip <| ks_n <| .seq <| .seq ?_
  refine ACode.drawK (by kernel_rfl) (by kernel_rfl) ?_
  refine .cons (.mv rfl rfl) <| .cons (.nP rfl rfl) <| .cons (.fP 3 0 false rfl rfl) <| .cons (.l1 1 rfl rfl) <| .cons (.mv rfl rfl) <| .cons (.xL 27 1 24 rfl rfl rfl rfl rfl (map_at (usRs_at hx))) ?_
  refine .cons (.l1 1 rfl rfl) <| .cons (.mv rfl rfl) <| .cons (.nP rfl rfl) <| .cons (.fP 4 0 false rfl rfl) <| .cons (.l1 1 rfl rfl) <| .cons (.mv rfl rfl) <| .cons (.xL 3 1 8 rfl rfl rfl rfl rfl (map_at (usWs_at hy))) ?_
  refine .cons (.l1 1 rfl rfl) <| .cons (.cP [.tmp 31, .tmp 38] rfl rfl rfl rfl (contains_fn _ _ (by omega)) rfl) ?_
  refine .nil ⟨by kernel_rfl, ?_⟩
  refine ks_n ?_
  refine ACode.condT rfl (fun h39 => ?_) (fun h39 => ?_)
  ·try simp only [zs1, zs2, zs3, zs4, zs5, zs6, zs7] at h39
   refine .region <| .cons (.mv rfl rfl) <| .cons (.pl rfl rfl rfl) <| .cons (.asg rfl rfl) <| .nil <| ks_n <| .seq <| .seq ?_
   refine ACode.drawK (by kernel_rfl) (by kernel_rfl) ?_
   refine .cons (.mv rfl rfl) <| .cons (.nP rfl rfl) <| .cons (.fP 4 0 false rfl rfl) <| .cons (.l1 1 rfl rfl) <| .cons (.mv rfl rfl) <| .cons (.xL 3 1 8 rfl rfl rfl rfl rfl (map_at (usWs_at hx))) ?_
   refine .cons (.l1 1 rfl rfl) <| .cons (.mv rfl rfl) <| .cons (.nP rfl rfl) <| .cons (.fP 4 0 false rfl rfl) <| .cons (.l1 1 rfl rfl) <| .cons (.mv rfl rfl) <| .cons (.xL 3 1 8 rfl rfl rfl rfl rfl (map_at (usWs_at hy))) ?_
   refine .cons (.l1 1 rfl rfl) <| .cons (.eq rfl rfl rfl) ?_
   refine .nil ⟨by kernel_rfl, ?_⟩
   refine ks_n ?_
   refine .cD rfl (fun h56 => ?_) (fun h56 => ?_)
   ·skip
    refine .region <| .cons (.mv rfl rfl) <| .cons (.pl rfl rfl rfl) <| .cons (.asg rfl rfl) <| .nil <| ks_n <| .seq <| .region <| .cons (.mv rfl rfl) <| .cons (.asg rfl rfl) <| .nil <| ks_n <| .ret ?_
    refine kf_ret rfl ?_ nobox
    exact leafI (by rw [kindN_eq (usL_at hx) (usL_at hy), kindU]; simp_all [usG])
   ·skip
    refine .skip <| ks_n <| .seq <| .region <| .cons (.mv rfl rfl) <| .cons (.asg rfl rfl) <| .nil <| ks_n <| .ret ?_
    refine kf_ret rfl ?_ nobox
    exact leafI (by rw [kindN_eq (usL_at hx) (usL_at hy), kindU]; simp_all [usG])
  ·try simp only [zs1, zs2, zs3, zs4, zs5, zs6, zs7] at h39
   refine .skip <| ks_n <| .seq <| .seq ?_
   refine ACode.drawK (by kernel_rfl) (by kernel_rfl) ?_
   refine .cons (.mv rfl rfl) <| .cons (.nP rfl rfl) <| .cons (.fP 4 0 false rfl rfl) <| .cons (.l1 1 rfl rfl) <| .cons (.mv rfl rfl) <| .cons (.xL 3 1 8 rfl rfl rfl rfl rfl (map_at (usWs_at hx))) ?_
   refine .cons (.l1 1 rfl rfl) <| .cons (.mv rfl rfl) <| .cons (.nP rfl rfl) <| .cons (.fP 4 0 false rfl rfl) <| .cons (.l1 1 rfl rfl) <| .cons (.mv rfl rfl) <| .cons (.xL 3 1 8 rfl rfl rfl rfl rfl (map_at (usWs_at hy))) ?_
   refine .cons (.l1 1 rfl rfl) <| .cons (.eq rfl rfl rfl) ?_
   refine .nil ⟨by kernel_rfl, ?_⟩
   refine ks_n ?_
   refine .cD rfl (fun h56 => ?_) (fun h56 => ?_)
   ·skip
    refine .region <| .cons (.mv rfl rfl) <| .cons (.pl rfl rfl rfl) <| .cons (.asg rfl rfl) <| .nil <| ks_n <| .seq <| .region <| .cons (.mv rfl rfl) <| .cons (.asg rfl rfl) <| .nil <| ks_n <| .ret ?_
    refine kf_ret rfl ?_ nobox
    exact leafI (by rw [kindN_eq (usL_at hx) (usL_at hy), kindU]; simp_all [usG])
   ·skip
    refine .skip <| ks_n <| .seq <| .region <| .cons (.mv rfl rfl) <| .cons (.asg rfl rfl) <| .nil <| ks_n <| .ret ?_
    refine kf_ret rfl ?_ nobox
    exact leafI (by rw [kindN_eq (usL_at hx) (usL_at hy), kindU]; simp_all [usG])

theorem l6Kinds_fn (x y : List Int × Int) (hx : x.1.length ≤ 12) (hy : y.1.length ≤ 12) : Fn Tryz.prog 62 [] [ad (rU x), ad (rU y)] (.o (nat1 (kindU x y))) [] := by
 refine Fn.code0 Tryz.func62 rfl rfl rfl rfl ?_
 refine .seq <| .region <| .cons (St1.boxP rfl rfl rfl rfl rfl rfl) <| .cons (St1.boxP rfl rfl rfl rfl rfl rfl) <| .cons (.asg rfl rfl) <| .nil <| ks_n <| .seq <| .region <| .cons (.asg rfl rfl) <| .nil <| ks_n <| .seq <| .seq <| .region <| .cons (.fP 0 0 false rfl rfl) <| .cons (.l1 1 rfl rfl) <| .cons (.fP 1 0 false rfl rfl) <| .cons (.l1 1 rfl rfl) <| .cons (.cP [.tmp 7, .tmp 9] rfl rfl rfl rfl (l6Has_fn _ _ (by omega)) rfl) ?_
 refine .nil <| ks_n ?_
 refine ACode.condT rfl (fun h10 => ?_) (fun h10 => ?_)
 ·try simp only [zs1, zs2, zs3, zs4, zs5, zs6, zs7] at h10
  refine .region <| .cons (.mv rfl rfl) <| .cons (.pl rfl rfl rfl) <| .cons (.asg rfl rfl) <| .nil <| ks_n <| .seq <| .seq <| .region <| .cons (.fP 0 0 false rfl rfl) <| .cons (.l1 1 rfl rfl) <| .cons (.fP 1 0 false rfl rfl) <| .cons (.l1 1 rfl rfl) <| .cons (.cP [.tmp 14, .tmp 16] rfl rfl rfl rfl (l6Has_fn _ _ (by omega)) rfl) ?_
  refine .nil <| ks_n ?_
  refine ACode.condT rfl (fun h17 => ?_) (fun h17 => ?_)
  ·try simp only [zs1, zs2, zs3, zs4, zs5, zs6, zs7] at h17
   refine .region <| .cons (.mv rfl rfl) <| .cons (.pl rfl rfl rfl) <| .cons (.asg rfl rfl) <| .nil <| ks_n <| .seq <| .seq <| .region <| .cons (.fP 1 0 false rfl rfl) <| .cons (.l1 1 rfl rfl) <| .cons (.fP 1 0 false rfl rfl) <| .cons (.l1 1 rfl rfl) <| .cons (.eq rfl rfl rfl) <| .nil <| ks_n ?_
   refine .cD rfl (fun h24 => ?_) (fun h24 => ?_)
   ·skip
    refine .region <| .cons (.mv rfl rfl) <| .cons (.pl rfl rfl rfl) <| .cons (.asg rfl rfl) <| .nil <| ks_n <| .seq <| .region <| .cons (.mv rfl rfl) <| .cons (.asg rfl rfl) <| .nil <| ks_n <| .ret ?_
    refine kf_ret rfl ?_ nobox
    exact leafI (by rw [kindU]; simp_all)
   ·skip
    refine .skip <| ks_n <| .seq <| .region <| .cons (.mv rfl rfl) <| .cons (.asg rfl rfl) <| .nil <| ks_n <| .ret ?_
    refine kf_ret rfl ?_ nobox
    exact leafI (by rw [kindU]; simp_all)
  ·try simp only [zs1, zs2, zs3, zs4, zs5, zs6, zs7] at h17
   refine .skip <| ks_n <| .seq <| .seq <| .region <| .cons (.fP 1 0 false rfl rfl) <| .cons (.l1 1 rfl rfl) <| .cons (.fP 1 0 false rfl rfl) <| .cons (.l1 1 rfl rfl) <| .cons (.eq rfl rfl rfl) <| .nil <| ks_n ?_
   refine .cD rfl (fun h24 => ?_) (fun h24 => ?_)
   ·skip
    refine .region <| .cons (.mv rfl rfl) <| .cons (.pl rfl rfl rfl) <| .cons (.asg rfl rfl) <| .nil <| ks_n <| .seq <| .region <| .cons (.mv rfl rfl) <| .cons (.asg rfl rfl) <| .nil <| ks_n <| .ret ?_
    refine kf_ret rfl ?_ nobox
    exact leafI (by rw [kindU]; simp_all)
   ·skip
    refine .skip <| ks_n <| .seq <| .region <| .cons (.mv rfl rfl) <| .cons (.asg rfl rfl) <| .nil <| ks_n <| .ret ?_
    refine kf_ret rfl ?_ nobox
    exact leafI (by rw [kindU]; simp_all)
 ·try simp only [zs1, zs2, zs3, zs4, zs5, zs6, zs7] at h10
  refine .skip <| ks_n <| .seq <| .seq <| .region <| .cons (.fP 0 0 false rfl rfl) <| .cons (.l1 1 rfl rfl) <| .cons (.fP 1 0 false rfl rfl) <| .cons (.l1 1 rfl rfl) <| .cons (.cP [.tmp 14, .tmp 16] rfl rfl rfl rfl (l6Has_fn _ _ (by omega)) rfl) ?_
  refine .nil <| ks_n ?_
  refine ACode.condT rfl (fun h17 => ?_) (fun h17 => ?_)
  ·try simp only [zs1, zs2, zs3, zs4, zs5, zs6, zs7] at h17
   refine .region <| .cons (.mv rfl rfl) <| .cons (.pl rfl rfl rfl) <| .cons (.asg rfl rfl) <| .nil <| ks_n <| .seq <| .seq <| .region <| .cons (.fP 1 0 false rfl rfl) <| .cons (.l1 1 rfl rfl) <| .cons (.fP 1 0 false rfl rfl) <| .cons (.l1 1 rfl rfl) <| .cons (.eq rfl rfl rfl) <| .nil <| ks_n ?_
   refine .cD rfl (fun h24 => ?_) (fun h24 => ?_)
   ·skip
    refine .region <| .cons (.mv rfl rfl) <| .cons (.pl rfl rfl rfl) <| .cons (.asg rfl rfl) <| .nil <| ks_n <| .seq <| .region <| .cons (.mv rfl rfl) <| .cons (.asg rfl rfl) <| .nil <| ks_n <| .ret ?_
    refine kf_ret rfl ?_ nobox
    exact leafI (by rw [kindU]; simp_all)
   ·skip
    refine .skip <| ks_n <| .seq <| .region <| .cons (.mv rfl rfl) <| .cons (.asg rfl rfl) <| .nil <| ks_n <| .ret ?_
    refine kf_ret rfl ?_ nobox
    exact leafI (by rw [kindU]; simp_all)
  ·try simp only [zs1, zs2, zs3, zs4, zs5, zs6, zs7] at h17
   refine .skip <| ks_n <| .seq <| .seq <| .region <| .cons (.fP 1 0 false rfl rfl) <| .cons (.l1 1 rfl rfl) <| .cons (.fP 1 0 false rfl rfl) <| .cons (.l1 1 rfl rfl) <| .cons (.eq rfl rfl rfl) <| .nil <| ks_n ?_
   refine .cD rfl (fun h24 => ?_) (fun h24 => ?_)
   ·skip
    refine .region <| .cons (.mv rfl rfl) <| .cons (.pl rfl rfl rfl) <| .cons (.asg rfl rfl) <| .nil <| ks_n <| .seq <| .region <| .cons (.mv rfl rfl) <| .cons (.asg rfl rfl) <| .nil <| ks_n <| .ret ?_
    refine kf_ret rfl ?_ nobox
    exact leafI (by rw [kindU]; simp_all)
   ·skip
    refine .skip <| ks_n <| .seq <| .region <| .cons (.mv rfl rfl) <| .cons (.asg rfl rfl) <| .nil <| ks_n <| .ret ?_
    refine kf_ret rfl ?_ nobox
    exact leafI (by rw [kindU]; simp_all)

theorem l6Deps_fn {g : Prg} (hs : szG g ≤ 1073741824) (hS : prgS g = true) (hL : (insG 0 g.2).length ≤ 120) : Fn Tryz.prog 36 [] [ad (rG g)] (.o (vD (dDs (depsG g)))) [] := by
 have hul := usL_len (g := g)
 refine Fn.code0 Tryz.func36 rfl rfl rfl rfl ?_
 refine .seq <| .region <| .cons (St1.boxP rfl rfl rfl rfl rfl rfl) <| .cons (.asg rfl rfl) <| .nil <| ks_n <| .seq <| .region <| .cons (St1.lit0 (k' := 108) (e := 51) (sz := 3) (b := true) rfl rfl rfl rfl (by kernel_rfl) rfl rfl) ?_
 refine .cons (.asg rfl rfl) <| .nil <| ks_n <| .seq <| .region <| .cons (.lN 2 rfl rfl rfl) <| .cons (.cP [.tmp 9] rfl rfl rfl rfl (l6Uses_fn hs hS) rfl) ?_
 refine .cons (.asg rfl rfl) <| .nil <| ks_n <| .seq <| .seq <| .region <| .cons (.asg rfl rfl) <| .nil <| ks_n <| .block ?_
 refine .loopK (fun m σ => (∃ (i : Nat) (o : List Dpn), m = (insG 0 g.2).length - i ∧ (i ≤ (insG 0 g.2).length) ∧ (depsN g i = o) ∧ (o.length ≤ 120 * i) ∧ σ = [(.t 1, .v (.o (.c (.ptr (rG g))))), (.t 3, .v (.o (.c (.own 110 3 (o.length))))), (.t 4, .v (.o (vD (dUs (usL g))))), (.t 5, .v (.o (nat1 (i : Nat)))), (.b 110, .b 51 3 (dR (o.map rD))), (.u 110, .u)])) [(110, 108)] ⟨0, [], rfl, by omega, rfl, by simp, rfl⟩ ⟨ks rfl .dt, ks rfl (.c .ow), ks rfl .dt, ks rfl .dt, kb 108 rfl (.dt rfl (by first | rfl | (simp [dR, rD, dI]; done) | (simp [dR, rD, dI]; rfl))), trivial⟩ ?_
 rintro m σ ⟨i, o, hm0, hi, hE, ho, rfl⟩
 refine .seq <| .seq <| .region <| .cons (.mv rfl rfl) <| .cons (.mv rfl rfl) <| .cons (.ln 119 2 32 rfl rfl rfl) <| .cons (.ls rfl rfl rfl) <| .nil <| ks_n ?_
 refine .cD rfl (fun h14 => ?_) (fun h14 => ?_)
 ·skip
  obtain ⟨x, hx1⟩ : ∃ x_, (insG 0 g.2)[i]? = some x_ := ⟨_, List.getElem?_eq_getElem (by omega)⟩
  obtain ⟨kx, cx, qx, hIx⟩ := ins_at hS (List.mem_of_getElem? hx1)
  have hlx := usR_len hIx
  refine .skip <| ks_n <| .seq <| .block <| .seq <| .region <| .cons (.mv rfl rfl) <| .cons (.pl rfl rfl rfl) <| .cons (.asg rfl rfl) <| .nil <| ks_n <| .block ?_
  refine .loopK (fun m σ => (∃ (k : Nat) (o2 : List Dpn), m = (insG 0 g.2).length - k ∧ (i + 1 ≤ k) ∧ (k ≤ (insG 0 g.2).length) ∧ (o ++ rowN g i k = o2) ∧ (o2.length ≤ 120 * i + k) ∧ σ = [(.t 1, .v (.o (.c (.ptr (rG g))))), (.t 3, .v (.o (.c (.own 120 3 (o2.length))))), (.t 4, .v (.o (vD (dUs (usL g))))), (.t 5, .v (.o (nat1 (i : Nat)))), (.t 6, .v (.o (nat1 (k : Nat)))), (.b 120, .b 51 3 (dR (o2.map rD))), (.u 120, .u)])) [(120, 110)] ⟨i + 1, o, rfl, by omega, by omega, by rw [rowN_zero, List.append_nil], by omega, rfl⟩ ⟨ks rfl .dt, ks rfl (.c .ow), ks rfl .dt, ks rfl .dt, ks rfl .dt, kb 110 rfl (.dt rfl (by first | rfl | (simp [dR, rD, dI]; done) | (simp [dR, rD, dI]; rfl))), trivial⟩ ?_
  rintro m σ ⟨k, o2, hm0, hk1, hk, hEi, ho2, rfl⟩
  refine .seq <| .seq <| .region <| .cons (.mv rfl rfl) <| .cons (.mv rfl rfl) <| .cons (.ln 119 2 32 rfl rfl rfl) <| .cons (.ls rfl rfl rfl) <| .nil <| ks_n ?_
  refine .cD rfl (fun h22 => ?_) (fun h22 => ?_)
  ·skip
   obtain ⟨y, hy1⟩ : ∃ x_, (insG 0 g.2)[k]? = some x_ := ⟨_, List.getElem?_eq_getElem (by omega)⟩
   obtain ⟨ky, cy, qy, hIy⟩ := ins_at hS (List.mem_of_getElem? hy1)
   have hly := usR_len hIy
   have hkb := kindN_bd (g := g) (i := i) (k := k)
   have hke := kindN_eq (usL_at hx1) (usL_at hy1)
   refine .skip <| ks_n <| .seq <| .block <| .seq ?_
   refine ACode.drawK (by kernel_rfl) (by kernel_rfl) ?_
   refine .cons (.mv rfl rfl) <| .cons (.mv rfl rfl) <| .cons (.xL 119 2 32 rfl rfl rfl rfl rfl (map_at (usL_at hx1))) ?_
   refine .cons (.lN 2 rfl rfl rfl) <| .cons (.mv rfl rfl) <| .cons (.mv rfl rfl) <| .cons (.xL 119 2 32 rfl rfl rfl rfl rfl (map_at (usL_at hy1))) ?_
   refine .cons (.lN 2 rfl rfl rfl) <| .cons (.cP [.tmp 28, .tmp 32] rfl rfl rfl rfl (l6Kinds_fn (usG g x) (usG g y) hlx hly) rfl) ?_
   refine .cons (.asg rfl rfl) ?_
   refine .nil ⟨by kernel_rfl, ?_⟩
   refine ks_n <| .seq ?_
   refine .keep [(.t 1, .v (.o (.c (.ptr (rG g))))), (.t 3, .v (.o (.c (.own 800 3 (o2.length))))), (.t 4, .v (.o (vD (dUs (usL g))))), (.t 5, .v (.o (nat1 (i : Nat)))), (.t 6, .v (.o (nat1 (k : Nat)))), (.t 7, .v (.o (nat1 (kindN g i k)))), (.b 800, .b 51 3 (dR (o2.map rD))), (.u 800, .u)] [(800, 120)] ⟨ks rfl .dt, ks rfl (.c .ow), ks rfl .dt, ks rfl .dt, ks rfl .dt, ks rfl (.dt (by rw [hke])), kb 120 rfl (.dt rfl (by first | rfl | (simp [dR, rD, dI]; done) | (simp [dR, rD, dI]; rfl))), trivial⟩ ?_
   refine .region <| .cons (.mv rfl rfl) <| .cons (.ne rfl rfl rfl) <| .nil <| ks_n ?_
   refine .cND rfl (fun h35 => ?_) (fun h35 => ?_)
   ·skip
    have hkn : kindN g i k ≠ 0 := by omega
    refine .region <| .cons (.mv rfl rfl) <| .cons (.mv rfl rfl) <| .cons (.mv rfl rfl) <| .cons (.mv rfl rfl) <| .cons (.bu [(0, .tmp 37), (1, .tmp 38), (2, .tmp 39)] [(0, 1), (1, 1), (2, 1)] [.int .i64 0, .int .i64 0, .int .i64 0] rfl rfl rfl rfl rfl) <| .cons (.li 51 2 0 [.tmp 40] rfl rfl rfl rfl rfl rfl) <| .cons (St1.appB (k' := 142) (e := 51) (sz := 2) (by' := 24) rfl rfl rfl rfl rfl (by kernel_rfl) rfl rfl rfl rfl (by first | (simp [dR]; done) | (simp [dR]; omega)) (by first | (simp [dR]; done) | (simp [dR]; omega)) rfl rfl rfl) ?_
    refine .cons (.asg rfl rfl) <| .nil <| kb_n <| ks_n <| .region <| .cons (.mv rfl rfl) <| .cons (.pl rfl rfl rfl) <| .cons (.asg rfl rfl) <| .nil ?_
    refine kl_k [(120, 142)] ⟨k + 1, o2 ++ [((i : Int), ((k : Nat) : Int), kindN g i k)], rfl, by omega, by omega, by rw [rowN_yes (by omega) hkn, ← List.append_assoc, hEi], by rw [List.length_append, List.length_singleton]; omega, rfl⟩ ⟨ks rfl .dt, ks rfl (.c .ow), ks rfl .dt, ks rfl .dt, ks rfl .dt, kb 142 rfl (.dt rfl (by first | rfl | (simp [dR, rD, dI]; done) | (simp [dR, rD, dI]; rfl))), trivial⟩
   ·skip
    have hkz : kindN g i k = 0 := by omega
    refine .skip <| kb_n <| ks_n <| .region <| .cons (.mv rfl rfl) <| .cons (.pl rfl rfl rfl) <| .cons (.asg rfl rfl) <| .nil ?_
    refine kl_k [(120, 800)] ⟨k + 1, o2, rfl, by omega, by omega, by rw [rowN_no hkz, hEi], by omega, rfl⟩ ⟨ks rfl .dt, ks rfl (.c .ow), ks rfl .dt, ks rfl .dt, ks rfl .dt, kb 800 rfl (.dt rfl (by first | rfl | (simp [dR, rD, dI]; done) | (simp [dR, rD, dI]; rfl))), trivial⟩
  ·skip
   obtain rfl : k = (insG 0 g.2).length := by omega
   refine .exit <| ks_e <| kl_e <| kb_hit <| kb_n <| ks_n <| .region <| .cons (.mv rfl rfl) <| .cons (.pl rfl rfl rfl) <| .cons (.asg rfl rfl) <| .nil ?_
   refine kl_k [(110, 120)] ⟨i + 1, o2, rfl, by omega, by rw [depsN_next, hE]; exact hEi, by omega, rfl⟩ ⟨ks rfl .dt, ks rfl (.c .ow), ks rfl .dt, ks rfl .dt, kb 120 rfl (.dt rfl (by first | rfl | (simp [dR, rD, dI]; done) | (simp [dR, rD, dI]; rfl))), trivial⟩
 ·skip
  obtain rfl : i = (insG 0 g.2).length := by omega
  refine .exit <| ks_e <| kl_e <| kb_hit <| ks_n <| .seq <| .region <| .cons (.mv rfl rfl) <| .cons (.asg rfl rfl) <| .nil <| ks_n <| .ret ?_
  refine kf_wret [(.t 2, .v (.o (vD (dDs (depsG g)))))] (Wk.keep [] rfl rfl ⟨ks rfl (.c (.fz rfl (by rw [depsG, hE]) (by rw [depsG, hE, List.length_map]) (by omega))), trivial⟩) rfl ?_ nobox
  rfl

section
variable {P : Program} {n : Nat} {ops : Array Oper} {o : Oper} {σ : St} {d : Nat} {t e : TypeId} {x y : Operand} {k sz by' m i : Nat} {p : Int} {rows : List (List C)}
theorem St1.sliceToB (h4 : (o.op, o.guard, o.dst, Nat.blt d n) = (Op.slice t x none (some y) none, none, some d, true)) (ht : tyS P t = some (e, sz, by')) (hx : ev σ x = some (.o (.c (.own k sz m)))) (hb : lk σ (.b k) = .b e sz rows) (hy : ev σ y = some (.o (nat1 p))) (hp : p = (i : Int)) (hi : i ≤ m) :
    St1 P n ops o σ ((rd x ++ rd y) ++ [.b k]) [.t d] ((.t d, .v (.o (.c (.own k sz i)))) :: σ) := by
  simp only [Prod.mk.injEq] at h4
  obtain ⟨ho, hg, hd, hn⟩ := h4
  exact St1.value hg hd hn fun E bx τ a w hR hs => by
    subst hp
    have hk : τ (.b k) = .b e sz rows := (rd_r hR _ (by simp)).trans hb
    obtain ⟨cap, e1, c1, c2, c3⟩ := ev_own hx (rd_l (rd_l hR)) hs (Al_of hk)
    obtain ⟨hu, _⟩ := tyS_out ht
    have hrefs := (ev_ok hx (rd_l (rd_l hR)) hs).2
    refine ⟨⟨.slice (some ⟨(bx k).1, 0, none⟩) i cap, ?_, ⟨rfl, fun _ => ⟨cap, rfl, by omega, c2, c3⟩⟩⟩, hrefs⟩
    have hbd : 0 ≤ (i : Int) ∧ (i : Int) ≤ (cap : Int) := by omega
    simp [execOp, ho, e1, ev_val hy (rd_r (rd_l hR)) hs, sliceAt_list ht, Instr.slice, run_underlying hu, Instr.sliceBounds, Instr.sliceBound, asIntOf, hbd, run_sizeE ht]
    rw [if_pos (by omega)]
    simp [Addr.add]
/-- What clear writes is cells. -/
def tyC (P : Program) (t : TypeId) : Bool := match P.underlying t with
  | some (.slice e) => match P.info? e with
    | some i => match i.zero with
      | some z => Nat.beq z.cells.size i.size && (Nat.blt 0 i.size && z.cells.toList.all fun v => v.oneCell')
      | none => false
    | none => false
  | _ => false
theorem zeroCells_ok {zs : Array Value} {q : Nat} (h0 : 0 < zs.size) (h : ∀ v ∈ zs.toList, v.oneCell' = true) : (Builtin.zeroCells zs q).toList.length = q * zs.size ∧ ∀ v ∈ (Builtin.zeroCells zs q).toList, v.oneCell' = true := by
  refine ⟨by simp [Builtin.zeroCells], fun v hv => ?_⟩
  simp only [Builtin.zeroCells, Array.toList_map, List.mem_map] at hv
  obtain ⟨j, _, rfl⟩ := hv
  have hj : j % zs.size < zs.size := Nat.mod_lt _ h0
  rw [getElem!_pos zs _ hj]
  exact h _ (Array.mem_toList_iff.2 (Array.getElem_mem hj))
theorem run_clear_own {w : World} {b q c s : Nat} {cur : Array Value} (hc : tyC P t = true) (ht : tyS P t = some (e, sz, by')) (hw : w.heap[b]? = some (.cells cur e (0, 0))) (hq : 0 < q) (hs : s + q * sz ≤ cur.size) {ty : TypeId} :
    ∃ vs : List Value, vs.length = q * sz ∧ (Builtin.clear_ #[t] ty #[.slice (some ⟨b, s, none⟩) q c]).run P w = .ok (.tuple #[]) (w.setCells b s vs) := by
  obtain ⟨hu, i, hi, hsz, _⟩ := tyS_out ht
  simp only [tyC, hu, hi] at hc
  cases hz : i.zero with
  | none => rw [hz] at hc; cases hc
  | some z =>
    rw [hz] at hc
    simp only [Bool.and_eq_true] at hc
    obtain ⟨h1, h2, h3⟩ := hc
    have h1' := Nat.eq_of_beq_eq_true h1
    have h2' : 0 < i.size := by simpa using h2
    obtain ⟨g1, g2⟩ := zeroCells_ok (zs := z.cells) (q := q) (by omega) (fun v hv => List.all_eq_true.1 h3 v hv)
    refine ⟨(Builtin.zeroCells z.cells q).toList, by rw [g1, h1', hsz], ?_⟩
    have hst := run_storeCells_cells (P := P) b s (Builtin.zeroCells z.cells q).toList 0 w (fun j hj => by rw [cell_of_row w _ _ _ _ _ hw, Array.getElem?_eq_getElem (by rw [g1, h1', hsz] at hj; omega)]; rfl) (fun j hj => by simp [World.frozen?, hw]) g2
    simp only [Nat.add_zero] at hst
    obtain ⟨q', rfl⟩ : ∃ q', q = q' + 1 := ⟨q - 1, by omega⟩
    simp [Builtin.clear_, run_underlying hu, zeroValue, typeInfo, hi, hz, hst]
theorem AOps.clrB {o1 o2 : Oper} {l : List Oper} {K : St → Prop} (h4 : (o1.op, o1.guard, o1.dst, Nat.blt d n) = (Op.slice t x (some y) none none, none, some d, true)) (h5 : (o2.op, o2.guard, o2.dst) = (Op.call { callee := .builtin .clear, args := #[.tmp d], argTypes := #[t] }, none, none))
    (ht : tyS P t = some (e, sz, by')) (hc : tyC P t = true) (hx : ev σ x = some (.o (.c (.own k sz m)))) (hb : lk σ (.b k) = .b e sz rows) (hm : rows.length = m) (hy : ev σ y = some (.o (nat1 p))) (hp : p = (i : Int)) (hi : i < m)
    (kk : AOps P n ops l K ((.b k, .b e sz (rows.take i)) :: (.t d, .no) :: σ)) : AOps P n ops (o1 :: o2 :: l) K σ := by
  simp only [Prod.mk.injEq] at h4 h5
  obtain ⟨ho, hg, hd, hn⟩ := h4
  obtain ⟨ho2, hg2, hd2⟩ := h5
  subst hp hm
  intro E bx a w hE hs Q hQ
  have hR : ∀ r, lk σ r = lk σ r := fun _ => rfl
  obtain ⟨cap, e1, c1, c2, c3⟩ := ev_own hx (fun _ _ => rfl) hs (Al_of hb)
  obtain ⟨hu, _⟩ := tyS_out ht
  obtain ⟨cur, b1, b2, b3, b4, b5⟩ := hs.box k e sz rows hb
  refine wpList_step fun KK hKK => ?_
  rw [if_pos (by simp [Region.wanted, hg])]
  unfold Oper.wp
  have hbd : 0 ≤ (i : Int) ∧ (i : Int) ≤ (rows.length : Int) := by omega
  have hrun : (execOp a.eval o1).run P w = .ok (.value (.slice (some ⟨(bx k).1, i * sz, none⟩) (rows.length - i) (cap - i))) w := by
    simp [execOp, ho, e1, ev_val hy (fun _ _ => rfl) hs, sliceAt_list ht, Instr.slice, run_underlying hu, Instr.sliceBounds, Instr.sliceBound, asIntOf, hbd, run_sizeE ht]
    rw [if_pos (by omega), if_neg (by omega)]
    simp [Addr.add]
    exact fun h => h.symm
  rw [hrun, Oper.upon_value, hd]
  refine hKK _ _ ?_
  have hdn : d < E.n := by rw [hE]; simpa using hn
  have hs1 : SR E bx (upd (lk σ) (.t d) .no) (a.put (some d) (.slice (some ⟨(bx k).1, i * sz, none⟩) (rows.length - i) (cap - i))) w := hs.drop _
  refine wpList_step fun KK2 hKK2 => ?_
  rw [if_pos (by simp [Region.wanted, hg2])]
  unfold Oper.wp
  have hle := Nat.mul_le_mul_right sz (show i ≤ rows.length by omega)
  have hsum : i * sz + (rows.length - i) * sz ≤ cur.size := by rw [Nat.sub_mul]; omega
  obtain ⟨vs, v1, v2⟩ := run_clear_own (P := P) (w := w) (b := (bx k).1) (q := rows.length - i) (c := cap - i) (s := i * sz) hc ht b1 (by omega) hsum (ty := o2.type)
  have hrun2 : (execOp (a.put (some d) (.slice (some ⟨(bx k).1, i * sz, none⟩) (rows.length - i) (cap - i))).eval o2).run P w = .ok (.value (.tuple #[])) (w.setCells (bx k).1 (i * sz) vs) := by
    have hda : d < a.tmps.size := by rw [hs.size]; exact hdn
    have hev : (a.put (some d) (.slice (some ⟨(bx k).1, i * sz, none⟩) (rows.length - i) (cap - i))).eval (.tmp d) = .slice (some ⟨(bx k).1, i * sz, none⟩) (rows.length - i) (cap - i) := by
      simp [Act.put, Act.eval, hda]
    simp only [execOp, ho2, resolve, invoke, builtin, Sem.run_bind, Sem.run_pure, Result.andThen_ok, List.map_toArray, List.map_cons, List.map_nil, hev, v2]
  rw [hrun2, Oper.upon_value, hd2]
  refine hKK2 _ _ ?_
  obtain ⟨cur', f1, f2, f3⟩ := heap_setCells (bx k).1 e vs (i * sz) w cur b1 (by rw [v1]; exact hsum)
  have hkb : upd (lk σ) (.t d) .no (.b k) = .b e sz rows := by rw [upd_other _ _ (by simp)]; exact hb
  have hnew := hs1.write (rows' := rows.take i) hkb (setCells_grown (bx k).1 vs (i * sz) w) f1 (by rw [f2, b2]) (by rw [List.length_take, f2]; exact Nat.le_trans (Nat.mul_le_mul_right sz (Nat.min_le_right _ _)) b3)
    (fun j r hj => by rw [List.getElem?_take] at hj; split at hj; · exact b4 j r hj
                      · cases hj)
    (fun j r q c hj hq => by
      have hj0 : j < i ∧ rows[j]? = some r := by
        rw [List.getElem?_take] at hj
        split at hj
        · exact ⟨by assumption, hj⟩
        · cases hj
      obtain ⟨u, u1, u2⟩ := b5 j r q c hj0.2 hq
      have hqs : q < sz := by have := b4 j r hj0.2; have := (List.getElem?_eq_some_iff.1 hq).1; omega
      have hmul := Nat.mul_le_mul_right sz (show j + 1 ≤ i by omega)
      rw [Nat.add_mul, Nat.one_mul] at hmul
      have hal := Al_upd_t (lk σ) d .no
      have hbf := Bf_upd_t (E := E) (bx := bx) (lk σ) d .no
      refine ⟨u, ?_, by rw [hal, hbf]; exact u2⟩
      rw [← Array.getElem?_toList, f3, List.append_assoc, List.getElem?_append_left (by rw [List.length_take, Array.length_toList]; omega), List.getElem?_take, if_pos (by omega), Array.getElem?_toList]
      exact u1)
    (fun r hr c hc' l hl => by
      rw [upd_other _ _ (by simp)]
      exact fun hu' => (hs.unused l hu').2.2 k e sz rows hb r (List.mem_of_mem_take hr) c hc' hl)
  refine kk E bx _ _ hE ?_ Q hQ
  have e9 : lk ((.b k, .b e sz (rows.take i)) :: (.t d, .no) :: σ) = upd (upd (lk σ) (.t d) .no) (.b k) (.b e sz (rows.take i)) := by rw [lk_cons, lk_cons]
  rw [e9]
  exact hnew
end
def hbT (k : Nat) (g : Prg) : St := [(.b k, .b 62 1 [[.ptr (rT g)]]), (.u k, .u)]
def hbD (g : Prg) (l : List Dpn) : St := [(.b 0, .b 51 3 (dR (l.map rD))), (.u 0, .u), (.b 1, .b 62 1 [[.ptr (rT g)]]), (.u 1, .u)]
theorem hbT_HB (k : Nat) (g : Prg) : HB (hbT k g) := HB.nil.cons (by
  intro r hr c hc l hl
  rw [List.mem_singleton.1 hr] at hc
  rw [List.mem_singleton.1 hc] at hl; cases hl)
theorem hbD_HB (g : Prg) (l : List Dpn) : HB (hbD g l) := (hbT_HB 1 g).data
theorem hbT_flat (k : Nat) (g : Prg) : flatS (hbT k g) := flatS.nil.cons rfl
theorem hbD_flat (g : Prg) (l : List Dpn) : flatS (hbD g l) := (hbT_flat 1 g).cons rfl
theorem outS_T {inv : Inv} {k : Nat} {g : Prg} : outS inv (hbT k g) = [(.b (asc inv k), .b 62 1 [[.ptr (rT g)]]), (.u (asc inv k), .u)] := rfl
theorem outS_D {inv : Inv} {g : Prg} {l : List Dpn} : outS inv (hbD g l) = [(.b (asc inv 0), .b 51 3 (dR (l.map rD))), (.u (asc inv 0), .u), (.b (asc inv 1), .b 62 1 [[.ptr (rT g)]]), (.u (asc inv 1), .u)] := by
  show [(Res.b (asc inv 0), RC.b _ 3 (renR (asc inv) (dR (l.map rD)))), (.u (asc inv 0), .u), (.b (asc inv 1), .b _ 1 [[.ptr (rT g)]]), (.u (asc inv 1), .u)] = _
  rw [renR_dR]
theorem hbT_num {g : Prg} {j : Nat} : ∀ k, k < 100 → Al (lk (hbT j g)) k → Al (lk (hbT j g)) k := fun _ _ h => h
theorem hbD_num {g : Prg} {l l' : List Dpn} : ∀ k, k < 100 → Al (lk (hbD g l')) k → Al (lk (hbD g l)) k := fun k _ h => by
  match k, h with
  | 0, _ => exact ⟨_, _, _, rfl⟩
  | 1, _ => exact ⟨_, _, _, rfl⟩
  | k + 2, ⟨e, sz, rows, h⟩ => cases h
theorem hbT_box {σ : St} {k0 : Nat} {g : Prg} (h : lk σ (.b k0) = .b 62 1 [[.ptr (rT g)]]) : ∀ k e sz rows, lk (hbT k0 g) (.b k) = .b e sz rows → lk σ (.b k) = .b e sz rows := one_box h
theorem hbD_box {σ : St} {g : Prg} {l : List Dpn} (h0 : lk σ (.b 0) = .b 51 3 (dR (l.map rD))) (h1 : lk σ (.b 1) = .b 62 1 [[.ptr (rT g)]]) : ∀ k e sz rows, lk (hbD g l) (.b k) = .b e sz rows → lk σ (.b k) = .b e sz rows := fun k e sz rows h => by
  match k, h with
  | 0, h => rw [h0]; exact h
  | 1, h => rw [h1]; exact h
  | k + 2, h => cases h
theorem red_fn {g : Prg} (hs : szG g ≤ 1073741824) (hS : prgS g = true) {n : Nat} {x : Ins} (hx : (insG 0 g.2)[n]? = some x) : ∃ k c q, InsOk g x k c q ∧ szS (stI g x) ≤ 1073741824 ∧ stmtV 4 (stI g x) = true := by
  obtain ⟨k, c, q, h⟩ := ins_at hS (List.mem_of_getElem? hx)
  have := stI_sz h
  exact ⟨k, c, q, h, by omega, stmtV_up h.sv⟩

theorem str1_fn {g : Prg} (hs : szG g ≤ 1073741824) (hS : prgS g = true) {d : Dpn} {i k : Nat} (h1 : d.1 = (i : Int)) (h2 : d.2.1 = (k : Int)) {x y : Ins} (hx : (insG 0 g.2)[i]? = some x) (hy : (insG 0 g.2)[k]? = some y) : Fn Tryz.prog 40 (hbT 0 g) [ad (rD d), .c (.box 0 1 0 0)] (.o (bo1 (redS g d))) (hbT 0 g) := by
 obtain ⟨kx, cx, qx, hIx, zx, vx⟩ := red_fn hs hS hx
 obtain ⟨ky, cy, qy, hIy, zy, vy⟩ := red_fn hs hS hy
 obtain ⟨a, b, c⟩ := d
 simp only at h1 h2
 subst h1 h2
 have hr := redS_eq (c := c) hx hy
 refine Fn.of_code Tryz.func40 rfl rfl (hbT_HB _ _) rfl rfl (hbT_HB _ _) rfl hbT_num ?_
 refine .seq <| .region <| .cons (St1.boxP rfl rfl rfl rfl rfl rfl) <| .cons (.asg rfl rfl) <| .nil <| ks_n <| .seq ?_
 refine ACode.drawK (by kernel_rfl) (by kernel_rfl) ?_
 refine .cons (.b1 1 rfl rfl rfl rfl rfl rfl) <| .cons (.nP rfl rfl) <| .cons (.fP 0 1 true rfl rfl) <| .cons (.lN 2 rfl rfl rfl) <| .cons (.b1 1 rfl rfl rfl rfl rfl rfl) <| .cons (.nP rfl rfl) <| .cons (.fP 2 0 false rfl rfl) <| .cons (.l1 1 rfl rfl) <| .cons (.fP 0 0 false rfl rfl) <| .cons (.l1 1 rfl rfl) <| .cons (.xL 82 3 40 (i := i) rfl rfl rfl rfl rfl (map_at hx)) ?_
 refine .cons (.lN 3 rfl rfl rfl) <| .cons (.cP [.tmp 9, .tmp 17] rfl rfl rfl rfl (stmt_fn hIx) rfl) ?_
 refine .cons (.b1 1 rfl rfl rfl rfl rfl rfl) <| .cons (.nP rfl rfl) <| .cons (.fP 0 1 true rfl rfl) <| .cons (.lN 2 rfl rfl rfl) <| .cons (.b1 1 rfl rfl rfl rfl rfl rfl) <| .cons (.nP rfl rfl) <| .cons (.fP 2 0 false rfl rfl) <| .cons (.l1 1 rfl rfl) <| .cons (.fP 1 0 false rfl rfl) <| .cons (.l1 1 rfl rfl) <| .cons (.xL 82 3 40 (i := k) rfl rfl rfl rfl rfl (map_at hy)) ?_
 refine .cons (.lN 3 rfl rfl rfl) <| .cons (.cP [.tmp 22, .tmp 30] rfl rfl rfl rfl (stmt_fn hIy) rfl) ?_
 refine .cons (.al 104 [.string ByteArray.empty, .slice none 0 0, .int .i64 0, .int .i64 0, .slice none 0 0, .int .i64 0, .string ByteArray.empty, .slice none 0 0, .slice none 0 0] rfl rfl rfl) <| .cons (.al 105 [.string ByteArray.empty, .slice none 0 0, .int .i64 0, .int .i64 0, .slice none 0 0, .int .i64 0, .string ByteArray.empty, .slice none 0 0, .slice none 0 0] rfl rfl rfl) <| .cons (.sT 9 true rfl rfl rfl rfl rfl rfl rfl) <| .cons (.sT 9 true rfl rfl rfl rfl rfl rfl rfl) ?_
 refine .nil ⟨by kernel_rfl, ?_⟩
 refine ks_n <| .seq <| .region <| .cons (.bN 9 rfl rfl rfl rfl rfl rfl) <| .cons (.cP [.tmp 32] rfl rfl rfl rfl (implRed_fn _ (by omega) vx) rfl) ?_
 refine .cons (.mv rfl rfl) ?_
 refine AOps.cases 34 _ rfl (fun g34 => ?_) (fun g34 => ?_)
 ·try simp only [zs1, zs2, zs3, zs4, zs5, zs6, zs7] at g34
  refine .cons (.gT rfl rfl rfl (.bN 9 rfl rfl rfl rfl rfl rfl)) <| .cons (.gT rfl rfl rfl (.cP [.tmp 35] rfl rfl rfl rfl (implRed_fn _ (by omega) vy) rfl)) ?_
  refine .cons (.pT rfl rfl rfl) <| .cons (.mv rfl rfl) ?_
  refine AOps.cases 38 _ rfl (fun g38 => ?_) (fun g38 => ?_)
  ·try simp only [zs1, zs2, zs3, zs4, zs5, zs6, zs7] at g38
   refine .cons (.gT rfl rfl rfl (.fB 0 1 true rfl rfl rfl)) <| .cons (.gT rfl rfl rfl (.fB 0 0 false rfl rfl rfl)) <| .cons (.gT rfl rfl rfl (.b1 1 rfl rfl rfl rfl rfl rfl)) <| .cons (.gT rfl rfl rfl (.fB 0 1 true rfl rfl rfl)) <| .cons (.gT rfl rfl rfl (.fB 0 0 false rfl rfl rfl)) <| .cons (.gT rfl rfl rfl (.b1 1 rfl rfl rfl rfl rfl rfl)) <| .cons (.gT rfl rfl rfl (St1.eqS rfl rfl rfl)) <| .cons (.pT rfl rfl rfl) <| .cons (.asg rfl rfl) <| .nil <| ks_n <| .ret ?_
   refine kf_ret rfl ?_ (hbT_box rfl)
   exact leafB (by rw [hr]; simp_all)
  ·try simp only [zs1, zs2, zs3, zs4, zs5, zs6, zs7] at g38
   refine .cons (.gF rfl rfl rfl) <| .cons (.gF rfl rfl rfl) <| .cons (.gF rfl rfl rfl) <| .cons (.gF rfl rfl rfl) <| .cons (.gF rfl rfl rfl) <| .cons (.gF rfl rfl rfl) <| .cons (.gF rfl rfl rfl) <| .cons (.pF rfl rfl rfl) <| .cons (.asg rfl rfl) <| .nil <| ks_n <| .ret ?_
   refine kf_ret rfl ?_ (hbT_box rfl)
   exact leafB (by rw [hr]; simp_all)
 ·try simp only [zs1, zs2, zs3, zs4, zs5, zs6, zs7] at g34
  refine .cons (.gF rfl rfl rfl) <| .cons (.gF rfl rfl rfl) <| .cons (.pF rfl rfl rfl) <| .cons (.mv rfl rfl) <| .cons (.gF rfl rfl rfl) <| .cons (.gF rfl rfl rfl) <| .cons (.gF rfl rfl rfl) <| .cons (.gF rfl rfl rfl) <| .cons (.gF rfl rfl rfl) <| .cons (.gF rfl rfl rfl) <| .cons (.gF rfl rfl rfl) <| .cons (.pF rfl rfl rfl) <| .cons (.asg rfl rfl) <| .nil <| ks_n <| .ret ?_
  refine kf_ret rfl ?_ (hbT_box rfl)
  exact leafB (by rw [hr]; simp_all)

theorem idxB_fn {f : FuncId} (hc : callable Tryz.prog f = true) {g : Prg} (p : Dpn → Bool) (l : List Dpn) (hl : l.length ≤ 1000000) (hf : ∀ x ∈ l, Fn Tryz.prog f (hbT 0 g) [ad (rD x), .c (.box 0 1 0 0)] (.o (bo1 (p x))) (hbT 0 g)) : Fn Tryz.prog 64 (hbD g l) [.c (.own 0 3 l.length), .c (.fb f 1 1)] (.o (nat1 (idxF p l))) (hbD g l) := by
 refine Fn.of_code Tryz.func64 rfl rfl (hbD_HB _ _) rfl rfl (hbD_HB _ _) rfl hbD_num ?_
 refine .seq <| .region <| .cons (.asg rfl rfl) <| .nil <| ks_n <| .seq <| .seq <| .region <| .cons (.mv rfl rfl) <| .cons (.lB 51 3 24 rfl rfl rfl rfl) <| .cons (.mv rfl rfl) <| .nil <| ks_n <| .block ?_
 refine .loopK (fun m σ => (∃ i : Nat, m = l.length - i ∧ (i ≤ l.length) ∧ (idxF p l = idxG p i (l.drop i)) ∧ σ = [(.t 0, .v (.o (.c (.own 0 3 (l.length))))), (.t 1, .v (.o (.c (.fb f 1 1)))), (.t 7, .v (.o (nat1 (l.length : Nat)))), (.t 8, .v (.o (nat1 (i : Nat)))), (.b 1, .b 62 1 ([[.ptr (rT g)]])), (.u 1, .u), (.b 0, .b 51 3 (dR (l.map rD))), (.u 0, .u)])) [(1, 1), (0, 0)] ⟨0, rfl, by omega, rfl, rfl⟩ ⟨ks rfl (.c .ow), ks rfl (.c (.fb _ _ _ _ (by first | decide | simp))), ks rfl .dt, ks rfl .dt, kb 1 rfl ((.cons (.cons (.ptr _ _ rfl) .nil) .nil)), kb 0 rfl (.dt rfl), trivial⟩ ?_
 rintro m σ ⟨i, hm0, hi, hF, rfl⟩
 refine .seq <| .region <| .cons (.ls rfl rfl rfl) <| .nil <| ks_n <| .seq ?_
 refine .cD rfl (fun h9 => ?_) (fun h9 => ?_)
 ·skip
  obtain ⟨x, hx1⟩ : ∃ x_, l[i]? = some x_ := ⟨_, List.getElem?_eq_getElem (by omega)⟩
  refine .skip <| ks_n <| .seq <| .block <| .seq <| .region <| .cons (.mv rfl rfl) <| .cons (.asg rfl rfl) <| .nil <| ks_n <| .seq <| .region <| .cons (.mv rfl rfl) <| .cons (.mv rfl rfl) <| .cons (.mv rfl rfl) <| .cons (.xB 51 3 24 rfl rfl rfl rfl rfl rfl (by omega)) ?_
  refine .cons (.bN 3 rfl rfl rfl rfl (dR_at (map_at hx1)) rfl) <| .cons (.cX [.tmp 15] [(0, 1)] rfl rfl rfl rfl rfl (hf x (List.mem_of_getElem? hx1)) rfl ⟨rfl, trivial⟩ (hbT_flat _ _) (hbT_flat _ _) (hbT_HB _ _) outS_T (hcall := hc)) ?_
  refine .nil <| ks_n ?_
  refine ACode.condT rfl (fun h16 => ?_) (fun h16 => ?_)
  ·try simp only [zs1, zs2, zs3, zs4, zs5, zs6, zs7] at h16
   refine .seq <| .region <| .cons (.mv rfl rfl) <| .cons (.asg rfl rfl) <| .nil <| ks_n <| .ret <| kb_r <| ks_r <| kl_r <| kb_r <| ks_r ?_
   refine kf_ret rfl ?_ (hbD_box rfl rfl)
   exact leafI (by rw [hF, idxG_drop hx1, h16]; rfl)
  ·try simp only [zs1, zs2, zs3, zs4, zs5, zs6, zs7] at h16
   refine .skip <| kb_n <| ks_n <| .region <| .cons (.pl rfl rfl rfl) <| .cons (.mv rfl rfl) <| .nil ?_
   refine kl_k [(1, 1), (0, 0)] ⟨i + 1, rfl, by omega, by rw [hF, idxG_drop hx1, h16]; rfl, rfl⟩ ⟨ks rfl (.c .ow), ks rfl (.c (.fb _ _ _ _ (by first | decide | simp))), ks rfl .dt, ks rfl .dt, kb 1 rfl ((.cons (.cons (.ptr _ _ rfl) .nil) .nil)), kb 0 rfl (.dt rfl), trivial⟩
 ·skip
  refine .exit <| ks_e <| kl_e <| kb_hit <| ks_n <| .seq <| .region <| .cons (.asg rfl rfl) <| .nil <| ks_n <| .ret ?_
  refine kf_ret rfl ?_ (hbD_box rfl rfl)
  exact leafI (by rw [hF, List.drop_of_length_le (by omega)]; rfl)

theorem idxN_fn {f : FuncId} {g : Prg} : Fn Tryz.prog 64 (hbT 1 g) [.c (.d (.val (.slice none 0 0))), .c (.fb f 1 1)] (.o (nat1 (-1))) (hbT 1 g) := by
  refine Fn.of_code Tryz.func64 rfl rfl (hbT_HB _ _) rfl rfl (hbT_HB _ _) rfl hbT_num ?_
  refine .seq <| .region <| .cons (.asg rfl rfl) <| .nil <| ks_n <| .seq <| .seq <| .region <| .cons (.mv rfl rfl) <| .cons (St1.lenN (e := 51) (m := 3) (by' := 24) rfl rfl rfl rfl rfl (by kernel_rfl) rfl) ?_
  refine .cons (.mv rfl rfl) <| .nil <| ks_n <| .block ?_
  refine .loopK (fun m σ => (∃ i : Nat, m = 0 ∧ (i = 0) ∧ σ = [(.t 0, .v (.o (.c (.d (.val (.slice none 0 0)))))), (.t 1, .v (.o (.c (.fb f 1 1)))), (.t 7, .v (.o (nat1 (0 : Nat)))), (.t 8, .v (.o (nat1 (i : Nat)))), (.b 1, .b 62 1 ([[.ptr (rT g)]])), (.u 1, .u)])) [(1, 1)] ⟨0, rfl, rfl, rfl⟩ ⟨ks rfl .dt, ks rfl (.c (.fb _ _ _ _ (by first | decide | simp))), ks rfl .dt, ks rfl .dt, kb 1 rfl ((.cons (.cons (.ptr _ _ rfl) .nil) .nil)), trivial⟩ ?_
  rintro m σ ⟨i, hm0, rfl, rfl⟩
  refine .seq <| .region <| .cons (.ls rfl rfl rfl) <| .nil <| ks_n <| .seq ?_
  refine .cD rfl (fun h9 => ?_) (fun h9 => ?_)
  · skip
    simp at h9
  · skip
    refine .exit <| ks_e <| kl_e <| kb_hit <| ks_n <| .seq <| .region <| .cons (.asg rfl rfl) <| .nil <| ks_n <| .ret ?_
    refine kf_ret rfl ?_ (hbT_box rfl)
    rfl

theorem idxG_ge {α : Type} {p : α → Bool} : ∀ {l : List α} {i : Nat}, idxG p i l = -1 ∧ (∀ x ∈ l, p x = false) ∨ ∃ j, idxG p i l = ((i + j : Nat) : Int) ∧ j < l.length ∧ (∀ t x, t < j → l[t]? = some x → p x = false) ∧ ∀ x, l[j]? = some x → p x = true
  | [], i => .inl ⟨rfl, fun x h => by cases h⟩
  | x :: l, i => by
    rw [idxG]
    cases h : p x with
    | true => exact .inr ⟨0, by simp, by simp, fun t x ht => absurd ht (by omega), fun y hy => by simp at hy; subst hy; exact h⟩
    | false =>
      rcases idxG_ge (p := p) (l := l) (i := i + 1) with ⟨h1, h2⟩ | ⟨j, h1, h2, h3, h4⟩
      · exact .inl ⟨by simpa using h1, fun y hy => (List.mem_cons.1 hy).elim (fun e => by rw [e]; exact h) (fun hy => h2 y hy)⟩
      · refine .inr ⟨j + 1, by simp only [Bool.false_eq_true, if_false]; rw [h1]; congr 1; omega, by simp; omega, fun t y ht hy => ?_, fun y hy => h4 y (by simpa using hy)⟩
        cases t with
        | zero => simp at hy; subst hy; exact h
        | succ t => exact h3 t y (by omega) (by simpa using hy)
theorem del_all {p : Dpn → Bool} {l : List Dpn} (h : idxF p l = -1) : (l.filter fun d => !p d) = l := by
  rw [List.filter_eq_self]
  rcases idxG_ge (p := p) (l := l) (i := 0) with ⟨_, h2⟩ | ⟨j, h1, _⟩
  · intro x hx; rw [h2 x hx]; rfl
  · rw [idxF, h1] at h; omega
theorem del_some {p : Dpn → Bool} {l : List Dpn} (h : ¬ idxF p l = -1) : ∃ j : Nat, idxF p l = (j : Int) ∧ j < l.length ∧ (∀ t x, t < j → l[t]? = some x → p x = false) ∧ ∀ x, l[j]? = some x → p x = true := by
  rcases idxG_ge (p := p) (l := l) (i := 0) with ⟨h1, _⟩ | ⟨j, h1, h2, h3, h4⟩
  · exact absurd h1 h
  · exact ⟨j, by rw [idxF, h1]; congr 1; omega, h2, h3, h4⟩
def keepN (p : Dpn → Bool) (l : List Dpn) (j : Nat) : List Dpn := (l.take j).filter fun d => !p d
theorem keepN_len {p : Dpn → Bool} {l : List Dpn} {j : Nat} : (keepN p l j).length ≤ j := Nat.le_trans (List.length_filter_le _ _) (by simp; omega)
theorem keepN_next {p : Dpn → Bool} {l : List Dpn} {j : Nat} {x : Dpn} (h : l[j]? = some x) : keepN p l (j + 1) = if p x = true then keepN p l j else keepN p l j ++ [x] := by
  rw [keepN, List.take_add_one, h, List.filter_append]
  cases hp : p x <;> simp [keepN, hp]
theorem keepN_all {p : Dpn → Bool} {l : List Dpn} {j : Nat} (h : ∀ t x, t < j → l[t]? = some x → p x = false) : keepN p l j = l.take j := by
  rw [keepN, List.filter_eq_self]
  intro x hx
  obtain ⟨t, ht⟩ := List.mem_iff_getElem?.1 hx
  rw [List.getElem?_take] at ht
  split at ht
  · rename_i h1; rw [h t x h1 ht]; rfl
  · cases ht
def rowsN (p : Dpn → Bool) (l : List Dpn) (j : Nat) : List Dpn := keepN p l j ++ l.drop (keepN p l j).length
theorem rowsN_len {p : Dpn → Bool} {l : List Dpn} {j : Nat} (h : j ≤ l.length) : (rowsN p l j).length = l.length := by
  have := keepN_len (p := p) (l := l) (j := j)
  rw [rowsN, List.length_append, List.length_drop]; omega
theorem rowsN_at {p : Dpn → Bool} {l : List Dpn} {j : Nat} {x : Dpn} (h : l[j]? = some x) : (rowsN p l j)[j]? = some x := by
  have := keepN_len (p := p) (l := l) (j := j)
  rw [rowsN, List.getElem?_append_right this, List.getElem?_drop, show (keepN p l j).length + (j - (keepN p l j).length) = j by omega, h]
theorem rowsN_skip {p : Dpn → Bool} {l : List Dpn} {j : Nat} {x : Dpn} (h : l[j]? = some x) (hp : p x = true) : rowsN p l (j + 1) = rowsN p l j := by rw [rowsN, keepN_next h, if_pos hp]; rfl
theorem rowsN_set {p : Dpn → Bool} {l : List Dpn} {j : Nat} {x : Dpn} (h : l[j]? = some x) (hp : p x = false) : rowsN p l (j + 1) = (rowsN p l j).set (keepN p l j).length x := by
  have h1 := keepN_len (p := p) (l := l) (j := j)
  have h2 := (List.getElem?_eq_some_iff.1 h).1
  rw [rowsN, keepN_next h, if_neg (by rw [hp]; simp), rowsN, List.set_append_right _ _ (Nat.le_refl _), Nat.sub_self, List.length_append, List.length_singleton, List.append_assoc]
  congr 1
  rw [List.drop_eq_getElem_cons (by omega : (keepN p l j).length < l.length), List.set_cons_zero]; rfl
theorem rowsN_take {p : Dpn → Bool} {l : List Dpn} {j : Nat} : (rowsN p l j).take (keepN p l j).length = keepN p l j := by rw [rowsN, List.take_left]
theorem dR_setD (l : List Dpn) (i : Nat) (x y : Dpn) : (dR (l.map rD)).set i (place1 ((rD x).map C.d) 0 (ad (rD y)).cells) = dR ((l.set i y).map rD) := by
  unfold dR
  rw [List.map_set, List.map_set]
  rfl
theorem dR_takeD (l : List (List D)) (i : Nat) : (dR l).take i = dR (l.take i) := by rw [dR, dR, List.map_take]

theorem del_fn {f : FuncId} (hc : callable Tryz.prog f = true) {g : Prg} (p : Dpn → Bool) (l : List Dpn) (hl : l.length ≤ 1000000) (hf : ∀ x ∈ l, Fn Tryz.prog f (hbT 0 g) [ad (rD x), .c (.box 0 1 0 0)] (.o (bo1 (p x))) (hbT 0 g)) : Fn Tryz.prog 38 (hbD g l) [.c (.own 0 3 l.length), .c (.fb f 1 1)] (.o (.c (.own 0 3 (l.filter fun d => !p d).length))) (hbD g (l.filter fun d => !p d)) := by
 refine Fn.of_code Tryz.func38 rfl rfl (hbD_HB _ _) rfl rfl (hbD_HB _ _) rfl hbD_num ?_
 refine .seq <| .region <| .cons (.asg rfl rfl) <| .nil <| ks_n <| .seq <| .region <| .cons (.mv rfl rfl) <| .cons (.mv rfl rfl) <| .cons (.cO [.tmp 8, .tmp 9] [(0, 0), (1, 1)] rfl rfl rfl rfl (idxB_fn hc p l hl hf) rfl ⟨(by rw [renR_dR]; rfl), rfl, trivial⟩ (hbD_flat _ _) (hbD_flat _ _) (hbD_HB _ _) outS_D) ?_
 refine .cons (.asg rfl rfl) <| .nil <| ks_n <| .seq <| .seq <| .region <| .cons (.mv rfl rfl) <| .cons (.eq rfl rfl rfl) <| .nil <| ks_n ?_
 refine .cD rfl (fun h12 => ?_) (fun h12 => ?_)
 ·skip
  have hall := del_all h12
  refine .seq <| .region <| .cons (.mv rfl rfl) <| .cons (.asg rfl rfl) <| .nil <| ks_n <| .ret <| ks_r ?_
  refine kf_wret [(.t 4, .v (.o (.c (.own 0 3 ((l.filter fun d => !p d).length))))), (.b 1, .b 62 1 ([[.ptr (rT g)]])), (.u 1, .u), (.b 0, .b 51 3 (dR ((l.filter fun d => !p d).map rD))), (.u 0, .u)] (Wk.keep [(1, 1), (0, 0)] rfl rfl ⟨ks rfl (.c (.ow (by first | (rw [hall]; done) | (rw [keepN, List.take_length]; done)))), kb 1 rfl ((.cons (.cons (.ptr _ _ rfl) .nil) .nil)), kb 0 rfl (.dt rfl (by first | (rw [hall]; done) | (rw [dR_takeD, ← List.map_take, rowsN_take, keepN, List.take_length]; done))), trivial⟩) rfl ?_ (hbD_box rfl rfl)
  rfl
 ·skip
  obtain ⟨i0, hi0, hil, hall, hone⟩ := del_some h12
  obtain ⟨x0, hx0⟩ : ∃ x, l[i0]? = some x := ⟨_, List.getElem?_eq_getElem hil⟩
  have hk0 : keepN p l (i0 + 1) = l.take i0 := by rw [keepN_next hx0, if_pos (hone x0 hx0), keepN_all hall]
  have hk0l : (keepN p l (i0 + 1)).length = i0 := by rw [hk0, List.length_take]; omega
  have hr0 : rowsN p l (i0 + 1) = l := by rw [rowsN, hk0l, hk0, List.take_append_drop]
  refine .skip <| ks_n <| .seq <| .seq <| .region <| .cons (.mv rfl rfl) <| .cons (.pl rfl rfl rfl) <| .cons (.asg rfl rfl) <| .nil <| ks_n <| .block ?_
  refine .loopK (fun m σ => (∃ j : Nat, m = l.length - j ∧ (j ≤ l.length) ∧ ((keepN p l j).length < j) ∧ σ = [(.t 0, .v (.o (.c (.own 0 3 (l.length))))), (.t 1, .v (.o (.c (.fb f 1 1)))), (.t 5, .v (.o (nat1 ((keepN p l j).length : Nat)))), (.t 6, .v (.o (nat1 (j : Nat)))), (.b 1, .b 62 1 ([[.ptr (rT g)]])), (.u 1, .u), (.b 0, .b 51 3 (dR ((rowsN p l j).map rD))), (.u 0, .u)])) [(1, 1), (0, 0)] ⟨i0 + 1, rfl, by omega, by omega, rfl⟩ ⟨ks rfl (.c .ow), ks rfl (.c (.fb _ _ _ _ (by first | decide | simp))), ks rfl (.dt (vI (by first | omega | (rw [hi0, hk0l]; done) | (rw [hkn]; done) | (rw [hkn, List.length_append, List.length_singleton]; omega) | (rw [hi0]; omega)))), ks rfl .dt, kb 1 rfl ((.cons (.cons (.ptr _ _ rfl) .nil) .nil)), kb 0 rfl (.dt rfl (by first | rfl | (rw [hr0]; done) | (rw [rowsN_skip hx1 hpx]; done) | (rw [rowsN_set hx1 hpx]; exact dR_setD _ _ _ _))), trivial⟩ ?_
  rintro m σ ⟨j, hm0, hj, hkl, rfl⟩
  refine .seq <| .seq <| .region <| .cons (.mv rfl rfl) <| .cons (.mv rfl rfl) <| .cons (.lB 51 3 24 rfl rfl rfl rfl) <| .cons (.ls rfl rfl rfl) <| .nil <| ks_n ?_
  refine .cD rfl (fun h19 => ?_) (fun h19 => ?_)
  ·skip
   obtain ⟨x, hx1⟩ : ∃ x_, l[j]? = some x_ := ⟨_, List.getElem?_eq_getElem (by omega)⟩
   refine .skip <| ks_n <| .seq <| .block <| .seq <| .region <| .cons (.mv rfl rfl) <| .cons (.mv rfl rfl) <| .cons (.xB 51 3 24 rfl rfl rfl rfl rfl rfl (by omega)) ?_
   refine .cons (.bN 3 rfl rfl rfl rfl (dR_at (map_at (rowsN_at hx1))) rfl) <| .cons (.al 107 [.int .i64 0, .int .i64 0, .int .i64 0] rfl rfl rfl) <| .cons (.sT 3 true rfl rfl rfl rfl rfl rfl rfl) <| .nil <| ks_n <| .seq <| .region <| .cons (.mv rfl rfl) <| .cons (.bN 3 rfl rfl rfl rfl rfl rfl) <| .cons (.cX [.tmp 27] [(0, 1)] rfl rfl rfl rfl rfl (hf x (List.mem_of_getElem? hx1)) rfl ⟨rfl, trivial⟩ (hbT_flat _ _) (hbT_flat _ _) (hbT_HB _ _) outS_T (hcall := hc)) ?_
   refine .cons (.nt rfl rfl) <| .nil <| ks_n ?_
   refine ACode.condT rfl (fun h29 => ?_) (fun h29 => ?_)
   ·try simp only [zs1, zs2, zs3, zs4, zs5, zs6, zs7] at h29
    have hpx : p x = false := by first | assumption | simp_all
    have hkn : keepN p l (j + 1) = keepN p l j ++ [x] := by rw [keepN_next hx1, if_neg (by rw [hpx]; simp)]
    obtain ⟨y, hy1⟩ : ∃ y, (rowsN p l j)[(keepN p l j).length]? = some y := ⟨_, List.getElem?_eq_getElem (by rw [rowsN_len hj]; omega)⟩
    refine .seq <| .region <| .cons (.mv rfl rfl) <| .cons (.mv rfl rfl) <| .cons (.bN 3 rfl rfl rfl rfl rfl rfl) <| .cons (.xB 51 3 24 (i := (keepN p l j).length) rfl rfl rfl rfl rfl rfl (by omega)) ?_
    refine .cons (.sT 3 true rfl rfl rfl rfl (dR_at (map_at hy1)) rfl rfl) <| .nil <| ks_n <| .region <| .cons (.mv rfl rfl) <| .cons (.pl rfl rfl rfl) <| .cons (.asg rfl rfl) <| .nil <| kb_n <| ks_n <| .region <| .cons (.mv rfl rfl) <| .cons (.pl rfl rfl rfl) <| .cons (.asg rfl rfl) <| .nil ?_
    refine kl_k [(1, 1), (0, 0)] ⟨j + 1, rfl, by omega, by rw [hkn]; first | omega | (rw [List.length_append, List.length_singleton]; omega), rfl⟩ ⟨ks rfl (.c .ow), ks rfl (.c (.fb _ _ _ _ (by first | decide | simp))), ks rfl (.dt (vI (by first | omega | (rw [hi0, hk0l]; done) | (rw [hkn]; done) | (rw [hkn, List.length_append, List.length_singleton]; omega) | (rw [hi0]; omega)))), ks rfl .dt, kb 1 rfl ((.cons (.cons (.ptr _ _ rfl) .nil) .nil)), kb 0 rfl (.dt rfl (by first | rfl | (rw [hr0]; done) | (rw [rowsN_skip hx1 hpx]; done) | (rw [rowsN_set hx1 hpx]; exact dR_setD _ _ _ _))), trivial⟩
   ·try simp only [zs1, zs2, zs3, zs4, zs5, zs6, zs7] at h29
    have hpx : p x = true := by first | assumption | simp_all
    have hkn : keepN p l (j + 1) = keepN p l j := by rw [keepN_next hx1, if_pos hpx]
    refine .skip <| kb_n <| ks_n <| .region <| .cons (.mv rfl rfl) <| .cons (.pl rfl rfl rfl) <| .cons (.asg rfl rfl) <| .nil ?_
    refine kl_k [(1, 1), (0, 0)] ⟨j + 1, rfl, by omega, by rw [hkn]; first | omega | (rw [List.length_append, List.length_singleton]; omega), rfl⟩ ⟨ks rfl (.c .ow), ks rfl (.c (.fb _ _ _ _ (by first | decide | simp))), ks rfl (.dt (vI (by first | omega | (rw [hi0, hk0l]; done) | (rw [hkn]; done) | (rw [hkn, List.length_append, List.length_singleton]; omega) | (rw [hi0]; omega)))), ks rfl .dt, kb 1 rfl ((.cons (.cons (.ptr _ _ rfl) .nil) .nil)), kb 0 rfl (.dt rfl (by first | rfl | (rw [hr0]; done) | (rw [rowsN_skip hx1 hpx]; done) | (rw [rowsN_set hx1 hpx]; exact dR_setD _ _ _ _))), trivial⟩
  ·skip
   obtain rfl : j = l.length := by omega
   refine .exit <| ks_e <| kl_e <| kb_hit <| ks_n <| .seq <| .region <| .cons (.mv rfl rfl) <| .cons (.mv rfl rfl) ?_
   refine .clrB (e := 51) (sz := 3) (by' := 24) (i := (keepN p l l.length).length) rfl rfl rfl (by kernel_rfl) rfl rfl (by rw [dR_len, List.length_map, rowsN_len (Nat.le_refl _)]) rfl (by first | rfl | omega) (by omega) ?_
   refine .nil <| ks_n <| .seq <| .region <| .cons (.mv rfl rfl) <| .cons (.mv rfl rfl) <| .cons (St1.sliceToB (e := 51) (sz := 3) (by' := 24) (i := (keepN p l l.length).length) rfl rfl rfl rfl rfl (by first | rfl | omega) (by omega)) ?_
   refine .cons (.asg rfl rfl) <| .nil <| ks_n <| .ret ?_
   refine kf_wret [(.t 4, .v (.o (.c (.own 0 3 ((l.filter fun d => !p d).length))))), (.b 1, .b 62 1 ([[.ptr (rT g)]])), (.u 1, .u), (.b 0, .b 51 3 (dR ((l.filter fun d => !p d).map rD))), (.u 0, .u)] (Wk.keep [(1, 1), (0, 0)] rfl rfl ⟨ks rfl (.c (.ow (by first | (rw [hall]; done) | (rw [keepN, List.take_length]; done)))), kb 1 rfl ((.cons (.cons (.ptr _ _ rfl) .nil) .nil)), kb 0 rfl (.dt rfl (by first | (rw [hall]; done) | (rw [dR_takeD, ← List.map_take, rowsN_take, keepN, List.take_length]; done))), trivial⟩) rfl ?_ (hbD_box rfl rfl)
   rfl
theorem deps_own {g : Prg} (hS : prgS g = true) (hL : (insG 0 g.2).length ≤ 120) (hz : depsG g ≠ []) : Fn Tryz.prog 39 [] [.c (.ptr (rT g))] (.o (.c (.own 100 3 (depsG g).length))) [(.b 100, .b 51 3 (dR ((depsG g).map rD))), (.u 100, .u)] := by
  refine Fn.of_code Tryz.func39 rfl rfl HB.nil rfl rfl HB.nil.data rfl (one_num rfl) ?_
  refine .seq <| .region <| .cons (.asg rfl rfl) <| .nil <| ks_n <| .seq <| .region <| .cons (.asg rfl rfl) <| .nil <| ks_n <| .seq <| .seq <| .region <| .cons (.mv rfl rfl) <| .cons (.nP rfl rfl) <| .cons (.fP 2 0 false rfl rfl) <| .cons (.l1 1 rfl rfl) <| .cons (.ln 82 3 40 rfl rfl rfl) <| .cons (.mv rfl rfl) <| .nil <| ks_n <| .block ?_
  refine .loopK (fun m σ => (∃ i : Nat, m = (insG 0 g.2).length - i ∧ (i ≤ (insG 0 g.2).length) ∧ (depsN g i = []) ∧ σ = [(.t 0, .v (.o (.c (.ptr (rT g))))), (.t 3, .v (.o (.c (.d (.val (.slice none 0 0)))))), (.t 10, .v (.o (vD (dNs (insG 0 g.2))))), (.t 11, .v (.o (nat1 ((insG 0 g.2).length : Nat)))), (.t 12, .v (.o (nat1 (i : Nat))))]) ∨ (∃ (i : Nat) (o : List Dpn), m = (insG 0 g.2).length - i ∧ (i ≤ (insG 0 g.2).length) ∧ (depsN g i = o) ∧ (o.length ≤ 120 * i) ∧ (o ≠ []) ∧ σ = [(.t 0, .v (.o (.c (.ptr (rT g))))), (.t 3, .v (.o (.c (.own 110 3 (o.length))))), (.t 10, .v (.o (vD (dNs (insG 0 g.2))))), (.t 11, .v (.o (nat1 ((insG 0 g.2).length : Nat)))), (.t 12, .v (.o (nat1 (i : Nat)))), (.b 110, .b 51 3 (dR (o.map rD))), (.u 110, .u)])) [] (.inl ⟨0, rfl, by omega, rfl, rfl⟩) ⟨ks rfl .dt, ks rfl .dt, ks rfl .dt, ks rfl .dt, ks rfl .dt, trivial⟩ ?_
  rintro m σ (⟨i, hm0, hi, hE, rfl⟩ | ⟨i, o, hm0, hi, hE, ho, hn1, rfl⟩)
  · skip
    refine .seq <| .region <| .cons (.ls rfl rfl rfl) <| .nil <| ks_n <| .seq ?_
    refine .cD rfl (fun h13 => ?_) (fun h13 => ?_)
    · skip
      obtain ⟨x, hx1⟩ : ∃ x_, (insG 0 g.2)[i]? = some x_ := ⟨_, List.getElem?_eq_getElem (by omega)⟩
      obtain ⟨kx, cx, qx, hIx⟩ := ins_at hS (List.mem_of_getElem? hx1)
      have hlx := usR_len hIx
      refine .skip <| ks_n <| .seq <| .block <| .seq <| .region <| .cons (.mv rfl rfl) <| .cons (.asg rfl rfl) <| .nil <| ks_n <| .seq <| .region <| .cons (.mv rfl rfl) <| .cons (.pl rfl rfl rfl) <| .cons (.asg rfl rfl) <| .nil <| ks_n <| .block ?_
      refine .loopK (fun m σ => (∃ k : Nat, m = (insG 0 g.2).length - k ∧ (i + 1 ≤ k) ∧ (k ≤ (insG 0 g.2).length) ∧ (rowN g i k = []) ∧ σ = [(.t 0, .v (.o (.c (.ptr (rT g))))), (.t 3, .v (.o (.c (.d (.val (.slice none 0 0)))))), (.t 4, .v (.o (nat1 (i : Nat)))), (.t 5, .v (.o (nat1 (k : Nat)))), (.t 10, .v (.o (vD (dNs (insG 0 g.2))))), (.t 11, .v (.o (nat1 ((insG 0 g.2).length : Nat)))), (.t 12, .v (.o (nat1 (i : Nat))))]) ∨ (∃ (k : Nat) (o2 : List Dpn), m = (insG 0 g.2).length - k ∧ (i + 1 ≤ k) ∧ (k ≤ (insG 0 g.2).length) ∧ ([] ++ rowN g i k = o2) ∧ (o2.length ≤ 120 * i + k) ∧ (o2 ≠ []) ∧ σ = [(.t 0, .v (.o (.c (.ptr (rT g))))), (.t 3, .v (.o (.c (.own 120 3 (o2.length))))), (.t 4, .v (.o (nat1 (i : Nat)))), (.t 5, .v (.o (nat1 (k : Nat)))), (.t 10, .v (.o (vD (dNs (insG 0 g.2))))), (.t 11, .v (.o (nat1 ((insG 0 g.2).length : Nat)))), (.t 12, .v (.o (nat1 (i : Nat)))), (.b 120, .b 51 3 (dR (o2.map rD))), (.u 120, .u)])) [] (.inl ⟨i + 1, rfl, by omega, by omega, rowN_zero, rfl⟩) ⟨ks rfl .dt, ks rfl .dt, ks rfl .dt, ks rfl .dt, ks rfl .dt, ks rfl .dt, ks rfl .dt, trivial⟩ ?_
      rintro m σ (⟨k, hm0, hk1, hk, hEi, rfl⟩ | ⟨k, o2, hm0, hk1, hk, hEi, ho2, hn2, rfl⟩)
      · skip
        refine .seq <| .seq <| .region <| .cons (.mv rfl rfl) <| .cons (.mv rfl rfl) <| .cons (.nP rfl rfl) <| .cons (.fP 2 0 false rfl rfl) <| .cons (.l1 1 rfl rfl) <| .cons (.ln 82 3 40 rfl rfl rfl) <| .cons (.ls rfl rfl rfl) <| .nil <| ks_n ?_
        refine .cD rfl (fun h23 => ?_) (fun h23 => ?_)
        · skip
          obtain ⟨y, hy1⟩ : ∃ x_, (insG 0 g.2)[k]? = some x_ := ⟨_, List.getElem?_eq_getElem (by omega)⟩
          obtain ⟨ky, cy, qy, hIy⟩ := ins_at hS (List.mem_of_getElem? hy1)
          have hly := usR_len hIy
          have hkb := kindN_bd (g := g) (i := i) (k := k)
          refine .skip <| ks_n <| .seq <| .block <| .seq <| .region <| .cons (.mv rfl rfl) <| .cons (.mv rfl rfl) <| .cons (.mv rfl rfl) <| .cons (.cP [.tmp 26, .tmp 27, .tmp 28] rfl rfl rfl rfl (between_fn hx1 hy1 hlx hly) rfl) ?_
          refine .cons (.asg rfl rfl) <| .nil <| ks_n <| .seq <| .region <| .cons (.mv rfl rfl) <| .cons (.gt rfl rfl rfl) <| .nil <| ks_n ?_
          refine .cD rfl (fun h31 => ?_) (fun h31 => ?_)
          · skip
            have hkn : kindN g i k ≠ 0 := by omega
            refine .region <| .cons (.mv rfl rfl) <| .cons (.mv rfl rfl) <| .cons (.mv rfl rfl) <| .cons (.mv rfl rfl) <| .cons (.bu [(0, .tmp 33), (1, .tmp 34), (2, .tmp 35)] [(0, 1), (1, 1), (2, 1)] [.int .i64 0, .int .i64 0, .int .i64 0] rfl rfl rfl rfl rfl) <| .cons (.li 51 2 0 [.tmp 36] rfl rfl rfl rfl rfl rfl) <| .cons (St1.appN (k' := 138) (e := 51) (sz := 2) (by' := 24) rfl rfl rfl rfl rfl (by kernel_rfl) rfl rfl rfl (by simp) (by first | (simp [dR]; done) | (simp [dR]; omega)) rfl rfl) ?_
            refine .cons (.asg rfl rfl) <| .nil <| kb_n <| ks_n <| .region <| .cons (.mv rfl rfl) <| .cons (.pl rfl rfl rfl) <| .cons (.asg rfl rfl) <| .nil ?_
            refine kl_k [(120, 138)] (.inr ⟨k + 1, [((i : Int), ((k : Nat) : Int), kindN g i k)], rfl, by omega, by omega, by rw [rowN_yes (by omega) hkn, hEi]; rfl, by simp; omega, by simp, rfl⟩) ⟨ks rfl .dt, ks rfl (.c .ow), ks rfl .dt, ks rfl .dt, ks rfl .dt, ks rfl .dt, ks rfl .dt, kb 138 rfl (.dt rfl (by first | rfl | (simp [dR, rD, dI]; done) | (simp [dR, rD, dI]; rfl))), trivial⟩
          · skip
            have hkz : kindN g i k = 0 := by omega
            refine .skip <| kb_n <| ks_n <| .region <| .cons (.mv rfl rfl) <| .cons (.pl rfl rfl rfl) <| .cons (.asg rfl rfl) <| .nil ?_
            refine kl_k [] (.inl ⟨k + 1, rfl, by omega, by omega, by rw [rowN_no hkz, hEi], rfl⟩) ⟨ks rfl .dt, ks rfl .dt, ks rfl .dt, ks rfl .dt, ks rfl .dt, ks rfl .dt, ks rfl .dt, trivial⟩
        · skip
          obtain rfl : k = (insG 0 g.2).length := by omega
          refine .exit <| ks_e <| kl_e <| kb_hit <| kb_n <| ks_n <| .region <| .cons (.pl rfl rfl rfl) <| .cons (.mv rfl rfl) <| .nil ?_
          refine kl_k [] (.inl ⟨i + 1, rfl, by omega, by rw [depsN_next, hE, hEi]; rfl, rfl⟩) ⟨ks rfl .dt, ks rfl .dt, ks rfl .dt, ks rfl .dt, ks rfl .dt, trivial⟩
      · skip
        refine .seq <| .seq <| .region <| .cons (.mv rfl rfl) <| .cons (.mv rfl rfl) <| .cons (.nP rfl rfl) <| .cons (.fP 2 0 false rfl rfl) <| .cons (.l1 1 rfl rfl) <| .cons (.ln 82 3 40 rfl rfl rfl) <| .cons (.ls rfl rfl rfl) <| .nil <| ks_n ?_
        refine .cD rfl (fun h23 => ?_) (fun h23 => ?_)
        · skip
          obtain ⟨y, hy1⟩ : ∃ x_, (insG 0 g.2)[k]? = some x_ := ⟨_, List.getElem?_eq_getElem (by omega)⟩
          obtain ⟨ky, cy, qy, hIy⟩ := ins_at hS (List.mem_of_getElem? hy1)
          have hly := usR_len hIy
          have hkb := kindN_bd (g := g) (i := i) (k := k)
          refine .skip <| ks_n <| .seq <| .block <| .seq <| .region <| .cons (.mv rfl rfl) <| .cons (.mv rfl rfl) <| .cons (.mv rfl rfl) <| .cons (.cP [.tmp 26, .tmp 27, .tmp 28] rfl rfl rfl rfl (between_fn hx1 hy1 hlx hly) rfl) ?_
          refine .cons (.asg rfl rfl) <| .nil <| ks_n <| .seq <| .region <| .cons (.mv rfl rfl) <| .cons (.gt rfl rfl rfl) <| .nil <| ks_n ?_
          refine .cD rfl (fun h31 => ?_) (fun h31 => ?_)
          · skip
            have hkn : kindN g i k ≠ 0 := by omega
            refine .region <| .cons (.mv rfl rfl) <| .cons (.mv rfl rfl) <| .cons (.mv rfl rfl) <| .cons (.mv rfl rfl) <| .cons (.bu [(0, .tmp 33), (1, .tmp 34), (2, .tmp 35)] [(0, 1), (1, 1), (2, 1)] [.int .i64 0, .int .i64 0, .int .i64 0] rfl rfl rfl rfl rfl) <| .cons (.li 51 2 0 [.tmp 36] rfl rfl rfl rfl rfl rfl) <| .cons (St1.appB (k' := 138) (e := 51) (sz := 2) (by' := 24) rfl rfl rfl rfl rfl (by kernel_rfl) rfl rfl rfl rfl (by first | (simp [dR]; done) | (simp [dR]; omega)) (by first | (simp [dR]; done) | (simp [dR]; omega)) rfl rfl rfl) ?_
            refine .cons (.asg rfl rfl) <| .nil <| kb_n <| ks_n <| .region <| .cons (.mv rfl rfl) <| .cons (.pl rfl rfl rfl) <| .cons (.asg rfl rfl) <| .nil ?_
            refine kl_k [(120, 138)] (.inr ⟨k + 1, o2 ++ [((i : Int), ((k : Nat) : Int), kindN g i k)], rfl, by omega, by omega, by rw [rowN_yes (by omega) hkn, ← List.append_assoc, hEi], by rw [List.length_append, List.length_singleton]; omega, by simp, rfl⟩) ⟨ks rfl .dt, ks rfl (.c .ow), ks rfl .dt, ks rfl .dt, ks rfl .dt, ks rfl .dt, ks rfl .dt, kb 138 rfl (.dt rfl (by first | rfl | (simp [dR, rD, dI]; done) | (simp [dR, rD, dI]; rfl))), trivial⟩
          · skip
            have hkz : kindN g i k = 0 := by omega
            refine .skip <| kb_n <| ks_n <| .region <| .cons (.mv rfl rfl) <| .cons (.pl rfl rfl rfl) <| .cons (.asg rfl rfl) <| .nil ?_
            refine kl_k [(120, 120)] (.inr ⟨k + 1, o2, rfl, by omega, by omega, by rw [rowN_no hkz, hEi], by omega, hn2, rfl⟩) ⟨ks rfl .dt, ks rfl (.c .ow), ks rfl .dt, ks rfl .dt, ks rfl .dt, ks rfl .dt, ks rfl .dt, kb 120 rfl (.dt rfl (by first | rfl | (simp [dR, rD, dI]; done) | (simp [dR, rD, dI]; rfl))), trivial⟩
        · skip
          obtain rfl : k = (insG 0 g.2).length := by omega
          refine .exit <| ks_e <| kl_e <| kb_hit <| kb_n <| ks_n <| .region <| .cons (.pl rfl rfl rfl) <| .cons (.mv rfl rfl) <| .nil ?_
          refine kl_k [(110, 120)] (.inr ⟨i + 1, o2, rfl, by omega, by rw [depsN_next, hE]; exact hEi, by omega, hn2, rfl⟩) ⟨ks rfl .dt, ks rfl (.c .ow), ks rfl .dt, ks rfl .dt, ks rfl .dt, kb 120 rfl (.dt rfl (by first | rfl | (simp [dR, rD, dI]; done) | (simp [dR, rD, dI]; rfl))), trivial⟩
    · skip
      exact absurd (by rw [depsG, ← show i = (insG 0 g.2).length by omega]; exact hE) hz
  · skip
    refine .seq <| .region <| .cons (.ls rfl rfl rfl) <| .nil <| ks_n <| .seq ?_
    refine .cD rfl (fun h13 => ?_) (fun h13 => ?_)
    · skip
      obtain ⟨x, hx1⟩ : ∃ x_, (insG 0 g.2)[i]? = some x_ := ⟨_, List.getElem?_eq_getElem (by omega)⟩
      obtain ⟨kx, cx, qx, hIx⟩ := ins_at hS (List.mem_of_getElem? hx1)
      have hlx := usR_len hIx
      refine .skip <| ks_n <| .seq <| .block <| .seq <| .region <| .cons (.mv rfl rfl) <| .cons (.asg rfl rfl) <| .nil <| ks_n <| .seq <| .region <| .cons (.mv rfl rfl) <| .cons (.pl rfl rfl rfl) <| .cons (.asg rfl rfl) <| .nil <| ks_n <| .block ?_
      refine .loopK (fun m σ => (∃ (k : Nat) (o2 : List Dpn), m = (insG 0 g.2).length - k ∧ (i + 1 ≤ k) ∧ (k ≤ (insG 0 g.2).length) ∧ (o ++ rowN g i k = o2) ∧ (o2.length ≤ 120 * i + k) ∧ (o2 ≠ []) ∧ σ = [(.t 0, .v (.o (.c (.ptr (rT g))))), (.t 3, .v (.o (.c (.own 120 3 (o2.length))))), (.t 4, .v (.o (nat1 (i : Nat)))), (.t 5, .v (.o (nat1 (k : Nat)))), (.t 10, .v (.o (vD (dNs (insG 0 g.2))))), (.t 11, .v (.o (nat1 ((insG 0 g.2).length : Nat)))), (.t 12, .v (.o (nat1 (i : Nat)))), (.b 120, .b 51 3 (dR (o2.map rD))), (.u 120, .u)])) [(120, 110)] ⟨i + 1, o, rfl, by omega, by omega, by rw [rowN_zero, List.append_nil], by omega, hn1, rfl⟩ ⟨ks rfl .dt, ks rfl (.c .ow), ks rfl .dt, ks rfl .dt, ks rfl .dt, ks rfl .dt, ks rfl .dt, kb 110 rfl (.dt rfl (by first | rfl | (simp [dR, rD, dI]; done) | (simp [dR, rD, dI]; rfl))), trivial⟩ ?_
      rintro m σ ⟨k, o2, hm0, hk1, hk, hEi, ho2, hn2, rfl⟩
      refine .seq <| .seq <| .region <| .cons (.mv rfl rfl) <| .cons (.mv rfl rfl) <| .cons (.nP rfl rfl) <| .cons (.fP 2 0 false rfl rfl) <| .cons (.l1 1 rfl rfl) <| .cons (.ln 82 3 40 rfl rfl rfl) <| .cons (.ls rfl rfl rfl) <| .nil <| ks_n ?_
      refine .cD rfl (fun h23 => ?_) (fun h23 => ?_)
      · skip
        obtain ⟨y, hy1⟩ : ∃ x_, (insG 0 g.2)[k]? = some x_ := ⟨_, List.getElem?_eq_getElem (by omega)⟩
        obtain ⟨ky, cy, qy, hIy⟩ := ins_at hS (List.mem_of_getElem? hy1)
        have hly := usR_len hIy
        have hkb := kindN_bd (g := g) (i := i) (k := k)
        refine .skip <| ks_n <| .seq <| .block <| .seq <| .region <| .cons (.mv rfl rfl) <| .cons (.mv rfl rfl) <| .cons (.mv rfl rfl) <| .cons (.cP [.tmp 26, .tmp 27, .tmp 28] rfl rfl rfl rfl (between_fn hx1 hy1 hlx hly) rfl) ?_
        refine .cons (.asg rfl rfl) <| .nil <| ks_n <| .seq <| .region <| .cons (.mv rfl rfl) <| .cons (.gt rfl rfl rfl) <| .nil <| ks_n ?_
        refine .cD rfl (fun h31 => ?_) (fun h31 => ?_)
        · skip
          have hkn : kindN g i k ≠ 0 := by omega
          refine .region <| .cons (.mv rfl rfl) <| .cons (.mv rfl rfl) <| .cons (.mv rfl rfl) <| .cons (.mv rfl rfl) <| .cons (.bu [(0, .tmp 33), (1, .tmp 34), (2, .tmp 35)] [(0, 1), (1, 1), (2, 1)] [.int .i64 0, .int .i64 0, .int .i64 0] rfl rfl rfl rfl rfl) <| .cons (.li 51 2 0 [.tmp 36] rfl rfl rfl rfl rfl rfl) <| .cons (St1.appB (k' := 138) (e := 51) (sz := 2) (by' := 24) rfl rfl rfl rfl rfl (by kernel_rfl) rfl rfl rfl rfl (by first | (simp [dR]; done) | (simp [dR]; omega)) (by first | (simp [dR]; done) | (simp [dR]; omega)) rfl rfl rfl) ?_
          refine .cons (.asg rfl rfl) <| .nil <| kb_n <| ks_n <| .region <| .cons (.mv rfl rfl) <| .cons (.pl rfl rfl rfl) <| .cons (.asg rfl rfl) <| .nil ?_
          refine kl_k [(120, 138)] ⟨k + 1, o2 ++ [((i : Int), ((k : Nat) : Int), kindN g i k)], rfl, by omega, by omega, by rw [rowN_yes (by omega) hkn, ← List.append_assoc, hEi], by rw [List.length_append, List.length_singleton]; omega, by simp, rfl⟩ ⟨ks rfl .dt, ks rfl (.c .ow), ks rfl .dt, ks rfl .dt, ks rfl .dt, ks rfl .dt, ks rfl .dt, kb 138 rfl (.dt rfl (by first | rfl | (simp [dR, rD, dI]; done) | (simp [dR, rD, dI]; rfl))), trivial⟩
        · skip
          have hkz : kindN g i k = 0 := by omega
          refine .skip <| kb_n <| ks_n <| .region <| .cons (.mv rfl rfl) <| .cons (.pl rfl rfl rfl) <| .cons (.asg rfl rfl) <| .nil ?_
          refine kl_k [(120, 120)] ⟨k + 1, o2, rfl, by omega, by omega, by rw [rowN_no hkz, hEi], by omega, hn2, rfl⟩ ⟨ks rfl .dt, ks rfl (.c .ow), ks rfl .dt, ks rfl .dt, ks rfl .dt, ks rfl .dt, ks rfl .dt, kb 120 rfl (.dt rfl (by first | rfl | (simp [dR, rD, dI]; done) | (simp [dR, rD, dI]; rfl))), trivial⟩
      · skip
        obtain rfl : k = (insG 0 g.2).length := by omega
        refine .exit <| ks_e <| kl_e <| kb_hit <| kb_n <| ks_n <| .region <| .cons (.pl rfl rfl rfl) <| .cons (.mv rfl rfl) <| .nil ?_
        refine kl_k [(110, 120)] (.inr ⟨i + 1, o2, rfl, by omega, by rw [depsN_next, hE]; exact hEi, by omega, hn2, rfl⟩) ⟨ks rfl .dt, ks rfl (.c .ow), ks rfl .dt, ks rfl .dt, ks rfl .dt, kb 120 rfl (.dt rfl (by first | rfl | (simp [dR, rD, dI]; done) | (simp [dR, rD, dI]; rfl))), trivial⟩
    · skip
      obtain rfl : i = (insG 0 g.2).length := by omega
      refine .exit <| ks_e <| kl_e <| kb_hit <| ks_n <| .seq <| .region <| .cons (.mv rfl rfl) <| .cons (.asg rfl rfl) <| .nil <| ks_n <| .ret ?_
      refine kf_wret [(.t 2, .v (.o (.c (.own 100 3 ((depsG g).length))))), (.b 100, .b 51 3 (dR ((depsG g).map rD))), (.u 100, .u)] (Wk.keep [(100, 110)] rfl rfl ⟨ks rfl (.c (.ow (by rw [depsG, hE]))), kb 110 rfl (.dt rfl (by rw [depsG, hE])), trivial⟩) rfl ?_ (one_box rfl)
      rfl

theorem deps_nil {g : Prg} (hS : prgS g = true) (hL : (insG 0 g.2).length ≤ 120) (hz : depsG g = []) : Fn Tryz.prog 39 [] [.c (.ptr (rT g))] (.o (.c (.d (.val (.slice none 0 0))))) [] := by
  refine Fn.code0 Tryz.func39 rfl rfl rfl rfl ?_
  refine .seq <| .region <| .cons (.asg rfl rfl) <| .nil <| ks_n <| .seq <| .region <| .cons (.asg rfl rfl) <| .nil <| ks_n <| .seq <| .seq <| .region <| .cons (.mv rfl rfl) <| .cons (.nP rfl rfl) <| .cons (.fP 2 0 false rfl rfl) <| .cons (.l1 1 rfl rfl) <| .cons (.ln 82 3 40 rfl rfl rfl) <| .cons (.mv rfl rfl) <| .nil <| ks_n <| .block ?_
  refine .loopK (fun m σ => (∃ i : Nat, m = (insG 0 g.2).length - i ∧ (i ≤ (insG 0 g.2).length) ∧ (depsN g i = []) ∧ σ = [(.t 0, .v (.o (.c (.ptr (rT g))))), (.t 3, .v (.o (.c (.d (.val (.slice none 0 0)))))), (.t 10, .v (.o (vD (dNs (insG 0 g.2))))), (.t 11, .v (.o (nat1 ((insG 0 g.2).length : Nat)))), (.t 12, .v (.o (nat1 (i : Nat))))]) ∨ (∃ (i : Nat) (o : List Dpn), m = (insG 0 g.2).length - i ∧ (i ≤ (insG 0 g.2).length) ∧ (depsN g i = o) ∧ (o.length ≤ 120 * i) ∧ (o ≠ []) ∧ σ = [(.t 0, .v (.o (.c (.ptr (rT g))))), (.t 3, .v (.o (.c (.own 110 3 (o.length))))), (.t 10, .v (.o (vD (dNs (insG 0 g.2))))), (.t 11, .v (.o (nat1 ((insG 0 g.2).length : Nat)))), (.t 12, .v (.o (nat1 (i : Nat)))), (.b 110, .b 51 3 (dR (o.map rD))), (.u 110, .u)])) [] (.inl ⟨0, rfl, by omega, rfl, rfl⟩) ⟨ks rfl .dt, ks rfl .dt, ks rfl .dt, ks rfl .dt, ks rfl .dt, trivial⟩ ?_
  rintro m σ (⟨i, hm0, hi, hE, rfl⟩ | ⟨i, o, hm0, hi, hE, ho, hn1, rfl⟩)
  · skip
    refine .seq <| .region <| .cons (.ls rfl rfl rfl) <| .nil <| ks_n <| .seq ?_
    refine .cD rfl (fun h13 => ?_) (fun h13 => ?_)
    · skip
      obtain ⟨x, hx1⟩ : ∃ x_, (insG 0 g.2)[i]? = some x_ := ⟨_, List.getElem?_eq_getElem (by omega)⟩
      obtain ⟨kx, cx, qx, hIx⟩ := ins_at hS (List.mem_of_getElem? hx1)
      have hlx := usR_len hIx
      refine .skip <| ks_n <| .seq <| .block <| .seq <| .region <| .cons (.mv rfl rfl) <| .cons (.asg rfl rfl) <| .nil <| ks_n <| .seq <| .region <| .cons (.mv rfl rfl) <| .cons (.pl rfl rfl rfl) <| .cons (.asg rfl rfl) <| .nil <| ks_n <| .block ?_
      refine .loopK (fun m σ => (∃ k : Nat, m = (insG 0 g.2).length - k ∧ (i + 1 ≤ k) ∧ (k ≤ (insG 0 g.2).length) ∧ (rowN g i k = []) ∧ σ = [(.t 0, .v (.o (.c (.ptr (rT g))))), (.t 3, .v (.o (.c (.d (.val (.slice none 0 0)))))), (.t 4, .v (.o (nat1 (i : Nat)))), (.t 5, .v (.o (nat1 (k : Nat)))), (.t 10, .v (.o (vD (dNs (insG 0 g.2))))), (.t 11, .v (.o (nat1 ((insG 0 g.2).length : Nat)))), (.t 12, .v (.o (nat1 (i : Nat))))]) ∨ (∃ (k : Nat) (o2 : List Dpn), m = (insG 0 g.2).length - k ∧ (i + 1 ≤ k) ∧ (k ≤ (insG 0 g.2).length) ∧ ([] ++ rowN g i k = o2) ∧ (o2.length ≤ 120 * i + k) ∧ (o2 ≠ []) ∧ σ = [(.t 0, .v (.o (.c (.ptr (rT g))))), (.t 3, .v (.o (.c (.own 120 3 (o2.length))))), (.t 4, .v (.o (nat1 (i : Nat)))), (.t 5, .v (.o (nat1 (k : Nat)))), (.t 10, .v (.o (vD (dNs (insG 0 g.2))))), (.t 11, .v (.o (nat1 ((insG 0 g.2).length : Nat)))), (.t 12, .v (.o (nat1 (i : Nat)))), (.b 120, .b 51 3 (dR (o2.map rD))), (.u 120, .u)])) [] (.inl ⟨i + 1, rfl, by omega, by omega, rowN_zero, rfl⟩) ⟨ks rfl .dt, ks rfl .dt, ks rfl .dt, ks rfl .dt, ks rfl .dt, ks rfl .dt, ks rfl .dt, trivial⟩ ?_
      rintro m σ (⟨k, hm0, hk1, hk, hEi, rfl⟩ | ⟨k, o2, hm0, hk1, hk, hEi, ho2, hn2, rfl⟩)
      · skip
        refine .seq <| .seq <| .region <| .cons (.mv rfl rfl) <| .cons (.mv rfl rfl) <| .cons (.nP rfl rfl) <| .cons (.fP 2 0 false rfl rfl) <| .cons (.l1 1 rfl rfl) <| .cons (.ln 82 3 40 rfl rfl rfl) <| .cons (.ls rfl rfl rfl) <| .nil <| ks_n ?_
        refine .cD rfl (fun h23 => ?_) (fun h23 => ?_)
        · skip
          obtain ⟨y, hy1⟩ : ∃ x_, (insG 0 g.2)[k]? = some x_ := ⟨_, List.getElem?_eq_getElem (by omega)⟩
          obtain ⟨ky, cy, qy, hIy⟩ := ins_at hS (List.mem_of_getElem? hy1)
          have hly := usR_len hIy
          have hkb := kindN_bd (g := g) (i := i) (k := k)
          refine .skip <| ks_n <| .seq <| .block <| .seq <| .region <| .cons (.mv rfl rfl) <| .cons (.mv rfl rfl) <| .cons (.mv rfl rfl) <| .cons (.cP [.tmp 26, .tmp 27, .tmp 28] rfl rfl rfl rfl (between_fn hx1 hy1 hlx hly) rfl) ?_
          refine .cons (.asg rfl rfl) <| .nil <| ks_n <| .seq <| .region <| .cons (.mv rfl rfl) <| .cons (.gt rfl rfl rfl) <| .nil <| ks_n ?_
          refine .cD rfl (fun h31 => ?_) (fun h31 => ?_)
          · skip
            have hkn : kindN g i k ≠ 0 := by omega
            refine .region <| .cons (.mv rfl rfl) <| .cons (.mv rfl rfl) <| .cons (.mv rfl rfl) <| .cons (.mv rfl rfl) <| .cons (.bu [(0, .tmp 33), (1, .tmp 34), (2, .tmp 35)] [(0, 1), (1, 1), (2, 1)] [.int .i64 0, .int .i64 0, .int .i64 0] rfl rfl rfl rfl rfl) <| .cons (.li 51 2 0 [.tmp 36] rfl rfl rfl rfl rfl rfl) <| .cons (St1.appN (k' := 138) (e := 51) (sz := 2) (by' := 24) rfl rfl rfl rfl rfl (by kernel_rfl) rfl rfl rfl (by simp) (by first | (simp [dR]; done) | (simp [dR]; omega)) rfl rfl) ?_
            refine .cons (.asg rfl rfl) <| .nil <| kb_n <| ks_n <| .region <| .cons (.mv rfl rfl) <| .cons (.pl rfl rfl rfl) <| .cons (.asg rfl rfl) <| .nil ?_
            refine kl_k [(120, 138)] (.inr ⟨k + 1, [((i : Int), ((k : Nat) : Int), kindN g i k)], rfl, by omega, by omega, by rw [rowN_yes (by omega) hkn, hEi]; rfl, by simp; omega, by simp, rfl⟩) ⟨ks rfl .dt, ks rfl (.c .ow), ks rfl .dt, ks rfl .dt, ks rfl .dt, ks rfl .dt, ks rfl .dt, kb 138 rfl (.dt rfl (by first | rfl | (simp [dR, rD, dI]; done) | (simp [dR, rD, dI]; rfl))), trivial⟩
          · skip
            have hkz : kindN g i k = 0 := by omega
            refine .skip <| kb_n <| ks_n <| .region <| .cons (.mv rfl rfl) <| .cons (.pl rfl rfl rfl) <| .cons (.asg rfl rfl) <| .nil ?_
            refine kl_k [] (.inl ⟨k + 1, rfl, by omega, by omega, by rw [rowN_no hkz, hEi], rfl⟩) ⟨ks rfl .dt, ks rfl .dt, ks rfl .dt, ks rfl .dt, ks rfl .dt, ks rfl .dt, ks rfl .dt, trivial⟩
        · skip
          obtain rfl : k = (insG 0 g.2).length := by omega
          refine .exit <| ks_e <| kl_e <| kb_hit <| kb_n <| ks_n <| .region <| .cons (.pl rfl rfl rfl) <| .cons (.mv rfl rfl) <| .nil ?_
          refine kl_k [] (.inl ⟨i + 1, rfl, by omega, by rw [depsN_next, hE, hEi]; rfl, rfl⟩) ⟨ks rfl .dt, ks rfl .dt, ks rfl .dt, ks rfl .dt, ks rfl .dt, trivial⟩
      · skip
        refine .seq <| .seq <| .region <| .cons (.mv rfl rfl) <| .cons (.mv rfl rfl) <| .cons (.nP rfl rfl) <| .cons (.fP 2 0 false rfl rfl) <| .cons (.l1 1 rfl rfl) <| .cons (.ln 82 3 40 rfl rfl rfl) <| .cons (.ls rfl rfl rfl) <| .nil <| ks_n ?_
        refine .cD rfl (fun h23 => ?_) (fun h23 => ?_)
        · skip
          obtain ⟨y, hy1⟩ : ∃ x_, (insG 0 g.2)[k]? = some x_ := ⟨_, List.getElem?_eq_getElem (by omega)⟩
          obtain ⟨ky, cy, qy, hIy⟩ := ins_at hS (List.mem_of_getElem? hy1)
          have hly := usR_len hIy
          have hkb := kindN_bd (g := g) (i := i) (k := k)
          refine .skip <| ks_n <| .seq <| .block <| .seq <| .region <| .cons (.mv rfl rfl) <| .cons (.mv rfl rfl) <| .cons (.mv rfl rfl) <| .cons (.cP [.tmp 26, .tmp 27, .tmp 28] rfl rfl rfl rfl (between_fn hx1 hy1 hlx hly) rfl) ?_
          refine .cons (.asg rfl rfl) <| .nil <| ks_n <| .seq <| .region <| .cons (.mv rfl rfl) <| .cons (.gt rfl rfl rfl) <| .nil <| ks_n ?_
          refine .cD rfl (fun h31 => ?_) (fun h31 => ?_)
          · skip
            have hkn : kindN g i k ≠ 0 := by omega
            refine .region <| .cons (.mv rfl rfl) <| .cons (.mv rfl rfl) <| .cons (.mv rfl rfl) <| .cons (.mv rfl rfl) <| .cons (.bu [(0, .tmp 33), (1, .tmp 34), (2, .tmp 35)] [(0, 1), (1, 1), (2, 1)] [.int .i64 0, .int .i64 0, .int .i64 0] rfl rfl rfl rfl rfl) <| .cons (.li 51 2 0 [.tmp 36] rfl rfl rfl rfl rfl rfl) <| .cons (St1.appB (k' := 138) (e := 51) (sz := 2) (by' := 24) rfl rfl rfl rfl rfl (by kernel_rfl) rfl rfl rfl rfl (by first | (simp [dR]; done) | (simp [dR]; omega)) (by first | (simp [dR]; done) | (simp [dR]; omega)) rfl rfl rfl) ?_
            refine .cons (.asg rfl rfl) <| .nil <| kb_n <| ks_n <| .region <| .cons (.mv rfl rfl) <| .cons (.pl rfl rfl rfl) <| .cons (.asg rfl rfl) <| .nil ?_
            refine kl_k [(120, 138)] (.inr ⟨k + 1, o2 ++ [((i : Int), ((k : Nat) : Int), kindN g i k)], rfl, by omega, by omega, by rw [rowN_yes (by omega) hkn, ← List.append_assoc, hEi], by rw [List.length_append, List.length_singleton]; omega, by simp, rfl⟩) ⟨ks rfl .dt, ks rfl (.c .ow), ks rfl .dt, ks rfl .dt, ks rfl .dt, ks rfl .dt, ks rfl .dt, kb 138 rfl (.dt rfl (by first | rfl | (simp [dR, rD, dI]; done) | (simp [dR, rD, dI]; rfl))), trivial⟩
          · skip
            have hkz : kindN g i k = 0 := by omega
            refine .skip <| kb_n <| ks_n <| .region <| .cons (.mv rfl rfl) <| .cons (.pl rfl rfl rfl) <| .cons (.asg rfl rfl) <| .nil ?_
            refine kl_k [(120, 120)] (.inr ⟨k + 1, o2, rfl, by omega, by omega, by rw [rowN_no hkz, hEi], by omega, hn2, rfl⟩) ⟨ks rfl .dt, ks rfl (.c .ow), ks rfl .dt, ks rfl .dt, ks rfl .dt, ks rfl .dt, ks rfl .dt, kb 120 rfl (.dt rfl (by first | rfl | (simp [dR, rD, dI]; done) | (simp [dR, rD, dI]; rfl))), trivial⟩
        · skip
          obtain rfl : k = (insG 0 g.2).length := by omega
          refine .exit <| ks_e <| kl_e <| kb_hit <| kb_n <| ks_n <| .region <| .cons (.pl rfl rfl rfl) <| .cons (.mv rfl rfl) <| .nil ?_
          refine kl_k [(110, 120)] (.inr ⟨i + 1, o2, rfl, by omega, by rw [depsN_next, hE]; exact hEi, by omega, hn2, rfl⟩) ⟨ks rfl .dt, ks rfl (.c .ow), ks rfl .dt, ks rfl .dt, ks rfl .dt, kb 120 rfl (.dt rfl (by first | rfl | (simp [dR, rD, dI]; done) | (simp [dR, rD, dI]; rfl))), trivial⟩
    · skip
      obtain rfl : i = (insG 0 g.2).length := by omega
      refine .exit <| ks_e <| kl_e <| kb_hit <| ks_n <| .seq <| .region <| .cons (.mv rfl rfl) <| .cons (.asg rfl rfl) <| .nil <| ks_n <| .ret ?_
      refine kf_ret rfl ?_ nobox
      rfl
  · skip
    refine .seq <| .region <| .cons (.ls rfl rfl rfl) <| .nil <| ks_n <| .seq ?_
    refine .cD rfl (fun h13 => ?_) (fun h13 => ?_)
    · skip
      obtain ⟨x, hx1⟩ : ∃ x_, (insG 0 g.2)[i]? = some x_ := ⟨_, List.getElem?_eq_getElem (by omega)⟩
      obtain ⟨kx, cx, qx, hIx⟩ := ins_at hS (List.mem_of_getElem? hx1)
      have hlx := usR_len hIx
      refine .skip <| ks_n <| .seq <| .block <| .seq <| .region <| .cons (.mv rfl rfl) <| .cons (.asg rfl rfl) <| .nil <| ks_n <| .seq <| .region <| .cons (.mv rfl rfl) <| .cons (.pl rfl rfl rfl) <| .cons (.asg rfl rfl) <| .nil <| ks_n <| .block ?_
      refine .loopK (fun m σ => (∃ (k : Nat) (o2 : List Dpn), m = (insG 0 g.2).length - k ∧ (i + 1 ≤ k) ∧ (k ≤ (insG 0 g.2).length) ∧ (o ++ rowN g i k = o2) ∧ (o2.length ≤ 120 * i + k) ∧ (o2 ≠ []) ∧ σ = [(.t 0, .v (.o (.c (.ptr (rT g))))), (.t 3, .v (.o (.c (.own 120 3 (o2.length))))), (.t 4, .v (.o (nat1 (i : Nat)))), (.t 5, .v (.o (nat1 (k : Nat)))), (.t 10, .v (.o (vD (dNs (insG 0 g.2))))), (.t 11, .v (.o (nat1 ((insG 0 g.2).length : Nat)))), (.t 12, .v (.o (nat1 (i : Nat)))), (.b 120, .b 51 3 (dR (o2.map rD))), (.u 120, .u)])) [(120, 110)] ⟨i + 1, o, rfl, by omega, by omega, by rw [rowN_zero, List.append_nil], by omega, hn1, rfl⟩ ⟨ks rfl .dt, ks rfl (.c .ow), ks rfl .dt, ks rfl .dt, ks rfl .dt, ks rfl .dt, ks rfl .dt, kb 110 rfl (.dt rfl (by first | rfl | (simp [dR, rD, dI]; done) | (simp [dR, rD, dI]; rfl))), trivial⟩ ?_
      rintro m σ ⟨k, o2, hm0, hk1, hk, hEi, ho2, hn2, rfl⟩
      refine .seq <| .seq <| .region <| .cons (.mv rfl rfl) <| .cons (.mv rfl rfl) <| .cons (.nP rfl rfl) <| .cons (.fP 2 0 false rfl rfl) <| .cons (.l1 1 rfl rfl) <| .cons (.ln 82 3 40 rfl rfl rfl) <| .cons (.ls rfl rfl rfl) <| .nil <| ks_n ?_
      refine .cD rfl (fun h23 => ?_) (fun h23 => ?_)
      · skip
        obtain ⟨y, hy1⟩ : ∃ x_, (insG 0 g.2)[k]? = some x_ := ⟨_, List.getElem?_eq_getElem (by omega)⟩
        obtain ⟨ky, cy, qy, hIy⟩ := ins_at hS (List.mem_of_getElem? hy1)
        have hly := usR_len hIy
        have hkb := kindN_bd (g := g) (i := i) (k := k)
        refine .skip <| ks_n <| .seq <| .block <| .seq <| .region <| .cons (.mv rfl rfl) <| .cons (.mv rfl rfl) <| .cons (.mv rfl rfl) <| .cons (.cP [.tmp 26, .tmp 27, .tmp 28] rfl rfl rfl rfl (between_fn hx1 hy1 hlx hly) rfl) ?_
        refine .cons (.asg rfl rfl) <| .nil <| ks_n <| .seq <| .region <| .cons (.mv rfl rfl) <| .cons (.gt rfl rfl rfl) <| .nil <| ks_n ?_
        refine .cD rfl (fun h31 => ?_) (fun h31 => ?_)
        · skip
          have hkn : kindN g i k ≠ 0 := by omega
          refine .region <| .cons (.mv rfl rfl) <| .cons (.mv rfl rfl) <| .cons (.mv rfl rfl) <| .cons (.mv rfl rfl) <| .cons (.bu [(0, .tmp 33), (1, .tmp 34), (2, .tmp 35)] [(0, 1), (1, 1), (2, 1)] [.int .i64 0, .int .i64 0, .int .i64 0] rfl rfl rfl rfl rfl) <| .cons (.li 51 2 0 [.tmp 36] rfl rfl rfl rfl rfl rfl) <| .cons (St1.appB (k' := 138) (e := 51) (sz := 2) (by' := 24) rfl rfl rfl rfl rfl (by kernel_rfl) rfl rfl rfl rfl (by first | (simp [dR]; done) | (simp [dR]; omega)) (by first | (simp [dR]; done) | (simp [dR]; omega)) rfl rfl rfl) ?_
          refine .cons (.asg rfl rfl) <| .nil <| kb_n <| ks_n <| .region <| .cons (.mv rfl rfl) <| .cons (.pl rfl rfl rfl) <| .cons (.asg rfl rfl) <| .nil ?_
          refine kl_k [(120, 138)] ⟨k + 1, o2 ++ [((i : Int), ((k : Nat) : Int), kindN g i k)], rfl, by omega, by omega, by rw [rowN_yes (by omega) hkn, ← List.append_assoc, hEi], by rw [List.length_append, List.length_singleton]; omega, by simp, rfl⟩ ⟨ks rfl .dt, ks rfl (.c .ow), ks rfl .dt, ks rfl .dt, ks rfl .dt, ks rfl .dt, ks rfl .dt, kb 138 rfl (.dt rfl (by first | rfl | (simp [dR, rD, dI]; done) | (simp [dR, rD, dI]; rfl))), trivial⟩
        · skip
          have hkz : kindN g i k = 0 := by omega
          refine .skip <| kb_n <| ks_n <| .region <| .cons (.mv rfl rfl) <| .cons (.pl rfl rfl rfl) <| .cons (.asg rfl rfl) <| .nil ?_
          refine kl_k [(120, 120)] ⟨k + 1, o2, rfl, by omega, by omega, by rw [rowN_no hkz, hEi], by omega, hn2, rfl⟩ ⟨ks rfl .dt, ks rfl (.c .ow), ks rfl .dt, ks rfl .dt, ks rfl .dt, ks rfl .dt, ks rfl .dt, kb 120 rfl (.dt rfl (by first | rfl | (simp [dR, rD, dI]; done) | (simp [dR, rD, dI]; rfl))), trivial⟩
      · skip
        obtain rfl : k = (insG 0 g.2).length := by omega
        refine .exit <| ks_e <| kl_e <| kb_hit <| kb_n <| ks_n <| .region <| .cons (.pl rfl rfl rfl) <| .cons (.mv rfl rfl) <| .nil ?_
        refine kl_k [(110, 120)] (.inr ⟨i + 1, o2, rfl, by omega, by rw [depsN_next, hE]; exact hEi, by omega, hn2, rfl⟩) ⟨ks rfl .dt, ks rfl (.c .ow), ks rfl .dt, ks rfl .dt, ks rfl .dt, kb 120 rfl (.dt rfl (by first | rfl | (simp [dR, rD, dI]; done) | (simp [dR, rD, dI]; rfl))), trivial⟩
    · skip
      exact absurd (by rw [← hE, show i = (insG 0 g.2).length by omega]; exact hz) hn1

theorem del_nil {f : FuncId} {g : Prg} : Fn Tryz.prog 38 (hbT 1 g) [.c (.d (.val (.slice none 0 0))), .c (.fb f 1 1)] (.o (.c (.d (.val (.slice none 0 0))))) (hbT 1 g) := by
  refine Fn.of_code Tryz.func38 rfl rfl (hbT_HB _ _) rfl rfl (hbT_HB _ _) rfl hbT_num ?_
  refine .seq <| .region <| .cons (.asg rfl rfl) <| .nil <| ks_n <| .seq <| .region <| .cons (.mv rfl rfl) <| .cons (.mv rfl rfl) <| .cons (.cO [.tmp 8, .tmp 9] [(1, 1)] rfl rfl rfl rfl (idxN_fn) rfl ⟨rfl, trivial⟩ (hbT_flat _ _) (hbT_flat _ _) (hbT_HB _ _) outS_T) ?_
  refine .cons (.asg rfl rfl) <| .nil <| ks_n <| .seq <| .seq <| .region <| .cons (.mv rfl rfl) <| .cons (.eq rfl rfl rfl) <| .nil <| ks_n ?_
  refine .cD rfl (fun h12 => ?_) (fun h12 => ?_)
  · skip
    refine .seq <| .region <| .cons (.mv rfl rfl) <| .cons (.asg rfl rfl) <| .nil <| ks_n <| .ret <| ks_r ?_
    refine kf_ret rfl ?_ (hbT_box rfl)
    rfl
  · skip
    simp at h12

theorem implStr_bad {g : Prg} (hs : szG g ≤ 1073741824) (hV : prgV g = false) : Fn Tryz.prog 16 [] [ad (rG g)] (.o (vD (dDs (strV g)))) [] := by
 refine Fn.code0 Tryz.func16 rfl rfl rfl rfl ?_
 refine .seq <| .region <| .cons (St1.boxP rfl rfl rfl rfl rfl rfl) <| .cons (.asg rfl rfl) <| .nil <| ks_n <| .seq <| .region <| .cons (.lN 2 rfl rfl rfl) <| .cons (.cP [.tmp 6] rfl rfl rfl rfl (trace_no hs hV) rfl) ?_
 refine .cons (.mv rfl rfl) <| .cons (.ex rfl rfl rfl) <| .cons (.ex rfl rfl rfl) <| .cons (.al 103 [.pointer none] rfl rfl rfl) <| .cons (.sT 1 false rfl rfl rfl rfl rfl rfl rfl) <| .cons (.asg rfl rfl) <| .nil <| ks_n <| .seq <| .seq <| .region <| .cons (.mv rfl rfl) <| .cons (.nt rfl rfl) <| .nil <| ks_n ?_
 refine ACode.condT rfl (fun h11 => ?_) (fun h11 => ?_)
 ·try simp only [zs1, zs2, zs3, zs4, zs5, zs6, zs7] at h11
  refine .seq <| .region <| .cons (.asg rfl rfl) <| .nil <| ks_n <| .ret <| ks_r ?_
  refine kf_wret [(.t 2, .v (.o (vD (dDs (strV g)))))] (Wk.keep [] rfl rfl ⟨ks rfl (.c (Cto.nilE 3 (by rw [strV_no hV]; rfl))), trivial⟩) rfl ?_ nobox
  rfl
 ·try simp only [zs1, zs2, zs3, zs4, zs5, zs6, zs7] at h11
  cases h11

theorem implStr_own {g : Prg} (hs : szG g ≤ 1073741824) (hV : prgV g = true) (hz : depsG g ≠ []) : Fn Tryz.prog 16 [] [ad (rG g)] (.o (vD (dDs (strV g)))) [] := by
 obtain ⟨hS, hN, hL⟩ := prgV_s hV
 have hdl := depsN_len hL (n := (insG 0 g.2).length)
 have hdl2 : (depsG g).length ≤ 14400 := by unfold depsG; omega
 refine Fn.code0 Tryz.func16 rfl rfl rfl rfl ?_
 refine .seq <| .region <| .cons (St1.boxP rfl rfl rfl rfl rfl rfl) <| .cons (.asg rfl rfl) <| .nil <| ks_n <| .seq <| .region <| .cons (.lN 2 rfl rfl rfl) <| .cons (.cP [.tmp 6] rfl rfl rfl rfl (trace_fn hs hV) rfl) ?_
 refine .cons (.mv rfl rfl) <| .cons (.ex rfl rfl rfl) <| .cons (.ex rfl rfl rfl) <| .cons (.al 103 [.pointer none] rfl rfl rfl) <| .cons (.sT 1 false rfl rfl rfl rfl rfl rfl rfl) <| .cons (.asg rfl rfl) <| .nil <| ks_n <| .seq <| .seq <| .region <| .cons (.mv rfl rfl) <| .cons (.nt rfl rfl) <| .nil <| ks_n ?_
 refine ACode.condT rfl (fun h11 => ?_) (fun h11 => ?_)
 ·try simp only [zs1, zs2, zs3, zs4, zs5, zs6, zs7] at h11
  cases h11
 ·try simp only [zs1, zs2, zs3, zs4, zs5, zs6, zs7] at h11
  refine .skip <| ks_n <| .seq <| .region <| .cons (.b1 1 rfl rfl rfl rfl rfl rfl) <| .cons (.cO [.tmp 12] [(100, 113)] rfl rfl rfl rfl (deps_own hS hL hz) rfl trivial flatS.nil (flatS.nil.cons rfl) HB.nil.data outS_one) ?_
  refine .cons (St1.makeFuncB rfl rfl rfl rfl rfl rfl rfl) <| .cons (.cO [.tmp 13, .tmp 14] [(0, 113), (1, 103)] rfl rfl rfl rfl (del_fn (by kernel_rfl) (redS g) (depsG g) (by omega) (fun d hd => by obtain ⟨i, k, rfl, h1, h2, _⟩ := deps_mem hd; exact str1_fn hs hS rfl rfl (List.getElem?_eq_getElem (by omega : i < (insG 0 g.2).length)) (List.getElem?_eq_getElem h2))) rfl ⟨(by rw [renR_dR]; rfl), rfl, trivial⟩ (hbD_flat _ _) (hbD_flat _ _) (hbD_HB _ _) outS_D) ?_
  refine .cons (.asg rfl rfl) <| .nil <| ks_n <| .ret ?_
  refine kf_wret [(.t 2, .v (.o (vD (dDs (strV g)))))] (Wk.keep [] rfl rfl ⟨ks rfl (.c (.fz rfl (by rw [strV_yes hV]; rfl) (by rw [strV_yes hV, strG, List.length_map]) (by have := strG_len (g := g) hL; unfold strG at this; omega))), trivial⟩) rfl ?_ nobox
  rfl

theorem implStr_nil {g : Prg} (hs : szG g ≤ 1073741824) (hV : prgV g = true) (hz : depsG g = []) : Fn Tryz.prog 16 [] [ad (rG g)] (.o (vD (dDs (strV g)))) [] := by
 obtain ⟨hS, hN, hL⟩ := prgV_s hV
 have hdl := depsN_len hL (n := (insG 0 g.2).length)
 have hdl2 : (depsG g).length ≤ 14400 := by unfold depsG; omega
 refine Fn.code0 Tryz.func16 rfl rfl rfl rfl ?_
 refine .seq <| .region <| .cons (St1.boxP rfl rfl rfl rfl rfl rfl) <| .cons (.asg rfl rfl) <| .nil <| ks_n <| .seq <| .region <| .cons (.lN 2 rfl rfl rfl) <| .cons (.cP [.tmp 6] rfl rfl rfl rfl (trace_fn hs hV) rfl) ?_
 refine .cons (.mv rfl rfl) <| .cons (.ex rfl rfl rfl) <| .cons (.ex rfl rfl rfl) <| .cons (.al 103 [.pointer none] rfl rfl rfl) <| .cons (.sT 1 false rfl rfl rfl rfl rfl rfl rfl) <| .cons (.asg rfl rfl) <| .nil <| ks_n <| .seq <| .seq <| .region <| .cons (.mv rfl rfl) <| .cons (.nt rfl rfl) <| .nil <| ks_n ?_
 refine ACode.condT rfl (fun h11 => ?_) (fun h11 => ?_)
 ·try simp only [zs1, zs2, zs3, zs4, zs5, zs6, zs7] at h11
  cases h11
 ·try simp only [zs1, zs2, zs3, zs4, zs5, zs6, zs7] at h11
  refine .skip <| ks_n <| .seq <| .region <| .cons (.b1 1 rfl rfl rfl rfl rfl rfl) <| .cons (.cP [.tmp 12] rfl rfl rfl rfl (deps_nil hS hL hz) rfl) ?_
  refine .cons (St1.makeFuncB rfl rfl rfl rfl rfl rfl rfl) <| .cons (.cO [.tmp 13, .tmp 14] [(1, 103)] rfl rfl rfl rfl (del_nil) rfl ⟨rfl, trivial⟩ (hbT_flat _ _) (hbT_flat _ _) (hbT_HB _ _) outS_T) ?_
  refine .cons (.asg rfl rfl) <| .nil <| ks_n <| .ret ?_
  refine kf_wret [(.t 2, .v (.o (vD (dDs (strV g)))))] (Wk.keep [] rfl rfl ⟨ks rfl (.c (Cto.nilE 3 (by rw [strV_yes hV, strG, hz]; rfl))), trivial⟩) rfl ?_ nobox
  rfl

theorem implStr_fn {g : Prg} (hs : szG g ≤ 1073741824) : Fn Tryz.prog 16 [] [ad (rG g)] (.o (vD (dDs (strV g)))) [] := by
  cases hV : prgV g with
  | false => exact implStr_bad hs hV
  | true =>
    by_cases hz : depsG g = []
    · exact implStr_nil hs hV hz
    · exact implStr_own hs hV hz

theorem strG_take {g : Prg} {i : Nat} {d : Dpn} (h : (depsG g)[i]? = some d) : ((depsG g).take (i + 1)).filter (fun d => !redS g d) = ((depsG g).take i).filter (fun d => !redS g d) ++ if redS g d = true then [] else [d] := by
  rw [List.take_add_one, h, List.filter_append]
  cases hp : redS g d <;> simp [hp]

theorem specStr_fn {g : Prg} (hs : szG g ≤ 1073741824)  : Fn Tryz.prog 15 [] [ad (rG g)] (.o (vD (dDs (strV g)))) [] := by
 refine Fn.code0 Tryz.func15 rfl rfl rfl rfl ?_
 refine .seq <| .region <| .cons (St1.boxP rfl rfl rfl rfl rfl rfl) <| .cons (.asg rfl rfl) <| .nil <| ks_n <| .seq <| .region <| .cons (St1.lit0 (k' := 109) (e := 51) (sz := 3) (b := true) rfl rfl rfl rfl (by kernel_rfl) rfl rfl) ?_
 refine .cons (.asg rfl rfl) <| .nil <| ks_n <| .seq <| .seq <| .region <| .cons (.lN 2 rfl rfl rfl) <| .cons (.cP [.tmp 10] rfl rfl rfl rfl (specPV_fn hs) rfl) ?_
 refine .cons (.nt rfl rfl) <| .nil <| ks_n ?_
 refine ACode.condT rfl (fun h12 => ?_) (fun h12 => ?_)
 ·try simp only [zs1, zs2, zs3, zs4, zs5, zs6, zs7] at h12
  have hV : prgV g = false := by first | assumption | simp_all
  refine .seq <| .region <| .cons (.mv rfl rfl) <| .cons (.asg rfl rfl) <| .nil <| ks_n <| .ret <| ks_r ?_
  refine kf_wret [(.t 2, .v (.o (vD (dDs (strV g)))))] (Wk.keep [] rfl rfl ⟨ks rfl (.c (.fz rfl (by rw [strV_no hV]; rfl) (by rw [strV_no hV]; rfl) (by omega))), trivial⟩) rfl ?_ nobox
  rfl
 ·try simp only [zs1, zs2, zs3, zs4, zs5, zs6, zs7] at h12
  have hV : prgV g = true := by first | assumption | simp_all
  obtain ⟨hS, hN, hL⟩ := prgV_s hV
  have hdl := depsN_len hL (n := (insG 0 g.2).length)
  have hdl2 : (depsG g).length ≤ 14400 := by unfold depsG; omega
  refine .skip <| ks_n <| .seq <| .region <| .cons (.lN 2 rfl rfl rfl) <| .cons (.cP [.tmp 14] rfl rfl rfl rfl (l12Names_fn hs hS) rfl) ?_
  refine .cons (.asg rfl rfl) <| .nil <| ks_n <| .seq <| .region <| .cons (.lN 2 rfl rfl rfl) <| .cons (.cP [.tmp 16] rfl rfl rfl rfl (l6Deps_fn hs hS hL) rfl) ?_
  refine .cons (.asg rfl rfl) <| .nil <| ks_n <| .seq <| .seq <| .region <| .cons (.asg rfl rfl) <| .nil <| ks_n <| .block ?_
  refine .loopK (fun m σ => (∃ (i : Nat) (o : List Dpn), m = (depsG g).length - i ∧ (i ≤ (depsG g).length) ∧ (((depsG g).take i).filter (fun d => !redS g d) = o) ∧ (o.length ≤ i) ∧ σ = [(.t 3, .v (.o (.c (.own 110 3 (o.length))))), (.t 4, .v (.o (vD (dSs (namesV g))))), (.t 5, .v (.o (vD (dDs (depsG g))))), (.t 6, .v (.o (nat1 (i : Nat)))), (.b 110, .b 51 3 (dR (o.map rD))), (.u 110, .u)])) [(110, 109)] ⟨0, [], rfl, by omega, rfl, by simp, rfl⟩ ⟨ks rfl (.c .ow), ks rfl .dt, ks rfl .dt, ks rfl .dt, kb 109 rfl (.dt rfl (by first | rfl | (simp [dR, rD, dI]; done) | (simp [dR, rD, dI]; rfl))), trivial⟩ ?_
  rintro m σ ⟨i, o, hm0, hi, hE, ho, rfl⟩
  refine .seq <| .seq <| .region <| .cons (.mv rfl rfl) <| .cons (.mv rfl rfl) <| .cons (.ln 51 3 24 rfl rfl rfl) <| .cons (.ls rfl rfl rfl) <| .nil <| ks_n ?_
  refine .cD rfl (fun h21 => ?_) (fun h21 => ?_)
  ·skip
   obtain ⟨d, hd1⟩ : ∃ x_, (depsG g)[i]? = some x_ := ⟨_, List.getElem?_eq_getElem (by omega)⟩
   obtain ⟨a, b, hde, hab, hbl, _⟩ := deps_mem (List.mem_of_getElem? hd1)
   obtain ⟨x, hx1⟩ : ∃ x, (insG 0 g.2)[a]? = some x := ⟨_, List.getElem?_eq_getElem (by omega)⟩
   obtain ⟨y, hy1⟩ : ∃ y, (insG 0 g.2)[b]? = some y := ⟨_, List.getElem?_eq_getElem hbl⟩
   obtain ⟨kx, cx, qx, hIx, _, _⟩ := red_fn hs hS hx1
   obtain ⟨ky, cy, qy, hIy, _, _⟩ := red_fn hs hS hy1
   have hnr := name_red hIx hIy
   rw [← redS_eq (c := kindN g a b) hx1 hy1, ← hde] at hnr
   have hda : d.1 = (a : Int) := by rw [hde]
   have hdb : d.2.1 = (b : Int) := by rw [hde]
   refine .skip <| ks_n <| .seq <| .block <| .seq <| .region <| .cons (.mv rfl rfl) <| .cons (.mv rfl rfl) <| .cons (.xL 51 3 24 rfl rfl rfl rfl rfl) ?_
   refine .cons (.fP 0 0 false rfl rfl) <| .cons (.l1 1 rfl rfl) <| .cons (.asg rfl rfl) <| .nil <| ks_n <| .seq <| .region <| .cons (.mv rfl rfl) <| .cons (.mv rfl rfl) <| .cons (.xL 51 3 24 rfl rfl rfl rfl rfl) ?_
   refine .cons (.fP 1 0 false rfl rfl) <| .cons (.l1 1 rfl rfl) <| .cons (.asg rfl rfl) <| .nil <| ks_n <| .seq ?_
   refine ACode.drawK (by kernel_rfl) (by kernel_rfl) ?_
   refine .cons (.mv rfl rfl) <| .cons (.mv rfl rfl) <| .cons (.xL 9 1 16 (i := a) rfl rfl rfl rfl hda (map_at (names_at hx1))) ?_
   refine .cons (.l1 1 rfl rfl) <| .cons (St1.eqS rfl rfl rfl) <| .cons (.mv rfl rfl) ?_
   refine RunK.cases 39 _ rfl (fun g39 => ?_) (fun g39 => ?_)
   ·try simp only [zs1, zs2, zs3, zs4, zs5, zs6, zs7] at g39
    have hrs : redS g d = false := by simp_all
    refine .cons (.gF rfl rfl rfl) <| .cons (.gF rfl rfl rfl) <| .cons (.gF rfl rfl rfl) <| .cons (.gF rfl rfl rfl) <| .cons (.gF rfl rfl rfl) <| .cons (.gF rfl rfl rfl) <| .cons (.gF rfl rfl rfl) <| .cons (.gF rfl rfl rfl) <| .cons (.gF rfl rfl rfl) <| .cons (.pT rfl rfl rfl) ?_
    refine .nil ⟨by kernel_rfl, ?_⟩
    refine ks_n ?_
    refine ACode.condT rfl (fun _ => ?_) (fun h => by first | (cases h; done) | (simp [*] at h; done) | (exfalso; simp_all; done))
    refine .region <| .cons (.mv rfl rfl) <| .cons (.mv rfl rfl) <| .cons (.mv rfl rfl) <| .cons (.xL 51 3 24 rfl rfl rfl rfl rfl) ?_
    refine .cons (.lN 3 rfl rfl rfl) <| .cons (.li 51 2 0 [.tmp 54] rfl rfl rfl rfl rfl rfl) <| .cons (St1.appB (k' := 156) (e := 51) (sz := 2) (by' := 24) rfl rfl rfl rfl rfl (by kernel_rfl) rfl rfl rfl rfl (by first | (simp [dR]; done) | (simp [dR]; omega)) (by first | (simp [dR]; done) | (simp [dR]; omega)) rfl rfl rfl) ?_
    refine .cons (.asg rfl rfl) <| .nil <| kb_n <| ks_n <| .region <| .cons (.mv rfl rfl) <| .cons (.pl rfl rfl rfl) <| .cons (.asg rfl rfl) <| .nil ?_
    refine kl_k [(110, 156)] ⟨i + 1, o ++ [d], rfl, by omega, by rw [strG_take hd1, hE, if_neg (by rw [hrs]; simp)], by rw [List.length_append, List.length_singleton]; omega, rfl⟩ ⟨ks rfl (.c .ow), ks rfl .dt, ks rfl .dt, ks rfl .dt, kb 156 rfl (.dt rfl (by first | rfl | (simp [dR, rD, dI]; done) | (simp [dR, rD, dI]; rfl))), trivial⟩
   ·try simp only [zs1, zs2, zs3, zs4, zs5, zs6, zs7] at g39
    refine .cons (.gT rfl rfl rfl (.mv rfl rfl)) <| .cons (.gT rfl rfl rfl (.mv rfl rfl)) <| .cons (.gT rfl rfl rfl (.xL 9 1 16 (i := a) rfl rfl rfl rfl hda (map_at (names_at hx1)))) ?_
    refine .cons (.gT rfl rfl rfl (.l1 1 rfl rfl)) <| .cons (.gT rfl rfl rfl (.mv rfl rfl)) <| .cons (.gT rfl rfl rfl (.mv rfl rfl)) <| .cons (.gT rfl rfl rfl (.xL 9 1 16 (i := b) rfl rfl rfl rfl hdb (map_at (names_at hy1)))) ?_
    refine .cons (.gT rfl rfl rfl (.l1 1 rfl rfl)) <| .cons (.gT rfl rfl rfl (St1.neS rfl rfl rfl)) <| .cons (.pF rfl rfl rfl) ?_
    refine .nil ⟨by kernel_rfl, ?_⟩
    refine ks_n ?_
    refine ACode.condT rfl (fun h49 => ?_) (fun h49 => ?_)
    ·try simp only [zs1, zs2, zs3, zs4, zs5, zs6, zs7] at h49
     have hrs : redS g d = false := by simp_all
     refine .region <| .cons (.mv rfl rfl) <| .cons (.mv rfl rfl) <| .cons (.mv rfl rfl) <| .cons (.xL 51 3 24 rfl rfl rfl rfl rfl) ?_
     refine .cons (.lN 3 rfl rfl rfl) <| .cons (.li 51 2 0 [.tmp 54] rfl rfl rfl rfl rfl rfl) <| .cons (St1.appB (k' := 156) (e := 51) (sz := 2) (by' := 24) rfl rfl rfl rfl rfl (by kernel_rfl) rfl rfl rfl rfl (by first | (simp [dR]; done) | (simp [dR]; omega)) (by first | (simp [dR]; done) | (simp [dR]; omega)) rfl rfl rfl) ?_
     refine .cons (.asg rfl rfl) <| .nil <| kb_n <| ks_n <| .region <| .cons (.mv rfl rfl) <| .cons (.pl rfl rfl rfl) <| .cons (.asg rfl rfl) <| .nil ?_
     refine kl_k [(110, 156)] ⟨i + 1, o ++ [d], rfl, by omega, by rw [strG_take hd1, hE, if_neg (by rw [hrs]; simp)], by rw [List.length_append, List.length_singleton]; omega, rfl⟩ ⟨ks rfl (.c .ow), ks rfl .dt, ks rfl .dt, ks rfl .dt, kb 156 rfl (.dt rfl (by first | rfl | (simp [dR, rD, dI]; done) | (simp [dR, rD, dI]; rfl))), trivial⟩
    ·try simp only [zs1, zs2, zs3, zs4, zs5, zs6, zs7] at h49
     have hrs : redS g d = true := by simp_all
     refine .skip <| kb_n <| ks_n <| .region <| .cons (.mv rfl rfl) <| .cons (.pl rfl rfl rfl) <| .cons (.asg rfl rfl) <| .nil ?_
     refine kl_k [(110, 110)] ⟨i + 1, o, rfl, by omega, by rw [strG_take hd1, hE, if_pos hrs, List.append_nil], by omega, rfl⟩ ⟨ks rfl (.c .ow), ks rfl .dt, ks rfl .dt, ks rfl .dt, kb 110 rfl (.dt rfl (by first | rfl | (simp [dR, rD, dI]; done) | (simp [dR, rD, dI]; rfl))), trivial⟩
  ·skip
   obtain rfl : i = (depsG g).length := by omega
   rw [List.take_length] at hE
   refine .exit <| ks_e <| kl_e <| kb_hit <| ks_n <| .seq <| .region <| .cons (.mv rfl rfl) <| .cons (.asg rfl rfl) <| .nil <| ks_n <| .ret ?_
   refine kf_wret [(.t 2, .v (.o (vD (dDs (strV g)))))] (Wk.keep [] rfl rfl ⟨ks rfl (.c (.fz rfl (by rw [strV_yes hV, strG, hE]) (by rw [strV_yes hV, strG, hE, List.length_map]) (by omega))), trivial⟩) rfl ?_ nobox
   rfl
/-- The instances of a program that is valid. -/
def insQ (g : Prg) : List Ins := if prgV g = true then insG 0 g.2 else []
theorem insQ_yes {g : Prg} (h : prgV g = true) : insQ g = insG 0 g.2 := if_pos h
theorem insQ_no {g : Prg} (h : prgV g = false) : insQ g = [] := if_neg (by rw [h]; simp)
theorem insQ_len (g : Prg) : (insQ g).length ≤ 120 := by
  cases hV : prgV g with
  | false => rw [insQ_no hV]; simp
  | true => rw [insQ_yes hV]; exact (prgV_s hV).2.2
theorem strP_ok (g : Prg) : DOk (strV g) (insQ g).length := by
  cases hV : prgV g with
  | false => rw [strV_no hV]; exact fun d hd => by cases hd
  | true => rw [insQ_yes hV]; exact strV_ok g
theorem strP_len (g : Prg) : (strV g).length ≤ 14400 := by
  cases hV : prgV g with
  | false => rw [strV_no hV]; simp
  | true => rw [strV_yes hV]; exact strG_len (prgV_s hV).2.2
theorem dR_rep0i (n : Nat) : dR (List.replicate n [dI 0]) = dR ((List.replicate n (0 : Int)).map rI) := by rw [List.map_replicate]; rfl

theorem implPI_fn {g : Prg} (hs : szG g ≤ 1073741824)  : Fn Tryz.prog 29 [] [ad (rG g)] (.o (vD (dNs (insQ g)))) [] := by
 refine Fn.code0 Tryz.func29 rfl rfl rfl rfl ?_
 refine .seq <| .region <| .cons (St1.boxP rfl rfl rfl rfl rfl rfl) <| .cons (.asg rfl rfl) <| .nil <| ks_n <| .seq <| .region <| .cons (.lN 2 rfl rfl rfl) <| .cons (.cP [.tmp 6] rfl rfl rfl rfl (instances_fn hs) rfl) ?_
 refine .cons (.mv rfl rfl) <| .cons (.ex rfl rfl rfl) <| .cons (.ex rfl rfl rfl) <| .cons (.asg rfl rfl) <| .cons (.asg rfl rfl) <| .nil <| ks_n <| .seq <| .seq <| .region <| .cons (.mv rfl rfl) <| .cons (.nt rfl rfl) <| .nil <| ks_n ?_
 refine ACode.condT rfl (fun h11 => ?_) (fun h11 => ?_)
 ·try simp only [zs1, zs2, zs3, zs4, zs5, zs6, zs7] at h11
  have hV : prgV g = false := by first | assumption | simp_all
  refine .seq <| .region <| .cons (.asg rfl rfl) <| .nil <| ks_n <| .ret <| ks_r ?_
  refine kf_wret [(.t 2, .v (.o (vD (dNs (insQ g)))))] (Wk.keep [] rfl rfl ⟨ks rfl (.c (Cto.nilE 3 (by rw [insQ_no hV]; rfl))), trivial⟩) rfl ?_ nobox
  rfl
 ·try simp only [zs1, zs2, zs3, zs4, zs5, zs6, zs7] at h11
  have hV : prgV g = true := by first | assumption | simp_all
  refine .skip <| ks_n <| .seq <| .region <| .cons (.mv rfl rfl) <| .cons (.asg rfl rfl) <| .nil <| ks_n <| .ret ?_
  refine kf_wret [(.t 2, .v (.o (vD (dNs (insQ g)))))] (Wk.keep [] rfl rfl ⟨ks rfl (.dt (by rw [insQ_yes hV, (prgV_s hV).2.1])), trivial⟩) rfl ?_ nobox
  rfl

theorem specPI_fn {g : Prg} (hs : szG g ≤ 1073741824)  : Fn Tryz.prog 25 [] [ad (rG g)] (.o (vD (dNs (insQ g)))) [] := by
 refine Fn.code0 Tryz.func25 rfl rfl rfl rfl ?_
 refine .seq <| .region <| .cons (St1.boxP rfl rfl rfl rfl rfl rfl) <| .cons (.asg rfl rfl) <| .nil <| ks_n <| .seq <| .seq <| .region <| .cons (.lN 2 rfl rfl rfl) <| .cons (.cP [.tmp 3] rfl rfl rfl rfl (specPV_fn hs) rfl) ?_
 refine .cons (.nt rfl rfl) <| .nil <| ks_n ?_
 refine ACode.condT rfl (fun h5 => ?_) (fun h5 => ?_)
 ·try simp only [zs1, zs2, zs3, zs4, zs5, zs6, zs7] at h5
  have hV : prgV g = false := by first | assumption | simp_all
  refine .seq <| .region <| .cons (St1.lit0 (k' := 106) (e := 82) (sz := 3) (b := true) rfl rfl rfl rfl (by kernel_rfl) rfl rfl) ?_
  refine .cons (.asg rfl rfl) <| .nil <| ks_n <| .ret <| ks_r ?_
  refine kf_wret [(.t 2, .v (.o (vD (dNs (insQ g)))))] (Wk.keep [] rfl rfl ⟨ks rfl (.c (.fz rfl (by rw [insQ_no hV]; rfl) (by rw [insQ_no hV]; rfl) (by omega))), trivial⟩) rfl ?_ nobox
  rfl
 ·try simp only [zs1, zs2, zs3, zs4, zs5, zs6, zs7] at h5
  have hV : prgV g = true := by first | assumption | simp_all
  refine .skip <| ks_n <| .seq <| .region <| .cons (.lN 2 rfl rfl rfl) <| .cons (.cP [.tmp 7] rfl rfl rfl rfl (l4Instances_fn (prgV_s hV).1) rfl) ?_
  refine .cons (.asg rfl rfl) <| .nil <| ks_n <| .ret ?_
  refine kf_wret [(.t 2, .v (.o (vD (dNs (insQ g)))))] (Wk.keep [] rfl rfl ⟨ks rfl (.dt (by rw [insQ_yes hV])), trivial⟩) rfl ?_ nobox
  rfl

theorem levels_own (ds : List Dpn) (n : Nat) (ho : DOk ds n) (hn : n ≤ 1000000) (hl : ds.length ≤ 1000000) : Fn Tryz.prog 28 [] [vD (dDs ds), nat1 (n : Nat)] (.o (.c (.own 100 1 n))) [(.b 100, .b 3 1 (dR ((lvN ds n).map rI))), (.u 100, .u)] := by
 refine Fn.of_code Tryz.func28 rfl rfl HB.nil rfl rfl HB.nil.data rfl (one_num rfl) ?_
 refine .seq <| .region <| .cons (.asg rfl rfl) <| .nil <| ks_n <| .seq <| .region <| .cons (.mv rfl rfl) <| .cons (.mk 110 3 1 8 [.int .i64 0] rfl rfl rfl (by omega) rfl rfl) ?_
 refine .cons (.asg rfl rfl) <| .nil <| ks_n <| .seq <| .seq <| .region <| .cons (.mv rfl rfl) <| .cons (.lB 3 1 8 rfl rfl rfl rfl) <| .cons (.mv rfl rfl) <| .nil <| ks_n <| .block ?_
 refine .loopK (fun m σ => (∃ i : Nat, m = n - i ∧ (i ≤ n) ∧ σ = [(.t 0, .v (.o (vD (dDs ds)))), (.t 5, .v (.o (.c (.own 110 1 (n))))), (.t 12, .v (.o (nat1 (n : Nat)))), (.t 13, .v (.o (nat1 (i : Nat)))), (.b 110, .b 3 1 (dR ((lvZ ds n i).map rI))), (.u 110, .u)])) [(110, 110)] ⟨0, rfl, by omega, rfl⟩ ⟨ks rfl .dt, ks rfl (.c .ow), ks rfl .dt, ks rfl .dt, kb 110 rfl (.dt rfl (by first | exact dR_rep0i _ | rfl | (rw [← lvS_end]; done) | (rw [lvZ_zero]; exact dR_rep0i _))), trivial⟩ ?_
 rintro m σ ⟨i, hm0, hi, rfl⟩
 refine .seq <| .region <| .cons (.ls rfl rfl rfl) <| .nil <| ks_n <| .seq ?_
 refine .cD rfl (fun h14 => ?_) (fun h14 => ?_)
 ·skip
  have hlb := fun j => lvMs_bd ho (i := i) (j := j)
  refine .skip <| ks_n <| .seq <| .block <| .seq <| .region <| .cons (.mv rfl rfl) <| .cons (.asg rfl rfl) <| .nil <| ks_n <| .seq <| .region <| .cons (.mv rfl rfl) <| .cons (.ln 51 3 24 rfl rfl rfl) <| .cons (.mv rfl rfl) <| .nil <| ks_n <| .block ?_
  refine .loopK (fun m σ => (∃ j : Nat, m = ds.length - j ∧ (j ≤ ds.length) ∧ σ = [(.t 0, .v (.o (vD (dDs ds)))), (.t 5, .v (.o (.c (.own 120 1 (n))))), (.t 6, .v (.o (nat1 (i : Nat)))), (.t 12, .v (.o (nat1 (n : Nat)))), (.t 13, .v (.o (nat1 (i : Nat)))), (.t 16, .v (.o (vD (dDs ds)))), (.t 17, .v (.o (nat1 (ds.length : Nat)))), (.t 18, .v (.o (nat1 (j : Nat)))), (.b 120, .b 3 1 (dR ((lvS ds n i j).map rI))), (.u 120, .u)])) [(120, 110)] ⟨0, rfl, by omega, rfl⟩ ⟨ks rfl .dt, ks rfl (.c .ow), ks rfl .dt, ks rfl .dt, ks rfl .dt, ks rfl .dt, ks rfl .dt, ks rfl .dt, kb 110 rfl (.dt rfl (by first | rfl | (rw [lvS_zero (by omega)]; done) | (rw [lvS_no hd1 hne]; done) | (rw [← lvS_yes hd1 hdi, hda, Int.toNat_natCast]; exact dR_setI _ _ _ _))), trivial⟩ ?_
  rintro m σ ⟨j, hm0, hj, rfl⟩
  refine .seq <| .region <| .cons (.ls rfl rfl rfl) <| .nil <| ks_n <| .seq ?_
  refine .cD rfl (fun h19 => ?_) (fun h19 => ?_)
  ·skip
   obtain ⟨d, hd1⟩ : ∃ x_, ds[j]? = some x_ := ⟨_, List.getElem?_eq_getElem (by omega)⟩
   obtain ⟨a, b, hda, hdb, hab, hbn⟩ := ho d (List.mem_of_getElem? hd1)
   have hjb := hlb j
   refine .skip <| ks_n <| .seq <| .block <| .seq <| .region <| .cons (.xL 51 3 24 rfl rfl rfl rfl rfl) ?_
   refine .cons (.lN 3 rfl rfl rfl) <| .cons (.al 108 [.int .i64 0, .int .i64 0, .int .i64 0] rfl rfl rfl) <| .cons (.sT 3 true rfl rfl rfl rfl rfl rfl rfl) <| .nil <| ks_n <| .seq <| .region <| .cons (.fB 1 0 false rfl rfl rfl) <| .cons (.b1 1 rfl rfl rfl rfl rfl rfl) <| .cons (.mv rfl rfl) <| .cons (.eq rfl rfl rfl) <| .nil <| ks_n ?_
   refine .cD rfl (fun h25 => ?_) (fun h25 => ?_)
   ·skip
    have hdi : d.2.1 = (i : Int) := by omega
    have hai : a < i := by omega
    have hvb := lvN_bd ho i a hai
    refine ACode.drawK (by kernel_rfl) (by kernel_rfl) ?_
    refine .cons (.mv rfl rfl) <| .cons (.mv rfl rfl) <| .cons (.mv rfl rfl) <| .cons (.mv rfl rfl) <| .cons (.xB 3 1 8 (i := i) rfl rfl rfl rfl rfl rfl (by omega)) ?_
    refine .cons (.b1 1 rfl rfl rfl rfl (dR_at (map_at lvS_at)) rfl) <| .cons (.mv rfl rfl) <| .cons (.fB 0 0 false rfl rfl rfl) <| .cons (.b1 1 rfl rfl rfl rfl rfl rfl) <| .cons (.xB 3 1 8 (i := a) rfl rfl rfl rfl rfl hda (by omega)) ?_
    refine .cons (.b1 1 rfl rfl rfl rfl (dR_at (map_at (lvS_lo hai))) rfl) <| .cons (.pl rfl rfl rfl) <| .cons (St1.max2 rfl rfl rfl rfl rfl rfl) <| .cons (.xB 3 1 8 (i := i) rfl rfl rfl rfl rfl rfl (by omega)) ?_
    refine .cons (.sT 1 false rfl rfl rfl rfl (dR_at (map_at lvS_at)) rfl rfl) ?_
    refine .nil ⟨by kernel_rfl, ?_⟩
    refine kb_n <| ks_n <| .region <| .cons (.pl rfl rfl rfl) <| .cons (.mv rfl rfl) <| .nil ?_
    refine kl_k [(120, 120)] ⟨j + 1, rfl, by omega, rfl⟩ ⟨ks rfl .dt, ks rfl (.c .ow), ks rfl .dt, ks rfl .dt, ks rfl .dt, ks rfl .dt, ks rfl .dt, ks rfl .dt, kb 120 rfl (.dt rfl (by first | rfl | (rw [lvS_zero (by omega)]; done) | (rw [lvS_no hd1 hne]; done) | (rw [← lvS_yes hd1 hdi, hda, Int.toNat_natCast]; exact dR_setI _ _ _ _))), trivial⟩
   ·skip
    have hne : ¬ d.2.1 = (i : Int) := by omega
    refine .skip <| kb_n <| ks_n <| .region <| .cons (.pl rfl rfl rfl) <| .cons (.mv rfl rfl) <| .nil ?_
    refine kl_k [(120, 120)] ⟨j + 1, rfl, by omega, rfl⟩ ⟨ks rfl .dt, ks rfl (.c .ow), ks rfl .dt, ks rfl .dt, ks rfl .dt, ks rfl .dt, ks rfl .dt, ks rfl .dt, kb 120 rfl (.dt rfl (by first | rfl | (rw [lvS_zero (by omega)]; done) | (rw [lvS_no hd1 hne]; done) | (rw [← lvS_yes hd1 hdi, hda, Int.toNat_natCast]; exact dR_setI _ _ _ _))), trivial⟩
  ·skip
   obtain rfl : j = ds.length := by omega
   refine .exit <| ks_e <| kl_e <| kb_hit <| kb_n <| ks_n <| .region <| .cons (.pl rfl rfl rfl) <| .cons (.mv rfl rfl) <| .nil ?_
   refine kl_k [(110, 120)] ⟨i + 1, rfl, by omega, rfl⟩ ⟨ks rfl .dt, ks rfl (.c .ow), ks rfl .dt, ks rfl .dt, kb 120 rfl (.dt rfl (by first | exact dR_rep0i _ | rfl | (rw [← lvS_end]; done) | (rw [lvZ_zero]; exact dR_rep0i _))), trivial⟩
 ·skip
  obtain rfl : n = i := by omega
  refine .exit <| ks_e <| kl_e <| kb_hit <| ks_n <| .seq <| .region <| .cons (.mv rfl rfl) <| .cons (.asg rfl rfl) <| .nil <| ks_n <| .ret ?_
  refine kf_wret [(.t 4, .v (.o (.c (.own 100 1 (n))))), (.b 100, .b 3 1 (dR ((lvN ds n).map rI))), (.u 100, .u)] (Wk.keep [(100, 110)] rfl rfl ⟨ks rfl (.c .ow), kb 110 rfl (.dt rfl (by rw [lvZ_end])), trivial⟩) rfl ?_ (one_box rfl)
  rfl
theorem implRL_fn {g : Prg} (hs : szG g ≤ 1073741824)  : Fn Tryz.prog 9 [] [ad (rG g)] (.o (.c (.own 100 1 (insQ g).length))) [(.b 100, .b 3 1 (dR ((lvN (strV g) (insQ g).length).map rI))), (.u 100, .u)] := by
 refine Fn.of_code Tryz.func9 rfl rfl HB.nil rfl rfl HB.nil.data rfl (one_num rfl) ?_
 refine .seq <| .region <| .cons (St1.boxP rfl rfl rfl rfl rfl rfl) <| .cons (.asg rfl rfl) <| .nil <| ks_n <| .seq ?_
 refine ACode.drawK (by kernel_rfl) (by kernel_rfl) ?_
 refine .cons (.lN 2 rfl rfl rfl) <| .cons (.cP [.tmp 3] rfl rfl rfl rfl (implStr_fn hs) rfl) ?_
 refine .cons (.lN 2 rfl rfl rfl) <| .cons (.cP [.tmp 5] rfl rfl rfl rfl (implPI_fn hs) rfl) ?_
 refine .cons (.ln 82 3 40 rfl rfl rfl) <| .cons (.cO [.tmp 4, .tmp 7] [(100, 108)] rfl rfl rfl rfl (levels_own (strV g) (insQ g).length (strP_ok g) (by have := insQ_len g; omega) (by have := strP_len g; omega)) rfl trivial flatS.nil (flatS.nil.cons rfl) HB.nil.data outS_one) ?_
 refine .cons (.asg rfl rfl) ?_
 refine .nil ⟨by kernel_rfl, ?_⟩
 refine ks_n <| .ret ?_
 refine kf_wret [(.t 2, .v (.o (.c (.own 100 1 ((insQ g).length))))), (.b 100, .b 3 1 (dR ((lvN (strV g) (insQ g).length).map rI))), (.u 100, .u)] (Wk.keep [(100, 108)] rfl rfl ⟨ks rfl (.c .ow), kb 108 rfl (.dt rfl rfl), trivial⟩) rfl ?_ (one_box rfl)
 rfl

theorem specRL_fn {g : Prg} (hs : szG g ≤ 1073741824)  : Fn Tryz.prog 7 [] [ad (rG g)] (.o (vD (dIs (lvN (strV g) (insQ g).length)))) [] := by
 have ho := strP_ok g
 have hsr := strV_sr g
 have hil := insQ_len g
 have hdl := strP_len g
 refine Fn.code0 Tryz.func7 rfl rfl rfl rfl ?_
 refine .seq <| .region <| .cons (St1.boxP rfl rfl rfl rfl rfl rfl) <| .cons (.asg rfl rfl) <| .nil <| ks_n <| .seq <| .region <| .cons (.lN 2 rfl rfl rfl) <| .cons (.cP [.tmp 6] rfl rfl rfl rfl (specPI_fn hs) rfl) ?_
 refine .cons (.ln 82 3 40 rfl rfl rfl) <| .cons (.mk 109 3 1 8 [.int .i64 0] rfl rfl rfl (by omega) rfl rfl) ?_
 refine .cons (.asg rfl rfl) <| .nil <| ks_n <| .seq <| .region <| .cons (.lN 2 rfl rfl rfl) <| .cons (.cP [.tmp 10] rfl rfl rfl rfl (specStr_fn hs) rfl) ?_
 refine .cons (.asg rfl rfl) <| .nil <| ks_n <| .seq <| .seq <| .region <| .cons (.asg rfl rfl) <| .nil <| ks_n <| .block ?_
 refine .loopK (fun m σ => (∃ j : Nat, m = (strV g).length - j ∧ (j ≤ (strV g).length) ∧ σ = [(.t 3, .v (.o (.c (.own 110 1 ((insQ g).length))))), (.t 4, .v (.o (vD (dDs (strV g))))), (.t 5, .v (.o (nat1 (j : Nat)))), (.b 110, .b 3 1 (dR ((spN (strV g) (insQ g).length j).map rI))), (.u 110, .u)])) [(110, 109)] ⟨0, rfl, by omega, rfl⟩ ⟨ks rfl (.c .ow), ks rfl .dt, ks rfl .dt, kb 109 rfl (.dt rfl (by first | rfl | (rw [spN_zero]; exact dR_rep0i _) | (rw [hno]; done) | (rw [← hyes]; exact dR_setI _ _ _ _))), trivial⟩ ?_
 rintro m σ ⟨j, hm0, hj, rfl⟩
 refine .seq <| .seq <| .region <| .cons (.mv rfl rfl) <| .cons (.mv rfl rfl) <| .cons (.ln 51 3 24 rfl rfl rfl) <| .cons (.ls rfl rfl rfl) <| .nil <| ks_n ?_
 refine .cD rfl (fun h15 => ?_) (fun h15 => ?_)
 ·skip
  obtain ⟨d, hd1⟩ : ∃ x_, (strV g)[j]? = some x_ := ⟨_, List.getElem?_eq_getElem (by omega)⟩
  obtain ⟨a, b, hda, hdb, hab, hbn⟩ := ho d (List.mem_of_getElem? hd1)
  have hvb := lvN_bd ho (insQ g).length a (by omega)
  have hfr := spN_from ho hsr hd1 hda (by omega)
  rw [hda, Int.toNat_natCast] at hfr
  have hto := spN_at (ds := strV g) (n := (insQ g).length) (j := j) hbn
  have hmb := lvM_bd (ds := (strV g).take j) (n := (insQ g).length) (t := b) (fun d hd => ho d (List.mem_of_mem_take hd)) (v := lvN (strV g) (insQ g).length) (fun i hi => lvN_bd ho _ i (by omega))
  refine .skip <| ks_n <| .seq <| .block <| .seq ?_
  refine ACode.drawK (by kernel_rfl) (by kernel_rfl) ?_
  refine .cons (.mv rfl rfl) <| .cons (.mv rfl rfl) <| .cons (.mv rfl rfl) <| .cons (.xL 51 3 24 rfl rfl rfl rfl rfl) ?_
  refine .cons (.fP 0 0 false rfl rfl) <| .cons (.l1 1 rfl rfl) <| .cons (.xB 3 1 8 (i := a) rfl rfl rfl rfl rfl hda (by omega)) ?_
  refine .cons (.b1 1 rfl rfl rfl rfl (dR_at (map_at hfr)) rfl) <| .cons (.pl rfl rfl rfl) <| .cons (.mv rfl rfl) <| .cons (.mv rfl rfl) <| .cons (.mv rfl rfl) <| .cons (.xL 51 3 24 rfl rfl rfl rfl rfl) ?_
  refine .cons (.fP 1 0 false rfl rfl) <| .cons (.l1 1 rfl rfl) <| .cons (.xB 3 1 8 (i := b) rfl rfl rfl rfl rfl hdb (by omega)) ?_
  refine .cons (.b1 1 rfl rfl rfl rfl (dR_at (map_at hto)) rfl) <| .cons (.gt rfl rfl rfl) ?_
  refine .nil ⟨by kernel_rfl, ?_⟩
  refine ks_n ?_
  refine .cD rfl (fun h35 => ?_) (fun h35 => ?_)
  ·skip
   have hyes := spN_more hd1 hdb hbn (by rw [hda, Int.toNat_natCast]; omega)
   rw [hda, Int.toNat_natCast] at hyes
   refine ACode.drawK (by kernel_rfl) (by kernel_rfl) ?_
   refine .cons (.mv rfl rfl) <| .cons (.mv rfl rfl) <| .cons (.mv rfl rfl) <| .cons (.xL 51 3 24 rfl rfl rfl rfl rfl) ?_
   refine .cons (.fP 1 0 false rfl rfl) <| .cons (.l1 1 rfl rfl) <| .cons (.mv rfl rfl) <| .cons (.mv rfl rfl) <| .cons (.mv rfl rfl) <| .cons (.xL 51 3 24 rfl rfl rfl rfl rfl) ?_
   refine .cons (.fP 0 0 false rfl rfl) <| .cons (.l1 1 rfl rfl) <| .cons (.xB 3 1 8 (i := a) rfl rfl rfl rfl rfl hda (by omega)) ?_
   refine .cons (.b1 1 rfl rfl rfl rfl (dR_at (map_at hfr)) rfl) <| .cons (.pl rfl rfl rfl) <| .cons (.xB 3 1 8 (i := b) rfl rfl rfl rfl rfl hdb (by omega)) ?_
   refine .cons (.sT 1 false rfl rfl rfl rfl (dR_at (map_at hto)) rfl rfl) ?_
   refine .nil ⟨by kernel_rfl, ?_⟩
   refine kb_n <| ks_n <| .region <| .cons (.mv rfl rfl) <| .cons (.pl rfl rfl rfl) <| .cons (.asg rfl rfl) <| .nil ?_
   refine kl_k [(110, 110)] ⟨j + 1, rfl, by omega, rfl⟩ ⟨ks rfl (.c .ow), ks rfl .dt, ks rfl .dt, kb 110 rfl (.dt rfl (by first | rfl | (rw [spN_zero]; exact dR_rep0i _) | (rw [hno]; done) | (rw [← hyes]; exact dR_setI _ _ _ _))), trivial⟩
  ·skip
   have hno := spN_less hd1 hdb hbn (by rw [hda, Int.toNat_natCast]; omega)
   refine .skip <| kb_n <| ks_n <| .region <| .cons (.mv rfl rfl) <| .cons (.pl rfl rfl rfl) <| .cons (.asg rfl rfl) <| .nil ?_
   refine kl_k [(110, 110)] ⟨j + 1, rfl, by omega, rfl⟩ ⟨ks rfl (.c .ow), ks rfl .dt, ks rfl .dt, kb 110 rfl (.dt rfl (by first | rfl | (rw [spN_zero]; exact dR_rep0i _) | (rw [hno]; done) | (rw [← hyes]; exact dR_setI _ _ _ _))), trivial⟩
 ·skip
  obtain rfl : j = (strV g).length := by omega
  refine .exit <| ks_e <| kl_e <| kb_hit <| ks_n <| .seq <| .region <| .cons (.mv rfl rfl) <| .cons (.asg rfl rfl) <| .nil <| ks_n <| .ret ?_
  refine kf_wret [(.t 2, .v (.o (vD (dIs (lvN (strV g) (insQ g).length)))))] (Wk.keep [] rfl rfl ⟨ks rfl (.c (.fz rfl (by rw [spN_end ho]) (by rw [List.length_map, lvN_len]) (by omega))), trivial⟩) rfl ?_ nobox
  rfl
set_option maxHeartbeats 6400000 in
theorem lawXrl {g : Prg} (ho : okPrg g) {xs : List Int} (hx : xs.length ≤ 1000000) (qs : szG g ≤ 1048576 → PureC 7 [ad (rG g)] xs) (qi : szG g ≤ 1048576 → OwnC 9 [ad (rG g)] xs)
    {w : World} {u0 u1 : Value} (d0 : Dr (fun b => b < w.heap.size) w (dRs g.1) u0) (d1 : Dr (fun b => b < w.heap.size) w (dPts g.2) u1) : Truth Tryz.prog 3 #[.agg #[u0, u1]] w := by
  have L0 := LawS.start w [u0, u1]
  have hz := szPrg_fn (l := 1048576) (by omega) ho
  have D0 := hid d0; have D1 := hid d1; clear d0 d1
  have HL0 := hid L0; clear L0
  have HX := hid hx; clear hx
  by_cases hs : szG g ≤ 1048576
  case neg =>
    rw [subZ_no (by omega)] at hz
    have HZ := hid hz; clear hz qs qi ho
    go_enter Tryz.func3, Tryz.ntmps3
    go_wp2_with fail
    refine (HZ.out.callsI (vs := [_, _]) (vals2_mk (ad2_v (D0.out.frame (below_sameAll HL0.out.below _)) (D1.out.frame (below_sameAll HL0.out.below _))) (Dr.val (.int .i64 1048576) rfl))).mono ?_
    rintro e wA ⟨rfl, bA⟩
    have LA := HL0.out.fwd bA HL0.out.lt
    have HLA := hid LA; clear LA
    go_wp2_with fail
    go_ret
    exact ⟨rfl, HLA.out.below⟩
  rw [subZ_yes (by omega)] at hz
  have qs := hid (qs hs); have qi := hid (qi hs)
  have hcp := hid (copyPrg hs)
  have hep := hid (eqPrg_fn g g (by omega))
  have HS := hid hs
  have HZ := hid hz
  have hz0 : (0 : Int) ≤ 1048576 - (szG g : Nat) := by omega
  clear hz ho hs
  obtain ⟨z, hz1⟩ : ∃ z : Int, z = 1048576 - (szG g : Nat) := ⟨_, rfl⟩
  rw [← hz1] at HZ hz0
  clear hz1
  go_enter Tryz.func3, Tryz.ntmps3
  go_wp2_with fail
  refine (HZ.out.callsI (vs := [_, _]) (vals2_mk (ad2_v (D0.out.frame (below_sameAll HL0.out.below _)) (D1.out.frame (below_sameAll HL0.out.below _))) (Dr.val (.int .i64 1048576) rfl))).mono ?_
  rintro e wA ⟨rfl, bA⟩
  have HLA := hid (HL0.out.fwd bA HL0.out.lt); clear bA
  have c0 := HLA.out.c 0 rfl; have c1 := HLA.out.c 1 rfl
  go_wp2_with fail
  clear c0 c1
  refine (hcp.out _ _ [u0, u1] rfl (all2 (D0.out.frame (below_sameAll HLA.out.below _)) (D1.out.frame (below_sameAll HLA.out.below _)))).mono ?_
  rintro e wB ⟨vs, rfl, bB, hv⟩
  obtain ⟨y0, l0, rfl, hv1⟩ := len_cons hv.1
  obtain ⟨y1, l1, rfl, hv2⟩ := len_cons hv1
  obtain rfl := len_zero hv2
  have NB0 := hid (hv.2 0 _ _ rfl rfl); have NB1 := hid (hv.2 1 _ _ rfl rfl); clear hv hv1 hv2
  have HLB := hid (HLA.out.fwd bB HLA.out.lt); clear bB
  go_wp2_with fail
  refine (qs.out _ _ [.agg #[y0, y1]] (vals1_mk (ad2_v NB0.out.dr NB1.out.dr))).mono ?_
  rintro e wC ⟨⟨a0, k0, rfl, i0⟩, bC⟩
  have HLC := hid (HLB.out.fwd bC HLB.out.lt); clear bC NB0 NB1
  have I0 := hid i0; clear i0
  have c0 := HLC.out.c 0 rfl; have c1 := HLC.out.c 1 rfl
  go_wp2_with fail
  clear c0 c1
  refine (hcp.out _ _ [u0, u1] rfl (all2 (D0.out.frame (below_sameAll HLC.out.below _)) (D1.out.frame (below_sameAll HLC.out.below _)))).mono ?_
  rintro e wD ⟨vs, rfl, bD, hv⟩
  obtain ⟨x0, l0, rfl, hv1⟩ := len_cons hv.1
  obtain ⟨x1, l1, rfl, hv2⟩ := len_cons hv1
  obtain rfl := len_zero hv2
  have ND0 := hid (hv.2 0 _ _ rfl rfl); have ND1 := hid (hv.2 1 _ _ rfl rfl); clear hv hv1 hv2
  have HBD := hid bD; clear bD
  have HA := hid ((HBD.out).alloc HBD.out.size (.cells #[x0, x1] 32))
  have HBx := hid (heap_alloc_new wD (.cells #[x0, x1] 32))
  have HAl := hid (show Below wD.heap.size wD (wD.alloc (.cells #[x0, x1] 32)) from (Below.refl _ _).alloc (Nat.le_refl _) _)
  have ND0a := hid (ND0.out.fwd HAl.out); have ND1a := hid (ND1.out.fwd HAl.out)
  have s0 := fun a m w => run_store Tryz.prog w a x0 m ND0.out.one; have s1 := fun a m w => run_store Tryz.prog w a x1 m ND1.out.one
  go_wp2_with fail
  clear s0 s1
  refine (qi.out _ _ [.agg #[x0, x1]] (vals1_mk (ad2_v ND0a.out.dr ND1a.out.dr))).mono ?_
  rintro e wE ⟨⟨a1, k1, rfl, o1⟩, bE⟩
  have O1 := hid (show OwnS wE (wD.heap.size + 1) _ _ by have := o1; simpa using this); clear o1
  have HBE := hid (HA.out.trans (bE.mono HA.out.size))
  have HDE := hid (HAl.out.trans (bE.mono HAl.out.size))
  have HBx1 := hid ((bE.block _ (by simp)).trans HBx.out); clear bE
  go_wp2_with fail
  refine (eqIntS_any _ _ _ _ _ _ xs xs _ (O1.out.intsA (by have := HX.out; omega)) (I0.out.below HBE.out)).mono ?_
  rintro e wF ⟨rfl, q⟩
  rw [dec_self]
  have HBF := hid (HBE.out.trans ((q.below _).mono HBE.out.size)); have HDF := hid (HDE.out.trans ((q.below _).mono HDE.out.size))
  have O1F := hid (O1.out.below' (q.below _)); have HBxF := hid (((q.below wE.heap.size).block _ (blk_lt HBx1.out)).trans HBx1.out); clear q
  have HLF := hid (HLC.out.fwd HBF.out HLC.out.lt)
  have c0 := HLF.out.c 0 rfl; have c1 := HLF.out.c 1 rfl
  have e0 : wF.cell? ⟨wD.heap.size, 0, none⟩ = some x0 := by rw [cell_of_row wF _ _ _ _ _ HBxF.out]; rfl
  have e1 : wF.cell? ⟨wD.heap.size, 1, none⟩ = some x1 := by rw [cell_of_row wF _ _ _ _ _ HBxF.out]; rfl
  go_wp2_with fail
  go_region_held3 (fun wq => wq.cell? ⟨w.heap.size, 0, none⟩ = some u0 ∧ wq.cell? ⟨w.heap.size, 1, none⟩ = some u1 ∧ wq.cell? ⟨wD.heap.size, 0, none⟩ = some x0 ∧ wq.cell? ⟨wD.heap.size, 1, none⟩ = some x1)
    ((repeat' apply And.intro) <;> first | assumption | go_keep)
    (first
    | (go_at_call 8
       refine (hcp.out _ _ [u0, u1] rfl (all2 (D0.out.frame (below_sameAll (HLF.out.below.drew) _)) (D1.out.frame (below_sameAll (HLF.out.below.drew) _)))).mono ?_
       rintro e wG ⟨vs, rfl, bG, hv⟩
       obtain ⟨z0, l0, rfl, hv1⟩ := len_cons hv.1
       obtain ⟨z1, l1, rfl, hv2⟩ := len_cons hv1
       obtain rfl := len_zero hv2
       have NG0 := hid (hv.2 0 _ _ rfl rfl); have NG1 := hid (hv.2 1 _ _ rfl rfl)
       have HFG := hid (show Below wF.heap.size wF wG from (Below.refl _ _).drew.trans bG)
       clear hv hv1 hv2 bG
       have c0 := (HLF.out.fwd HFG.out HLF.out.lt).c 0 rfl; have c1 := (HLF.out.fwd HFG.out HLF.out.lt).c 1 rfl
       have e0 : wG.cell? ⟨wD.heap.size, 0, none⟩ = some x0 := by rw [cell_of_row wG _ _ _ _ _ ((HFG.out.block _ (blk_lt HBxF.out)).trans HBxF.out)]; rfl
       have e1 : wG.cell? ⟨wD.heap.size, 1, none⟩ = some x1 := by rw [cell_of_row wG _ _ _ _ _ ((HFG.out.block _ (blk_lt HBxF.out)).trans HBxF.out)]; rfl)
    | (go_at_call 11
       refine (hep.out.callsB (vs := [_, _]) (B := fun _ => True) (vals2_mk (ad2_v (((ND0.out.fwd HDF.out).fwd HFG.out).dr.mono fun _ _ _ => trivial) (((ND1.out.fwd HDF.out).fwd HFG.out).dr.mono fun _ _ _ => trivial)) (ad2_v (NG0.out.dr.mono fun _ _ _ => trivial) (NG1.out.dr.mono fun _ _ _ => trivial)))).mono ?_
       rintro e wH ⟨rfl, bH⟩
       rw [sameG_refl]
       have HFH := hid (HFG.out.trans (bH.mono HFG.out.size))
       clear bH
       have c0 := (HLF.out.fwd HFH.out HLF.out.lt).c 0 rfl; have c1 := (HLF.out.fwd HFH.out HLF.out.lt).c 1 rfl
       have e0 : wH.cell? ⟨wD.heap.size, 0, none⟩ = some x0 := by rw [cell_of_row wH _ _ _ _ _ ((HFH.out.block _ (blk_lt HBxF.out)).trans HBxF.out)]; rfl
       have e1 : wH.cell? ⟨wD.heap.size, 1, none⟩ = some x1 := by rw [cell_of_row wH _ _ _ _ _ ((HFH.out.block _ (blk_lt HBxF.out)).trans HBxF.out)]; rfl))

  have HBH := hid (HBF.out.trans (HFH.out.mono HBF.out.size)); have HDH := hid (HDF.out.trans (HFH.out.mono HDF.out.size))
  have O1H := hid (O1F.out.below' HFH.out)
  clear NG0 NG1 HFG HFH HLF HBxF
  go_wp2_with fail
  clear c0 c1 e0 e1
  refine (markPrg_k HS.out (S := fun b => wC.heap.size ≤ b ∧ b < wD.heap.size) ((ND0.out.k fun b h1 h2 => ⟨h1, h2⟩).mark (marked_of HDH.out (fun _ => True))) ((ND1.out.k fun b h1 h2 => ⟨h1, h2⟩).mark (marked_of HDH.out (fun _ => True))) (fun b h => Nat.lt_of_lt_of_le h.2 HDH.out.size)).mono ?_
  rintro e wI ⟨⟨k, hk0, hk1, rfl⟩, mI⟩
  have HBI := hid (HBH.out.trans (mI.below (fun b h => h.1) HBH.out.size))
  have O1I := hid (O1H.out.marked mI (fun b h => by have := h.2; omega)); clear mI
  have h2 : decide (k < 0) = false := by simp; omega
  go_wp2_with fail
  clear h2
  refine (eqIntS_any _ _ _ _ _ _ xs xs _ (O1I.out.intsA (by have := HX.out; omega)) (I0.out.below HBI.out)).mono ?_
  rintro e wJ ⟨rfl, q⟩
  rw [dec_self]
  have HBJ := hid (HBI.out.trans ((q.below _).mono HBI.out.size)); have O1J := hid (O1I.out.below' (q.below _)); clear q
  go_wp2_with fail
  refine (markIntS_any _ _ _ _ 1 _ _ O1J.out (by have := HX.out; omega) (by omega) (by omega)).mono ?_
  rintro e wK ⟨rfl, o, gK⟩
  have HBK := hid (HBJ.out.grown gK HBJ.out.size (fun k hk => by have := (O1J.out.lt k hk).1; have := HBD.out.size; omega))
  have O1K := hid o; clear o gK
  go_wp2_with fail
  refine (heldIntS_any _ _ _ 1 _ (O1K.out.intsA (by have := HX.out; omega)) (by omega) (by omega)).mono ?_
  rintro e wL ⟨rfl, q⟩
  have HBL := hid (HBK.out.trans ((q.below _).mono HBK.out.size)); have O1L := hid (O1K.out.below' (q.below _)); clear q
  have HLL := hid (HLC.out.fwd HBL.out HLC.out.lt)
  have h3 : decide ((1 : Int) + (xs.length : Nat) < 0) = false := by simp; omega
  have c0 := HLL.out.c 0 rfl; have c1 := HLL.out.c 1 rfl
  go_wp2_with fail
  clear c0 c1
  refine (hcp.out _ _ [u0, u1] rfl (all2 (D0.out.frame (below_sameAll HLL.out.below _)) (D1.out.frame (below_sameAll HLL.out.below _)))).mono ?_
  rintro e wM ⟨vs, rfl, bM, hv⟩
  obtain ⟨m0, l0, rfl, hv1⟩ := len_cons hv.1
  obtain ⟨m1, l1, rfl, hv2⟩ := len_cons hv1
  obtain rfl := len_zero hv2
  have NM0 := hid (hv.2 0 _ _ rfl rfl); have NM1 := hid (hv.2 1 _ _ rfl rfl); clear hv hv1 hv2
  have HBM := hid (HBL.out.trans (bM.mono HBL.out.size)); have O1M := hid (O1L.out.below' bM); clear bM
  go_wp2_with fail
  refine (qi.out _ _ [.agg #[m0, m1]] (vals1_mk (ad2_v NM0.out.dr NM1.out.dr))).mono ?_
  rintro e wN ⟨⟨a2, k2, rfl, o2⟩, bN⟩
  have O2 := hid o2; clear o2
  have HBN := hid (HBM.out.trans (bN.mono HBM.out.size)); have O1N := hid (O1M.out.below' bN); clear bN
  go_wp2_with fail
  refine (eqIntS_any _ _ _ _ _ _ xs xs _ (O2.out.intsA (by have := HX.out; omega)) (I0.out.below HBN.out)).mono ?_
  rintro e wO ⟨rfl, q⟩
  rw [dec_self]
  have HBO := hid (HBN.out.trans ((q.below _).mono HBN.out.size)); have O1O := hid (O1N.out.below' (q.below _)); clear q
  go_wp2_with fail
  refine (heldIntS_any _ _ _ 1 _ (O1O.out.intsA (by have := HX.out; omega)) (by omega) (by omega)).mono ?_
  rintro e wP ⟨rfl, q⟩
  have HBP := hid (HBO.out.trans ((q.below _).mono HBO.out.size)); clear q
  go_wp2_with fail
  go_ret
  exact ⟨rfl, HLC.out.below.trans (HBP.out.mono (Nat.le_of_lt HLC.out.lt))⟩
theorem lawExrl {g : Prg} (ho : okPrg g) {w : World} {v : Value} (e0 : V1r bx0 al0 (fun b => b < w.heap.size) w (ad (rG g)) v) : Truth Tryz.prog 3 #[v] w := by
  obtain ⟨u0, u1, rfl, d0, d1⟩ := e0_parts e0
  exact lawXrl ho  (by rw [lvN_len]; have := insQ_len g; omega) (fun hs => (specRL_fn (by omega)).pureC) (fun hs => Fn.ownC (xs := lvN (strV g) (insQ g).length) (by rw [lvN_len]; exact implRL_fn (by omega))) d0 d1
end Go.Proofs.YtlecfjlgbkghfaaGreat
