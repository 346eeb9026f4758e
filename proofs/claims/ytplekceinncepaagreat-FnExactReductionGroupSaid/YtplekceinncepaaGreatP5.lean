/- Part 5 of 6 of the proof: laws on memory and data, then what the functions compute, in the order in which they build on each other; conditions: those that each theorem names. -/
import Derived.Laws.MakeOwn
import Derived.Test.YtplekceinncepaaGreatP4

/- Arguments of laws: sizes of numbers and affine expressions; condition: lists as long as memory lets them be. -/
namespace Go.Proofs.YtplekceinncepaaGreat
set_option linter.unusedVariables false
set_option linter.unusedSimpArgs false
open Go.RowKit

/-- What is left of l behind n, or -1. -/
def subZ (l : Int) (n : Nat) : Int := if (n : Int) ≤ l then l - n else -1
theorem subZ_yes {l : Int} {n : Nat} (h : (n : Int) ≤ l) : subZ l n = l - n := if_pos h
theorem subZ_no {l : Int} {n : Nat} (h : ¬ (n : Int) ≤ l) : subZ l n = -1 := if_neg h
theorem subZ_neg {l : Int} {n : Nat} (h : subZ l n < 0) (hl : 0 ≤ l) : ¬ (n : Int) ≤ l := fun h2 => by rw [subZ_yes h2] at h; omega
theorem subZ_pos {l : Int} {n : Nat} (h : ¬ subZ l n < 0) : (n : Int) ≤ l := Classical.byContradiction fun h2 => by rw [subZ_no h2] at h; omega
theorem subZ_bd {l : Int} {n : Nat} (hl : 0 ≤ l ∧ l ≤ 1048576) : -1 ≤ subZ l n ∧ subZ l n ≤ 1048576 := by
  unfold subZ; split <;> omega
theorem sum_take {α : Type} (f : α → Nat) {l : List α} {i : Nat} {x : α} (h : l[i]? = some x) : ((l.take (i + 1)).map f).sum = ((l.take i).map f).sum + f x := by
  rw [List.take_add_one, h, List.map_append, List.sum_append]; simp
theorem sum_take_le {α : Type} (f : α → Nat) : ∀ {l : List α} {i : Nat}, ((l.take i).map f).sum ≤ (l.map f).sum
  | [], i => by simp
  | y :: l, 0 => by simp
  | y :: l, i + 1 => by rw [List.take_succ_cons, List.map_cons, List.map_cons, List.sum_cons, List.sum_cons]; have := sum_take_le f (l := l) (i := i); omega

set_option maxRecDepth 100000 in
set_option maxHeartbeats 1600000 in
theorem szInts_fn (xs : List Int) {l : Int} (hl : 0 ≤ l ∧ l ≤ 1048576) (hx : xs.length ≤ 17592186044416) : Fn Tryz.prog 85 [] [vD (dIs xs), nat1 l] (.o (nat1 (subZ l xs.length))) [] := by
  refine Fn.code0 Tryz.func85 rfl rfl rfl rfl ?_
  refine ACode.seq ?_
  refine ACode.region ?_
  refine .cons (.asg rfl rfl) ?_
  refine .nil ?_
  refine ks_n ?_
  refine ACode.seq ?_
  refine ACode.region ?_
  refine .cons (.mv rfl rfl) ?_
  refine .cons (.mv rfl rfl) ?_
  refine .cons (.ln 3 1 8 rfl rfl rfl) ?_
  refine .cons (.sb rfl rfl rfl) ?_
  refine .cons (.asg rfl rfl) ?_
  refine .nil ?_
  refine ks_n ?_
  refine ACode.seq ?_
  refine ACode.seq ?_
  refine ACode.region ?_
  refine .cons (.mv rfl rfl) ?_
  refine .cons (.ls rfl rfl rfl) ?_
  refine .nil ?_
  refine ks_n ?_
  refine .cD rfl (fun h10 => ?_) (fun h10 => ?_)
  · skip
    refine ACode.seq ?_
    refine ACode.region ?_
    refine .cons (.asg rfl rfl) ?_
    refine .nil ?_
    refine ks_n ?_
    refine ACode.ret ?_
    refine ks_r ?_
    refine kf_ret rfl ?_ nobox
    exact leafI (by first | (rw [subZ_yes (by omega)]; done) | (rw [subZ_no (by omega)]) | (rw [subZ_yes (by omega)]; omega))
  · skip
    refine ACode.skip ?_
    refine ks_n ?_
    refine ACode.seq ?_
    refine ACode.region ?_
    refine .cons (.mv rfl rfl) ?_
    refine .cons (.asg rfl rfl) ?_
    refine .nil ?_
    refine ks_n ?_
    refine ACode.ret ?_
    refine kf_ret rfl ?_ nobox
    exact leafI (by first | (rw [subZ_yes (by omega)]; done) | (rw [subZ_no (by omega)]) | (rw [subZ_yes (by omega)]; omega))

set_option maxRecDepth 100000 in
set_option maxHeartbeats 1600000 in
theorem szAff_fn {x : Aff} {l : Int} (hl : 0 ≤ l ∧ l ≤ 1048576) (hx : x.1.length ≤ 17592186044416) : Fn Tryz.prog 196 [] [ad (rA x), nat1 l] (.o (nat1 (subZ l x.1.length))) [] := by
  have hb := subZ_bd (n := x.1.length) hl
  refine Fn.code0 Tryz.func196 rfl rfl rfl rfl ?_
  refine ACode.seq ?_
  refine ACode.region ?_
  refine .cons (St1.boxP rfl rfl rfl rfl rfl rfl) ?_
  refine .cons (.asg rfl rfl) ?_
  refine .nil ?_
  refine ks_n ?_
  refine ACode.seq ?_
  refine ACode.region ?_
  refine .cons (.fP 0 0 false rfl rfl) ?_
  refine .cons (.l1 1 rfl rfl) ?_
  refine .cons (.mv rfl rfl) ?_
  refine .cons (.cP [.tmp 6, .tmp 7] rfl rfl rfl rfl (szInts_fn x.1 hl hx) rfl) ?_
  refine .cons (.asg rfl rfl) ?_
  refine .nil ?_
  refine ks_n ?_
  refine ACode.seq ?_
  refine ACode.seq ?_
  refine ACode.region ?_
  refine .cons (.mv rfl rfl) ?_
  refine .cons (.ls rfl rfl rfl) ?_
  refine .nil ?_
  refine ks_n ?_
  refine .cD rfl (fun h10 => ?_) (fun h10 => ?_)
  · skip
    refine ACode.seq ?_
    refine ACode.region ?_
    refine .cons (.asg rfl rfl) ?_
    refine .nil ?_
    refine ks_n ?_
    refine ACode.ret ?_
    refine ks_r ?_
    refine kf_ret rfl ?_ nobox
    exact leafI (subZ_no (subZ_neg h10 hl.1)).symm
  · skip
    refine ACode.skip ?_
    refine ks_n ?_
    refine ACode.seq ?_
    refine ACode.region ?_
    refine .cons (.mv rfl rfl) ?_
    refine .cons (.asg rfl rfl) ?_
    refine .nil ?_
    refine ks_n ?_
    refine ACode.ret ?_
    refine kf_ret rfl ?_ nobox
    rfl

set_option maxRecDepth 100000 in
set_option maxHeartbeats 1600000 in
theorem szAffs_fn (xs : List Aff) {l : Int} (hl : 0 ≤ l ∧ l ≤ 1048576) (hx : xs.length ≤ 17592186044416) (hq : ∀ x ∈ xs, x.1.length ≤ 17592186044416) : Fn Tryz.prog 160 [] [vD (dAs xs), nat1 l] (.o (nat1 (subZ l (szAs xs)))) [] := by
  refine Fn.code0 Tryz.func160 rfl rfl rfl rfl ?_
  refine ACode.seq ?_
  refine ACode.region ?_
  refine .cons (.asg rfl rfl) ?_
  refine .nil ?_
  refine ks_n ?_
  refine ACode.seq ?_
  refine ACode.region ?_
  refine .cons (.mv rfl rfl) ?_
  refine .cons (.mv rfl rfl) ?_
  refine .cons (.ln 178 2 32 rfl rfl rfl) ?_
  refine .cons (.sb rfl rfl rfl) ?_
  refine .cons (.asg rfl rfl) ?_
  refine .nil ?_
  refine ks_n ?_
  refine ACode.seq ?_
  refine ACode.seq ?_
  refine ACode.region ?_
  refine .cons (.mv rfl rfl) ?_
  refine .cons (.ls rfl rfl rfl) ?_
  refine .nil ?_
  refine ks_n ?_
  refine .cD rfl (fun h11 => ?_) (fun h11 => ?_)
  · skip
    refine ACode.seq ?_
    refine ACode.region ?_
    refine .cons (.asg rfl rfl) ?_
    refine .nil ?_
    refine ks_n ?_
    refine ACode.ret ?_
    refine ks_r ?_
    refine kf_ret rfl ?_ nobox
    exact leafI (subZ_no (by rw [szAs]; omega)).symm
  · skip
    refine ACode.skip ?_
    refine ks_n ?_
    refine ACode.seq ?_
    refine ACode.seq ?_
    refine ACode.region ?_
    refine .cons (.asg rfl rfl) ?_
    refine .nil ?_
    refine ks_n ?_
    refine ACode.block ?_
    refine .loopK (fun m σ => (∃ i : Nat, m = xs.length - i ∧ (i ≤ xs.length) ∧ (((xs.length + ((xs.take i).map fun a => a.1.length).sum : Nat) : Int) ≤ l) ∧ σ = [(.t 0, .v (.o (vD (dAs xs)))), (.t 1, .v (.o (nat1 (l - (xs.length + ((xs.take i).map fun a => a.1.length).sum : Nat))))), (.t 4, .v (.o (nat1 0))), (.t 5, .v (.o (nat1 (i : Nat))))])) [] ⟨0, rfl, by omega, by simp; omega, rfl⟩ ⟨ks rfl .dt, ks rfl (.dt (vI (by first | (simp; done) | (rw [hT, subZ_yes (by omega)]; omega)))), ks rfl .dt, ks rfl .dt, trivial⟩ ?_
    rintro m σ ⟨i, hm0, hi, hF, rfl⟩
    refine ACode.seq ?_
    refine ACode.seq ?_
    refine ACode.region ?_
    refine .cons (.mv rfl rfl) ?_
    refine .cons (.mv rfl rfl) ?_
    refine .cons (.ln 178 2 32 rfl rfl rfl) ?_
    refine .cons (.ls rfl rfl rfl) ?_
    refine .nil ?_
    refine ks_n ?_
    refine .cD rfl (fun h15 => ?_) (fun h15 => ?_)
    · skip
      obtain ⟨x, hx1⟩ : ∃ x, xs[i]? = some x := ⟨_, List.getElem?_eq_getElem (by omega)⟩
      have hT := sum_take (fun a : Aff => a.1.length) hx1
      refine ACode.skip ?_
      refine ks_n ?_
      refine ACode.seq ?_
      refine ACode.block ?_
      refine ACode.seq ?_
      refine ACode.region ?_
      refine .cons (.mv rfl rfl) ?_
      refine .cons (.mv rfl rfl) ?_
      refine .cons (.xL 178 2 32 rfl rfl rfl rfl rfl) ?_
      refine .cons (.lN 2 rfl rfl rfl) ?_
      refine .cons (.mv rfl rfl) ?_
      refine .cons (.cP [.tmp 21, .tmp 22] rfl rfl rfl rfl (szAff_fn (l := l - (xs.length + ((xs.take i).map fun a => a.1.length).sum : Nat)) (by omega) (hq x (List.mem_of_getElem? hx1))) rfl) ?_
      refine .cons (.asg rfl rfl) ?_
      refine .nil ?_
      refine ks_n ?_
      refine ACode.seq ?_
      refine ACode.region ?_
      refine .cons (.mv rfl rfl) ?_
      refine .cons (.ls rfl rfl rfl) ?_
      refine .nil ?_
      refine ks_n ?_
      refine .cD rfl (fun h25 => ?_) (fun h25 => ?_)
      · skip
        refine ACode.seq ?_
        refine ACode.region ?_
        refine .cons (.asg rfl rfl) ?_
        refine .nil ?_
        refine ks_n ?_
        refine ACode.ret ?_
        refine kb_r ?_
        refine ks_r ?_
        refine kl_r ?_
        refine kb_r ?_
        refine ks_r ?_
        refine kf_ret rfl ?_ nobox
        exact leafI (subZ_no (by have h1 := subZ_neg h25 (by omega); have h2 := sum_take_le (fun a : Aff => a.1.length) (l := xs) (i := i + 1); rw [szAs]; omega)).symm
      · skip
        have hP := subZ_pos h25
        refine ACode.skip ?_
        refine kb_n ?_
        refine ks_n ?_
        refine ACode.region ?_
        refine .cons (.mv rfl rfl) ?_
        refine .cons (.pl rfl rfl rfl) ?_
        refine .cons (.asg rfl rfl) ?_
        refine .nil ?_
        refine kl_k [] ⟨i + 1, rfl, by omega, by rw [hT]; have := subZ_pos h25; omega, rfl⟩ ⟨ks rfl .dt, ks rfl (.dt (vI (by first | (simp; done) | (rw [hT, subZ_yes (by omega)]; omega)))), ks rfl .dt, ks rfl .dt, trivial⟩
    · skip
      have hall : xs.take i = xs := List.take_of_length_le (by omega)
      refine ACode.exit ?_
      refine ks_e ?_
      refine kl_e ?_
      refine kb_hit ?_
      refine ks_n ?_
      refine ACode.seq ?_
      refine ACode.region ?_
      refine .cons (.mv rfl rfl) ?_
      refine .cons (.asg rfl rfl) ?_
      refine .nil ?_
      refine ks_n ?_
      refine ACode.ret ?_
      refine kf_ret rfl ?_ nobox
      exact leafI (by rw [subZ_yes (by rw [szAs, ← hall]; rw [hall]; rw [hall] at hF; omega), szAs, hall])

end Go.Proofs.YtplekceinncepaaGreat

/- Arguments of laws: their sizes; condition: lists as long as memory lets them be. -/
namespace Go.Proofs.YtplekceinncepaaGreat
set_option linter.unusedVariables false
set_option linter.unusedSimpArgs false
open Go.RowKit

theorem szEs_take {l : List Ex} {i : Nat} {x : Ex} (h : l[i]? = some x) : szEs (l.take (i + 1)) = szEs (l.take i) + szE x := by
  have key : ∀ (a : List Ex) (x : Ex), szEs (a ++ [x]) = szEs a + szE x := by
    intro a x
    induction a with
    | nil => simp [szEs]
    | cons y a ih => rw [List.cons_append, szEs, szEs, ih]; omega
  rw [List.take_add_one, h]
  exact key _ _
theorem szEs_le : ∀ {l : List Ex} {i : Nat}, szEs (l.take i) ≤ szEs l
  | [], i => by simp
  | y :: l, 0 => by simp [szEs]
  | y :: l, i + 1 => by rw [List.take_succ_cons, szEs, szEs]; have := szEs_le (l := l) (i := i); omega

set_option maxRecDepth 100000 in
set_option maxHeartbeats 1600000 in
theorem szAcc_fn {a : Acc} {l : Int} (hl : 0 ≤ l ∧ l ≤ 1048576) (h1 : a.1.size ≤ 140737488351232) (h2 : a.2.length ≤ 17592186044416) (h3 : ∀ x ∈ a.2, x.1.length ≤ 17592186044416) : Fn Tryz.prog 161 [] [ad (rC a), nat1 l] (.o (nat1 (subZ l (szC a)))) [] := by
  have hsz : szC a = a.1.size + szAs a.2 := rfl
  refine Fn.code0 Tryz.func161 rfl rfl rfl rfl ?_
  refine ACode.seq ?_
  refine ACode.region ?_
  refine .cons (St1.boxP rfl rfl rfl rfl rfl rfl) ?_
  refine .cons (.asg rfl rfl) ?_
  refine .nil ?_
  refine ks_n ?_
  refine ACode.seq ?_
  refine ACode.region ?_
  refine .cons (.mv rfl rfl) ?_
  refine .cons (.fP 0 0 false rfl rfl) ?_
  refine .cons (.l1 1 rfl rfl) ?_
  refine .cons (St1.lenS rfl rfl rfl rfl rfl (by kernel_rfl) rfl) ?_
  refine .cons (.sb rfl rfl rfl) ?_
  refine .cons (.asg rfl rfl) ?_
  refine .nil ?_
  refine ks_n ?_
  refine ACode.seq ?_
  refine ACode.seq ?_
  refine ACode.region ?_
  refine .cons (.mv rfl rfl) ?_
  refine .cons (.ls rfl rfl rfl) ?_
  refine .nil ?_
  refine ks_n ?_
  refine .cD rfl (fun h11 => ?_) (fun h11 => ?_)
  · skip
    refine ACode.seq ?_
    refine ACode.region ?_
    refine .cons (.asg rfl rfl) ?_
    refine .nil ?_
    refine ks_n ?_
    refine ACode.ret ?_
    refine ks_r ?_
    refine kf_ret rfl ?_ nobox
    exact leafI (subZ_no (by omega)).symm
  · skip
    refine ACode.skip ?_
    refine ks_n ?_
    refine ACode.seq ?_
    have hb := subZ_bd (n := szAs a.2) (l := l - (a.1.size : Nat)) (by omega)
    refine ACode.region ?_
    refine .cons (.fP 1 0 false rfl rfl) ?_
    refine .cons (.l1 1 rfl rfl) ?_
    refine .cons (.mv rfl rfl) ?_
    refine .cons (.cP [.tmp 13, .tmp 14] rfl rfl rfl rfl (szAffs_fn a.2 (l := l - (a.1.size : Nat)) (by omega) h2 h3) rfl) ?_
    refine .cons (.asg rfl rfl) ?_
    refine .nil ?_
    refine ks_n ?_
    refine ACode.seq ?_
    refine ACode.seq ?_
    refine ACode.region ?_
    refine .cons (.mv rfl rfl) ?_
    refine .cons (.ls rfl rfl rfl) ?_
    refine .nil ?_
    refine ks_n ?_
    refine .cD rfl (fun h17 => ?_) (fun h17 => ?_)
    · skip
      refine ACode.seq ?_
      refine ACode.region ?_
      refine .cons (.asg rfl rfl) ?_
      refine .nil ?_
      refine ks_n ?_
      refine ACode.ret ?_
      refine ks_r ?_
      refine kf_ret rfl ?_ nobox
      exact leafI (subZ_no (by have := subZ_neg h17 (by omega); omega)).symm
    · skip
      refine ACode.skip ?_
      refine ks_n ?_
      refine ACode.seq ?_
      refine ACode.region ?_
      refine .cons (.mv rfl rfl) ?_
      refine .cons (.asg rfl rfl) ?_
      refine .nil ?_
      refine ks_n ?_
      refine ACode.ret ?_
      refine kf_ret rfl ?_ nobox
      exact leafI (by have := subZ_pos h17; rw [subZ_yes this, subZ_yes (by omega)]; omega)

set_option maxRecDepth 100000 in
set_option maxHeartbeats 1600000 in
theorem szExs_one (es : List Ex) {l : Int} (hl : 0 ≤ l ∧ l ≤ 1048576) (hx : es.length ≤ 17592186044416) (ih : ∀ x ∈ es, ∀ l : Int, 0 ≤ l ∧ l ≤ 1048576 → Fn Tryz.prog 162 [] [ad (rX x), nat1 l] (.o (nat1 (subZ l (szE x)))) []) : Fn Tryz.prog 197 [] [vD (dEs es), nat1 l] (.o (nat1 (subZ l (es.length + szEs es)))) [] := by
  refine Fn.code0 Tryz.func197 rfl rfl rfl rfl ?_
  refine ACode.seq ?_
  refine ACode.region ?_
  refine .cons (.asg rfl rfl) ?_
  refine .nil ?_
  refine ks_n ?_
  refine ACode.seq ?_
  refine ACode.region ?_
  refine .cons (.mv rfl rfl) ?_
  refine .cons (.mv rfl rfl) ?_
  refine .cons (.ln 181 7 112 rfl rfl rfl) ?_
  refine .cons (.sb rfl rfl rfl) ?_
  refine .cons (.asg rfl rfl) ?_
  refine .nil ?_
  refine ks_n ?_
  refine ACode.seq ?_
  refine ACode.seq ?_
  refine ACode.region ?_
  refine .cons (.mv rfl rfl) ?_
  refine .cons (.ls rfl rfl rfl) ?_
  refine .nil ?_
  refine ks_n ?_
  refine .cD rfl (fun h11 => ?_) (fun h11 => ?_)
  · skip
    refine ACode.seq ?_
    refine ACode.region ?_
    refine .cons (.asg rfl rfl) ?_
    refine .nil ?_
    refine ks_n ?_
    refine ACode.ret ?_
    refine ks_r ?_
    refine kf_ret rfl ?_ nobox
    exact leafI (subZ_no (by omega)).symm
  · skip
    refine ACode.skip ?_
    refine ks_n ?_
    refine ACode.seq ?_
    refine ACode.seq ?_
    refine ACode.region ?_
    refine .cons (.asg rfl rfl) ?_
    refine .nil ?_
    refine ks_n ?_
    refine ACode.block ?_
    refine .loopK (fun m σ => (∃ i : Nat, m = es.length - i ∧ (i ≤ es.length) ∧ (((es.length + szEs (es.take i) : Nat) : Int) ≤ l) ∧ σ = [(.t 0, .v (.o (vD (dEs es)))), (.t 1, .v (.o (nat1 (l - (es.length + szEs (es.take i) : Nat))))), (.t 4, .v (.o (nat1 0))), (.t 5, .v (.o (nat1 (i : Nat))))])) [] ⟨0, rfl, by omega, by simp [szEs]; omega, rfl⟩ ⟨ks rfl .dt, ks rfl (.dt (vI (by first | (simp [szEs]; done) | (rw [hT, subZ_yes (by omega)]; omega)))), ks rfl .dt, ks rfl .dt, trivial⟩ ?_
    rintro m σ ⟨i, hm0, hi, hF, rfl⟩
    refine ACode.seq ?_
    refine ACode.seq ?_
    refine ACode.region ?_
    refine .cons (.mv rfl rfl) ?_
    refine .cons (.mv rfl rfl) ?_
    refine .cons (.ln 181 7 112 rfl rfl rfl) ?_
    refine .cons (.ls rfl rfl rfl) ?_
    refine .nil ?_
    refine ks_n ?_
    refine .cD rfl (fun h15 => ?_) (fun h15 => ?_)
    · skip
      obtain ⟨x, hx1⟩ : ∃ x, es[i]? = some x := ⟨_, List.getElem?_eq_getElem (by omega)⟩
      have hT := szEs_take hx1
      refine ACode.skip ?_
      refine ks_n ?_
      refine ACode.seq ?_
      refine ACode.block ?_
      refine ACode.seq ?_
      refine ACode.region ?_
      refine .cons (.mv rfl rfl) ?_
      refine .cons (.mv rfl rfl) ?_
      refine .cons (.xL 181 7 112 rfl rfl rfl rfl rfl (rE_at hx1)) ?_
      refine .cons (.lN 7 rfl rfl rfl) ?_
      refine .cons (.mv rfl rfl) ?_
      refine .cons (.cP [.tmp 21, .tmp 22] rfl rfl rfl rfl (ih x (List.mem_of_getElem? hx1) (l - (es.length + szEs (es.take i) : Nat)) (by omega)) rfl) ?_
      refine .cons (.asg rfl rfl) ?_
      refine .nil ?_
      refine ks_n ?_
      refine ACode.seq ?_
      refine ACode.region ?_
      refine .cons (.mv rfl rfl) ?_
      refine .cons (.ls rfl rfl rfl) ?_
      refine .nil ?_
      refine ks_n ?_
      refine .cD rfl (fun h25 => ?_) (fun h25 => ?_)
      · skip
        refine ACode.seq ?_
        refine ACode.region ?_
        refine .cons (.asg rfl rfl) ?_
        refine .nil ?_
        refine ks_n ?_
        refine ACode.ret ?_
        refine kb_r ?_
        refine ks_r ?_
        refine kl_r ?_
        refine kb_r ?_
        refine ks_r ?_
        refine kf_ret rfl ?_ nobox
        exact leafI (subZ_no (by have h1 := subZ_neg h25 (by omega); have h2 := szEs_le (l := es) (i := i + 1); omega)).symm
      · skip
        have hP := subZ_pos h25
        refine ACode.skip ?_
        refine kb_n ?_
        refine ks_n ?_
        refine ACode.region ?_
        refine .cons (.mv rfl rfl) ?_
        refine .cons (.pl rfl rfl rfl) ?_
        refine .cons (.asg rfl rfl) ?_
        refine .nil ?_
        refine kl_k [] ⟨i + 1, rfl, by omega, by rw [hT]; have := subZ_pos h25; omega, rfl⟩ ⟨ks rfl .dt, ks rfl (.dt (vI (by first | (simp [szEs]; done) | (rw [hT, subZ_yes (by omega)]; omega)))), ks rfl .dt, ks rfl .dt, trivial⟩
    · skip
      have hall : es.take i = es := List.take_of_length_le (by omega)
      refine ACode.exit ?_
      refine ks_e ?_
      refine kl_e ?_
      refine kb_hit ?_
      refine ks_n ?_
      refine ACode.seq ?_
      refine ACode.region ?_
      refine .cons (.mv rfl rfl) ?_
      refine .cons (.asg rfl rfl) ?_
      refine .nil ?_
      refine ks_n ?_
      refine ACode.ret ?_
      refine kf_ret rfl ?_ nobox
      exact leafI (by rw [hall] at hF ⊢; rw [subZ_yes hF])

set_option maxRecDepth 100000 in
set_option maxHeartbeats 1600000 in
theorem szEx_one (e : Ex) {l : Int} (hl : 0 ≤ l ∧ l ≤ 1048576) (h0 : e.i.1.length ≤ 17592186044416) (h1 : e.r.1.size ≤ 140737488351232) (h2 : e.r.2.length ≤ 17592186044416) (h3 : ∀ x ∈ e.r.2, x.1.length ≤ 17592186044416) (h4 : e.ks.length ≤ 17592186044416) (ih : ∀ x ∈ e.ks, ∀ l : Int, 0 ≤ l ∧ l ≤ 1048576 → Fn Tryz.prog 162 [] [ad (rX x), nat1 l] (.o (nat1 (subZ l (szE x)))) []) : Fn Tryz.prog 162 [] [ad (rX e), nat1 l] (.o (nat1 (subZ l (szE e)))) [] := by
  have hsz := szE_eq e
  have hb1 := subZ_bd (n := e.i.1.length) hl
  refine Fn.code0 Tryz.func162 rfl rfl rfl rfl ?_
  refine ACode.seq ?_
  refine ACode.region ?_
  refine .cons (St1.boxP rfl rfl rfl rfl rfl rfl) ?_
  refine .cons (.asg rfl rfl) ?_
  refine .nil ?_
  refine ks_n ?_
  refine ACode.seq ?_
  refine ACode.region ?_
  refine .cons (.fP 2 1 true rfl rfl) ?_
  refine .cons (.lN 2 rfl rfl rfl) ?_
  refine .cons (.mv rfl rfl) ?_
  refine .cons (.cP [.tmp 6, .tmp 7] rfl rfl rfl rfl (szAff_fn hl h0) rfl) ?_
  refine .cons (.asg rfl rfl) ?_
  refine .nil ?_
  refine ks_n ?_
  refine ACode.seq ?_
  refine ACode.seq ?_
  refine ACode.region ?_
  refine .cons (.mv rfl rfl) ?_
  refine .cons (.ls rfl rfl rfl) ?_
  refine .nil ?_
  refine ks_n ?_
  refine .cD rfl (fun h10 => ?_) (fun h10 => ?_)
  · skip
    refine ACode.seq ?_
    refine ACode.region ?_
    refine .cons (.asg rfl rfl) ?_
    refine .nil ?_
    refine ks_n ?_
    refine ACode.ret ?_
    refine ks_r ?_
    refine kf_ret rfl ?_ nobox
    exact leafI (subZ_no (by have := subZ_neg h10 hl.1; omega)).symm
  · skip
    refine ACode.skip ?_
    refine ks_n ?_
    refine ACode.seq ?_
    have hp1 := subZ_pos h10
    have hb2 := subZ_bd (n := szC e.r) (l := subZ l e.i.1.length) (by omega)
    refine ACode.region ?_
    refine .cons (.fP 4 1 true rfl rfl) ?_
    refine .cons (.lN 2 rfl rfl rfl) ?_
    refine .cons (.mv rfl rfl) ?_
    refine .cons (.cP [.tmp 12, .tmp 13] rfl rfl rfl rfl (szAcc_fn (a := e.r) (l := subZ l e.i.1.length) (by omega) h1 h2 h3) rfl) ?_
    refine .cons (.asg rfl rfl) ?_
    refine .nil ?_
    refine ks_n ?_
    refine ACode.seq ?_
    refine ACode.seq ?_
    refine ACode.region ?_
    refine .cons (.mv rfl rfl) ?_
    refine .cons (.ls rfl rfl rfl) ?_
    refine .nil ?_
    refine ks_n ?_
    refine .cD rfl (fun h16 => ?_) (fun h16 => ?_)
    · skip
      refine ACode.seq ?_
      refine ACode.region ?_
      refine .cons (.asg rfl rfl) ?_
      refine .nil ?_
      refine ks_n ?_
      refine ACode.ret ?_
      refine ks_r ?_
      refine kf_ret rfl ?_ nobox
      exact leafI (subZ_no (by have h6 := subZ_neg h16 (by omega); rw [subZ_yes hp1] at h6; omega)).symm
    · skip
      refine ACode.skip ?_
      refine ks_n ?_
      refine ACode.seq ?_
      have hp2 := subZ_pos h16
      have hb3 := subZ_bd (n := e.ks.length + szEs e.ks) (l := subZ (subZ l e.i.1.length) (szC e.r)) (by omega)
      have e1 := subZ_yes hp1
      have e2 := subZ_yes hp2
      refine ACode.region ?_
      refine .cons (.fP 6 0 false rfl rfl) ?_
      refine .cons (.l1 1 rfl rfl) ?_
      refine .cons (.mv rfl rfl) ?_
      refine .cons (.cP [.tmp 18, .tmp 19] rfl rfl rfl rfl (szExs_one e.ks (l := subZ (subZ l e.i.1.length) (szC e.r)) (by omega) h4 ih) rfl) ?_
      refine .cons (.asg rfl rfl) ?_
      refine .nil ?_
      refine ks_n ?_
      refine ACode.seq ?_
      refine ACode.seq ?_
      refine ACode.region ?_
      refine .cons (.mv rfl rfl) ?_
      refine .cons (.ls rfl rfl rfl) ?_
      refine .nil ?_
      refine ks_n ?_
      refine .cD rfl (fun h22 => ?_) (fun h22 => ?_)
      · skip
        refine ACode.seq ?_
        refine ACode.region ?_
        refine .cons (.asg rfl rfl) ?_
        refine .nil ?_
        refine ks_n ?_
        refine ACode.ret ?_
        refine ks_r ?_
        refine kf_ret rfl ?_ nobox
        exact leafI (subZ_no (by have h6 := subZ_neg h22 (by omega); omega)).symm
      · skip
        refine ACode.skip ?_
        refine ks_n ?_
        refine ACode.seq ?_
        refine ACode.region ?_
        refine .cons (.mv rfl rfl) ?_
        refine .cons (.asg rfl rfl) ?_
        refine .nil ?_
        refine ks_n ?_
        refine ACode.ret ?_
        refine kf_ret rfl ?_ nobox
        exact leafI (by have h6 := subZ_pos h22; rw [subZ_yes h6, e2, e1, subZ_yes (l := l) (n := szE e) (by omega)]; omega)

theorem szEx_fn : ∀ e : Ex, okE e → ∀ l : Int, 0 ≤ l ∧ l ≤ 1048576 → Fn Tryz.prog 162 [] [ad (rX e), nat1 l] (.o (nat1 (subZ l (szE e)))) [] := by
  intro e
  induction e using Ex.rec' with
  | h e ih =>
    intro ho l hl
    obtain ⟨h1, h2, h3, h4⟩ := okE_eq.1 ho
    exact szEx_one e hl h1 h2.1 h2.2.1 h2.2.2 h3 fun x hx l hl => ih x hx (h4 x hx) l hl

set_option maxRecDepth 100000 in
set_option maxHeartbeats 1600000 in
theorem szStm_fn {s : Stm} (ho : okS s) {l : Int} (hl : 0 ≤ l ∧ l ≤ 1048576)  : Fn Tryz.prog 128 [] [ad (rS s), nat1 l] (.o (nat1 (subZ l (szS s)))) [] := by
  have hsz : szS s = szC s.1 + szE s.2 := rfl
  have hb1 := subZ_bd (n := szC s.1) hl
  obtain ⟨⟨ho1, ho2, ho3⟩, ho4⟩ := ho
  refine Fn.code0 Tryz.func128 rfl rfl rfl rfl ?_
  refine ACode.seq ?_
  refine ACode.region ?_
  refine .cons (St1.boxP rfl rfl rfl rfl rfl rfl) ?_
  refine .cons (.asg rfl rfl) ?_
  refine .nil ?_
  refine ks_n ?_
  refine ACode.seq ?_
  refine ACode.region ?_
  refine .cons (.fP 0 1 true rfl rfl) ?_
  refine .cons (.lN 2 rfl rfl rfl) ?_
  refine .cons (.mv rfl rfl) ?_
  refine .cons (.cP [.tmp 6, .tmp 7] rfl rfl rfl rfl (szAcc_fn hl ho1 ho2 ho3) rfl) ?_
  refine .cons (.asg rfl rfl) ?_
  refine .nil ?_
  refine ks_n ?_
  refine ACode.seq ?_
  refine ACode.seq ?_
  refine ACode.region ?_
  refine .cons (.mv rfl rfl) ?_
  refine .cons (.ls rfl rfl rfl) ?_
  refine .nil ?_
  refine ks_n ?_
  refine .cD rfl (fun h10 => ?_) (fun h10 => ?_)
  · skip
    refine ACode.seq ?_
    refine ACode.region ?_
    refine .cons (.asg rfl rfl) ?_
    refine .nil ?_
    refine ks_n ?_
    refine ACode.ret ?_
    refine ks_r ?_
    refine kf_ret rfl ?_ nobox
    exact leafI (subZ_no (by have := subZ_neg h10 hl.1; omega)).symm
  · skip
    refine ACode.skip ?_
    refine ks_n ?_
    refine ACode.seq ?_
    have hp1 := subZ_pos h10
    have hb2 := subZ_bd (n := szE s.2) (l := subZ l (szC s.1)) (by omega)
    have e1 := subZ_yes hp1
    refine ACode.region ?_
    refine .cons (.fP 2 6 true rfl rfl) ?_
    refine .cons (.lN 7 rfl rfl rfl) ?_
    refine .cons (.mv rfl rfl) ?_
    refine .cons (.cP [.tmp 12, .tmp 13] rfl rfl rfl rfl (szEx_fn s.2 ho4 (subZ l (szC s.1)) (by omega)) rfl) ?_
    refine .cons (.asg rfl rfl) ?_
    refine .nil ?_
    refine ks_n ?_
    refine ACode.seq ?_
    refine ACode.seq ?_
    refine ACode.region ?_
    refine .cons (.mv rfl rfl) ?_
    refine .cons (.ls rfl rfl rfl) ?_
    refine .nil ?_
    refine ks_n ?_
    refine .cD rfl (fun h16 => ?_) (fun h16 => ?_)
    · skip
      refine ACode.seq ?_
      refine ACode.region ?_
      refine .cons (.asg rfl rfl) ?_
      refine .nil ?_
      refine ks_n ?_
      refine ACode.ret ?_
      refine ks_r ?_
      refine kf_ret rfl ?_ nobox
      exact leafI (subZ_no (by have h6 := subZ_neg h16 (by omega); omega)).symm
    · skip
      refine ACode.skip ?_
      refine ks_n ?_
      refine ACode.seq ?_
      refine ACode.region ?_
      refine .cons (.mv rfl rfl) ?_
      refine .cons (.asg rfl rfl) ?_
      refine .nil ?_
      refine ks_n ?_
      refine ACode.ret ?_
      refine kf_ret rfl ?_ nobox
      exact leafI (by have h6 := subZ_pos h16; rw [subZ_yes h6, e1, subZ_yes (l := l) (n := szS s) (by omega)]; omega)

end Go.Proofs.YtplekceinncepaaGreat

/- make of slices, over abstract states; rows filled one by one; condition: what the operands hold. -/
namespace Go.Proofs.YtplekceinncepaaGreat
set_option linter.unusedVariables false
set_option linter.unusedSimpArgs false
open Go.RowKit

def tyMk (P : Program) (t : TypeId) : Option (TypeId × Nat × Nat × List Value) :=
  match P.underlying t with
  | some (.slice e) => (P.info? e).bind fun i => i.zero.map fun z => (e, i.size, i.bytes, z.cells.toList)
  | _ => none
theorem tyMk_out {P : Program} {t e : TypeId} {sz by' : Nat} {zs : List Value} (h : tyMk P t = some (e, sz, by', zs)) : P.underlying t = some (.slice e) ∧ ∃ i z, P.info? e = some i ∧ i.zero = some z ∧ i.size = sz ∧ i.bytes = by' ∧ z.cells.toList = zs := by
  unfold tyMk at h
  cases hu : P.underlying t with
  | none => simp [hu] at h
  | some d =>
    cases d <;> simp only [hu, reduceCtorEq] at h
    case slice e' =>
      cases hi : P.info? e' with
      | none => rw [hi] at h; cases h
      | some i =>
        cases hz : i.zero with
        | none => rw [hi] at h; simp [hz] at h
        | some z =>
          rw [hi] at h
          simp only [Option.bind_some, hz, Option.map_some, Option.some.injEq, Prod.mk.injEq] at h
          obtain ⟨rfl, h1, h2, h3⟩ := h
          exact ⟨rfl, i, z, hi, hz, h1, h2, h3⟩
theorem made_at {z : Value} {n i j sz : Nat} {u : Value} (hs : z.cells.toList.length = sz) (hi : i < n) (hu : z.cells.toList[j]? = some u) : (madeCells z.cells (n * sz))[i * sz + j]? = some u := by
  have hj : j < sz := by rw [← hs]; exact (List.getElem?_eq_some_iff.1 hu).1
  have hlt : i * sz + j < n * sz := by
    have := Nat.mul_le_mul_right sz (show i + 1 ≤ n by omega)
    rw [Nat.add_mul] at this; omega
  have hz : z.cells.size = sz := by rw [← hs, Array.length_toList]
  have hm : (i * sz + j) % sz = j := by rw [Nat.add_comm, Nat.add_mul_mod_self_right, Nat.mod_eq_of_lt hj]
  rw [Array.getElem?_toList] at hu
  simp [madeCells, hlt, hz, hm, Array.getElem!_eq_getD, hu, Array.getD_eq_getD_getElem?]
section
variable {P : Program} {n : Nat} {ops : Array Oper} {o : Oper} {σ : St} {d : Nat}
theorem St1.mk (k' : Nat) (e : TypeId) (sz by' : Nat) (zs : List Value) {t : TypeId} {x y : Operand} {m : Nat} (h4 : (o.op, o.guard, o.dst, Nat.blt d n) = (Op.makeSlice t x y, none, some d, true)) (hx : ev σ x = some (.o (nat1 (m : Nat)))) (hy : ev σ y = some (.o (nat1 (m : Nat)))) (hm : m ≤ 1073741824) (hz : (Nat.beq zs.length sz && zs.all (·.oneCell') && Nat.ble by' 65536) = true)
    (hf : (lk σ (.u k'), Nat.ble 100 k') = (.no, true)) (ht : tyMk P t = some (e, sz, by', zs) := by kernel_rfl) :
    St1 P n ops o σ (.u k' :: (rd x ++ rd y)) [.t d, .u k', .b k', .b k'] ((.t d, .v (.o (.c (.own k' sz m)))) :: (.u k', .u) :: (.b k', .b e sz (dR (List.replicate m (zs.map D.val)))) :: (.b k', .no) :: σ) := by
  simp only [Prod.mk.injEq] at h4 hf
  obtain ⟨ho, hg, hd, hn⟩ := h4
  simp only [Bool.and_eq_true] at hz
  have hzl : zs.length = sz := Nat.eq_of_beq_eq_true hz.1.1
  have hz1 : ∀ u ∈ zs, u.oneCell' = true := fun u hu => List.all_eq_true.1 hz.1.2 u hu
  have hby := Nat.le_of_ble_eq_true hz.2
  have hrow : ∀ {i : Nat} {r : List C}, (dR (List.replicate m (zs.map D.val)))[i]? = some r → i < m ∧ r = zs.map fun u => C.d (.val u) := fun {i r} h => by
    rw [dR, List.map_replicate, List.map_map] at h
    have hi : i < m := by have := (List.getElem?_eq_some_iff.1 h).1; simpa using this
    rw [List.getElem?_replicate, if_pos hi] at h
    exact ⟨hi, (Option.some.inj h).symm⟩
  refine St1.place hg hd hn hf.1 hf.2 (okk_self hf.2) rfl fun E bx τ a w hR hs => ?_
  obtain ⟨hu, i, z, hi, hzz, hs1, hs2, hs3⟩ := tyMk_out ht
  have hbm : i.bytes * m ≤ 281474976710656 := by
    have := Nat.mul_le_mul (show i.bytes ≤ 65536 by omega) hm; omega
  have hb' : (i.bytes : Int) * (m : Int) ≤ 281474976710656 := by
    have h : ((i.bytes * m : Nat) : Int) ≤ 281474976710656 := by omega
    rwa [Int.natCast_mul] at h
  have hr := run_make (P := P) w t e i z hu hi hzz .i64 .i64 (m : Int) (m : Int) (by omega) (Int.le_refl _) hb' (by omega)
  simp only [Int.toNat_natCast, hs1] at hr
  have hsz : (madeCells z.cells (m * sz)).size = m * sz := size_madeCells _ _
  refine ⟨.slice (some ⟨w.heap.size, 0, none⟩) m m, w.alloc (.cells (madeCells z.cells (m * sz)) e), w.heap.size, w.heap.size, madeCells z.cells (m * sz), ?_, .inr (Nat.le_refl _), World.grownBy_alloc w _ _, .inl rfl, heap_alloc_new w _, ?_, fun i r hi => ?_, fun i r j c hi hj => ?_, fun r hr' c hc l hl => ?_, fun bx' al B w2 hbx => ⟨rfl, fun _ => ⟨m, by rw [hbx], Nat.le_refl _, by unfold maxLen; omega, by rw [hbx, hsz]⟩⟩⟩
  · simp only [execOp, ho, ev_val hx (rd_l hR) hs, ev_val hy (rd_r hR) hs, Sem.run_bind, hr]; rfl
  · rw [hsz, dR, List.length_map, List.length_replicate]; exact Nat.le_refl _
  · rw [(hrow hi).2, List.length_map, hzl]
  · obtain ⟨h1, rfl⟩ := hrow hi
    rw [List.getElem?_map] at hj
    cases hq : zs[j]? with
    | none => rw [hq] at hj; cases hj
    | some u =>
      rw [hq] at hj; cases hj
      exact ⟨u, made_at (by rw [hs3, hzl]) h1 (by rw [hs3]; exact hq), .val _ (hz1 u (List.mem_of_getElem? hq))⟩
  · obtain ⟨i, hi⟩ := List.mem_iff_getElem?.1 hr'
    obtain ⟨_, rfl⟩ := hrow hi
    obtain ⟨u, _, rfl⟩ := List.mem_map.1 hc
    cases hl
end
/-- Rows of which the first have been filled. -/
theorem fill_at {α : Type} {f : α → List D} {z : List D} {l : List α} {i : Nat} (h : i < l.length) : (dR ((l.take i).map f ++ List.replicate (l.length - i) z))[i]? = some (z.map C.d) := by
  rw [dR, List.getElem?_map, List.getElem?_append_right (by rw [List.length_map, List.length_take]; omega), List.length_map, List.length_take, Nat.min_eq_left (by omega), Nat.sub_self, List.getElem?_replicate, if_pos (by omega)]; rfl
theorem fill_set {α : Type} (f : α → List D) {z : List D} {l : List α} {i : Nat} {x : α} {r : List C} (h : l[i]? = some x) (hr : r = (f x).map C.d) : (dR ((l.take i).map f ++ List.replicate (l.length - i) z)).set i r = dR ((l.take (i + 1)).map f ++ List.replicate (l.length - (i + 1)) z) := by
  subst hr
  have hi := (List.getElem?_eq_some_iff.1 h).1
  have hl : (List.map (fun x => List.map C.d x) ((l.take i).map f)).length = i := by simp; omega
  rw [dR, dR, List.map_append, List.map_append, List.set_append_right _ _ (by omega), hl, Nat.sub_self, show l.length - i = (l.length - (i + 1)) + 1 by omega, List.replicate_succ, List.map_cons, List.set_cons_zero, List.take_add_one, h, List.map_append, List.map_append, List.append_assoc]
  rfl
theorem fill_new {α : Type} (f : α → List D) {z : List D} (l : List α) : dR (List.replicate l.length z) = dR ((l.take 0).map f ++ List.replicate (l.length - 0) z) := by simp
theorem fill_end {α : Type} (f : α → List D) {z : List D} (l : List α) : dR ((l.take l.length).map f ++ List.replicate (l.length - l.length) z) = dR (l.map f) := by rw [List.take_length, Nat.sub_self]; simp
end Go.Proofs.YtplekceinncepaaGreat

/- Arguments of laws: copies and equality of numbers and affine expressions; condition: small lists. -/
namespace Go.Proofs.YtplekceinncepaaGreat
set_option linter.unusedVariables false
set_option linter.unusedSimpArgs false
open Go.RowKit

set_option maxRecDepth 100000 in
set_option maxHeartbeats 1600000 in
theorem toInts_fn (xs : List Int) (hx : xs.length ≤ 1073741824) : Fn Tryz.prog 15 [] [vD (dIs xs)] (.o (vD (dIs xs))) [] := by
  refine Fn.code0 Tryz.func15 rfl rfl rfl rfl ?_
  refine ACode.seq ?_
  refine ACode.region ?_
  refine .cons (.asg rfl rfl) ?_
  refine .nil ?_
  refine ks_n ?_
  refine ACode.seq ?_
  refine ACode.region ?_
  refine .cons (.mv rfl rfl) ?_
  refine .cons (.ln 3 1 8 rfl rfl rfl) ?_
  refine .cons (.mk 107 3 1 8 [.int .i64 0] rfl rfl rfl (by omega) rfl rfl) ?_
  refine .cons (.asg rfl rfl) ?_
  refine .nil ?_
  refine ks_n ?_
  refine ACode.seq ?_
  refine ACode.seq ?_
  refine ACode.region ?_
  refine .cons (.asg rfl rfl) ?_
  refine .nil ?_
  refine ks_n ?_
  refine ACode.block ?_
  refine .loopK (fun m σ => (∃ i : Nat, m = xs.length - i ∧ (i ≤ xs.length) ∧ (True) ∧ σ = [(.t 0, .v (.o (vD (dIs xs)))), (.t 2, .v (.o (.c (.d (.val (.slice none 0 0)))))), (.t 3, .v (.o (.c (.own 110 1 (xs.length))))), (.t 4, .v (.o (nat1 (i : Nat)))), (.b 110, .b 3 1 (dR ((xs.take i).map (rI) ++ List.replicate (xs.length - i) [dI 0]))), (.u 110, .u)])) [(110, 107)] ⟨0, rfl, by omega, trivial, rfl⟩ ⟨ks rfl .dt, ks rfl .dt, ks rfl (.c .ow), ks rfl .dt, kb 107 rfl (.dt rfl (by first | exact fill_new (rI) xs | exact fill_set (rI) hx1 rfl)), trivial⟩ ?_
  rintro m σ ⟨i, hm0, hi, hF, rfl⟩
  refine ACode.seq ?_
  refine ACode.seq ?_
  refine ACode.region ?_
  refine .cons (.mv rfl rfl) ?_
  refine .cons (.mv rfl rfl) ?_
  refine .cons (.ln 3 1 8 rfl rfl rfl) ?_
  refine .cons (.ls rfl rfl rfl) ?_
  refine .nil ?_
  refine ks_n ?_
  refine .cD rfl (fun h11 => ?_) (fun h11 => ?_)
  · skip
    obtain ⟨x, hx1⟩ : ∃ x, xs[i]? = some x := ⟨_, List.getElem?_eq_getElem (by omega)⟩
    refine ACode.skip ?_
    refine ks_n ?_
    refine ACode.seq ?_
    refine ACode.block ?_
    refine ACode.region ?_
    refine .cons (.mv rfl rfl) ?_
    refine .cons (.mv rfl rfl) ?_
    refine .cons (.mv rfl rfl) ?_
    refine .cons (.mv rfl rfl) ?_
    refine .cons (.xL 3 1 8 rfl rfl rfl rfl rfl (map_at hx1)) ?_
    refine .cons (.l1 1 rfl rfl) ?_
    refine .cons (.xB 3 1 8 rfl rfl rfl rfl rfl rfl (by omega)) ?_
    refine .cons (.sT 1 false rfl rfl rfl rfl (fill_at (by omega)) rfl rfl) ?_
    refine .nil ?_
    refine kb_n ?_
    refine ks_n ?_
    refine ACode.region ?_
    refine .cons (.mv rfl rfl) ?_
    refine .cons (.pl rfl rfl rfl) ?_
    refine .cons (.asg rfl rfl) ?_
    refine .nil ?_
    refine kl_k [(110, 110)] ⟨i + 1, rfl, by omega, trivial, rfl⟩ ⟨ks rfl .dt, ks rfl .dt, ks rfl (.c .ow), ks rfl .dt, kb 110 rfl (.dt rfl (by first | exact fill_new (rI) xs | exact fill_set (rI) hx1 rfl)), trivial⟩
  · skip
    obtain rfl : i = xs.length := by omega
    refine ACode.exit ?_
    refine ks_e ?_
    refine kl_e ?_
    refine kb_hit ?_
    refine ks_n ?_
    refine ACode.seq ?_
    refine ACode.region ?_
    refine .cons (.mv rfl rfl) ?_
    refine .cons (.asg rfl rfl) ?_
    refine .nil ?_
    refine ks_n ?_
    refine ACode.ret ?_
    refine kf_wret [(.t 2, .v (.o (vD (dIs xs))))] (Wk.keep [] rfl rfl ⟨ks rfl (.c (.fz rfl (fill_end (rI) xs) (by simp) (by omega))), trivial⟩) rfl ?_ nobox
    rfl

set_option maxRecDepth 100000 in
set_option maxHeartbeats 1600000 in
theorem toAff_fn {x : Aff} (hx : x.1.length ≤ 1073741824) : Fn Tryz.prog 201 [] [ad (rA x)] (.o (ad (rA x))) [] := by
  refine Fn.code0 Tryz.func201 rfl rfl rfl rfl ?_
  refine ACode.seq ?_
  refine ACode.region ?_
  refine .cons (St1.boxP rfl rfl rfl rfl rfl rfl) ?_
  refine .cons (.al 102 [.slice none 0 0, .int .i64 0] rfl rfl rfl) ?_
  refine .nil ?_
  refine ks_n ?_
  refine ACode.seq ?_
  refine ACode.region ?_
  refine .cons (.al 103 [.slice none 0 0, .int .i64 0] rfl rfl rfl) ?_
  refine .nil ?_
  refine ks_n ?_
  refine ACode.seq ?_
  refine ACode.region ?_
  refine .cons (.fP 0 0 false rfl rfl) ?_
  refine .cons (.l1 1 rfl rfl) ?_
  refine .cons (.cP [.tmp 5] rfl rfl rfl rfl (toInts_fn x.1 hx) rfl) ?_
  refine .cons (.fB 0 0 false rfl rfl rfl) ?_
  refine .cons (.sT 1 false rfl rfl rfl rfl rfl rfl rfl) ?_
  refine .nil ?_
  refine ks_n ?_
  refine ACode.seq ?_
  refine ACode.region ?_
  refine .cons (.fP 1 0 false rfl rfl) ?_
  refine .cons (.l1 1 rfl rfl) ?_
  refine .cons (.fB 1 0 false rfl rfl rfl) ?_
  refine .cons (.sT 1 false rfl rfl rfl rfl rfl rfl rfl) ?_
  refine .nil ?_
  refine ks_n ?_
  refine ACode.seq ?_
  refine ACode.region ?_
  refine .cons (.bN 2 rfl rfl rfl rfl rfl rfl) ?_
  refine .cons (.sT 2 true rfl rfl rfl rfl rfl rfl rfl) ?_
  refine .nil ?_
  refine ks_n ?_
  refine ACode.ret ?_
  refine kf_ret rfl ?_ nobox
  rfl

set_option maxRecDepth 100000 in
set_option maxHeartbeats 1600000 in
theorem toAffs_fn (xs : List Aff) (hx : xs.length ≤ 1073741824) (hq : ∀ x ∈ xs, x.1.length ≤ 1073741824) : Fn Tryz.prog 171 [] [vD (dAs xs)] (.o (vD (dAs xs))) [] := by
  refine Fn.code0 Tryz.func171 rfl rfl rfl rfl ?_
  refine ACode.seq ?_
  refine ACode.region ?_
  refine .cons (.asg rfl rfl) ?_
  refine .nil ?_
  refine ks_n ?_
  refine ACode.seq ?_
  refine ACode.region ?_
  refine .cons (.mv rfl rfl) ?_
  refine .cons (.ln 178 2 32 rfl rfl rfl) ?_
  refine .cons (.mk 107 59 2 32 [.slice none 0 0, .int .i64 0] rfl rfl rfl (by omega) rfl rfl) ?_
  refine .cons (.asg rfl rfl) ?_
  refine .nil ?_
  refine ks_n ?_
  refine ACode.seq ?_
  refine ACode.seq ?_
  refine ACode.region ?_
  refine .cons (.asg rfl rfl) ?_
  refine .nil ?_
  refine ks_n ?_
  refine ACode.block ?_
  refine .loopK (fun m σ => (∃ i : Nat, m = xs.length - i ∧ (i ≤ xs.length) ∧ (True) ∧ σ = [(.t 0, .v (.o (vD (dAs xs)))), (.t 2, .v (.o (.c (.d (.val (.slice none 0 0)))))), (.t 3, .v (.o (.c (.own 110 2 (xs.length))))), (.t 4, .v (.o (nat1 (i : Nat)))), (.b 110, .b 59 2 (dR ((xs.take i).map (rA) ++ List.replicate (xs.length - i) [.val (.slice none 0 0), dI 0]))), (.u 110, .u)])) [(110, 107)] ⟨0, rfl, by omega, trivial, rfl⟩ ⟨ks rfl .dt, ks rfl .dt, ks rfl (.c .ow), ks rfl .dt, kb 107 rfl (.dt rfl (by first | exact fill_new (rA) xs | exact fill_set (rA) hx1 rfl)), trivial⟩ ?_
  rintro m σ ⟨i, hm0, hi, hF, rfl⟩
  refine ACode.seq ?_
  refine ACode.seq ?_
  refine ACode.region ?_
  refine .cons (.mv rfl rfl) ?_
  refine .cons (.mv rfl rfl) ?_
  refine .cons (.ln 178 2 32 rfl rfl rfl) ?_
  refine .cons (.ls rfl rfl rfl) ?_
  refine .nil ?_
  refine ks_n ?_
  refine .cD rfl (fun h11 => ?_) (fun h11 => ?_)
  · skip
    obtain ⟨x, hx1⟩ : ∃ x, xs[i]? = some x := ⟨_, List.getElem?_eq_getElem (by omega)⟩
    refine ACode.skip ?_
    refine ks_n ?_
    refine ACode.seq ?_
    refine ACode.block ?_
    refine ACode.region ?_
    refine .cons (.mv rfl rfl) ?_
    refine .cons (.mv rfl rfl) ?_
    refine .cons (.mv rfl rfl) ?_
    refine .cons (.mv rfl rfl) ?_
    refine .cons (.xL 178 2 32 rfl rfl rfl rfl rfl (map_at hx1)) ?_
    refine .cons (.lN 2 rfl rfl rfl) ?_
    refine .cons (.cP [.tmp 19] rfl rfl rfl rfl (toAff_fn (hq x (List.mem_of_getElem? hx1))) rfl) ?_
    refine .cons (.xB 59 2 32 rfl rfl rfl rfl rfl rfl (by omega)) ?_
    refine .cons (.sT 2 true rfl rfl rfl rfl (fill_at (by omega)) rfl rfl) ?_
    refine .nil ?_
    refine kb_n ?_
    refine ks_n ?_
    refine ACode.region ?_
    refine .cons (.mv rfl rfl) ?_
    refine .cons (.pl rfl rfl rfl) ?_
    refine .cons (.asg rfl rfl) ?_
    refine .nil ?_
    refine kl_k [(110, 110)] ⟨i + 1, rfl, by omega, trivial, rfl⟩ ⟨ks rfl .dt, ks rfl .dt, ks rfl (.c .ow), ks rfl .dt, kb 110 rfl (.dt rfl (by first | exact fill_new (rA) xs | exact fill_set (rA) hx1 rfl)), trivial⟩
  · skip
    obtain rfl : i = xs.length := by omega
    refine ACode.exit ?_
    refine ks_e ?_
    refine kl_e ?_
    refine kb_hit ?_
    refine ks_n ?_
    refine ACode.seq ?_
    refine ACode.region ?_
    refine .cons (.mv rfl rfl) ?_
    refine .cons (.asg rfl rfl) ?_
    refine .nil ?_
    refine ks_n ?_
    refine ACode.ret ?_
    refine kf_wret [(.t 2, .v (.o (vD (dAs xs))))] (Wk.keep [] rfl rfl ⟨ks rfl (.c (.fz rfl (fill_end (rA) xs) (by simp) (by omega))), trivial⟩) rfl ?_ nobox
    rfl

set_option maxRecDepth 100000 in
set_option maxHeartbeats 1600000 in
theorem eqInts_f (xs ys : List Int) (hx : xs.length ≤ 1099511627776) : Fn Tryz.prog 17 [] [vD (dIs xs), vD (dIs ys)] (.o (bo1 (eqF (fun x y : Int => decide (x = y)) xs ys))) [] := by
  refine Fn.code0 Tryz.func17 rfl rfl rfl rfl ?_
  refine ACode.seq ?_
  refine ACode.region ?_
  refine .cons (.asg rfl rfl) ?_
  refine .nil ?_
  refine ks_n ?_
  refine ACode.seq ?_
  refine ACode.seq ?_
  refine ACode.region ?_
  refine .cons (.mv rfl rfl) ?_
  refine .cons (.ln 3 1 8 rfl rfl rfl) ?_
  refine .cons (.mv rfl rfl) ?_
  refine .cons (.ln 3 1 8 rfl rfl rfl) ?_
  refine .cons (.ne rfl rfl rfl) ?_
  refine .nil ?_
  refine ks_n ?_
  refine .cND rfl (fun h10 => ?_) (fun h10 => ?_)
  · skip
    refine ACode.seq ?_
    refine ACode.region ?_
    refine .cons (.asg rfl rfl) ?_
    refine .nil ?_
    refine ks_n ?_
    refine ACode.ret ?_
    refine ks_r ?_
    refine kf_ret rfl ?_ nobox
    exact leafB (eqF_len (by omega)).symm
  · skip
    refine ACode.skip ?_
    refine ks_n ?_
    refine ACode.seq ?_
    refine ACode.seq ?_
    refine ACode.region ?_
    refine .cons (.asg rfl rfl) ?_
    refine .nil ?_
    refine ks_n ?_
    refine ACode.block ?_
    refine .loopK (fun m σ => (∃ i : Nat, m = xs.length - i ∧ (i ≤ xs.length) ∧ (eqF (fun x y : Int => decide (x = y)) xs ys = eqF (fun x y : Int => decide (x = y)) (xs.drop i) (ys.drop i)) ∧ σ = [(.t 0, .v (.o (vD (dIs xs)))), (.t 1, .v (.o (vD (dIs ys)))), (.t 4, .v (.o (bo1 false))), (.t 5, .v (.o (nat1 (i : Nat))))])) [] ⟨0, rfl, by omega, by simp, rfl⟩ ⟨ks rfl .dt, ks rfl .dt, ks rfl .dt, ks rfl .dt, trivial⟩ ?_
    rintro m σ ⟨i, hm0, hi, hF, rfl⟩
    refine ACode.seq ?_
    refine ACode.seq ?_
    refine ACode.region ?_
    refine .cons (.mv rfl rfl) ?_
    refine .cons (.mv rfl rfl) ?_
    refine .cons (.ln 3 1 8 rfl rfl rfl) ?_
    refine .cons (.ls rfl rfl rfl) ?_
    refine .nil ?_
    refine ks_n ?_
    refine .cD rfl (fun h14 => ?_) (fun h14 => ?_)
    · skip
      obtain ⟨x, hx1⟩ : ∃ x, xs[i]? = some x := ⟨_, List.getElem?_eq_getElem (by omega)⟩
      obtain ⟨y, hy1⟩ : ∃ x, ys[i]? = some x := ⟨_, List.getElem?_eq_getElem (by omega)⟩
      refine ACode.skip ?_
      refine ks_n ?_
      refine ACode.seq ?_
      refine ACode.block ?_
      refine ACode.seq ?_
      refine ACode.drawK (by kernel_rfl) (by kernel_rfl) ?_
      refine .cons (.mv rfl rfl) ?_
      refine .cons (.mv rfl rfl) ?_
      refine .cons (.xL 3 1 8 rfl rfl rfl rfl rfl (map_at hx1)) ?_
      refine .cons (.l1 1 rfl rfl) ?_
      refine .cons (.mv rfl rfl) ?_
      refine .cons (.mv rfl rfl) ?_
      refine .cons (.xL 3 1 8 rfl rfl rfl rfl rfl (map_at hy1)) ?_
      refine .cons (.l1 1 rfl rfl) ?_
      refine .cons (.ne rfl rfl rfl) ?_
      refine .nil ⟨by kernel_rfl, ?_⟩
      refine ks_n ?_
      refine .cND rfl (fun h25 => ?_) (fun h25 => ?_)
      · skip
        have g : decide (x = y) = false := by first | assumption | exact decide_eq_false (by assumption) | (simp; omega)
        refine ACode.seq ?_
        refine ACode.region ?_
        refine .cons (.asg rfl rfl) ?_
        refine .nil ?_
        refine ks_n ?_
        refine ACode.ret ?_
        refine kb_r ?_
        refine ks_r ?_
        refine kl_r ?_
        refine kb_r ?_
        refine ks_r ?_
        refine kf_ret rfl ?_ nobox
        exact leafB (by rw [hF, eqF_drop hx1 hy1, g]; rfl)
      · skip
        have g : decide (x = y) = true := by first | assumption | exact decide_eq_true (by assumption) | (simp; omega)
        refine ACode.skip ?_
        refine kb_n ?_
        refine ks_n ?_
        refine ACode.region ?_
        refine .cons (.mv rfl rfl) ?_
        refine .cons (.pl rfl rfl rfl) ?_
        refine .cons (.asg rfl rfl) ?_
        refine .nil ?_
        refine kl_k [] ⟨i + 1, rfl, by omega, by rw [hF, eqF_drop hx1 hy1, g, Bool.true_and], rfl⟩ ⟨ks rfl .dt, ks rfl .dt, ks rfl .dt, ks rfl .dt, trivial⟩
    · skip
      refine ACode.exit ?_
      refine ks_e ?_
      refine kl_e ?_
      refine kb_hit ?_
      refine ks_n ?_
      refine ACode.seq ?_
      refine ACode.region ?_
      refine .cons (.asg rfl rfl) ?_
      refine .nil ?_
      refine ks_n ?_
      refine ACode.ret ?_
      refine kf_ret rfl ?_ nobox
      exact leafB (by rw [hF, show i = xs.length by omega, eqF_end (by omega)])

theorem eqInts_fn (xs ys : List Int) (hx : xs.length ≤ 1099511627776) : Fn Tryz.prog 17 [] [vD (dIs xs), vD (dIs ys)] (.o (bo1 (decide (xs = ys)))) [] := by
  rw [← eqF_dec]; exact eqInts_f xs ys hx

set_option maxRecDepth 100000 in
set_option maxHeartbeats 1600000 in
theorem eqAff_fn (x y : Aff) (hx : x.1.length ≤ 1099511627776) : Fn Tryz.prog 204 [] [ad (rA x), ad (rA y)] (.o (bo1 (decide (x = y)))) [] := by
  refine Fn.code0 Tryz.func204 rfl rfl rfl rfl ?_
  refine ACode.seq ?_
  refine ACode.region ?_
  refine .cons (St1.boxP rfl rfl rfl rfl rfl rfl) ?_
  refine .cons (St1.boxP rfl rfl rfl rfl rfl rfl) ?_
  refine .cons (.asg rfl rfl) ?_
  refine .nil ?_
  refine ks_n ?_
  refine ACode.seq ?_
  refine ACode.seq ?_
  refine ACode.region ?_
  refine .cons (.fP 0 0 false rfl rfl) ?_
  refine .cons (.l1 1 rfl rfl) ?_
  refine .cons (.fP 0 0 false rfl rfl) ?_
  refine .cons (.l1 1 rfl rfl) ?_
  refine .cons (.cP [.tmp 6, .tmp 8] rfl rfl rfl rfl (eqInts_fn _ _ hx) rfl) ?_
  refine .cons (.nt rfl rfl) ?_
  refine .nil ?_
  refine ks_n ?_
  refine ACode.condT rfl (fun h10 => ?_) (fun h10 => ?_)
  · try simp only [List.length_map, decide_eq_true_eq, decide_eq_false_iff_not, Bool.not_eq_true', Bool.not_eq_false', Bool.not_eq_true, Bool.not_eq_false] at h10
    refine ACode.seq ?_
    refine ACode.region ?_
    refine .cons (.asg rfl rfl) ?_
    refine .nil ?_
    refine ks_n ?_
    refine ACode.ret ?_
    refine ks_r ?_
    refine kf_ret rfl ?_ nobox
    exact leafB (by rw [Bool.eq_iff_iff]; simp [Prod.ext_iff, *])
  · try simp only [List.length_map, decide_eq_true_eq, decide_eq_false_iff_not, Bool.not_eq_true', Bool.not_eq_false', Bool.not_eq_true, Bool.not_eq_false] at h10
    refine ACode.skip ?_
    refine ks_n ?_
    refine ACode.seq ?_
    refine ACode.seq ?_
    refine ACode.region ?_
    refine .cons (.fP 1 0 false rfl rfl) ?_
    refine .cons (.l1 1 rfl rfl) ?_
    refine .cons (.fP 1 0 false rfl rfl) ?_
    refine .cons (.l1 1 rfl rfl) ?_
    refine .cons (.ne rfl rfl rfl) ?_
    refine .nil ?_
    refine ks_n ?_
    refine .cND rfl (fun h15 => ?_) (fun h15 => ?_)
    · skip
      refine ACode.seq ?_
      refine ACode.region ?_
      refine .cons (.asg rfl rfl) ?_
      refine .nil ?_
      refine ks_n ?_
      refine ACode.ret ?_
      refine ks_r ?_
      refine kf_ret rfl ?_ nobox
      exact leafB (by rw [Bool.eq_iff_iff]; simp [Prod.ext_iff, *])
    · skip
      refine ACode.skip ?_
      refine ks_n ?_
      refine ACode.seq ?_
      refine ACode.region ?_
      refine .cons (.asg rfl rfl) ?_
      refine .nil ?_
      refine ks_n ?_
      refine ACode.ret ?_
      refine kf_ret rfl ?_ nobox
      exact leafB (by rw [Bool.eq_iff_iff]; simp [Prod.ext_iff, *])

set_option maxRecDepth 100000 in
set_option maxHeartbeats 1600000 in
theorem eqAffs_f (xs ys : List Aff) (hx : xs.length ≤ 1099511627776) (hq : ∀ x ∈ xs, x.1.length ≤ 1099511627776) : Fn Tryz.prog 179 [] [vD (dAs xs), vD (dAs ys)] (.o (bo1 (eqF (fun x y : Aff => decide (x = y)) xs ys))) [] := by
  refine Fn.code0 Tryz.func179 rfl rfl rfl rfl ?_
  refine ACode.seq ?_
  refine ACode.region ?_
  refine .cons (.asg rfl rfl) ?_
  refine .nil ?_
  refine ks_n ?_
  refine ACode.seq ?_
  refine ACode.seq ?_
  refine ACode.region ?_
  refine .cons (.mv rfl rfl) ?_
  refine .cons (.ln 59 2 32 rfl rfl rfl) ?_
  refine .cons (.mv rfl rfl) ?_
  refine .cons (.ln 59 2 32 rfl rfl rfl) ?_
  refine .cons (.ne rfl rfl rfl) ?_
  refine .nil ?_
  refine ks_n ?_
  refine .cND rfl (fun h10 => ?_) (fun h10 => ?_)
  · skip
    refine ACode.seq ?_
    refine ACode.region ?_
    refine .cons (.asg rfl rfl) ?_
    refine .nil ?_
    refine ks_n ?_
    refine ACode.ret ?_
    refine ks_r ?_
    refine kf_ret rfl ?_ nobox
    exact leafB (eqF_len (by omega)).symm
  · skip
    refine ACode.skip ?_
    refine ks_n ?_
    refine ACode.seq ?_
    refine ACode.seq ?_
    refine ACode.region ?_
    refine .cons (.asg rfl rfl) ?_
    refine .nil ?_
    refine ks_n ?_
    refine ACode.block ?_
    refine .loopK (fun m σ => (∃ i : Nat, m = xs.length - i ∧ (i ≤ xs.length) ∧ (eqF (fun x y : Aff => decide (x = y)) xs ys = eqF (fun x y : Aff => decide (x = y)) (xs.drop i) (ys.drop i)) ∧ σ = [(.t 0, .v (.o (vD (dAs xs)))), (.t 1, .v (.o (vD (dAs ys)))), (.t 4, .v (.o (bo1 false))), (.t 5, .v (.o (nat1 (i : Nat))))])) [] ⟨0, rfl, by omega, by simp, rfl⟩ ⟨ks rfl .dt, ks rfl .dt, ks rfl .dt, ks rfl .dt, trivial⟩ ?_
    rintro m σ ⟨i, hm0, hi, hF, rfl⟩
    refine ACode.seq ?_
    refine ACode.seq ?_
    refine ACode.region ?_
    refine .cons (.mv rfl rfl) ?_
    refine .cons (.mv rfl rfl) ?_
    refine .cons (.ln 59 2 32 rfl rfl rfl) ?_
    refine .cons (.ls rfl rfl rfl) ?_
    refine .nil ?_
    refine ks_n ?_
    refine .cD rfl (fun h14 => ?_) (fun h14 => ?_)
    · skip
      obtain ⟨x, hx1⟩ : ∃ x, xs[i]? = some x := ⟨_, List.getElem?_eq_getElem (by omega)⟩
      obtain ⟨y, hy1⟩ : ∃ x, ys[i]? = some x := ⟨_, List.getElem?_eq_getElem (by omega)⟩
      refine ACode.skip ?_
      refine ks_n ?_
      refine ACode.seq ?_
      refine ACode.block ?_
      refine ACode.seq ?_
      refine ACode.drawK (by kernel_rfl) (by kernel_rfl) ?_
      refine .cons (.mv rfl rfl) ?_
      refine .cons (.mv rfl rfl) ?_
      refine .cons (.xL 59 2 32 rfl rfl rfl rfl rfl (map_at hx1)) ?_
      refine .cons (.lN 2 rfl rfl rfl) ?_
      refine .cons (.mv rfl rfl) ?_
      refine .cons (.mv rfl rfl) ?_
      refine .cons (.xL 59 2 32 rfl rfl rfl rfl rfl (map_at hy1)) ?_
      refine .cons (.lN 2 rfl rfl rfl) ?_
      refine .cons (.cP [.tmp 20, .tmp 24] rfl rfl rfl rfl (eqAff_fn x y (hq x (List.mem_of_getElem? hx1))) rfl) ?_
      refine .cons (.nt rfl rfl) ?_
      refine .nil ⟨by kernel_rfl, ?_⟩
      refine ks_n ?_
      refine ACode.condT rfl (fun h26 => ?_) (fun h26 => ?_)
      · try simp only [List.length_map, decide_eq_true_eq, decide_eq_false_iff_not, Bool.not_eq_true', Bool.not_eq_false', Bool.not_eq_true, Bool.not_eq_false] at h26
        have g : decide (x = y) = false := by first | assumption | exact decide_eq_false (by assumption) | (simp; omega)
        refine ACode.seq ?_
        refine ACode.region ?_
        refine .cons (.asg rfl rfl) ?_
        refine .nil ?_
        refine ks_n ?_
        refine ACode.ret ?_
        refine kb_r ?_
        refine ks_r ?_
        refine kl_r ?_
        refine kb_r ?_
        refine ks_r ?_
        refine kf_ret rfl ?_ nobox
        exact leafB (by rw [hF, eqF_drop hx1 hy1, g]; rfl)
      · try simp only [List.length_map, decide_eq_true_eq, decide_eq_false_iff_not, Bool.not_eq_true', Bool.not_eq_false', Bool.not_eq_true, Bool.not_eq_false] at h26
        have g : decide (x = y) = true := by first | assumption | exact decide_eq_true (by assumption) | (simp; omega)
        refine ACode.skip ?_
        refine kb_n ?_
        refine ks_n ?_
        refine ACode.region ?_
        refine .cons (.mv rfl rfl) ?_
        refine .cons (.pl rfl rfl rfl) ?_
        refine .cons (.asg rfl rfl) ?_
        refine .nil ?_
        refine kl_k [] ⟨i + 1, rfl, by omega, by rw [hF, eqF_drop hx1 hy1, g, Bool.true_and], rfl⟩ ⟨ks rfl .dt, ks rfl .dt, ks rfl .dt, ks rfl .dt, trivial⟩
    · skip
      refine ACode.exit ?_
      refine ks_e ?_
      refine kl_e ?_
      refine kb_hit ?_
      refine ks_n ?_
      refine ACode.seq ?_
      refine ACode.region ?_
      refine .cons (.asg rfl rfl) ?_
      refine .nil ?_
      refine ks_n ?_
      refine ACode.ret ?_
      refine kf_ret rfl ?_ nobox
      exact leafB (by rw [hF, show i = xs.length by omega, eqF_end (by omega)])

theorem eqAffs_fn (xs ys : List Aff) (hx : xs.length ≤ 1099511627776) (hq : ∀ x ∈ xs, x.1.length ≤ 1099511627776) : Fn Tryz.prog 179 [] [vD (dAs xs), vD (dAs ys)] (.o (bo1 (decide (xs = ys)))) [] := by
  rw [← eqF_dec]; exact eqAffs_f xs ys hx hq

end Go.Proofs.YtplekceinncepaaGreat

/- Arguments of laws: copies and equality; condition: small lists. -/
namespace Go.Proofs.YtplekceinncepaaGreat
set_option linter.unusedVariables false
set_option linter.unusedSimpArgs false
open Go.RowKit

set_option maxRecDepth 100000 in
set_option maxHeartbeats 1600000 in
theorem toAcc_fn {a : Acc} (h : szC a ≤ 1073741824) : Fn Tryz.prog 172 [] [ad (rC a)] (.o (ad (rC a))) [] := by
  rw [szC] at h
  have h2 := szAs_len a.2
  refine Fn.code0 Tryz.func172 rfl rfl rfl rfl ?_
  refine ACode.seq ?_
  refine ACode.region ?_
  refine .cons (St1.boxP rfl rfl rfl rfl rfl rfl) ?_
  refine .cons (.al 102 [.string ByteArray.empty, .slice none 0 0] rfl rfl rfl) ?_
  refine .nil ?_
  refine ks_n ?_
  refine ACode.seq ?_
  refine ACode.region ?_
  refine .cons (.al 103 [.string ByteArray.empty, .slice none 0 0] rfl rfl rfl) ?_
  refine .nil ?_
  refine ks_n ?_
  refine ACode.seq ?_
  refine ACode.region ?_
  refine .cons (.fP 0 0 false rfl rfl) ?_
  refine .cons (.l1 1 rfl rfl) ?_
  refine .cons (.fB 0 0 false rfl rfl rfl) ?_
  refine .cons (.sT 1 false rfl rfl rfl rfl rfl rfl rfl) ?_
  refine .nil ?_
  refine ks_n ?_
  refine ACode.seq ?_
  refine ACode.region ?_
  refine .cons (.fP 1 0 false rfl rfl) ?_
  refine .cons (.l1 1 rfl rfl) ?_
  refine .cons (.cP [.tmp 8] rfl rfl rfl rfl (toAffs_fn a.2 (by omega) (fun x hx => by have := szAs_mem hx; omega)) rfl) ?_
  refine .cons (.fB 1 0 false rfl rfl rfl) ?_
  refine .cons (.sT 1 false rfl rfl rfl rfl rfl rfl rfl) ?_
  refine .nil ?_
  refine ks_n ?_
  refine ACode.seq ?_
  refine ACode.region ?_
  refine .cons (.bN 2 rfl rfl rfl rfl rfl rfl) ?_
  refine .cons (.sT 2 true rfl rfl rfl rfl rfl rfl rfl) ?_
  refine .nil ?_
  refine ks_n ?_
  refine ACode.ret ?_
  refine kf_ret rfl ?_ nobox
  rfl

set_option maxRecDepth 100000 in
set_option maxHeartbeats 1600000 in
theorem toExs_one (xs : List Ex) (hx : xs.length ≤ 1073741824) (ih : ∀ x ∈ xs, Fn Tryz.prog 173 [] [ad (rX x)] (.o (ad (rX x))) []) : Fn Tryz.prog 202 [] [vD (dEs xs)] (.o (vD (dEs xs))) [] := by
  refine Fn.code0 Tryz.func202 rfl rfl rfl rfl ?_
  refine ACode.seq ?_
  refine ACode.region ?_
  refine .cons (.asg rfl rfl) ?_
  refine .nil ?_
  refine ks_n ?_
  refine ACode.seq ?_
  refine ACode.region ?_
  refine .cons (.mv rfl rfl) ?_
  refine .cons (.ln 181 7 112 rfl rfl rfl) ?_
  refine .cons (.mk 107 62 7 112 [.int .i64 0, .int .i64 0, .slice none 0 0, .int .i64 0, .string ByteArray.empty, .slice none 0 0, .slice none 0 0] rfl rfl rfl (by omega) rfl rfl) ?_
  refine .cons (.asg rfl rfl) ?_
  refine .nil ?_
  refine ks_n ?_
  refine ACode.seq ?_
  refine ACode.seq ?_
  refine ACode.region ?_
  refine .cons (.asg rfl rfl) ?_
  refine .nil ?_
  refine ks_n ?_
  refine ACode.block ?_
  refine .loopK (fun m σ => (∃ i : Nat, m = xs.length - i ∧ (i ≤ xs.length) ∧ (True) ∧ σ = [(.t 0, .v (.o (vD (dEs xs)))), (.t 2, .v (.o (.c (.d (.val (.slice none 0 0)))))), (.t 3, .v (.o (.c (.own 110 7 (xs.length))))), (.t 4, .v (.o (nat1 (i : Nat)))), (.b 110, .b 62 7 (dR ((xs.take i).map (rX) ++ List.replicate (xs.length - i) [dI 0, dI 0, .val (.slice none 0 0), dI 0, dS ByteArray.empty, .val (.slice none 0 0), .val (.slice none 0 0)]))), (.u 110, .u)])) [(110, 107)] ⟨0, rfl, by omega, trivial, rfl⟩ ⟨ks rfl .dt, ks rfl .dt, ks rfl (.c .ow), ks rfl .dt, kb 107 rfl (.dt rfl (by first | exact fill_new (rX) xs | exact fill_set (rX) hx1 rfl)), trivial⟩ ?_
  rintro m σ ⟨i, hm0, hi, hF, rfl⟩
  refine ACode.seq ?_
  refine ACode.seq ?_
  refine ACode.region ?_
  refine .cons (.mv rfl rfl) ?_
  refine .cons (.mv rfl rfl) ?_
  refine .cons (.ln 181 7 112 rfl rfl rfl) ?_
  refine .cons (.ls rfl rfl rfl) ?_
  refine .nil ?_
  refine ks_n ?_
  refine .cD rfl (fun h11 => ?_) (fun h11 => ?_)
  · skip
    obtain ⟨x, hx1⟩ : ∃ x, xs[i]? = some x := ⟨_, List.getElem?_eq_getElem (by omega)⟩
    refine ACode.skip ?_
    refine ks_n ?_
    refine ACode.seq ?_
    refine ACode.block ?_
    refine ACode.region ?_
    refine .cons (.mv rfl rfl) ?_
    refine .cons (.mv rfl rfl) ?_
    refine .cons (.mv rfl rfl) ?_
    refine .cons (.mv rfl rfl) ?_
    refine .cons (.xL 181 7 112 rfl rfl rfl rfl rfl (rE_at hx1)) ?_
    refine .cons (.lN 7 rfl rfl rfl) ?_
    refine .cons (.cP [.tmp 19] rfl rfl rfl rfl (ih x (List.mem_of_getElem? hx1)) rfl) ?_
    refine .cons (.xB 62 7 112 rfl rfl rfl rfl rfl rfl (by omega)) ?_
    refine .cons (.sT 7 true rfl rfl rfl rfl (fill_at (by omega)) rfl rfl) ?_
    refine .nil ?_
    refine kb_n ?_
    refine ks_n ?_
    refine ACode.region ?_
    refine .cons (.mv rfl rfl) ?_
    refine .cons (.pl rfl rfl rfl) ?_
    refine .cons (.asg rfl rfl) ?_
    refine .nil ?_
    refine kl_k [(110, 110)] ⟨i + 1, rfl, by omega, trivial, rfl⟩ ⟨ks rfl .dt, ks rfl .dt, ks rfl (.c .ow), ks rfl .dt, kb 110 rfl (.dt rfl (by first | exact fill_new (rX) xs | exact fill_set (rX) hx1 rfl)), trivial⟩
  · skip
    obtain rfl : i = xs.length := by omega
    refine ACode.exit ?_
    refine ks_e ?_
    refine kl_e ?_
    refine kb_hit ?_
    refine ks_n ?_
    refine ACode.seq ?_
    refine ACode.region ?_
    refine .cons (.mv rfl rfl) ?_
    refine .cons (.asg rfl rfl) ?_
    refine .nil ?_
    refine ks_n ?_
    refine ACode.ret ?_
    refine kf_wret [(.t 2, .v (.o (vD (dEs xs))))] (Wk.keep [] rfl rfl ⟨ks rfl (.c (.fz rfl ((fill_end (rX) xs).trans (by rw [show xs.map (rX) = xs.map rE from List.map_congr_left fun x _ => (rE_eq x).symm])) (by simp) (by omega))), trivial⟩) rfl ?_ nobox
    rfl

set_option maxRecDepth 100000 in
set_option maxHeartbeats 1600000 in
theorem toEx_one {e : Ex} (h0 : e.i.1.length ≤ 1073741824) (h1 : szC e.r ≤ 1073741824) (h2 : e.ks.length ≤ 1073741824) (ih : ∀ x ∈ e.ks, Fn Tryz.prog 173 [] [ad (rX x)] (.o (ad (rX x))) []) : Fn Tryz.prog 173 [] [ad (rX e)] (.o (ad (rX e))) [] := by
  refine Fn.code0 Tryz.func173 rfl rfl rfl rfl ?_
  refine ACode.seq ?_
  refine ACode.region ?_
  refine .cons (St1.boxP rfl rfl rfl rfl rfl rfl) ?_
  refine .cons (.al 102 [.int .i64 0, .int .i64 0, .slice none 0 0, .int .i64 0, .string ByteArray.empty, .slice none 0 0, .slice none 0 0] rfl rfl rfl) ?_
  refine .nil ?_
  refine ks_n ?_
  refine ACode.seq ?_
  refine ACode.region ?_
  refine .cons (.al 103 [.int .i64 0, .int .i64 0, .slice none 0 0, .int .i64 0, .string ByteArray.empty, .slice none 0 0, .slice none 0 0] rfl rfl rfl) ?_
  refine .nil ?_
  refine ks_n ?_
  refine ACode.seq ?_
  refine ACode.region ?_
  refine .cons (.fP 0 0 false rfl rfl) ?_
  refine .cons (.l1 1 rfl rfl) ?_
  refine .cons (.fB 0 0 false rfl rfl rfl) ?_
  refine .cons (.sT 1 false rfl rfl rfl rfl rfl rfl rfl) ?_
  refine .nil ?_
  refine ks_n ?_
  refine ACode.seq ?_
  refine ACode.region ?_
  refine .cons (.fP 1 0 false rfl rfl) ?_
  refine .cons (.l1 1 rfl rfl) ?_
  refine .cons (.fB 1 0 false rfl rfl rfl) ?_
  refine .cons (.sT 1 false rfl rfl rfl rfl rfl rfl rfl) ?_
  refine .nil ?_
  refine ks_n ?_
  refine ACode.seq ?_
  refine ACode.region ?_
  refine .cons (.fP 2 1 true rfl rfl) ?_
  refine .cons (.lN 2 rfl rfl rfl) ?_
  refine .cons (.cP [.tmp 11] rfl rfl rfl rfl (toAff_fn h0) rfl) ?_
  refine .cons (.fB 2 1 true rfl rfl rfl) ?_
  refine .cons (.sT 2 true rfl rfl rfl rfl rfl rfl rfl) ?_
  refine .nil ?_
  refine ks_n ?_
  refine ACode.seq ?_
  refine ACode.region ?_
  refine .cons (.fP 4 1 true rfl rfl) ?_
  refine .cons (.lN 2 rfl rfl rfl) ?_
  refine .cons (.cP [.tmp 15] rfl rfl rfl rfl (toAcc_fn h1) rfl) ?_
  refine .cons (.fB 4 1 true rfl rfl rfl) ?_
  refine .cons (.sT 2 true rfl rfl rfl rfl rfl rfl rfl) ?_
  refine .nil ?_
  refine ks_n ?_
  refine ACode.seq ?_
  refine ACode.region ?_
  refine .cons (.fP 6 0 false rfl rfl) ?_
  refine .cons (.l1 1 rfl rfl) ?_
  refine .cons (.cP [.tmp 19] rfl rfl rfl rfl (toExs_one e.ks h2 ih) rfl) ?_
  refine .cons (.fB 6 0 false rfl rfl rfl) ?_
  refine .cons (.sT 1 false rfl rfl rfl rfl rfl rfl rfl) ?_
  refine .nil ?_
  refine ks_n ?_
  refine ACode.seq ?_
  refine ACode.region ?_
  refine .cons (.bN 7 rfl rfl rfl rfl rfl rfl) ?_
  refine .cons (.sT 7 true rfl rfl rfl rfl rfl rfl rfl) ?_
  refine .nil ?_
  refine ks_n ?_
  refine ACode.ret ?_
  refine kf_ret rfl ?_ nobox
  rfl

theorem toEx_fn : ∀ e : Ex, szE e ≤ 1073741824 → Fn Tryz.prog 173 [] [ad (rX e)] (.o (ad (rX e))) [] := by
  intro e
  induction e using Ex.rec' with
  | h e ih =>
    intro hs
    rw [szE_eq] at hs
    exact toEx_one (by omega) (by omega) (by omega) fun x hx => ih x hx (by have := szEs_mem hx; omega)

set_option maxRecDepth 100000 in
set_option maxHeartbeats 1600000 in
theorem toStm_fn {s : Stm} (h : szS s ≤ 1073741824) : Fn Tryz.prog 140 [] [ad (rS s)] (.o (ad (rS s))) [] := by
  rw [szS] at h
  refine Fn.code0 Tryz.func140 rfl rfl rfl rfl ?_
  refine ACode.seq ?_
  refine ACode.region ?_
  refine .cons (St1.boxP rfl rfl rfl rfl rfl rfl) ?_
  refine .cons (.al 102 [.string ByteArray.empty, .slice none 0 0, .int .i64 0, .int .i64 0, .slice none 0 0, .int .i64 0, .string ByteArray.empty, .slice none 0 0, .slice none 0 0] rfl rfl rfl) ?_
  refine .nil ?_
  refine ks_n ?_
  refine ACode.seq ?_
  refine ACode.region ?_
  refine .cons (.al 103 [.string ByteArray.empty, .slice none 0 0, .int .i64 0, .int .i64 0, .slice none 0 0, .int .i64 0, .string ByteArray.empty, .slice none 0 0, .slice none 0 0] rfl rfl rfl) ?_
  refine .nil ?_
  refine ks_n ?_
  refine ACode.seq ?_
  refine ACode.region ?_
  refine .cons (.fP 0 1 true rfl rfl) ?_
  refine .cons (.lN 2 rfl rfl rfl) ?_
  refine .cons (.cP [.tmp 5] rfl rfl rfl rfl (toAcc_fn (a := s.1) (by omega)) rfl) ?_
  refine .cons (.fB 0 1 true rfl rfl rfl) ?_
  refine .cons (.sT 2 true rfl rfl rfl rfl rfl rfl rfl) ?_
  refine .nil ?_
  refine ks_n ?_
  refine ACode.seq ?_
  refine ACode.region ?_
  refine .cons (.fP 2 6 true rfl rfl) ?_
  refine .cons (.lN 7 rfl rfl rfl) ?_
  refine .cons (.cP [.tmp 9] rfl rfl rfl rfl (toEx_fn s.2 (by omega)) rfl) ?_
  refine .cons (.fB 2 6 true rfl rfl rfl) ?_
  refine .cons (.sT 7 true rfl rfl rfl rfl rfl rfl rfl) ?_
  refine .nil ?_
  refine ks_n ?_
  refine ACode.seq ?_
  refine ACode.region ?_
  refine .cons (.bN 9 rfl rfl rfl rfl rfl rfl) ?_
  refine .cons (.sT 9 true rfl rfl rfl rfl rfl rfl rfl) ?_
  refine .nil ?_
  refine ks_n ?_
  refine ACode.ret ?_
  refine kf_ret rfl ?_ nobox
  rfl

set_option maxRecDepth 100000 in
set_option maxHeartbeats 1600000 in
theorem eqAcc_fn (a b : Acc) (h : szC a ≤ 1073741824) : Fn Tryz.prog 180 [] [ad (rC a), ad (rC b)] (.o (bo1 (sameC a b))) [] := by
  rw [szC] at h
  have h2 := szAs_len a.2
  refine Fn.code0 Tryz.func180 rfl rfl rfl rfl ?_
  refine ACode.seq ?_
  refine ACode.region ?_
  refine .cons (St1.boxP rfl rfl rfl rfl rfl rfl) ?_
  refine .cons (St1.boxP rfl rfl rfl rfl rfl rfl) ?_
  refine .cons (.asg rfl rfl) ?_
  refine .nil ?_
  refine ks_n ?_
  refine ACode.seq ?_
  refine ACode.seq ?_
  refine ACode.region ?_
  refine .cons (.fP 0 0 false rfl rfl) ?_
  refine .cons (.l1 1 rfl rfl) ?_
  refine .cons (.fP 0 0 false rfl rfl) ?_
  refine .cons (.l1 1 rfl rfl) ?_
  refine .cons (St1.neS rfl rfl rfl) ?_
  refine .nil ?_
  refine ks_n ?_
  refine ACode.condT rfl (fun h9 => ?_) (fun h9 => ?_)
  · try simp only [List.length_map, decide_eq_true_eq, decide_eq_false_iff_not, Bool.not_eq_true', Bool.not_eq_false', Bool.not_eq_true, Bool.not_eq_false] at h9
    refine ACode.seq ?_
    refine ACode.region ?_
    refine .cons (.asg rfl rfl) ?_
    refine .nil ?_
    refine ks_n ?_
    refine ACode.ret ?_
    refine ks_r ?_
    refine kf_ret rfl ?_ nobox
    exact leafB (by rw [sameC]; first | (simp [*]; done) | grind)
  · try simp only [List.length_map, decide_eq_true_eq, decide_eq_false_iff_not, Bool.not_eq_true', Bool.not_eq_false', Bool.not_eq_true, Bool.not_eq_false] at h9
    refine ACode.skip ?_
    refine ks_n ?_
    refine ACode.seq ?_
    refine ACode.seq ?_
    refine ACode.region ?_
    refine .cons (.fP 1 0 false rfl rfl) ?_
    refine .cons (.l1 1 rfl rfl) ?_
    refine .cons (.fP 1 0 false rfl rfl) ?_
    refine .cons (.l1 1 rfl rfl) ?_
    refine .cons (.cP [.tmp 11, .tmp 13] rfl rfl rfl rfl (eqAffs_fn _ _ (by omega) (fun x hx => by have := szAs_mem hx; omega)) rfl) ?_
    refine .cons (.nt rfl rfl) ?_
    refine .nil ?_
    refine ks_n ?_
    refine ACode.condT rfl (fun h15 => ?_) (fun h15 => ?_)
    · try simp only [List.length_map, decide_eq_true_eq, decide_eq_false_iff_not, Bool.not_eq_true', Bool.not_eq_false', Bool.not_eq_true, Bool.not_eq_false] at h15
      refine ACode.seq ?_
      refine ACode.region ?_
      refine .cons (.asg rfl rfl) ?_
      refine .nil ?_
      refine ks_n ?_
      refine ACode.ret ?_
      refine ks_r ?_
      refine kf_ret rfl ?_ nobox
      exact leafB (by rw [sameC]; first | (simp [*]; done) | grind)
    · try simp only [List.length_map, decide_eq_true_eq, decide_eq_false_iff_not, Bool.not_eq_true', Bool.not_eq_false', Bool.not_eq_true, Bool.not_eq_false] at h15
      refine ACode.skip ?_
      refine ks_n ?_
      refine ACode.seq ?_
      refine ACode.region ?_
      refine .cons (.asg rfl rfl) ?_
      refine .nil ?_
      refine ks_n ?_
      refine ACode.ret ?_
      refine kf_ret rfl ?_ nobox
      exact leafB (by rw [sameC]; first | (simp [*]; done) | grind)

set_option maxRecDepth 100000 in
set_option maxHeartbeats 1600000 in
theorem eqExs_one (xs ys : List Ex) (hx : xs.length ≤ 1099511627776) (ih : ∀ x ∈ xs, ∀ y, Fn Tryz.prog 181 [] [ad (rX x), ad (rX y)] (.o (bo1 (sameE x y))) []) : Fn Tryz.prog 205 [] [vD (dEs xs), vD (dEs ys)] (.o (bo1 (eqF sameE xs ys))) [] := by
  refine Fn.code0 Tryz.func205 rfl rfl rfl rfl ?_
  refine ACode.seq ?_
  refine ACode.region ?_
  refine .cons (.asg rfl rfl) ?_
  refine .nil ?_
  refine ks_n ?_
  refine ACode.seq ?_
  refine ACode.seq ?_
  refine ACode.region ?_
  refine .cons (.mv rfl rfl) ?_
  refine .cons (.ln 62 7 112 rfl rfl rfl) ?_
  refine .cons (.mv rfl rfl) ?_
  refine .cons (.ln 62 7 112 rfl rfl rfl) ?_
  refine .cons (.ne rfl rfl rfl) ?_
  refine .nil ?_
  refine ks_n ?_
  refine .cND rfl (fun h10 => ?_) (fun h10 => ?_)
  · skip
    refine ACode.seq ?_
    refine ACode.region ?_
    refine .cons (.asg rfl rfl) ?_
    refine .nil ?_
    refine ks_n ?_
    refine ACode.ret ?_
    refine ks_r ?_
    refine kf_ret rfl ?_ nobox
    exact leafB (eqF_len (by omega)).symm
  · skip
    refine ACode.skip ?_
    refine ks_n ?_
    refine ACode.seq ?_
    refine ACode.seq ?_
    refine ACode.region ?_
    refine .cons (.asg rfl rfl) ?_
    refine .nil ?_
    refine ks_n ?_
    refine ACode.block ?_
    refine .loopK (fun m σ => (∃ i : Nat, m = xs.length - i ∧ (i ≤ xs.length) ∧ (eqF sameE xs ys = eqF sameE (xs.drop i) (ys.drop i)) ∧ σ = [(.t 0, .v (.o (vD (dEs xs)))), (.t 1, .v (.o (vD (dEs ys)))), (.t 4, .v (.o (bo1 false))), (.t 5, .v (.o (nat1 (i : Nat))))])) [] ⟨0, rfl, by omega, by simp, rfl⟩ ⟨ks rfl .dt, ks rfl .dt, ks rfl .dt, ks rfl .dt, trivial⟩ ?_
    rintro m σ ⟨i, hm0, hi, hF, rfl⟩
    refine ACode.seq ?_
    refine ACode.seq ?_
    refine ACode.region ?_
    refine .cons (.mv rfl rfl) ?_
    refine .cons (.mv rfl rfl) ?_
    refine .cons (.ln 62 7 112 rfl rfl rfl) ?_
    refine .cons (.ls rfl rfl rfl) ?_
    refine .nil ?_
    refine ks_n ?_
    refine .cD rfl (fun h14 => ?_) (fun h14 => ?_)
    · skip
      obtain ⟨x, hx1⟩ : ∃ x, xs[i]? = some x := ⟨_, List.getElem?_eq_getElem (by omega)⟩
      obtain ⟨y, hy1⟩ : ∃ x, ys[i]? = some x := ⟨_, List.getElem?_eq_getElem (by omega)⟩
      refine ACode.skip ?_
      refine ks_n ?_
      refine ACode.seq ?_
      refine ACode.block ?_
      refine ACode.seq ?_
      refine ACode.drawK (by kernel_rfl) (by kernel_rfl) ?_
      refine .cons (.mv rfl rfl) ?_
      refine .cons (.mv rfl rfl) ?_
      refine .cons (.xL 62 7 112 rfl rfl rfl rfl rfl (rE_at hx1)) ?_
      refine .cons (.lN 7 rfl rfl rfl) ?_
      refine .cons (.mv rfl rfl) ?_
      refine .cons (.mv rfl rfl) ?_
      refine .cons (.xL 62 7 112 rfl rfl rfl rfl rfl (rE_at hy1)) ?_
      refine .cons (.lN 7 rfl rfl rfl) ?_
      refine .cons (.cP [.tmp 20, .tmp 24] rfl rfl rfl rfl (ih x (List.mem_of_getElem? hx1) y) rfl) ?_
      refine .cons (.nt rfl rfl) ?_
      refine .nil ⟨by kernel_rfl, ?_⟩
      refine ks_n ?_
      refine ACode.condT rfl (fun h26 => ?_) (fun h26 => ?_)
      · try simp only [List.length_map, decide_eq_true_eq, decide_eq_false_iff_not, Bool.not_eq_true', Bool.not_eq_false', Bool.not_eq_true, Bool.not_eq_false] at h26
        have g : sameE x y = false := by first | assumption | exact decide_eq_false (by assumption) | (simp; omega)
        refine ACode.seq ?_
        refine ACode.region ?_
        refine .cons (.asg rfl rfl) ?_
        refine .nil ?_
        refine ks_n ?_
        refine ACode.ret ?_
        refine kb_r ?_
        refine ks_r ?_
        refine kl_r ?_
        refine kb_r ?_
        refine ks_r ?_
        refine kf_ret rfl ?_ nobox
        exact leafB (by rw [hF, eqF_drop hx1 hy1, g]; rfl)
      · try simp only [List.length_map, decide_eq_true_eq, decide_eq_false_iff_not, Bool.not_eq_true', Bool.not_eq_false', Bool.not_eq_true, Bool.not_eq_false] at h26
        have g : sameE x y = true := by first | assumption | exact decide_eq_true (by assumption) | (simp; omega)
        refine ACode.skip ?_
        refine kb_n ?_
        refine ks_n ?_
        refine ACode.region ?_
        refine .cons (.mv rfl rfl) ?_
        refine .cons (.pl rfl rfl rfl) ?_
        refine .cons (.asg rfl rfl) ?_
        refine .nil ?_
        refine kl_k [] ⟨i + 1, rfl, by omega, by rw [hF, eqF_drop hx1 hy1, g, Bool.true_and], rfl⟩ ⟨ks rfl .dt, ks rfl .dt, ks rfl .dt, ks rfl .dt, trivial⟩
    · skip
      refine ACode.exit ?_
      refine ks_e ?_
      refine kl_e ?_
      refine kb_hit ?_
      refine ks_n ?_
      refine ACode.seq ?_
      refine ACode.region ?_
      refine .cons (.asg rfl rfl) ?_
      refine .nil ?_
      refine ks_n ?_
      refine ACode.ret ?_
      refine kf_ret rfl ?_ nobox
      exact leafB (by rw [hF, show i = xs.length by omega, eqF_end (by omega)])

set_option maxRecDepth 100000 in
set_option maxHeartbeats 1600000 in
theorem eqEx_one (x y : Ex) (h0 : x.i.1.length ≤ 1073741824) (h1 : szC x.r ≤ 1073741824) (h2 : x.ks.length ≤ 1099511627776) (ih : ∀ a ∈ x.ks, ∀ b, Fn Tryz.prog 181 [] [ad (rX a), ad (rX b)] (.o (bo1 (sameE a b))) []) : Fn Tryz.prog 181 [] [ad (rX x), ad (rX y)] (.o (bo1 (sameE x y))) [] := by
  refine Fn.code0 Tryz.func181 rfl rfl rfl rfl ?_
  refine ACode.seq ?_
  refine ACode.region ?_
  refine .cons (St1.boxP rfl rfl rfl rfl rfl rfl) ?_
  refine .cons (St1.boxP rfl rfl rfl rfl rfl rfl) ?_
  refine .cons (.asg rfl rfl) ?_
  refine .nil ?_
  refine ks_n ?_
  refine ACode.seq ?_
  refine ACode.seq ?_
  refine ACode.region ?_
  refine .cons (.fP 0 0 false rfl rfl) ?_
  refine .cons (.l1 1 rfl rfl) ?_
  refine .cons (.fP 0 0 false rfl rfl) ?_
  refine .cons (.l1 1 rfl rfl) ?_
  refine .cons (.ne rfl rfl rfl) ?_
  refine .nil ?_
  refine ks_n ?_
  refine .cND rfl (fun h9 => ?_) (fun h9 => ?_)
  · skip
    refine ACode.seq ?_
    refine ACode.region ?_
    refine .cons (.asg rfl rfl) ?_
    refine .nil ?_
    refine ks_n ?_
    refine ACode.ret ?_
    refine ks_r ?_
    refine kf_ret rfl ?_ nobox
    exact leafB (by rw [sameE_eq, ← eqF_sameE]; first | (simp [*]; done) | grind)
  · skip
    refine ACode.skip ?_
    refine ks_n ?_
    refine ACode.seq ?_
    refine ACode.seq ?_
    refine ACode.region ?_
    refine .cons (.fP 1 0 false rfl rfl) ?_
    refine .cons (.l1 1 rfl rfl) ?_
    refine .cons (.fP 1 0 false rfl rfl) ?_
    refine .cons (.l1 1 rfl rfl) ?_
    refine .cons (.ne rfl rfl rfl) ?_
    refine .nil ?_
    refine ks_n ?_
    refine .cND rfl (fun h14 => ?_) (fun h14 => ?_)
    · skip
      refine ACode.seq ?_
      refine ACode.region ?_
      refine .cons (.asg rfl rfl) ?_
      refine .nil ?_
      refine ks_n ?_
      refine ACode.ret ?_
      refine ks_r ?_
      refine kf_ret rfl ?_ nobox
      exact leafB (by rw [sameE_eq, ← eqF_sameE]; first | (simp [*]; done) | grind)
    · skip
      refine ACode.skip ?_
      refine ks_n ?_
      refine ACode.seq ?_
      refine ACode.seq ?_
      refine ACode.region ?_
      refine .cons (.fP 2 1 true rfl rfl) ?_
      refine .cons (.lN 2 rfl rfl rfl) ?_
      refine .cons (.fP 2 1 true rfl rfl) ?_
      refine .cons (.lN 2 rfl rfl rfl) ?_
      refine .cons (.cP [.tmp 16, .tmp 18] rfl rfl rfl rfl (eqAff_fn _ _ (by omega)) rfl) ?_
      refine .cons (.nt rfl rfl) ?_
      refine .nil ?_
      refine ks_n ?_
      refine ACode.condT rfl (fun h20 => ?_) (fun h20 => ?_)
      · try simp only [List.length_map, decide_eq_true_eq, decide_eq_false_iff_not, Bool.not_eq_true', Bool.not_eq_false', Bool.not_eq_true, Bool.not_eq_false] at h20
        refine ACode.seq ?_
        refine ACode.region ?_
        refine .cons (.asg rfl rfl) ?_
        refine .nil ?_
        refine ks_n ?_
        refine ACode.ret ?_
        refine ks_r ?_
        refine kf_ret rfl ?_ nobox
        exact leafB (by rw [sameE_eq, ← eqF_sameE]; first | (simp [*]; done) | grind)
      · try simp only [List.length_map, decide_eq_true_eq, decide_eq_false_iff_not, Bool.not_eq_true', Bool.not_eq_false', Bool.not_eq_true, Bool.not_eq_false] at h20
        refine ACode.skip ?_
        refine ks_n ?_
        refine ACode.seq ?_
        refine ACode.seq ?_
        refine ACode.region ?_
        refine .cons (.fP 4 1 true rfl rfl) ?_
        refine .cons (.lN 2 rfl rfl rfl) ?_
        refine .cons (.fP 4 1 true rfl rfl) ?_
        refine .cons (.lN 2 rfl rfl rfl) ?_
        refine .cons (.cP [.tmp 22, .tmp 24] rfl rfl rfl rfl (eqAcc_fn _ _ h1) rfl) ?_
        refine .cons (.nt rfl rfl) ?_
        refine .nil ?_
        refine ks_n ?_
        refine ACode.condT rfl (fun h26 => ?_) (fun h26 => ?_)
        · try simp only [List.length_map, decide_eq_true_eq, decide_eq_false_iff_not, Bool.not_eq_true', Bool.not_eq_false', Bool.not_eq_true, Bool.not_eq_false] at h26
          refine ACode.seq ?_
          refine ACode.region ?_
          refine .cons (.asg rfl rfl) ?_
          refine .nil ?_
          refine ks_n ?_
          refine ACode.ret ?_
          refine ks_r ?_
          refine kf_ret rfl ?_ nobox
          exact leafB (by rw [sameE_eq, ← eqF_sameE]; first | (simp [*]; done) | grind)
        · try simp only [List.length_map, decide_eq_true_eq, decide_eq_false_iff_not, Bool.not_eq_true', Bool.not_eq_false', Bool.not_eq_true, Bool.not_eq_false] at h26
          refine ACode.skip ?_
          refine ks_n ?_
          refine ACode.seq ?_
          refine ACode.seq ?_
          refine ACode.region ?_
          refine .cons (.fP 6 0 false rfl rfl) ?_
          refine .cons (.l1 1 rfl rfl) ?_
          refine .cons (.fP 6 0 false rfl rfl) ?_
          refine .cons (.l1 1 rfl rfl) ?_
          refine .cons (.cP [.tmp 28, .tmp 30] rfl rfl rfl rfl (eqExs_one x.ks y.ks h2 ih) rfl) ?_
          refine .cons (.nt rfl rfl) ?_
          refine .nil ?_
          refine ks_n ?_
          refine ACode.condT rfl (fun h32 => ?_) (fun h32 => ?_)
          · try simp only [List.length_map, decide_eq_true_eq, decide_eq_false_iff_not, Bool.not_eq_true', Bool.not_eq_false', Bool.not_eq_true, Bool.not_eq_false] at h32
            refine ACode.seq ?_
            refine ACode.region ?_
            refine .cons (.asg rfl rfl) ?_
            refine .nil ?_
            refine ks_n ?_
            refine ACode.ret ?_
            refine ks_r ?_
            refine kf_ret rfl ?_ nobox
            exact leafB (by rw [sameE_eq, ← eqF_sameE]; first | (simp [*]; done) | grind)
          · try simp only [List.length_map, decide_eq_true_eq, decide_eq_false_iff_not, Bool.not_eq_true', Bool.not_eq_false', Bool.not_eq_true, Bool.not_eq_false] at h32
            refine ACode.skip ?_
            refine ks_n ?_
            refine ACode.seq ?_
            refine ACode.region ?_
            refine .cons (.asg rfl rfl) ?_
            refine .nil ?_
            refine ks_n ?_
            refine ACode.ret ?_
            refine kf_ret rfl ?_ nobox
            exact leafB (by rw [sameE_eq, ← eqF_sameE]; first | (simp [*]; done) | grind)

theorem eqEx_fn : ∀ x y : Ex, szE x ≤ 1073741824 → Fn Tryz.prog 181 [] [ad (rX x), ad (rX y)] (.o (bo1 (sameE x y))) [] := by
  intro x
  induction x using Ex.rec' with
  | h x ih =>
    intro y hs
    rw [szE_eq] at hs
    exact eqEx_one x y (by omega) (by omega) (by omega) fun a ha b => ih a ha b (by have := szEs_mem ha; omega)

set_option maxRecDepth 100000 in
set_option maxHeartbeats 1600000 in
theorem eqStm_fn (s t : Stm) (h : szS s ≤ 1073741824) : Fn Tryz.prog 153 [] [ad (rS s), ad (rS t)] (.o (bo1 (sameS s t))) [] := by
  rw [szS] at h
  refine Fn.code0 Tryz.func153 rfl rfl rfl rfl ?_
  refine ACode.seq ?_
  refine ACode.region ?_
  refine .cons (St1.boxP rfl rfl rfl rfl rfl rfl) ?_
  refine .cons (St1.boxP rfl rfl rfl rfl rfl rfl) ?_
  refine .cons (.asg rfl rfl) ?_
  refine .nil ?_
  refine ks_n ?_
  refine ACode.seq ?_
  refine ACode.seq ?_
  refine ACode.region ?_
  refine .cons (.fP 0 1 true rfl rfl) ?_
  refine .cons (.lN 2 rfl rfl rfl) ?_
  refine .cons (.fP 0 1 true rfl rfl) ?_
  refine .cons (.lN 2 rfl rfl rfl) ?_
  refine .cons (.cP [.tmp 6, .tmp 8] rfl rfl rfl rfl (eqAcc_fn _ _ (by omega)) rfl) ?_
  refine .cons (.nt rfl rfl) ?_
  refine .nil ?_
  refine ks_n ?_
  refine ACode.condT rfl (fun h10 => ?_) (fun h10 => ?_)
  · try simp only [List.length_map, decide_eq_true_eq, decide_eq_false_iff_not, Bool.not_eq_true', Bool.not_eq_false', Bool.not_eq_true, Bool.not_eq_false] at h10
    refine ACode.seq ?_
    refine ACode.region ?_
    refine .cons (.asg rfl rfl) ?_
    refine .nil ?_
    refine ks_n ?_
    refine ACode.ret ?_
    refine ks_r ?_
    refine kf_ret rfl ?_ nobox
    exact leafB (by rw [sameS]; first | (simp [*]; done) | grind)
  · try simp only [List.length_map, decide_eq_true_eq, decide_eq_false_iff_not, Bool.not_eq_true', Bool.not_eq_false', Bool.not_eq_true, Bool.not_eq_false] at h10
    refine ACode.skip ?_
    refine ks_n ?_
    refine ACode.seq ?_
    refine ACode.seq ?_
    refine ACode.region ?_
    refine .cons (.fP 2 6 true rfl rfl) ?_
    refine .cons (.lN 7 rfl rfl rfl) ?_
    refine .cons (.fP 2 6 true rfl rfl) ?_
    refine .cons (.lN 7 rfl rfl rfl) ?_
    refine .cons (.cP [.tmp 12, .tmp 14] rfl rfl rfl rfl (eqEx_fn _ _ (by omega)) rfl) ?_
    refine .cons (.nt rfl rfl) ?_
    refine .nil ?_
    refine ks_n ?_
    refine ACode.condT rfl (fun h16 => ?_) (fun h16 => ?_)
    · try simp only [List.length_map, decide_eq_true_eq, decide_eq_false_iff_not, Bool.not_eq_true', Bool.not_eq_false', Bool.not_eq_true, Bool.not_eq_false] at h16
      refine ACode.seq ?_
      refine ACode.region ?_
      refine .cons (.asg rfl rfl) ?_
      refine .nil ?_
      refine ks_n ?_
      refine ACode.ret ?_
      refine ks_r ?_
      refine kf_ret rfl ?_ nobox
      exact leafB (by rw [sameS]; first | (simp [*]; done) | grind)
    · try simp only [List.length_map, decide_eq_true_eq, decide_eq_false_iff_not, Bool.not_eq_true', Bool.not_eq_false', Bool.not_eq_true, Bool.not_eq_false] at h16
      refine ACode.skip ?_
      refine ks_n ?_
      refine ACode.seq ?_
      refine ACode.region ?_
      refine .cons (.asg rfl rfl) ?_
      refine .nil ?_
      refine ks_n ?_
      refine ACode.ret ?_
      refine kf_ret rfl ?_ nobox
      exact leafB (by rw [sameS]; first | (simp [*]; done) | grind)

end Go.Proofs.YtplekceinncepaaGreat

/- Arguments of laws: loops; condition: lists as long as memory lets them be. -/
namespace Go.Proofs.YtplekceinncepaaGreat
set_option linter.unusedVariables false
set_option linter.unusedSimpArgs false
open Go.RowKit

/-- Sizes of loops. -/
def szL (l : Lp) : Nat := szAs l.1 + szAs l.2
def szLs (l : List Lp) : Nat := l.length + (l.map szL).sum
theorem szLs_mem {l : List Lp} {a : Lp} (h : a ∈ l) : l.length + szL a ≤ szLs l := by
  rw [szLs]
  have : ∀ (l : List Nat) (n : Nat), n ∈ l → n ≤ l.sum := by
    intro l
    induction l with
    | nil => intro n h; cases h
    | cons m l ih =>
      intro n h
      rw [List.sum_cons]
      rcases List.mem_cons.1 h with rfl | h
      · omega
      · have := ih n h; omega
  have := this _ _ (List.mem_map_of_mem (f := szL) h)
  omega
theorem szLs_len (l : List Lp) : l.length ≤ szLs l := Nat.le_add_right _ _

set_option maxRecDepth 100000 in
set_option maxHeartbeats 1600000 in
theorem szLoop_fn {x : Lp} {l : Int} (hl : 0 ≤ l ∧ l ≤ 1048576) (ho : okAs x.1 ∧ okAs x.2) : Fn Tryz.prog 127 [] [ad (rL x), nat1 l] (.o (nat1 (subZ l (szL x)))) [] := by
  have hsz : szL x = szAs x.1 + szAs x.2 := rfl
  have hb1 := subZ_bd (n := szAs x.1) hl
  obtain ⟨⟨o1, o2⟩, o3, o4⟩ := ho
  refine Fn.code0 Tryz.func127 rfl rfl rfl rfl ?_
  refine ACode.seq ?_
  refine ACode.region ?_
  refine .cons (St1.boxP rfl rfl rfl rfl rfl rfl) ?_
  refine .cons (.asg rfl rfl) ?_
  refine .nil ?_
  refine ks_n ?_
  refine ACode.seq ?_
  refine ACode.region ?_
  refine .cons (.fP 0 0 false rfl rfl) ?_
  refine .cons (.l1 1 rfl rfl) ?_
  refine .cons (.mv rfl rfl) ?_
  refine .cons (.cP [.tmp 6, .tmp 7] rfl rfl rfl rfl (szAffs_fn x.1 hl o1 o2) rfl) ?_
  refine .cons (.asg rfl rfl) ?_
  refine .nil ?_
  refine ks_n ?_
  refine ACode.seq ?_
  refine ACode.seq ?_
  refine ACode.region ?_
  refine .cons (.mv rfl rfl) ?_
  refine .cons (.ls rfl rfl rfl) ?_
  refine .nil ?_
  refine ks_n ?_
  refine .cD rfl (fun h10 => ?_) (fun h10 => ?_)
  · skip
    refine ACode.seq ?_
    refine ACode.region ?_
    refine .cons (.asg rfl rfl) ?_
    refine .nil ?_
    refine ks_n ?_
    refine ACode.ret ?_
    refine ks_r ?_
    refine kf_ret rfl ?_ nobox
    exact leafI (subZ_no (by have := subZ_neg h10 hl.1; omega)).symm
  · skip
    refine ACode.skip ?_
    refine ks_n ?_
    refine ACode.seq ?_
    have hp1 := subZ_pos h10
    have hb2 := subZ_bd (n := szAs x.2) (l := subZ l (szAs x.1)) (by omega)
    have e1 := subZ_yes hp1
    refine ACode.region ?_
    refine .cons (.fP 1 0 false rfl rfl) ?_
    refine .cons (.l1 1 rfl rfl) ?_
    refine .cons (.mv rfl rfl) ?_
    refine .cons (.cP [.tmp 12, .tmp 13] rfl rfl rfl rfl (szAffs_fn x.2 (l := subZ l (szAs x.1)) (by omega) o3 o4) rfl) ?_
    refine .cons (.asg rfl rfl) ?_
    refine .nil ?_
    refine ks_n ?_
    refine ACode.seq ?_
    refine ACode.seq ?_
    refine ACode.region ?_
    refine .cons (.mv rfl rfl) ?_
    refine .cons (.ls rfl rfl rfl) ?_
    refine .nil ?_
    refine ks_n ?_
    refine .cD rfl (fun h16 => ?_) (fun h16 => ?_)
    · skip
      refine ACode.seq ?_
      refine ACode.region ?_
      refine .cons (.asg rfl rfl) ?_
      refine .nil ?_
      refine ks_n ?_
      refine ACode.ret ?_
      refine ks_r ?_
      refine kf_ret rfl ?_ nobox
      exact leafI (subZ_no (by have h6 := subZ_neg h16 (by omega); omega)).symm
    · skip
      refine ACode.skip ?_
      refine ks_n ?_
      refine ACode.seq ?_
      refine ACode.region ?_
      refine .cons (.mv rfl rfl) ?_
      refine .cons (.asg rfl rfl) ?_
      refine .nil ?_
      refine ks_n ?_
      refine ACode.ret ?_
      refine kf_ret rfl ?_ nobox
      exact leafI (by have h6 := subZ_pos h16; rw [subZ_yes h6, e1, subZ_yes (l := l) (n := szL x) (by omega)]; omega)

set_option maxRecDepth 100000 in
set_option maxHeartbeats 1600000 in
theorem szLoops_fn (xs : List Lp) {l : Int} (hl : 0 ≤ l ∧ l ≤ 1048576) (hx : xs.length ≤ 17592186044416) (hq : ∀ x ∈ xs, okAs x.1 ∧ okAs x.2) : Fn Tryz.prog 86 [] [vD (dLs xs), nat1 l] (.o (nat1 (subZ l (szLs xs)))) [] := by
  refine Fn.code0 Tryz.func86 rfl rfl rfl rfl ?_
  refine ACode.seq ?_
  refine ACode.region ?_
  refine .cons (.asg rfl rfl) ?_
  refine .nil ?_
  refine ks_n ?_
  refine ACode.seq ?_
  refine ACode.region ?_
  refine .cons (.mv rfl rfl) ?_
  refine .cons (.mv rfl rfl) ?_
  refine .cons (.ln 174 2 48 rfl rfl rfl) ?_
  refine .cons (.sb rfl rfl rfl) ?_
  refine .cons (.asg rfl rfl) ?_
  refine .nil ?_
  refine ks_n ?_
  refine ACode.seq ?_
  refine ACode.seq ?_
  refine ACode.region ?_
  refine .cons (.mv rfl rfl) ?_
  refine .cons (.ls rfl rfl rfl) ?_
  refine .nil ?_
  refine ks_n ?_
  refine .cD rfl (fun h11 => ?_) (fun h11 => ?_)
  · skip
    refine ACode.seq ?_
    refine ACode.region ?_
    refine .cons (.asg rfl rfl) ?_
    refine .nil ?_
    refine ks_n ?_
    refine ACode.ret ?_
    refine ks_r ?_
    refine kf_ret rfl ?_ nobox
    exact leafI (subZ_no (by rw [szLs]; omega)).symm
  · skip
    refine ACode.skip ?_
    refine ks_n ?_
    refine ACode.seq ?_
    refine ACode.seq ?_
    refine ACode.region ?_
    refine .cons (.asg rfl rfl) ?_
    refine .nil ?_
    refine ks_n ?_
    refine ACode.block ?_
    refine .loopK (fun m σ => (∃ i : Nat, m = xs.length - i ∧ (i ≤ xs.length) ∧ (((xs.length + ((xs.take i).map szL).sum : Nat) : Int) ≤ l) ∧ σ = [(.t 0, .v (.o (vD (dLs xs)))), (.t 1, .v (.o (nat1 (l - (xs.length + ((xs.take i).map szL).sum : Nat))))), (.t 4, .v (.o (nat1 0))), (.t 5, .v (.o (nat1 (i : Nat))))])) [] ⟨0, rfl, by omega, by simp; omega, rfl⟩ ⟨ks rfl .dt, ks rfl (.dt (vI (by first | (simp; done) | (rw [hT, subZ_yes (by omega)]; omega)))), ks rfl .dt, ks rfl .dt, trivial⟩ ?_
    rintro m σ ⟨i, hm0, hi, hF, rfl⟩
    refine ACode.seq ?_
    refine ACode.seq ?_
    refine ACode.region ?_
    refine .cons (.mv rfl rfl) ?_
    refine .cons (.mv rfl rfl) ?_
    refine .cons (.ln 174 2 48 rfl rfl rfl) ?_
    refine .cons (.ls rfl rfl rfl) ?_
    refine .nil ?_
    refine ks_n ?_
    refine .cD rfl (fun h15 => ?_) (fun h15 => ?_)
    · skip
      obtain ⟨x, hx1⟩ : ∃ x, xs[i]? = some x := ⟨_, List.getElem?_eq_getElem (by omega)⟩
      have hT := sum_take szL hx1
      refine ACode.skip ?_
      refine ks_n ?_
      refine ACode.seq ?_
      refine ACode.block ?_
      refine ACode.seq ?_
      refine ACode.region ?_
      refine .cons (.mv rfl rfl) ?_
      refine .cons (.mv rfl rfl) ?_
      refine .cons (.xL 174 2 48 rfl rfl rfl rfl rfl) ?_
      refine .cons (.lN 2 rfl rfl rfl) ?_
      refine .cons (.mv rfl rfl) ?_
      refine .cons (.cP [.tmp 21, .tmp 22] rfl rfl rfl rfl (szLoop_fn (l := l - (xs.length + ((xs.take i).map szL).sum : Nat)) (by omega) (hq x (List.mem_of_getElem? hx1))) rfl) ?_
      refine .cons (.asg rfl rfl) ?_
      refine .nil ?_
      refine ks_n ?_
      refine ACode.seq ?_
      refine ACode.region ?_
      refine .cons (.mv rfl rfl) ?_
      refine .cons (.ls rfl rfl rfl) ?_
      refine .nil ?_
      refine ks_n ?_
      refine .cD rfl (fun h25 => ?_) (fun h25 => ?_)
      · skip
        refine ACode.seq ?_
        refine ACode.region ?_
        refine .cons (.asg rfl rfl) ?_
        refine .nil ?_
        refine ks_n ?_
        refine ACode.ret ?_
        refine kb_r ?_
        refine ks_r ?_
        refine kl_r ?_
        refine kb_r ?_
        refine ks_r ?_
        refine kf_ret rfl ?_ nobox
        exact leafI (subZ_no (by have h1 := subZ_neg h25 (by omega); have h2 := sum_take_le szL (l := xs) (i := i + 1); rw [szLs]; omega)).symm
      · skip
        have hP := subZ_pos h25
        refine ACode.skip ?_
        refine kb_n ?_
        refine ks_n ?_
        refine ACode.region ?_
        refine .cons (.mv rfl rfl) ?_
        refine .cons (.pl rfl rfl rfl) ?_
        refine .cons (.asg rfl rfl) ?_
        refine .nil ?_
        refine kl_k [] ⟨i + 1, rfl, by omega, by rw [hT]; have := subZ_pos h25; omega, rfl⟩ ⟨ks rfl .dt, ks rfl (.dt (vI (by first | (simp; done) | (rw [hT, subZ_yes (by omega)]; omega)))), ks rfl .dt, ks rfl .dt, trivial⟩
    · skip
      have hall : xs.take i = xs := List.take_of_length_le (by omega)
      refine ACode.exit ?_
      refine ks_e ?_
      refine kl_e ?_
      refine kb_hit ?_
      refine ks_n ?_
      refine ACode.seq ?_
      refine ACode.region ?_
      refine .cons (.mv rfl rfl) ?_
      refine .cons (.asg rfl rfl) ?_
      refine .nil ?_
      refine ks_n ?_
      refine ACode.ret ?_
      refine kf_ret rfl ?_ nobox
      exact leafI (by rw [subZ_yes (by rw [szLs, ← hall]; rw [hall]; rw [hall] at hF; omega), szLs, hall])

set_option maxRecDepth 100000 in
set_option maxHeartbeats 1600000 in
theorem toLoop_fn {x : Lp} (h : szL x ≤ 1073741824) : Fn Tryz.prog 139 [] [ad (rL x)] (.o (ad (rL x))) [] := by
  have hsz : szL x = szAs x.1 + szAs x.2 := rfl
  have h1 := szAs_len x.1
  have h2 := szAs_len x.2
  refine Fn.code0 Tryz.func139 rfl rfl rfl rfl ?_
  refine ACode.seq ?_
  refine ACode.region ?_
  refine .cons (St1.boxP rfl rfl rfl rfl rfl rfl) ?_
  refine .cons (.al 102 [.slice none 0 0, .slice none 0 0] rfl rfl rfl) ?_
  refine .nil ?_
  refine ks_n ?_
  refine ACode.seq ?_
  refine ACode.region ?_
  refine .cons (.al 103 [.slice none 0 0, .slice none 0 0] rfl rfl rfl) ?_
  refine .nil ?_
  refine ks_n ?_
  refine ACode.seq ?_
  refine ACode.region ?_
  refine .cons (.fP 0 0 false rfl rfl) ?_
  refine .cons (.l1 1 rfl rfl) ?_
  refine .cons (.cP [.tmp 5] rfl rfl rfl rfl (toAffs_fn x.1 (by omega) (fun a ha => by have := szAs_mem ha; omega)) rfl) ?_
  refine .cons (.fB 0 0 false rfl rfl rfl) ?_
  refine .cons (.sT 1 false rfl rfl rfl rfl rfl rfl rfl) ?_
  refine .nil ?_
  refine ks_n ?_
  refine ACode.seq ?_
  refine ACode.region ?_
  refine .cons (.fP 1 0 false rfl rfl) ?_
  refine .cons (.l1 1 rfl rfl) ?_
  refine .cons (.cP [.tmp 9] rfl rfl rfl rfl (toAffs_fn x.2 (by omega) (fun a ha => by have := szAs_mem ha; omega)) rfl) ?_
  refine .cons (.fB 1 0 false rfl rfl rfl) ?_
  refine .cons (.sT 1 false rfl rfl rfl rfl rfl rfl rfl) ?_
  refine .nil ?_
  refine ks_n ?_
  refine ACode.seq ?_
  refine ACode.region ?_
  refine .cons (.bN 2 rfl rfl rfl rfl rfl rfl) ?_
  refine .cons (.sT 2 true rfl rfl rfl rfl rfl rfl rfl) ?_
  refine .nil ?_
  refine ks_n ?_
  refine ACode.ret ?_
  refine kf_ret rfl ?_ nobox
  rfl

set_option maxRecDepth 100000 in
set_option maxHeartbeats 1600000 in
theorem toLoops_fn (xs : List Lp) (hs : szLs xs ≤ 1073741824) (hx : xs.length ≤ 1073741824) : Fn Tryz.prog 95 [] [vD (dLs xs)] (.o (vD (dLs xs))) [] := by
  refine Fn.code0 Tryz.func95 rfl rfl rfl rfl ?_
  refine ACode.seq ?_
  refine ACode.region ?_
  refine .cons (.asg rfl rfl) ?_
  refine .nil ?_
  refine ks_n ?_
  refine ACode.seq ?_
  refine ACode.region ?_
  refine .cons (.mv rfl rfl) ?_
  refine .cons (.ln 174 2 48 rfl rfl rfl) ?_
  refine .cons (.mk 107 192 2 48 [.slice none 0 0, .slice none 0 0] rfl rfl rfl (by omega) rfl rfl) ?_
  refine .cons (.asg rfl rfl) ?_
  refine .nil ?_
  refine ks_n ?_
  refine ACode.seq ?_
  refine ACode.seq ?_
  refine ACode.region ?_
  refine .cons (.asg rfl rfl) ?_
  refine .nil ?_
  refine ks_n ?_
  refine ACode.block ?_
  refine .loopK (fun m σ => (∃ i : Nat, m = xs.length - i ∧ (i ≤ xs.length) ∧ (True) ∧ σ = [(.t 0, .v (.o (vD (dLs xs)))), (.t 2, .v (.o (.c (.d (.val (.slice none 0 0)))))), (.t 3, .v (.o (.c (.own 110 2 (xs.length))))), (.t 4, .v (.o (nat1 (i : Nat)))), (.b 110, .b 192 2 (dR ((xs.take i).map (rL) ++ List.replicate (xs.length - i) [D.val (.slice none 0 0), D.val (.slice none 0 0)]))), (.u 110, .u)])) [(110, 107)] ⟨0, rfl, by omega, trivial, rfl⟩ ⟨ks rfl .dt, ks rfl .dt, ks rfl (.c .ow), ks rfl .dt, kb 107 rfl (.dt rfl (by first | exact fill_new (rL) xs | exact fill_set (rL) hx1 rfl)), trivial⟩ ?_
  rintro m σ ⟨i, hm0, hi, hF, rfl⟩
  refine ACode.seq ?_
  refine ACode.seq ?_
  refine ACode.region ?_
  refine .cons (.mv rfl rfl) ?_
  refine .cons (.mv rfl rfl) ?_
  refine .cons (.ln 174 2 48 rfl rfl rfl) ?_
  refine .cons (.ls rfl rfl rfl) ?_
  refine .nil ?_
  refine ks_n ?_
  refine .cD rfl (fun h11 => ?_) (fun h11 => ?_)
  · skip
    obtain ⟨x, hx1⟩ : ∃ x, xs[i]? = some x := ⟨_, List.getElem?_eq_getElem (by omega)⟩
    refine ACode.skip ?_
    refine ks_n ?_
    refine ACode.seq ?_
    refine ACode.block ?_
    refine ACode.region ?_
    refine .cons (.mv rfl rfl) ?_
    refine .cons (.mv rfl rfl) ?_
    refine .cons (.mv rfl rfl) ?_
    refine .cons (.mv rfl rfl) ?_
    refine .cons (.xL 174 2 48 rfl rfl rfl rfl rfl (map_at hx1)) ?_
    refine .cons (.lN 2 rfl rfl rfl) ?_
    refine .cons (.cP [.tmp 19] rfl rfl rfl rfl (toLoop_fn (by have := szLs_mem (List.mem_of_getElem? hx1); omega)) rfl) ?_
    refine .cons (.xB 192 2 48 rfl rfl rfl rfl rfl rfl (by omega)) ?_
    refine .cons (.sT 2 true rfl rfl rfl rfl (fill_at (by omega)) rfl rfl) ?_
    refine .nil ?_
    refine kb_n ?_
    refine ks_n ?_
    refine ACode.region ?_
    refine .cons (.mv rfl rfl) ?_
    refine .cons (.pl rfl rfl rfl) ?_
    refine .cons (.asg rfl rfl) ?_
    refine .nil ?_
    refine kl_k [(110, 110)] ⟨i + 1, rfl, by omega, trivial, rfl⟩ ⟨ks rfl .dt, ks rfl .dt, ks rfl (.c .ow), ks rfl .dt, kb 110 rfl (.dt rfl (by first | exact fill_new (rL) xs | exact fill_set (rL) hx1 rfl)), trivial⟩
  · skip
    obtain rfl : i = xs.length := by omega
    refine ACode.exit ?_
    refine ks_e ?_
    refine kl_e ?_
    refine kb_hit ?_
    refine ks_n ?_
    refine ACode.seq ?_
    refine ACode.region ?_
    refine .cons (.mv rfl rfl) ?_
    refine .cons (.asg rfl rfl) ?_
    refine .nil ?_
    refine ks_n ?_
    refine ACode.ret ?_
    refine kf_wret [(.t 2, .v (.o (vD (dLs xs))))] (Wk.keep [] rfl rfl ⟨ks rfl (.c (.fz rfl (fill_end (rL) xs) (by simp) (by omega))), trivial⟩) rfl ?_ nobox
    rfl

set_option maxRecDepth 100000 in
set_option maxHeartbeats 1600000 in
theorem eqLoop_fn (x y : Lp) (h : szL x ≤ 1073741824) : Fn Tryz.prog 152 [] [ad (rL x), ad (rL y)] (.o (bo1 (decide (x = y)))) [] := by
  have hsz : szL x = szAs x.1 + szAs x.2 := rfl
  have h1 := szAs_len x.1
  have h2 := szAs_len x.2
  refine Fn.code0 Tryz.func152 rfl rfl rfl rfl ?_
  refine ACode.seq ?_
  refine ACode.region ?_
  refine .cons (St1.boxP rfl rfl rfl rfl rfl rfl) ?_
  refine .cons (St1.boxP rfl rfl rfl rfl rfl rfl) ?_
  refine .cons (.asg rfl rfl) ?_
  refine .nil ?_
  refine ks_n ?_
  refine ACode.seq ?_
  refine ACode.seq ?_
  refine ACode.region ?_
  refine .cons (.fP 0 0 false rfl rfl) ?_
  refine .cons (.l1 1 rfl rfl) ?_
  refine .cons (.fP 0 0 false rfl rfl) ?_
  refine .cons (.l1 1 rfl rfl) ?_
  refine .cons (.cP [.tmp 6, .tmp 8] rfl rfl rfl rfl (eqAffs_fn _ _ (by omega) (fun a ha => by have := szAs_mem ha; omega)) rfl) ?_
  refine .cons (.nt rfl rfl) ?_
  refine .nil ?_
  refine ks_n ?_
  refine ACode.condT rfl (fun h10 => ?_) (fun h10 => ?_)
  · try simp only [List.length_map, decide_eq_true_eq, decide_eq_false_iff_not, Bool.not_eq_true', Bool.not_eq_false', Bool.not_eq_true, Bool.not_eq_false] at h10
    refine ACode.seq ?_
    refine ACode.region ?_
    refine .cons (.asg rfl rfl) ?_
    refine .nil ?_
    refine ks_n ?_
    refine ACode.ret ?_
    refine ks_r ?_
    refine kf_ret rfl ?_ nobox
    exact leafB (by rw [Bool.eq_iff_iff]; simp [Prod.ext_iff, *])
  · try simp only [List.length_map, decide_eq_true_eq, decide_eq_false_iff_not, Bool.not_eq_true', Bool.not_eq_false', Bool.not_eq_true, Bool.not_eq_false] at h10
    refine ACode.skip ?_
    refine ks_n ?_
    refine ACode.seq ?_
    refine ACode.seq ?_
    refine ACode.region ?_
    refine .cons (.fP 1 0 false rfl rfl) ?_
    refine .cons (.l1 1 rfl rfl) ?_
    refine .cons (.fP 1 0 false rfl rfl) ?_
    refine .cons (.l1 1 rfl rfl) ?_
    refine .cons (.cP [.tmp 12, .tmp 14] rfl rfl rfl rfl (eqAffs_fn _ _ (by omega) (fun a ha => by have := szAs_mem ha; omega)) rfl) ?_
    refine .cons (.nt rfl rfl) ?_
    refine .nil ?_
    refine ks_n ?_
    refine ACode.condT rfl (fun h16 => ?_) (fun h16 => ?_)
    · try simp only [List.length_map, decide_eq_true_eq, decide_eq_false_iff_not, Bool.not_eq_true', Bool.not_eq_false', Bool.not_eq_true, Bool.not_eq_false] at h16
      refine ACode.seq ?_
      refine ACode.region ?_
      refine .cons (.asg rfl rfl) ?_
      refine .nil ?_
      refine ks_n ?_
      refine ACode.ret ?_
      refine ks_r ?_
      refine kf_ret rfl ?_ nobox
      exact leafB (by rw [Bool.eq_iff_iff]; simp [Prod.ext_iff, *])
    · try simp only [List.length_map, decide_eq_true_eq, decide_eq_false_iff_not, Bool.not_eq_true', Bool.not_eq_false', Bool.not_eq_true, Bool.not_eq_false] at h16
      refine ACode.skip ?_
      refine ks_n ?_
      refine ACode.seq ?_
      refine ACode.region ?_
      refine .cons (.asg rfl rfl) ?_
      refine .nil ?_
      refine ks_n ?_
      refine ACode.ret ?_
      refine kf_ret rfl ?_ nobox
      exact leafB (by rw [Bool.eq_iff_iff]; simp [Prod.ext_iff, *])

set_option maxRecDepth 100000 in
set_option maxHeartbeats 1600000 in
theorem eqLoops_f (xs ys : List Lp) (hx : xs.length ≤ 1099511627776) (hq : ∀ x ∈ xs, szL x ≤ 1073741824) : Fn Tryz.prog 111 [] [vD (dLs xs), vD (dLs ys)] (.o (bo1 (eqF (fun x y : Lp => decide (x = y)) xs ys))) [] := by
  refine Fn.code0 Tryz.func111 rfl rfl rfl rfl ?_
  refine ACode.seq ?_
  refine ACode.region ?_
  refine .cons (.asg rfl rfl) ?_
  refine .nil ?_
  refine ks_n ?_
  refine ACode.seq ?_
  refine ACode.seq ?_
  refine ACode.region ?_
  refine .cons (.mv rfl rfl) ?_
  refine .cons (.ln 192 2 48 rfl rfl rfl) ?_
  refine .cons (.mv rfl rfl) ?_
  refine .cons (.ln 192 2 48 rfl rfl rfl) ?_
  refine .cons (.ne rfl rfl rfl) ?_
  refine .nil ?_
  refine ks_n ?_
  refine .cND rfl (fun h10 => ?_) (fun h10 => ?_)
  · skip
    refine ACode.seq ?_
    refine ACode.region ?_
    refine .cons (.asg rfl rfl) ?_
    refine .nil ?_
    refine ks_n ?_
    refine ACode.ret ?_
    refine ks_r ?_
    refine kf_ret rfl ?_ nobox
    exact leafB (eqF_len (by omega)).symm
  · skip
    refine ACode.skip ?_
    refine ks_n ?_
    refine ACode.seq ?_
    refine ACode.seq ?_
    refine ACode.region ?_
    refine .cons (.asg rfl rfl) ?_
    refine .nil ?_
    refine ks_n ?_
    refine ACode.block ?_
    refine .loopK (fun m σ => (∃ i : Nat, m = xs.length - i ∧ (i ≤ xs.length) ∧ (eqF (fun x y : Lp => decide (x = y)) xs ys = eqF (fun x y : Lp => decide (x = y)) (xs.drop i) (ys.drop i)) ∧ σ = [(.t 0, .v (.o (vD (dLs xs)))), (.t 1, .v (.o (vD (dLs ys)))), (.t 4, .v (.o (bo1 false))), (.t 5, .v (.o (nat1 (i : Nat))))])) [] ⟨0, rfl, by omega, by simp, rfl⟩ ⟨ks rfl .dt, ks rfl .dt, ks rfl .dt, ks rfl .dt, trivial⟩ ?_
    rintro m σ ⟨i, hm0, hi, hF, rfl⟩
    refine ACode.seq ?_
    refine ACode.seq ?_
    refine ACode.region ?_
    refine .cons (.mv rfl rfl) ?_
    refine .cons (.mv rfl rfl) ?_
    refine .cons (.ln 192 2 48 rfl rfl rfl) ?_
    refine .cons (.ls rfl rfl rfl) ?_
    refine .nil ?_
    refine ks_n ?_
    refine .cD rfl (fun h14 => ?_) (fun h14 => ?_)
    · skip
      obtain ⟨x, hx1⟩ : ∃ x, xs[i]? = some x := ⟨_, List.getElem?_eq_getElem (by omega)⟩
      obtain ⟨y, hy1⟩ : ∃ x, ys[i]? = some x := ⟨_, List.getElem?_eq_getElem (by omega)⟩
      refine ACode.skip ?_
      refine ks_n ?_
      refine ACode.seq ?_
      refine ACode.block ?_
      refine ACode.seq ?_
      refine ACode.drawK (by kernel_rfl) (by kernel_rfl) ?_
      refine .cons (.mv rfl rfl) ?_
      refine .cons (.mv rfl rfl) ?_
      refine .cons (.xL 192 2 48 rfl rfl rfl rfl rfl (map_at hx1)) ?_
      refine .cons (.lN 2 rfl rfl rfl) ?_
      refine .cons (.mv rfl rfl) ?_
      refine .cons (.mv rfl rfl) ?_
      refine .cons (.xL 192 2 48 rfl rfl rfl rfl rfl (map_at hy1)) ?_
      refine .cons (.lN 2 rfl rfl rfl) ?_
      refine .cons (.cP [.tmp 20, .tmp 24] rfl rfl rfl rfl (eqLoop_fn x y (hq x (List.mem_of_getElem? hx1))) rfl) ?_
      refine .cons (.nt rfl rfl) ?_
      refine .nil ⟨by kernel_rfl, ?_⟩
      refine ks_n ?_
      refine ACode.condT rfl (fun h26 => ?_) (fun h26 => ?_)
      · try simp only [List.length_map, decide_eq_true_eq, decide_eq_false_iff_not, Bool.not_eq_true', Bool.not_eq_false', Bool.not_eq_true, Bool.not_eq_false] at h26
        have g : decide (x = y) = false := by first | assumption | exact decide_eq_false (by assumption) | (simp; omega)
        refine ACode.seq ?_
        refine ACode.region ?_
        refine .cons (.asg rfl rfl) ?_
        refine .nil ?_
        refine ks_n ?_
        refine ACode.ret ?_
        refine kb_r ?_
        refine ks_r ?_
        refine kl_r ?_
        refine kb_r ?_
        refine ks_r ?_
        refine kf_ret rfl ?_ nobox
        exact leafB (by rw [hF, eqF_drop hx1 hy1, g]; rfl)
      · try simp only [List.length_map, decide_eq_true_eq, decide_eq_false_iff_not, Bool.not_eq_true', Bool.not_eq_false', Bool.not_eq_true, Bool.not_eq_false] at h26
        have g : decide (x = y) = true := by first | assumption | exact decide_eq_true (by assumption) | (simp; omega)
        refine ACode.skip ?_
        refine kb_n ?_
        refine ks_n ?_
        refine ACode.region ?_
        refine .cons (.mv rfl rfl) ?_
        refine .cons (.pl rfl rfl rfl) ?_
        refine .cons (.asg rfl rfl) ?_
        refine .nil ?_
        refine kl_k [] ⟨i + 1, rfl, by omega, by rw [hF, eqF_drop hx1 hy1, g, Bool.true_and], rfl⟩ ⟨ks rfl .dt, ks rfl .dt, ks rfl .dt, ks rfl .dt, trivial⟩
    · skip
      refine ACode.exit ?_
      refine ks_e ?_
      refine kl_e ?_
      refine kb_hit ?_
      refine ks_n ?_
      refine ACode.seq ?_
      refine ACode.region ?_
      refine .cons (.asg rfl rfl) ?_
      refine .nil ?_
      refine ks_n ?_
      refine ACode.ret ?_
      refine kf_ret rfl ?_ nobox
      exact leafB (by rw [hF, show i = xs.length by omega, eqF_end (by omega)])

theorem eqLoops_fn (xs ys : List Lp) (h : szLs xs ≤ 1073741824) : Fn Tryz.prog 111 [] [vD (dLs xs), vD (dLs ys)] (.o (bo1 (decide (xs = ys)))) [] := by
  have hl := szLs_len xs
  rw [← eqF_dec]; exact eqLoops_f xs ys (by omega) fun x hx => by have := szLs_mem hx; omega

end Go.Proofs.YtplekceinncepaaGreat

/- Arguments of laws: sizes, copies and equality of programs; condition: lists as long as memory lets them be. -/
namespace Go.Proofs.YtplekceinncepaaGreat
set_option linter.unusedVariables false
set_option linter.unusedSimpArgs false
open Go.RowKit

/-- Sizes of lists of data, of programs. -/
def szO {α : Type} (f : α → Nat) (l : List α) : Nat := l.length + (l.map f).sum
theorem mem_sum : ∀ (l : List Nat) (n : Nat), n ∈ l → n ≤ l.sum := by
  intro l
  induction l with
  | nil => intro n h; cases h
  | cons m l ih =>
    intro n h
    rw [List.sum_cons]
    rcases List.mem_cons.1 h with rfl | h
    · omega
    · have := ih n h; omega
theorem szO_mem {α : Type} {f : α → Nat} {l : List α} {a : α} (h : a ∈ l) : l.length + f a ≤ szO f l := by
  rw [szO]
  have := mem_sum _ _ (List.mem_map_of_mem (f := f) h)
  omega
theorem szO_len {α : Type} {f : α → Nat} (l : List α) : l.length ≤ szO f l := Nat.le_add_right _ _
def szR (a : Arr) : Nat := a.1.size + a.2.length
def szPt (p : Prt) : Nat := szLs p.1 + szO szS p.2
def szG (g : Prg) : Nat := szO szR g.1 + szO szPt g.2
def sameP (x y : Prt) : Bool := decide (x.1 = y.1) && eqF sameS x.2 y.2
def sameG (x y : Prg) : Bool := decide (x.1 = y.1) && eqF sameP x.2 y.2
theorem eqF_refl {α : Type} {p : α → α → Bool} (hp : ∀ x, p x x = true) : ∀ l : List α, eqF p l l = true
  | [] => rfl
  | x :: l => by rw [eqF, hp x, eqF_refl hp l]; rfl
theorem sameP_refl (x : Prt) : sameP x x = true := by rw [sameP, eqF_refl (fun s => sameS_iff.2 rfl)]; simp
theorem sameG_refl (x : Prg) : sameG x x = true := by rw [sameG, eqF_refl sameP_refl]; simp

set_option maxRecDepth 100000 in
set_option maxHeartbeats 1600000 in
theorem szArr_fn {x : Arr} {l : Int} (hl : 0 ≤ l ∧ l ≤ 1048576) (ho : okArr x) : Fn Tryz.prog 47 [] [ad (rR x), nat1 l] (.o (nat1 (subZ l (szR x)))) [] := by
  have hsz : szR x = x.1.size + x.2.length := rfl
  have ho1 := ho.1
  have ho2 := ho.2
  refine Fn.code0 Tryz.func47 rfl rfl rfl rfl ?_
  refine ACode.seq ?_
  refine ACode.region ?_
  refine .cons (St1.boxP rfl rfl rfl rfl rfl rfl) ?_
  refine .cons (.asg rfl rfl) ?_
  refine .nil ?_
  refine ks_n ?_
  refine ACode.seq ?_
  refine ACode.region ?_
  refine .cons (.mv rfl rfl) ?_
  refine .cons (.fP 0 0 false rfl rfl) ?_
  refine .cons (.l1 1 rfl rfl) ?_
  refine .cons (St1.lenS rfl rfl rfl rfl rfl (by kernel_rfl) rfl) ?_
  refine .cons (.sb rfl rfl rfl) ?_
  refine .cons (.asg rfl rfl) ?_
  refine .nil ?_
  refine ks_n ?_
  refine ACode.seq ?_
  refine ACode.seq ?_
  refine ACode.region ?_
  refine .cons (.mv rfl rfl) ?_
  refine .cons (.ls rfl rfl rfl) ?_
  refine .nil ?_
  refine ks_n ?_
  refine .cD rfl (fun h11 => ?_) (fun h11 => ?_)
  · skip
    refine ACode.seq ?_
    refine ACode.region ?_
    refine .cons (.asg rfl rfl) ?_
    refine .nil ?_
    refine ks_n ?_
    refine ACode.ret ?_
    refine ks_r ?_
    refine kf_ret rfl ?_ nobox
    exact leafI (subZ_no (by omega)).symm
  · skip
    refine ACode.skip ?_
    refine ks_n ?_
    refine ACode.seq ?_
    have hb := subZ_bd (n := x.2.length) (l := l - (x.1.size : Nat)) (by omega)
    refine ACode.region ?_
    refine .cons (.fP 1 0 false rfl rfl) ?_
    refine .cons (.l1 1 rfl rfl) ?_
    refine .cons (.mv rfl rfl) ?_
    refine .cons (.cP [.tmp 13, .tmp 14] rfl rfl rfl rfl (szInts_fn x.2 (l := l - (x.1.size : Nat)) (by omega) ho.2) rfl) ?_
    refine .cons (.asg rfl rfl) ?_
    refine .nil ?_
    refine ks_n ?_
    refine ACode.seq ?_
    refine ACode.seq ?_
    refine ACode.region ?_
    refine .cons (.mv rfl rfl) ?_
    refine .cons (.ls rfl rfl rfl) ?_
    refine .nil ?_
    refine ks_n ?_
    refine .cD rfl (fun h17 => ?_) (fun h17 => ?_)
    · skip
      refine ACode.seq ?_
      refine ACode.region ?_
      refine .cons (.asg rfl rfl) ?_
      refine .nil ?_
      refine ks_n ?_
      refine ACode.ret ?_
      refine ks_r ?_
      refine kf_ret rfl ?_ nobox
      exact leafI (subZ_no (by have := subZ_neg h17 (by omega); omega)).symm
    · skip
      refine ACode.skip ?_
      refine ks_n ?_
      refine ACode.seq ?_
      refine ACode.region ?_
      refine .cons (.mv rfl rfl) ?_
      refine .cons (.asg rfl rfl) ?_
      refine .nil ?_
      refine ks_n ?_
      refine ACode.ret ?_
      refine kf_ret rfl ?_ nobox
      exact leafI (by have := subZ_pos h17; rw [subZ_yes this, subZ_yes (by omega)]; omega)

set_option maxRecDepth 100000 in
set_option maxHeartbeats 1600000 in
theorem szArrs_fn (xs : List Arr) {l : Int} (hl : 0 ≤ l ∧ l ≤ 1048576) (hx : xs.length ≤ 17592186044416) (hq : ∀ x ∈ xs, okArr x) : Fn Tryz.prog 20 [] [vD (dRs xs), nat1 l] (.o (nat1 (subZ l (szO szR xs)))) [] := by
  refine Fn.code0 Tryz.func20 rfl rfl rfl rfl ?_
  refine ACode.seq ?_
  refine ACode.region ?_
  refine .cons (.asg rfl rfl) ?_
  refine .nil ?_
  refine ks_n ?_
  refine ACode.seq ?_
  refine ACode.region ?_
  refine .cons (.mv rfl rfl) ?_
  refine .cons (.mv rfl rfl) ?_
  refine .cons (.ln 89 2 40 rfl rfl rfl) ?_
  refine .cons (.sb rfl rfl rfl) ?_
  refine .cons (.asg rfl rfl) ?_
  refine .nil ?_
  refine ks_n ?_
  refine ACode.seq ?_
  refine ACode.seq ?_
  refine ACode.region ?_
  refine .cons (.mv rfl rfl) ?_
  refine .cons (.ls rfl rfl rfl) ?_
  refine .nil ?_
  refine ks_n ?_
  refine .cD rfl (fun h11 => ?_) (fun h11 => ?_)
  · skip
    refine ACode.seq ?_
    refine ACode.region ?_
    refine .cons (.asg rfl rfl) ?_
    refine .nil ?_
    refine ks_n ?_
    refine ACode.ret ?_
    refine ks_r ?_
    refine kf_ret rfl ?_ nobox
    exact leafI (subZ_no (by rw [szO]; omega)).symm
  · skip
    refine ACode.skip ?_
    refine ks_n ?_
    refine ACode.seq ?_
    refine ACode.seq ?_
    refine ACode.region ?_
    refine .cons (.asg rfl rfl) ?_
    refine .nil ?_
    refine ks_n ?_
    refine ACode.block ?_
    refine .loopK (fun m σ => (∃ i : Nat, m = xs.length - i ∧ (i ≤ xs.length) ∧ (((xs.length + ((xs.take i).map szR).sum : Nat) : Int) ≤ l) ∧ σ = [(.t 0, .v (.o (vD (dRs xs)))), (.t 1, .v (.o (nat1 (l - (xs.length + ((xs.take i).map szR).sum : Nat))))), (.t 4, .v (.o (nat1 0))), (.t 5, .v (.o (nat1 (i : Nat))))])) [] ⟨0, rfl, by omega, by simp; omega, rfl⟩ ⟨ks rfl .dt, ks rfl (.dt (vI (by first | (simp; done) | (rw [hT, subZ_yes (by omega)]; omega)))), ks rfl .dt, ks rfl .dt, trivial⟩ ?_
    rintro m σ ⟨i, hm0, hi, hF, rfl⟩
    refine ACode.seq ?_
    refine ACode.seq ?_
    refine ACode.region ?_
    refine .cons (.mv rfl rfl) ?_
    refine .cons (.mv rfl rfl) ?_
    refine .cons (.ln 89 2 40 rfl rfl rfl) ?_
    refine .cons (.ls rfl rfl rfl) ?_
    refine .nil ?_
    refine ks_n ?_
    refine .cD rfl (fun h15 => ?_) (fun h15 => ?_)
    · skip
      obtain ⟨x, hx1⟩ : ∃ x, xs[i]? = some x := ⟨_, List.getElem?_eq_getElem (by omega)⟩
      have hT := sum_take szR hx1
      refine ACode.skip ?_
      refine ks_n ?_
      refine ACode.seq ?_
      refine ACode.block ?_
      refine ACode.seq ?_
      refine ACode.region ?_
      refine .cons (.mv rfl rfl) ?_
      refine .cons (.mv rfl rfl) ?_
      refine .cons (.xL 89 2 40 rfl rfl rfl rfl rfl) ?_
      refine .cons (.lN 2 rfl rfl rfl) ?_
      refine .cons (.mv rfl rfl) ?_
      refine .cons (.cP [.tmp 21, .tmp 22] rfl rfl rfl rfl (szArr_fn (l := (l - (xs.length + ((xs.take i).map szR).sum : Nat))) (by omega) (hq x (List.mem_of_getElem? hx1))) rfl) ?_
      refine .cons (.asg rfl rfl) ?_
      refine .nil ?_
      refine ks_n ?_
      refine ACode.seq ?_
      refine ACode.region ?_
      refine .cons (.mv rfl rfl) ?_
      refine .cons (.ls rfl rfl rfl) ?_
      refine .nil ?_
      refine ks_n ?_
      refine .cD rfl (fun h25 => ?_) (fun h25 => ?_)
      · skip
        refine ACode.seq ?_
        refine ACode.region ?_
        refine .cons (.asg rfl rfl) ?_
        refine .nil ?_
        refine ks_n ?_
        refine ACode.ret ?_
        refine kb_r ?_
        refine ks_r ?_
        refine kl_r ?_
        refine kb_r ?_
        refine ks_r ?_
        refine kf_ret rfl ?_ nobox
        exact leafI (subZ_no (by have h1 := subZ_neg h25 (by omega); have h2 := sum_take_le szR (l := xs) (i := i + 1); rw [szO]; omega)).symm
      · skip
        have hP := subZ_pos h25
        refine ACode.skip ?_
        refine kb_n ?_
        refine ks_n ?_
        refine ACode.region ?_
        refine .cons (.mv rfl rfl) ?_
        refine .cons (.pl rfl rfl rfl) ?_
        refine .cons (.asg rfl rfl) ?_
        refine .nil ?_
        refine kl_k [] ⟨i + 1, rfl, by omega, by rw [hT]; have := subZ_pos h25; omega, rfl⟩ ⟨ks rfl .dt, ks rfl (.dt (vI (by first | (simp; done) | (rw [hT, subZ_yes (by omega)]; omega)))), ks rfl .dt, ks rfl .dt, trivial⟩
    · skip
      have hall : xs.take i = xs := List.take_of_length_le (by omega)
      refine ACode.exit ?_
      refine ks_e ?_
      refine kl_e ?_
      refine kb_hit ?_
      refine ks_n ?_
      refine ACode.seq ?_
      refine ACode.region ?_
      refine .cons (.mv rfl rfl) ?_
      refine .cons (.asg rfl rfl) ?_
      refine .nil ?_
      refine ks_n ?_
      refine ACode.ret ?_
      refine kf_ret rfl ?_ nobox
      exact leafI (by rw [subZ_yes (by rw [szO, ← hall]; rw [hall]; rw [hall] at hF; omega), szO, hall])

set_option maxRecDepth 100000 in
set_option maxHeartbeats 1600000 in
theorem szStms_fn (xs : List Stm) {l : Int} (hl : 0 ≤ l ∧ l ≤ 1048576) (hx : xs.length ≤ 17592186044416) (hq : ∀ x ∈ xs, okS x) : Fn Tryz.prog 87 [] [vD (dMs xs), nat1 l] (.o (nat1 (subZ l (szO szS xs)))) [] := by
  refine Fn.code0 Tryz.func87 rfl rfl rfl rfl ?_
  refine ACode.seq ?_
  refine ACode.region ?_
  refine .cons (.asg rfl rfl) ?_
  refine .nil ?_
  refine ks_n ?_
  refine ACode.seq ?_
  refine ACode.region ?_
  refine .cons (.mv rfl rfl) ?_
  refine .cons (.mv rfl rfl) ?_
  refine .cons (.ln 183 9 152 rfl rfl rfl) ?_
  refine .cons (.sb rfl rfl rfl) ?_
  refine .cons (.asg rfl rfl) ?_
  refine .nil ?_
  refine ks_n ?_
  refine ACode.seq ?_
  refine ACode.seq ?_
  refine ACode.region ?_
  refine .cons (.mv rfl rfl) ?_
  refine .cons (.ls rfl rfl rfl) ?_
  refine .nil ?_
  refine ks_n ?_
  refine .cD rfl (fun h11 => ?_) (fun h11 => ?_)
  · skip
    refine ACode.seq ?_
    refine ACode.region ?_
    refine .cons (.asg rfl rfl) ?_
    refine .nil ?_
    refine ks_n ?_
    refine ACode.ret ?_
    refine ks_r ?_
    refine kf_ret rfl ?_ nobox
    exact leafI (subZ_no (by rw [szO]; omega)).symm
  · skip
    refine ACode.skip ?_
    refine ks_n ?_
    refine ACode.seq ?_
    refine ACode.seq ?_
    refine ACode.region ?_
    refine .cons (.asg rfl rfl) ?_
    refine .nil ?_
    refine ks_n ?_
    refine ACode.block ?_
    refine .loopK (fun m σ => (∃ i : Nat, m = xs.length - i ∧ (i ≤ xs.length) ∧ (((xs.length + ((xs.take i).map szS).sum : Nat) : Int) ≤ l) ∧ σ = [(.t 0, .v (.o (vD (dMs xs)))), (.t 1, .v (.o (nat1 (l - (xs.length + ((xs.take i).map szS).sum : Nat))))), (.t 4, .v (.o (nat1 0))), (.t 5, .v (.o (nat1 (i : Nat))))])) [] ⟨0, rfl, by omega, by simp; omega, rfl⟩ ⟨ks rfl .dt, ks rfl (.dt (vI (by first | (simp; done) | (rw [hT, subZ_yes (by omega)]; omega)))), ks rfl .dt, ks rfl .dt, trivial⟩ ?_
    rintro m σ ⟨i, hm0, hi, hF, rfl⟩
    refine ACode.seq ?_
    refine ACode.seq ?_
    refine ACode.region ?_
    refine .cons (.mv rfl rfl) ?_
    refine .cons (.mv rfl rfl) ?_
    refine .cons (.ln 183 9 152 rfl rfl rfl) ?_
    refine .cons (.ls rfl rfl rfl) ?_
    refine .nil ?_
    refine ks_n ?_
    refine .cD rfl (fun h15 => ?_) (fun h15 => ?_)
    · skip
      obtain ⟨x, hx1⟩ : ∃ x, xs[i]? = some x := ⟨_, List.getElem?_eq_getElem (by omega)⟩
      have hT := sum_take szS hx1
      refine ACode.skip ?_
      refine ks_n ?_
      refine ACode.seq ?_
      refine ACode.block ?_
      refine ACode.seq ?_
      refine ACode.region ?_
      refine .cons (.mv rfl rfl) ?_
      refine .cons (.mv rfl rfl) ?_
      refine .cons (.xL 183 9 152 rfl rfl rfl rfl rfl) ?_
      refine .cons (.lN 9 rfl rfl rfl) ?_
      refine .cons (.mv rfl rfl) ?_
      refine .cons (.cP [.tmp 21, .tmp 22] rfl rfl rfl rfl (szStm_fn (l := (l - (xs.length + ((xs.take i).map szS).sum : Nat))) (hq x (List.mem_of_getElem? hx1)) (by omega)) rfl) ?_
      refine .cons (.asg rfl rfl) ?_
      refine .nil ?_
      refine ks_n ?_
      refine ACode.seq ?_
      refine ACode.region ?_
      refine .cons (.mv rfl rfl) ?_
      refine .cons (.ls rfl rfl rfl) ?_
      refine .nil ?_
      refine ks_n ?_
      refine .cD rfl (fun h25 => ?_) (fun h25 => ?_)
      · skip
        refine ACode.seq ?_
        refine ACode.region ?_
        refine .cons (.asg rfl rfl) ?_
        refine .nil ?_
        refine ks_n ?_
        refine ACode.ret ?_
        refine kb_r ?_
        refine ks_r ?_
        refine kl_r ?_
        refine kb_r ?_
        refine ks_r ?_
        refine kf_ret rfl ?_ nobox
        exact leafI (subZ_no (by have h1 := subZ_neg h25 (by omega); have h2 := sum_take_le szS (l := xs) (i := i + 1); rw [szO]; omega)).symm
      · skip
        have hP := subZ_pos h25
        refine ACode.skip ?_
        refine kb_n ?_
        refine ks_n ?_
        refine ACode.region ?_
        refine .cons (.mv rfl rfl) ?_
        refine .cons (.pl rfl rfl rfl) ?_
        refine .cons (.asg rfl rfl) ?_
        refine .nil ?_
        refine kl_k [] ⟨i + 1, rfl, by omega, by rw [hT]; have := subZ_pos h25; omega, rfl⟩ ⟨ks rfl .dt, ks rfl (.dt (vI (by first | (simp; done) | (rw [hT, subZ_yes (by omega)]; omega)))), ks rfl .dt, ks rfl .dt, trivial⟩
    · skip
      have hall : xs.take i = xs := List.take_of_length_le (by omega)
      refine ACode.exit ?_
      refine ks_e ?_
      refine kl_e ?_
      refine kb_hit ?_
      refine ks_n ?_
      refine ACode.seq ?_
      refine ACode.region ?_
      refine .cons (.mv rfl rfl) ?_
      refine .cons (.asg rfl rfl) ?_
      refine .nil ?_
      refine ks_n ?_
      refine ACode.ret ?_
      refine kf_ret rfl ?_ nobox
      exact leafI (by rw [subZ_yes (by rw [szO, ← hall]; rw [hall]; rw [hall] at hF; omega), szO, hall])

set_option maxRecDepth 100000 in
set_option maxHeartbeats 1600000 in
theorem szPt_fn {x : Prt} {l : Int} (hl : 0 ≤ l ∧ l ≤ 1048576) (ho : okPrt x) : Fn Tryz.prog 48 [] [ad (rP x), nat1 l] (.o (nat1 (subZ l (szPt x)))) [] := by
  have hsz : szPt x = szLs x.1 + szO szS x.2 := rfl
  have hb1 := subZ_bd (n := szLs x.1) hl
  obtain ⟨⟨o1, o2⟩, o3, o4⟩ := ho
  refine Fn.code0 Tryz.func48 rfl rfl rfl rfl ?_
  refine ACode.seq ?_
  refine ACode.region ?_
  refine .cons (St1.boxP rfl rfl rfl rfl rfl rfl) ?_
  refine .cons (.asg rfl rfl) ?_
  refine .nil ?_
  refine ks_n ?_
  refine ACode.seq ?_
  refine ACode.region ?_
  refine .cons (.fP 0 0 false rfl rfl) ?_
  refine .cons (.l1 1 rfl rfl) ?_
  refine .cons (.mv rfl rfl) ?_
  refine .cons (.cP [.tmp 6, .tmp 7] rfl rfl rfl rfl (szLoops_fn x.1 hl o1 o2) rfl) ?_
  refine .cons (.asg rfl rfl) ?_
  refine .nil ?_
  refine ks_n ?_
  refine ACode.seq ?_
  refine ACode.seq ?_
  refine ACode.region ?_
  refine .cons (.mv rfl rfl) ?_
  refine .cons (.ls rfl rfl rfl) ?_
  refine .nil ?_
  refine ks_n ?_
  refine .cD rfl (fun h10 => ?_) (fun h10 => ?_)
  · skip
    refine ACode.seq ?_
    refine ACode.region ?_
    refine .cons (.asg rfl rfl) ?_
    refine .nil ?_
    refine ks_n ?_
    refine ACode.ret ?_
    refine ks_r ?_
    refine kf_ret rfl ?_ nobox
    exact leafI (subZ_no (by have := subZ_neg h10 hl.1; omega)).symm
  · skip
    refine ACode.skip ?_
    refine ks_n ?_
    refine ACode.seq ?_
    have hp1 := subZ_pos h10
    have hb2 := subZ_bd (n := szO szS x.2) (l := subZ l (szLs x.1)) (by omega)
    have e1 := subZ_yes hp1
    refine ACode.region ?_
    refine .cons (.fP 1 0 false rfl rfl) ?_
    refine .cons (.l1 1 rfl rfl) ?_
    refine .cons (.mv rfl rfl) ?_
    refine .cons (.cP [.tmp 12, .tmp 13] rfl rfl rfl rfl (szStms_fn x.2 (l := subZ l (szLs x.1)) (by omega) o3 o4) rfl) ?_
    refine .cons (.asg rfl rfl) ?_
    refine .nil ?_
    refine ks_n ?_
    refine ACode.seq ?_
    refine ACode.seq ?_
    refine ACode.region ?_
    refine .cons (.mv rfl rfl) ?_
    refine .cons (.ls rfl rfl rfl) ?_
    refine .nil ?_
    refine ks_n ?_
    refine .cD rfl (fun h16 => ?_) (fun h16 => ?_)
    · skip
      refine ACode.seq ?_
      refine ACode.region ?_
      refine .cons (.asg rfl rfl) ?_
      refine .nil ?_
      refine ks_n ?_
      refine ACode.ret ?_
      refine ks_r ?_
      refine kf_ret rfl ?_ nobox
      exact leafI (subZ_no (by have h6 := subZ_neg h16 (by omega); omega)).symm
    · skip
      refine ACode.skip ?_
      refine ks_n ?_
      refine ACode.seq ?_
      refine ACode.region ?_
      refine .cons (.mv rfl rfl) ?_
      refine .cons (.asg rfl rfl) ?_
      refine .nil ?_
      refine ks_n ?_
      refine ACode.ret ?_
      refine kf_ret rfl ?_ nobox
      exact leafI (by have h6 := subZ_pos h16; rw [subZ_yes h6, e1, subZ_yes (l := l) (n := szPt x) (by omega)]; omega)

set_option maxRecDepth 100000 in
set_option maxHeartbeats 1600000 in
theorem szPts_fn (xs : List Prt) {l : Int} (hl : 0 ≤ l ∧ l ≤ 1048576) (hx : xs.length ≤ 17592186044416) (hq : ∀ x ∈ xs, okPrt x) : Fn Tryz.prog 21 [] [vD (dPts xs), nat1 l] (.o (nat1 (subZ l (szO szPt xs)))) [] := by
  refine Fn.code0 Tryz.func21 rfl rfl rfl rfl ?_
  refine ACode.seq ?_
  refine ACode.region ?_
  refine .cons (.asg rfl rfl) ?_
  refine .nil ?_
  refine ks_n ?_
  refine ACode.seq ?_
  refine ACode.region ?_
  refine .cons (.mv rfl rfl) ?_
  refine .cons (.mv rfl rfl) ?_
  refine .cons (.ln 94 2 48 rfl rfl rfl) ?_
  refine .cons (.sb rfl rfl rfl) ?_
  refine .cons (.asg rfl rfl) ?_
  refine .nil ?_
  refine ks_n ?_
  refine ACode.seq ?_
  refine ACode.seq ?_
  refine ACode.region ?_
  refine .cons (.mv rfl rfl) ?_
  refine .cons (.ls rfl rfl rfl) ?_
  refine .nil ?_
  refine ks_n ?_
  refine .cD rfl (fun h11 => ?_) (fun h11 => ?_)
  · skip
    refine ACode.seq ?_
    refine ACode.region ?_
    refine .cons (.asg rfl rfl) ?_
    refine .nil ?_
    refine ks_n ?_
    refine ACode.ret ?_
    refine ks_r ?_
    refine kf_ret rfl ?_ nobox
    exact leafI (subZ_no (by rw [szO]; omega)).symm
  · skip
    refine ACode.skip ?_
    refine ks_n ?_
    refine ACode.seq ?_
    refine ACode.seq ?_
    refine ACode.region ?_
    refine .cons (.asg rfl rfl) ?_
    refine .nil ?_
    refine ks_n ?_
    refine ACode.block ?_
    refine .loopK (fun m σ => (∃ i : Nat, m = xs.length - i ∧ (i ≤ xs.length) ∧ (((xs.length + ((xs.take i).map szPt).sum : Nat) : Int) ≤ l) ∧ σ = [(.t 0, .v (.o (vD (dPts xs)))), (.t 1, .v (.o (nat1 (l - (xs.length + ((xs.take i).map szPt).sum : Nat))))), (.t 4, .v (.o (nat1 0))), (.t 5, .v (.o (nat1 (i : Nat))))])) [] ⟨0, rfl, by omega, by simp; omega, rfl⟩ ⟨ks rfl .dt, ks rfl (.dt (vI (by first | (simp; done) | (rw [hT, subZ_yes (by omega)]; omega)))), ks rfl .dt, ks rfl .dt, trivial⟩ ?_
    rintro m σ ⟨i, hm0, hi, hF, rfl⟩
    refine ACode.seq ?_
    refine ACode.seq ?_
    refine ACode.region ?_
    refine .cons (.mv rfl rfl) ?_
    refine .cons (.mv rfl rfl) ?_
    refine .cons (.ln 94 2 48 rfl rfl rfl) ?_
    refine .cons (.ls rfl rfl rfl) ?_
    refine .nil ?_
    refine ks_n ?_
    refine .cD rfl (fun h15 => ?_) (fun h15 => ?_)
    · skip
      obtain ⟨x, hx1⟩ : ∃ x, xs[i]? = some x := ⟨_, List.getElem?_eq_getElem (by omega)⟩
      have hT := sum_take szPt hx1
      refine ACode.skip ?_
      refine ks_n ?_
      refine ACode.seq ?_
      refine ACode.block ?_
      refine ACode.seq ?_
      refine ACode.region ?_
      refine .cons (.mv rfl rfl) ?_
      refine .cons (.mv rfl rfl) ?_
      refine .cons (.xL 94 2 48 rfl rfl rfl rfl rfl) ?_
      refine .cons (.lN 2 rfl rfl rfl) ?_
      refine .cons (.mv rfl rfl) ?_
      refine .cons (.cP [.tmp 21, .tmp 22] rfl rfl rfl rfl (szPt_fn (l := (l - (xs.length + ((xs.take i).map szPt).sum : Nat))) (by omega) (hq x (List.mem_of_getElem? hx1))) rfl) ?_
      refine .cons (.asg rfl rfl) ?_
      refine .nil ?_
      refine ks_n ?_
      refine ACode.seq ?_
      refine ACode.region ?_
      refine .cons (.mv rfl rfl) ?_
      refine .cons (.ls rfl rfl rfl) ?_
      refine .nil ?_
      refine ks_n ?_
      refine .cD rfl (fun h25 => ?_) (fun h25 => ?_)
      · skip
        refine ACode.seq ?_
        refine ACode.region ?_
        refine .cons (.asg rfl rfl) ?_
        refine .nil ?_
        refine ks_n ?_
        refine ACode.ret ?_
        refine kb_r ?_
        refine ks_r ?_
        refine kl_r ?_
        refine kb_r ?_
        refine ks_r ?_
        refine kf_ret rfl ?_ nobox
        exact leafI (subZ_no (by have h1 := subZ_neg h25 (by omega); have h2 := sum_take_le szPt (l := xs) (i := i + 1); rw [szO]; omega)).symm
      · skip
        have hP := subZ_pos h25
        refine ACode.skip ?_
        refine kb_n ?_
        refine ks_n ?_
        refine ACode.region ?_
        refine .cons (.mv rfl rfl) ?_
        refine .cons (.pl rfl rfl rfl) ?_
        refine .cons (.asg rfl rfl) ?_
        refine .nil ?_
        refine kl_k [] ⟨i + 1, rfl, by omega, by rw [hT]; have := subZ_pos h25; omega, rfl⟩ ⟨ks rfl .dt, ks rfl (.dt (vI (by first | (simp; done) | (rw [hT, subZ_yes (by omega)]; omega)))), ks rfl .dt, ks rfl .dt, trivial⟩
    · skip
      have hall : xs.take i = xs := List.take_of_length_le (by omega)
      refine ACode.exit ?_
      refine ks_e ?_
      refine kl_e ?_
      refine kb_hit ?_
      refine ks_n ?_
      refine ACode.seq ?_
      refine ACode.region ?_
      refine .cons (.mv rfl rfl) ?_
      refine .cons (.asg rfl rfl) ?_
      refine .nil ?_
      refine ks_n ?_
      refine ACode.ret ?_
      refine kf_ret rfl ?_ nobox
      exact leafI (by rw [subZ_yes (by rw [szO, ← hall]; rw [hall]; rw [hall] at hF; omega), szO, hall])

set_option maxRecDepth 100000 in
set_option maxHeartbeats 1600000 in
theorem szPrg_fn {x : Prg} {l : Int} (hl : 0 ≤ l ∧ l ≤ 1048576) (ho : okPrg x) : Fn Tryz.prog 7 [] [ad (rG x), nat1 l] (.o (nat1 (subZ l (szG x)))) [] := by
  have hsz : szG x = szO szR x.1 + szO szPt x.2 := rfl
  have hb1 := subZ_bd (n := szO szR x.1) hl
  obtain ⟨⟨o1, o2⟩, o3, o4⟩ := ho
  refine Fn.code0 Tryz.func7 rfl rfl rfl rfl ?_
  refine ACode.seq ?_
  refine ACode.region ?_
  refine .cons (St1.boxP rfl rfl rfl rfl rfl rfl) ?_
  refine .cons (.asg rfl rfl) ?_
  refine .nil ?_
  refine ks_n ?_
  refine ACode.seq ?_
  refine ACode.region ?_
  refine .cons (.fP 0 0 false rfl rfl) ?_
  refine .cons (.l1 1 rfl rfl) ?_
  refine .cons (.mv rfl rfl) ?_
  refine .cons (.cP [.tmp 6, .tmp 7] rfl rfl rfl rfl (szArrs_fn x.1 hl o1 o2) rfl) ?_
  refine .cons (.asg rfl rfl) ?_
  refine .nil ?_
  refine ks_n ?_
  refine ACode.seq ?_
  refine ACode.seq ?_
  refine ACode.region ?_
  refine .cons (.mv rfl rfl) ?_
  refine .cons (.ls rfl rfl rfl) ?_
  refine .nil ?_
  refine ks_n ?_
  refine .cD rfl (fun h10 => ?_) (fun h10 => ?_)
  · skip
    refine ACode.seq ?_
    refine ACode.region ?_
    refine .cons (.asg rfl rfl) ?_
    refine .nil ?_
    refine ks_n ?_
    refine ACode.ret ?_
    refine ks_r ?_
    refine kf_ret rfl ?_ nobox
    exact leafI (subZ_no (by have := subZ_neg h10 hl.1; omega)).symm
  · skip
    refine ACode.skip ?_
    refine ks_n ?_
    refine ACode.seq ?_
    have hp1 := subZ_pos h10
    have hb2 := subZ_bd (n := szO szPt x.2) (l := subZ l (szO szR x.1)) (by omega)
    have e1 := subZ_yes hp1
    refine ACode.region ?_
    refine .cons (.fP 1 0 false rfl rfl) ?_
    refine .cons (.l1 1 rfl rfl) ?_
    refine .cons (.mv rfl rfl) ?_
    refine .cons (.cP [.tmp 12, .tmp 13] rfl rfl rfl rfl (szPts_fn x.2 (l := subZ l (szO szR x.1)) (by omega) o3 o4) rfl) ?_
    refine .cons (.asg rfl rfl) ?_
    refine .nil ?_
    refine ks_n ?_
    refine ACode.seq ?_
    refine ACode.seq ?_
    refine ACode.region ?_
    refine .cons (.mv rfl rfl) ?_
    refine .cons (.ls rfl rfl rfl) ?_
    refine .nil ?_
    refine ks_n ?_
    refine .cD rfl (fun h16 => ?_) (fun h16 => ?_)
    · skip
      refine ACode.seq ?_
      refine ACode.region ?_
      refine .cons (.asg rfl rfl) ?_
      refine .nil ?_
      refine ks_n ?_
      refine ACode.ret ?_
      refine ks_r ?_
      refine kf_ret rfl ?_ nobox
      exact leafI (subZ_no (by have h6 := subZ_neg h16 (by omega); omega)).symm
    · skip
      refine ACode.skip ?_
      refine ks_n ?_
      refine ACode.seq ?_
      refine ACode.region ?_
      refine .cons (.mv rfl rfl) ?_
      refine .cons (.asg rfl rfl) ?_
      refine .nil ?_
      refine ks_n ?_
      refine ACode.ret ?_
      refine kf_ret rfl ?_ nobox
      exact leafI (by have h6 := subZ_pos h16; rw [subZ_yes h6, e1, subZ_yes (l := l) (n := szG x) (by omega)]; omega)

set_option maxRecDepth 100000 in
set_option maxHeartbeats 1600000 in
theorem toArr_fn {a : Arr} (h : szR a ≤ 1073741824) : Fn Tryz.prog 53 [] [ad (rR a)] (.o (ad (rR a))) [] := by
  rw [szR] at h
  refine Fn.code0 Tryz.func53 rfl rfl rfl rfl ?_
  refine ACode.seq ?_
  refine ACode.region ?_
  refine .cons (St1.boxP rfl rfl rfl rfl rfl rfl) ?_
  refine .cons (.al 102 [.string ByteArray.empty, .slice none 0 0] rfl rfl rfl) ?_
  refine .nil ?_
  refine ks_n ?_
  refine ACode.seq ?_
  refine ACode.region ?_
  refine .cons (.al 103 [.string ByteArray.empty, .slice none 0 0] rfl rfl rfl) ?_
  refine .nil ?_
  refine ks_n ?_
  refine ACode.seq ?_
  refine ACode.region ?_
  refine .cons (.fP 0 0 false rfl rfl) ?_
  refine .cons (.l1 1 rfl rfl) ?_
  refine .cons (.fB 0 0 false rfl rfl rfl) ?_
  refine .cons (.sT 1 false rfl rfl rfl rfl rfl rfl rfl) ?_
  refine .nil ?_
  refine ks_n ?_
  refine ACode.seq ?_
  refine ACode.region ?_
  refine .cons (.fP 1 0 false rfl rfl) ?_
  refine .cons (.l1 1 rfl rfl) ?_
  refine .cons (.cP [.tmp 8] rfl rfl rfl rfl (toInts_fn a.2 (by omega)) rfl) ?_
  refine .cons (.fB 1 0 false rfl rfl rfl) ?_
  refine .cons (.sT 1 false rfl rfl rfl rfl rfl rfl rfl) ?_
  refine .nil ?_
  refine ks_n ?_
  refine ACode.seq ?_
  refine ACode.region ?_
  refine .cons (.bN 2 rfl rfl rfl rfl rfl rfl) ?_
  refine .cons (.sT 2 true rfl rfl rfl rfl rfl rfl rfl) ?_
  refine .nil ?_
  refine ks_n ?_
  refine ACode.ret ?_
  refine kf_ret rfl ?_ nobox
  rfl

set_option maxRecDepth 100000 in
set_option maxHeartbeats 1600000 in
theorem toArrs_fn (xs : List Arr) (hs : szO szR xs ≤ 1073741824) (hx : xs.length ≤ 1073741824) : Fn Tryz.prog 24 [] [vD (dRs xs)] (.o (vD (dRs xs))) [] := by
  refine Fn.code0 Tryz.func24 rfl rfl rfl rfl ?_
  refine ACode.seq ?_
  refine ACode.region ?_
  refine .cons (.asg rfl rfl) ?_
  refine .nil ?_
  refine ks_n ?_
  refine ACode.seq ?_
  refine ACode.region ?_
  refine .cons (.mv rfl rfl) ?_
  refine .cons (.ln 89 2 40 rfl rfl rfl) ?_
  refine .cons (.mk 107 103 2 40 [.string ByteArray.empty, .slice none 0 0] rfl rfl rfl (by omega) rfl rfl) ?_
  refine .cons (.asg rfl rfl) ?_
  refine .nil ?_
  refine ks_n ?_
  refine ACode.seq ?_
  refine ACode.seq ?_
  refine ACode.region ?_
  refine .cons (.asg rfl rfl) ?_
  refine .nil ?_
  refine ks_n ?_
  refine ACode.block ?_
  refine .loopK (fun m σ => (∃ i : Nat, m = xs.length - i ∧ (i ≤ xs.length) ∧ (True) ∧ σ = [(.t 0, .v (.o (vD (dRs xs)))), (.t 2, .v (.o (.c (.d (.val (.slice none 0 0)))))), (.t 3, .v (.o (.c (.own 110 2 (xs.length))))), (.t 4, .v (.o (nat1 (i : Nat)))), (.b 110, .b 103 2 (dR ((xs.take i).map (rR) ++ List.replicate (xs.length - i) [dS ByteArray.empty, .val (.slice none 0 0)]))), (.u 110, .u)])) [(110, 107)] ⟨0, rfl, by omega, trivial, rfl⟩ ⟨ks rfl .dt, ks rfl .dt, ks rfl (.c .ow), ks rfl .dt, kb 107 rfl (.dt rfl (by first | exact fill_new (rR) xs | exact fill_set (rR) hx1 rfl)), trivial⟩ ?_
  rintro m σ ⟨i, hm0, hi, hF, rfl⟩
  refine ACode.seq ?_
  refine ACode.seq ?_
  refine ACode.region ?_
  refine .cons (.mv rfl rfl) ?_
  refine .cons (.mv rfl rfl) ?_
  refine .cons (.ln 89 2 40 rfl rfl rfl) ?_
  refine .cons (.ls rfl rfl rfl) ?_
  refine .nil ?_
  refine ks_n ?_
  refine .cD rfl (fun h11 => ?_) (fun h11 => ?_)
  · skip
    obtain ⟨x, hx1⟩ : ∃ x, xs[i]? = some x := ⟨_, List.getElem?_eq_getElem (by omega)⟩
    refine ACode.skip ?_
    refine ks_n ?_
    refine ACode.seq ?_
    refine ACode.block ?_
    refine ACode.region ?_
    refine .cons (.mv rfl rfl) ?_
    refine .cons (.mv rfl rfl) ?_
    refine .cons (.mv rfl rfl) ?_
    refine .cons (.mv rfl rfl) ?_
    refine .cons (.xL 89 2 40 rfl rfl rfl rfl rfl (map_at hx1)) ?_
    refine .cons (.lN 2 rfl rfl rfl) ?_
    refine .cons (.cP [.tmp 19] rfl rfl rfl rfl (toArr_fn (by have := szO_mem (f := szR) (List.mem_of_getElem? hx1); omega)) rfl) ?_
    refine .cons (.xB 103 2 40 rfl rfl rfl rfl rfl rfl (by omega)) ?_
    refine .cons (.sT 2 true rfl rfl rfl rfl (fill_at (by omega)) rfl rfl) ?_
    refine .nil ?_
    refine kb_n ?_
    refine ks_n ?_
    refine ACode.region ?_
    refine .cons (.mv rfl rfl) ?_
    refine .cons (.pl rfl rfl rfl) ?_
    refine .cons (.asg rfl rfl) ?_
    refine .nil ?_
    refine kl_k [(110, 110)] ⟨i + 1, rfl, by omega, trivial, rfl⟩ ⟨ks rfl .dt, ks rfl .dt, ks rfl (.c .ow), ks rfl .dt, kb 110 rfl (.dt rfl (by first | exact fill_new (rR) xs | exact fill_set (rR) hx1 rfl)), trivial⟩
  · skip
    obtain rfl : i = xs.length := by omega
    refine ACode.exit ?_
    refine ks_e ?_
    refine kl_e ?_
    refine kb_hit ?_
    refine ks_n ?_
    refine ACode.seq ?_
    refine ACode.region ?_
    refine .cons (.mv rfl rfl) ?_
    refine .cons (.asg rfl rfl) ?_
    refine .nil ?_
    refine ks_n ?_
    refine ACode.ret ?_
    refine kf_wret [(.t 2, .v (.o (vD (dRs xs))))] (Wk.keep [] rfl rfl ⟨ks rfl (.c (.fz rfl (fill_end (rR) xs) (by simp) (by omega))), trivial⟩) rfl ?_ nobox
    rfl

set_option maxRecDepth 100000 in
set_option maxHeartbeats 1600000 in
theorem toStms_fn (xs : List Stm) (hs : szO szS xs ≤ 1073741824) (hx : xs.length ≤ 1073741824) : Fn Tryz.prog 96 [] [vD (dMs xs)] (.o (vD (dMs xs))) [] := by
  refine Fn.code0 Tryz.func96 rfl rfl rfl rfl ?_
  refine ACode.seq ?_
  refine ACode.region ?_
  refine .cons (.asg rfl rfl) ?_
  refine .nil ?_
  refine ks_n ?_
  refine ACode.seq ?_
  refine ACode.region ?_
  refine .cons (.mv rfl rfl) ?_
  refine .cons (.ln 183 9 152 rfl rfl rfl) ?_
  refine .cons (.mk 107 64 9 152 [.string ByteArray.empty, .slice none 0 0, .int .i64 0, .int .i64 0, .slice none 0 0, .int .i64 0, .string ByteArray.empty, .slice none 0 0, .slice none 0 0] rfl rfl rfl (by omega) rfl rfl) ?_
  refine .cons (.asg rfl rfl) ?_
  refine .nil ?_
  refine ks_n ?_
  refine ACode.seq ?_
  refine ACode.seq ?_
  refine ACode.region ?_
  refine .cons (.asg rfl rfl) ?_
  refine .nil ?_
  refine ks_n ?_
  refine ACode.block ?_
  refine .loopK (fun m σ => (∃ i : Nat, m = xs.length - i ∧ (i ≤ xs.length) ∧ (True) ∧ σ = [(.t 0, .v (.o (vD (dMs xs)))), (.t 2, .v (.o (.c (.d (.val (.slice none 0 0)))))), (.t 3, .v (.o (.c (.own 110 9 (xs.length))))), (.t 4, .v (.o (nat1 (i : Nat)))), (.b 110, .b 64 9 (dR ((xs.take i).map (rS) ++ List.replicate (xs.length - i) [dS ByteArray.empty, .val (.slice none 0 0), dI 0, dI 0, .val (.slice none 0 0), dI 0, dS ByteArray.empty, .val (.slice none 0 0), .val (.slice none 0 0)]))), (.u 110, .u)])) [(110, 107)] ⟨0, rfl, by omega, trivial, rfl⟩ ⟨ks rfl .dt, ks rfl .dt, ks rfl (.c .ow), ks rfl .dt, kb 107 rfl (.dt rfl (by first | exact fill_new (rS) xs | exact fill_set (rS) hx1 rfl)), trivial⟩ ?_
  rintro m σ ⟨i, hm0, hi, hF, rfl⟩
  refine ACode.seq ?_
  refine ACode.seq ?_
  refine ACode.region ?_
  refine .cons (.mv rfl rfl) ?_
  refine .cons (.mv rfl rfl) ?_
  refine .cons (.ln 183 9 152 rfl rfl rfl) ?_
  refine .cons (.ls rfl rfl rfl) ?_
  refine .nil ?_
  refine ks_n ?_
  refine .cD rfl (fun h11 => ?_) (fun h11 => ?_)
  · skip
    obtain ⟨x, hx1⟩ : ∃ x, xs[i]? = some x := ⟨_, List.getElem?_eq_getElem (by omega)⟩
    refine ACode.skip ?_
    refine ks_n ?_
    refine ACode.seq ?_
    refine ACode.block ?_
    refine ACode.region ?_
    refine .cons (.mv rfl rfl) ?_
    refine .cons (.mv rfl rfl) ?_
    refine .cons (.mv rfl rfl) ?_
    refine .cons (.mv rfl rfl) ?_
    refine .cons (.xL 183 9 152 rfl rfl rfl rfl rfl (map_at hx1)) ?_
    refine .cons (.lN 9 rfl rfl rfl) ?_
    refine .cons (.cP [.tmp 19] rfl rfl rfl rfl (toStm_fn (by have := szO_mem (f := szS) (List.mem_of_getElem? hx1); omega)) rfl) ?_
    refine .cons (.xB 64 9 152 rfl rfl rfl rfl rfl rfl (by omega)) ?_
    refine .cons (.sT 9 true rfl rfl rfl rfl (fill_at (by omega)) rfl rfl) ?_
    refine .nil ?_
    refine kb_n ?_
    refine ks_n ?_
    refine ACode.region ?_
    refine .cons (.mv rfl rfl) ?_
    refine .cons (.pl rfl rfl rfl) ?_
    refine .cons (.asg rfl rfl) ?_
    refine .nil ?_
    refine kl_k [(110, 110)] ⟨i + 1, rfl, by omega, trivial, rfl⟩ ⟨ks rfl .dt, ks rfl .dt, ks rfl (.c .ow), ks rfl .dt, kb 110 rfl (.dt rfl (by first | exact fill_new (rS) xs | exact fill_set (rS) hx1 rfl)), trivial⟩
  · skip
    obtain rfl : i = xs.length := by omega
    refine ACode.exit ?_
    refine ks_e ?_
    refine kl_e ?_
    refine kb_hit ?_
    refine ks_n ?_
    refine ACode.seq ?_
    refine ACode.region ?_
    refine .cons (.mv rfl rfl) ?_
    refine .cons (.asg rfl rfl) ?_
    refine .nil ?_
    refine ks_n ?_
    refine ACode.ret ?_
    refine kf_wret [(.t 2, .v (.o (vD (dMs xs))))] (Wk.keep [] rfl rfl ⟨ks rfl (.c (.fz rfl (fill_end (rS) xs) (by simp) (by omega))), trivial⟩) rfl ?_ nobox
    rfl

set_option maxRecDepth 100000 in
set_option maxHeartbeats 1600000 in
theorem toPt_fn {x : Prt} (h : szPt x ≤ 1073741824) : Fn Tryz.prog 54 [] [ad (rP x)] (.o (ad (rP x))) [] := by
  have hsz : szPt x = szLs x.1 + szO szS x.2 := rfl
  have h1 := szLs_len x.1
  have h2 := szO_len (f := szS) x.2
  refine Fn.code0 Tryz.func54 rfl rfl rfl rfl ?_
  refine ACode.seq ?_
  refine ACode.region ?_
  refine .cons (St1.boxP rfl rfl rfl rfl rfl rfl) ?_
  refine .cons (.al 102 [.slice none 0 0, .slice none 0 0] rfl rfl rfl) ?_
  refine .nil ?_
  refine ks_n ?_
  refine ACode.seq ?_
  refine ACode.region ?_
  refine .cons (.al 103 [.slice none 0 0, .slice none 0 0] rfl rfl rfl) ?_
  refine .nil ?_
  refine ks_n ?_
  refine ACode.seq ?_
  refine ACode.region ?_
  refine .cons (.fP 0 0 false rfl rfl) ?_
  refine .cons (.l1 1 rfl rfl) ?_
  refine .cons (.cP [.tmp 5] rfl rfl rfl rfl (toLoops_fn x.1 (by omega) (by omega)) rfl) ?_
  refine .cons (.fB 0 0 false rfl rfl rfl) ?_
  refine .cons (.sT 1 false rfl rfl rfl rfl rfl rfl rfl) ?_
  refine .nil ?_
  refine ks_n ?_
  refine ACode.seq ?_
  refine ACode.region ?_
  refine .cons (.fP 1 0 false rfl rfl) ?_
  refine .cons (.l1 1 rfl rfl) ?_
  refine .cons (.cP [.tmp 9] rfl rfl rfl rfl (toStms_fn x.2 (by omega) (by omega)) rfl) ?_
  refine .cons (.fB 1 0 false rfl rfl rfl) ?_
  refine .cons (.sT 1 false rfl rfl rfl rfl rfl rfl rfl) ?_
  refine .nil ?_
  refine ks_n ?_
  refine ACode.seq ?_
  refine ACode.region ?_
  refine .cons (.bN 2 rfl rfl rfl rfl rfl rfl) ?_
  refine .cons (.sT 2 true rfl rfl rfl rfl rfl rfl rfl) ?_
  refine .nil ?_
  refine ks_n ?_
  refine ACode.ret ?_
  refine kf_ret rfl ?_ nobox
  rfl

set_option maxRecDepth 100000 in
set_option maxHeartbeats 1600000 in
theorem toPts_fn (xs : List Prt) (hs : szO szPt xs ≤ 1073741824) (hx : xs.length ≤ 1073741824) : Fn Tryz.prog 25 [] [vD (dPts xs)] (.o (vD (dPts xs))) [] := by
  refine Fn.code0 Tryz.func25 rfl rfl rfl rfl ?_
  refine ACode.seq ?_
  refine ACode.region ?_
  refine .cons (.asg rfl rfl) ?_
  refine .nil ?_
  refine ks_n ?_
  refine ACode.seq ?_
  refine ACode.region ?_
  refine .cons (.mv rfl rfl) ?_
  refine .cons (.ln 94 2 48 rfl rfl rfl) ?_
  refine .cons (.mk 107 101 2 48 [.slice none 0 0, .slice none 0 0] rfl rfl rfl (by omega) rfl rfl) ?_
  refine .cons (.asg rfl rfl) ?_
  refine .nil ?_
  refine ks_n ?_
  refine ACode.seq ?_
  refine ACode.seq ?_
  refine ACode.region ?_
  refine .cons (.asg rfl rfl) ?_
  refine .nil ?_
  refine ks_n ?_
  refine ACode.block ?_
  refine .loopK (fun m σ => (∃ i : Nat, m = xs.length - i ∧ (i ≤ xs.length) ∧ (True) ∧ σ = [(.t 0, .v (.o (vD (dPts xs)))), (.t 2, .v (.o (.c (.d (.val (.slice none 0 0)))))), (.t 3, .v (.o (.c (.own 110 2 (xs.length))))), (.t 4, .v (.o (nat1 (i : Nat)))), (.b 110, .b 101 2 (dR ((xs.take i).map (rP) ++ List.replicate (xs.length - i) [D.val (.slice none 0 0), D.val (.slice none 0 0)]))), (.u 110, .u)])) [(110, 107)] ⟨0, rfl, by omega, trivial, rfl⟩ ⟨ks rfl .dt, ks rfl .dt, ks rfl (.c .ow), ks rfl .dt, kb 107 rfl (.dt rfl (by first | exact fill_new (rP) xs | exact fill_set (rP) hx1 rfl)), trivial⟩ ?_
  rintro m σ ⟨i, hm0, hi, hF, rfl⟩
  refine ACode.seq ?_
  refine ACode.seq ?_
  refine ACode.region ?_
  refine .cons (.mv rfl rfl) ?_
  refine .cons (.mv rfl rfl) ?_
  refine .cons (.ln 94 2 48 rfl rfl rfl) ?_
  refine .cons (.ls rfl rfl rfl) ?_
  refine .nil ?_
  refine ks_n ?_
  refine .cD rfl (fun h11 => ?_) (fun h11 => ?_)
  · skip
    obtain ⟨x, hx1⟩ : ∃ x, xs[i]? = some x := ⟨_, List.getElem?_eq_getElem (by omega)⟩
    refine ACode.skip ?_
    refine ks_n ?_
    refine ACode.seq ?_
    refine ACode.block ?_
    refine ACode.region ?_
    refine .cons (.mv rfl rfl) ?_
    refine .cons (.mv rfl rfl) ?_
    refine .cons (.mv rfl rfl) ?_
    refine .cons (.mv rfl rfl) ?_
    refine .cons (.xL 94 2 48 rfl rfl rfl rfl rfl (map_at hx1)) ?_
    refine .cons (.lN 2 rfl rfl rfl) ?_
    refine .cons (.cP [.tmp 19] rfl rfl rfl rfl (toPt_fn (by have := szO_mem (f := szPt) (List.mem_of_getElem? hx1); omega)) rfl) ?_
    refine .cons (.xB 101 2 48 rfl rfl rfl rfl rfl rfl (by omega)) ?_
    refine .cons (.sT 2 true rfl rfl rfl rfl (fill_at (by omega)) rfl rfl) ?_
    refine .nil ?_
    refine kb_n ?_
    refine ks_n ?_
    refine ACode.region ?_
    refine .cons (.mv rfl rfl) ?_
    refine .cons (.pl rfl rfl rfl) ?_
    refine .cons (.asg rfl rfl) ?_
    refine .nil ?_
    refine kl_k [(110, 110)] ⟨i + 1, rfl, by omega, trivial, rfl⟩ ⟨ks rfl .dt, ks rfl .dt, ks rfl (.c .ow), ks rfl .dt, kb 110 rfl (.dt rfl (by first | exact fill_new (rP) xs | exact fill_set (rP) hx1 rfl)), trivial⟩
  · skip
    obtain rfl : i = xs.length := by omega
    refine ACode.exit ?_
    refine ks_e ?_
    refine kl_e ?_
    refine kb_hit ?_
    refine ks_n ?_
    refine ACode.seq ?_
    refine ACode.region ?_
    refine .cons (.mv rfl rfl) ?_
    refine .cons (.asg rfl rfl) ?_
    refine .nil ?_
    refine ks_n ?_
    refine ACode.ret ?_
    refine kf_wret [(.t 2, .v (.o (vD (dPts xs))))] (Wk.keep [] rfl rfl ⟨ks rfl (.c (.fz rfl (fill_end (rP) xs) (by simp) (by omega))), trivial⟩) rfl ?_ nobox
    rfl

set_option maxRecDepth 100000 in
set_option maxHeartbeats 1600000 in
theorem toPrg_fn {x : Prg} (h : szG x ≤ 1073741824) : Fn Tryz.prog 9 [] [ad (rG x)] (.o (ad (rG x))) [] := by
  have hsz : szG x = szO szR x.1 + szO szPt x.2 := rfl
  have h1 := szO_len (f := szR) x.1
  have h2 := szO_len (f := szPt) x.2
  refine Fn.code0 Tryz.func9 rfl rfl rfl rfl ?_
  refine ACode.seq ?_
  refine ACode.region ?_
  refine .cons (St1.boxP rfl rfl rfl rfl rfl rfl) ?_
  refine .cons (.al 102 [.slice none 0 0, .slice none 0 0] rfl rfl rfl) ?_
  refine .nil ?_
  refine ks_n ?_
  refine ACode.seq ?_
  refine ACode.region ?_
  refine .cons (.al 103 [.slice none 0 0, .slice none 0 0] rfl rfl rfl) ?_
  refine .nil ?_
  refine ks_n ?_
  refine ACode.seq ?_
  refine ACode.region ?_
  refine .cons (.fP 0 0 false rfl rfl) ?_
  refine .cons (.l1 1 rfl rfl) ?_
  refine .cons (.cP [.tmp 5] rfl rfl rfl rfl (toArrs_fn x.1 (by omega) (by omega)) rfl) ?_
  refine .cons (.fB 0 0 false rfl rfl rfl) ?_
  refine .cons (.sT 1 false rfl rfl rfl rfl rfl rfl rfl) ?_
  refine .nil ?_
  refine ks_n ?_
  refine ACode.seq ?_
  refine ACode.region ?_
  refine .cons (.fP 1 0 false rfl rfl) ?_
  refine .cons (.l1 1 rfl rfl) ?_
  refine .cons (.cP [.tmp 9] rfl rfl rfl rfl (toPts_fn x.2 (by omega) (by omega)) rfl) ?_
  refine .cons (.fB 1 0 false rfl rfl rfl) ?_
  refine .cons (.sT 1 false rfl rfl rfl rfl rfl rfl rfl) ?_
  refine .nil ?_
  refine ks_n ?_
  refine ACode.seq ?_
  refine ACode.region ?_
  refine .cons (.bN 2 rfl rfl rfl rfl rfl rfl) ?_
  refine .cons (.sT 2 true rfl rfl rfl rfl rfl rfl rfl) ?_
  refine .nil ?_
  refine ks_n ?_
  refine ACode.ret ?_
  refine kf_ret rfl ?_ nobox
  rfl

set_option maxRecDepth 100000 in
set_option maxHeartbeats 1600000 in
theorem eqArr_fn (x y : Arr) (h : szR x ≤ 1073741824) : Fn Tryz.prog 67 [] [ad (rR x), ad (rR y)] (.o (bo1 (decide (x = y)))) [] := by
  rw [szR] at h
  refine Fn.code0 Tryz.func67 rfl rfl rfl rfl ?_
  refine ACode.seq ?_
  refine ACode.region ?_
  refine .cons (St1.boxP rfl rfl rfl rfl rfl rfl) ?_
  refine .cons (St1.boxP rfl rfl rfl rfl rfl rfl) ?_
  refine .cons (.asg rfl rfl) ?_
  refine .nil ?_
  refine ks_n ?_
  refine ACode.seq ?_
  refine ACode.seq ?_
  refine ACode.region ?_
  refine .cons (.fP 0 0 false rfl rfl) ?_
  refine .cons (.l1 1 rfl rfl) ?_
  refine .cons (.fP 0 0 false rfl rfl) ?_
  refine .cons (.l1 1 rfl rfl) ?_
  refine .cons (St1.neS rfl rfl rfl) ?_
  refine .nil ?_
  refine ks_n ?_
  refine ACode.condT rfl (fun h9 => ?_) (fun h9 => ?_)
  · try simp only [List.length_map, decide_eq_true_eq, decide_eq_false_iff_not, Bool.not_eq_true', Bool.not_eq_false', Bool.not_eq_true, Bool.not_eq_false] at h9
    refine ACode.seq ?_
    refine ACode.region ?_
    refine .cons (.asg rfl rfl) ?_
    refine .nil ?_
    refine ks_n ?_
    refine ACode.ret ?_
    refine ks_r ?_
    refine kf_ret rfl ?_ nobox
    exact leafB (by rw [Bool.eq_iff_iff]; simp only [decide_eq_true_eq, Prod.ext_iff, ← sEq_iff]; first | (simp [*]; done) | (simp_all; done))
  · try simp only [List.length_map, decide_eq_true_eq, decide_eq_false_iff_not, Bool.not_eq_true', Bool.not_eq_false', Bool.not_eq_true, Bool.not_eq_false] at h9
    refine ACode.skip ?_
    refine ks_n ?_
    refine ACode.seq ?_
    refine ACode.seq ?_
    refine ACode.region ?_
    refine .cons (.fP 1 0 false rfl rfl) ?_
    refine .cons (.l1 1 rfl rfl) ?_
    refine .cons (.fP 1 0 false rfl rfl) ?_
    refine .cons (.l1 1 rfl rfl) ?_
    refine .cons (.cP [.tmp 11, .tmp 13] rfl rfl rfl rfl (eqInts_fn _ _ (by omega)) rfl) ?_
    refine .cons (.nt rfl rfl) ?_
    refine .nil ?_
    refine ks_n ?_
    refine ACode.condT rfl (fun h15 => ?_) (fun h15 => ?_)
    · try simp only [List.length_map, decide_eq_true_eq, decide_eq_false_iff_not, Bool.not_eq_true', Bool.not_eq_false', Bool.not_eq_true, Bool.not_eq_false] at h15
      refine ACode.seq ?_
      refine ACode.region ?_
      refine .cons (.asg rfl rfl) ?_
      refine .nil ?_
      refine ks_n ?_
      refine ACode.ret ?_
      refine ks_r ?_
      refine kf_ret rfl ?_ nobox
      exact leafB (by rw [Bool.eq_iff_iff]; simp only [decide_eq_true_eq, Prod.ext_iff, ← sEq_iff]; first | (simp [*]; done) | (simp_all; done))
    · try simp only [List.length_map, decide_eq_true_eq, decide_eq_false_iff_not, Bool.not_eq_true', Bool.not_eq_false', Bool.not_eq_true, Bool.not_eq_false] at h15
      refine ACode.skip ?_
      refine ks_n ?_
      refine ACode.seq ?_
      refine ACode.region ?_
      refine .cons (.asg rfl rfl) ?_
      refine .nil ?_
      refine ks_n ?_
      refine ACode.ret ?_
      refine kf_ret rfl ?_ nobox
      exact leafB (by rw [Bool.eq_iff_iff]; simp only [decide_eq_true_eq, Prod.ext_iff, ← sEq_iff]; first | (simp [*]; done) | (simp_all; done))

set_option maxRecDepth 100000 in
set_option maxHeartbeats 1600000 in
theorem eqArrs_f (xs ys : List Arr) (hx : xs.length ≤ 1099511627776) (hq : ∀ x ∈ xs, szR x ≤ 1073741824) : Fn Tryz.prog 30 [] [vD (dRs xs), vD (dRs ys)] (.o (bo1 (eqF (fun x y : Arr => decide (x = y)) xs ys))) [] := by
  refine Fn.code0 Tryz.func30 rfl rfl rfl rfl ?_
  refine ACode.seq ?_
  refine ACode.region ?_
  refine .cons (.asg rfl rfl) ?_
  refine .nil ?_
  refine ks_n ?_
  refine ACode.seq ?_
  refine ACode.seq ?_
  refine ACode.region ?_
  refine .cons (.mv rfl rfl) ?_
  refine .cons (.ln 103 2 40 rfl rfl rfl) ?_
  refine .cons (.mv rfl rfl) ?_
  refine .cons (.ln 103 2 40 rfl rfl rfl) ?_
  refine .cons (.ne rfl rfl rfl) ?_
  refine .nil ?_
  refine ks_n ?_
  refine .cND rfl (fun h10 => ?_) (fun h10 => ?_)
  · skip
    refine ACode.seq ?_
    refine ACode.region ?_
    refine .cons (.asg rfl rfl) ?_
    refine .nil ?_
    refine ks_n ?_
    refine ACode.ret ?_
    refine ks_r ?_
    refine kf_ret rfl ?_ nobox
    exact leafB (eqF_len (by omega)).symm
  · skip
    refine ACode.skip ?_
    refine ks_n ?_
    refine ACode.seq ?_
    refine ACode.seq ?_
    refine ACode.region ?_
    refine .cons (.asg rfl rfl) ?_
    refine .nil ?_
    refine ks_n ?_
    refine ACode.block ?_
    refine .loopK (fun m σ => (∃ i : Nat, m = xs.length - i ∧ (i ≤ xs.length) ∧ (eqF (fun x y : Arr => decide (x = y)) xs ys = eqF (fun x y : Arr => decide (x = y)) (xs.drop i) (ys.drop i)) ∧ σ = [(.t 0, .v (.o (vD (dRs xs)))), (.t 1, .v (.o (vD (dRs ys)))), (.t 4, .v (.o (bo1 false))), (.t 5, .v (.o (nat1 (i : Nat))))])) [] ⟨0, rfl, by omega, by simp, rfl⟩ ⟨ks rfl .dt, ks rfl .dt, ks rfl .dt, ks rfl .dt, trivial⟩ ?_
    rintro m σ ⟨i, hm0, hi, hF, rfl⟩
    refine ACode.seq ?_
    refine ACode.seq ?_
    refine ACode.region ?_
    refine .cons (.mv rfl rfl) ?_
    refine .cons (.mv rfl rfl) ?_
    refine .cons (.ln 103 2 40 rfl rfl rfl) ?_
    refine .cons (.ls rfl rfl rfl) ?_
    refine .nil ?_
    refine ks_n ?_
    refine .cD rfl (fun h14 => ?_) (fun h14 => ?_)
    · skip
      obtain ⟨x, hx1⟩ : ∃ x, xs[i]? = some x := ⟨_, List.getElem?_eq_getElem (by omega)⟩
      obtain ⟨y, hy1⟩ : ∃ x, ys[i]? = some x := ⟨_, List.getElem?_eq_getElem (by omega)⟩
      refine ACode.skip ?_
      refine ks_n ?_
      refine ACode.seq ?_
      refine ACode.block ?_
      refine ACode.seq ?_
      refine ACode.drawK (by kernel_rfl) (by kernel_rfl) ?_
      refine .cons (.mv rfl rfl) ?_
      refine .cons (.mv rfl rfl) ?_
      refine .cons (.xL 103 2 40 rfl rfl rfl rfl rfl (map_at hx1)) ?_
      refine .cons (.lN 2 rfl rfl rfl) ?_
      refine .cons (.mv rfl rfl) ?_
      refine .cons (.mv rfl rfl) ?_
      refine .cons (.xL 103 2 40 rfl rfl rfl rfl rfl (map_at hy1)) ?_
      refine .cons (.lN 2 rfl rfl rfl) ?_
      refine .cons (.cP [.tmp 20, .tmp 24] rfl rfl rfl rfl (eqArr_fn x y (hq x (List.mem_of_getElem? hx1))) rfl) ?_
      refine .cons (.nt rfl rfl) ?_
      refine .nil ⟨by kernel_rfl, ?_⟩
      refine ks_n ?_
      refine ACode.condT rfl (fun h26 => ?_) (fun h26 => ?_)
      · try simp only [List.length_map, decide_eq_true_eq, decide_eq_false_iff_not, Bool.not_eq_true', Bool.not_eq_false', Bool.not_eq_true, Bool.not_eq_false] at h26
        have g : decide (x = y) = false := by first | assumption | exact decide_eq_false (by assumption) | (simp; omega)
        refine ACode.seq ?_
        refine ACode.region ?_
        refine .cons (.asg rfl rfl) ?_
        refine .nil ?_
        refine ks_n ?_
        refine ACode.ret ?_
        refine kb_r ?_
        refine ks_r ?_
        refine kl_r ?_
        refine kb_r ?_
        refine ks_r ?_
        refine kf_ret rfl ?_ nobox
        exact leafB (by rw [hF, eqF_drop hx1 hy1, g]; rfl)
      · try simp only [List.length_map, decide_eq_true_eq, decide_eq_false_iff_not, Bool.not_eq_true', Bool.not_eq_false', Bool.not_eq_true, Bool.not_eq_false] at h26
        have g : decide (x = y) = true := by first | assumption | exact decide_eq_true (by assumption) | (simp; omega)
        refine ACode.skip ?_
        refine kb_n ?_
        refine ks_n ?_
        refine ACode.region ?_
        refine .cons (.mv rfl rfl) ?_
        refine .cons (.pl rfl rfl rfl) ?_
        refine .cons (.asg rfl rfl) ?_
        refine .nil ?_
        refine kl_k [] ⟨i + 1, rfl, by omega, by rw [hF, eqF_drop hx1 hy1, g, Bool.true_and], rfl⟩ ⟨ks rfl .dt, ks rfl .dt, ks rfl .dt, ks rfl .dt, trivial⟩
    · skip
      refine ACode.exit ?_
      refine ks_e ?_
      refine kl_e ?_
      refine kb_hit ?_
      refine ks_n ?_
      refine ACode.seq ?_
      refine ACode.region ?_
      refine .cons (.asg rfl rfl) ?_
      refine .nil ?_
      refine ks_n ?_
      refine ACode.ret ?_
      refine kf_ret rfl ?_ nobox
      exact leafB (by rw [hF, show i = xs.length by omega, eqF_end (by omega)])

theorem eqArrs_fn (xs ys : List Arr) (h : szO szR xs ≤ 1073741824) : Fn Tryz.prog 30 [] [vD (dRs xs), vD (dRs ys)] (.o (bo1 (decide (xs = ys)))) [] := by
  have hl := szO_len (f := szR) xs
  rw [← eqF_dec]; exact eqArrs_f xs ys (by omega) fun x hx => by have := szO_mem (f := szR) hx; omega

set_option maxRecDepth 100000 in
set_option maxHeartbeats 1600000 in
theorem eqStms_fn (xs ys : List Stm) (hx : xs.length ≤ 1099511627776) (hq : ∀ x ∈ xs, szS x ≤ 1073741824) : Fn Tryz.prog 112 [] [vD (dMs xs), vD (dMs ys)] (.o (bo1 (eqF sameS xs ys))) [] := by
  refine Fn.code0 Tryz.func112 rfl rfl rfl rfl ?_
  refine ACode.seq ?_
  refine ACode.region ?_
  refine .cons (.asg rfl rfl) ?_
  refine .nil ?_
  refine ks_n ?_
  refine ACode.seq ?_
  refine ACode.seq ?_
  refine ACode.region ?_
  refine .cons (.mv rfl rfl) ?_
  refine .cons (.ln 64 9 152 rfl rfl rfl) ?_
  refine .cons (.mv rfl rfl) ?_
  refine .cons (.ln 64 9 152 rfl rfl rfl) ?_
  refine .cons (.ne rfl rfl rfl) ?_
  refine .nil ?_
  refine ks_n ?_
  refine .cND rfl (fun h10 => ?_) (fun h10 => ?_)
  · skip
    refine ACode.seq ?_
    refine ACode.region ?_
    refine .cons (.asg rfl rfl) ?_
    refine .nil ?_
    refine ks_n ?_
    refine ACode.ret ?_
    refine ks_r ?_
    refine kf_ret rfl ?_ nobox
    exact leafB (eqF_len (by omega)).symm
  · skip
    refine ACode.skip ?_
    refine ks_n ?_
    refine ACode.seq ?_
    refine ACode.seq ?_
    refine ACode.region ?_
    refine .cons (.asg rfl rfl) ?_
    refine .nil ?_
    refine ks_n ?_
    refine ACode.block ?_
    refine .loopK (fun m σ => (∃ i : Nat, m = xs.length - i ∧ (i ≤ xs.length) ∧ (eqF sameS xs ys = eqF sameS (xs.drop i) (ys.drop i)) ∧ σ = [(.t 0, .v (.o (vD (dMs xs)))), (.t 1, .v (.o (vD (dMs ys)))), (.t 4, .v (.o (bo1 false))), (.t 5, .v (.o (nat1 (i : Nat))))])) [] ⟨0, rfl, by omega, by simp, rfl⟩ ⟨ks rfl .dt, ks rfl .dt, ks rfl .dt, ks rfl .dt, trivial⟩ ?_
    rintro m σ ⟨i, hm0, hi, hF, rfl⟩
    refine ACode.seq ?_
    refine ACode.seq ?_
    refine ACode.region ?_
    refine .cons (.mv rfl rfl) ?_
    refine .cons (.mv rfl rfl) ?_
    refine .cons (.ln 64 9 152 rfl rfl rfl) ?_
    refine .cons (.ls rfl rfl rfl) ?_
    refine .nil ?_
    refine ks_n ?_
    refine .cD rfl (fun h14 => ?_) (fun h14 => ?_)
    · skip
      obtain ⟨x, hx1⟩ : ∃ x, xs[i]? = some x := ⟨_, List.getElem?_eq_getElem (by omega)⟩
      obtain ⟨y, hy1⟩ : ∃ x, ys[i]? = some x := ⟨_, List.getElem?_eq_getElem (by omega)⟩
      refine ACode.skip ?_
      refine ks_n ?_
      refine ACode.seq ?_
      refine ACode.block ?_
      refine ACode.seq ?_
      refine ACode.drawK (by kernel_rfl) (by kernel_rfl) ?_
      refine .cons (.mv rfl rfl) ?_
      refine .cons (.mv rfl rfl) ?_
      refine .cons (.xL 64 9 152 rfl rfl rfl rfl rfl (map_at hx1)) ?_
      refine .cons (.lN 9 rfl rfl rfl) ?_
      refine .cons (.mv rfl rfl) ?_
      refine .cons (.mv rfl rfl) ?_
      refine .cons (.xL 64 9 152 rfl rfl rfl rfl rfl (map_at hy1)) ?_
      refine .cons (.lN 9 rfl rfl rfl) ?_
      refine .cons (.cP [.tmp 20, .tmp 24] rfl rfl rfl rfl (eqStm_fn x y (hq x (List.mem_of_getElem? hx1))) rfl) ?_
      refine .cons (.nt rfl rfl) ?_
      refine .nil ⟨by kernel_rfl, ?_⟩
      refine ks_n ?_
      refine ACode.condT rfl (fun h26 => ?_) (fun h26 => ?_)
      · try simp only [List.length_map, decide_eq_true_eq, decide_eq_false_iff_not, Bool.not_eq_true', Bool.not_eq_false', Bool.not_eq_true, Bool.not_eq_false] at h26
        have g : sameS x y = false := by first | assumption | exact decide_eq_false (by assumption) | (simp; omega)
        refine ACode.seq ?_
        refine ACode.region ?_
        refine .cons (.asg rfl rfl) ?_
        refine .nil ?_
        refine ks_n ?_
        refine ACode.ret ?_
        refine kb_r ?_
        refine ks_r ?_
        refine kl_r ?_
        refine kb_r ?_
        refine ks_r ?_
        refine kf_ret rfl ?_ nobox
        exact leafB (by rw [hF, eqF_drop hx1 hy1, g]; rfl)
      · try simp only [List.length_map, decide_eq_true_eq, decide_eq_false_iff_not, Bool.not_eq_true', Bool.not_eq_false', Bool.not_eq_true, Bool.not_eq_false] at h26
        have g : sameS x y = true := by first | assumption | exact decide_eq_true (by assumption) | (simp; omega)
        refine ACode.skip ?_
        refine kb_n ?_
        refine ks_n ?_
        refine ACode.region ?_
        refine .cons (.mv rfl rfl) ?_
        refine .cons (.pl rfl rfl rfl) ?_
        refine .cons (.asg rfl rfl) ?_
        refine .nil ?_
        refine kl_k [] ⟨i + 1, rfl, by omega, by rw [hF, eqF_drop hx1 hy1, g, Bool.true_and], rfl⟩ ⟨ks rfl .dt, ks rfl .dt, ks rfl .dt, ks rfl .dt, trivial⟩
    · skip
      refine ACode.exit ?_
      refine ks_e ?_
      refine kl_e ?_
      refine kb_hit ?_
      refine ks_n ?_
      refine ACode.seq ?_
      refine ACode.region ?_
      refine .cons (.asg rfl rfl) ?_
      refine .nil ?_
      refine ks_n ?_
      refine ACode.ret ?_
      refine kf_ret rfl ?_ nobox
      exact leafB (by rw [hF, show i = xs.length by omega, eqF_end (by omega)])

set_option maxRecDepth 100000 in
set_option maxHeartbeats 1600000 in
theorem eqPt_fn (x y : Prt) (h : szPt x ≤ 1073741824) : Fn Tryz.prog 68 [] [ad (rP x), ad (rP y)] (.o (bo1 (sameP x y))) [] := by
  have hsz : szPt x = szLs x.1 + szO szS x.2 := rfl
  have h1 := szLs_len x.1
  have h2 := szO_len (f := szS) x.2
  refine Fn.code0 Tryz.func68 rfl rfl rfl rfl ?_
  refine ACode.seq ?_
  refine ACode.region ?_
  refine .cons (St1.boxP rfl rfl rfl rfl rfl rfl) ?_
  refine .cons (St1.boxP rfl rfl rfl rfl rfl rfl) ?_
  refine .cons (.asg rfl rfl) ?_
  refine .nil ?_
  refine ks_n ?_
  refine ACode.seq ?_
  refine ACode.seq ?_
  refine ACode.region ?_
  refine .cons (.fP 0 0 false rfl rfl) ?_
  refine .cons (.l1 1 rfl rfl) ?_
  refine .cons (.fP 0 0 false rfl rfl) ?_
  refine .cons (.l1 1 rfl rfl) ?_
  refine .cons (.cP [.tmp 6, .tmp 8] rfl rfl rfl rfl (eqLoops_fn _ _ (by omega)) rfl) ?_
  refine .cons (.nt rfl rfl) ?_
  refine .nil ?_
  refine ks_n ?_
  refine ACode.condT rfl (fun h10 => ?_) (fun h10 => ?_)
  · try simp only [List.length_map, decide_eq_true_eq, decide_eq_false_iff_not, Bool.not_eq_true', Bool.not_eq_false', Bool.not_eq_true, Bool.not_eq_false] at h10
    refine ACode.seq ?_
    refine ACode.region ?_
    refine .cons (.asg rfl rfl) ?_
    refine .nil ?_
    refine ks_n ?_
    refine ACode.ret ?_
    refine ks_r ?_
    refine kf_ret rfl ?_ nobox
    exact leafB (by rw [sameP]; first | (simp [*]; done) | grind)
  · try simp only [List.length_map, decide_eq_true_eq, decide_eq_false_iff_not, Bool.not_eq_true', Bool.not_eq_false', Bool.not_eq_true, Bool.not_eq_false] at h10
    refine ACode.skip ?_
    refine ks_n ?_
    refine ACode.seq ?_
    refine ACode.seq ?_
    refine ACode.region ?_
    refine .cons (.fP 1 0 false rfl rfl) ?_
    refine .cons (.l1 1 rfl rfl) ?_
    refine .cons (.fP 1 0 false rfl rfl) ?_
    refine .cons (.l1 1 rfl rfl) ?_
    refine .cons (.cP [.tmp 12, .tmp 14] rfl rfl rfl rfl (eqStms_fn _ _ (by omega) (fun s hs => by have := szO_mem (f := szS) hs; omega)) rfl) ?_
    refine .cons (.nt rfl rfl) ?_
    refine .nil ?_
    refine ks_n ?_
    refine ACode.condT rfl (fun h16 => ?_) (fun h16 => ?_)
    · try simp only [List.length_map, decide_eq_true_eq, decide_eq_false_iff_not, Bool.not_eq_true', Bool.not_eq_false', Bool.not_eq_true, Bool.not_eq_false] at h16
      refine ACode.seq ?_
      refine ACode.region ?_
      refine .cons (.asg rfl rfl) ?_
      refine .nil ?_
      refine ks_n ?_
      refine ACode.ret ?_
      refine ks_r ?_
      refine kf_ret rfl ?_ nobox
      exact leafB (by rw [sameP]; first | (simp [*]; done) | grind)
    · try simp only [List.length_map, decide_eq_true_eq, decide_eq_false_iff_not, Bool.not_eq_true', Bool.not_eq_false', Bool.not_eq_true, Bool.not_eq_false] at h16
      refine ACode.skip ?_
      refine ks_n ?_
      refine ACode.seq ?_
      refine ACode.region ?_
      refine .cons (.asg rfl rfl) ?_
      refine .nil ?_
      refine ks_n ?_
      refine ACode.ret ?_
      refine kf_ret rfl ?_ nobox
      exact leafB (by rw [sameP]; first | (simp [*]; done) | grind)

set_option maxRecDepth 100000 in
set_option maxHeartbeats 1600000 in
theorem eqPts_fn (xs ys : List Prt) (hx : xs.length ≤ 1099511627776) (hq : ∀ x ∈ xs, szPt x ≤ 1073741824) : Fn Tryz.prog 31 [] [vD (dPts xs), vD (dPts ys)] (.o (bo1 (eqF sameP xs ys))) [] := by
  refine Fn.code0 Tryz.func31 rfl rfl rfl rfl ?_
  refine ACode.seq ?_
  refine ACode.region ?_
  refine .cons (.asg rfl rfl) ?_
  refine .nil ?_
  refine ks_n ?_
  refine ACode.seq ?_
  refine ACode.seq ?_
  refine ACode.region ?_
  refine .cons (.mv rfl rfl) ?_
  refine .cons (.ln 101 2 48 rfl rfl rfl) ?_
  refine .cons (.mv rfl rfl) ?_
  refine .cons (.ln 101 2 48 rfl rfl rfl) ?_
  refine .cons (.ne rfl rfl rfl) ?_
  refine .nil ?_
  refine ks_n ?_
  refine .cND rfl (fun h10 => ?_) (fun h10 => ?_)
  · skip
    refine ACode.seq ?_
    refine ACode.region ?_
    refine .cons (.asg rfl rfl) ?_
    refine .nil ?_
    refine ks_n ?_
    refine ACode.ret ?_
    refine ks_r ?_
    refine kf_ret rfl ?_ nobox
    exact leafB (eqF_len (by omega)).symm
  · skip
    refine ACode.skip ?_
    refine ks_n ?_
    refine ACode.seq ?_
    refine ACode.seq ?_
    refine ACode.region ?_
    refine .cons (.asg rfl rfl) ?_
    refine .nil ?_
    refine ks_n ?_
    refine ACode.block ?_
    refine .loopK (fun m σ => (∃ i : Nat, m = xs.length - i ∧ (i ≤ xs.length) ∧ (eqF sameP xs ys = eqF sameP (xs.drop i) (ys.drop i)) ∧ σ = [(.t 0, .v (.o (vD (dPts xs)))), (.t 1, .v (.o (vD (dPts ys)))), (.t 4, .v (.o (bo1 false))), (.t 5, .v (.o (nat1 (i : Nat))))])) [] ⟨0, rfl, by omega, by simp, rfl⟩ ⟨ks rfl .dt, ks rfl .dt, ks rfl .dt, ks rfl .dt, trivial⟩ ?_
    rintro m σ ⟨i, hm0, hi, hF, rfl⟩
    refine ACode.seq ?_
    refine ACode.seq ?_
    refine ACode.region ?_
    refine .cons (.mv rfl rfl) ?_
    refine .cons (.mv rfl rfl) ?_
    refine .cons (.ln 101 2 48 rfl rfl rfl) ?_
    refine .cons (.ls rfl rfl rfl) ?_
    refine .nil ?_
    refine ks_n ?_
    refine .cD rfl (fun h14 => ?_) (fun h14 => ?_)
    · skip
      obtain ⟨x, hx1⟩ : ∃ x, xs[i]? = some x := ⟨_, List.getElem?_eq_getElem (by omega)⟩
      obtain ⟨y, hy1⟩ : ∃ x, ys[i]? = some x := ⟨_, List.getElem?_eq_getElem (by omega)⟩
      refine ACode.skip ?_
      refine ks_n ?_
      refine ACode.seq ?_
      refine ACode.block ?_
      refine ACode.seq ?_
      refine ACode.drawK (by kernel_rfl) (by kernel_rfl) ?_
      refine .cons (.mv rfl rfl) ?_
      refine .cons (.mv rfl rfl) ?_
      refine .cons (.xL 101 2 48 rfl rfl rfl rfl rfl (map_at hx1)) ?_
      refine .cons (.lN 2 rfl rfl rfl) ?_
      refine .cons (.mv rfl rfl) ?_
      refine .cons (.mv rfl rfl) ?_
      refine .cons (.xL 101 2 48 rfl rfl rfl rfl rfl (map_at hy1)) ?_
      refine .cons (.lN 2 rfl rfl rfl) ?_
      refine .cons (.cP [.tmp 20, .tmp 24] rfl rfl rfl rfl (eqPt_fn x y (hq x (List.mem_of_getElem? hx1))) rfl) ?_
      refine .cons (.nt rfl rfl) ?_
      refine .nil ⟨by kernel_rfl, ?_⟩
      refine ks_n ?_
      refine ACode.condT rfl (fun h26 => ?_) (fun h26 => ?_)
      · try simp only [List.length_map, decide_eq_true_eq, decide_eq_false_iff_not, Bool.not_eq_true', Bool.not_eq_false', Bool.not_eq_true, Bool.not_eq_false] at h26
        have g : sameP x y = false := by first | assumption | exact decide_eq_false (by assumption) | (simp; omega)
        refine ACode.seq ?_
        refine ACode.region ?_
        refine .cons (.asg rfl rfl) ?_
        refine .nil ?_
        refine ks_n ?_
        refine ACode.ret ?_
        refine kb_r ?_
        refine ks_r ?_
        refine kl_r ?_
        refine kb_r ?_
        refine ks_r ?_
        refine kf_ret rfl ?_ nobox
        exact leafB (by rw [hF, eqF_drop hx1 hy1, g]; rfl)
      · try simp only [List.length_map, decide_eq_true_eq, decide_eq_false_iff_not, Bool.not_eq_true', Bool.not_eq_false', Bool.not_eq_true, Bool.not_eq_false] at h26
        have g : sameP x y = true := by first | assumption | exact decide_eq_true (by assumption) | (simp; omega)
        refine ACode.skip ?_
        refine kb_n ?_
        refine ks_n ?_
        refine ACode.region ?_
        refine .cons (.mv rfl rfl) ?_
        refine .cons (.pl rfl rfl rfl) ?_
        refine .cons (.asg rfl rfl) ?_
        refine .nil ?_
        refine kl_k [] ⟨i + 1, rfl, by omega, by rw [hF, eqF_drop hx1 hy1, g, Bool.true_and], rfl⟩ ⟨ks rfl .dt, ks rfl .dt, ks rfl .dt, ks rfl .dt, trivial⟩
    · skip
      refine ACode.exit ?_
      refine ks_e ?_
      refine kl_e ?_
      refine kb_hit ?_
      refine ks_n ?_
      refine ACode.seq ?_
      refine ACode.region ?_
      refine .cons (.asg rfl rfl) ?_
      refine .nil ?_
      refine ks_n ?_
      refine ACode.ret ?_
      refine kf_ret rfl ?_ nobox
      exact leafB (by rw [hF, show i = xs.length by omega, eqF_end (by omega)])

set_option maxRecDepth 100000 in
set_option maxHeartbeats 1600000 in
theorem eqPrg_fn (x y : Prg) (h : szG x ≤ 1073741824) : Fn Tryz.prog 11 [] [ad (rG x), ad (rG y)] (.o (bo1 (sameG x y))) [] := by
  have hsz : szG x = szO szR x.1 + szO szPt x.2 := rfl
  have h1 := szO_len (f := szR) x.1
  have h2 := szO_len (f := szPt) x.2
  refine Fn.code0 Tryz.func11 rfl rfl rfl rfl ?_
  refine ACode.seq ?_
  refine ACode.region ?_
  refine .cons (St1.boxP rfl rfl rfl rfl rfl rfl) ?_
  refine .cons (St1.boxP rfl rfl rfl rfl rfl rfl) ?_
  refine .cons (.asg rfl rfl) ?_
  refine .nil ?_
  refine ks_n ?_
  refine ACode.seq ?_
  refine ACode.seq ?_
  refine ACode.region ?_
  refine .cons (.fP 0 0 false rfl rfl) ?_
  refine .cons (.l1 1 rfl rfl) ?_
  refine .cons (.fP 0 0 false rfl rfl) ?_
  refine .cons (.l1 1 rfl rfl) ?_
  refine .cons (.cP [.tmp 6, .tmp 8] rfl rfl rfl rfl (eqArrs_fn _ _ (by omega)) rfl) ?_
  refine .cons (.nt rfl rfl) ?_
  refine .nil ?_
  refine ks_n ?_
  refine ACode.condT rfl (fun h10 => ?_) (fun h10 => ?_)
  · try simp only [List.length_map, decide_eq_true_eq, decide_eq_false_iff_not, Bool.not_eq_true', Bool.not_eq_false', Bool.not_eq_true, Bool.not_eq_false] at h10
    refine ACode.seq ?_
    refine ACode.region ?_
    refine .cons (.asg rfl rfl) ?_
    refine .nil ?_
    refine ks_n ?_
    refine ACode.ret ?_
    refine ks_r ?_
    refine kf_ret rfl ?_ nobox
    exact leafB (by rw [sameG]; first | (simp [*]; done) | grind)
  · try simp only [List.length_map, decide_eq_true_eq, decide_eq_false_iff_not, Bool.not_eq_true', Bool.not_eq_false', Bool.not_eq_true, Bool.not_eq_false] at h10
    refine ACode.skip ?_
    refine ks_n ?_
    refine ACode.seq ?_
    refine ACode.seq ?_
    refine ACode.region ?_
    refine .cons (.fP 1 0 false rfl rfl) ?_
    refine .cons (.l1 1 rfl rfl) ?_
    refine .cons (.fP 1 0 false rfl rfl) ?_
    refine .cons (.l1 1 rfl rfl) ?_
    refine .cons (.cP [.tmp 12, .tmp 14] rfl rfl rfl rfl (eqPts_fn _ _ (by omega) (fun s hs => by have := szO_mem (f := szPt) hs; omega)) rfl) ?_
    refine .cons (.nt rfl rfl) ?_
    refine .nil ?_
    refine ks_n ?_
    refine ACode.condT rfl (fun h16 => ?_) (fun h16 => ?_)
    · try simp only [List.length_map, decide_eq_true_eq, decide_eq_false_iff_not, Bool.not_eq_true', Bool.not_eq_false', Bool.not_eq_true, Bool.not_eq_false] at h16
      refine ACode.seq ?_
      refine ACode.region ?_
      refine .cons (.asg rfl rfl) ?_
      refine .nil ?_
      refine ks_n ?_
      refine ACode.ret ?_
      refine ks_r ?_
      refine kf_ret rfl ?_ nobox
      exact leafB (by rw [sameG]; first | (simp [*]; done) | grind)
    · try simp only [List.length_map, decide_eq_true_eq, decide_eq_false_iff_not, Bool.not_eq_true', Bool.not_eq_false', Bool.not_eq_true, Bool.not_eq_false] at h16
      refine ACode.skip ?_
      refine ks_n ?_
      refine ACode.seq ?_
      refine ACode.region ?_
      refine .cons (.asg rfl rfl) ?_
      refine .nil ?_
      refine ks_n ?_
      refine ACode.ret ?_
      refine kf_ret rfl ?_ nobox
      exact leafB (by rw [sameG]; first | (simp [*]; done) | grind)

end Go.Proofs.YtplekceinncepaaGreat

/- Ranges of expressions; condition: small nests. -/
namespace Go.Proofs.YtplekceinncepaaGreat
set_option linter.unusedVariables false
set_option linter.unusedSimpArgs false
open Go.RowKit

section
variable {a : Aff} {o : Pts} {x : List Int}
end
theorem npR_pt {ns : List Lp} {x : List Int} (h : x ∈ npR ns) : Small x ∧ x.length ≤ 4 := by
  obtain ⟨h1, h2, h3⟩ := npR_mem h
  have hv := (okP_iff.1 h1).1
  obtain ⟨h4, h5⟩ := mem_pts.1 h2
  have h6 := PB_of_in hv h4 h5 ns.length (Nat.le_refl _)
  rw [← h4, List.take_length] at h6
  have h7 := (nsV_at hv).1
  exact ⟨h6.small (by omega), by omega⟩




end Go.Proofs.YtplekceinncepaaGreat

/- Ranges of expressions over all nests; condition: lists as long as memory lets them be. -/
namespace Go.Proofs.YtplekceinncepaaGreat
set_option linter.unusedVariables false
set_option linter.unusedSimpArgs false
open Go.RowKit

/-- Nests as large as memory lets them be. -/
def bgL (l : Lp) : Prop := l.1.length ≤ 1073741824 ∧ l.2.length ≤ 1073741824 ∧ (∀ a ∈ l.1, a.1.length ≤ 1073741824) ∧ ∀ a ∈ l.2, a.1.length ≤ 1073741824
def bgN (ns : List Lp) : Prop := ns.length ≤ 1073741824 ∧ ∀ l ∈ ns, bgL l
theorem smN_of {ns : List Lp} (h : nsV ns = true) : smN ns := by
  obtain ⟨h1, h2⟩ := nsV_at h
  refine ⟨by omega, fun l hl => ?_⟩
  obtain ⟨i, hi⟩ := List.mem_iff_getElem?.1 hl
  obtain ⟨a, b⟩ := h2 i l hi
  simp only [sideV, bndV, Bool.and_eq_true, List.all_eq_true, decide_eq_true_eq] at a b
  exact ⟨by omega, by omega, fun x hx => by rw [affV_len (a.1.1 x hx).1]; omega, fun x hx => by rw [affV_len (b.1.1 x hx).1]; omega⟩

set_option maxRecDepth 100000 in
set_option maxHeartbeats 1600000 in
theorem implNestV_B (ns : List Lp) (hs : bgN ns) : Fn Tryz.prog 100 [] [vD (dLs ns)] (.o (bo1 (nsV ns))) [] := by
  have hn := hs.1
  refine Fn.code0 Tryz.func100 rfl rfl rfl rfl ?_
  refine ACode.seq ?_
  refine ACode.region ?_
  refine .cons (.asg rfl rfl) ?_
  refine .nil ?_
  refine ks_n ?_
  refine ACode.seq ?_
  refine ACode.seq ?_
  refine ACode.region ?_
  refine .cons (.mv rfl rfl) ?_
  refine .cons (.ln 192 2 48 rfl rfl rfl) ?_
  refine .cons (.mv rfl rfl) ?_
  refine .nil ?_
  refine ks_n ?_
  refine ACode.block ?_
  refine .loopK (fun m σ => (∃ i : Nat, m = ns.length - i ∧ (i ≤ ns.length) ∧ (nestG 0 ns = nestG i (ns.drop i)) ∧ σ = [(.t 0, .v (.o (vD (dLs ns)))), (.t 5, .v (.o (vD (dLs ns)))), (.t 6, .v (.o (nat1 (ns.length : Nat)))), (.t 7, .v (.o (nat1 (i : Nat))))])) [] ⟨0, rfl, by omega, by simp, rfl⟩ ⟨ks rfl .dt, ks rfl .dt, ks rfl .dt, ks rfl .dt, trivial⟩ ?_
  rintro m σ ⟨i, hm0, hi, hF, rfl⟩
  refine ACode.seq ?_
  refine ACode.region ?_
  refine .cons (.ls rfl rfl rfl) ?_
  refine .nil ?_
  refine ks_n ?_
  refine ACode.seq ?_
  refine .cD rfl (fun h8 => ?_) (fun h8 => ?_)
  · skip
    obtain ⟨x, hx1⟩ : ∃ x, ns[i]? = some x := ⟨_, List.getElem?_eq_getElem (by omega)⟩
    have hq := hs.2 x (List.mem_of_getElem? hx1)
    refine ACode.skip ?_
    refine ks_n ?_
    refine ACode.seq ?_
    refine ACode.block ?_
    refine ACode.seq ?_
    refine ACode.region ?_
    refine .cons (.mv rfl rfl) ?_
    refine .cons (.xL 192 2 48 rfl rfl rfl rfl rfl) ?_
    refine .cons (.lN 2 rfl rfl rfl) ?_
    refine .cons (.al 104 [.slice none 0 0, .slice none 0 0] rfl rfl rfl) ?_
    refine .cons (.asg rfl rfl) ?_
    refine .cons (.sT 2 true rfl rfl rfl rfl rfl rfl rfl) ?_
    refine .nil ?_
    refine ks_n ?_
    refine ACode.seq ?_
    refine ACode.region ?_
    refine .cons (.fB 0 0 false rfl rfl rfl) ?_
    refine .cons (.b1 1 rfl rfl rfl rfl rfl rfl) ?_
    refine .cons (.mv rfl rfl) ?_
    refine .cons (.cP [.tmp 13, .tmp 14] rfl rfl rfl rfl (boundsOk_fn i _ (Nat.le_trans hq.1 (by omega))) rfl) ?_
    refine .cons (.nt rfl rfl) ?_
    refine .cons (.mv rfl rfl) ?_
    refine AOps.cases 17 _ rfl (fun g17 => ?_) (fun g17 => ?_)
    · try simp only [List.length_map, decide_eq_true_eq, decide_eq_false_iff_not, Bool.not_eq_true', Bool.not_eq_false', Bool.not_eq_true, Bool.not_eq_false] at g17
      refine .cons (.gF rfl rfl rfl) ?_
      refine .cons (.gF rfl rfl rfl) ?_
      refine .cons (.gF rfl rfl rfl) ?_
      refine .cons (.gF rfl rfl rfl) ?_
      refine .cons (.gF rfl rfl rfl) ?_
      refine .cons (.pT rfl rfl rfl) ?_
      refine .nil ?_
      refine ks_n ?_
      refine ACode.condT rfl (fun _ => ?_) (fun h => by first | (cases h; done) | (simp [*] at h; done) | (exfalso; simp_all; done))
      refine ACode.seq ?_
      have g : (sideV i x.1 && sideV i x.2) = false := by simp [*]
      refine ACode.region ?_
      refine .cons (.asg rfl rfl) ?_
      refine .nil ?_
      refine ks_n ?_
      refine ACode.ret ?_
      refine kb_r ?_
      refine ks_r ?_
      refine kl_r ?_
      refine kb_r ?_
      refine ks_r ?_
      refine kf_ret rfl ?_ nobox
      exact leafB (by rw [nsV, hF, nestG_drop hx1, g]; simp)
    · try simp only [List.length_map, decide_eq_true_eq, decide_eq_false_iff_not, Bool.not_eq_true', Bool.not_eq_false', Bool.not_eq_true, Bool.not_eq_false] at g17
      refine .cons (.gT rfl rfl rfl (.fB 1 0 false rfl rfl rfl)) ?_
      refine .cons (.gT rfl rfl rfl (.b1 1 rfl rfl rfl rfl rfl rfl)) ?_
      refine .cons (.gT rfl rfl rfl (.mv rfl rfl)) ?_
      refine .cons (.gT rfl rfl rfl (.cP [.tmp 19, .tmp 20] rfl rfl rfl rfl (boundsOk_fn i _ (Nat.le_trans hq.2.1 (by omega))) rfl)) ?_
      refine .cons (.gT rfl rfl rfl (.nt rfl rfl)) ?_
      refine .cons (.pF rfl rfl rfl) ?_
      refine .nil ?_
      refine ks_n ?_
      refine ACode.condT rfl (fun h23 => ?_) (fun h23 => ?_)
      · try simp only [List.length_map, decide_eq_true_eq, decide_eq_false_iff_not, Bool.not_eq_true', Bool.not_eq_false', Bool.not_eq_true, Bool.not_eq_false] at h23
        refine ACode.seq ?_
        have g : (sideV i x.1 && sideV i x.2) = false := by simp [*]
        refine ACode.region ?_
        refine .cons (.asg rfl rfl) ?_
        refine .nil ?_
        refine ks_n ?_
        refine ACode.ret ?_
        refine kb_r ?_
        refine ks_r ?_
        refine kl_r ?_
        refine kb_r ?_
        refine ks_r ?_
        refine kf_ret rfl ?_ nobox
        exact leafB (by rw [nsV, hF, nestG_drop hx1, g]; simp)
      · try simp only [List.length_map, decide_eq_true_eq, decide_eq_false_iff_not, Bool.not_eq_true', Bool.not_eq_false', Bool.not_eq_true, Bool.not_eq_false] at h23
        refine ACode.skip ?_
        refine kb_n ?_
        refine ks_n ?_
        have g : (sideV i x.1 && sideV i x.2) = true := by simp [*]
        refine ACode.region ?_
        refine .cons (.pl rfl rfl rfl) ?_
        refine .cons (.mv rfl rfl) ?_
        refine .nil ?_
        refine kl_k [] ⟨i + 1, rfl, by omega, by rw [hF, nestG_drop hx1, g, Bool.true_and], rfl⟩ ⟨ks rfl .dt, ks rfl .dt, ks rfl .dt, ks rfl .dt, trivial⟩
  · skip
    refine ACode.exit ?_
    refine ks_e ?_
    refine kl_e ?_
    refine kb_hit ?_
    refine ks_n ?_
    refine ACode.seq ?_
    refine ACode.region ?_
    refine .cons (.mv rfl rfl) ?_
    refine .cons (.ln 192 2 48 rfl rfl rfl) ?_
    refine .cons (.le rfl rfl rfl) ?_
    refine .cons (.asg rfl rfl) ?_
    refine .nil ?_
    refine ks_n ?_
    refine ACode.ret ?_
    refine kf_ret rfl ?_ nobox
    exact leafB (by rw [nsV, hF, List.drop_of_length_le (by omega), nestG, Bool.and_true, Bool.eq_iff_iff]; simp; omega)

set_option maxRecDepth 100000 in
set_option maxHeartbeats 1600000 in
theorem specNestV_B (ns : List Lp) (hs : bgN ns) : Fn Tryz.prog 129 [] [vD (dLs ns)] (.o (bo1 (nsV ns))) [] := by
  have hn := hs.1
  refine Fn.code0 Tryz.func129 rfl rfl rfl rfl ?_
  refine ACode.seq ?_
  refine ACode.region ?_
  refine .cons (.asg rfl rfl) ?_
  refine .nil ?_
  refine ks_n ?_
  refine ACode.seq ?_
  refine ACode.seq ?_
  refine ACode.region ?_
  refine .cons (.asg rfl rfl) ?_
  refine .nil ?_
  refine ks_n ?_
  refine ACode.block ?_
  refine .loopK (fun m σ => (∃ i : Nat, m = ns.length - i ∧ (i ≤ ns.length) ∧ (nestG 0 ns = nestG i (ns.drop i)) ∧ σ = [(.t 0, .v (.o (vD (dLs ns)))), (.t 3, .v (.o (nat1 (i : Nat))))])) [] ⟨0, rfl, by omega, by simp, rfl⟩ ⟨ks rfl .dt, ks rfl .dt, trivial⟩ ?_
  rintro m σ ⟨i, hm0, hi, hF, rfl⟩
  refine ACode.seq ?_
  refine ACode.seq ?_
  refine ACode.region ?_
  refine .cons (.mv rfl rfl) ?_
  refine .cons (.mv rfl rfl) ?_
  refine .cons (.ln 192 2 48 rfl rfl rfl) ?_
  refine .cons (.ls rfl rfl rfl) ?_
  refine .cons (.mv rfl rfl) ?_
  refine .cD 8 rfl (fun g8 => ?_) (fun g8 => ?_)
  · skip
    refine .cons (.gT rfl rfl rfl (.mv rfl rfl)) ?_
    refine .cons (.gT rfl rfl rfl (.ln 192 2 48 rfl rfl rfl)) ?_
    refine .cons (.gT rfl rfl rfl (.le rfl rfl rfl)) ?_
    refine .cons (.pT rfl rfl rfl) ?_
    refine .nil ?_
    refine ks_n ?_
    refine ACode.condT rfl (fun h12 => ?_) (fun h12 => ?_)
    · try simp only [List.length_map, decide_eq_true_eq, decide_eq_false_iff_not, Bool.not_eq_true', Bool.not_eq_false', Bool.not_eq_true, Bool.not_eq_false] at h12
      obtain ⟨x, hx1⟩ : ∃ x, ns[i]? = some x := ⟨_, List.getElem?_eq_getElem (by omega)⟩
      have hq := hs.2 x (List.mem_of_getElem? hx1)
      refine ACode.skip ?_
      refine ks_n ?_
      refine ACode.seq ?_
      refine ACode.block ?_
      refine ACode.seq ?_
      refine ACode.region ?_
      refine .cons (.mv rfl rfl) ?_
      refine .cons (.mv rfl rfl) ?_
      refine .cons (.xL 192 2 48 rfl rfl rfl rfl rfl) ?_
      refine .cons (.fP 0 0 false rfl rfl) ?_
      refine .cons (.l1 1 rfl rfl) ?_
      refine .cons (.mv rfl rfl) ?_
      refine .cons (.cP [.tmp 19, .tmp 20] rfl rfl rfl rfl (l2Side_fn i _ (Nat.le_trans hq.1 (by omega))) rfl) ?_
      refine .cons (.nt rfl rfl) ?_
      refine .cons (.mv rfl rfl) ?_
      refine AOps.cases 23 _ rfl (fun g23 => ?_) (fun g23 => ?_)
      · try simp only [List.length_map, decide_eq_true_eq, decide_eq_false_iff_not, Bool.not_eq_true', Bool.not_eq_false', Bool.not_eq_true, Bool.not_eq_false] at g23
        refine .cons (.gF rfl rfl rfl) ?_
        refine .cons (.gF rfl rfl rfl) ?_
        refine .cons (.gF rfl rfl rfl) ?_
        refine .cons (.gF rfl rfl rfl) ?_
        refine .cons (.gF rfl rfl rfl) ?_
        refine .cons (.gF rfl rfl rfl) ?_
        refine .cons (.gF rfl rfl rfl) ?_
        refine .cons (.gF rfl rfl rfl) ?_
        refine .cons (.pT rfl rfl rfl) ?_
        refine .nil ?_
        refine ks_n ?_
        refine ACode.condT rfl (fun _ => ?_) (fun h => by first | (cases h; done) | (simp [*] at h; done) | (exfalso; simp_all; done))
        refine ACode.seq ?_
        have g : (sideV i x.1 && sideV i x.2) = false := by simp [*]
        refine ACode.region ?_
        refine .cons (.asg rfl rfl) ?_
        refine .nil ?_
        refine ks_n ?_
        refine ACode.ret ?_
        refine kb_r ?_
        refine ks_r ?_
        refine kl_r ?_
        refine kb_r ?_
        refine ks_r ?_
        refine kf_ret rfl ?_ nobox
        exact leafB (by rw [nsV, hF, nestG_drop hx1, g]; simp)
      · try simp only [List.length_map, decide_eq_true_eq, decide_eq_false_iff_not, Bool.not_eq_true', Bool.not_eq_false', Bool.not_eq_true, Bool.not_eq_false] at g23
        refine .cons (.gT rfl rfl rfl (.mv rfl rfl)) ?_
        refine .cons (.gT rfl rfl rfl (.mv rfl rfl)) ?_
        refine .cons (.gT rfl rfl rfl (.xL 192 2 48 rfl rfl rfl rfl rfl)) ?_
        refine .cons (.gT rfl rfl rfl (.fP 1 0 false rfl rfl)) ?_
        refine .cons (.gT rfl rfl rfl (.l1 1 rfl rfl)) ?_
        refine .cons (.gT rfl rfl rfl (.mv rfl rfl)) ?_
        refine .cons (.gT rfl rfl rfl (.cP [.tmp 28, .tmp 29] rfl rfl rfl rfl (l2Side_fn i _ (Nat.le_trans hq.2.1 (by omega))) rfl)) ?_
        refine .cons (.gT rfl rfl rfl (.nt rfl rfl)) ?_
        refine .cons (.pF rfl rfl rfl) ?_
        refine .nil ?_
        refine ks_n ?_
        refine ACode.condT rfl (fun h32 => ?_) (fun h32 => ?_)
        · try simp only [List.length_map, decide_eq_true_eq, decide_eq_false_iff_not, Bool.not_eq_true', Bool.not_eq_false', Bool.not_eq_true, Bool.not_eq_false] at h32
          refine ACode.seq ?_
          have g : (sideV i x.1 && sideV i x.2) = false := by simp [*]
          refine ACode.region ?_
          refine .cons (.asg rfl rfl) ?_
          refine .nil ?_
          refine ks_n ?_
          refine ACode.ret ?_
          refine kb_r ?_
          refine ks_r ?_
          refine kl_r ?_
          refine kb_r ?_
          refine ks_r ?_
          refine kf_ret rfl ?_ nobox
          exact leafB (by rw [nsV, hF, nestG_drop hx1, g]; simp)
        · try simp only [List.length_map, decide_eq_true_eq, decide_eq_false_iff_not, Bool.not_eq_true', Bool.not_eq_false', Bool.not_eq_true, Bool.not_eq_false] at h32
          refine ACode.skip ?_
          refine kb_n ?_
          refine ks_n ?_
          have g : (sideV i x.1 && sideV i x.2) = true := by simp [*]
          refine ACode.region ?_
          refine .cons (.mv rfl rfl) ?_
          refine .cons (.pl rfl rfl rfl) ?_
          refine .cons (.asg rfl rfl) ?_
          refine .nil ?_
          refine kl_k [] ⟨i + 1, rfl, by omega, by rw [hF, nestG_drop hx1, g, Bool.true_and], rfl⟩ ⟨ks rfl .dt, ks rfl .dt, trivial⟩
    · try simp only [List.length_map, decide_eq_true_eq, decide_eq_false_iff_not, Bool.not_eq_true', Bool.not_eq_false', Bool.not_eq_true, Bool.not_eq_false] at h12
      refine ACode.exit ?_
      refine ks_e ?_
      refine kl_e ?_
      refine kb_hit ?_
      refine ks_n ?_
      refine ACode.seq ?_
      refine ACode.region ?_
      refine .cons (.mv rfl rfl) ?_
      refine .cons (.ln 192 2 48 rfl rfl rfl) ?_
      refine .cons (.le rfl rfl rfl) ?_
      refine .cons (.asg rfl rfl) ?_
      refine .nil ?_
      refine ks_n ?_
      refine ACode.ret ?_
      refine kf_ret rfl ?_ nobox
      first | exact leafB (by rw [nsV, hF, List.drop_of_length_le (by omega), nestG, Bool.and_true, Bool.eq_iff_iff]; simp; omega) | exact leafB (by rw [nsV, decide_eq_false (show ¬ ns.length ≤ 4 by omega)]; simp; omega)
  · skip
    refine .cons (.gF rfl rfl rfl) ?_
    refine .cons (.gF rfl rfl rfl) ?_
    refine .cons (.gF rfl rfl rfl) ?_
    refine .cons (.pF rfl rfl rfl) ?_
    refine .nil ?_
    refine ks_n ?_
    refine ACode.condT rfl (fun h => by first | (cases h; done) | (simp [*] at h; done) | (exfalso; simp_all; done)) (fun _ => ?_)
    refine ACode.exit ?_
    refine ks_e ?_
    refine kl_e ?_
    refine kb_hit ?_
    refine ks_n ?_
    refine ACode.seq ?_
    refine ACode.region ?_
    refine .cons (.mv rfl rfl) ?_
    refine .cons (.ln 192 2 48 rfl rfl rfl) ?_
    refine .cons (.le rfl rfl rfl) ?_
    refine .cons (.asg rfl rfl) ?_
    refine .nil ?_
    refine ks_n ?_
    refine ACode.ret ?_
    refine kf_ret rfl ?_ nobox
    first | exact leafB (by rw [nsV, hF, List.drop_of_length_le (by omega), nestG, Bool.and_true, Bool.eq_iff_iff]; simp; omega) | exact leafB (by rw [nsV, decide_eq_false (show ¬ ns.length ≤ 4 by omega)]; simp; omega)

set_option maxRecDepth 100000 in
set_option maxHeartbeats 1600000 in
theorem implNestPts_bad (ns : List Lp) (hs : bgN ns) (hb : nsV ns = false) : Fn Tryz.prog 56 [] [vD (dLs ns)] (.tup [vD (dPs (npR ns)), bo1 (okP ns)]) [] := by
  have hO : okP ns = false := by rw [okP, hb]; rfl
  have hN := npR_no hO
  refine Fn.code0 Tryz.func56 rfl rfl rfl rfl ?_
  refine ACode.seq ?_
  refine ACode.region ?_
  refine .cons (.asg rfl rfl) ?_
  refine .cons (.asg rfl rfl) ?_
  refine .nil ?_
  refine ks_n ?_
  refine ACode.seq ?_
  refine ACode.seq ?_
  refine ACode.region ?_
  refine .cons (.mv rfl rfl) ?_
  refine .cons (.cP [.tmp 5] rfl rfl rfl rfl (implNestV_B ns hs) rfl) ?_
  refine .cons (.nt rfl rfl) ?_
  refine .nil ?_
  refine ks_n ?_
  refine ACode.condT rfl (fun h7 => ?_) (fun h7 => ?_)
  · try simp only [List.length_map, decide_eq_true_eq, decide_eq_false_iff_not, Bool.not_eq_true', Bool.not_eq_false', Bool.not_eq_true, Bool.not_eq_false] at h7
    refine ACode.seq ?_
    refine ACode.region ?_
    refine .cons (.asg rfl rfl) ?_
    refine .cons (.asg rfl rfl) ?_
    refine .nil ?_
    refine ks_n ?_
    refine ACode.ret ?_
    refine ks_r ?_
    refine kf_wret [(.t 2, .v (.o (vD (dPs (npR ns))))), (.t 3, .v (.o (bo1 (okP ns))))] (Wk.keep [] rfl rfl ⟨ks rfl (.c (Cto.nilE 1 (by rw [hN]; rfl))), ks rfl (.dt (by rw [hO])), trivial⟩) rfl ?_ nobox
    rfl
  · try simp only [List.length_map, decide_eq_true_eq, decide_eq_false_iff_not, Bool.not_eq_true', Bool.not_eq_false', Bool.not_eq_true, Bool.not_eq_false] at h7
    rw [hb] at h7; cases h7

set_option maxRecDepth 100000 in
set_option maxHeartbeats 1600000 in
theorem specNestPts_bad (ns : List Lp) (hs : bgN ns) (hb : nsV ns = false) : Fn Tryz.prog 88 [] [vD (dLs ns)] (.tup [vD (dPs (npR ns)), bo1 (okP ns)]) [] := by
  have hO : okP ns = false := by rw [okP, hb]; rfl
  have hN := npR_no hO
  refine Fn.code0 Tryz.func88 rfl rfl rfl rfl ?_
  refine ACode.seq ?_
  refine ACode.region ?_
  refine .cons (.asg rfl rfl) ?_
  refine .cons (.asg rfl rfl) ?_
  refine .nil ?_
  refine ks_n ?_
  refine ACode.seq ?_
  refine ACode.seq ?_
  refine ACode.region ?_
  refine .cons (.mv rfl rfl) ?_
  refine .cons (.cP [.tmp 5] rfl rfl rfl rfl (specNestV_B ns hs) rfl) ?_
  refine .cons (.nt rfl rfl) ?_
  refine .cons (.mv rfl rfl) ?_
  refine AOps.cases 8 _ rfl (fun g8 => ?_) (fun g8 => ?_)
  · try simp only [List.length_map, decide_eq_true_eq, decide_eq_false_iff_not, Bool.not_eq_true', Bool.not_eq_false', Bool.not_eq_true, Bool.not_eq_false] at g8
    refine .cons (.gF rfl rfl rfl) ?_
    refine .cons (.gF rfl rfl rfl) ?_
    refine .cons (.gF rfl rfl rfl) ?_
    refine .cons (.pT rfl rfl rfl) ?_
    refine .nil ?_
    refine ks_n ?_
    refine ACode.condT rfl (fun _ => ?_) (fun h => by first | (cases h; done) | (simp [*] at h; done) | (exfalso; simp_all; done))
    refine ACode.seq ?_
    refine ACode.region ?_
    refine .cons (St1.lit0 (k' := 113) (e := 38) (sz := 1) (b := true) rfl rfl rfl rfl (by kernel_rfl) rfl rfl) ?_
    refine .cons (.asg rfl rfl) ?_
    refine .cons (.asg rfl rfl) ?_
    refine .nil ?_
    refine ks_n ?_
    refine ACode.ret ?_
    refine ks_r ?_
    refine kf_wret [(.t 2, .v (.o (vD (dPs (npR ns))))), (.t 3, .v (.o (bo1 (okP ns))))] (Wk.keep [] rfl rfl ⟨ks rfl (.c (.fz rfl (by rw [hN]; first | rfl | simp [dR]) (by rw [hN]; rfl) (by omega))), ks rfl (.dt (by rw [hO])), trivial⟩) rfl ?_ nobox
    rfl
  · try simp only [List.length_map, decide_eq_true_eq, decide_eq_false_iff_not, Bool.not_eq_true', Bool.not_eq_false', Bool.not_eq_true, Bool.not_eq_false] at g8
    rw [hb] at g8; cases g8

theorem implNestPts_B (ns : List Lp) (hs : bgN ns) : Fn Tryz.prog 56 [] [vD (dLs ns)] (.tup [vD (dPs (npR ns)), bo1 (okP ns)]) [] := by
  cases h : nsV ns with
  | true => exact implNestPts_fn ns (smN_of h)
  | false => exact implNestPts_bad ns hs h

theorem specNestPts_B (ns : List Lp) (hs : bgN ns) : Fn Tryz.prog 88 [] [vD (dLs ns)] (.tup [vD (dPs (npR ns)), bo1 (okP ns)]) [] := by
  cases h : nsV ns with
  | true => exact specNestPts_fn ns (smN_of h)
  | false => exact specNestPts_bad ns hs h



end Go.Proofs.YtplekceinncepaaGreat

/- Exact law of ranges of expressions; condition: nothing is too long for memory. -/
namespace Go.Proofs.YtplekceinncepaaGreat
set_option linter.unusedVariables false
set_option linter.unusedSimpArgs false
open Go.RowKit

theorem sz_bg {ns : List Lp} (h : szLs ns ≤ 1073741824) : bgN ns := by
  have hl := szLs_len ns
  refine ⟨by omega, fun l hl2 => ?_⟩
  have h1 := szLs_mem hl2
  have e : szL l = szAs l.1 + szAs l.2 := rfl
  have a1 := szAs_len l.1
  have a2 := szAs_len l.2
  exact ⟨by omega, by omega, fun x hx => by have := szAs_mem hx; omega, fun x hx => by have := szAs_mem hx; omega⟩


end Go.Proofs.YtplekceinncepaaGreat

/- Statements at points: their elements are there; condition: valid arrays and statements. -/
namespace Go.Proofs.YtplekceinncepaaGreat
set_option linter.unusedVariables false
set_option linter.unusedSimpArgs false
open Go.RowKit

theorem mem_rdEs {a : Acc} : ∀ {l : List Ex}, a ∈ rdEs l → ∃ x ∈ l, a ∈ rdE x
  | [], h => by rw [rdEs] at h; cases h
  | x :: l, h => by
    rw [rdEs, List.mem_append] at h
    rcases h with h | h
    · exact ⟨x, by simp, h⟩
    · obtain ⟨y, hy, h2⟩ := mem_rdEs h
      exact ⟨y, by simp [hy], h2⟩
theorem rdE_acc {d : Nat} {a : Acc} : ∀ {L : Nat} {e : Ex}, exV d L e = true → a ∈ rdE e → accV d a = true
  | 0, e, h, _ => by cases h
  | L + 1, e, h, ha => by
    rw [exV, Bool.and_eq_true, Bool.and_eq_true] at h
    rw [rdE_eq, List.mem_append] at ha
    rcases ha with ha | ha
    · split at ha
      · rename_i hk
        have h2 := h.1.2
        rw [fldV, if_neg (by omega), if_neg (by omega), if_pos hk, Bool.and_eq_true] at h2
        rw [List.mem_singleton.1 ha]; exact h2.2
      · cases ha
    · obtain ⟨x, hx, h3⟩ := mem_rdEs ha
      exact rdE_acc (List.all_eq_true.1 h.2 x hx) h3
theorem stm_accs {D : Int} {s : Stm} (h : stmtV D s = true) : accV D.toNat s.1 = true ∧ (∀ a ∈ rdE s.2, accV D.toNat a = true) ∧ (rdE s.2).length ≤ 12 := by
  obtain ⟨h1, h2, h3, _⟩ := stmtV_ex h
  exact ⟨h2, fun a ha => rdE_acc h1 ha, Nat.le_trans (rdE_len s.2) h3⟩
theorem accG_not {ar : List Arr} {p : List Int} : (fun a => decide (cellG a p ar 0 < 0)) = fun a => !accG ar p a := by
  funext a; rw [accG, Bool.eq_iff_iff]; simp
theorem cloneInts_fn (p : List Int) (hp : p.length ≤ 4294967296) : Fn Tryz.prog 62 [] [vD (dIs p)] (.o (vD (dIs p))) [] :=
  Fn.pure fun B bx al w vs hv => by
    obtain ⟨v, rfl, h⟩ := vals1 hv
    have h3 := dr_ints h
    obtain ⟨a, n, c, rfl, rfl⟩ := sl_form h3
    exact (clone_any B a _ c p w h3 hp).mono fun e w' ⟨v, h1, h2, h4⟩ => ⟨_, h1, h4, ints_dr ((h2.sl (by omega)).mono fun b hb _ => .inr (h2.lt b hb).1)⟩

set_option maxRecDepth 100000 in
set_option maxHeartbeats 1600000 in
theorem idx_stm {f : FuncId} {cap : List (List D)} (hc : callable Tryz.prog f = true) (p : Stm → Bool) (xs : List Stm) (hx : xs.length ≤ 1099511627776) (hf : ∀ x ∈ xs, Fn Tryz.prog f [] (ad (rS x) :: cap.map fun c => .c (.ptr c)) (.o (bo1 (p x))) []) : Fn Tryz.prog 102 [] [vD (.list 9 (xs.map rS)), .c (.fn f cap)] (.o (nat1 (idxF p xs))) [] := by
  refine Fn.code0 Tryz.func102 rfl rfl rfl rfl ?_
  refine ACode.seq ?_
  refine ACode.region ?_
  refine .cons (.asg rfl rfl) ?_
  refine .nil ?_
  refine ks_n ?_
  refine ACode.seq ?_
  refine ACode.seq ?_
  refine ACode.region ?_
  refine .cons (.mv rfl rfl) ?_
  refine .cons (.ln 64 9 152 rfl rfl rfl) ?_
  refine .cons (.mv rfl rfl) ?_
  refine .nil ?_
  refine ks_n ?_
  refine ACode.block ?_
  refine .loopK (fun m σ => (∃ i : Nat, m = xs.length - i ∧ (i ≤ xs.length) ∧ (idxF p xs = idxG p i (xs.drop i)) ∧ σ = [(.t 0, .v (.o (vD (.list 9 (xs.map rS))))), (.t 1, .v (.o (.c (.fn f cap)))), (.t 7, .v (.o (nat1 (xs.length : Nat)))), (.t 8, .v (.o (nat1 (i : Nat))))])) [] ⟨0, rfl, by omega, rfl, rfl⟩ ⟨ks rfl .dt, ks rfl .dt, ks rfl .dt, ks rfl .dt, trivial⟩ ?_
  rintro m σ ⟨i, hm0, hi, hF, rfl⟩
  refine ACode.seq ?_
  refine ACode.region ?_
  refine .cons (.ls rfl rfl rfl) ?_
  refine .nil ?_
  refine ks_n ?_
  refine ACode.seq ?_
  refine .cD rfl (fun h9 => ?_) (fun h9 => ?_)
  · skip
    obtain ⟨x, hx1⟩ : ∃ x_, xs[i]? = some x_ := ⟨_, List.getElem?_eq_getElem (by omega)⟩
    refine ACode.skip ?_
    refine ks_n ?_
    refine ACode.seq ?_
    refine ACode.block ?_
    refine ACode.seq ?_
    refine ACode.region ?_
    refine .cons (.mv rfl rfl) ?_
    refine .cons (.asg rfl rfl) ?_
    refine .nil ?_
    refine ks_n ?_
    refine ACode.seq ?_
    refine ACode.region ?_
    refine .cons (.mv rfl rfl) ?_
    refine .cons (.mv rfl rfl) ?_
    refine .cons (.mv rfl rfl) ?_
    refine .cons (.xL 64 9 152 rfl rfl rfl rfl rfl) ?_
    refine .cons (.lN 9 rfl rfl rfl) ?_
    refine .cons (.cP [.tmp 15] rfl rfl rfl rfl (hf x (List.mem_of_getElem? hx1)) rfl hc) ?_
    refine .nil ?_
    refine ks_n ?_
    refine ACode.condT rfl (fun h16 => ?_) (fun h16 => ?_)
    · try simp only [List.length_map, decide_eq_true_eq, decide_eq_false_iff_not, Bool.not_eq_true', Bool.not_eq_false', Bool.not_eq_true, Bool.not_eq_false] at h16
      refine ACode.seq ?_
      refine ACode.region ?_
      refine .cons (.mv rfl rfl) ?_
      refine .cons (.asg rfl rfl) ?_
      refine .nil ?_
      refine ks_n ?_
      refine ACode.ret ?_
      refine kb_r ?_
      refine ks_r ?_
      refine kl_r ?_
      refine kb_r ?_
      refine ks_r ?_
      refine kf_ret rfl ?_ nobox
      exact leafI (by rw [hF, idxG_drop hx1, h16]; rfl)
    · try simp only [List.length_map, decide_eq_true_eq, decide_eq_false_iff_not, Bool.not_eq_true', Bool.not_eq_false', Bool.not_eq_true, Bool.not_eq_false] at h16
      refine ACode.skip ?_
      refine kb_n ?_
      refine ks_n ?_
      refine ACode.region ?_
      refine .cons (.pl rfl rfl rfl) ?_
      refine .cons (.mv rfl rfl) ?_
      refine .nil ?_
      refine kl_k [] ⟨i + 1, rfl, by omega, by rw [hF, idxG_drop hx1, h16]; rfl, rfl⟩ ⟨ks rfl .dt, ks rfl .dt, ks rfl .dt, ks rfl .dt, trivial⟩
  · skip
    refine ACode.exit ?_
    refine ks_e ?_
    refine kl_e ?_
    refine kb_hit ?_
    refine ks_n ?_
    refine ACode.seq ?_
    refine ACode.region ?_
    refine .cons (.asg rfl rfl) ?_
    refine .nil ?_
    refine ks_n ?_
    refine ACode.ret ?_
    refine kf_ret rfl ?_ nobox
    exact leafI (by rw [hF, List.drop_of_length_le (by omega)]; rfl)

set_option maxRecDepth 100000 in
set_option maxHeartbeats 1600000 in
theorem cnt_stm {f : FuncId} {cap : List (List D)} (hc : callable Tryz.prog f = true) (p : Stm → Bool) (xs : List Stm) (hx : xs.length ≤ 1099511627776) (hf : ∀ x ∈ xs, Fn Tryz.prog f [] (ad (rS x) :: cap.map fun c => .c (.ptr c)) (.o (bo1 (p x))) []) : Fn Tryz.prog 57 [] [vD (.list 9 (xs.map rS)), .c (.fn f cap)] (.o (bo1 (xs.any p))) [] := by
  refine Fn.code0 Tryz.func57 rfl rfl rfl rfl ?_
  refine ACode.seq ?_
  refine ACode.region ?_
  refine .cons (.asg rfl rfl) ?_
  refine .nil ?_
  refine ks_n ?_
  refine ACode.seq ?_
  refine ACode.region ?_
  refine .cons (.mv rfl rfl) ?_
  refine .cons (.mv rfl rfl) ?_
  refine .cons (.cP [.tmp 5, .tmp 6] rfl rfl rfl rfl (idx_stm hc p xs hx hf) rfl) ?_
  refine .cons (.ge rfl rfl rfl) ?_
  refine .cons (.asg rfl rfl) ?_
  refine .nil ?_
  refine ks_n ?_
  refine ACode.ret ?_
  refine kf_ret rfl ?_ nobox
  exact leafB idxG_any

set_option maxRecDepth 100000 in
set_option maxHeartbeats 1600000 in
theorem sok1_fn {g : Prg} (hv : arrsV g.1 = true) {D : Nat} {a : Acc} {p : List Int} (ha : accV D a = true) (hS : Small p) (hn : p.length ≤ 4) : Fn Tryz.prog 107 [] [ad (rC a), .c (.ptr (rG g)), .c (.ptr [dIs p])] (.o (bo1 (decide (cellG a p g.1 0 < 0)))) [] := by
  refine Fn.code0 Tryz.func107 rfl rfl rfl rfl ?_
  refine ACode.seq ?_
  refine ACode.region ?_
  refine .cons (St1.boxP rfl rfl rfl rfl rfl rfl) ?_
  refine .cons (.asg rfl rfl) ?_
  refine .nil ?_
  refine ks_n ?_
  refine ACode.seq ?_
  refine ACode.region ?_
  refine .cons (.lN 2 rfl rfl rfl) ?_
  refine .cons (.lN 2 rfl rfl rfl) ?_
  refine .cons (.l1 1 rfl rfl) ?_
  refine .cons (.cP [.tmp 5, .tmp 6, .tmp 7] rfl rfl rfl rfl (cell_fn hv ha hS hn) rfl) ?_
  refine .cons (.ls rfl rfl rfl) ?_
  refine .cons (.asg rfl rfl) ?_
  refine .nil ?_
  refine ks_n ?_
  refine ACode.ret ?_
  refine kf_ret rfl ?_ nobox
  rfl

set_option maxRecDepth 100000 in
set_option maxHeartbeats 1600000 in
theorem sok_fn {g : Prg} (hv : arrsV g.1 = true) {D : Int} {s : Stm} {p : List Int} (hs : stmtV D s = true) (hS : Small p) (hn : p.length ≤ 4) : Fn Tryz.prog 61 [] [ad (rG g), ad (rS s), vD (dIs p)] (.o (bo1 (stmG g.1 s p))) [] := by
  obtain ⟨ha, hr, hrl⟩ := stm_accs hs
  refine Fn.code0 Tryz.func61 rfl rfl rfl rfl ?_
  refine ACode.seq ?_
  refine ACode.region ?_
  refine .cons (St1.boxP rfl rfl rfl rfl rfl rfl) ?_
  refine .cons (St1.boxP rfl rfl rfl rfl rfl rfl) ?_
  refine .cons (St1.boxP rfl rfl rfl rfl rfl rfl) ?_
  refine .cons (.asg rfl rfl) ?_
  refine .nil ?_
  refine ks_n ?_
  refine ACode.seq ?_
  refine ACode.region ?_
  refine .cons (.lN 2 rfl rfl rfl) ?_
  refine .cons (.fP 0 1 true rfl rfl) ?_
  refine .cons (.lN 2 rfl rfl rfl) ?_
  refine .cons (.l1 1 rfl rfl) ?_
  refine .cons (.cP [.tmp 7, .tmp 9, .tmp 10] rfl rfl rfl rfl (cell_fn hv ha hS hn) rfl) ?_
  refine .cons (.ge rfl rfl rfl) ?_
  refine .cons (.mv rfl rfl) ?_
  refine .cD 13 rfl (fun g13 => ?_) (fun g13 => ?_)
  · skip
    refine .cons (.gT rfl rfl rfl (.fP 2 6 true rfl rfl)) ?_
    refine .cons (.gT rfl rfl rfl (.lN 7 rfl rfl rfl)) ?_
    refine .cons (.gT rfl rfl rfl (.cP [.tmp 15] rfl rfl rfl rfl (reads_fn (L := 5) s.2 (by omega) (stmtV_ex hs).1) rfl)) ?_
    refine .cons (.gT rfl rfl rfl (St1.makeFunc (xs := [.tmp 3, .tmp 5]) rfl rfl rfl rfl rfl rfl rfl)) ?_
    refine .cons (.gT rfl rfl rfl (.cP [.tmp 16, .tmp 17] rfl rfl rfl rfl (cnt_acc (f := 107) (cap := [rG g, [dIs p]]) (by kernel_rfl) (fun a => decide (cellG a p g.1 0 < 0)) (rdE s.2) (by omega) (fun a ha => sok1_fn hv (hr a ha) hS hn)) rfl)) ?_
    refine .cons (.gT rfl rfl rfl (.nt rfl rfl)) ?_
    refine .cons (.pT rfl rfl rfl) ?_
    refine .cons (.asg rfl rfl) ?_
    refine .nil ?_
    refine ks_n ?_
    refine ACode.ret ?_
    refine kf_ret rfl ?_ nobox
    exact leafB (by rw [stmG, accG]; first | (rw [accG_not, nany]; simp [*]; done) | (simp [*]; done))
  · skip
    refine .cons (.gF rfl rfl rfl) ?_
    refine .cons (.gF rfl rfl rfl) ?_
    refine .cons (.gF rfl rfl rfl) ?_
    refine .cons (.gF rfl rfl rfl) ?_
    refine .cons (.gF rfl rfl rfl) ?_
    refine .cons (.gF rfl rfl rfl) ?_
    refine .cons (.pF rfl rfl rfl) ?_
    refine .cons (.asg rfl rfl) ?_
    refine .nil ?_
    refine ks_n ?_
    refine ACode.ret ?_
    refine kf_ret rfl ?_ nobox
    exact leafB (by rw [stmG, accG]; first | (rw [accG_not, nany]; simp [*]; done) | (simp [*]; done))

set_option maxRecDepth 100000 in
set_option maxHeartbeats 1600000 in
theorem ins1_fn {q : Prt} {s : Stm} (hs : szS s ≤ 1073741824) : Fn Tryz.prog 58 [] [ad (rS s), .c (.ptr (rP q))] (.o (bo1 (!stmtV (q.1.length : Nat) s))) [] := by
  refine Fn.code0 Tryz.func58 rfl rfl rfl rfl ?_
  refine ACode.seq ?_
  refine ACode.region ?_
  refine .cons (St1.boxP rfl rfl rfl rfl rfl rfl) ?_
  refine .cons (.asg rfl rfl) ?_
  refine .nil ?_
  refine ks_n ?_
  refine ACode.seq ?_
  refine ACode.region ?_
  refine .cons (.lN 9 rfl rfl rfl) ?_
  refine .cons (.fP 0 0 false rfl rfl) ?_
  refine .cons (.l1 1 rfl rfl) ?_
  refine .cons (.ln 192 2 48 rfl rfl rfl) ?_
  refine .cons (.cP [.tmp 4, .tmp 7] rfl rfl rfl rfl (implStmtV_fn (q.1.length : Nat) s (by omega)) rfl) ?_
  refine .cons (.nt rfl rfl) ?_
  refine .cons (.asg rfl rfl) ?_
  refine .nil ?_
  refine ks_n ?_
  refine ACode.ret ?_
  refine kf_ret rfl ?_ nobox
  rfl

end Go.Proofs.YtplekceinncepaaGreat
