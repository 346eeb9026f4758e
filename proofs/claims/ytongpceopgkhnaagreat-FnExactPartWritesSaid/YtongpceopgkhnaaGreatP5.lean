/- Part 5 of 6 of the proof: laws on memory and data, then what the functions compute, in the order in which they build on each other; conditions: those that each theorem names. -/
import Derived.Test.YtongpceopgkhnaaGreatP4

namespace Go.Proofs.YtongpceopgkhnaaGreat
set_option linter.unusedVariables false
set_option linter.unusedSimpArgs false
open Go.RowKit
/-- Sizes of lists of data, of programs. -/
def szO {α : Type} (f : α → Nat) (l : List α) : Nat := l.length + (l.map f).sum
theorem mem_sum : ∀ (l : List Nat) (n : Nat), n ∈ l → n ≤ l.sum := by
  intro l
  induction l with
  | nil => intro n h; cases h
  | cons m l ih =>
    intro n h
    rw [List.sum_cons]
    rcases List.mem_cons.1 h with rfl | h
    · omega
    · have := ih n h; omega
theorem szO_mem {α : Type} {f : α → Nat} {l : List α} {a : α} (h : a ∈ l) : l.length + f a ≤ szO f l := by
  rw [szO]
  have := mem_sum _ _ (List.mem_map_of_mem (f := f) h)
  omega
theorem szO_len {α : Type} {f : α → Nat} (l : List α) : l.length ≤ szO f l := Nat.le_add_right _ _
def szR (a : Arr) : Nat := a.1.size + a.2.length
def szPt (p : Prt) : Nat := szLs p.1 + szO szS p.2
def szG (g : Prg) : Nat := szO szR g.1 + szO szPt g.2
def sameP (x y : Prt) : Bool := decide (x.1 = y.1) && eqF sameS x.2 y.2
def sameG (x y : Prg) : Bool := decide (x.1 = y.1) && eqF sameP x.2 y.2
theorem eqF_refl {α : Type} {p : α → α → Bool} (hp : ∀ x, p x x = true) : ∀ l : List α, eqF p l l = true
  | [] => rfl
  | x :: l => by rw [eqF, hp x, eqF_refl hp l]; rfl
theorem sameP_refl (x : Prt) : sameP x x = true := by rw [sameP, eqF_refl (fun s => sameS_iff.2 rfl)]; simp
theorem sameG_refl (x : Prg) : sameG x x = true := by rw [sameG, eqF_refl sameP_refl]; simp

set_option maxRecDepth 100000 in
set_option maxHeartbeats 1600000 in
theorem szArr_fn {x : Arr} {l : Int} (hl : 0 ≤ l ∧ l ≤ 1048576) (ho : okArr x) : Fn Tryz.prog 73 [] [ad (rR x), nat1 l] (.o (nat1 (subZ l (szR x)))) [] := by
 have hsz : szR x = x.1.size + x.2.length := rfl
 have ho1 := ho.1
 have ho2 := ho.2
 refine Fn.code0 Tryz.func73 rfl rfl rfl rfl ?_
 refine ACode.seq ?_
 refine ACode.region ?_
 refine .cons (St1.boxP rfl rfl rfl rfl rfl rfl) ?_
 refine .cons (.asg rfl rfl) ?_
 refine .nil ?_
 refine ks_n ?_
 refine ACode.seq ?_
 refine ACode.region ?_
 refine .cons (.mv rfl rfl) ?_
 refine .cons (.fP 0 0 false rfl rfl) ?_
 refine .cons (.l1 1 rfl rfl) ?_
 refine .cons (St1.lenS rfl rfl rfl rfl rfl (by kernel_rfl) rfl) ?_
 refine .cons (.sb rfl rfl rfl) ?_
 refine .cons (.asg rfl rfl) ?_
 refine .nil ?_
 refine ks_n ?_
 refine ACode.seq ?_
 refine ACode.seq ?_
 refine ACode.region ?_
 refine .cons (.mv rfl rfl) ?_
 refine .cons (.ls rfl rfl rfl) ?_
 refine .nil ?_
 refine ks_n ?_
 refine .cD rfl (fun h11 => ?_) (fun h11 => ?_)
 ·skip
  refine ACode.seq ?_
  refine ACode.region ?_
  refine .cons (.asg rfl rfl) ?_
  refine .nil ?_
  refine ks_n ?_
  refine ACode.ret ?_
  refine ks_r ?_
  refine kf_ret rfl ?_ nobox
  exact leafI (subZ_no (by omega)).symm
 ·skip
  refine ACode.skip ?_
  refine ks_n ?_
  refine ACode.seq ?_
  have hb := subZ_bd (n := x.2.length) (l := l - (x.1.size : Nat)) (by omega)
  refine ACode.region ?_
  refine .cons (.fP 1 0 false rfl rfl) ?_
  refine .cons (.l1 1 rfl rfl) ?_
  refine .cons (.mv rfl rfl) ?_
  refine .cons (.cP [.tmp 13, .tmp 14] rfl rfl rfl rfl (szInts_fn x.2 (l := l - (x.1.size : Nat)) (by omega) ho.2) rfl) ?_
  refine .cons (.asg rfl rfl) ?_
  refine .nil ?_
  refine ks_n ?_
  refine ACode.seq ?_
  refine ACode.seq ?_
  refine ACode.region ?_
  refine .cons (.mv rfl rfl) ?_
  refine .cons (.ls rfl rfl rfl) ?_
  refine .nil ?_
  refine ks_n ?_
  refine .cD rfl (fun h17 => ?_) (fun h17 => ?_)
  ·skip
   refine ACode.seq ?_
   refine ACode.region ?_
   refine .cons (.asg rfl rfl) ?_
   refine .nil ?_
   refine ks_n ?_
   refine ACode.ret ?_
   refine ks_r ?_
   refine kf_ret rfl ?_ nobox
   exact leafI (subZ_no (by have := subZ_neg h17 (by omega); omega)).symm
  ·skip
   refine ACode.skip ?_
   refine ks_n ?_
   refine ACode.seq ?_
   refine ACode.region ?_
   refine .cons (.mv rfl rfl) ?_
   refine .cons (.asg rfl rfl) ?_
   refine .nil ?_
   refine ks_n ?_
   refine ACode.ret ?_
   refine kf_ret rfl ?_ nobox
   exact leafI (by have := subZ_pos h17; rw [subZ_yes this, subZ_yes (by omega)]; omega)

set_option maxRecDepth 100000 in
set_option maxHeartbeats 1600000 in
theorem szArrs_fn (xs : List Arr) {l : Int} (hl : 0 ≤ l ∧ l ≤ 1048576) (hx : xs.length ≤ 17592186044416) (hq : ∀ x ∈ xs, okArr x) : Fn Tryz.prog 38 [] [vD (dRs xs), nat1 l] (.o (nat1 (subZ l (szO szR xs)))) [] := by
 refine Fn.code0 Tryz.func38 rfl rfl rfl rfl ?_
 refine ACode.seq ?_
 refine ACode.region ?_
 refine .cons (.asg rfl rfl) ?_
 refine .nil ?_
 refine ks_n ?_
 refine ACode.seq ?_
 refine ACode.region ?_
 refine .cons (.mv rfl rfl) ?_
 refine .cons (.mv rfl rfl) ?_
 refine .cons (.ln 107 2 40 rfl rfl rfl) ?_
 refine .cons (.sb rfl rfl rfl) ?_
 refine .cons (.asg rfl rfl) ?_
 refine .nil ?_
 refine ks_n ?_
 refine ACode.seq ?_
 refine ACode.seq ?_
 refine ACode.region ?_
 refine .cons (.mv rfl rfl) ?_
 refine .cons (.ls rfl rfl rfl) ?_
 refine .nil ?_
 refine ks_n ?_
 refine .cD rfl (fun h11 => ?_) (fun h11 => ?_)
 ·skip
  refine ACode.seq ?_
  refine ACode.region ?_
  refine .cons (.asg rfl rfl) ?_
  refine .nil ?_
  refine ks_n ?_
  refine ACode.ret ?_
  refine ks_r ?_
  refine kf_ret rfl ?_ nobox
  exact leafI (subZ_no (by rw [szO]; omega)).symm
 ·skip
  refine ACode.skip ?_
  refine ks_n ?_
  refine ACode.seq ?_
  refine ACode.seq ?_
  refine ACode.region ?_
  refine .cons (.asg rfl rfl) ?_
  refine .nil ?_
  refine ks_n ?_
  refine ACode.block ?_
  refine .loopK (fun m σ => (∃ i : Nat, m = xs.length - i ∧ (i ≤ xs.length) ∧ (((xs.length + ((xs.take i).map szR).sum : Nat) : Int) ≤ l) ∧ σ = [(.t 0, .v (.o (vD (dRs xs)))), (.t 1, .v (.o (nat1 (l - (xs.length + ((xs.take i).map szR).sum : Nat))))), (.t 4, .v (.o (nat1 0))), (.t 5, .v (.o (nat1 (i : Nat))))])) [] ⟨0, rfl, by omega, by simp; omega, rfl⟩ ⟨ks rfl .dt, ks rfl (.dt (vI (by first | (simp; done) | (rw [hT, subZ_yes (by omega)]; omega)))), ks rfl .dt, ks rfl .dt, trivial⟩ ?_
  rintro m σ ⟨i, hm0, hi, hF, rfl⟩
  refine ACode.seq ?_
  refine ACode.seq ?_
  refine ACode.region ?_
  refine .cons (.mv rfl rfl) ?_
  refine .cons (.mv rfl rfl) ?_
  refine .cons (.ln 107 2 40 rfl rfl rfl) ?_
  refine .cons (.ls rfl rfl rfl) ?_
  refine .nil ?_
  refine ks_n ?_
  refine .cD rfl (fun h15 => ?_) (fun h15 => ?_)
  ·skip
   obtain ⟨x, hx1⟩ : ∃ x, xs[i]? = some x := ⟨_, List.getElem?_eq_getElem (by omega)⟩
   have hT := sum_take szR hx1
   refine ACode.skip ?_
   refine ks_n ?_
   refine ACode.seq ?_
   refine ACode.block ?_
   refine ACode.seq ?_
   refine ACode.region ?_
   refine .cons (.mv rfl rfl) ?_
   refine .cons (.mv rfl rfl) ?_
   refine .cons (.xL 107 2 40 rfl rfl rfl rfl rfl) ?_
   refine .cons (.lN 2 rfl rfl rfl) ?_
   refine .cons (.mv rfl rfl) ?_
   refine .cons (.cP [.tmp 21, .tmp 22] rfl rfl rfl rfl (szArr_fn (l := (l - (xs.length + ((xs.take i).map szR).sum : Nat))) (by omega) (hq x (List.mem_of_getElem? hx1))) rfl) ?_
   refine .cons (.asg rfl rfl) ?_
   refine .nil ?_
   refine ks_n ?_
   refine ACode.seq ?_
   refine ACode.region ?_
   refine .cons (.mv rfl rfl) ?_
   refine .cons (.ls rfl rfl rfl) ?_
   refine .nil ?_
   refine ks_n ?_
   refine .cD rfl (fun h25 => ?_) (fun h25 => ?_)
   ·skip
    refine ACode.seq ?_
    refine ACode.region ?_
    refine .cons (.asg rfl rfl) ?_
    refine .nil ?_
    refine ks_n ?_
    refine ACode.ret ?_
    refine kb_r ?_
    refine ks_r ?_
    refine kl_r ?_
    refine kb_r ?_
    refine ks_r ?_
    refine kf_ret rfl ?_ nobox
    exact leafI (subZ_no (by have h1 := subZ_neg h25 (by omega); have h2 := sum_take_le szR (l := xs) (i := i + 1); rw [szO]; omega)).symm
   ·skip
    have hP := subZ_pos h25
    refine ACode.skip ?_
    refine kb_n ?_
    refine ks_n ?_
    refine ACode.region ?_
    refine .cons (.mv rfl rfl) ?_
    refine .cons (.pl rfl rfl rfl) ?_
    refine .cons (.asg rfl rfl) ?_
    refine .nil ?_
    refine kl_k [] ⟨i + 1, rfl, by omega, by rw [hT]; have := subZ_pos h25; omega, rfl⟩ ⟨ks rfl .dt, ks rfl (.dt (vI (by first | (simp; done) | (rw [hT, subZ_yes (by omega)]; omega)))), ks rfl .dt, ks rfl .dt, trivial⟩
  ·skip
   have hall : xs.take i = xs := List.take_of_length_le (by omega)
   refine ACode.exit ?_
   refine ks_e ?_
   refine kl_e ?_
   refine kb_hit ?_
   refine ks_n ?_
   refine ACode.seq ?_
   refine ACode.region ?_
   refine .cons (.mv rfl rfl) ?_
   refine .cons (.asg rfl rfl) ?_
   refine .nil ?_
   refine ks_n ?_
   refine ACode.ret ?_
   refine kf_ret rfl ?_ nobox
   exact leafI (by rw [subZ_yes (by rw [szO, ← hall]; rw [hall]; rw [hall] at hF; omega), szO, hall])

set_option maxRecDepth 100000 in
set_option maxHeartbeats 1600000 in
theorem szStms_fn (xs : List Stm) {l : Int} (hl : 0 ≤ l ∧ l ≤ 1048576) (hx : xs.length ≤ 17592186044416) (hq : ∀ x ∈ xs, okS x) : Fn Tryz.prog 109 [] [vD (dMs xs), nat1 l] (.o (nat1 (subZ l (szO szS xs)))) [] := by
 refine Fn.code0 Tryz.func109 rfl rfl rfl rfl ?_
 refine ACode.seq ?_
 refine ACode.region ?_
 refine .cons (.asg rfl rfl) ?_
 refine .nil ?_
 refine ks_n ?_
 refine ACode.seq ?_
 refine ACode.region ?_
 refine .cons (.mv rfl rfl) ?_
 refine .cons (.mv rfl rfl) ?_
 refine .cons (.ln 192 9 152 rfl rfl rfl) ?_
 refine .cons (.sb rfl rfl rfl) ?_
 refine .cons (.asg rfl rfl) ?_
 refine .nil ?_
 refine ks_n ?_
 refine ACode.seq ?_
 refine ACode.seq ?_
 refine ACode.region ?_
 refine .cons (.mv rfl rfl) ?_
 refine .cons (.ls rfl rfl rfl) ?_
 refine .nil ?_
 refine ks_n ?_
 refine .cD rfl (fun h11 => ?_) (fun h11 => ?_)
 ·skip
  refine ACode.seq ?_
  refine ACode.region ?_
  refine .cons (.asg rfl rfl) ?_
  refine .nil ?_
  refine ks_n ?_
  refine ACode.ret ?_
  refine ks_r ?_
  refine kf_ret rfl ?_ nobox
  exact leafI (subZ_no (by rw [szO]; omega)).symm
 ·skip
  refine ACode.skip ?_
  refine ks_n ?_
  refine ACode.seq ?_
  refine ACode.seq ?_
  refine ACode.region ?_
  refine .cons (.asg rfl rfl) ?_
  refine .nil ?_
  refine ks_n ?_
  refine ACode.block ?_
  refine .loopK (fun m σ => (∃ i : Nat, m = xs.length - i ∧ (i ≤ xs.length) ∧ (((xs.length + ((xs.take i).map szS).sum : Nat) : Int) ≤ l) ∧ σ = [(.t 0, .v (.o (vD (dMs xs)))), (.t 1, .v (.o (nat1 (l - (xs.length + ((xs.take i).map szS).sum : Nat))))), (.t 4, .v (.o (nat1 0))), (.t 5, .v (.o (nat1 (i : Nat))))])) [] ⟨0, rfl, by omega, by simp; omega, rfl⟩ ⟨ks rfl .dt, ks rfl (.dt (vI (by first | (simp; done) | (rw [hT, subZ_yes (by omega)]; omega)))), ks rfl .dt, ks rfl .dt, trivial⟩ ?_
  rintro m σ ⟨i, hm0, hi, hF, rfl⟩
  refine ACode.seq ?_
  refine ACode.seq ?_
  refine ACode.region ?_
  refine .cons (.mv rfl rfl) ?_
  refine .cons (.mv rfl rfl) ?_
  refine .cons (.ln 192 9 152 rfl rfl rfl) ?_
  refine .cons (.ls rfl rfl rfl) ?_
  refine .nil ?_
  refine ks_n ?_
  refine .cD rfl (fun h15 => ?_) (fun h15 => ?_)
  ·skip
   obtain ⟨x, hx1⟩ : ∃ x, xs[i]? = some x := ⟨_, List.getElem?_eq_getElem (by omega)⟩
   have hT := sum_take szS hx1
   refine ACode.skip ?_
   refine ks_n ?_
   refine ACode.seq ?_
   refine ACode.block ?_
   refine ACode.seq ?_
   refine ACode.region ?_
   refine .cons (.mv rfl rfl) ?_
   refine .cons (.mv rfl rfl) ?_
   refine .cons (.xL 192 9 152 rfl rfl rfl rfl rfl) ?_
   refine .cons (.lN 9 rfl rfl rfl) ?_
   refine .cons (.mv rfl rfl) ?_
   refine .cons (.cP [.tmp 21, .tmp 22] rfl rfl rfl rfl (szStm_fn (l := (l - (xs.length + ((xs.take i).map szS).sum : Nat))) (hq x (List.mem_of_getElem? hx1)) (by omega)) rfl) ?_
   refine .cons (.asg rfl rfl) ?_
   refine .nil ?_
   refine ks_n ?_
   refine ACode.seq ?_
   refine ACode.region ?_
   refine .cons (.mv rfl rfl) ?_
   refine .cons (.ls rfl rfl rfl) ?_
   refine .nil ?_
   refine ks_n ?_
   refine .cD rfl (fun h25 => ?_) (fun h25 => ?_)
   ·skip
    refine ACode.seq ?_
    refine ACode.region ?_
    refine .cons (.asg rfl rfl) ?_
    refine .nil ?_
    refine ks_n ?_
    refine ACode.ret ?_
    refine kb_r ?_
    refine ks_r ?_
    refine kl_r ?_
    refine kb_r ?_
    refine ks_r ?_
    refine kf_ret rfl ?_ nobox
    exact leafI (subZ_no (by have h1 := subZ_neg h25 (by omega); have h2 := sum_take_le szS (l := xs) (i := i + 1); rw [szO]; omega)).symm
   ·skip
    have hP := subZ_pos h25
    refine ACode.skip ?_
    refine kb_n ?_
    refine ks_n ?_
    refine ACode.region ?_
    refine .cons (.mv rfl rfl) ?_
    refine .cons (.pl rfl rfl rfl) ?_
    refine .cons (.asg rfl rfl) ?_
    refine .nil ?_
    refine kl_k [] ⟨i + 1, rfl, by omega, by rw [hT]; have := subZ_pos h25; omega, rfl⟩ ⟨ks rfl .dt, ks rfl (.dt (vI (by first | (simp; done) | (rw [hT, subZ_yes (by omega)]; omega)))), ks rfl .dt, ks rfl .dt, trivial⟩
  ·skip
   have hall : xs.take i = xs := List.take_of_length_le (by omega)
   refine ACode.exit ?_
   refine ks_e ?_
   refine kl_e ?_
   refine kb_hit ?_
   refine ks_n ?_
   refine ACode.seq ?_
   refine ACode.region ?_
   refine .cons (.mv rfl rfl) ?_
   refine .cons (.asg rfl rfl) ?_
   refine .nil ?_
   refine ks_n ?_
   refine ACode.ret ?_
   refine kf_ret rfl ?_ nobox
   exact leafI (by rw [subZ_yes (by rw [szO, ← hall]; rw [hall]; rw [hall] at hF; omega), szO, hall])

set_option maxRecDepth 100000 in
set_option maxHeartbeats 1600000 in
theorem szPt_fn {x : Prt} {l : Int} (hl : 0 ≤ l ∧ l ≤ 1048576) (ho : okPrt x) : Fn Tryz.prog 74 [] [ad (rP x), nat1 l] (.o (nat1 (subZ l (szPt x)))) [] := by
 have hsz : szPt x = szLs x.1 + szO szS x.2 := rfl
 have hb1 := subZ_bd (n := szLs x.1) hl
 obtain ⟨⟨o1, o2⟩, o3, o4⟩ := ho
 refine Fn.code0 Tryz.func74 rfl rfl rfl rfl ?_
 refine ACode.seq ?_
 refine ACode.region ?_
 refine .cons (St1.boxP rfl rfl rfl rfl rfl rfl) ?_
 refine .cons (.asg rfl rfl) ?_
 refine .nil ?_
 refine ks_n ?_
 refine ACode.seq ?_
 refine ACode.region ?_
 refine .cons (.fP 0 0 false rfl rfl) ?_
 refine .cons (.l1 1 rfl rfl) ?_
 refine .cons (.mv rfl rfl) ?_
 refine .cons (.cP [.tmp 6, .tmp 7] rfl rfl rfl rfl (szLoops_fn x.1 hl o1 o2) rfl) ?_
 refine .cons (.asg rfl rfl) ?_
 refine .nil ?_
 refine ks_n ?_
 refine ACode.seq ?_
 refine ACode.seq ?_
 refine ACode.region ?_
 refine .cons (.mv rfl rfl) ?_
 refine .cons (.ls rfl rfl rfl) ?_
 refine .nil ?_
 refine ks_n ?_
 refine .cD rfl (fun h10 => ?_) (fun h10 => ?_)
 ·skip
  refine ACode.seq ?_
  refine ACode.region ?_
  refine .cons (.asg rfl rfl) ?_
  refine .nil ?_
  refine ks_n ?_
  refine ACode.ret ?_
  refine ks_r ?_
  refine kf_ret rfl ?_ nobox
  exact leafI (subZ_no (by have := subZ_neg h10 hl.1; omega)).symm
 ·skip
  refine ACode.skip ?_
  refine ks_n ?_
  refine ACode.seq ?_
  have hp1 := subZ_pos h10
  have hb2 := subZ_bd (n := szO szS x.2) (l := subZ l (szLs x.1)) (by omega)
  have e1 := subZ_yes hp1
  refine ACode.region ?_
  refine .cons (.fP 1 0 false rfl rfl) ?_
  refine .cons (.l1 1 rfl rfl) ?_
  refine .cons (.mv rfl rfl) ?_
  refine .cons (.cP [.tmp 12, .tmp 13] rfl rfl rfl rfl (szStms_fn x.2 (l := subZ l (szLs x.1)) (by omega) o3 o4) rfl) ?_
  refine .cons (.asg rfl rfl) ?_
  refine .nil ?_
  refine ks_n ?_
  refine ACode.seq ?_
  refine ACode.seq ?_
  refine ACode.region ?_
  refine .cons (.mv rfl rfl) ?_
  refine .cons (.ls rfl rfl rfl) ?_
  refine .nil ?_
  refine ks_n ?_
  refine .cD rfl (fun h16 => ?_) (fun h16 => ?_)
  ·skip
   refine ACode.seq ?_
   refine ACode.region ?_
   refine .cons (.asg rfl rfl) ?_
   refine .nil ?_
   refine ks_n ?_
   refine ACode.ret ?_
   refine ks_r ?_
   refine kf_ret rfl ?_ nobox
   exact leafI (subZ_no (by have h6 := subZ_neg h16 (by omega); omega)).symm
  ·skip
   refine ACode.skip ?_
   refine ks_n ?_
   refine ACode.seq ?_
   refine ACode.region ?_
   refine .cons (.mv rfl rfl) ?_
   refine .cons (.asg rfl rfl) ?_
   refine .nil ?_
   refine ks_n ?_
   refine ACode.ret ?_
   refine kf_ret rfl ?_ nobox
   exact leafI (by have h6 := subZ_pos h16; rw [subZ_yes h6, e1, subZ_yes (l := l) (n := szPt x) (by omega)]; omega)

set_option maxRecDepth 100000 in
set_option maxHeartbeats 1600000 in
theorem szPts_fn (xs : List Prt) {l : Int} (hl : 0 ≤ l ∧ l ≤ 1048576) (hx : xs.length ≤ 17592186044416) (hq : ∀ x ∈ xs, okPrt x) : Fn Tryz.prog 39 [] [vD (dPts xs), nat1 l] (.o (nat1 (subZ l (szO szPt xs)))) [] := by
 refine Fn.code0 Tryz.func39 rfl rfl rfl rfl ?_
 refine ACode.seq ?_
 refine ACode.region ?_
 refine .cons (.asg rfl rfl) ?_
 refine .nil ?_
 refine ks_n ?_
 refine ACode.seq ?_
 refine ACode.region ?_
 refine .cons (.mv rfl rfl) ?_
 refine .cons (.mv rfl rfl) ?_
 refine .cons (.ln 112 2 48 rfl rfl rfl) ?_
 refine .cons (.sb rfl rfl rfl) ?_
 refine .cons (.asg rfl rfl) ?_
 refine .nil ?_
 refine ks_n ?_
 refine ACode.seq ?_
 refine ACode.seq ?_
 refine ACode.region ?_
 refine .cons (.mv rfl rfl) ?_
 refine .cons (.ls rfl rfl rfl) ?_
 refine .nil ?_
 refine ks_n ?_
 refine .cD rfl (fun h11 => ?_) (fun h11 => ?_)
 ·skip
  refine ACode.seq ?_
  refine ACode.region ?_
  refine .cons (.asg rfl rfl) ?_
  refine .nil ?_
  refine ks_n ?_
  refine ACode.ret ?_
  refine ks_r ?_
  refine kf_ret rfl ?_ nobox
  exact leafI (subZ_no (by rw [szO]; omega)).symm
 ·skip
  refine ACode.skip ?_
  refine ks_n ?_
  refine ACode.seq ?_
  refine ACode.seq ?_
  refine ACode.region ?_
  refine .cons (.asg rfl rfl) ?_
  refine .nil ?_
  refine ks_n ?_
  refine ACode.block ?_
  refine .loopK (fun m σ => (∃ i : Nat, m = xs.length - i ∧ (i ≤ xs.length) ∧ (((xs.length + ((xs.take i).map szPt).sum : Nat) : Int) ≤ l) ∧ σ = [(.t 0, .v (.o (vD (dPts xs)))), (.t 1, .v (.o (nat1 (l - (xs.length + ((xs.take i).map szPt).sum : Nat))))), (.t 4, .v (.o (nat1 0))), (.t 5, .v (.o (nat1 (i : Nat))))])) [] ⟨0, rfl, by omega, by simp; omega, rfl⟩ ⟨ks rfl .dt, ks rfl (.dt (vI (by first | (simp; done) | (rw [hT, subZ_yes (by omega)]; omega)))), ks rfl .dt, ks rfl .dt, trivial⟩ ?_
  rintro m σ ⟨i, hm0, hi, hF, rfl⟩
  refine ACode.seq ?_
  refine ACode.seq ?_
  refine ACode.region ?_
  refine .cons (.mv rfl rfl) ?_
  refine .cons (.mv rfl rfl) ?_
  refine .cons (.ln 112 2 48 rfl rfl rfl) ?_
  refine .cons (.ls rfl rfl rfl) ?_
  refine .nil ?_
  refine ks_n ?_
  refine .cD rfl (fun h15 => ?_) (fun h15 => ?_)
  ·skip
   obtain ⟨x, hx1⟩ : ∃ x, xs[i]? = some x := ⟨_, List.getElem?_eq_getElem (by omega)⟩
   have hT := sum_take szPt hx1
   refine ACode.skip ?_
   refine ks_n ?_
   refine ACode.seq ?_
   refine ACode.block ?_
   refine ACode.seq ?_
   refine ACode.region ?_
   refine .cons (.mv rfl rfl) ?_
   refine .cons (.mv rfl rfl) ?_
   refine .cons (.xL 112 2 48 rfl rfl rfl rfl rfl) ?_
   refine .cons (.lN 2 rfl rfl rfl) ?_
   refine .cons (.mv rfl rfl) ?_
   refine .cons (.cP [.tmp 21, .tmp 22] rfl rfl rfl rfl (szPt_fn (l := (l - (xs.length + ((xs.take i).map szPt).sum : Nat))) (by omega) (hq x (List.mem_of_getElem? hx1))) rfl) ?_
   refine .cons (.asg rfl rfl) ?_
   refine .nil ?_
   refine ks_n ?_
   refine ACode.seq ?_
   refine ACode.region ?_
   refine .cons (.mv rfl rfl) ?_
   refine .cons (.ls rfl rfl rfl) ?_
   refine .nil ?_
   refine ks_n ?_
   refine .cD rfl (fun h25 => ?_) (fun h25 => ?_)
   ·skip
    refine ACode.seq ?_
    refine ACode.region ?_
    refine .cons (.asg rfl rfl) ?_
    refine .nil ?_
    refine ks_n ?_
    refine ACode.ret ?_
    refine kb_r ?_
    refine ks_r ?_
    refine kl_r ?_
    refine kb_r ?_
    refine ks_r ?_
    refine kf_ret rfl ?_ nobox
    exact leafI (subZ_no (by have h1 := subZ_neg h25 (by omega); have h2 := sum_take_le szPt (l := xs) (i := i + 1); rw [szO]; omega)).symm
   ·skip
    have hP := subZ_pos h25
    refine ACode.skip ?_
    refine kb_n ?_
    refine ks_n ?_
    refine ACode.region ?_
    refine .cons (.mv rfl rfl) ?_
    refine .cons (.pl rfl rfl rfl) ?_
    refine .cons (.asg rfl rfl) ?_
    refine .nil ?_
    refine kl_k [] ⟨i + 1, rfl, by omega, by rw [hT]; have := subZ_pos h25; omega, rfl⟩ ⟨ks rfl .dt, ks rfl (.dt (vI (by first | (simp; done) | (rw [hT, subZ_yes (by omega)]; omega)))), ks rfl .dt, ks rfl .dt, trivial⟩
  ·skip
   have hall : xs.take i = xs := List.take_of_length_le (by omega)
   refine ACode.exit ?_
   refine ks_e ?_
   refine kl_e ?_
   refine kb_hit ?_
   refine ks_n ?_
   refine ACode.seq ?_
   refine ACode.region ?_
   refine .cons (.mv rfl rfl) ?_
   refine .cons (.asg rfl rfl) ?_
   refine .nil ?_
   refine ks_n ?_
   refine ACode.ret ?_
   refine kf_ret rfl ?_ nobox
   exact leafI (by rw [subZ_yes (by rw [szO, ← hall]; rw [hall]; rw [hall] at hF; omega), szO, hall])

set_option maxRecDepth 100000 in
set_option maxHeartbeats 1600000 in
theorem szPrg_fn {x : Prg} {l : Int} (hl : 0 ≤ l ∧ l ≤ 1048576) (ho : okPrg x) : Fn Tryz.prog 11 [] [ad (rG x), nat1 l] (.o (nat1 (subZ l (szG x)))) [] := by
 have hsz : szG x = szO szR x.1 + szO szPt x.2 := rfl
 have hb1 := subZ_bd (n := szO szR x.1) hl
 obtain ⟨⟨o1, o2⟩, o3, o4⟩ := ho
 refine Fn.code0 Tryz.func11 rfl rfl rfl rfl ?_
 refine ACode.seq ?_
 refine ACode.region ?_
 refine .cons (St1.boxP rfl rfl rfl rfl rfl rfl) ?_
 refine .cons (.asg rfl rfl) ?_
 refine .nil ?_
 refine ks_n ?_
 refine ACode.seq ?_
 refine ACode.region ?_
 refine .cons (.fP 0 0 false rfl rfl) ?_
 refine .cons (.l1 1 rfl rfl) ?_
 refine .cons (.mv rfl rfl) ?_
 refine .cons (.cP [.tmp 6, .tmp 7] rfl rfl rfl rfl (szArrs_fn x.1 hl o1 o2) rfl) ?_
 refine .cons (.asg rfl rfl) ?_
 refine .nil ?_
 refine ks_n ?_
 refine ACode.seq ?_
 refine ACode.seq ?_
 refine ACode.region ?_
 refine .cons (.mv rfl rfl) ?_
 refine .cons (.ls rfl rfl rfl) ?_
 refine .nil ?_
 refine ks_n ?_
 refine .cD rfl (fun h10 => ?_) (fun h10 => ?_)
 ·skip
  refine ACode.seq ?_
  refine ACode.region ?_
  refine .cons (.asg rfl rfl) ?_
  refine .nil ?_
  refine ks_n ?_
  refine ACode.ret ?_
  refine ks_r ?_
  refine kf_ret rfl ?_ nobox
  exact leafI (subZ_no (by have := subZ_neg h10 hl.1; omega)).symm
 ·skip
  refine ACode.skip ?_
  refine ks_n ?_
  refine ACode.seq ?_
  have hp1 := subZ_pos h10
  have hb2 := subZ_bd (n := szO szPt x.2) (l := subZ l (szO szR x.1)) (by omega)
  have e1 := subZ_yes hp1
  refine ACode.region ?_
  refine .cons (.fP 1 0 false rfl rfl) ?_
  refine .cons (.l1 1 rfl rfl) ?_
  refine .cons (.mv rfl rfl) ?_
  refine .cons (.cP [.tmp 12, .tmp 13] rfl rfl rfl rfl (szPts_fn x.2 (l := subZ l (szO szR x.1)) (by omega) o3 o4) rfl) ?_
  refine .cons (.asg rfl rfl) ?_
  refine .nil ?_
  refine ks_n ?_
  refine ACode.seq ?_
  refine ACode.seq ?_
  refine ACode.region ?_
  refine .cons (.mv rfl rfl) ?_
  refine .cons (.ls rfl rfl rfl) ?_
  refine .nil ?_
  refine ks_n ?_
  refine .cD rfl (fun h16 => ?_) (fun h16 => ?_)
  ·skip
   refine ACode.seq ?_
   refine ACode.region ?_
   refine .cons (.asg rfl rfl) ?_
   refine .nil ?_
   refine ks_n ?_
   refine ACode.ret ?_
   refine ks_r ?_
   refine kf_ret rfl ?_ nobox
   exact leafI (subZ_no (by have h6 := subZ_neg h16 (by omega); omega)).symm
  ·skip
   refine ACode.skip ?_
   refine ks_n ?_
   refine ACode.seq ?_
   refine ACode.region ?_
   refine .cons (.mv rfl rfl) ?_
   refine .cons (.asg rfl rfl) ?_
   refine .nil ?_
   refine ks_n ?_
   refine ACode.ret ?_
   refine kf_ret rfl ?_ nobox
   exact leafI (by have h6 := subZ_pos h16; rw [subZ_yes h6, e1, subZ_yes (l := l) (n := szG x) (by omega)]; omega)

set_option maxRecDepth 100000 in
set_option maxHeartbeats 1600000 in
theorem eqArr_fn (x y : Arr) (h : szR x ≤ 1073741824) : Fn Tryz.prog 83 [] [ad (rR x), ad (rR y)] (.o (bo1 (decide (x = y)))) [] := by
 rw [szR] at h
 refine Fn.code0 Tryz.func83 rfl rfl rfl rfl ?_
 refine ACode.seq ?_
 refine ACode.region ?_
 refine .cons (St1.boxP rfl rfl rfl rfl rfl rfl) ?_
 refine .cons (St1.boxP rfl rfl rfl rfl rfl rfl) ?_
 refine .cons (.asg rfl rfl) ?_
 refine .nil ?_
 refine ks_n ?_
 refine ACode.seq ?_
 refine ACode.seq ?_
 refine ACode.region ?_
 refine .cons (.fP 0 0 false rfl rfl) ?_
 refine .cons (.l1 1 rfl rfl) ?_
 refine .cons (.fP 0 0 false rfl rfl) ?_
 refine .cons (.l1 1 rfl rfl) ?_
 refine .cons (St1.neS rfl rfl rfl) ?_
 refine .nil ?_
 refine ks_n ?_
 refine ACode.condT rfl (fun h9 => ?_) (fun h9 => ?_)
 ·try simp only [zs1, zs2, zs3, zs4, zs5, zs6, zs7] at h9
  refine ACode.seq ?_
  refine ACode.region ?_
  refine .cons (.asg rfl rfl) ?_
  refine .nil ?_
  refine ks_n ?_
  refine ACode.ret ?_
  refine ks_r ?_
  refine kf_ret rfl ?_ nobox
  exact leafB (by rw [Bool.eq_iff_iff]; simp only [decide_eq_true_eq, Prod.ext_iff, ← sEq_iff]; first | (simp [*]; done) | (simp_all; done))
 ·try simp only [zs1, zs2, zs3, zs4, zs5, zs6, zs7] at h9
  refine ACode.skip ?_
  refine ks_n ?_
  refine ACode.seq ?_
  refine ACode.seq ?_
  refine ACode.region ?_
  refine .cons (.fP 1 0 false rfl rfl) ?_
  refine .cons (.l1 1 rfl rfl) ?_
  refine .cons (.fP 1 0 false rfl rfl) ?_
  refine .cons (.l1 1 rfl rfl) ?_
  refine .cons (.cP [.tmp 11, .tmp 13] rfl rfl rfl rfl (eqInts_fn _ _ (by omega)) rfl) ?_
  refine .cons (.nt rfl rfl) ?_
  refine .nil ?_
  refine ks_n ?_
  refine ACode.condT rfl (fun h15 => ?_) (fun h15 => ?_)
  ·try simp only [zs1, zs2, zs3, zs4, zs5, zs6, zs7] at h15
   refine ACode.seq ?_
   refine ACode.region ?_
   refine .cons (.asg rfl rfl) ?_
   refine .nil ?_
   refine ks_n ?_
   refine ACode.ret ?_
   refine ks_r ?_
   refine kf_ret rfl ?_ nobox
   exact leafB (by rw [Bool.eq_iff_iff]; simp only [decide_eq_true_eq, Prod.ext_iff, ← sEq_iff]; first | (simp [*]; done) | (simp_all; done))
  ·try simp only [zs1, zs2, zs3, zs4, zs5, zs6, zs7] at h15
   refine ACode.skip ?_
   refine ks_n ?_
   refine ACode.seq ?_
   refine ACode.region ?_
   refine .cons (.asg rfl rfl) ?_
   refine .nil ?_
   refine ks_n ?_
   refine ACode.ret ?_
   refine kf_ret rfl ?_ nobox
   exact leafB (by rw [Bool.eq_iff_iff]; simp only [decide_eq_true_eq, Prod.ext_iff, ← sEq_iff]; first | (simp [*]; done) | (simp_all; done))

set_option maxRecDepth 100000 in
set_option maxHeartbeats 1600000 in
theorem eqArrs_f (xs ys : List Arr) (hx : xs.length ≤ 1099511627776) (hq : ∀ x ∈ xs, szR x ≤ 1073741824) : Fn Tryz.prog 46 [] [vD (dRs xs), vD (dRs ys)] (.o (bo1 (eqF (fun x y : Arr => decide (x = y)) xs ys))) [] := by
 refine Fn.code0 Tryz.func46 rfl rfl rfl rfl ?_
 refine ACode.seq ?_
 refine ACode.region ?_
 refine .cons (.asg rfl rfl) ?_
 refine .nil ?_
 refine ks_n ?_
 refine ACode.seq ?_
 refine ACode.seq ?_
 refine ACode.region ?_
 refine .cons (.mv rfl rfl) ?_
 refine .cons (.ln 122 2 40 rfl rfl rfl) ?_
 refine .cons (.mv rfl rfl) ?_
 refine .cons (.ln 122 2 40 rfl rfl rfl) ?_
 refine .cons (.ne rfl rfl rfl) ?_
 refine .nil ?_
 refine ks_n ?_
 refine .cND rfl (fun h10 => ?_) (fun h10 => ?_)
 ·skip
  refine ACode.seq ?_
  refine ACode.region ?_
  refine .cons (.asg rfl rfl) ?_
  refine .nil ?_
  refine ks_n ?_
  refine ACode.ret ?_
  refine ks_r ?_
  refine kf_ret rfl ?_ nobox
  exact leafB (eqF_len (by omega)).symm
 ·skip
  refine ACode.skip ?_
  refine ks_n ?_
  refine ACode.seq ?_
  refine ACode.seq ?_
  refine ACode.region ?_
  refine .cons (.asg rfl rfl) ?_
  refine .nil ?_
  refine ks_n ?_
  refine ACode.block ?_
  refine .loopK (fun m σ => (∃ i : Nat, m = xs.length - i ∧ (i ≤ xs.length) ∧ (eqF (fun x y : Arr => decide (x = y)) xs ys = eqF (fun x y : Arr => decide (x = y)) (xs.drop i) (ys.drop i)) ∧ σ = [(.t 0, .v (.o (vD (dRs xs)))), (.t 1, .v (.o (vD (dRs ys)))), (.t 4, .v (.o (bo1 false))), (.t 5, .v (.o (nat1 (i : Nat))))])) [] ⟨0, rfl, by omega, by simp, rfl⟩ ⟨ks rfl .dt, ks rfl .dt, ks rfl .dt, ks rfl .dt, trivial⟩ ?_
  rintro m σ ⟨i, hm0, hi, hF, rfl⟩
  refine ACode.seq ?_
  refine ACode.seq ?_
  refine ACode.region ?_
  refine .cons (.mv rfl rfl) ?_
  refine .cons (.mv rfl rfl) ?_
  refine .cons (.ln 122 2 40 rfl rfl rfl) ?_
  refine .cons (.ls rfl rfl rfl) ?_
  refine .nil ?_
  refine ks_n ?_
  refine .cD rfl (fun h14 => ?_) (fun h14 => ?_)
  ·skip
   obtain ⟨x, hx1⟩ : ∃ x, xs[i]? = some x := ⟨_, List.getElem?_eq_getElem (by omega)⟩
   obtain ⟨y, hy1⟩ : ∃ x, ys[i]? = some x := ⟨_, List.getElem?_eq_getElem (by omega)⟩
   refine ACode.skip ?_
   refine ks_n ?_
   refine ACode.seq ?_
   refine ACode.block ?_
   refine ACode.seq ?_
   refine ACode.drawK (by kernel_rfl) (by kernel_rfl) ?_
   refine .cons (.mv rfl rfl) ?_
   refine .cons (.mv rfl rfl) ?_
   refine .cons (.xL 122 2 40 rfl rfl rfl rfl rfl (map_at hx1)) ?_
   refine .cons (.lN 2 rfl rfl rfl) ?_
   refine .cons (.mv rfl rfl) ?_
   refine .cons (.mv rfl rfl) ?_
   refine .cons (.xL 122 2 40 rfl rfl rfl rfl rfl (map_at hy1)) ?_
   refine .cons (.lN 2 rfl rfl rfl) ?_
   refine .cons (.cP [.tmp 20, .tmp 24] rfl rfl rfl rfl (eqArr_fn x y (hq x (List.mem_of_getElem? hx1))) rfl) ?_
   refine .cons (.nt rfl rfl) ?_
   refine .nil ⟨by kernel_rfl, ?_⟩
   refine ks_n ?_
   refine ACode.condT rfl (fun h26 => ?_) (fun h26 => ?_)
   ·try simp only [zs1, zs2, zs3, zs4, zs5, zs6, zs7] at h26
    have g : decide (x = y) = false := by first | assumption | exact decide_eq_false (by assumption) | (simp; omega)
    refine ACode.seq ?_
    refine ACode.region ?_
    refine .cons (.asg rfl rfl) ?_
    refine .nil ?_
    refine ks_n ?_
    refine ACode.ret ?_
    refine kb_r ?_
    refine ks_r ?_
    refine kl_r ?_
    refine kb_r ?_
    refine ks_r ?_
    refine kf_ret rfl ?_ nobox
    exact leafB (by rw [hF, eqF_drop hx1 hy1, g]; rfl)
   ·try simp only [zs1, zs2, zs3, zs4, zs5, zs6, zs7] at h26
    have g : decide (x = y) = true := by first | assumption | exact decide_eq_true (by assumption) | (simp; omega)
    refine ACode.skip ?_
    refine kb_n ?_
    refine ks_n ?_
    refine ACode.region ?_
    refine .cons (.mv rfl rfl) ?_
    refine .cons (.pl rfl rfl rfl) ?_
    refine .cons (.asg rfl rfl) ?_
    refine .nil ?_
    refine kl_k [] ⟨i + 1, rfl, by omega, by rw [hF, eqF_drop hx1 hy1, g, Bool.true_and], rfl⟩ ⟨ks rfl .dt, ks rfl .dt, ks rfl .dt, ks rfl .dt, trivial⟩
  ·skip
   refine ACode.exit ?_
   refine ks_e ?_
   refine kl_e ?_
   refine kb_hit ?_
   refine ks_n ?_
   refine ACode.seq ?_
   refine ACode.region ?_
   refine .cons (.asg rfl rfl) ?_
   refine .nil ?_
   refine ks_n ?_
   refine ACode.ret ?_
   refine kf_ret rfl ?_ nobox
   exact leafB (by rw [hF, show i = xs.length by omega, eqF_end (by omega)])

theorem eqArrs_fn (xs ys : List Arr) (h : szO szR xs ≤ 1073741824) : Fn Tryz.prog 46 [] [vD (dRs xs), vD (dRs ys)] (.o (bo1 (decide (xs = ys)))) [] := by
  have hl := szO_len (f := szR) xs
  rw [← eqF_dec]; exact eqArrs_f xs ys (by omega) fun x hx => by have := szO_mem (f := szR) hx; omega

set_option maxRecDepth 100000 in
set_option maxHeartbeats 1600000 in
theorem eqStms_fn (xs ys : List Stm) (hx : xs.length ≤ 1099511627776) (hq : ∀ x ∈ xs, szS x ≤ 1073741824) : Fn Tryz.prog 128 [] [vD (dMs xs), vD (dMs ys)] (.o (bo1 (eqF sameS xs ys))) [] := by
 refine Fn.code0 Tryz.func128 rfl rfl rfl rfl ?_
 refine ACode.seq ?_
 refine ACode.region ?_
 refine .cons (.asg rfl rfl) ?_
 refine .nil ?_
 refine ks_n ?_
 refine ACode.seq ?_
 refine ACode.seq ?_
 refine ACode.region ?_
 refine .cons (.mv rfl rfl) ?_
 refine .cons (.ln 91 9 152 rfl rfl rfl) ?_
 refine .cons (.mv rfl rfl) ?_
 refine .cons (.ln 91 9 152 rfl rfl rfl) ?_
 refine .cons (.ne rfl rfl rfl) ?_
 refine .nil ?_
 refine ks_n ?_
 refine .cND rfl (fun h10 => ?_) (fun h10 => ?_)
 ·skip
  refine ACode.seq ?_
  refine ACode.region ?_
  refine .cons (.asg rfl rfl) ?_
  refine .nil ?_
  refine ks_n ?_
  refine ACode.ret ?_
  refine ks_r ?_
  refine kf_ret rfl ?_ nobox
  exact leafB (eqF_len (by omega)).symm
 ·skip
  refine ACode.skip ?_
  refine ks_n ?_
  refine ACode.seq ?_
  refine ACode.seq ?_
  refine ACode.region ?_
  refine .cons (.asg rfl rfl) ?_
  refine .nil ?_
  refine ks_n ?_
  refine ACode.block ?_
  refine .loopK (fun m σ => (∃ i : Nat, m = xs.length - i ∧ (i ≤ xs.length) ∧ (eqF sameS xs ys = eqF sameS (xs.drop i) (ys.drop i)) ∧ σ = [(.t 0, .v (.o (vD (dMs xs)))), (.t 1, .v (.o (vD (dMs ys)))), (.t 4, .v (.o (bo1 false))), (.t 5, .v (.o (nat1 (i : Nat))))])) [] ⟨0, rfl, by omega, by simp, rfl⟩ ⟨ks rfl .dt, ks rfl .dt, ks rfl .dt, ks rfl .dt, trivial⟩ ?_
  rintro m σ ⟨i, hm0, hi, hF, rfl⟩
  refine ACode.seq ?_
  refine ACode.seq ?_
  refine ACode.region ?_
  refine .cons (.mv rfl rfl) ?_
  refine .cons (.mv rfl rfl) ?_
  refine .cons (.ln 91 9 152 rfl rfl rfl) ?_
  refine .cons (.ls rfl rfl rfl) ?_
  refine .nil ?_
  refine ks_n ?_
  refine .cD rfl (fun h14 => ?_) (fun h14 => ?_)
  ·skip
   obtain ⟨x, hx1⟩ : ∃ x, xs[i]? = some x := ⟨_, List.getElem?_eq_getElem (by omega)⟩
   obtain ⟨y, hy1⟩ : ∃ x, ys[i]? = some x := ⟨_, List.getElem?_eq_getElem (by omega)⟩
   refine ACode.skip ?_
   refine ks_n ?_
   refine ACode.seq ?_
   refine ACode.block ?_
   refine ACode.seq ?_
   refine ACode.drawK (by kernel_rfl) (by kernel_rfl) ?_
   refine .cons (.mv rfl rfl) ?_
   refine .cons (.mv rfl rfl) ?_
   refine .cons (.xL 91 9 152 rfl rfl rfl rfl rfl (map_at hx1)) ?_
   refine .cons (.lN 9 rfl rfl rfl) ?_
   refine .cons (.mv rfl rfl) ?_
   refine .cons (.mv rfl rfl) ?_
   refine .cons (.xL 91 9 152 rfl rfl rfl rfl rfl (map_at hy1)) ?_
   refine .cons (.lN 9 rfl rfl rfl) ?_
   refine .cons (.cP [.tmp 20, .tmp 24] rfl rfl rfl rfl (eqStm_fn x y (hq x (List.mem_of_getElem? hx1))) rfl) ?_
   refine .cons (.nt rfl rfl) ?_
   refine .nil ⟨by kernel_rfl, ?_⟩
   refine ks_n ?_
   refine ACode.condT rfl (fun h26 => ?_) (fun h26 => ?_)
   ·try simp only [zs1, zs2, zs3, zs4, zs5, zs6, zs7] at h26
    have g : sameS x y = false := by first | assumption | exact decide_eq_false (by assumption) | (simp; omega)
    refine ACode.seq ?_
    refine ACode.region ?_
    refine .cons (.asg rfl rfl) ?_
    refine .nil ?_
    refine ks_n ?_
    refine ACode.ret ?_
    refine kb_r ?_
    refine ks_r ?_
    refine kl_r ?_
    refine kb_r ?_
    refine ks_r ?_
    refine kf_ret rfl ?_ nobox
    exact leafB (by rw [hF, eqF_drop hx1 hy1, g]; rfl)
   ·try simp only [zs1, zs2, zs3, zs4, zs5, zs6, zs7] at h26
    have g : sameS x y = true := by first | assumption | exact decide_eq_true (by assumption) | (simp; omega)
    refine ACode.skip ?_
    refine kb_n ?_
    refine ks_n ?_
    refine ACode.region ?_
    refine .cons (.mv rfl rfl) ?_
    refine .cons (.pl rfl rfl rfl) ?_
    refine .cons (.asg rfl rfl) ?_
    refine .nil ?_
    refine kl_k [] ⟨i + 1, rfl, by omega, by rw [hF, eqF_drop hx1 hy1, g, Bool.true_and], rfl⟩ ⟨ks rfl .dt, ks rfl .dt, ks rfl .dt, ks rfl .dt, trivial⟩
  ·skip
   refine ACode.exit ?_
   refine ks_e ?_
   refine kl_e ?_
   refine kb_hit ?_
   refine ks_n ?_
   refine ACode.seq ?_
   refine ACode.region ?_
   refine .cons (.asg rfl rfl) ?_
   refine .nil ?_
   refine ks_n ?_
   refine ACode.ret ?_
   refine kf_ret rfl ?_ nobox
   exact leafB (by rw [hF, show i = xs.length by omega, eqF_end (by omega)])

set_option maxRecDepth 100000 in
set_option maxHeartbeats 1600000 in
theorem eqPt_fn (x y : Prt) (h : szPt x ≤ 1073741824) : Fn Tryz.prog 84 [] [ad (rP x), ad (rP y)] (.o (bo1 (sameP x y))) [] := by
 have hsz : szPt x = szLs x.1 + szO szS x.2 := rfl
 have h1 := szLs_len x.1
 have h2 := szO_len (f := szS) x.2
 refine Fn.code0 Tryz.func84 rfl rfl rfl rfl ?_
 refine ACode.seq ?_
 refine ACode.region ?_
 refine .cons (St1.boxP rfl rfl rfl rfl rfl rfl) ?_
 refine .cons (St1.boxP rfl rfl rfl rfl rfl rfl) ?_
 refine .cons (.asg rfl rfl) ?_
 refine .nil ?_
 refine ks_n ?_
 refine ACode.seq ?_
 refine ACode.seq ?_
 refine ACode.region ?_
 refine .cons (.fP 0 0 false rfl rfl) ?_
 refine .cons (.l1 1 rfl rfl) ?_
 refine .cons (.fP 0 0 false rfl rfl) ?_
 refine .cons (.l1 1 rfl rfl) ?_
 refine .cons (.cP [.tmp 6, .tmp 8] rfl rfl rfl rfl (eqLoops_fn _ _ (by omega)) rfl) ?_
 refine .cons (.nt rfl rfl) ?_
 refine .nil ?_
 refine ks_n ?_
 refine ACode.condT rfl (fun h10 => ?_) (fun h10 => ?_)
 ·try simp only [zs1, zs2, zs3, zs4, zs5, zs6, zs7] at h10
  refine ACode.seq ?_
  refine ACode.region ?_
  refine .cons (.asg rfl rfl) ?_
  refine .nil ?_
  refine ks_n ?_
  refine ACode.ret ?_
  refine ks_r ?_
  refine kf_ret rfl ?_ nobox
  exact leafB (by rw [sameP]; first | (simp [*]; done) | grind)
 ·try simp only [zs1, zs2, zs3, zs4, zs5, zs6, zs7] at h10
  refine ACode.skip ?_
  refine ks_n ?_
  refine ACode.seq ?_
  refine ACode.seq ?_
  refine ACode.region ?_
  refine .cons (.fP 1 0 false rfl rfl) ?_
  refine .cons (.l1 1 rfl rfl) ?_
  refine .cons (.fP 1 0 false rfl rfl) ?_
  refine .cons (.l1 1 rfl rfl) ?_
  refine .cons (.cP [.tmp 12, .tmp 14] rfl rfl rfl rfl (eqStms_fn _ _ (by omega) (fun s hs => by have := szO_mem (f := szS) hs; omega)) rfl) ?_
  refine .cons (.nt rfl rfl) ?_
  refine .nil ?_
  refine ks_n ?_
  refine ACode.condT rfl (fun h16 => ?_) (fun h16 => ?_)
  ·try simp only [zs1, zs2, zs3, zs4, zs5, zs6, zs7] at h16
   refine ACode.seq ?_
   refine ACode.region ?_
   refine .cons (.asg rfl rfl) ?_
   refine .nil ?_
   refine ks_n ?_
   refine ACode.ret ?_
   refine ks_r ?_
   refine kf_ret rfl ?_ nobox
   exact leafB (by rw [sameP]; first | (simp [*]; done) | grind)
  ·try simp only [zs1, zs2, zs3, zs4, zs5, zs6, zs7] at h16
   refine ACode.skip ?_
   refine ks_n ?_
   refine ACode.seq ?_
   refine ACode.region ?_
   refine .cons (.asg rfl rfl) ?_
   refine .nil ?_
   refine ks_n ?_
   refine ACode.ret ?_
   refine kf_ret rfl ?_ nobox
   exact leafB (by rw [sameP]; first | (simp [*]; done) | grind)

set_option maxRecDepth 100000 in
set_option maxHeartbeats 1600000 in
theorem eqPts_fn (xs ys : List Prt) (hx : xs.length ≤ 1099511627776) (hq : ∀ x ∈ xs, szPt x ≤ 1073741824) : Fn Tryz.prog 47 [] [vD (dPts xs), vD (dPts ys)] (.o (bo1 (eqF sameP xs ys))) [] := by
 refine Fn.code0 Tryz.func47 rfl rfl rfl rfl ?_
 refine ACode.seq ?_
 refine ACode.region ?_
 refine .cons (.asg rfl rfl) ?_
 refine .nil ?_
 refine ks_n ?_
 refine ACode.seq ?_
 refine ACode.seq ?_
 refine ACode.region ?_
 refine .cons (.mv rfl rfl) ?_
 refine .cons (.ln 119 2 48 rfl rfl rfl) ?_
 refine .cons (.mv rfl rfl) ?_
 refine .cons (.ln 119 2 48 rfl rfl rfl) ?_
 refine .cons (.ne rfl rfl rfl) ?_
 refine .nil ?_
 refine ks_n ?_
 refine .cND rfl (fun h10 => ?_) (fun h10 => ?_)
 ·skip
  refine ACode.seq ?_
  refine ACode.region ?_
  refine .cons (.asg rfl rfl) ?_
  refine .nil ?_
  refine ks_n ?_
  refine ACode.ret ?_
  refine ks_r ?_
  refine kf_ret rfl ?_ nobox
  exact leafB (eqF_len (by omega)).symm
 ·skip
  refine ACode.skip ?_
  refine ks_n ?_
  refine ACode.seq ?_
  refine ACode.seq ?_
  refine ACode.region ?_
  refine .cons (.asg rfl rfl) ?_
  refine .nil ?_
  refine ks_n ?_
  refine ACode.block ?_
  refine .loopK (fun m σ => (∃ i : Nat, m = xs.length - i ∧ (i ≤ xs.length) ∧ (eqF sameP xs ys = eqF sameP (xs.drop i) (ys.drop i)) ∧ σ = [(.t 0, .v (.o (vD (dPts xs)))), (.t 1, .v (.o (vD (dPts ys)))), (.t 4, .v (.o (bo1 false))), (.t 5, .v (.o (nat1 (i : Nat))))])) [] ⟨0, rfl, by omega, by simp, rfl⟩ ⟨ks rfl .dt, ks rfl .dt, ks rfl .dt, ks rfl .dt, trivial⟩ ?_
  rintro m σ ⟨i, hm0, hi, hF, rfl⟩
  refine ACode.seq ?_
  refine ACode.seq ?_
  refine ACode.region ?_
  refine .cons (.mv rfl rfl) ?_
  refine .cons (.mv rfl rfl) ?_
  refine .cons (.ln 119 2 48 rfl rfl rfl) ?_
  refine .cons (.ls rfl rfl rfl) ?_
  refine .nil ?_
  refine ks_n ?_
  refine .cD rfl (fun h14 => ?_) (fun h14 => ?_)
  ·skip
   obtain ⟨x, hx1⟩ : ∃ x, xs[i]? = some x := ⟨_, List.getElem?_eq_getElem (by omega)⟩
   obtain ⟨y, hy1⟩ : ∃ x, ys[i]? = some x := ⟨_, List.getElem?_eq_getElem (by omega)⟩
   refine ACode.skip ?_
   refine ks_n ?_
   refine ACode.seq ?_
   refine ACode.block ?_
   refine ACode.seq ?_
   refine ACode.drawK (by kernel_rfl) (by kernel_rfl) ?_
   refine .cons (.mv rfl rfl) ?_
   refine .cons (.mv rfl rfl) ?_
   refine .cons (.xL 119 2 48 rfl rfl rfl rfl rfl (map_at hx1)) ?_
   refine .cons (.lN 2 rfl rfl rfl) ?_
   refine .cons (.mv rfl rfl) ?_
   refine .cons (.mv rfl rfl) ?_
   refine .cons (.xL 119 2 48 rfl rfl rfl rfl rfl (map_at hy1)) ?_
   refine .cons (.lN 2 rfl rfl rfl) ?_
   refine .cons (.cP [.tmp 20, .tmp 24] rfl rfl rfl rfl (eqPt_fn x y (hq x (List.mem_of_getElem? hx1))) rfl) ?_
   refine .cons (.nt rfl rfl) ?_
   refine .nil ⟨by kernel_rfl, ?_⟩
   refine ks_n ?_
   refine ACode.condT rfl (fun h26 => ?_) (fun h26 => ?_)
   ·try simp only [zs1, zs2, zs3, zs4, zs5, zs6, zs7] at h26
    have g : sameP x y = false := by first | assumption | exact decide_eq_false (by assumption) | (simp; omega)
    refine ACode.seq ?_
    refine ACode.region ?_
    refine .cons (.asg rfl rfl) ?_
    refine .nil ?_
    refine ks_n ?_
    refine ACode.ret ?_
    refine kb_r ?_
    refine ks_r ?_
    refine kl_r ?_
    refine kb_r ?_
    refine ks_r ?_
    refine kf_ret rfl ?_ nobox
    exact leafB (by rw [hF, eqF_drop hx1 hy1, g]; rfl)
   ·try simp only [zs1, zs2, zs3, zs4, zs5, zs6, zs7] at h26
    have g : sameP x y = true := by first | assumption | exact decide_eq_true (by assumption) | (simp; omega)
    refine ACode.skip ?_
    refine kb_n ?_
    refine ks_n ?_
    refine ACode.region ?_
    refine .cons (.mv rfl rfl) ?_
    refine .cons (.pl rfl rfl rfl) ?_
    refine .cons (.asg rfl rfl) ?_
    refine .nil ?_
    refine kl_k [] ⟨i + 1, rfl, by omega, by rw [hF, eqF_drop hx1 hy1, g, Bool.true_and], rfl⟩ ⟨ks rfl .dt, ks rfl .dt, ks rfl .dt, ks rfl .dt, trivial⟩
  ·skip
   refine ACode.exit ?_
   refine ks_e ?_
   refine kl_e ?_
   refine kb_hit ?_
   refine ks_n ?_
   refine ACode.seq ?_
   refine ACode.region ?_
   refine .cons (.asg rfl rfl) ?_
   refine .nil ?_
   refine ks_n ?_
   refine ACode.ret ?_
   refine kf_ret rfl ?_ nobox
   exact leafB (by rw [hF, show i = xs.length by omega, eqF_end (by omega)])

set_option maxRecDepth 100000 in
set_option maxHeartbeats 1600000 in
theorem eqPrg_fn (x y : Prg) (h : szG x ≤ 1073741824) : Fn Tryz.prog 16 [] [ad (rG x), ad (rG y)] (.o (bo1 (sameG x y))) [] := by
 have hsz : szG x = szO szR x.1 + szO szPt x.2 := rfl
 have h1 := szO_len (f := szR) x.1
 have h2 := szO_len (f := szPt) x.2
 refine Fn.code0 Tryz.func16 rfl rfl rfl rfl ?_
 refine ACode.seq ?_
 refine ACode.region ?_
 refine .cons (St1.boxP rfl rfl rfl rfl rfl rfl) ?_
 refine .cons (St1.boxP rfl rfl rfl rfl rfl rfl) ?_
 refine .cons (.asg rfl rfl) ?_
 refine .nil ?_
 refine ks_n ?_
 refine ACode.seq ?_
 refine ACode.seq ?_
 refine ACode.region ?_
 refine .cons (.fP 0 0 false rfl rfl) ?_
 refine .cons (.l1 1 rfl rfl) ?_
 refine .cons (.fP 0 0 false rfl rfl) ?_
 refine .cons (.l1 1 rfl rfl) ?_
 refine .cons (.cP [.tmp 6, .tmp 8] rfl rfl rfl rfl (eqArrs_fn _ _ (by omega)) rfl) ?_
 refine .cons (.nt rfl rfl) ?_
 refine .nil ?_
 refine ks_n ?_
 refine ACode.condT rfl (fun h10 => ?_) (fun h10 => ?_)
 ·try simp only [zs1, zs2, zs3, zs4, zs5, zs6, zs7] at h10
  refine ACode.seq ?_
  refine ACode.region ?_
  refine .cons (.asg rfl rfl) ?_
  refine .nil ?_
  refine ks_n ?_
  refine ACode.ret ?_
  refine ks_r ?_
  refine kf_ret rfl ?_ nobox
  exact leafB (by rw [sameG]; first | (simp [*]; done) | grind)
 ·try simp only [zs1, zs2, zs3, zs4, zs5, zs6, zs7] at h10
  refine ACode.skip ?_
  refine ks_n ?_
  refine ACode.seq ?_
  refine ACode.seq ?_
  refine ACode.region ?_
  refine .cons (.fP 1 0 false rfl rfl) ?_
  refine .cons (.l1 1 rfl rfl) ?_
  refine .cons (.fP 1 0 false rfl rfl) ?_
  refine .cons (.l1 1 rfl rfl) ?_
  refine .cons (.cP [.tmp 12, .tmp 14] rfl rfl rfl rfl (eqPts_fn _ _ (by omega) (fun s hs => by have := szO_mem (f := szPt) hs; omega)) rfl) ?_
  refine .cons (.nt rfl rfl) ?_
  refine .nil ?_
  refine ks_n ?_
  refine ACode.condT rfl (fun h16 => ?_) (fun h16 => ?_)
  ·try simp only [zs1, zs2, zs3, zs4, zs5, zs6, zs7] at h16
   refine ACode.seq ?_
   refine ACode.region ?_
   refine .cons (.asg rfl rfl) ?_
   refine .nil ?_
   refine ks_n ?_
   refine ACode.ret ?_
   refine ks_r ?_
   refine kf_ret rfl ?_ nobox
   exact leafB (by rw [sameG]; first | (simp [*]; done) | grind)
  ·try simp only [zs1, zs2, zs3, zs4, zs5, zs6, zs7] at h16
   refine ACode.skip ?_
   refine ks_n ?_
   refine ACode.seq ?_
   refine ACode.region ?_
   refine .cons (.asg rfl rfl) ?_
   refine .nil ?_
   refine ks_n ?_
   refine ACode.ret ?_
   refine kf_ret rfl ?_ nobox
   exact leafB (by rw [sameG]; first | (simp [*]; done) | grind)
theorem wgtR_map {α : Type} {f : α → List D} {s : α → Nat} {c : Nat} : ∀ {l : List α}, (∀ x ∈ l, wgtL (f x) ≤ c * (1 + s x)) → wgtR (l.map f) ≤ c * (l.length + (l.map s).sum)
  | [], _ => by simp [wgtR]
  | x :: l, h => by
    have h1 := h x (by simp)
    have h2 := wgtR_map (f := f) (s := s) (c := c) (l := l) fun y hy => h y (by simp [hy])
    rw [List.map_cons, wgtR, List.map_cons, List.sum_cons, List.length_cons]
    have e : c * (l.length + 1 + (s x + (l.map s).sum)) = c * (1 + s x) + c * (l.length + (l.map s).sum) := by rw [← Nat.mul_add]; congr 1; omega
    omega
theorem wgt_ints (xs : List Int) : wgt (dIs xs) = xs.length := by
  rw [dIs, wgt, wgtR_leafs (by intro r hr; obtain ⟨z, _, rfl⟩ := List.mem_map.1 hr; exact ⟨_, rfl⟩), List.length_map]
theorem wgt_affs (l : List Aff) : wgt (dAs l) ≤ szAs l := by
  rw [dAs, wgt, szAs]
  have := wgtR_map (f := rA) (s := fun a => a.1.length) (c := 1) (l := l) fun x _ => by simp only [rA, wgtL, wgt_ints]; simp [dI, wgt]; omega
  rwa [Nat.one_mul] at this
theorem wgt_lps (l : List Lp) : wgt (dLs l) ≤ szLs l := by
  rw [dLs, wgt, szLs]
  have := wgtR_map (f := rL) (s := szL) (c := 1) (l := l) fun x _ => by
    have h1 := wgt_affs x.1
    have h2 := wgt_affs x.2
    simp only [rL, wgtL, szL]; omega
  rwa [Nat.one_mul] at this
theorem szEs_sum : ∀ l : List Ex, szEs l = (l.map szE).sum
  | [] => rfl
  | e :: l => by rw [szEs, szEs_sum l]; simp
theorem wgt_ex (e : Ex) : wgtL (rX e) ≤ 4 * (1 + szE e) := by
  induction e using Ex.rec' with
  | h e ih =>
    rw [szE_eq, szEs_sum]
    have h1 := wgt_affs e.r.2
    have h2 := wgtR_map (f := rX) (s := szE) (c := 4) (l := e.ks) fun x hx => ih x hx
    have h3 : wgt (dEs e.ks) = wgtR (e.ks.map rX) := by
      rw [dEs, wgt, show rE = rX from funext fun e => rE_eq e]
    simp only [rX, wgtL, wgt_ints, h3, szC]
    simp only [dI, dS, wgt]
    omega
theorem wgt_exs (l : List Ex) : wgt (dEs l) ≤ 4 * (l.length + szEs l) := by
  rw [dEs, wgt, szEs_sum, show rE = rX from funext fun e => rE_eq e]
  exact wgtR_map fun x _ => wgt_ex x
theorem wgt_stm (s : Stm) : wgtL (rS s) ≤ 5 * (1 + szS s) := by
  have h1 := wgt_affs s.1.2
  have h2 := wgt_affs s.2.r.2
  have h3 := wgt_exs s.2.ks
  have h4 := szE_eq s.2
  simp only [rS, wgtL, wgt_ints, szS, szC] at *
  simp only [dI, dS, wgt]
  omega
theorem wgt_stms (l : List Stm) : wgt (dMs l) ≤ 5 * szO szS l := by
  rw [dMs, wgt, szO]
  exact wgtR_map fun x _ => wgt_stm x
theorem wgt_prts (l : List Prt) : wgt (dPts l) ≤ 5 * szO szPt l := by
  rw [dPts, wgt, szO]
  refine wgtR_map fun x _ => ?_
  have h1 := wgt_lps x.1
  have h2 := wgt_stms x.2
  simp only [rP, wgtL, szPt]; omega
theorem wgt_arrs (l : List Arr) : wgt (dRs l) ≤ szO szR l := by
  rw [dRs, wgt, szO]
  have := wgtR_map (f := rR) (s := szR) (c := 1) (l := l) fun x _ => by simp only [rR, wgtL, wgt_ints, szR]; simp only [dS, wgt]; omega
  rwa [Nat.one_mul] at this
theorem wgt_prg (g : Prg) : wgt (dRs g.1) + wgt (dPts g.2) ≤ 5 * szG g := by
  have h1 := wgt_arrs g.1
  have h2 := wgt_prts g.2
  rw [szG]; omega

/-! ### Marks -/
theorem markInts_k (xs : List Int) : MarkC Tryz.prog 18 (dIs xs) := markIntS_k (rows := xs.map rI) fun r hr => by obtain ⟨z, _, rfl⟩ := List.mem_map.1 hr; exact ⟨_, rfl⟩
theorem markAffs_k (l : List Aff) : MarkC Tryz.prog 129 (dAs l) := markAffineS_k (rows := l.map rA) fun r hr => by obtain ⟨a, _, rfl⟩ := List.mem_map.1 hr; exact ⟨_, _, rfl, markInts_k _⟩
theorem markLps_k (l : List Lp) : MarkC Tryz.prog 86 (dLs l) := markLoopS_k (rows := l.map rL) fun r hr => by obtain ⟨a, _, rfl⟩ := List.mem_map.1 hr; exact ⟨_, _, rfl, markAffs_k _, markAffs_k _⟩
theorem markExs_k : ∀ (m : Nat) (l : List Ex), (∀ e ∈ l, szE e < m) → MarkC Tryz.prog 130 (dEs l)
  | 0, l, h => markExprS_k (rows := l.map rE) fun r hr => by obtain ⟨e, he, rfl⟩ := List.mem_map.1 hr; exact absurd (h e he) (by omega)
  | m + 1, l, h => markExprS_k (rows := l.map rE) fun r hr => by
    obtain ⟨e, he, rfl⟩ := List.mem_map.1 hr
    have h1 := h e he
    rw [szE_eq] at h1
    rw [rE_eq]
    exact ⟨_, _, _, _, _, _, _, rfl, markInts_k _, markAffs_k _, markExs_k m e.ks fun x hx => by have := szEs_mem hx; have := List.length_pos_of_mem hx; omega⟩
theorem markExs_all (l : List Ex) : MarkC Tryz.prog 130 (dEs l) := markExs_k (szEs l + 1) l fun e he => by have := szEs_mem he; omega
theorem markStms_k (l : List Stm) : MarkC Tryz.prog 87 (dMs l) := markStmtS_k (rows := l.map rS) fun r hr => by
  obtain ⟨s, _, rfl⟩ := List.mem_map.1 hr
  exact ⟨_, _, _, _, _, _, _, _, _, rfl, markAffs_k _, markInts_k _, markAffs_k _, markExs_all _⟩
theorem markPts_k (l : List Prt) : MarkC Tryz.prog 49 (dPts l) := markPartS_k (rows := l.map rP) fun r hr => by obtain ⟨a, _, rfl⟩ := List.mem_map.1 hr; exact ⟨_, _, rfl, markLps_k _, markStms_k _⟩
theorem markArrs_k (l : List Arr) : MarkC Tryz.prog 48 (dRs l) := markArrayS_k (rows := l.map rR) fun r hr => by obtain ⟨a, _, rfl⟩ := List.mem_map.1 hr; exact ⟨_, _, rfl, markInts_k _⟩
set_option maxRecDepth 100000 in
set_option maxHeartbeats 3200000 in
theorem markPrg_k {g : Prg} (hg : szG g ≤ 1048576) {S : Nat → Prop} {w : World} {u0 u1 : Value} (d0 : DrK S w (dRs g.1) u0) (d1 : DrK S w (dPts g.2) u1) (hS : ∀ b, S b → b < w.heap.size) :
    Calls Tryz.prog 17 #[.agg #[u0, u1], .int .i64 1] w fun e w' => (∃ k : Int, 0 ≤ k ∧ k ≤ 4611686018427387904 ∧ e = .returned (.int .i64 k)) ∧ Marked S w w' := by
  have hw := wgt_prg g
  obtain ⟨c0, hc0, q0⟩ : ∃ c, wgt (dRs g.1) = c ∧ MarkN Tryz.prog 48 (dRs g.1) c := ⟨_, rfl, markArrs_k g.1⟩
  obtain ⟨c1, hc1, q1⟩ : ∃ c, wgt (dPts g.2) = c ∧ MarkN Tryz.prog 49 (dPts g.2) c := ⟨_, rfl, markPts_k g.2⟩
  rw [hc0, hc1] at hw
  have hk : c0 + c1 ≤ 5242880 := by omega
  have M0 := marked_of ((Below.refl w.heap.size w).alloc (Nat.le_refl _) (.cells #[u0, u1] 32)) S
  have hbox := heap_alloc_new w (.cells #[u0, u1] 32)
  have D0 := hid (d0.mark M0); have D1 := hid (d1.mark M0); have HM := hid M0; have HB := hid hbox
  clear hw hc0 hc1 d0 d1 M0 hbox hg
  go_enter Tryz.func17, Tryz.ntmps17
  go_wp2_with fail
  refine (q0 S _ _ 1 D0.out (by omega) (by omega)).mono ?_
  rintro e w1 ⟨rfl, m1⟩
  have hb : w1.heap[w.heap.size]? = _ := (m1.old w.heap.size (by simp) (fun h => absurd (hS _ h) (by omega))).trans HB.out
  have c10 : w1.cell? ⟨w.heap.size, 0, none⟩ = some u0 := by rw [cell_of_row w1 _ _ _ _ _ hb]; rfl
  have c11 : w1.cell? ⟨w.heap.size, 1, none⟩ = some u1 := by rw [cell_of_row w1 _ _ _ _ _ hb]; rfl
  clear hb
  go_wp2_with fail
  refine (q1 S _ _ _ (D1.out.mark m1) (by omega) (by omega)).mono ?_
  rintro e w2 ⟨rfl, m2⟩
  go_wp2_with fail
  go_ret
  exact ⟨⟨_, by omega, by omega, rfl⟩, (HM.out.trans m1).trans m2⟩

/-! ### Copies -/
theorem copyInts {xs : List Int} (h : xs.length ≤ 1048576) : CopyC Tryz.prog 32 (dIs xs) := toIntS_c (rows := xs.map rI) (fun r hr => by obtain ⟨z, _, rfl⟩ := List.mem_map.1 hr; exact ⟨_, rfl⟩) (by simpa using h)
theorem copyAff {a : Aff} (h : a.1.length ≤ 1048576) : CopyS Tryz.prog 221 (rA a) := toAffine_c (copyInts h)
theorem copyAffs {l : List Aff} (h : szAs l ≤ 1048576) : CopyC Tryz.prog 189 (dAs l) := toAffineS_c (rows := l.map rA) (fun r hr => by
  obtain ⟨a, ha, rfl⟩ := List.mem_map.1 hr
  exact ⟨_, _, rfl, copyAff (by have := szAs_mem ha; omega)⟩) (by rw [List.length_map]; rw [szAs] at h; omega)
theorem copyLps {l : List Lp} (h : szLs l ≤ 1048576) : CopyC Tryz.prog 116 (dLs l) := toLoopS_c (rows := l.map rL) (fun r hr => by
  obtain ⟨a, ha, rfl⟩ := List.mem_map.1 hr
  have h1 := szLs_mem ha
  rw [szL] at h1
  exact ⟨_, _, rfl, toLoop_c (copyAffs (by omega)) (copyAffs (by omega))⟩) (by rw [List.length_map]; rw [szLs] at h; omega)
theorem copyAcc {a : Acc} (h : szC a ≤ 1048576) : CopyS Tryz.prog 190 (rC a) := toAccess_c (copyAffs (by rw [szC] at h; omega))
theorem copyEx : ∀ e : Ex, szE e ≤ 1048576 → CopyS Tryz.prog 191 (rX e) := by
  intro e
  induction e using Ex.rec' with
  | h e ih =>
    intro hs
    rw [szE_eq] at hs
    refine toExpr_c (copyAff (a := e.i) (by omega)) (copyAcc (a := e.r) (by omega)) (toExprS_c (rows := e.ks.map rE) (fun r hr => ?_) (by rw [List.length_map]; omega))
    obtain ⟨x, hx, rfl⟩ := List.mem_map.1 hr
    rw [rE_eq]
    exact ⟨_, _, _, _, _, _, _, rfl, ih x hx (by have := szEs_mem hx; omega)⟩
theorem copyStms {l : List Stm} (h : szO szS l ≤ 1048576) : CopyC Tryz.prog 117 (dMs l) := toStmtS_c (rows := l.map rS) (fun r hr => by
  obtain ⟨s, hs, rfl⟩ := List.mem_map.1 hr
  have h1 := szO_mem (f := szS) hs
  have h2 : szS s = szC s.1 + szE s.2 := rfl
  exact ⟨_, _, _, _, _, _, _, _, _, rfl, toStmt_c (copyAcc (a := s.1) (by omega)) (copyEx s.2 (by omega))⟩) (by rw [List.length_map]; rw [szO] at h; omega)
theorem copyPts {l : List Prt} (h : szO szPt l ≤ 1048576) : CopyC Tryz.prog 43 (dPts l) := toPartS_c (rows := l.map rP) (fun r hr => by
  obtain ⟨a, ha, rfl⟩ := List.mem_map.1 hr
  have h1 := szO_mem (f := szPt) ha
  have h2 : szPt a = szLs a.1 + szO szS a.2 := rfl
  exact ⟨_, _, rfl, toPart_c (copyLps (by omega)) (copyStms (by omega))⟩) (by rw [List.length_map]; rw [szO] at h; omega)
theorem copyArrs {l : List Arr} (h : szO szR l ≤ 1048576) : CopyC Tryz.prog 42 (dRs l) := toArrayS_c (rows := l.map rR) (fun r hr => by
  obtain ⟨a, ha, rfl⟩ := List.mem_map.1 hr
  have h1 := szO_mem (f := szR) ha
  have h2 : szR a = a.1.size + a.2.length := rfl
  exact ⟨_, _, rfl, toArray_c (copyInts (by omega))⟩) (by rw [List.length_map]; rw [szO] at h; omega)
theorem copyPrg {g : Prg} (h : szG g ≤ 1048576) : CopyS Tryz.prog 13 (rG g) := toProgram_c (copyArrs (by rw [szG] at h; omega)) (copyPts (by rw [szG] at h; omega))
theorem take_eq_step {xs ys : List Int} {k : Nat} (hk : xs.take k = ys.take k) (h1 : k < xs.length) (h2 : k < ys.length) (h : xs.getD k 0 = ys.getD k 0) : xs.take (k+1) = ys.take (k+1) := by
  rw [List.take_succ_eq_append_getElem h1, List.take_succ_eq_append_getElem h2, hk]
  simp only [List.getD, List.getElem?_eq_getElem h1, List.getElem?_eq_getElem h2, Option.getD_some] at h
  rw [h]
theorem ne_of_getD {xs ys : List Int} {k : Nat} (h : ¬ xs.getD k 0 = ys.getD k 0) : xs ≠ ys := fun e => h (by rw [e])

set_option maxHeartbeats 400000 in
theorem eqIntS_len (a b : Option Addr) (m c1 n c2 : Nat) (w : World) (h : m ≠ n) :
    Calls Tryz.prog 15 #[.slice a m c1, .slice b n c2] w fun e w' => e = .returned (.bool false) ∧ w = w' := by
  have hne : (((m : Int) != (n : Int)) = true) := by simp; omega
  go_enter Tryz.func15, Tryz.ntmps15
  go_wp2
  go_ret
  exact ⟨rfl, rfl⟩

set_option maxHeartbeats 400000 in
theorem eqIntS_same (a b : Option Addr) (n c1 c2 : Nat) (xs ys : List Int) (w : World) (hx : IntsA w a n c1 xs) (hy : IntsA w b n c2 ys) :
    Calls Tryz.prog 15 #[.slice a n c1, .slice b n c2] w fun e w' => e = .returned (.bool (decide (xs = ys))) ∧ Quiet w w' := by
  have hle := hx.le
  go_enter Tryz.func15, Tryz.ntmps15
  go_wp2
  go_loopw [5] (fun i wr => ∃ k : Nat, k ≤ n ∧ i = .int .i64 k ∧ xs.take k = ys.take k ∧ Quiet w wr) (fun i _ => n - (intOf i).toNat)
  case atStart => exact ⟨0, Nat.zero_le _, rfl, by simp, Quiet.refl w⟩
  case round =>
    obtain ⟨k, hk, rfl, ht, hq⟩ := hrel
    have Ht := hid ht; clear ht
    by_cases hlt : k < n
    · obtain ⟨ba, oa, ha, _, hca⟩ := hx.at (by omega)
      obtain ⟨bb, ob, hb, _, hcb⟩ := hy.at (by omega)
      rw [ha, hb]
      have h1 : wr.cell? _ = _ := (hq.cell _).trans (hca k hlt)
      have h2 : wr.cell? _ = _ := (hq.cell _).trans (hcb k hlt)
      clear hca hcb ha hb
      go_wp2
      go_quiet (fail)
      go_wp2
      · have hne := ‹(xs[k]?.getD 0 != ys[k]?.getD 0) = true›
        go_ret
        exact ⟨ret_bool (by rw [bne_iff_ne] at hne; exact (decide_eq_false (ne_of_getD hne)).symm), hq.drewN⟩
      · have he := ‹(xs[k]?.getD 0 != ys[k]?.getD 0) = false›
        exact ⟨⟨k + 1, by omega, rfl, take_eq_step Ht.out (by rw [hx.1]; omega) (by rw [hy.1]; omega) (by simpa [bne_eq_false_iff_eq] using he), hq.drewN⟩, by simp [intOf]; omega⟩
    · have : k = n := by omega
      subst this
      go_wp2
      go_ret
      exact ⟨ret_bool (by have h := Ht.out; rw [List.take_of_length_le (by rw [hx.1]; omega), List.take_of_length_le (by rw [hy.1]; omega)] at h; exact (decide_eq_true h).symm), hq⟩

/-- Whatever the lengths. -/
theorem eqIntS_any (a b : Option Addr) (m n c1 c2 : Nat) (xs ys : List Int) (w : World) (hx : IntsA w a m c1 xs) (hy : IntsA w b n c2 ys) :
    Calls Tryz.prog 15 #[.slice a m c1, .slice b n c2] w fun e w' => e = .returned (.bool (decide (xs = ys))) ∧ Quiet w w' := by
  by_cases h : m = n
  · subst h; exact eqIntS_same a b m c1 c2 xs ys w hx hy
  · refine (eqIntS_len a b m c1 n c2 w h).mono ?_
    rintro e w' ⟨rfl, rfl⟩
    exact ⟨ret_bool (decide_eq_false (fun e => h (by rw [← hx.1, ← hy.1, e]))).symm, Quiet.refl _⟩
theorem grownBy_trans {w w' w'' : World} {r : Option Nat} (h : w.grownBy w' r) (h' : w'.grownBy w'' r) : w.grownBy w'' r :=
  ⟨h'.os.trans h.os, h'.tape.trans h.tape, h'.output.trans h.output, Nat.le_trans h.size h'.size, fun k hk hr => (h'.block k (Nat.lt_of_lt_of_le hk h.size) hr).trans (h.block k hk hr)⟩
theorem OwnS.set {w : World} {B g n c : Nat} {xs : List Int} (h : OwnS w B (.slice (some ⟨g, 0, none⟩) n c) xs) (j : Nat) (x : Int) :
    OwnS (w.setCell ⟨g, j, none⟩ (.int .i64 x)) B (.slice (some ⟨g, 0, none⟩) n c) (xs.set j x) ∧ w.grownBy (w.setCell ⟨g, j, none⟩ (.int .i64 x)) (some g) := by
  have hn : xs.length = n := by
    rcases h.2 with ⟨e, _⟩ | ⟨_, _, _, e, _⟩
    · simp at e
    · simp at e; exact e.2.1.symm
  subst hn
  have := World.ownsRow.stored h j (.int .i64 x)
  refine ⟨?_, this.2⟩
  unfold OwnS
  rw [List.length_set, List.map_set]
  exact this.1
theorem OwnS.len {w : World} {B n c : Nat} {a : Option Addr} {xs : List Int} (h : OwnS w B (.slice a n c) xs) : xs.length = n := by
  rcases h.2 with ⟨e, h0⟩ | ⟨_, _, _, e, _⟩
  · simp at e; omega
  · simp at e; exact e.2.1.symm
theorem OwnS.at {w : World} {B n c : Nat} {a : Option Addr} {xs : List Int} (h : OwnS w B (.slice a n c) xs) (hn : 0 < n) :
    ∃ g, a = some ⟨g, 0, none⟩ ∧ B ≤ g ∧ g < w.heap.size ∧ n ≤ c ∧ (∀ j, j < n → w.cell? ⟨g, j, none⟩ = some (.int .i64 (xs.getD j 0))) ∧ ∀ j, w.frozen? ⟨g, j, none⟩ = false := by
  have hl := h.len
  have h0 := h
  rcases h.2 with ⟨e, h1⟩ | ⟨g, cap, cur, e, hB, hg, hnc, _⟩
  · simp at e; omega
  · have ha : a = some ⟨g, 0, none⟩ := by simp at e; exact e.1
    have hc : c = cap := by simp at e; exact e.2.2
    subst ha hc
    unfold OwnS at h0
    rw [hl] at h0
    exact ⟨g, rfl, hB, (Array.getElem?_eq_some_iff.1 hg).1, by omega, fun j hj => by rw [World.ownsRow.cellAt h0 j (by omega), List.getElem?_map, List.getD, List.getElem?_eq_getElem (by omega)]; rfl, fun j => World.ownsRow.frozenAt h0 j⟩

theorem OwnS.empty (w : World) {B : Nat} (hB : B ≤ w.heap.size) : OwnS (w.alloc (.cells #[] 3)) B (.slice (some ⟨w.heap.size, 0, none⟩) 0 0) [] :=
  World.ownsRow_made w #[] 0 hB (by unfold maxLen; omega) rfl
theorem OwnS.one (w : World) {B : Nat} (hB : B ≤ w.heap.size) (x : Int) : OwnS (w.alloc (.cells #[.int .i64 x] 3)) B (.slice (some ⟨w.heap.size, 0, none⟩) 1 1) [x] :=
  ⟨rfl, .inr ⟨w.heap.size, 1, _, rfl, hB, heap_alloc_new w _, Nat.le_refl _, by unfold maxLen; omega, rfl, rfl⟩⟩
theorem Dis.new {w : World} {B : Nat} {u : Value} {xs : List Int} (h : OwnS w B u xs) (n c : Nat) : Dis u (.slice (some ⟨w.heap.size, 0, none⟩) n c) := by
  intro k hk e
  have := (h.lt k hk).2
  simp [Value.ownBlock] at e
  omega

theorem OwnS.below' {w w' : World} {B : Nat} {v : Value} {xs : List Int} (h : OwnS w B v xs) (hb : Below w.heap.size w w') : OwnS w' B v xs := h.below hb (fun k hk => (h.lt k hk).2)

theorem OwnS.intsA {w : World} {B n c : Nat} {a : Option Addr} {xs : List Int} (h : OwnS w B (.slice a n c) xs) (hn : n ≤ 17592186044416) : IntsA w a n c xs := by
  obtain ⟨a', c', e, hi, _⟩ := h.form (by rw [h.len]; exact hn)
  simp only [Value.slice.injEq] at e
  obtain ⟨rfl, e2, rfl⟩ := e
  rw [e2]
  exact hi
def marks (k : Int) (n : Nat) : List Int := (List.range n).map fun i : Nat => k + (i : Int)
theorem marks_zero (k : Int) : marks k 0 = [] := rfl
theorem marks_succ (k : Int) (n : Nat) : marks k (n + 1) = marks k n ++ [k + n] := by simp [marks, List.range_succ]
theorem marks_length (k : Int) (n : Nat) : (marks k n).length = n := by simp [marks]
theorem marks_at (k : Int) (n j : Nat) (h : j < n) : (marks k n)[j]?.getD 0 = k + j := by simp [marks, h]
theorem marks_step {k : Int} {j : Nat} {xs : List Int} (h : j < xs.length) : (marks k j ++ xs.drop j).set j (k + j) = marks k (j + 1) ++ xs.drop (j + 1) := by
  rw [List.set_append, if_neg (by rw [marks_length]; omega), marks_length, Nat.sub_self, marks_succ, List.drop_eq_getElem_cons h, List.set_cons_zero, List.append_assoc]
  rfl

set_option maxHeartbeats 800000 in
theorem markIntS_any (a : Option Addr) (n c B : Nat) (k : Int) (xs : List Int) (w : World) (hx : OwnS w B (.slice a n c) xs) (hn : n ≤ 17592186044416) (hk0 : 0 ≤ k) (hk1 : k ≤ 1125899906842624) :
    Calls Tryz.prog 18 #[.slice a n c, .int .i64 k] w fun e w' => e = .returned (.int .i64 (k + n)) ∧ OwnS w' B (.slice a n c) (marks k n) ∧ w.grownBy w' (Value.slice a n c).ownBlock := by
  go_enter Tryz.func18, Tryz.ntmps18
  go_wp2
  go_loopw [1, 5] (fun q i wr => ∃ j : Nat, j ≤ n ∧ i = .int .i64 j ∧ q = .int .i64 (k + j) ∧ OwnS wr B (.slice a n c) (marks k j ++ xs.drop j) ∧ w.grownBy wr (Value.slice a n c).ownBlock) (fun _ i _ => n - (intOf i).toNat)
  case atStart => exact ⟨0, Nat.zero_le _, rfl, by simp, by simpa [marks_zero] using hx, World.grownBy.refl _ _⟩
  case round =>
    obtain ⟨j, hj, rfl, rfl, ho, hg⟩ := hrel
    have hlen := hx.len
    by_cases hlt : j < n
    · obtain ⟨g, ha, hB, hgl, hnc, hcell, hfr⟩ := ho.at (by omega)
      have h3 := hcell j hlt
      have h4 := hfr j
      subst ha
      clear hcell hfr
      have hs := ho.set j (k + j)
      rw [marks_step (by omega)] at hs
      have Hs := hid hs
      clear hs
      have Hl := hid hlen; clear hlen
      go_wp2
      exact ⟨⟨j + 1, by omega, rfl, int_i64 (by omega), Hs.out.1, grownBy_trans hg Hs.out.2⟩, by simp [intOf]; omega⟩
    · have : j = n := by omega
      subst this
      go_wp2
      go_ret
      exact ⟨rfl, by rw [List.drop_of_length_le (by omega), List.append_nil] at ho; exact ho, hg⟩

set_option maxHeartbeats 800000 in
theorem heldIntS_any (a : Option Addr) (n c : Nat) (k : Int) (w : World) (hx : IntsA w a n c (marks k n)) (hk0 : 0 ≤ k) (hk1 : k ≤ 1125899906842624) :
    Calls Tryz.prog 19 #[.slice a n c, .int .i64 k] w fun e w' => e = .returned (.int .i64 (k + n)) ∧ Quiet w w' := by
  have hle := hx.le
  go_enter Tryz.func19, Tryz.ntmps19
  go_wp2
  go_loopw [1, 5] (fun q i wr => ∃ j : Nat, j ≤ n ∧ i = .int .i64 j ∧ q = .int .i64 (k + j) ∧ Quiet w wr) (fun _ i _ => n - (intOf i).toNat)
  case atStart => exact ⟨0, Nat.zero_le _, rfl, by simp, Quiet.refl w⟩
  case round =>
    obtain ⟨j, hj, rfl, rfl, hq⟩ := hrel
    by_cases hlt : j < n
    · obtain ⟨ba, oa, ha, _, hca⟩ := hx.at (by omega)
      have h2 : wr.cell? _ = _ := (hq.cell _).trans (hca j hlt)
      rw [show (marks k n).getD j 0 = k + j from marks_at k n j hlt] at h2
      subst ha
      clear hca
      go_wp2
      exact ⟨⟨j + 1, by omega, rfl, int_i64 (by omega), hq⟩, by simp [intOf]; omega⟩
    · have : j = n := by omega
      subst this
      go_wp2
      go_ret
      exact ⟨rfl, hq⟩
end Go.Proofs.YtongpceopgkhnaaGreat
namespace Go.Proofs.YtongpceopgkhnaaGreat
set_option linter.unusedVariables false
set_option linter.unusedSimpArgs false
open Go.ChangeShapes Go.WideShapes Go.ChangeAt Go.RowKit
section
variable {H : Type} {enc : TypeId × Value → H} {P : Program} {w : World} {spare : Nat → Bool} {held : Bool} {t : TypeId} {α : Type} {f : α → List D} {ok : α → Prop} {v : Value} {dd : DataW H} {ps : List MemPlace}
theorem op_agg (hop : ∀ n, OpF enc P w spare held n t f ok) (h : DataW.Trod enc P w 0 spare held t v dd ps) (hw : ∀ m ∈ dd.weights P t, m ≤ reachBytes) (hv : ∃ cs, v = .agg cs) : ∃ a, ok a ∧ V1r (fun _ => (0, 0)) (Al (lk [])) (fun b => b < w.heap.size) w (ad (f a)) v := by
  obtain ⟨fuel, hf⟩ := h
  obtain ⟨cs, rfl⟩ := hv
  obtain ⟨a, h1, h2, h3⟩ := hop fuel fuel (Nat.le_refl _) _ _ hf hw
  refine ⟨a, h1, cs.toList, by simp, by rw [List.length_map]; exact h2, fun i c u hc hu => ?_⟩
  rw [List.getElem?_map] at hc
  cases hq : (f a)[i]? with
  | none => rw [hq] at hc; cases hc
  | some d => rw [hq] at hc; cases hc; exact h3 i d u hq hu
theorem okWide_agg {r : Reach} {b0 : Nat} {fs : Array Field} (ht : P.underlying t = some (.struct fs)) (h : Value.okWide P w r b0 t v) : ∃ cs, v = .agg cs := by
  unfold Value.okWide at h
  rw [ht] at h
  obtain ⟨cs, e, _⟩ := h
  exact ⟨cs, e⟩
theorem vals1_mk {R : V1 → Value → Prop} {x : V1} {u : Value} (h : R x u) : Vals R [x] [u] := ⟨rfl, fun i y v hy hv => by
  match i, hy, hv with
  | 0, hy, hv => cases hy; cases hv; exact h⟩
theorem vals2_mk {R : V1 → Value → Prop} {x y : V1} {u v : Value} (h : R x u) (h2 : R y v) : Vals R [x, y] [u, v] := .cons h (vals1_mk h2)
end
end Go.Proofs.YtongpceopgkhnaaGreat
namespace Go.Proofs.YtongpceopgkhnaaGreat
set_option linter.unusedVariables false
set_option linter.unusedSimpArgs false
open Go.RowKit
abbrev bx0 : Nat → Nat × Nat := fun _ => (0, 0)
abbrev al0 : Nat → Prop := Al (lk [])
theorem no_al0 : ∀ k, ¬ al0 k := fun k ⟨e, sz, rows, h⟩ => by cases h
/-- What a call does that answers y and turns nothing. -/
theorem Fn.calls {P : Program} {f : FuncId} {args : List V1} {y : V} {vs : List Value} {w : World} {B : Nat → Prop} (h : Fn P f [] args y []) (hv : Vals (V1r bx0 al0 B w) args vs) :
    Calls P f vs.toArray w fun e w' => (∃ v B', e = .returned v ∧ Vr bx0 al0 B' w' y v) ∧ Below w.heap.size w w' := by
  refine (h B bx0 w vs ⟨fun k e sz rows h => (by cases h), fun k l hk => (no_al0 k hk).elim, fun k hk => (no_al0 k hk).elim⟩ hv).mono ?_
  rintro e w' ⟨v, bx', rfl, hp⟩
  refine ⟨⟨v, Baft bx' B w (lk []), rfl, hp.val.to (Same.refl _ _) (fun b hb _ => hb) (fun k _ hk => (no_al0 k hk).elim)⟩, hp.os, hp.tape, hp.output, hp.size, fun b hb => hp.old b hb fun k hk => (no_al0 k hk).elim⟩
theorem Fn.callsI {P : Program} {f : FuncId} {args : List V1} {z : Int} {vs : List Value} {w : World} {B : Nat → Prop} (h : Fn P f [] args (.o (nat1 z)) []) (hv : Vals (V1r bx0 al0 B w) args vs) :
    Calls P f vs.toArray w fun e w' => e = .returned (.int .i64 z) ∧ Below w.heap.size w w' := by
  refine (h.calls hv).mono ?_
  rintro e w' ⟨⟨v, B', rfl, hv⟩, hb⟩
  have hv : Dr _ w' (.val (.int .i64 z)) v := hv
  cases hv
  exact ⟨rfl, hb⟩
theorem Fn.callsB {P : Program} {f : FuncId} {args : List V1} {z : Bool} {vs : List Value} {w : World} {B : Nat → Prop} (h : Fn P f [] args (.o (bo1 z)) []) (hv : Vals (V1r bx0 al0 B w) args vs) :
    Calls P f vs.toArray w fun e w' => e = .returned (.bool z) ∧ Below w.heap.size w w' := by
  refine (h.calls hv).mono ?_
  rintro e w' ⟨⟨v, B', rfl, hv⟩, hb⟩
  have hv : Dr _ w' (.val (.bool z)) v := hv
  cases hv
  exact ⟨rfl, hb⟩
theorem Dr.ints {B : Nat → Prop} {w : World} {xs : List Int} {v : Value} (h : Dr B w (dIs xs) v) : ∃ a n c, v = .slice a n c ∧ n = xs.length ∧ IntsA w a n c xs := by
  have hat := @Dr.row B w
  rw [dIs] at h
  obtain ⟨ad, cap, rfl, h1, h2, _⟩ := h.slice
  rw [List.length_map] at h1 h2 h ⊢
  refine ⟨ad, _, cap, rfl, rfl, rfl, h1, h2, fun i hi => ?_⟩
  have hr : (xs.map rI)[i]? = some (rI xs[i]) := by rw [List.getElem?_map, List.getElem?_eq_getElem hi]; rfl
  obtain ⟨b, off, rfl⟩ := h.ba hr
  obtain ⟨u, hc, hd⟩ := h.row hr 0 (x := dI xs[i]) rfl (o := off + i) (by omega)
  refine ⟨b, off, rfl, ?_⟩
  cases hd
  rw [hc, List.getD, List.getElem?_eq_getElem hi]; rfl
/-- A function that answers a list of numbers; where it lies is not told. -/
def PureC (f : FuncId) (args : List V1) (xs : List Int) : Prop := ∀ (B : Nat → Prop) (w : World) (vs : List Value), Vals (V1r bx0 al0 B w) args vs →
  Calls Tryz.prog f vs.toArray w fun e w' => (∃ a c, e = .returned (.slice a xs.length c) ∧ IntsA w' a xs.length c xs) ∧ Below w.heap.size w w'
/-- A function that answers a list of numbers in memory of its own. -/
def OwnC (f : FuncId) (args : List V1) (xs : List Int) : Prop := ∀ (B : Nat → Prop) (w : World) (vs : List Value), Vals (V1r bx0 al0 B w) args vs →
  Calls Tryz.prog f vs.toArray w fun e w' => (∃ a c, e = .returned (.slice a xs.length c) ∧ OwnS w' w.heap.size (.slice a xs.length c) xs) ∧ Below w.heap.size w w'
theorem Fn.pureC {f : FuncId} {args : List V1} {xs : List Int} (h : Fn Tryz.prog f [] args (.o (vD (dIs xs))) []) : PureC f args xs := fun B w vs hv => by
  refine (h.calls hv).mono ?_
  rintro e w' ⟨⟨v, B', rfl, hv⟩, hb⟩
  have hv : Dr _ w' (dIs xs) v := hv
  obtain ⟨a, n, c, rfl, rfl, hi⟩ := hv.ints
  exact ⟨⟨a, c, rfl, hi⟩, hb⟩
theorem Fn.nilC {f : FuncId} {args : List V1} (h : Fn Tryz.prog f [] args (.o (vD (.val (.slice none 0 0)))) []) : OwnC f args [] := fun B w vs hv => by
  refine (h.calls hv).mono ?_
  rintro e w' ⟨⟨v, B', rfl, hv⟩, hb⟩
  have hv : Dr _ w' (.val (.slice none 0 0)) v := hv
  cases hv
  exact ⟨⟨none, 0, rfl, OwnS.nil _ _⟩, hb⟩
theorem toList_take_map {cur : Array Value} {xs : List Int} (hl : xs.length ≤ cur.size) (h : ∀ (i : Nat) (hi : i < xs.length), cur[i]? = some (.int .i64 xs[i])) : cur.toList.take xs.length = xs.map (Value.int .i64) := by
  apply List.ext_getElem?
  intro i
  rw [List.getElem?_take, List.getElem?_map]
  by_cases hi : i < xs.length
  · rw [if_pos hi, Array.getElem?_toList, h i hi, List.getElem?_eq_getElem hi]; rfl
  · rw [if_neg hi, List.getElem?_eq_none (by omega)]; rfl
theorem Fn.ownC {f : FuncId} {args : List V1} {xs : List Int} (h : Fn Tryz.prog f [] args (.o (.c (.own 100 1 xs.length))) [(.b 100, .b 3 1 (dR (xs.map rI))), (.u 100, .u)]) : OwnC f args xs := fun B w vs hv => by
  refine (h B bx0 w vs ⟨fun k e sz rows h => (by cases h), fun k l hk => (no_al0 k hk).elim, fun k hk => (no_al0 k hk).elim⟩ hv).mono ?_
  rintro e w' ⟨v, bx', rfl, hp⟩
  have ha : Al (lk [(.b 100, .b 3 1 (dR (xs.map rI))), (.u 100, .u)]) 100 := ⟨_, _, _, rfl⟩
  obtain ⟨_, h2⟩ := (show Cr bx' _ (Baft bx' B w (lk [(.b 100, .b 3 1 (dR (xs.map rI))), (.u 100, .u)])) w' (.own 100 1 xs.length) v from hp.val)
  obtain ⟨cap, rfl, h3, h4, h5⟩ := h2 ha
  obtain ⟨cur, h6, h7, h8, h9, h10⟩ := hp.ok.1 100 _ _ _ rfl
  have hn : w.heap.size ≤ (bx' 100).1 := (hp.new 100 ha).elim id fun ⟨l, hl, _⟩ => (no_al0 l hl).elim
  refine ⟨⟨_, cap, rfl, by simp, .inr ⟨(bx' 100).1, cap, cur, rfl, hn, h6, h3, h4, by omega, ?_⟩⟩, hp.os, hp.tape, hp.output, hp.size, fun b hb => hp.old b hb fun k hk => (no_al0 k hk).elim⟩
  rw [Nat.mul_one]
  refine toList_take_map (cur := cur) (xs := xs) (by omega) fun i hi => ?_
  obtain ⟨u, h11, h12⟩ := h10 i [.d (dI xs[i])] 0 (.d (dI xs[i])) (by rw [dR, List.getElem?_map, List.getElem?_map, List.getElem?_eq_getElem hi]; rfl) rfl
  have h12 : Dr _ w' (dI xs[i]) u := h12
  cases h12
  rw [Nat.mul_one, Nat.add_zero] at h11
  exact h11
theorem ad2_v {B : Nat → Prop} {w : World} {d0 d1 : D} {u0 u1 : Value} (h0 : Dr B w d0 u0) (h1 : Dr B w d1 u1) : V1r bx0 al0 B w (ad [d0, d1]) (.agg #[u0, u1]) :=
  ⟨[u0, u1], rfl, rfl, fun i c u hc hu => by
    match i, hc, hu with
    | 0, hc, hu => cases hc; cases hu; exact h0
    | 1, hc, hu => cases hc; cases hu; exact h1⟩
/-- What the law took, behind its first box. -/
structure LawS (w w' : World) (us : List Value) : Prop where
  below : Below w.heap.size w w'
  box : w'.heap[w.heap.size]? = some (.cells us.toArray 25 (0, 0))
theorem LawS.start (w : World) (us : List Value) : LawS w (w.alloc (.cells us.toArray 25)) us := ⟨(Below.refl _ _).alloc (Nat.le_refl _) _, heap_alloc_new w _⟩
theorem LawS.lt {w w' : World} {us : List Value} (h : LawS w w' us) : w.heap.size < w'.heap.size := (Array.getElem?_eq_some_iff.1 h.box).1
theorem LawS.fwd {w w' w'' : World} {us : List Value} {n : Nat} (h : LawS w w' us) (hb : Below n w' w'') (hn : w.heap.size < n) : LawS w w'' us := ⟨h.below.trans (hb.mono (by omega)), (hb.block _ hn).trans h.box⟩
theorem LawS.c {w w' : World} {us : List Value} (h : LawS w w' us) (j : Nat) {v : Value} (hv : us[j]? = some v) : w'.cell? ⟨w.heap.size, j, none⟩ = some v := by
  rw [cell_of_row w' _ _ _ _ _ h.box, List.getElem?_toArray]; exact hv
theorem Marked.below {S : Nat → Prop} {w w' : World} {n : Nat} (h : Marked S w w') (hS : ∀ b, S b → n ≤ b) (hn : n ≤ w.heap.size) : Below n w w' :=
  ⟨h.os, h.tape, h.output, h.size, fun b hb => h.old b (by omega) fun hs => by have := hS b hs; omega⟩
theorem OwnS.marked {S : Nat → Prop} {w w' : World} {B : Nat} {v : Value} {xs : List Int} (h : OwnS w B v xs) (hm : Marked S w w') (hS : ∀ b, S b → b < B) : OwnS w' B v xs := by
  obtain ⟨h1, h2 | ⟨g, cap, cur, e, hB, hg, r⟩⟩ := h
  · exact ⟨h1, .inl h2⟩
  · exact ⟨h1, .inr ⟨g, cap, cur, e, hB, (hm.old g (Array.getElem?_eq_some_iff.1 hg).1 fun hs => by have := hS g hs; omega).trans hg, r⟩⟩
theorem dec_self (xs : List Int) : decide (xs = xs) = true := by simp
section
variable {P : Program} {n : Nat} {ops : Array Oper} {o : Oper} {σ : St} {d : Nat} {t t2 : TypeId} {x y : Operand} {a b : ByteArray}
theorem St1.ltS (h4 : (o.op, o.guard, o.dst, Nat.blt d n) = (Op.binOp .lss t x y t2, none, some d, true)) (hx : ev σ x = some (.o (st1 a))) (hy : ev σ y = some (.o (st1 b))) :
    St1 P n ops o σ (rd x ++ rd y) [.t d] ((.t d, .v (.o (bo1 (sLt a b)))) :: σ) := by
  simp only [Prod.mk.injEq] at h4
  exact St1.bin h4.1 h4.2.1 h4.2.2.1 h4.2.2.2 hx hy (fun w => by simp [eqGuard, binOp, Op.stringOp, sLt]) rfl
theorem St1.gtS (h4 : (o.op, o.guard, o.dst, Nat.blt d n) = (Op.binOp .gtr t x y t2, none, some d, true)) (hx : ev σ x = some (.o (st1 a))) (hy : ev σ y = some (.o (st1 b))) :
    St1 P n ops o σ (rd x ++ rd y) [.t d] ((.t d, .v (.o (bo1 (!(sLt a b || sEq a b))))) :: σ) := by
  simp only [Prod.mk.injEq] at h4
  exact St1.bin h4.1 h4.2.1 h4.2.2.1 h4.2.2.2 hx hy (fun w => by simp [eqGuard, binOp, Op.stringOp, sLt, sEq]) rfl
end

theorem arrOk_eq (a : Arr) : arrOk a = (arrV a.1 && (inB (a.2.length : Nat) 1 2 && !(a.2.any fun n => !dimV n))) := by
  rw [arrOk, inB]
  congr 1
  congr 1
  · rw [decide_eq_decide]; omega
  · rw [List.any_eq_not_all_not, Bool.not_not]; simp

set_option maxRecDepth 100000 in
set_option maxHeartbeats 1600000 in
theorem arr1_fn (n : Int) : Fn Tryz.prog 162 [] [nat1 n] (.o (bo1 (!dimV n))) [] := by
 refine Fn.code0 Tryz.func162 rfl rfl rfl rfl ?_
 refine ACode.seq ?_
 refine ACode.region ?_
 refine .cons (.asg rfl rfl) ?_
 refine .nil ?_
 refine ks_n ?_
 refine ACode.seq ?_
 refine ACode.region ?_
 refine .cons (.mv rfl rfl) ?_
 refine .cons (.cP [.tmp 3, .const (.int .i64 (1)), .const (.int .i64 (6))] rfl rfl rfl rfl (within_fn _ 1 6) rfl) ?_
 refine .cons (.nt rfl rfl) ?_
 refine .cons (.asg rfl rfl) ?_
 refine .nil ?_
 refine ks_n ?_
 refine ACode.ret ?_
 refine kf_ret rfl ?_ nobox
 first | rfl | exact leafB (by rw [dimV])

set_option maxRecDepth 100000 in
set_option maxHeartbeats 1600000 in
theorem arraysOk_fn (ar : List Arr) (hl : ar.length ≤ 1099511627776) (hq : ∀ x ∈ ar, x.2.length ≤ 1099511627776) : Fn Tryz.prog 118 [] [vD (dRs ar)] (.o (bo1 (arrsV ar))) [] := by
 refine Fn.code0 Tryz.func118 rfl rfl rfl rfl ?_
 refine ACode.seq ?_
 refine ACode.region ?_
 refine .cons (.asg rfl rfl) ?_
 refine .nil ?_
 refine ks_n ?_
 refine ACode.seq ?_
 refine ACode.seq ?_
 refine ACode.region ?_
 refine .cons (.mv rfl rfl) ?_
 refine .cons (.ln 122 2 40 rfl rfl rfl) ?_
 refine .cons (.mv rfl rfl) ?_
 refine .nil ?_
 refine ks_n ?_
 refine ACode.block ?_
 refine .loopK (fun m σ => (∃ i : Nat, m = ar.length - i ∧ (i ≤ ar.length) ∧ (∀ j, j < i → arrAt ar j = true) ∧ σ = [(.t 0, .v (.o (vD (dRs ar)))), (.t 2, .v (.o (bo1 false))), (.t 5, .v (.o (vD (dRs ar)))), (.t 6, .v (.o (nat1 (ar.length : Nat)))), (.t 7, .v (.o (nat1 (i : Nat))))])) [] ⟨0, rfl, by omega, fun j hj => absurd hj (by omega), rfl⟩ ⟨ks rfl .dt, ks rfl .dt, ks rfl .dt, ks rfl .dt, ks rfl .dt, trivial⟩ ?_
 rintro m σ ⟨i, hm0, hi, hF, rfl⟩
 refine ACode.seq ?_
 refine ACode.region ?_
 refine .cons (.ls rfl rfl rfl) ?_
 refine .nil ?_
 refine ks_n ?_
 refine ACode.seq ?_
 refine .cD rfl (fun h8 => ?_) (fun h8 => ?_)
 ·skip
  obtain ⟨x, hx1⟩ : ∃ x_, ar[i]? = some x_ := ⟨_, List.getElem?_eq_getElem (by omega)⟩
  have hA := arrAt_eq hx1
  refine ACode.skip ?_
  refine ks_n ?_
  refine ACode.seq ?_
  refine ACode.block ?_
  refine ACode.seq ?_
  refine ACode.region ?_
  refine .cons (.mv rfl rfl) ?_
  refine .cons (.xL 122 2 40 rfl rfl rfl rfl rfl) ?_
  refine .cons (.lN 2 rfl rfl rfl) ?_
  refine .cons (.al 104 [.string ByteArray.empty, .slice none 0 0] rfl rfl rfl) ?_
  refine .cons (.asg rfl rfl) ?_
  refine .cons (.sT 2 true rfl rfl rfl rfl rfl rfl rfl) ?_
  refine .nil ?_
  refine ks_n ?_
  refine ACode.seq ?_
  refine ACode.drawK (by kernel_rfl) (by kernel_rfl) ?_
  refine .cons (.fB 0 0 false rfl rfl rfl) ?_
  refine .cons (.b1 1 rfl rfl rfl rfl rfl rfl) ?_
  refine .cons (.cP [.tmp 13] rfl rfl rfl rfl (isArray_fn _) rfl) ?_
  refine .cons (.nt rfl rfl) ?_
  refine .cons (.mv rfl rfl) ?_
  refine RunK.cases 16 _ rfl (fun g16 => ?_) (fun g16 => ?_)
  ·try simp only [zs1, zs2, zs3, zs4, zs5, zs6, zs7] at g16
   refine .cons (.gF rfl rfl rfl) ?_
   refine .cons (.gF rfl rfl rfl) ?_
   refine .cons (.gF rfl rfl rfl) ?_
   refine .cons (.gU rfl rfl) ?_
   refine .cons (.gU rfl rfl) ?_
   refine .cons (.gU rfl rfl) ?_
   refine .cons (.gU rfl rfl) ?_
   refine .cons (.gU rfl rfl) ?_
   refine .cons (.gU rfl rfl) ?_
   refine .cons (.gU rfl rfl) ?_
   refine .cons (.gU rfl rfl) ?_
   refine .cons (.gU rfl rfl) ?_
   refine .cons (.gF rfl rfl rfl) ?_
   refine .cons (.pT rfl rfl rfl) ?_
   refine .cons (.mv rfl rfl) ?_
   refine .cons (.gF rfl rfl rfl) ?_
   refine .cons (.gF rfl rfl rfl) ?_
   refine .cons (.gF rfl rfl rfl) ?_
   refine .cons (.gF rfl rfl rfl) ?_
   refine .cons (.gF rfl rfl rfl) ?_
   refine .cons (.pT rfl rfl rfl) ?_
   refine .cons (.mv rfl rfl) ?_
   refine .cons (.gF rfl rfl rfl) ?_
   refine .cons (.gF rfl rfl rfl) ?_
   refine .cons (.gF rfl rfl rfl) ?_
   refine .cons (.pT rfl rfl rfl) ?_
   refine .nil ⟨by kernel_rfl, ?_⟩
   refine ks_n ?_
   refine ACode.condT rfl (fun _ => ?_) (fun h => by first | (cases h; done) | (simp [*] at h; done) | (exfalso; simp_all; done))
   refine ACode.seq ?_
   refine ACode.region ?_
   refine .cons (.asg rfl rfl) ?_
   refine .nil ?_
   refine ks_n ?_
   refine ACode.ret ?_
   refine kb_r ?_
   refine ks_r ?_
   refine kl_r ?_
   refine kb_r ?_
   refine ks_r ?_
   refine kf_ret rfl ?_ nobox
   exact leafB (arrsV_bad (i := i) (by omega) (by rw [hA, arrOk_eq]; first | (simp_all; done) | (simp_all; omega) | grind)).symm
  ·try simp only [zs1, zs2, zs3, zs4, zs5, zs6, zs7] at g16
   refine .cons (.gT rfl rfl rfl (.mv rfl rfl)) ?_
   refine .cons (.gT rfl rfl rfl (.gt rfl rfl rfl)) ?_
   refine .cons (.gT rfl rfl rfl (.mv rfl rfl)) ?_
   refine .cD 19 rfl (fun g19 => ?_) (fun g19 => ?_)
   ·skip
    obtain ⟨y, hy1⟩ : ∃ x_, ar[i - 1]? = some x_ := ⟨_, List.getElem?_eq_getElem (by omega)⟩
    have hB := lastV_eq (a := x) hy1
    refine .cons (.gT rfl rfl rfl (.mv rfl rfl)) ?_
    refine .cons (.gT rfl rfl rfl (.mv rfl rfl)) ?_
    refine .cons (.gT rfl rfl rfl (.sb rfl rfl rfl)) ?_
    refine .cons (.gT rfl rfl rfl (.xL 122 2 40 (i := (i - 1)) rfl rfl rfl rfl (by omega) (map_at hy1))) ?_
    refine .cons (.gT rfl rfl rfl (.fP 0 0 false rfl rfl)) ?_
    refine .cons (.gT rfl rfl rfl (.l1 1 rfl rfl)) ?_
    refine .cons (.gT rfl rfl rfl (.fB 0 0 false rfl rfl rfl)) ?_
    refine .cons (.gT rfl rfl rfl (.b1 1 rfl rfl rfl rfl rfl rfl)) ?_
    refine .cons (.gT rfl rfl rfl (St1.geS rfl rfl rfl)) ?_
    refine .cons (.gT rfl rfl rfl (.pT rfl rfl rfl)) ?_
    refine .cons (.pF rfl rfl rfl) ?_
    refine .cons (.mv rfl rfl) ?_
    refine RunK.cases 31 _ rfl (fun g31 => ?_) (fun g31 => ?_)
    ·try simp only [zs1, zs2, zs3, zs4, zs5, zs6, zs7] at g31
     refine .cons (.gF rfl rfl rfl) ?_
     refine .cons (.gF rfl rfl rfl) ?_
     refine .cons (.gF rfl rfl rfl) ?_
     refine .cons (.gF rfl rfl rfl) ?_
     refine .cons (.gF rfl rfl rfl) ?_
     refine .cons (.pT rfl rfl rfl) ?_
     refine .cons (.mv rfl rfl) ?_
     refine .cons (.gF rfl rfl rfl) ?_
     refine .cons (.gF rfl rfl rfl) ?_
     refine .cons (.gF rfl rfl rfl) ?_
     refine .cons (.pT rfl rfl rfl) ?_
     refine .nil ⟨by kernel_rfl, ?_⟩
     refine ks_n ?_
     refine ACode.condT rfl (fun _ => ?_) (fun h => by first | (cases h; done) | (simp [*] at h; done) | (exfalso; simp_all; done))
     refine ACode.seq ?_
     refine ACode.region ?_
     refine .cons (.asg rfl rfl) ?_
     refine .nil ?_
     refine ks_n ?_
     refine ACode.ret ?_
     refine kb_r ?_
     refine ks_r ?_
     refine kl_r ?_
     refine kb_r ?_
     refine ks_r ?_
     refine kf_ret rfl ?_ nobox
     exact leafB (arrsV_bad (i := i) (by omega) (by rw [hA, arrOk_eq]; first | (simp_all; done) | (simp_all; omega) | grind)).symm
    ·try simp only [zs1, zs2, zs3, zs4, zs5, zs6, zs7] at g31
     refine .cons (.gT rfl rfl rfl (.fB 1 0 false rfl rfl rfl)) ?_
     refine .cons (.gT rfl rfl rfl (.b1 1 rfl rfl rfl rfl rfl rfl)) ?_
     refine .cons (.gT rfl rfl rfl (.ln 3 1 8 rfl rfl rfl)) ?_
     refine .cons (.gT rfl rfl rfl (.cP [.tmp 34, .const (.int .i64 (1)), .const (.int .i64 (2))] rfl rfl rfl rfl (within_fn _ 1 2) rfl)) ?_
     refine .cons (.gT rfl rfl rfl (.nt rfl rfl)) ?_
     refine .cons (.pF rfl rfl rfl) ?_
     refine .cons (.mv rfl rfl) ?_
     refine RunK.cases 38 _ rfl (fun g38 => ?_) (fun g38 => ?_)
     ·try simp only [zs1, zs2, zs3, zs4, zs5, zs6, zs7] at g38
      refine .cons (.gF rfl rfl rfl) ?_
      refine .cons (.gF rfl rfl rfl) ?_
      refine .cons (.gF rfl rfl rfl) ?_
      refine .cons (.pT rfl rfl rfl) ?_
      refine .nil ⟨by kernel_rfl, ?_⟩
      refine ks_n ?_
      refine ACode.condT rfl (fun _ => ?_) (fun h => by first | (cases h; done) | (simp [*] at h; done) | (exfalso; simp_all; done))
      refine ACode.seq ?_
      refine ACode.region ?_
      refine .cons (.asg rfl rfl) ?_
      refine .nil ?_
      refine ks_n ?_
      refine ACode.ret ?_
      refine kb_r ?_
      refine ks_r ?_
      refine kl_r ?_
      refine kb_r ?_
      refine ks_r ?_
      refine kf_ret rfl ?_ nobox
      exact leafB (arrsV_bad (i := i) (by omega) (by rw [hA, arrOk_eq]; first | (simp_all; done) | (simp_all; omega) | grind)).symm
     ·try simp only [zs1, zs2, zs3, zs4, zs5, zs6, zs7] at g38
      refine .cons (.gT rfl rfl rfl (.fB 1 0 false rfl rfl rfl)) ?_
      refine .cons (.gT rfl rfl rfl (.b1 1 rfl rfl rfl rfl rfl rfl)) ?_
      refine .cons (.gT rfl rfl rfl (.cP [.tmp 40, .func 162] rfl rfl rfl rfl (cnt_int (f := 162) (cap := []) (by kernel_rfl) (fun n => !dimV n) x.2 (hq x (List.mem_of_getElem? hx1)) (fun n _ => arr1_fn n)) rfl)) ?_
      refine .cons (.pF rfl rfl rfl) ?_
      refine .nil ⟨by kernel_rfl, ?_⟩
      refine ks_n ?_
      refine ACode.condT rfl (fun h42 => ?_) (fun h42 => ?_)
      ·try simp only [zs1, zs2, zs3, zs4, zs5, zs6, zs7] at h42
       refine ACode.seq ?_
       refine ACode.region ?_
       refine .cons (.asg rfl rfl) ?_
       refine .nil ?_
       refine ks_n ?_
       refine ACode.ret ?_
       refine kb_r ?_
       refine ks_r ?_
       refine kl_r ?_
       refine kb_r ?_
       refine ks_r ?_
       refine kf_ret rfl ?_ nobox
       exact leafB (arrsV_bad (i := i) (by omega) (by rw [hA, arrOk_eq]; first | (simp_all; done) | (simp_all; omega) | grind)).symm
      ·try simp only [zs1, zs2, zs3, zs4, zs5, zs6, zs7] at h42
       refine ACode.skip ?_
       refine kb_n ?_
       refine ks_n ?_
       refine ACode.region ?_
       refine .cons (.pl rfl rfl rfl) ?_
       refine .cons (.mv rfl rfl) ?_
       refine .nil ?_
       refine kl_k [] ⟨i + 1, rfl, by omega, fun j hj => by exact (Nat.lt_succ_iff_lt_or_eq.1 hj).elim (fun h => hF j h) (fun h => by rw [h, hA, arrOk_eq]; first | (simp_all; done) | (simp_all; omega) | grind), rfl⟩ ⟨ks rfl .dt, ks rfl .dt, ks rfl .dt, ks rfl .dt, ks rfl .dt, trivial⟩
   ·skip
    have hB0 : i = 0 := by omega
    refine .cons (.gF rfl rfl rfl) ?_
    refine .cons (.gF rfl rfl rfl) ?_
    refine .cons (.gF rfl rfl rfl) ?_
    refine .cons (.gF rfl rfl rfl) ?_
    refine .cons (.gF rfl rfl rfl) ?_
    refine .cons (.gF rfl rfl rfl) ?_
    refine .cons (.gF rfl rfl rfl) ?_
    refine .cons (.gF rfl rfl rfl) ?_
    refine .cons (.gF rfl rfl rfl) ?_
    refine .cons (.gT rfl rfl rfl (.pF rfl rfl rfl)) ?_
    refine .cons (.pF rfl rfl rfl) ?_
    refine .cons (.mv rfl rfl) ?_
    refine .cons (.gT rfl rfl rfl (.fB 1 0 false rfl rfl rfl)) ?_
    refine .cons (.gT rfl rfl rfl (.b1 1 rfl rfl rfl rfl rfl rfl)) ?_
    refine .cons (.gT rfl rfl rfl (.ln 3 1 8 rfl rfl rfl)) ?_
    refine .cons (.gT rfl rfl rfl (.cP [.tmp 34, .const (.int .i64 (1)), .const (.int .i64 (2))] rfl rfl rfl rfl (within_fn _ 1 2) rfl)) ?_
    refine .cons (.gT rfl rfl rfl (.nt rfl rfl)) ?_
    refine .cons (.pF rfl rfl rfl) ?_
    refine .cons (.mv rfl rfl) ?_
    refine RunK.cases 38 _ rfl (fun g38 => ?_) (fun g38 => ?_)
    ·try simp only [zs1, zs2, zs3, zs4, zs5, zs6, zs7] at g38
     refine .cons (.gF rfl rfl rfl) ?_
     refine .cons (.gF rfl rfl rfl) ?_
     refine .cons (.gF rfl rfl rfl) ?_
     refine .cons (.pT rfl rfl rfl) ?_
     refine .nil ⟨by kernel_rfl, ?_⟩
     refine ks_n ?_
     refine ACode.condT rfl (fun _ => ?_) (fun h => by first | (cases h; done) | (simp [*] at h; done) | (exfalso; simp_all; done))
     refine ACode.seq ?_
     refine ACode.region ?_
     refine .cons (.asg rfl rfl) ?_
     refine .nil ?_
     refine ks_n ?_
     refine ACode.ret ?_
     refine kb_r ?_
     refine ks_r ?_
     refine kl_r ?_
     refine kb_r ?_
     refine ks_r ?_
     refine kf_ret rfl ?_ nobox
     exact leafB (arrsV_bad (i := i) (by omega) (by rw [hA, arrOk_eq]; first | (simp_all; done) | (simp_all; omega) | grind)).symm
    ·try simp only [zs1, zs2, zs3, zs4, zs5, zs6, zs7] at g38
     refine .cons (.gT rfl rfl rfl (.fB 1 0 false rfl rfl rfl)) ?_
     refine .cons (.gT rfl rfl rfl (.b1 1 rfl rfl rfl rfl rfl rfl)) ?_
     refine .cons (.gT rfl rfl rfl (.cP [.tmp 40, .func 162] rfl rfl rfl rfl (cnt_int (f := 162) (cap := []) (by kernel_rfl) (fun n => !dimV n) x.2 (hq x (List.mem_of_getElem? hx1)) (fun n _ => arr1_fn n)) rfl)) ?_
     refine .cons (.pF rfl rfl rfl) ?_
     refine .nil ⟨by kernel_rfl, ?_⟩
     refine ks_n ?_
     refine ACode.condT rfl (fun h42 => ?_) (fun h42 => ?_)
     ·try simp only [zs1, zs2, zs3, zs4, zs5, zs6, zs7] at h42
      refine ACode.seq ?_
      refine ACode.region ?_
      refine .cons (.asg rfl rfl) ?_
      refine .nil ?_
      refine ks_n ?_
      refine ACode.ret ?_
      refine kb_r ?_
      refine ks_r ?_
      refine kl_r ?_
      refine kb_r ?_
      refine ks_r ?_
      refine kf_ret rfl ?_ nobox
      exact leafB (arrsV_bad (i := i) (by omega) (by rw [hA, arrOk_eq]; first | (simp_all; done) | (simp_all; omega) | grind)).symm
     ·try simp only [zs1, zs2, zs3, zs4, zs5, zs6, zs7] at h42
      refine ACode.skip ?_
      refine kb_n ?_
      refine ks_n ?_
      refine ACode.region ?_
      refine .cons (.pl rfl rfl rfl) ?_
      refine .cons (.mv rfl rfl) ?_
      refine .nil ?_
      refine kl_k [] ⟨i + 1, rfl, by omega, fun j hj => by exact (Nat.lt_succ_iff_lt_or_eq.1 hj).elim (fun h => hF j h) (fun h => by rw [h, hA, arrOk_eq]; first | (simp_all; done) | (simp_all; omega) | grind), rfl⟩ ⟨ks rfl .dt, ks rfl .dt, ks rfl .dt, ks rfl .dt, ks rfl .dt, trivial⟩
 ·skip
  refine ACode.exit ?_
  refine ks_e ?_
  refine kl_e ?_
  refine kb_hit ?_
  refine ks_n ?_
  refine ACode.seq ?_
  refine ACode.region ?_
  refine .cons (.mv rfl rfl) ?_
  refine .cons (.ln 122 2 40 rfl rfl rfl) ?_
  refine .cons (.le rfl rfl rfl) ?_
  refine .cons (.asg rfl rfl) ?_
  refine .nil ?_
  refine ks_n ?_
  refine ACode.ret ?_
  refine kf_ret rfl ?_ nobox
  exact leafB (by rw [arrsV_end fun j hj => hF j (by omega)]; rw [decide_eq_decide]; omega)

set_option maxRecDepth 100000 in
set_option maxHeartbeats 1600000 in
theorem l4Arrays_fn (ar : List Arr) (hl : ar.length ≤ 1099511627776) (hq : ∀ x ∈ ar, x.2.length ≤ 1099511627776) : Fn Tryz.prog 75 [] [vD (dRs ar)] (.o (bo1 (arrsV ar))) [] := by
 refine Fn.code0 Tryz.func75 rfl rfl rfl rfl ?_
 refine ACode.seq ?_
 refine ACode.region ?_
 refine .cons (.asg rfl rfl) ?_
 refine .nil ?_
 refine ks_n ?_
 refine ACode.seq ?_
 refine ACode.seq ?_
 refine ACode.region ?_
 refine .cons (.asg rfl rfl) ?_
 refine .nil ?_
 refine ks_n ?_
 refine ACode.block ?_
 refine .loopK (fun m σ => (∃ i : Nat, m = ar.length - i ∧ (i ≤ ar.length) ∧ (∀ j, j < i → arrAt ar j = true) ∧ σ = [(.t 0, .v (.o (vD (dRs ar)))), (.t 2, .v (.o (bo1 false))), (.t 3, .v (.o (nat1 (i : Nat))))])) [] ⟨0, rfl, by omega, fun j hj => absurd hj (by omega), rfl⟩ ⟨ks rfl .dt, ks rfl .dt, ks rfl .dt, trivial⟩ ?_
 rintro m σ ⟨i, hm0, hi, hF, rfl⟩
 refine ACode.seq ?_
 refine ACode.seq ?_
 refine ACode.region ?_
 refine .cons (.mv rfl rfl) ?_
 refine .cons (.mv rfl rfl) ?_
 refine .cons (.ln 122 2 40 rfl rfl rfl) ?_
 refine .cons (.ls rfl rfl rfl) ?_
 refine .nil ?_
 refine ks_n ?_
 refine .cD rfl (fun h9 => ?_) (fun h9 => ?_)
 ·skip
  obtain ⟨x, hx1⟩ : ∃ x_, ar[i]? = some x_ := ⟨_, List.getElem?_eq_getElem (by omega)⟩
  have hA := arrAt_eq hx1
  have hxl := hq x (List.mem_of_getElem? hx1)
  refine ACode.skip ?_
  refine ks_n ?_
  refine ACode.seq ?_
  refine ACode.block ?_
  refine ACode.seq ?_
  refine ACode.region ?_
  refine .cons (.mv rfl rfl) ?_
  refine .cons (.mv rfl rfl) ?_
  refine .cons (.xL 122 2 40 rfl rfl rfl rfl rfl) ?_
  refine .cons (.lN 2 rfl rfl rfl) ?_
  refine .cons (.al 104 [.string ByteArray.empty, .slice none 0 0] rfl rfl rfl) ?_
  refine .cons (.sT 2 true rfl rfl rfl rfl rfl rfl rfl) ?_
  refine .nil ?_
  refine ks_n ?_
  refine ACode.seq ?_
  refine ACode.seq ?_
  refine ACode.drawK (by kernel_rfl) (by kernel_rfl) ?_
  refine .cons (.fB 0 0 false rfl rfl rfl) ?_
  refine .cons (.b1 1 rfl rfl rfl rfl rfl rfl) ?_
  refine .cons (St1.lenS rfl rfl rfl rfl rfl (by kernel_rfl) rfl) ?_
  refine .cons (.ne rfl rfl rfl) ?_
  refine .cons (.mv rfl rfl) ?_
  refine .cND 20 rfl (fun g20 => ?_) (fun g20 => ?_)
  ·skip
   have hAr := arrV_size (s := x.1) (by omega)
   refine .cons (.gF rfl rfl rfl) ?_
   refine .cons (.gF rfl rfl rfl) ?_
   refine .cons (.gF rfl rfl rfl) ?_
   refine .cons (.pT rfl rfl rfl) ?_
   refine .cons (.mv rfl rfl) ?_
   refine .cons (.gF rfl rfl rfl) ?_
   refine .cons (.gF rfl rfl rfl) ?_
   refine .cons (.gF rfl rfl rfl) ?_
   refine .cons (.pT rfl rfl rfl) ?_
   refine .cons (.mv rfl rfl) ?_
   refine .cons (.gF rfl rfl rfl) ?_
   refine .cons (.gF rfl rfl rfl) ?_
   refine .cons (.gF rfl rfl rfl) ?_
   refine .cons (.gU rfl rfl) ?_
   refine .cons (.gU rfl rfl) ?_
   refine .cons (.gU rfl rfl) ?_
   refine .cons (.gU rfl rfl) ?_
   refine .cons (.gU rfl rfl) ?_
   refine .cons (.gU rfl rfl) ?_
   refine .cons (.gU rfl rfl) ?_
   refine .cons (.gU rfl rfl) ?_
   refine .cons (.gU rfl rfl) ?_
   refine .cons (.gF rfl rfl rfl) ?_
   refine .cons (.pT rfl rfl rfl) ?_
   refine .cons (.mv rfl rfl) ?_
   refine .cons (.gF rfl rfl rfl) ?_
   refine .cons (.gF rfl rfl rfl) ?_
   refine .cons (.gF rfl rfl rfl) ?_
   refine .cons (.gF rfl rfl rfl) ?_
   refine .cons (.pT rfl rfl rfl) ?_
   refine .cons (.mv rfl rfl) ?_
   refine .cons (.gF rfl rfl rfl) ?_
   refine .cons (.gF rfl rfl rfl) ?_
   refine .cons (.gF rfl rfl rfl) ?_
   refine .cons (.gF rfl rfl rfl) ?_
   refine .cons (.pT rfl rfl rfl) ?_
   refine .nil ⟨by kernel_rfl, ?_⟩
   refine ks_n ?_
   refine ACode.condT rfl (fun _ => ?_) (fun h => by first | (cases h; done) | (simp [*] at h; done) | (exfalso; simp_all; done))
   refine ACode.seq ?_
   refine ACode.region ?_
   refine .cons (.asg rfl rfl) ?_
   refine .nil ?_
   refine ks_n ?_
   refine ACode.ret ?_
   refine ks_r ?_
   refine kb_r ?_
   refine ks_r ?_
   refine kl_r ?_
   refine kb_r ?_
   refine ks_r ?_
   refine kf_ret rfl ?_ nobox
   exact leafB (arrsV_bad (i := i) (by omega) (by rw [hA, arrOk]; rw [hAr] at *; first | (simp_all; done) | (simp_all; omega) | grind)).symm
  ·skip
   have hAr := arr_leaf (s := x.1) (by omega)
   refine .cons (.gT rfl rfl rfl (.fB 0 0 false rfl rfl rfl)) ?_
   refine .cons (.gT rfl rfl rfl (.b1 1 rfl rfl rfl rfl rfl rfl)) ?_
   refine .cons (.gT rfl rfl rfl (St1.ltS rfl rfl rfl)) ?_
   refine .cons (.pF rfl rfl rfl) ?_
   refine .cons (.mv rfl rfl) ?_
   refine RunK.cases 25 _ rfl (fun g25 => ?_) (fun g25 => ?_)
   ·try simp only [zs1, zs2, zs3, zs4, zs5, zs6, zs7] at g25
    refine .cons (.gF rfl rfl rfl) ?_
    refine .cons (.gF rfl rfl rfl) ?_
    refine .cons (.gF rfl rfl rfl) ?_
    refine .cons (.pT rfl rfl rfl) ?_
    refine .cons (.mv rfl rfl) ?_
    refine .cons (.gF rfl rfl rfl) ?_
    refine .cons (.gF rfl rfl rfl) ?_
    refine .cons (.gF rfl rfl rfl) ?_
    refine .cons (.gU rfl rfl) ?_
    refine .cons (.gU rfl rfl) ?_
    refine .cons (.gU rfl rfl) ?_
    refine .cons (.gU rfl rfl) ?_
    refine .cons (.gU rfl rfl) ?_
    refine .cons (.gU rfl rfl) ?_
    refine .cons (.gU rfl rfl) ?_
    refine .cons (.gU rfl rfl) ?_
    refine .cons (.gU rfl rfl) ?_
    refine .cons (.gF rfl rfl rfl) ?_
    refine .cons (.pT rfl rfl rfl) ?_
    refine .cons (.mv rfl rfl) ?_
    refine .cons (.gF rfl rfl rfl) ?_
    refine .cons (.gF rfl rfl rfl) ?_
    refine .cons (.gF rfl rfl rfl) ?_
    refine .cons (.gF rfl rfl rfl) ?_
    refine .cons (.pT rfl rfl rfl) ?_
    refine .cons (.mv rfl rfl) ?_
    refine .cons (.gF rfl rfl rfl) ?_
    refine .cons (.gF rfl rfl rfl) ?_
    refine .cons (.gF rfl rfl rfl) ?_
    refine .cons (.gF rfl rfl rfl) ?_
    refine .cons (.pT rfl rfl rfl) ?_
    refine .nil ⟨by kernel_rfl, ?_⟩
    refine ks_n ?_
    refine ACode.condT rfl (fun _ => ?_) (fun h => by first | (cases h; done) | (simp [*] at h; done) | (exfalso; simp_all; done))
    refine ACode.seq ?_
    refine ACode.region ?_
    refine .cons (.asg rfl rfl) ?_
    refine .nil ?_
    refine ks_n ?_
    refine ACode.ret ?_
    refine ks_r ?_
    refine kb_r ?_
    refine ks_r ?_
    refine kl_r ?_
    refine kb_r ?_
    refine ks_r ?_
    refine kf_ret rfl ?_ nobox
    exact leafB (arrsV_bad (i := i) (by omega) (by rw [hA, arrOk]; rw [hAr] at *; first | (simp_all; done) | (simp_all; omega) | grind)).symm
   ·try simp only [zs1, zs2, zs3, zs4, zs5, zs6, zs7] at g25
    refine .cons (.gT rfl rfl rfl (.fB 0 0 false rfl rfl rfl)) ?_
    refine .cons (.gT rfl rfl rfl (.b1 1 rfl rfl rfl rfl rfl rfl)) ?_
    refine .cons (.gT rfl rfl rfl (St1.gtS rfl rfl rfl)) ?_
    refine .cons (.pF rfl rfl rfl) ?_
    refine .cons (.mv rfl rfl) ?_
    refine RunK.cases 30 _ rfl (fun g30 => ?_) (fun g30 => ?_)
    ·try simp only [zs1, zs2, zs3, zs4, zs5, zs6, zs7] at g30
     refine .cons (.gF rfl rfl rfl) ?_
     refine .cons (.gF rfl rfl rfl) ?_
     refine .cons (.gF rfl rfl rfl) ?_
     refine .cons (.gU rfl rfl) ?_
     refine .cons (.gU rfl rfl) ?_
     refine .cons (.gU rfl rfl) ?_
     refine .cons (.gU rfl rfl) ?_
     refine .cons (.gU rfl rfl) ?_
     refine .cons (.gU rfl rfl) ?_
     refine .cons (.gU rfl rfl) ?_
     refine .cons (.gU rfl rfl) ?_
     refine .cons (.gU rfl rfl) ?_
     refine .cons (.gF rfl rfl rfl) ?_
     refine .cons (.pT rfl rfl rfl) ?_
     refine .cons (.mv rfl rfl) ?_
     refine .cons (.gF rfl rfl rfl) ?_
     refine .cons (.gF rfl rfl rfl) ?_
     refine .cons (.gF rfl rfl rfl) ?_
     refine .cons (.gF rfl rfl rfl) ?_
     refine .cons (.pT rfl rfl rfl) ?_
     refine .cons (.mv rfl rfl) ?_
     refine .cons (.gF rfl rfl rfl) ?_
     refine .cons (.gF rfl rfl rfl) ?_
     refine .cons (.gF rfl rfl rfl) ?_
     refine .cons (.gF rfl rfl rfl) ?_
     refine .cons (.pT rfl rfl rfl) ?_
     refine .nil ⟨by kernel_rfl, ?_⟩
     refine ks_n ?_
     refine ACode.condT rfl (fun _ => ?_) (fun h => by first | (cases h; done) | (simp [*] at h; done) | (exfalso; simp_all; done))
     refine ACode.seq ?_
     refine ACode.region ?_
     refine .cons (.asg rfl rfl) ?_
     refine .nil ?_
     refine ks_n ?_
     refine ACode.ret ?_
     refine ks_r ?_
     refine kb_r ?_
     refine ks_r ?_
     refine kl_r ?_
     refine kb_r ?_
     refine ks_r ?_
     refine kf_ret rfl ?_ nobox
     exact leafB (arrsV_bad (i := i) (by omega) (by rw [hA, arrOk]; rw [hAr] at *; first | (simp_all; done) | (simp_all; omega) | grind)).symm
    ·try simp only [zs1, zs2, zs3, zs4, zs5, zs6, zs7] at g30
     refine .cons (.gT rfl rfl rfl (.mv rfl rfl)) ?_
     refine .cons (.gT rfl rfl rfl (.gt rfl rfl rfl)) ?_
     refine .cons (.gT rfl rfl rfl (.mv rfl rfl)) ?_
     refine .cD 33 rfl (fun g33 => ?_) (fun g33 => ?_)
     ·skip
      obtain ⟨y, hy1⟩ : ∃ x_, ar[i - 1]? = some x_ := ⟨_, List.getElem?_eq_getElem (by omega)⟩
      have hB := lastV_eq (a := x) hy1
      refine .cons (.gT rfl rfl rfl (.mv rfl rfl)) ?_
      refine .cons (.gT rfl rfl rfl (.mv rfl rfl)) ?_
      refine .cons (.gT rfl rfl rfl (.sb rfl rfl rfl)) ?_
      refine .cons (.gT rfl rfl rfl (.xL 122 2 40 (i := (i - 1)) rfl rfl rfl rfl (by omega) (map_at hy1))) ?_
      refine .cons (.gT rfl rfl rfl (.fP 0 0 false rfl rfl)) ?_
      refine .cons (.gT rfl rfl rfl (.l1 1 rfl rfl)) ?_
      refine .cons (.gT rfl rfl rfl (.fB 0 0 false rfl rfl rfl)) ?_
      refine .cons (.gT rfl rfl rfl (.b1 1 rfl rfl rfl rfl rfl rfl)) ?_
      refine .cons (.gT rfl rfl rfl (St1.geS rfl rfl rfl)) ?_
      refine .cons (.gT rfl rfl rfl (.pT rfl rfl rfl)) ?_
      refine .cons (.pF rfl rfl rfl) ?_
      refine .cons (.mv rfl rfl) ?_
      refine RunK.cases 45 _ rfl (fun g45 => ?_) (fun g45 => ?_)
      ·try simp only [zs1, zs2, zs3, zs4, zs5, zs6, zs7] at g45
       refine .cons (.gF rfl rfl rfl) ?_
       refine .cons (.gF rfl rfl rfl) ?_
       refine .cons (.gF rfl rfl rfl) ?_
       refine .cons (.gF rfl rfl rfl) ?_
       refine .cons (.pT rfl rfl rfl) ?_
       refine .cons (.mv rfl rfl) ?_
       refine .cons (.gF rfl rfl rfl) ?_
       refine .cons (.gF rfl rfl rfl) ?_
       refine .cons (.gF rfl rfl rfl) ?_
       refine .cons (.gF rfl rfl rfl) ?_
       refine .cons (.pT rfl rfl rfl) ?_
       refine .nil ⟨by kernel_rfl, ?_⟩
       refine ks_n ?_
       refine ACode.condT rfl (fun _ => ?_) (fun h => by first | (cases h; done) | (simp [*] at h; done) | (exfalso; simp_all; done))
       refine ACode.seq ?_
       refine ACode.region ?_
       refine .cons (.asg rfl rfl) ?_
       refine .nil ?_
       refine ks_n ?_
       refine ACode.ret ?_
       refine ks_r ?_
       refine kb_r ?_
       refine ks_r ?_
       refine kl_r ?_
       refine kb_r ?_
       refine ks_r ?_
       refine kf_ret rfl ?_ nobox
       exact leafB (arrsV_bad (i := i) (by omega) (by rw [hA, arrOk]; rw [hAr] at *; first | (simp_all; done) | (simp_all; omega) | grind)).symm
      ·try simp only [zs1, zs2, zs3, zs4, zs5, zs6, zs7] at g45
       refine .cons (.gT rfl rfl rfl (.fB 1 0 false rfl rfl rfl)) ?_
       refine .cons (.gT rfl rfl rfl (.b1 1 rfl rfl rfl rfl rfl rfl)) ?_
       refine .cons (.gT rfl rfl rfl (.ln 3 1 8 rfl rfl rfl)) ?_
       refine .cons (.gT rfl rfl rfl (.ls rfl rfl rfl)) ?_
       refine .cons (.pF rfl rfl rfl) ?_
       refine .cons (.mv rfl rfl) ?_
       refine RunK.cases 51 _ rfl (fun g51 => ?_) (fun g51 => ?_)
       ·try simp only [zs1, zs2, zs3, zs4, zs5, zs6, zs7] at g51
        refine .cons (.gF rfl rfl rfl) ?_
        refine .cons (.gF rfl rfl rfl) ?_
        refine .cons (.gF rfl rfl rfl) ?_
        refine .cons (.gF rfl rfl rfl) ?_
        refine .cons (.pT rfl rfl rfl) ?_
        refine .nil ⟨by kernel_rfl, ?_⟩
        refine ks_n ?_
        refine ACode.condT rfl (fun _ => ?_) (fun h => by first | (cases h; done) | (simp [*] at h; done) | (exfalso; simp_all; done))
        refine ACode.seq ?_
        refine ACode.region ?_
        refine .cons (.asg rfl rfl) ?_
        refine .nil ?_
        refine ks_n ?_
        refine ACode.ret ?_
        refine ks_r ?_
        refine kb_r ?_
        refine ks_r ?_
        refine kl_r ?_
        refine kb_r ?_
        refine ks_r ?_
        refine kf_ret rfl ?_ nobox
        exact leafB (arrsV_bad (i := i) (by omega) (by rw [hA, arrOk]; rw [hAr] at *; first | (simp_all; done) | (simp_all; omega) | grind)).symm
       ·try simp only [zs1, zs2, zs3, zs4, zs5, zs6, zs7] at g51
        refine .cons (.gT rfl rfl rfl (.fB 1 0 false rfl rfl rfl)) ?_
        refine .cons (.gT rfl rfl rfl (.b1 1 rfl rfl rfl rfl rfl rfl)) ?_
        refine .cons (.gT rfl rfl rfl (.ln 3 1 8 rfl rfl rfl)) ?_
        refine .cons (.gT rfl rfl rfl (.gt rfl rfl rfl)) ?_
        refine .cons (.pF rfl rfl rfl) ?_
        refine .nil ⟨by kernel_rfl, ?_⟩
        refine ks_n ?_
        refine ACode.condT rfl (fun h56 => ?_) (fun h56 => ?_)
        ·try simp only [zs1, zs2, zs3, zs4, zs5, zs6, zs7] at h56
         refine ACode.seq ?_
         refine ACode.region ?_
         refine .cons (.asg rfl rfl) ?_
         refine .nil ?_
         refine ks_n ?_
         refine ACode.ret ?_
         refine ks_r ?_
         refine kb_r ?_
         refine ks_r ?_
         refine kl_r ?_
         refine kb_r ?_
         refine ks_r ?_
         refine kf_ret rfl ?_ nobox
         exact leafB (arrsV_bad (i := i) (by omega) (by rw [hA, arrOk]; rw [hAr] at *; first | (simp_all; done) | (simp_all; omega) | grind)).symm
        ·try simp only [zs1, zs2, zs3, zs4, zs5, zs6, zs7] at h56
         refine ACode.skip ?_
         refine ks_n ?_
         refine ACode.seq ?_
         refine ACode.region ?_
         refine .cons (.asg rfl rfl) ?_
         refine .nil ?_
         refine ks_n ?_
         refine ACode.block ?_
         refine .loopK (fun m σ => (∃ k : Nat, m = x.2.length - k ∧ (k ≤ x.2.length) ∧ (x.2.all dimV = (x.2.drop k).all dimV) ∧ σ = [(.t 0, .v (.o (vD (dRs ar)))), (.t 2, .v (.o (bo1 false))), (.t 3, .v (.o (nat1 (i : Nat)))), (.t 4, .v (.o (.c (.ptr (rR x))))), (.t 5, .v (.o (nat1 (k : Nat))))])) [] ⟨0, rfl, by omega, rfl, rfl⟩ ⟨ks rfl .dt, ks rfl .dt, ks rfl .dt, ks rfl (.c (.frzP _ _ _ _ _ _ _ _ rfl (show _ = dR [rR x] from rfl) rfl rfl rfl)), ks rfl .dt, trivial⟩ ?_
         rintro m σ ⟨k, hm0, hk, hG, rfl⟩
         refine ACode.seq ?_
         refine ACode.seq ?_
         refine ACode.region ?_
         refine .cons (.mv rfl rfl) ?_
         refine .cons (.fP 1 0 false rfl rfl) ?_
         refine .cons (.l1 1 rfl rfl) ?_
         refine .cons (.ln 3 1 8 rfl rfl rfl) ?_
         refine .cons (.ls rfl rfl rfl) ?_
         refine .nil ?_
         refine ks_n ?_
         refine .cD rfl (fun h61 => ?_) (fun h61 => ?_)
         ·skip
          obtain ⟨d, hd1⟩ : ∃ x_, x.2[k]? = some x_ := ⟨_, List.getElem?_eq_getElem (by omega)⟩
          refine ACode.skip ?_
          refine ks_n ?_
          refine ACode.seq ?_
          refine ACode.block ?_
          refine ACode.seq ?_
          refine ACode.region ?_
          refine .cons (.fP 1 0 false rfl rfl) ?_
          refine .cons (.l1 1 rfl rfl) ?_
          refine .cons (.mv rfl rfl) ?_
          refine .cons (.xL 3 1 8 rfl rfl rfl rfl rfl) ?_
          refine .cons (.l1 1 rfl rfl) ?_
          refine .cons (.ls rfl rfl rfl) ?_
          refine .cons (.mv rfl rfl) ?_
          refine .cD 70 rfl (fun g70 => ?_) (fun g70 => ?_)
          ·skip
           refine .cons (.gF rfl rfl rfl) ?_
           refine .cons (.gF rfl rfl rfl) ?_
           refine .cons (.gF rfl rfl rfl) ?_
           refine .cons (.gF rfl rfl rfl) ?_
           refine .cons (.gF rfl rfl rfl) ?_
           refine .cons (.gF rfl rfl rfl) ?_
           refine .cons (.pT rfl rfl rfl) ?_
           refine .nil ?_
           refine ks_n ?_
           refine ACode.condT rfl (fun _ => ?_) (fun h => by first | (cases h; done) | (simp [*] at h; done) | (exfalso; simp_all; done))
           refine ACode.seq ?_
           have hdv : dimV d = false := decide_eq_false (by omega)
           have hD : x.2.all dimV = false := by rw [hG, all_drop hd1, hdv, Bool.false_and]
           refine ACode.region ?_
           refine .cons (.asg rfl rfl) ?_
           refine .nil ?_
           refine ks_n ?_
           refine ACode.ret ?_
           refine kb_r ?_
           refine ks_r ?_
           refine kl_r ?_
           refine kb_r ?_
           refine kb_r ?_
           refine ks_r ?_
           refine kl_r ?_
           refine kb_r ?_
           refine ks_r ?_
           refine kf_ret rfl ?_ nobox
           exact leafB (arrsV_bad (i := i) (by omega) (by rw [hA, arrOk, hD, Bool.and_false, Bool.and_false, Bool.false_and])).symm
          ·skip
           refine .cons (.gT rfl rfl rfl (.fP 1 0 false rfl rfl)) ?_
           refine .cons (.gT rfl rfl rfl (.l1 1 rfl rfl)) ?_
           refine .cons (.gT rfl rfl rfl (.mv rfl rfl)) ?_
           refine .cons (.gT rfl rfl rfl (.xL 3 1 8 rfl rfl rfl rfl rfl)) ?_
           refine .cons (.gT rfl rfl rfl (.l1 1 rfl rfl)) ?_
           refine .cons (.gT rfl rfl rfl (.gt rfl rfl rfl)) ?_
           refine .cons (.pF rfl rfl rfl) ?_
           refine .nil ?_
           refine ks_n ?_
           refine ACode.condT rfl (fun h77 => ?_) (fun h77 => ?_)
           ·try simp only [zs1, zs2, zs3, zs4, zs5, zs6, zs7] at h77
            refine ACode.seq ?_
            have hdv : dimV d = false := decide_eq_false (by omega)
            have hD : x.2.all dimV = false := by rw [hG, all_drop hd1, hdv, Bool.false_and]
            refine ACode.region ?_
            refine .cons (.asg rfl rfl) ?_
            refine .nil ?_
            refine ks_n ?_
            refine ACode.ret ?_
            refine kb_r ?_
            refine ks_r ?_
            refine kl_r ?_
            refine kb_r ?_
            refine kb_r ?_
            refine ks_r ?_
            refine kl_r ?_
            refine kb_r ?_
            refine ks_r ?_
            refine kf_ret rfl ?_ nobox
            exact leafB (arrsV_bad (i := i) (by omega) (by rw [hA, arrOk, hD, Bool.and_false, Bool.and_false, Bool.false_and])).symm
           ·try simp only [zs1, zs2, zs3, zs4, zs5, zs6, zs7] at h77
            have hdv : dimV d = true := decide_eq_true (by omega)
            refine ACode.skip ?_
            refine kb_n ?_
            refine ks_n ?_
            refine ACode.region ?_
            refine .cons (.mv rfl rfl) ?_
            refine .cons (.pl rfl rfl rfl) ?_
            refine .cons (.asg rfl rfl) ?_
            refine .nil ?_
            refine kl_k [] ⟨k + 1, rfl, by omega, by rw [hG, all_drop hd1, hdv, Bool.true_and], rfl⟩ ⟨ks rfl .dt, ks rfl .dt, ks rfl .dt, ks rfl .dt, ks rfl .dt, trivial⟩
         ·skip
          have hD : x.2.all dimV = true := by rw [hG, List.drop_of_length_le (by omega)]; rfl
          refine ACode.exit ?_
          refine ks_e ?_
          refine kl_e ?_
          refine kb_hit ?_
          refine kb_n ?_
          refine ks_n ?_
          refine ACode.region ?_
          refine .cons (.mv rfl rfl) ?_
          refine .cons (.pl rfl rfl rfl) ?_
          refine .cons (.asg rfl rfl) ?_
          refine .nil ?_
          refine kl_k [] ⟨i + 1, rfl, by omega, fun j hj => (Nat.lt_succ_iff_lt_or_eq.1 hj).elim (fun h => hF j h) (fun h => by rw [h, hA, arrOk, hD]; rw [hAr] at *; first | (simp_all; done) | (simp_all; omega) | grind), rfl⟩ ⟨ks rfl .dt, ks rfl .dt, ks rfl .dt, trivial⟩
     ·skip
      have hB0 : i = 0 := by omega
      refine .cons (.gF rfl rfl rfl) ?_
      refine .cons (.gF rfl rfl rfl) ?_
      refine .cons (.gF rfl rfl rfl) ?_
      refine .cons (.gF rfl rfl rfl) ?_
      refine .cons (.gF rfl rfl rfl) ?_
      refine .cons (.gF rfl rfl rfl) ?_
      refine .cons (.gF rfl rfl rfl) ?_
      refine .cons (.gF rfl rfl rfl) ?_
      refine .cons (.gF rfl rfl rfl) ?_
      refine .cons (.gT rfl rfl rfl (.pF rfl rfl rfl)) ?_
      refine .cons (.pF rfl rfl rfl) ?_
      refine .cons (.mv rfl rfl) ?_
      refine .cons (.gT rfl rfl rfl (.fB 1 0 false rfl rfl rfl)) ?_
      refine .cons (.gT rfl rfl rfl (.b1 1 rfl rfl rfl rfl rfl rfl)) ?_
      refine .cons (.gT rfl rfl rfl (.ln 3 1 8 rfl rfl rfl)) ?_
      refine .cons (.gT rfl rfl rfl (.ls rfl rfl rfl)) ?_
      refine .cons (.pF rfl rfl rfl) ?_
      refine .cons (.mv rfl rfl) ?_
      refine RunK.cases 51 _ rfl (fun g51 => ?_) (fun g51 => ?_)
      ·try simp only [zs1, zs2, zs3, zs4, zs5, zs6, zs7] at g51
       refine .cons (.gF rfl rfl rfl) ?_
       refine .cons (.gF rfl rfl rfl) ?_
       refine .cons (.gF rfl rfl rfl) ?_
       refine .cons (.gF rfl rfl rfl) ?_
       refine .cons (.pT rfl rfl rfl) ?_
       refine .nil ⟨by kernel_rfl, ?_⟩
       refine ks_n ?_
       refine ACode.condT rfl (fun _ => ?_) (fun h => by first | (cases h; done) | (simp [*] at h; done) | (exfalso; simp_all; done))
       refine ACode.seq ?_
       refine ACode.region ?_
       refine .cons (.asg rfl rfl) ?_
       refine .nil ?_
       refine ks_n ?_
       refine ACode.ret ?_
       refine ks_r ?_
       refine kb_r ?_
       refine ks_r ?_
       refine kl_r ?_
       refine kb_r ?_
       refine ks_r ?_
       refine kf_ret rfl ?_ nobox
       exact leafB (arrsV_bad (i := i) (by omega) (by rw [hA, arrOk]; rw [hAr] at *; first | (simp_all; done) | (simp_all; omega) | grind)).symm
      ·try simp only [zs1, zs2, zs3, zs4, zs5, zs6, zs7] at g51
       refine .cons (.gT rfl rfl rfl (.fB 1 0 false rfl rfl rfl)) ?_
       refine .cons (.gT rfl rfl rfl (.b1 1 rfl rfl rfl rfl rfl rfl)) ?_
       refine .cons (.gT rfl rfl rfl (.ln 3 1 8 rfl rfl rfl)) ?_
       refine .cons (.gT rfl rfl rfl (.gt rfl rfl rfl)) ?_
       refine .cons (.pF rfl rfl rfl) ?_
       refine .nil ⟨by kernel_rfl, ?_⟩
       refine ks_n ?_
       refine ACode.condT rfl (fun h56 => ?_) (fun h56 => ?_)
       ·try simp only [zs1, zs2, zs3, zs4, zs5, zs6, zs7] at h56
        refine ACode.seq ?_
        refine ACode.region ?_
        refine .cons (.asg rfl rfl) ?_
        refine .nil ?_
        refine ks_n ?_
        refine ACode.ret ?_
        refine ks_r ?_
        refine kb_r ?_
        refine ks_r ?_
        refine kl_r ?_
        refine kb_r ?_
        refine ks_r ?_
        refine kf_ret rfl ?_ nobox
        exact leafB (arrsV_bad (i := i) (by omega) (by rw [hA, arrOk]; rw [hAr] at *; first | (simp_all; done) | (simp_all; omega) | grind)).symm
       ·try simp only [zs1, zs2, zs3, zs4, zs5, zs6, zs7] at h56
        refine ACode.skip ?_
        refine ks_n ?_
        refine ACode.seq ?_
        refine ACode.region ?_
        refine .cons (.asg rfl rfl) ?_
        refine .nil ?_
        refine ks_n ?_
        refine ACode.block ?_
        refine .loopK (fun m σ => (∃ k : Nat, m = x.2.length - k ∧ (k ≤ x.2.length) ∧ (x.2.all dimV = (x.2.drop k).all dimV) ∧ σ = [(.t 0, .v (.o (vD (dRs ar)))), (.t 2, .v (.o (bo1 false))), (.t 3, .v (.o (nat1 (i : Nat)))), (.t 4, .v (.o (.c (.ptr (rR x))))), (.t 5, .v (.o (nat1 (k : Nat))))])) [] ⟨0, rfl, by omega, rfl, rfl⟩ ⟨ks rfl .dt, ks rfl .dt, ks rfl .dt, ks rfl (.c (.frzP _ _ _ _ _ _ _ _ rfl (show _ = dR [rR x] from rfl) rfl rfl rfl)), ks rfl .dt, trivial⟩ ?_
        rintro m σ ⟨k, hm0, hk, hG, rfl⟩
        refine ACode.seq ?_
        refine ACode.seq ?_
        refine ACode.region ?_
        refine .cons (.mv rfl rfl) ?_
        refine .cons (.fP 1 0 false rfl rfl) ?_
        refine .cons (.l1 1 rfl rfl) ?_
        refine .cons (.ln 3 1 8 rfl rfl rfl) ?_
        refine .cons (.ls rfl rfl rfl) ?_
        refine .nil ?_
        refine ks_n ?_
        refine .cD rfl (fun h61 => ?_) (fun h61 => ?_)
        ·skip
         obtain ⟨d, hd1⟩ : ∃ x_, x.2[k]? = some x_ := ⟨_, List.getElem?_eq_getElem (by omega)⟩
         refine ACode.skip ?_
         refine ks_n ?_
         refine ACode.seq ?_
         refine ACode.block ?_
         refine ACode.seq ?_
         refine ACode.region ?_
         refine .cons (.fP 1 0 false rfl rfl) ?_
         refine .cons (.l1 1 rfl rfl) ?_
         refine .cons (.mv rfl rfl) ?_
         refine .cons (.xL 3 1 8 rfl rfl rfl rfl rfl) ?_
         refine .cons (.l1 1 rfl rfl) ?_
         refine .cons (.ls rfl rfl rfl) ?_
         refine .cons (.mv rfl rfl) ?_
         refine .cD 70 rfl (fun g70 => ?_) (fun g70 => ?_)
         ·skip
          refine .cons (.gF rfl rfl rfl) ?_
          refine .cons (.gF rfl rfl rfl) ?_
          refine .cons (.gF rfl rfl rfl) ?_
          refine .cons (.gF rfl rfl rfl) ?_
          refine .cons (.gF rfl rfl rfl) ?_
          refine .cons (.gF rfl rfl rfl) ?_
          refine .cons (.pT rfl rfl rfl) ?_
          refine .nil ?_
          refine ks_n ?_
          refine ACode.condT rfl (fun _ => ?_) (fun h => by first | (cases h; done) | (simp [*] at h; done) | (exfalso; simp_all; done))
          refine ACode.seq ?_
          have hdv : dimV d = false := decide_eq_false (by omega)
          have hD : x.2.all dimV = false := by rw [hG, all_drop hd1, hdv, Bool.false_and]
          refine ACode.region ?_
          refine .cons (.asg rfl rfl) ?_
          refine .nil ?_
          refine ks_n ?_
          refine ACode.ret ?_
          refine kb_r ?_
          refine ks_r ?_
          refine kl_r ?_
          refine kb_r ?_
          refine kb_r ?_
          refine ks_r ?_
          refine kl_r ?_
          refine kb_r ?_
          refine ks_r ?_
          refine kf_ret rfl ?_ nobox
          exact leafB (arrsV_bad (i := i) (by omega) (by rw [hA, arrOk, hD, Bool.and_false, Bool.and_false, Bool.false_and])).symm
         ·skip
          refine .cons (.gT rfl rfl rfl (.fP 1 0 false rfl rfl)) ?_
          refine .cons (.gT rfl rfl rfl (.l1 1 rfl rfl)) ?_
          refine .cons (.gT rfl rfl rfl (.mv rfl rfl)) ?_
          refine .cons (.gT rfl rfl rfl (.xL 3 1 8 rfl rfl rfl rfl rfl)) ?_
          refine .cons (.gT rfl rfl rfl (.l1 1 rfl rfl)) ?_
          refine .cons (.gT rfl rfl rfl (.gt rfl rfl rfl)) ?_
          refine .cons (.pF rfl rfl rfl) ?_
          refine .nil ?_
          refine ks_n ?_
          refine ACode.condT rfl (fun h77 => ?_) (fun h77 => ?_)
          ·try simp only [zs1, zs2, zs3, zs4, zs5, zs6, zs7] at h77
           refine ACode.seq ?_
           have hdv : dimV d = false := decide_eq_false (by omega)
           have hD : x.2.all dimV = false := by rw [hG, all_drop hd1, hdv, Bool.false_and]
           refine ACode.region ?_
           refine .cons (.asg rfl rfl) ?_
           refine .nil ?_
           refine ks_n ?_
           refine ACode.ret ?_
           refine kb_r ?_
           refine ks_r ?_
           refine kl_r ?_
           refine kb_r ?_
           refine kb_r ?_
           refine ks_r ?_
           refine kl_r ?_
           refine kb_r ?_
           refine ks_r ?_
           refine kf_ret rfl ?_ nobox
           exact leafB (arrsV_bad (i := i) (by omega) (by rw [hA, arrOk, hD, Bool.and_false, Bool.and_false, Bool.false_and])).symm
          ·try simp only [zs1, zs2, zs3, zs4, zs5, zs6, zs7] at h77
           have hdv : dimV d = true := decide_eq_true (by omega)
           refine ACode.skip ?_
           refine kb_n ?_
           refine ks_n ?_
           refine ACode.region ?_
           refine .cons (.mv rfl rfl) ?_
           refine .cons (.pl rfl rfl rfl) ?_
           refine .cons (.asg rfl rfl) ?_
           refine .nil ?_
           refine kl_k [] ⟨k + 1, rfl, by omega, by rw [hG, all_drop hd1, hdv, Bool.true_and], rfl⟩ ⟨ks rfl .dt, ks rfl .dt, ks rfl .dt, ks rfl .dt, ks rfl .dt, trivial⟩
        ·skip
         have hD : x.2.all dimV = true := by rw [hG, List.drop_of_length_le (by omega)]; rfl
         refine ACode.exit ?_
         refine ks_e ?_
         refine kl_e ?_
         refine kb_hit ?_
         refine kb_n ?_
         refine ks_n ?_
         refine ACode.region ?_
         refine .cons (.mv rfl rfl) ?_
         refine .cons (.pl rfl rfl rfl) ?_
         refine .cons (.asg rfl rfl) ?_
         refine .nil ?_
         refine kl_k [] ⟨i + 1, rfl, by omega, fun j hj => (Nat.lt_succ_iff_lt_or_eq.1 hj).elim (fun h => hF j h) (fun h => by rw [h, hA, arrOk, hD]; rw [hAr] at *; first | (simp_all; done) | (simp_all; omega) | grind), rfl⟩ ⟨ks rfl .dt, ks rfl .dt, ks rfl .dt, trivial⟩
 ·skip
  refine ACode.exit ?_
  refine ks_e ?_
  refine kl_e ?_
  refine kb_hit ?_
  refine ks_n ?_
  refine ACode.seq ?_
  refine ACode.region ?_
  refine .cons (.mv rfl rfl) ?_
  refine .cons (.ln 122 2 40 rfl rfl rfl) ?_
  refine .cons (.le rfl rfl rfl) ?_
  refine .cons (.asg rfl rfl) ?_
  refine .nil ?_
  refine ks_n ?_
  refine ACode.ret ?_
  refine kf_ret rfl ?_ nobox
  exact leafB (by rw [arrsV_end fun j hj => hF j (by omega)]; rw [decide_eq_decide]; omega)
theorem accV_at {D : Nat} {a : Acc} (h : accV D a = true) : (1 ≤ a.2.length ∧ a.2.length ≤ 2) ∧ ∀ s ∈ a.2, affV s = true := by
  simp only [accV, sideV, bndV, Bool.and_eq_true, List.all_eq_true, decide_eq_true_eq] at h
  exact ⟨by omega, fun x hx => (h.2.1.1 x hx).1⟩
theorem arr_mem {as_ : List Arr} (h : arrsV as_ = true) {i : Nat} {x : Arr} (hx : as_[i]? = some x) : arrOk x = true := arrsV_at h (List.mem_of_getElem? hx)

set_option maxRecDepth 100000 in
set_option maxHeartbeats 1600000 in
theorem size_fn {a : Arr} (h : arrOk a = true) : Fn Tryz.prog 132 [] [ad (rR a)] (.o (nat1 (sizeA a.2))) [] := by
 obtain ⟨hl, hd⟩ := arrOk_at h
 refine Fn.code0 Tryz.func132 rfl rfl rfl rfl ?_
 refine ACode.seq ?_
 refine ACode.region ?_
 refine .cons (St1.boxP rfl rfl rfl rfl rfl rfl) ?_
 refine .cons (.asg rfl rfl) ?_
 refine .nil ?_
 refine ks_n ?_
 refine ACode.seq ?_
 refine ACode.region ?_
 refine .cons (.asg rfl rfl) ?_
 refine .nil ?_
 refine ks_n ?_
 refine ACode.seq ?_
 refine ACode.seq ?_
 refine ACode.region ?_
 refine .cons (.fP 1 0 false rfl rfl) ?_
 refine .cons (.l1 1 rfl rfl) ?_
 refine .cons (.ln 3 1 8 rfl rfl rfl) ?_
 refine .cons (.mv rfl rfl) ?_
 refine .nil ?_
 refine ks_n ?_
 refine ACode.block ?_
 refine .loopK (fun m σ => (∃ (i : Nat) (n : Int), m = a.2.length - i ∧ (i ≤ a.2.length) ∧ (sizeA a.2 = sizeF n (a.2.drop i)) ∧ (B6 i n) ∧ σ = [(.t 1, .v (.o (.c (.ptr (rR a))))), (.t 2, .v (.o (nat1 0))), (.t 3, .v (.o (nat1 n))), (.t 7, .v (.o (vD (dIs a.2)))), (.t 8, .v (.o (nat1 (a.2.length : Nat)))), (.t 9, .v (.o (nat1 (i : Nat))))])) [] ⟨0, 1, rfl, by omega, rfl, by unfold B6; omega, rfl⟩ ⟨ks rfl .dt, ks rfl .dt, ks rfl .dt, ks rfl .dt, ks rfl .dt, ks rfl .dt, trivial⟩ ?_
 rintro m σ ⟨i, n, hm0, hi, hF, hB, rfl⟩
 refine ACode.seq ?_
 refine ACode.region ?_
 refine .cons (.ls rfl rfl rfl) ?_
 refine .nil ?_
 refine ks_n ?_
 refine ACode.seq ?_
 refine .cD rfl (fun h10 => ?_) (fun h10 => ?_)
 ·skip
  obtain ⟨d, hd1⟩ : ∃ x_, a.2[i]? = some x_ := ⟨_, List.getElem?_eq_getElem (by omega)⟩
  have hM := hB.mul (hd d (List.mem_of_getElem? hd1)) (by omega)
  have hMb := hM.bd
  refine ACode.skip ?_
  refine ks_n ?_
  refine ACode.seq ?_
  refine ACode.block ?_
  refine ACode.seq ?_
  refine ACode.region ?_
  refine .cons (.xL 3 1 8 rfl rfl rfl rfl rfl) ?_
  refine .cons (.l1 1 rfl rfl) ?_
  refine .cons (.asg rfl rfl) ?_
  refine .nil ?_
  refine ks_n ?_
  refine ACode.region ?_
  refine .cons (.mv rfl rfl) ?_
  refine .cons (.mv rfl rfl) ?_
  refine .cons (.ml rfl rfl rfl) ?_
  refine .cons (.asg rfl rfl) ?_
  refine .nil ?_
  refine kb_n ?_
  refine ks_n ?_
  refine ACode.region ?_
  refine .cons (.pl rfl rfl rfl) ?_
  refine .cons (.mv rfl rfl) ?_
  refine .nil ?_
  refine kl_k [] ⟨i + 1, n * d, rfl, by omega, by rw [hF, sizeF_drop hd1], hM, rfl⟩ ⟨ks rfl .dt, ks rfl .dt, ks rfl .dt, ks rfl .dt, ks rfl .dt, ks rfl .dt, trivial⟩
 ·skip
  refine ACode.exit ?_
  refine ks_e ?_
  refine kl_e ?_
  refine kb_hit ?_
  refine ks_n ?_
  refine ACode.seq ?_
  refine ACode.region ?_
  refine .cons (.mv rfl rfl) ?_
  refine .cons (.asg rfl rfl) ?_
  refine .nil ?_
  refine ks_n ?_
  refine ACode.ret ?_
  refine kf_ret rfl ?_ nobox
  exact leafI (by rw [hF, sizeF_end (by omega)])

set_option maxRecDepth 100000 in
set_option maxHeartbeats 1600000 in
theorem l4Size_fn {a : Arr} (h : arrOk a = true) : Fn Tryz.prog 131 [] [ad (rR a)] (.o (nat1 (sizeA a.2))) [] := by
 obtain ⟨hl, hd⟩ := arrOk_at h
 refine Fn.code0 Tryz.func131 rfl rfl rfl rfl ?_
 refine ACode.seq ?_
 refine ACode.region ?_
 refine .cons (St1.boxP rfl rfl rfl rfl rfl rfl) ?_
 refine .cons (.asg rfl rfl) ?_
 refine .nil ?_
 refine ks_n ?_
 refine ACode.seq ?_
 refine ACode.region ?_
 refine .cons (.asg rfl rfl) ?_
 refine .nil ?_
 refine ks_n ?_
 refine ACode.seq ?_
 refine ACode.seq ?_
 refine ACode.region ?_
 refine .cons (.asg rfl rfl) ?_
 refine .nil ?_
 refine ks_n ?_
 refine ACode.block ?_
 refine .loopK (fun m σ => (∃ (i : Nat) (n : Int), m = a.2.length - i ∧ (i ≤ a.2.length) ∧ (sizeA a.2 = sizeF n (a.2.drop i)) ∧ (B6 i n) ∧ σ = [(.t 1, .v (.o (.c (.ptr (rR a))))), (.t 2, .v (.o (nat1 0))), (.t 3, .v (.o (nat1 n))), (.t 4, .v (.o (nat1 (i : Nat))))])) [] ⟨0, 1, rfl, by omega, rfl, by unfold B6; omega, rfl⟩ ⟨ks rfl .dt, ks rfl .dt, ks rfl .dt, ks rfl .dt, trivial⟩ ?_
 rintro m σ ⟨i, n, hm0, hi, hF, hB, rfl⟩
 refine ACode.seq ?_
 refine ACode.seq ?_
 refine ACode.region ?_
 refine .cons (.mv rfl rfl) ?_
 refine .cons (.fP 1 0 false rfl rfl) ?_
 refine .cons (.l1 1 rfl rfl) ?_
 refine .cons (.ln 3 1 8 rfl rfl rfl) ?_
 refine .cons (.ls rfl rfl rfl) ?_
 refine .nil ?_
 refine ks_n ?_
 refine .cD rfl (fun h9 => ?_) (fun h9 => ?_)
 ·skip
  obtain ⟨d, hd1⟩ : ∃ x_, a.2[i]? = some x_ := ⟨_, List.getElem?_eq_getElem (by omega)⟩
  have hM := hB.mul (hd d (List.mem_of_getElem? hd1)) (by omega)
  have hMb := hM.bd
  refine ACode.skip ?_
  refine ks_n ?_
  refine ACode.seq ?_
  refine ACode.block ?_
  refine ACode.region ?_
  refine .cons (.mv rfl rfl) ?_
  refine .cons (.fP 1 0 false rfl rfl) ?_
  refine .cons (.l1 1 rfl rfl) ?_
  refine .cons (.mv rfl rfl) ?_
  refine .cons (.xL 3 1 8 rfl rfl rfl rfl rfl) ?_
  refine .cons (.l1 1 rfl rfl) ?_
  refine .cons (.ml rfl rfl rfl) ?_
  refine .cons (.asg rfl rfl) ?_
  refine .nil ?_
  refine kb_n ?_
  refine ks_n ?_
  refine ACode.region ?_
  refine .cons (.mv rfl rfl) ?_
  refine .cons (.pl rfl rfl rfl) ?_
  refine .cons (.asg rfl rfl) ?_
  refine .nil ?_
  refine kl_k [] ⟨i + 1, n * d, rfl, by omega, by rw [hF, sizeF_drop hd1], hM, rfl⟩ ⟨ks rfl .dt, ks rfl .dt, ks rfl .dt, ks rfl .dt, trivial⟩
 ·skip
  refine ACode.exit ?_
  refine ks_e ?_
  refine kl_e ?_
  refine kb_hit ?_
  refine ks_n ?_
  refine ACode.seq ?_
  refine ACode.region ?_
  refine .cons (.mv rfl rfl) ?_
  refine .cons (.asg rfl rfl) ?_
  refine .nil ?_
  refine ks_n ?_
  refine ACode.ret ?_
  refine kf_ret rfl ?_ nobox
  exact leafI (by rw [hF, sizeF_end (by omega)])

set_option maxRecDepth 100000 in
set_option maxHeartbeats 1600000 in
theorem cell_fn {g : Prg} (hv : arrsV g.1 = true) {D : Nat} {a : Acc} {p : List Int} (ha : accV D a = true) (hS : Small p) (hn : p.length ≤ 4) : Fn Tryz.prog 126 [] [ad (rG g), ad (rC a), vD (dIs p)] (.o (nat1 (cellG a p g.1 0))) [] := by
 obtain ⟨hal, hav⟩ := accV_at ha
 have hl := arrsV_len hv
 refine Fn.code0 Tryz.func126 rfl rfl rfl rfl ?_
 refine ACode.seq ?_
 refine ACode.region ?_
 refine .cons (St1.boxP rfl rfl rfl rfl rfl rfl) ?_
 refine .cons (St1.boxP rfl rfl rfl rfl rfl rfl) ?_
 refine .cons (.asg rfl rfl) ?_
 refine .nil ?_
 refine ks_n ?_
 refine ACode.seq ?_
 refine ACode.region ?_
 refine .cons (.asg rfl rfl) ?_
 refine .nil ?_
 refine ks_n ?_
 refine ACode.seq ?_
 refine ACode.seq ?_
 refine ACode.region ?_
 refine .cons (.fP 0 0 false rfl rfl) ?_
 refine .cons (.l1 1 rfl rfl) ?_
 refine .cons (.ln 122 2 40 rfl rfl rfl) ?_
 refine .cons (.mv rfl rfl) ?_
 refine .nil ?_
 refine ks_n ?_
 refine ACode.block ?_
 refine .loopK (fun m σ => (∃ (i : Nat) (b : Int), m = g.1.length - i ∧ (i ≤ g.1.length) ∧ (cellG a p g.1 0 = cellG a p (g.1.drop i) b) ∧ (0 ≤ b ∧ b ≤ 36 * i) ∧ σ = [(.t 2, .v (.o (vD (dIs p)))), (.t 3, .v (.o (.c (.ptr (rG g))))), (.t 4, .v (.o (.c (.ptr (rC a))))), (.t 6, .v (.o (nat1 0))), (.t 7, .v (.o (nat1 b))), (.t 15, .v (.o (vD (dRs g.1)))), (.t 16, .v (.o (nat1 (g.1.length : Nat)))), (.t 17, .v (.o (nat1 (i : Nat))))])) [] ⟨0, 0, rfl, by omega, rfl, by omega, rfl⟩ ⟨ks rfl .dt, ks rfl .dt, ks rfl .dt, ks rfl .dt, ks rfl .dt, ks rfl .dt, ks rfl .dt, ks rfl .dt, trivial⟩ ?_
 rintro m σ ⟨i, b, hm0, hi, hF, hb, rfl⟩
 refine ACode.seq ?_
 refine ACode.region ?_
 refine .cons (.ls rfl rfl rfl) ?_
 refine .nil ?_
 refine ks_n ?_
 refine ACode.seq ?_
 refine .cD rfl (fun h18 => ?_) (fun h18 => ?_)
 ·skip
  obtain ⟨x, hx1⟩ : ∃ x_, g.1[i]? = some x_ := ⟨_, List.getElem?_eq_getElem (by omega)⟩
  have hxo := arr_mem hv hx1
  obtain ⟨hxl, hxd⟩ := arrOk_at hxo
  have hsz := sizeA_bd hxo
  refine ACode.skip ?_
  refine ks_n ?_
  refine ACode.seq ?_
  refine ACode.block ?_
  refine ACode.seq ?_
  refine ACode.region ?_
  refine .cons (.xL 122 2 40 rfl rfl rfl rfl rfl) ?_
  refine .cons (.lN 2 rfl rfl rfl) ?_
  refine .cons (.al 109 [.string ByteArray.empty, .slice none 0 0] rfl rfl rfl) ?_
  refine .cons (.sT 2 true rfl rfl rfl rfl rfl rfl rfl) ?_
  refine .nil ?_
  refine ks_n ?_
  refine ACode.seq ?_
  refine ACode.seq ?_
  refine ACode.region ?_
  refine .cons (.fB 0 0 false rfl rfl rfl) ?_
  refine .cons (.b1 1 rfl rfl rfl rfl rfl rfl) ?_
  refine .cons (.fP 0 0 false rfl rfl) ?_
  refine .cons (.l1 1 rfl rfl) ?_
  refine .cons (St1.neS rfl rfl rfl) ?_
  refine .nil ?_
  refine ks_n ?_
  refine ACode.condT rfl (fun h25 => ?_) (fun h25 => ?_)
  ·try simp only [zs1, zs2, zs3, zs4, zs5, zs6, zs7] at h25
   have hne : sEq x.1 a.1 = false := by first | assumption | simp_all
   refine ACode.seq ?_
   refine ACode.region ?_
   refine .cons (.mv rfl rfl) ?_
   refine .cons (.bN 2 rfl rfl rfl rfl rfl rfl) ?_
   refine .cons (.cP [.tmp 27] rfl rfl rfl rfl (size_fn hxo) rfl) ?_
   refine .cons (.pl rfl rfl rfl) ?_
   refine .cons (.asg rfl rfl) ?_
   refine .nil ?_
   refine ks_n ?_
   refine ACode.exit ?_
   refine ks_e ?_
   refine kb_hit ?_
   refine ks_n ?_
   refine ACode.region ?_
   refine .cons (.pl rfl rfl rfl) ?_
   refine .cons (.mv rfl rfl) ?_
   refine .nil ?_
   refine kl_k [] ⟨i + 1, b + sizeA x.2, rfl, by omega, by rw [hF, cellG_next hx1 hne], by omega, rfl⟩ ⟨ks rfl .dt, ks rfl .dt, ks rfl .dt, ks rfl .dt, ks rfl .dt, ks rfl .dt, ks rfl .dt, ks rfl .dt, trivial⟩
  ·try simp only [zs1, zs2, zs3, zs4, zs5, zs6, zs7] at h25
   have heq : sEq x.1 a.1 = true := by first | assumption | simp_all
   refine ACode.skip ?_
   refine ks_n ?_
   refine ACode.seq ?_
   refine ACode.seq ?_
   refine ACode.region ?_
   refine .cons (.fP 1 0 false rfl rfl) ?_
   refine .cons (.l1 1 rfl rfl) ?_
   refine .cons (.ln 86 2 32 rfl rfl rfl) ?_
   refine .cons (.fB 1 0 false rfl rfl rfl) ?_
   refine .cons (.b1 1 rfl rfl rfl rfl rfl rfl) ?_
   refine .cons (.ln 3 1 8 rfl rfl rfl) ?_
   refine .cons (.ne rfl rfl rfl) ?_
   refine .nil ?_
   refine ks_n ?_
   refine .cND rfl (fun h36 => ?_) (fun h36 => ?_)
   ·skip
    refine ACode.seq ?_
    refine ACode.region ?_
    refine .cons (.asg rfl rfl) ?_
    refine .nil ?_
    refine ks_n ?_
    refine ACode.ret ?_
    refine ks_r ?_
    refine kb_r ?_
    refine ks_r ?_
    refine kl_r ?_
    refine kb_r ?_
    refine ks_r ?_
    refine kf_ret rfl ?_ nobox
    exact leafI (by rw [hF, cellG_len hx1 heq (by omega)])
   ·skip
    have hle : a.2.length = x.2.length := by omega
    refine ACode.skip ?_
    refine ks_n ?_
    refine ACode.seq ?_
    refine ACode.region ?_
    refine .cons (.asg rfl rfl) ?_
    refine .nil ?_
    refine ks_n ?_
    refine ACode.seq ?_
    refine ACode.seq ?_
    refine ACode.region ?_
    refine .cons (.fP 1 0 false rfl rfl) ?_
    refine .cons (.l1 1 rfl rfl) ?_
    refine .cons (.ln 86 2 32 rfl rfl rfl) ?_
    refine .cons (.mv rfl rfl) ?_
    refine .nil ?_
    refine ks_n ?_
    refine ACode.block ?_
    refine .loopK (fun m σ => (∃ (k : Nat) (n : Int), m = a.2.length - k ∧ (k ≤ a.2.length) ∧ (atG p x.2 a.2 0 = atG p (x.2.drop k) (a.2.drop k) n) ∧ (0 ≤ n) ∧ (B6 k (n + 1)) ∧ σ = [(.t 2, .v (.o (vD (dIs p)))), (.t 3, .v (.o (.c (.ptr (rG g))))), (.t 4, .v (.o (.c (.ptr (rC a))))), (.t 6, .v (.o (nat1 0))), (.t 7, .v (.o (nat1 b))), (.t 9, .v (.o (.c (.ptr (rR x))))), (.t 10, .v (.o (nat1 n))), (.t 15, .v (.o (vD (dRs g.1)))), (.t 16, .v (.o (nat1 (g.1.length : Nat)))), (.t 17, .v (.o (nat1 (i : Nat)))), (.t 38, .v (.o (vD (dAs a.2)))), (.t 39, .v (.o (nat1 (a.2.length : Nat)))), (.t 40, .v (.o (nat1 (k : Nat))))])) [] ⟨0, 0, rfl, by omega, rfl, by omega, by unfold B6; omega, rfl⟩ ⟨ks rfl .dt, ks rfl .dt, ks rfl .dt, ks rfl .dt, ks rfl .dt, ks rfl (.c (.frzP _ _ _ _ _ _ _ _ rfl (show _ = dR [rR x] from rfl) rfl rfl rfl)), ks rfl .dt, ks rfl .dt, ks rfl .dt, ks rfl .dt, ks rfl .dt, ks rfl .dt, ks rfl .dt, trivial⟩ ?_
    rintro m σ ⟨k, n, hm0, hk, hG, h0, hB, rfl⟩
    refine ACode.seq ?_
    refine ACode.region ?_
    refine .cons (.ls rfl rfl rfl) ?_
    refine .nil ?_
    refine ks_n ?_
    refine ACode.seq ?_
    refine .cD rfl (fun h41 => ?_) (fun h41 => ?_)
    ·skip
     obtain ⟨s, hs1⟩ : ∃ x_, a.2[k]? = some x_ := ⟨_, List.getElem?_eq_getElem (by omega)⟩
     have hsv := hav s (List.mem_of_getElem? hs1)
     obtain ⟨d, hd1⟩ : ∃ x_, x.2[k]? = some x_ := ⟨_, List.getElem?_eq_getElem (by omega)⟩
     have hdd := hxd d (List.mem_of_getElem? hd1)
     refine ACode.skip ?_
     refine ks_n ?_
     refine ACode.seq ?_
     refine ACode.block ?_
     refine ACode.seq ?_
     refine ACode.region ?_
     refine .cons (.mv rfl rfl) ?_
     refine .cons (.xL 86 2 32 rfl rfl rfl rfl rfl) ?_
     refine .cons (.lN 2 rfl rfl rfl) ?_
     refine .cons (.al 112 [.slice none 0 0, .int .i64 0] rfl rfl rfl) ?_
     refine .cons (.asg rfl rfl) ?_
     refine .cons (.sT 2 true rfl rfl rfl rfl rfl rfl rfl) ?_
     refine .nil ?_
     refine ks_n ?_
     refine ACode.seq ?_
     refine ACode.region ?_
     refine .cons (.bN 2 rfl rfl rfl rfl rfl rfl) ?_
     refine .cons (.mv rfl rfl) ?_
     refine .cons (.cP [.tmp 45, .tmp 46] rfl rfl rfl rfl (eval_fn hsv hS hn) rfl) ?_
     refine .cons (.asg rfl rfl) ?_
     refine .nil ?_
     refine ks_n ?_
     refine ACode.seq ?_
     refine ACode.seq ?_
     refine ACode.region ?_
     refine .cons (.mv rfl rfl) ?_
     refine .cons (.fP 1 0 false rfl rfl) ?_
     refine .cons (.l1 1 rfl rfl) ?_
     refine .cons (.mv rfl rfl) ?_
     refine .cons (.xL 3 1 8 rfl rfl rfl rfl rfl) ?_
     refine .cons (.l1 1 rfl rfl) ?_
     refine .cons (.sb rfl rfl rfl) ?_
     refine .cons (.cP [.tmp 48, .const (.int .i64 (0)), .tmp 54] rfl rfl rfl rfl (within_fn _ 0 _) rfl) ?_
     refine .cons (.nt rfl rfl) ?_
     refine .nil ?_
     refine ks_n ?_
     refine ACode.condT rfl (fun h56 => ?_) (fun h56 => ?_)
     ·try simp only [zs1, zs2, zs3, zs4, zs5, zs6, zs7] at h56
      have hnin : ¬ inB (affEval s p) 0 (d - 1) = true := by first | assumption | simp_all
      refine ACode.seq ?_
      refine ACode.region ?_
      refine .cons (.asg rfl rfl) ?_
      refine .nil ?_
      refine ks_n ?_
      refine ACode.ret ?_
      refine ks_r ?_
      refine kb_r ?_
      refine ks_r ?_
      refine kl_r ?_
      refine kb_r ?_
      refine ks_r ?_
      refine kb_r ?_
      refine ks_r ?_
      refine kl_r ?_
      refine kb_r ?_
      refine ks_r ?_
      refine kf_ret rfl ?_ nobox
      exact leafI (by rw [hF, cellG_at hx1 heq hle, hG, atG_no hd1 hs1 hnin, if_pos rfl])
     ·try simp only [zs1, zs2, zs3, zs4, zs5, zs6, zs7] at h56
      have hin : inB (affEval s p) 0 (d - 1) = true := by first | assumption | simp_all
      have hM := B6.at h0 hB hdd (by omega) (of_decide_eq_true hin)
      have hvb := of_decide_eq_true hin
      refine ACode.skip ?_
      refine ks_n ?_
      refine ACode.region ?_
      refine .cons (.mv rfl rfl) ?_
      refine .cons (.fP 1 0 false rfl rfl) ?_
      refine .cons (.l1 1 rfl rfl) ?_
      refine .cons (.mv rfl rfl) ?_
      refine .cons (.xL 3 1 8 rfl rfl rfl rfl rfl) ?_
      refine .cons (.l1 1 rfl rfl) ?_
      refine .cons (.ml rfl rfl rfl) ?_
      refine .cons (.mv rfl rfl) ?_
      refine .cons (.pl rfl rfl rfl) ?_
      refine .cons (.asg rfl rfl) ?_
      refine .nil ?_
      refine kb_n ?_
      refine ks_n ?_
      refine ACode.region ?_
      refine .cons (.pl rfl rfl rfl) ?_
      refine .cons (.mv rfl rfl) ?_
      refine .nil ?_
      refine kl_k [] ⟨k + 1, n * d + affEval s p, rfl, by omega, by rw [hG, atG_yes hd1 hs1 hin], by omega, hM.2.2.2, rfl⟩ ⟨ks rfl .dt, ks rfl .dt, ks rfl .dt, ks rfl .dt, ks rfl .dt, ks rfl .dt, ks rfl .dt, ks rfl .dt, ks rfl .dt, ks rfl .dt, ks rfl .dt, ks rfl .dt, ks rfl .dt, trivial⟩
    ·skip
     have hnb := hB.bd
     refine ACode.exit ?_
     refine ks_e ?_
     refine kl_e ?_
     refine kb_hit ?_
     refine ks_n ?_
     refine ACode.seq ?_
     refine ACode.region ?_
     refine .cons (.mv rfl rfl) ?_
     refine .cons (.mv rfl rfl) ?_
     refine .cons (.pl rfl rfl rfl) ?_
     refine .cons (.asg rfl rfl) ?_
     refine .nil ?_
     refine ks_n ?_
     refine ACode.ret ?_
     refine kb_r ?_
     refine ks_r ?_
     refine kl_r ?_
     refine kb_r ?_
     refine ks_r ?_
     refine kf_ret rfl ?_ nobox
     exact leafI (by rw [hF, cellG_at hx1 heq hle, hG, atG_end (by omega), if_neg (by omega)])
 ·skip
  refine ACode.exit ?_
  refine ks_e ?_
  refine kl_e ?_
  refine kb_hit ?_
  refine ks_n ?_
  refine ACode.seq ?_
  refine ACode.region ?_
  refine .cons (.asg rfl rfl) ?_
  refine .nil ?_
  refine ks_n ?_
  refine ACode.ret ?_
  refine kf_ret rfl ?_ nobox
  exact leafI (by rw [hF, cellG_end (by omega)])

set_option maxRecDepth 100000 in
set_option maxHeartbeats 1600000 in
theorem l4Cell_fn {ar : List Arr} (hv : arrsV ar = true) {D : Nat} {a : Acc} {p : List Int} (ha : accV D a = true) (hS : Small p) (hn : p.length ≤ 4) : Fn Tryz.prog 115 [] [vD (dRs ar), ad (rC a), vD (dIs p)] (.o (nat1 (cellG a p ar 0))) [] := by
 obtain ⟨hal, hav⟩ := accV_at ha
 have hl := arrsV_len hv
 refine Fn.code0 Tryz.func115 rfl rfl rfl rfl ?_
 refine ACode.seq ?_
 refine ACode.region ?_
 refine .cons (St1.boxP rfl rfl rfl rfl rfl rfl) ?_
 refine .cons (.asg rfl rfl) ?_
 refine .nil ?_
 refine ks_n ?_
 refine ACode.seq ?_
 refine ACode.region ?_
 refine .cons (.asg rfl rfl) ?_
 refine .nil ?_
 refine ks_n ?_
 refine ACode.seq ?_
 refine ACode.seq ?_
 refine ACode.region ?_
 refine .cons (.asg rfl rfl) ?_
 refine .nil ?_
 refine ks_n ?_
 refine ACode.block ?_
 refine .loopK (fun m σ => (∃ (i : Nat) (b : Int), m = ar.length - i ∧ (i ≤ ar.length) ∧ (cellG a p ar 0 = cellG a p (ar.drop i) b) ∧ (0 ≤ b ∧ b ≤ 36 * i) ∧ σ = [(.t 0, .v (.o (vD (dRs ar)))), (.t 2, .v (.o (vD (dIs p)))), (.t 4, .v (.o (.c (.ptr (rC a))))), (.t 6, .v (.o (nat1 0))), (.t 7, .v (.o (nat1 b))), (.t 8, .v (.o (nat1 (i : Nat))))])) [] ⟨0, 0, rfl, by omega, rfl, by omega, rfl⟩ ⟨ks rfl .dt, ks rfl .dt, ks rfl .dt, ks rfl .dt, ks rfl .dt, ks rfl .dt, trivial⟩ ?_
 rintro m σ ⟨i, b, hm0, hi, hF, hb, rfl⟩
 refine ACode.seq ?_
 refine ACode.seq ?_
 refine ACode.region ?_
 refine .cons (.mv rfl rfl) ?_
 refine .cons (.mv rfl rfl) ?_
 refine .cons (.ln 122 2 40 rfl rfl rfl) ?_
 refine .cons (.ls rfl rfl rfl) ?_
 refine .nil ?_
 refine ks_n ?_
 refine .cD rfl (fun h15 => ?_) (fun h15 => ?_)
 ·skip
  obtain ⟨x, hx1⟩ : ∃ x_, ar[i]? = some x_ := ⟨_, List.getElem?_eq_getElem (by omega)⟩
  have hxo := arr_mem hv hx1
  obtain ⟨hxl, hxd⟩ := arrOk_at hxo
  have hsz := sizeA_bd hxo
  refine ACode.skip ?_
  refine ks_n ?_
  refine ACode.seq ?_
  refine ACode.block ?_
  refine ACode.seq ?_
  refine ACode.seq ?_
  refine ACode.drawK (by kernel_rfl) (by kernel_rfl) ?_
  refine .cons (.mv rfl rfl) ?_
  refine .cons (.mv rfl rfl) ?_
  refine .cons (.xL 122 2 40 rfl rfl rfl rfl rfl) ?_
  refine .cons (.fP 0 0 false rfl rfl) ?_
  refine .cons (.l1 1 rfl rfl) ?_
  refine .cons (.fP 0 0 false rfl rfl) ?_
  refine .cons (.l1 1 rfl rfl) ?_
  refine .cons (St1.neS rfl rfl rfl) ?_
  refine .nil ⟨by kernel_rfl, ?_⟩
  refine ks_n ?_
  refine ACode.condT rfl (fun h25 => ?_) (fun h25 => ?_)
  ·try simp only [zs1, zs2, zs3, zs4, zs5, zs6, zs7] at h25
   have hne : sEq x.1 a.1 = false := by first | assumption | simp_all
   refine ACode.seq ?_
   refine ACode.region ?_
   refine .cons (.mv rfl rfl) ?_
   refine .cons (.mv rfl rfl) ?_
   refine .cons (.mv rfl rfl) ?_
   refine .cons (.xL 122 2 40 rfl rfl rfl rfl rfl) ?_
   refine .cons (.lN 2 rfl rfl rfl) ?_
   refine .cons (.cP [.tmp 30] rfl rfl rfl rfl (l4Size_fn hxo) rfl) ?_
   refine .cons (.pl rfl rfl rfl) ?_
   refine .cons (.asg rfl rfl) ?_
   refine .nil ?_
   refine ks_n ?_
   refine ACode.exit ?_
   refine ks_e ?_
   refine kb_hit ?_
   refine ks_n ?_
   refine ACode.region ?_
   refine .cons (.mv rfl rfl) ?_
   refine .cons (.pl rfl rfl rfl) ?_
   refine .cons (.asg rfl rfl) ?_
   refine .nil ?_
   refine kl_k [] ⟨i + 1, b + sizeA x.2, rfl, by omega, by rw [hF, cellG_next hx1 hne], by omega, rfl⟩ ⟨ks rfl .dt, ks rfl .dt, ks rfl .dt, ks rfl .dt, ks rfl .dt, ks rfl .dt, trivial⟩
  ·try simp only [zs1, zs2, zs3, zs4, zs5, zs6, zs7] at h25
   have heq : sEq x.1 a.1 = true := by first | assumption | simp_all
   refine ACode.skip ?_
   refine ks_n ?_
   refine ACode.seq ?_
   refine ACode.region ?_
   refine .cons (.asg rfl rfl) ?_
   refine .nil ?_
   refine ks_n ?_
   refine ACode.seq ?_
   refine ACode.seq ?_
   refine ACode.region ?_
   refine .cons (.asg rfl rfl) ?_
   refine .nil ?_
   refine ks_n ?_
   refine ACode.block ?_
   refine .loopK (fun m σ => (∃ (k : Nat) (n : Int), m = a.2.length - k ∧ (k ≤ a.2.length) ∧ (atG p x.2 a.2 0 = atG p (x.2.drop k) (a.2.drop k) n) ∧ (0 ≤ n) ∧ (B6 k (n + 1)) ∧ (k = 0 ∨ a.2.length = x.2.length) ∧ σ = [(.t 0, .v (.o (vD (dRs ar)))), (.t 2, .v (.o (vD (dIs p)))), (.t 4, .v (.o (.c (.ptr (rC a))))), (.t 6, .v (.o (nat1 0))), (.t 7, .v (.o (nat1 b))), (.t 8, .v (.o (nat1 (i : Nat)))), (.t 9, .v (.o (nat1 n))), (.t 10, .v (.o (nat1 (k : Nat))))])) [] ⟨0, 0, rfl, by omega, rfl, by omega, by unfold B6; omega, .inl rfl, rfl⟩ ⟨ks rfl .dt, ks rfl .dt, ks rfl .dt, ks rfl .dt, ks rfl .dt, ks rfl .dt, ks rfl .dt, ks rfl .dt, trivial⟩ ?_
   rintro m σ ⟨k, n, hm0, hk, hG, h0, hB, hz, rfl⟩
   refine ACode.seq ?_
   refine ACode.seq ?_
   refine ACode.region ?_
   refine .cons (.mv rfl rfl) ?_
   refine .cons (.fP 1 0 false rfl rfl) ?_
   refine .cons (.l1 1 rfl rfl) ?_
   refine .cons (.ln 86 2 32 rfl rfl rfl) ?_
   refine .cons (.ls rfl rfl rfl) ?_
   refine .nil ?_
   refine ks_n ?_
   refine .cD rfl (fun h37 => ?_) (fun h37 => ?_)
   ·skip
    obtain ⟨s, hs1⟩ : ∃ x_, a.2[k]? = some x_ := ⟨_, List.getElem?_eq_getElem (by omega)⟩
    have hsv := hav s (List.mem_of_getElem? hs1)
    refine ACode.skip ?_
    refine ks_n ?_
    refine ACode.seq ?_
    refine ACode.block ?_
    refine ACode.seq ?_
    refine ACode.seq ?_
    refine ACode.drawK (by kernel_rfl) (by kernel_rfl) ?_
    refine .cons (.fP 1 0 false rfl rfl) ?_
    refine .cons (.l1 1 rfl rfl) ?_
    refine .cons (.ln 86 2 32 rfl rfl rfl) ?_
    refine .cons (.mv rfl rfl) ?_
    refine .cons (.mv rfl rfl) ?_
    refine .cons (.xL 122 2 40 rfl rfl rfl rfl rfl) ?_
    refine .cons (.fP 1 0 false rfl rfl) ?_
    refine .cons (.l1 1 rfl rfl) ?_
    refine .cons (.ln 3 1 8 rfl rfl rfl) ?_
    refine .cons (.ne rfl rfl rfl) ?_
    refine .nil ⟨by kernel_rfl, ?_⟩
    refine ks_n ?_
    refine .cND rfl (fun h49 => ?_) (fun h49 => ?_)
    ·skip
     refine ACode.seq ?_
     refine ACode.region ?_
     refine .cons (.asg rfl rfl) ?_
     refine .nil ?_
     refine ks_n ?_
     refine ACode.ret ?_
     refine ks_r ?_
     refine kb_r ?_
     refine ks_r ?_
     refine kl_r ?_
     refine kb_r ?_
     refine ks_r ?_
     refine kb_r ?_
     refine ks_r ?_
     refine kl_r ?_
     refine kb_r ?_
     refine ks_r ?_
     refine kf_ret rfl ?_ nobox
     exact leafI (by rw [hF, cellG_len hx1 heq (by omega)])
    ·skip
     have hle : a.2.length = x.2.length := by omega
     obtain ⟨d, hd1⟩ : ∃ x_, x.2[k]? = some x_ := ⟨_, List.getElem?_eq_getElem (by omega)⟩
     have hdd := hxd d (List.mem_of_getElem? hd1)
     refine ACode.skip ?_
     refine ks_n ?_
     refine ACode.seq ?_
     refine ACode.region ?_
     refine .cons (.fP 1 0 false rfl rfl) ?_
     refine .cons (.l1 1 rfl rfl) ?_
     refine .cons (.mv rfl rfl) ?_
     refine .cons (.xL 86 2 32 rfl rfl rfl rfl rfl) ?_
     refine .cons (.lN 2 rfl rfl rfl) ?_
     refine .cons (.mv rfl rfl) ?_
     refine .cons (.cP [.tmp 54, .tmp 55] rfl rfl rfl rfl (l1Eval_fn hsv hS hn) rfl) ?_
     refine .cons (.asg rfl rfl) ?_
     refine .nil ?_
     refine ks_n ?_
     refine ACode.seq ?_
     refine ACode.seq ?_
     refine ACode.region ?_
     refine .cons (.mv rfl rfl) ?_
     refine .cons (.ls rfl rfl rfl) ?_
     refine .cons (.mv rfl rfl) ?_
     refine .cD 59 rfl (fun g59 => ?_) (fun g59 => ?_)
     ·skip
      refine .cons (.gF rfl rfl rfl) ?_
      refine .cons (.gF rfl rfl rfl) ?_
      refine .cons (.gF rfl rfl rfl) ?_
      refine .cons (.gF rfl rfl rfl) ?_
      refine .cons (.gF rfl rfl rfl) ?_
      refine .cons (.gF rfl rfl rfl) ?_
      refine .cons (.gF rfl rfl rfl) ?_
      refine .cons (.gF rfl rfl rfl) ?_
      refine .cons (.gF rfl rfl rfl) ?_
      refine .cons (.gF rfl rfl rfl) ?_
      refine .cons (.pT rfl rfl rfl) ?_
      refine .nil ?_
      refine ks_n ?_
      refine ACode.condT rfl (fun _ => ?_) (fun h => by first | (cases h; done) | (simp [*] at h; done) | (exfalso; simp_all; done))
      refine ACode.seq ?_
      have hnin : ¬ inB (affEval s p) 0 (d - 1) = true := fun h => by have := of_decide_eq_true h; omega
      refine ACode.region ?_
      refine .cons (.asg rfl rfl) ?_
      refine .nil ?_
      refine ks_n ?_
      refine ACode.ret ?_
      refine ks_r ?_
      refine kb_r ?_
      refine ks_r ?_
      refine kl_r ?_
      refine kb_r ?_
      refine ks_r ?_
      refine kb_r ?_
      refine ks_r ?_
      refine kl_r ?_
      refine kb_r ?_
      refine ks_r ?_
      refine kf_ret rfl ?_ nobox
      exact leafI (by rw [hF, cellG_at hx1 heq hle, hG, atG_no hd1 hs1 hnin, if_pos rfl])
     ·skip
      refine .cons (.gT rfl rfl rfl (.mv rfl rfl)) ?_
      refine .cons (.gT rfl rfl rfl (.mv rfl rfl)) ?_
      refine .cons (.gT rfl rfl rfl (.mv rfl rfl)) ?_
      refine .cons (.gT rfl rfl rfl (.xL 122 2 40 rfl rfl rfl rfl rfl)) ?_
      refine .cons (.gT rfl rfl rfl (.fP 1 0 false rfl rfl)) ?_
      refine .cons (.gT rfl rfl rfl (.l1 1 rfl rfl)) ?_
      refine .cons (.gT rfl rfl rfl (.mv rfl rfl)) ?_
      refine .cons (.gT rfl rfl rfl (.xL 3 1 8 rfl rfl rfl rfl rfl)) ?_
      refine .cons (.gT rfl rfl rfl (.l1 1 rfl rfl)) ?_
      refine .cons (.gT rfl rfl rfl (.ge rfl rfl rfl)) ?_
      refine .cons (.pF rfl rfl rfl) ?_
      refine .nil ?_
      refine ks_n ?_
      refine ACode.condT rfl (fun h70 => ?_) (fun h70 => ?_)
      ·try simp only [zs1, zs2, zs3, zs4, zs5, zs6, zs7] at h70
       refine ACode.seq ?_
       have hnin : ¬ inB (affEval s p) 0 (d - 1) = true := fun h => by have := of_decide_eq_true h; omega
       refine ACode.region ?_
       refine .cons (.asg rfl rfl) ?_
       refine .nil ?_
       refine ks_n ?_
       refine ACode.ret ?_
       refine ks_r ?_
       refine kb_r ?_
       refine ks_r ?_
       refine kl_r ?_
       refine kb_r ?_
       refine ks_r ?_
       refine kb_r ?_
       refine ks_r ?_
       refine kl_r ?_
       refine kb_r ?_
       refine ks_r ?_
       refine kf_ret rfl ?_ nobox
       exact leafI (by rw [hF, cellG_at hx1 heq hle, hG, atG_no hd1 hs1 hnin, if_pos rfl])
      ·try simp only [zs1, zs2, zs3, zs4, zs5, zs6, zs7] at h70
       have hin : inB (affEval s p) 0 (d - 1) = true := decide_eq_true (by omega)
       have hM := B6.at h0 hB hdd (by omega) (of_decide_eq_true hin)
       have hvb := of_decide_eq_true hin
       refine ACode.skip ?_
       refine ks_n ?_
       refine ACode.region ?_
       refine .cons (.mv rfl rfl) ?_
       refine .cons (.mv rfl rfl) ?_
       refine .cons (.mv rfl rfl) ?_
       refine .cons (.xL 122 2 40 rfl rfl rfl rfl rfl) ?_
       refine .cons (.fP 1 0 false rfl rfl) ?_
       refine .cons (.l1 1 rfl rfl) ?_
       refine .cons (.mv rfl rfl) ?_
       refine .cons (.xL 3 1 8 rfl rfl rfl rfl rfl) ?_
       refine .cons (.l1 1 rfl rfl) ?_
       refine .cons (.ml rfl rfl rfl) ?_
       refine .cons (.mv rfl rfl) ?_
       refine .cons (.pl rfl rfl rfl) ?_
       refine .cons (.asg rfl rfl) ?_
       refine .nil ?_
       refine kb_n ?_
       refine ks_n ?_
       refine ACode.region ?_
       refine .cons (.mv rfl rfl) ?_
       refine .cons (.pl rfl rfl rfl) ?_
       refine .cons (.asg rfl rfl) ?_
       refine .nil ?_
       refine kl_k [] ⟨k + 1, n * d + affEval s p, rfl, by omega, by rw [hG, atG_yes hd1 hs1 hin], by omega, hM.2.2.2, .inr hle, rfl⟩ ⟨ks rfl .dt, ks rfl .dt, ks rfl .dt, ks rfl .dt, ks rfl .dt, ks rfl .dt, ks rfl .dt, ks rfl .dt, trivial⟩
   ·skip
    have hnb := hB.bd
    refine ACode.exit ?_
    refine ks_e ?_
    refine kl_e ?_
    refine kb_hit ?_
    refine ks_n ?_
    refine ACode.seq ?_
    have hle : a.2.length = x.2.length := by omega
    refine ACode.region ?_
    refine .cons (.mv rfl rfl) ?_
    refine .cons (.mv rfl rfl) ?_
    refine .cons (.pl rfl rfl rfl) ?_
    refine .cons (.asg rfl rfl) ?_
    refine .nil ?_
    refine ks_n ?_
    refine ACode.ret ?_
    refine kb_r ?_
    refine ks_r ?_
    refine kl_r ?_
    refine kb_r ?_
    refine ks_r ?_
    refine kf_ret rfl ?_ nobox
    exact leafI (by rw [hF, cellG_at hx1 heq hle, hG, atG_end (by omega), if_neg (by omega)])
 ·skip
  refine ACode.exit ?_
  refine ks_e ?_
  refine kl_e ?_
  refine kb_hit ?_
  refine ks_n ?_
  refine ACode.seq ?_
  refine ACode.region ?_
  refine .cons (.asg rfl rfl) ?_
  refine .nil ?_
  refine ks_n ?_
  refine ACode.ret ?_
  refine kf_ret rfl ?_ nobox
  exact leafI (by rw [hF, cellG_end (by omega)])
section
variable {a : Aff} {o : Pts} {x : List Int}
end
theorem npR_pt {ns : List Lp} {x : List Int} (h : x ∈ npR ns) : Small x ∧ x.length ≤ 4 := by
  obtain ⟨h1, h2, h3⟩ := npR_mem h
  have hv := (okP_iff.1 h1).1
  obtain ⟨h4, h5⟩ := mem_pts.1 h2
  have h6 := PB_of_in hv h4 h5 ns.length (Nat.le_refl _)
  rw [← h4, List.take_length] at h6
  have h7 := (nsV_at hv).1
  exact ⟨h6.small (by omega), by omega⟩
/-- Nests as large as memory lets them be. -/
def bgL (l : Lp) : Prop := l.1.length ≤ 1073741824 ∧ l.2.length ≤ 1073741824 ∧ (∀ a ∈ l.1, a.1.length ≤ 1073741824) ∧ ∀ a ∈ l.2, a.1.length ≤ 1073741824
def bgN (ns : List Lp) : Prop := ns.length ≤ 1073741824 ∧ ∀ l ∈ ns, bgL l
theorem smN_of {ns : List Lp} (h : nsV ns = true) : smN ns := by
  obtain ⟨h1, h2⟩ := nsV_at h
  refine ⟨by omega, fun l hl => ?_⟩
  obtain ⟨i, hi⟩ := List.mem_iff_getElem?.1 hl
  obtain ⟨a, b⟩ := h2 i l hi
  simp only [sideV, bndV, Bool.and_eq_true, List.all_eq_true, decide_eq_true_eq] at a b
  exact ⟨by omega, by omega, fun x hx => by rw [affV_len (a.1.1 x hx).1]; omega, fun x hx => by rw [affV_len (b.1.1 x hx).1]; omega⟩

set_option maxRecDepth 100000 in
set_option maxHeartbeats 1600000 in
theorem implNestV_B (ns : List Lp) (hs : bgN ns) : Fn Tryz.prog 163 [] [vD (dLs ns)] (.o (bo1 (nsV ns))) [] := by
 have hn := hs.1
 refine Fn.code0 Tryz.func163 rfl rfl rfl rfl ?_
 refine ACode.seq ?_
 refine ACode.region ?_
 refine .cons (.asg rfl rfl) ?_
 refine .nil ?_
 refine ks_n ?_
 refine ACode.seq ?_
 refine ACode.seq ?_
 refine ACode.region ?_
 refine .cons (.mv rfl rfl) ?_
 refine .cons (.ln 167 2 48 rfl rfl rfl) ?_
 refine .cons (.mv rfl rfl) ?_
 refine .nil ?_
 refine ks_n ?_
 refine ACode.block ?_
 refine .loopK (fun m σ => (∃ i : Nat, m = ns.length - i ∧ (i ≤ ns.length) ∧ (nestG 0 ns = nestG i (ns.drop i)) ∧ σ = [(.t 0, .v (.o (vD (dLs ns)))), (.t 5, .v (.o (vD (dLs ns)))), (.t 6, .v (.o (nat1 (ns.length : Nat)))), (.t 7, .v (.o (nat1 (i : Nat))))])) [] ⟨0, rfl, by omega, by simp, rfl⟩ ⟨ks rfl .dt, ks rfl .dt, ks rfl .dt, ks rfl .dt, trivial⟩ ?_
 rintro m σ ⟨i, hm0, hi, hF, rfl⟩
 refine ACode.seq ?_
 refine ACode.region ?_
 refine .cons (.ls rfl rfl rfl) ?_
 refine .nil ?_
 refine ks_n ?_
 refine ACode.seq ?_
 refine .cD rfl (fun h8 => ?_) (fun h8 => ?_)
 ·skip
  obtain ⟨x, hx1⟩ : ∃ x, ns[i]? = some x := ⟨_, List.getElem?_eq_getElem (by omega)⟩
  have hq := hs.2 x (List.mem_of_getElem? hx1)
  refine ACode.skip ?_
  refine ks_n ?_
  refine ACode.seq ?_
  refine ACode.block ?_
  refine ACode.seq ?_
  refine ACode.region ?_
  refine .cons (.mv rfl rfl) ?_
  refine .cons (.xL 167 2 48 rfl rfl rfl rfl rfl) ?_
  refine .cons (.lN 2 rfl rfl rfl) ?_
  refine .cons (.al 104 [.slice none 0 0, .slice none 0 0] rfl rfl rfl) ?_
  refine .cons (.asg rfl rfl) ?_
  refine .cons (.sT 2 true rfl rfl rfl rfl rfl rfl rfl) ?_
  refine .nil ?_
  refine ks_n ?_
  refine ACode.seq ?_
  refine ACode.region ?_
  refine .cons (.fB 0 0 false rfl rfl rfl) ?_
  refine .cons (.b1 1 rfl rfl rfl rfl rfl rfl) ?_
  refine .cons (.mv rfl rfl) ?_
  refine .cons (.cP [.tmp 13, .tmp 14] rfl rfl rfl rfl (boundsOk_fn i _ (Nat.le_trans hq.1 (by omega))) rfl) ?_
  refine .cons (.nt rfl rfl) ?_
  refine .cons (.mv rfl rfl) ?_
  refine AOps.cases 17 _ rfl (fun g17 => ?_) (fun g17 => ?_)
  ·try simp only [zs1, zs2, zs3, zs4, zs5, zs6, zs7] at g17
   refine .cons (.gF rfl rfl rfl) ?_
   refine .cons (.gF rfl rfl rfl) ?_
   refine .cons (.gF rfl rfl rfl) ?_
   refine .cons (.gF rfl rfl rfl) ?_
   refine .cons (.gF rfl rfl rfl) ?_
   refine .cons (.pT rfl rfl rfl) ?_
   refine .nil ?_
   refine ks_n ?_
   refine ACode.condT rfl (fun _ => ?_) (fun h => by first | (cases h; done) | (simp [*] at h; done) | (exfalso; simp_all; done))
   refine ACode.seq ?_
   have g : (sideV i x.1 && sideV i x.2) = false := by simp [*]
   refine ACode.region ?_
   refine .cons (.asg rfl rfl) ?_
   refine .nil ?_
   refine ks_n ?_
   refine ACode.ret ?_
   refine kb_r ?_
   refine ks_r ?_
   refine kl_r ?_
   refine kb_r ?_
   refine ks_r ?_
   refine kf_ret rfl ?_ nobox
   exact leafB (by rw [nsV, hF, nestG_drop hx1, g]; simp)
  ·try simp only [zs1, zs2, zs3, zs4, zs5, zs6, zs7] at g17
   refine .cons (.gT rfl rfl rfl (.fB 1 0 false rfl rfl rfl)) ?_
   refine .cons (.gT rfl rfl rfl (.b1 1 rfl rfl rfl rfl rfl rfl)) ?_
   refine .cons (.gT rfl rfl rfl (.mv rfl rfl)) ?_
   refine .cons (.gT rfl rfl rfl (.cP [.tmp 19, .tmp 20] rfl rfl rfl rfl (boundsOk_fn i _ (Nat.le_trans hq.2.1 (by omega))) rfl)) ?_
   refine .cons (.gT rfl rfl rfl (.nt rfl rfl)) ?_
   refine .cons (.pF rfl rfl rfl) ?_
   refine .nil ?_
   refine ks_n ?_
   refine ACode.condT rfl (fun h23 => ?_) (fun h23 => ?_)
   ·try simp only [zs1, zs2, zs3, zs4, zs5, zs6, zs7] at h23
    refine ACode.seq ?_
    have g : (sideV i x.1 && sideV i x.2) = false := by simp [*]
    refine ACode.region ?_
    refine .cons (.asg rfl rfl) ?_
    refine .nil ?_
    refine ks_n ?_
    refine ACode.ret ?_
    refine kb_r ?_
    refine ks_r ?_
    refine kl_r ?_
    refine kb_r ?_
    refine ks_r ?_
    refine kf_ret rfl ?_ nobox
    exact leafB (by rw [nsV, hF, nestG_drop hx1, g]; simp)
   ·try simp only [zs1, zs2, zs3, zs4, zs5, zs6, zs7] at h23
    refine ACode.skip ?_
    refine kb_n ?_
    refine ks_n ?_
    have g : (sideV i x.1 && sideV i x.2) = true := by simp [*]
    refine ACode.region ?_
    refine .cons (.pl rfl rfl rfl) ?_
    refine .cons (.mv rfl rfl) ?_
    refine .nil ?_
    refine kl_k [] ⟨i + 1, rfl, by omega, by rw [hF, nestG_drop hx1, g, Bool.true_and], rfl⟩ ⟨ks rfl .dt, ks rfl .dt, ks rfl .dt, ks rfl .dt, trivial⟩
 ·skip
  refine ACode.exit ?_
  refine ks_e ?_
  refine kl_e ?_
  refine kb_hit ?_
  refine ks_n ?_
  refine ACode.seq ?_
  refine ACode.region ?_
  refine .cons (.mv rfl rfl) ?_
  refine .cons (.ln 167 2 48 rfl rfl rfl) ?_
  refine .cons (.le rfl rfl rfl) ?_
  refine .cons (.asg rfl rfl) ?_
  refine .nil ?_
  refine ks_n ?_
  refine ACode.ret ?_
  refine kf_ret rfl ?_ nobox
  exact leafB (by rw [nsV, hF, List.drop_of_length_le (by omega), nestG, Bool.and_true, Bool.eq_iff_iff]; simp; omega)

set_option maxRecDepth 100000 in
set_option maxHeartbeats 1600000 in
theorem specNestV_B (ns : List Lp) (hs : bgN ns) : Fn Tryz.prog 149 [] [vD (dLs ns)] (.o (bo1 (nsV ns))) [] := by
 have hn := hs.1
 refine Fn.code0 Tryz.func149 rfl rfl rfl rfl ?_
 refine ACode.seq ?_
 refine ACode.region ?_
 refine .cons (.asg rfl rfl) ?_
 refine .nil ?_
 refine ks_n ?_
 refine ACode.seq ?_
 refine ACode.seq ?_
 refine ACode.region ?_
 refine .cons (.asg rfl rfl) ?_
 refine .nil ?_
 refine ks_n ?_
 refine ACode.block ?_
 refine .loopK (fun m σ => (∃ i : Nat, m = ns.length - i ∧ (i ≤ ns.length) ∧ (nestG 0 ns = nestG i (ns.drop i)) ∧ σ = [(.t 0, .v (.o (vD (dLs ns)))), (.t 3, .v (.o (nat1 (i : Nat))))])) [] ⟨0, rfl, by omega, by simp, rfl⟩ ⟨ks rfl .dt, ks rfl .dt, trivial⟩ ?_
 rintro m σ ⟨i, hm0, hi, hF, rfl⟩
 refine ACode.seq ?_
 refine ACode.seq ?_
 refine ACode.region ?_
 refine .cons (.mv rfl rfl) ?_
 refine .cons (.mv rfl rfl) ?_
 refine .cons (.ln 167 2 48 rfl rfl rfl) ?_
 refine .cons (.ls rfl rfl rfl) ?_
 refine .cons (.mv rfl rfl) ?_
 refine .cD 8 rfl (fun g8 => ?_) (fun g8 => ?_)
 ·skip
  refine .cons (.gT rfl rfl rfl (.mv rfl rfl)) ?_
  refine .cons (.gT rfl rfl rfl (.ln 167 2 48 rfl rfl rfl)) ?_
  refine .cons (.gT rfl rfl rfl (.le rfl rfl rfl)) ?_
  refine .cons (.pT rfl rfl rfl) ?_
  refine .nil ?_
  refine ks_n ?_
  refine ACode.condT rfl (fun h12 => ?_) (fun h12 => ?_)
  ·try simp only [zs1, zs2, zs3, zs4, zs5, zs6, zs7] at h12
   obtain ⟨x, hx1⟩ : ∃ x, ns[i]? = some x := ⟨_, List.getElem?_eq_getElem (by omega)⟩
   have hq := hs.2 x (List.mem_of_getElem? hx1)
   refine ACode.skip ?_
   refine ks_n ?_
   refine ACode.seq ?_
   refine ACode.block ?_
   refine ACode.seq ?_
   refine ACode.region ?_
   refine .cons (.mv rfl rfl) ?_
   refine .cons (.mv rfl rfl) ?_
   refine .cons (.xL 167 2 48 rfl rfl rfl rfl rfl) ?_
   refine .cons (.fP 0 0 false rfl rfl) ?_
   refine .cons (.l1 1 rfl rfl) ?_
   refine .cons (.mv rfl rfl) ?_
   refine .cons (.cP [.tmp 19, .tmp 20] rfl rfl rfl rfl (l2Side_fn i _ (Nat.le_trans hq.1 (by omega))) rfl) ?_
   refine .cons (.nt rfl rfl) ?_
   refine .cons (.mv rfl rfl) ?_
   refine AOps.cases 23 _ rfl (fun g23 => ?_) (fun g23 => ?_)
   ·try simp only [zs1, zs2, zs3, zs4, zs5, zs6, zs7] at g23
    refine .cons (.gF rfl rfl rfl) ?_
    refine .cons (.gF rfl rfl rfl) ?_
    refine .cons (.gF rfl rfl rfl) ?_
    refine .cons (.gF rfl rfl rfl) ?_
    refine .cons (.gF rfl rfl rfl) ?_
    refine .cons (.gF rfl rfl rfl) ?_
    refine .cons (.gF rfl rfl rfl) ?_
    refine .cons (.gF rfl rfl rfl) ?_
    refine .cons (.pT rfl rfl rfl) ?_
    refine .nil ?_
    refine ks_n ?_
    refine ACode.condT rfl (fun _ => ?_) (fun h => by first | (cases h; done) | (simp [*] at h; done) | (exfalso; simp_all; done))
    refine ACode.seq ?_
    have g : (sideV i x.1 && sideV i x.2) = false := by simp [*]
    refine ACode.region ?_
    refine .cons (.asg rfl rfl) ?_
    refine .nil ?_
    refine ks_n ?_
    refine ACode.ret ?_
    refine kb_r ?_
    refine ks_r ?_
    refine kl_r ?_
    refine kb_r ?_
    refine ks_r ?_
    refine kf_ret rfl ?_ nobox
    exact leafB (by rw [nsV, hF, nestG_drop hx1, g]; simp)
   ·try simp only [zs1, zs2, zs3, zs4, zs5, zs6, zs7] at g23
    refine .cons (.gT rfl rfl rfl (.mv rfl rfl)) ?_
    refine .cons (.gT rfl rfl rfl (.mv rfl rfl)) ?_
    refine .cons (.gT rfl rfl rfl (.xL 167 2 48 rfl rfl rfl rfl rfl)) ?_
    refine .cons (.gT rfl rfl rfl (.fP 1 0 false rfl rfl)) ?_
    refine .cons (.gT rfl rfl rfl (.l1 1 rfl rfl)) ?_
    refine .cons (.gT rfl rfl rfl (.mv rfl rfl)) ?_
    refine .cons (.gT rfl rfl rfl (.cP [.tmp 28, .tmp 29] rfl rfl rfl rfl (l2Side_fn i _ (Nat.le_trans hq.2.1 (by omega))) rfl)) ?_
    refine .cons (.gT rfl rfl rfl (.nt rfl rfl)) ?_
    refine .cons (.pF rfl rfl rfl) ?_
    refine .nil ?_
    refine ks_n ?_
    refine ACode.condT rfl (fun h32 => ?_) (fun h32 => ?_)
    ·try simp only [zs1, zs2, zs3, zs4, zs5, zs6, zs7] at h32
     refine ACode.seq ?_
     have g : (sideV i x.1 && sideV i x.2) = false := by simp [*]
     refine ACode.region ?_
     refine .cons (.asg rfl rfl) ?_
     refine .nil ?_
     refine ks_n ?_
     refine ACode.ret ?_
     refine kb_r ?_
     refine ks_r ?_
     refine kl_r ?_
     refine kb_r ?_
     refine ks_r ?_
     refine kf_ret rfl ?_ nobox
     exact leafB (by rw [nsV, hF, nestG_drop hx1, g]; simp)
    ·try simp only [zs1, zs2, zs3, zs4, zs5, zs6, zs7] at h32
     refine ACode.skip ?_
     refine kb_n ?_
     refine ks_n ?_
     have g : (sideV i x.1 && sideV i x.2) = true := by simp [*]
     refine ACode.region ?_
     refine .cons (.mv rfl rfl) ?_
     refine .cons (.pl rfl rfl rfl) ?_
     refine .cons (.asg rfl rfl) ?_
     refine .nil ?_
     refine kl_k [] ⟨i + 1, rfl, by omega, by rw [hF, nestG_drop hx1, g, Bool.true_and], rfl⟩ ⟨ks rfl .dt, ks rfl .dt, trivial⟩
  ·try simp only [zs1, zs2, zs3, zs4, zs5, zs6, zs7] at h12
   refine ACode.exit ?_
   refine ks_e ?_
   refine kl_e ?_
   refine kb_hit ?_
   refine ks_n ?_
   refine ACode.seq ?_
   refine ACode.region ?_
   refine .cons (.mv rfl rfl) ?_
   refine .cons (.ln 167 2 48 rfl rfl rfl) ?_
   refine .cons (.le rfl rfl rfl) ?_
   refine .cons (.asg rfl rfl) ?_
   refine .nil ?_
   refine ks_n ?_
   refine ACode.ret ?_
   refine kf_ret rfl ?_ nobox
   first | exact leafB (by rw [nsV, hF, List.drop_of_length_le (by omega), nestG, Bool.and_true, Bool.eq_iff_iff]; simp; omega) | exact leafB (by rw [nsV, decide_eq_false (show ¬ ns.length ≤ 4 by omega)]; simp; omega)
 ·skip
  refine .cons (.gF rfl rfl rfl) ?_
  refine .cons (.gF rfl rfl rfl) ?_
  refine .cons (.gF rfl rfl rfl) ?_
  refine .cons (.pF rfl rfl rfl) ?_
  refine .nil ?_
  refine ks_n ?_
  refine ACode.condT rfl (fun h => by first | (cases h; done) | (simp [*] at h; done) | (exfalso; simp_all; done)) (fun _ => ?_)
  refine ACode.exit ?_
  refine ks_e ?_
  refine kl_e ?_
  refine kb_hit ?_
  refine ks_n ?_
  refine ACode.seq ?_
  refine ACode.region ?_
  refine .cons (.mv rfl rfl) ?_
  refine .cons (.ln 167 2 48 rfl rfl rfl) ?_
  refine .cons (.le rfl rfl rfl) ?_
  refine .cons (.asg rfl rfl) ?_
  refine .nil ?_
  refine ks_n ?_
  refine ACode.ret ?_
  refine kf_ret rfl ?_ nobox
  first | exact leafB (by rw [nsV, hF, List.drop_of_length_le (by omega), nestG, Bool.and_true, Bool.eq_iff_iff]; simp; omega) | exact leafB (by rw [nsV, decide_eq_false (show ¬ ns.length ≤ 4 by omega)]; simp; omega)

set_option maxRecDepth 100000 in
set_option maxHeartbeats 1600000 in
theorem implNestPts_bad (ns : List Lp) (hs : bgN ns) (hb : nsV ns = false) : Fn Tryz.prog 119 [] [vD (dLs ns)] (.tup [vD (dPs (npR ns)), bo1 (okP ns)]) [] := by
 have hO : okP ns = false := by rw [okP, hb]; rfl
 have hN := npR_no hO
 refine Fn.code0 Tryz.func119 rfl rfl rfl rfl ?_
 refine ACode.seq ?_
 refine ACode.region ?_
 refine .cons (.asg rfl rfl) ?_
 refine .cons (.asg rfl rfl) ?_
 refine .nil ?_
 refine ks_n ?_
 refine ACode.seq ?_
 refine ACode.seq ?_
 refine ACode.region ?_
 refine .cons (.mv rfl rfl) ?_
 refine .cons (.cP [.tmp 5] rfl rfl rfl rfl (implNestV_B ns hs) rfl) ?_
 refine .cons (.nt rfl rfl) ?_
 refine .nil ?_
 refine ks_n ?_
 refine ACode.condT rfl (fun h7 => ?_) (fun h7 => ?_)
 ·try simp only [zs1, zs2, zs3, zs4, zs5, zs6, zs7] at h7
  refine ACode.seq ?_
  refine ACode.region ?_
  refine .cons (.asg rfl rfl) ?_
  refine .cons (.asg rfl rfl) ?_
  refine .nil ?_
  refine ks_n ?_
  refine ACode.ret ?_
  refine ks_r ?_
  refine kf_wret [(.t 2, .v (.o (vD (dPs (npR ns))))), (.t 3, .v (.o (bo1 (okP ns))))] (Wk.keep [] rfl rfl ⟨ks rfl (.c (Cto.nilE 1 (by rw [hN]; rfl))), ks rfl (.dt (by rw [hO])), trivial⟩) rfl ?_ nobox
  rfl
 ·try simp only [zs1, zs2, zs3, zs4, zs5, zs6, zs7] at h7
  rw [hb] at h7; cases h7

set_option maxRecDepth 100000 in
set_option maxHeartbeats 1600000 in
theorem specNestPts_bad (ns : List Lp) (hs : bgN ns) (hb : nsV ns = false) : Fn Tryz.prog 110 [] [vD (dLs ns)] (.tup [vD (dPs (npR ns)), bo1 (okP ns)]) [] := by
 have hO : okP ns = false := by rw [okP, hb]; rfl
 have hN := npR_no hO
 refine Fn.code0 Tryz.func110 rfl rfl rfl rfl ?_
 refine ACode.seq ?_
 refine ACode.region ?_
 refine .cons (.asg rfl rfl) ?_
 refine .cons (.asg rfl rfl) ?_
 refine .nil ?_
 refine ks_n ?_
 refine ACode.seq ?_
 refine ACode.seq ?_
 refine ACode.region ?_
 refine .cons (.mv rfl rfl) ?_
 refine .cons (.cP [.tmp 5] rfl rfl rfl rfl (specNestV_B ns hs) rfl) ?_
 refine .cons (.nt rfl rfl) ?_
 refine .cons (.mv rfl rfl) ?_
 refine AOps.cases 8 _ rfl (fun g8 => ?_) (fun g8 => ?_)
 ·try simp only [zs1, zs2, zs3, zs4, zs5, zs6, zs7] at g8
  refine .cons (.gF rfl rfl rfl) ?_
  refine .cons (.gF rfl rfl rfl) ?_
  refine .cons (.gF rfl rfl rfl) ?_
  refine .cons (.pT rfl rfl rfl) ?_
  refine .nil ?_
  refine ks_n ?_
  refine ACode.condT rfl (fun _ => ?_) (fun h => by first | (cases h; done) | (simp [*] at h; done) | (exfalso; simp_all; done))
  refine ACode.seq ?_
  refine ACode.region ?_
  refine .cons (St1.lit0 (k' := 113) (e := 27) (sz := 1) (b := true) rfl rfl rfl rfl (by kernel_rfl) rfl rfl) ?_
  refine .cons (.asg rfl rfl) ?_
  refine .cons (.asg rfl rfl) ?_
  refine .nil ?_
  refine ks_n ?_
  refine ACode.ret ?_
  refine ks_r ?_
  refine kf_wret [(.t 2, .v (.o (vD (dPs (npR ns))))), (.t 3, .v (.o (bo1 (okP ns))))] (Wk.keep [] rfl rfl ⟨ks rfl (.c (.fz rfl (by rw [hN]; first | rfl | simp [dR]) (by rw [hN]; rfl) (by omega))), ks rfl (.dt (by rw [hO])), trivial⟩) rfl ?_ nobox
  rfl
 ·try simp only [zs1, zs2, zs3, zs4, zs5, zs6, zs7] at g8
  rw [hb] at g8; cases g8

theorem implNestPts_B (ns : List Lp) (hs : bgN ns) : Fn Tryz.prog 119 [] [vD (dLs ns)] (.tup [vD (dPs (npR ns)), bo1 (okP ns)]) [] := by
  cases h : nsV ns with
  | true => exact implNestPts_fn ns (smN_of h)
  | false => exact implNestPts_bad ns hs h

theorem specNestPts_B (ns : List Lp) (hs : bgN ns) : Fn Tryz.prog 110 [] [vD (dLs ns)] (.tup [vD (dPs (npR ns)), bo1 (okP ns)]) [] := by
  cases h : nsV ns with
  | true => exact specNestPts_fn ns (smN_of h)
  | false => exact specNestPts_bad ns hs h
theorem sz_bg {ns : List Lp} (h : szLs ns ≤ 1073741824) : bgN ns := by
  have hl := szLs_len ns
  refine ⟨by omega, fun l hl2 => ?_⟩
  have h1 := szLs_mem hl2
  have e : szL l = szAs l.1 + szAs l.2 := rfl
  have a1 := szAs_len l.1
  have a2 := szAs_len l.2
  exact ⟨by omega, by omega, fun x hx => by have := szAs_mem hx; omega, fun x hx => by have := szAs_mem hx; omega⟩
theorem mem_rdEs {a : Acc} : ∀ {l : List Ex}, a ∈ rdEs l → ∃ x ∈ l, a ∈ rdE x
  | [], h => by rw [rdEs] at h; cases h
  | x :: l, h => by
    rw [rdEs, List.mem_append] at h
    rcases h with h | h
    · exact ⟨x, by simp, h⟩
    · obtain ⟨y, hy, h2⟩ := mem_rdEs h
      exact ⟨y, by simp [hy], h2⟩
theorem rdE_acc {d : Nat} {a : Acc} : ∀ {L : Nat} {e : Ex}, exV d L e = true → a ∈ rdE e → accV d a = true
  | 0, e, h, _ => by cases h
  | L + 1, e, h, ha => by
    rw [exV, Bool.and_eq_true, Bool.and_eq_true] at h
    rw [rdE_eq, List.mem_append] at ha
    rcases ha with ha | ha
    · split at ha
      · rename_i hk
        have h2 := h.1.2
        rw [fldV, if_neg (by omega), if_neg (by omega), if_pos hk, Bool.and_eq_true] at h2
        rw [List.mem_singleton.1 ha]; exact h2.2
      · cases ha
    · obtain ⟨x, hx, h3⟩ := mem_rdEs ha
      exact rdE_acc (List.all_eq_true.1 h.2 x hx) h3
theorem stm_accs {D : Int} {s : Stm} (h : stmtV D s = true) : accV D.toNat s.1 = true ∧ (∀ a ∈ rdE s.2, accV D.toNat a = true) ∧ (rdE s.2).length ≤ 12 := by
  obtain ⟨h1, h2, h3, _⟩ := stmtV_ex h
  exact ⟨h2, fun a ha => rdE_acc h1 ha, Nat.le_trans (rdE_len s.2) h3⟩
theorem accG_not {ar : List Arr} {p : List Int} : (fun a => decide (cellG a p ar 0 < 0)) = fun a => !accG ar p a := by
  funext a; rw [accG, Bool.eq_iff_iff]; simp
theorem cloneInts_fn (p : List Int) (hp : p.length ≤ 4294967296) : Fn Tryz.prog 125 [] [vD (dIs p)] (.o (vD (dIs p))) [] :=
  Fn.pure fun B bx al w vs hv => by
    obtain ⟨v, rfl, h⟩ := vals1 hv
    have h3 := dr_ints h
    obtain ⟨a, n, c, rfl, rfl⟩ := sl_form h3
    exact (clone_any B a _ c p w h3 hp).mono fun e w' ⟨v, h1, h2, h4⟩ => ⟨_, h1, h4, ints_dr ((h2.sl (by omega)).mono fun b hb _ => .inr (h2.lt b hb).1)⟩

set_option maxRecDepth 100000 in
set_option maxHeartbeats 1600000 in
theorem idx_stm {f : FuncId} {cap : List (List D)} (hc : callable Tryz.prog f = true) (p : Stm → Bool) (xs : List Stm) (hx : xs.length ≤ 1099511627776) (hf : ∀ x ∈ xs, Fn Tryz.prog f [] (ad (rS x) :: cap.map fun c => .c (.ptr c)) (.o (bo1 (p x))) []) : Fn Tryz.prog 165 [] [vD (.list 9 (xs.map rS)), .c (.fn f cap)] (.o (nat1 (idxF p xs))) [] := by
 refine Fn.code0 Tryz.func165 rfl rfl rfl rfl ?_
 refine ACode.seq ?_
 refine ACode.region ?_
 refine .cons (.asg rfl rfl) ?_
 refine .nil ?_
 refine ks_n ?_
 refine ACode.seq ?_
 refine ACode.seq ?_
 refine ACode.region ?_
 refine .cons (.mv rfl rfl) ?_
 refine .cons (.ln 91 9 152 rfl rfl rfl) ?_
 refine .cons (.mv rfl rfl) ?_
 refine .nil ?_
 refine ks_n ?_
 refine ACode.block ?_
 refine .loopK (fun m σ => (∃ i : Nat, m = xs.length - i ∧ (i ≤ xs.length) ∧ (idxF p xs = idxG p i (xs.drop i)) ∧ σ = [(.t 0, .v (.o (vD (.list 9 (xs.map rS))))), (.t 1, .v (.o (.c (.fn f cap)))), (.t 7, .v (.o (nat1 (xs.length : Nat)))), (.t 8, .v (.o (nat1 (i : Nat))))])) [] ⟨0, rfl, by omega, rfl, rfl⟩ ⟨ks rfl .dt, ks rfl .dt, ks rfl .dt, ks rfl .dt, trivial⟩ ?_
 rintro m σ ⟨i, hm0, hi, hF, rfl⟩
 refine ACode.seq ?_
 refine ACode.region ?_
 refine .cons (.ls rfl rfl rfl) ?_
 refine .nil ?_
 refine ks_n ?_
 refine ACode.seq ?_
 refine .cD rfl (fun h9 => ?_) (fun h9 => ?_)
 ·skip
  obtain ⟨x, hx1⟩ : ∃ x_, xs[i]? = some x_ := ⟨_, List.getElem?_eq_getElem (by omega)⟩
  refine ACode.skip ?_
  refine ks_n ?_
  refine ACode.seq ?_
  refine ACode.block ?_
  refine ACode.seq ?_
  refine ACode.region ?_
  refine .cons (.mv rfl rfl) ?_
  refine .cons (.asg rfl rfl) ?_
  refine .nil ?_
  refine ks_n ?_
  refine ACode.seq ?_
  refine ACode.region ?_
  refine .cons (.mv rfl rfl) ?_
  refine .cons (.mv rfl rfl) ?_
  refine .cons (.mv rfl rfl) ?_
  refine .cons (.xL 91 9 152 rfl rfl rfl rfl rfl) ?_
  refine .cons (.lN 9 rfl rfl rfl) ?_
  refine .cons (.cP [.tmp 15] rfl rfl rfl rfl (hf x (List.mem_of_getElem? hx1)) rfl hc) ?_
  refine .nil ?_
  refine ks_n ?_
  refine ACode.condT rfl (fun h16 => ?_) (fun h16 => ?_)
  ·try simp only [zs1, zs2, zs3, zs4, zs5, zs6, zs7] at h16
   refine ACode.seq ?_
   refine ACode.region ?_
   refine .cons (.mv rfl rfl) ?_
   refine .cons (.asg rfl rfl) ?_
   refine .nil ?_
   refine ks_n ?_
   refine ACode.ret ?_
   refine kb_r ?_
   refine ks_r ?_
   refine kl_r ?_
   refine kb_r ?_
   refine ks_r ?_
   refine kf_ret rfl ?_ nobox
   exact leafI (by rw [hF, idxG_drop hx1, h16]; rfl)
  ·try simp only [zs1, zs2, zs3, zs4, zs5, zs6, zs7] at h16
   refine ACode.skip ?_
   refine kb_n ?_
   refine ks_n ?_
   refine ACode.region ?_
   refine .cons (.pl rfl rfl rfl) ?_
   refine .cons (.mv rfl rfl) ?_
   refine .nil ?_
   refine kl_k [] ⟨i + 1, rfl, by omega, by rw [hF, idxG_drop hx1, h16]; rfl, rfl⟩ ⟨ks rfl .dt, ks rfl .dt, ks rfl .dt, ks rfl .dt, trivial⟩
 ·skip
  refine ACode.exit ?_
  refine ks_e ?_
  refine kl_e ?_
  refine kb_hit ?_
  refine ks_n ?_
  refine ACode.seq ?_
  refine ACode.region ?_
  refine .cons (.asg rfl rfl) ?_
  refine .nil ?_
  refine ks_n ?_
  refine ACode.ret ?_
  refine kf_ret rfl ?_ nobox
  exact leafI (by rw [hF, List.drop_of_length_le (by omega)]; rfl)

set_option maxRecDepth 100000 in
set_option maxHeartbeats 1600000 in
theorem cnt_stm {f : FuncId} {cap : List (List D)} (hc : callable Tryz.prog f = true) (p : Stm → Bool) (xs : List Stm) (hx : xs.length ≤ 1099511627776) (hf : ∀ x ∈ xs, Fn Tryz.prog f [] (ad (rS x) :: cap.map fun c => .c (.ptr c)) (.o (bo1 (p x))) []) : Fn Tryz.prog 120 [] [vD (.list 9 (xs.map rS)), .c (.fn f cap)] (.o (bo1 (xs.any p))) [] := by
 refine Fn.code0 Tryz.func120 rfl rfl rfl rfl ?_
 refine ACode.seq ?_
 refine ACode.region ?_
 refine .cons (.asg rfl rfl) ?_
 refine .nil ?_
 refine ks_n ?_
 refine ACode.seq ?_
 refine ACode.region ?_
 refine .cons (.mv rfl rfl) ?_
 refine .cons (.mv rfl rfl) ?_
 refine .cons (.cP [.tmp 5, .tmp 6] rfl rfl rfl rfl (idx_stm hc p xs hx hf) rfl) ?_
 refine .cons (.ge rfl rfl rfl) ?_
 refine .cons (.asg rfl rfl) ?_
 refine .nil ?_
 refine ks_n ?_
 refine ACode.ret ?_
 refine kf_ret rfl ?_ nobox
 exact leafB idxG_any

set_option maxRecDepth 100000 in
set_option maxHeartbeats 1600000 in
theorem sok1_fn {g : Prg} (hv : arrsV g.1 = true) {D : Nat} {a : Acc} {p : List Int} (ha : accV D a = true) (hS : Small p) (hn : p.length ≤ 4) : Fn Tryz.prog 169 [] [ad (rC a), .c (.ptr (rG g)), .c (.ptr [dIs p])] (.o (bo1 (decide (cellG a p g.1 0 < 0)))) [] := by
 refine Fn.code0 Tryz.func169 rfl rfl rfl rfl ?_
 refine ACode.seq ?_
 refine ACode.region ?_
 refine .cons (St1.boxP rfl rfl rfl rfl rfl rfl) ?_
 refine .cons (.asg rfl rfl) ?_
 refine .nil ?_
 refine ks_n ?_
 refine ACode.seq ?_
 refine ACode.region ?_
 refine .cons (.lN 2 rfl rfl rfl) ?_
 refine .cons (.lN 2 rfl rfl rfl) ?_
 refine .cons (.l1 1 rfl rfl) ?_
 refine .cons (.cP [.tmp 5, .tmp 6, .tmp 7] rfl rfl rfl rfl (cell_fn hv ha hS hn) rfl) ?_
 refine .cons (.ls rfl rfl rfl) ?_
 refine .cons (.asg rfl rfl) ?_
 refine .nil ?_
 refine ks_n ?_
 refine ACode.ret ?_
 refine kf_ret rfl ?_ nobox
 rfl

set_option maxRecDepth 100000 in
set_option maxHeartbeats 1600000 in
theorem sok_fn {g : Prg} (hv : arrsV g.1 = true) {D : Int} {s : Stm} {p : List Int} (hs : stmtV D s = true) (hS : Small p) (hn : p.length ≤ 4) : Fn Tryz.prog 124 [] [ad (rG g), ad (rS s), vD (dIs p)] (.o (bo1 (stmG g.1 s p))) [] := by
 obtain ⟨ha, hr, hrl⟩ := stm_accs hs
 refine Fn.code0 Tryz.func124 rfl rfl rfl rfl ?_
 refine ACode.seq ?_
 refine ACode.region ?_
 refine .cons (St1.boxP rfl rfl rfl rfl rfl rfl) ?_
 refine .cons (St1.boxP rfl rfl rfl rfl rfl rfl) ?_
 refine .cons (St1.boxP rfl rfl rfl rfl rfl rfl) ?_
 refine .cons (.asg rfl rfl) ?_
 refine .nil ?_
 refine ks_n ?_
 refine ACode.seq ?_
 refine ACode.region ?_
 refine .cons (.lN 2 rfl rfl rfl) ?_
 refine .cons (.fP 0 1 true rfl rfl) ?_
 refine .cons (.lN 2 rfl rfl rfl) ?_
 refine .cons (.l1 1 rfl rfl) ?_
 refine .cons (.cP [.tmp 7, .tmp 9, .tmp 10] rfl rfl rfl rfl (cell_fn hv ha hS hn) rfl) ?_
 refine .cons (.ge rfl rfl rfl) ?_
 refine .cons (.mv rfl rfl) ?_
 refine .cD 13 rfl (fun g13 => ?_) (fun g13 => ?_)
 ·skip
  refine .cons (.gT rfl rfl rfl (.fP 2 6 true rfl rfl)) ?_
  refine .cons (.gT rfl rfl rfl (.lN 7 rfl rfl rfl)) ?_
  refine .cons (.gT rfl rfl rfl (.cP [.tmp 15] rfl rfl rfl rfl (reads_fn (L := 5) s.2 (by omega) (stmtV_ex hs).1) rfl)) ?_
  refine .cons (.gT rfl rfl rfl (St1.makeFunc (xs := [.tmp 3, .tmp 5]) rfl rfl rfl rfl rfl rfl rfl)) ?_
  refine .cons (.gT rfl rfl rfl (.cP [.tmp 16, .tmp 17] rfl rfl rfl rfl (cnt_acc (f := 169) (cap := [rG g, [dIs p]]) (by kernel_rfl) (fun a => decide (cellG a p g.1 0 < 0)) (rdE s.2) (by omega) (fun a ha => sok1_fn hv (hr a ha) hS hn)) rfl)) ?_
  refine .cons (.gT rfl rfl rfl (.nt rfl rfl)) ?_
  refine .cons (.pT rfl rfl rfl) ?_
  refine .cons (.asg rfl rfl) ?_
  refine .nil ?_
  refine ks_n ?_
  refine ACode.ret ?_
  refine kf_ret rfl ?_ nobox
  exact leafB (by rw [stmG, accG]; first | (rw [accG_not, nany]; simp [*]; done) | (simp [*]; done))
 ·skip
  refine .cons (.gF rfl rfl rfl) ?_
  refine .cons (.gF rfl rfl rfl) ?_
  refine .cons (.gF rfl rfl rfl) ?_
  refine .cons (.gF rfl rfl rfl) ?_
  refine .cons (.gF rfl rfl rfl) ?_
  refine .cons (.gF rfl rfl rfl) ?_
  refine .cons (.pF rfl rfl rfl) ?_
  refine .cons (.asg rfl rfl) ?_
  refine .nil ?_
  refine ks_n ?_
  refine ACode.ret ?_
  refine kf_ret rfl ?_ nobox
  exact leafB (by rw [stmG, accG]; first | (rw [accG_not, nany]; simp [*]; done) | (simp [*]; done))

set_option maxRecDepth 100000 in
set_option maxHeartbeats 1600000 in
theorem ins1_fn {q : Prt} {s : Stm} (hs : szS s ≤ 1073741824) : Fn Tryz.prog 121 [] [ad (rS s), .c (.ptr (rP q))] (.o (bo1 (!stmtV (q.1.length : Nat) s))) [] := by
 refine Fn.code0 Tryz.func121 rfl rfl rfl rfl ?_
 refine ACode.seq ?_
 refine ACode.region ?_
 refine .cons (St1.boxP rfl rfl rfl rfl rfl rfl) ?_
 refine .cons (.asg rfl rfl) ?_
 refine .nil ?_
 refine ks_n ?_
 refine ACode.seq ?_
 refine ACode.region ?_
 refine .cons (.lN 9 rfl rfl rfl) ?_
 refine .cons (.fP 0 0 false rfl rfl) ?_
 refine .cons (.l1 1 rfl rfl) ?_
 refine .cons (.ln 167 2 48 rfl rfl rfl) ?_
 refine .cons (.cP [.tmp 4, .tmp 7] rfl rfl rfl rfl (implStmtV_fn (q.1.length : Nat) s (by omega)) rfl) ?_
 refine .cons (.nt rfl rfl) ?_
 refine .cons (.asg rfl rfl) ?_
 refine .nil ?_
 refine ks_n ?_
 refine ACode.ret ?_
 refine kf_ret rfl ?_ nobox
 rfl
theorem all_of {α : Type} {l : List α} {p : α → Bool} (h : ∀ (j : Nat) x, l[j]? = some x → p x = true) : l.all p = true := by
  rw [List.all_eq_true]
  intro x hx
  obtain ⟨j, hj⟩ := List.mem_iff_getElem?.1 hx
  exact h j x hj

set_option maxRecDepth 100000 in
set_option maxHeartbeats 1600000 in
theorem instances_fn {g : Prg} (hs : szG g ≤ 1073741824) : Fn Tryz.prog 81 [] [ad (rG g)] (.tup [vD (dNs (insV g)), bo1 (prgV g)]) [] := by
 have h1 := szO_len (f := szR) g.1
 have h2 := szO_len (f := szPt) g.2
 have hsz : szG g = szO szR g.1 + szO szPt g.2 := rfl
 refine Fn.code0 Tryz.func81 rfl rfl rfl rfl ?_
 refine ACode.seq ?_
 refine ACode.region ?_
 refine .cons (St1.boxP rfl rfl rfl rfl rfl rfl) ?_
 refine .cons (.asg rfl rfl) ?_
 refine .cons (.asg rfl rfl) ?_
 refine .nil ?_
 refine ks_n ?_
 refine ACode.seq ?_
 refine ACode.seq ?_
 refine ACode.region ?_
 refine .cons (.fP 0 0 false rfl rfl) ?_
 refine .cons (.l1 1 rfl rfl) ?_
 refine .cons (.cP [.tmp 14] rfl rfl rfl rfl (arraysOk_fn g.1 (by omega) (fun x hx => by have := szO_mem (f := szR) hx; have e : szR x = x.1.size + x.2.length := rfl; omega)) rfl) ?_
 refine .cons (.nt rfl rfl) ?_
 refine .cons (.mv rfl rfl) ?_
 refine AOps.cases 17 _ rfl (fun g17 => ?_) (fun g17 => ?_)
 ·try simp only [zs1, zs2, zs3, zs4, zs5, zs6, zs7] at g17
  refine .cons (.gF rfl rfl rfl) ?_
  refine .cons (.gF rfl rfl rfl) ?_
  refine .cons (.gF rfl rfl rfl) ?_
  refine .cons (.gF rfl rfl rfl) ?_
  refine .cons (.pT rfl rfl rfl) ?_
  refine .nil ?_
  refine ks_n ?_
  refine ACode.condT rfl (fun _ => ?_) (fun h => by first | (cases h; done) | (simp [*] at h; done) | (exfalso; simp_all; done))
  refine ACode.seq ?_
  obtain ⟨hO, hN⟩ := prgV_f (g := g) (by first | exact prgS_f2 (show ¬ g.2.length ≤ 4 by omega) | exact prgS_f1 (by assumption))
  refine ACode.region ?_
  refine .cons (.asg rfl rfl) ?_
  refine .cons (.asg rfl rfl) ?_
  refine .nil ?_
  refine ks_n ?_
  refine ACode.ret ?_
  refine ks_r ?_
  refine kf_wret [(.t 2, .v (.o (vD (dNs (insV g))))), (.t 3, .v (.o (bo1 (prgV g))))] (Wk.keep [] rfl rfl ⟨ks rfl (.c (Cto.nilE 3 (by first | (rw [hN]; rfl) | (rw [hN, hEz]; rfl)))), ks rfl (.dt (by first | exact congrArg (fun b => V.o (bo1 b)) hO.symm | exact congrArg (fun b => V.o (bo1 b)) (by rw [hO, hEz, decide_eq_decide]; simp) | exact congrArg (fun b => V.o (bo1 b)) (by rw [hO, hEz, decide_eq_decide]; omega))), trivial⟩) rfl ?_ nobox
  rfl
 ·try simp only [zs1, zs2, zs3, zs4, zs5, zs6, zs7] at g17
  refine .cons (.gT rfl rfl rfl (.fP 1 0 false rfl rfl)) ?_
  refine .cons (.gT rfl rfl rfl (.l1 1 rfl rfl)) ?_
  refine .cons (.gT rfl rfl rfl (.ln 119 2 48 rfl rfl rfl)) ?_
  refine .cons (.gT rfl rfl rfl (.gt rfl rfl rfl)) ?_
  refine .cons (.pF rfl rfl rfl) ?_
  refine .nil ?_
  refine ks_n ?_
  refine ACode.condT rfl (fun h22 => ?_) (fun h22 => ?_)
  ·try simp only [zs1, zs2, zs3, zs4, zs5, zs6, zs7] at h22
   refine ACode.seq ?_
   obtain ⟨hO, hN⟩ := prgV_f (g := g) (by first | exact prgS_f2 (show ¬ g.2.length ≤ 4 by omega) | exact prgS_f1 (by assumption))
   refine ACode.region ?_
   refine .cons (.asg rfl rfl) ?_
   refine .cons (.asg rfl rfl) ?_
   refine .nil ?_
   refine ks_n ?_
   refine ACode.ret ?_
   refine ks_r ?_
   refine kf_wret [(.t 2, .v (.o (vD (dNs (insV g))))), (.t 3, .v (.o (bo1 (prgV g))))] (Wk.keep [] rfl rfl ⟨ks rfl (.c (Cto.nilE 3 (by first | (rw [hN]; rfl) | (rw [hN, hEz]; rfl)))), ks rfl (.dt (by first | exact congrArg (fun b => V.o (bo1 b)) hO.symm | exact congrArg (fun b => V.o (bo1 b)) (by rw [hO, hEz, decide_eq_decide]; simp) | exact congrArg (fun b => V.o (bo1 b)) (by rw [hO, hEz, decide_eq_decide]; omega))), trivial⟩) rfl ?_ nobox
   rfl
  ·try simp only [zs1, zs2, zs3, zs4, zs5, zs6, zs7] at h22
   have hA : arrsV g.1 = true := by first | assumption | simp_all
   have h4 : g.2.length ≤ 4 := by omega
   refine ACode.skip ?_
   refine ks_n ?_
   refine ACode.seq ?_
   refine ACode.region ?_
   refine .cons (.asg rfl rfl) ?_
   refine .nil ?_
   refine ks_n ?_
   refine ACode.seq ?_
   refine ACode.seq ?_
   refine ACode.region ?_
   refine .cons (.fP 1 0 false rfl rfl) ?_
   refine .cons (.l1 1 rfl rfl) ?_
   refine .cons (.ln 119 2 48 rfl rfl rfl) ?_
   refine .cons (.mv rfl rfl) ?_
   refine .nil ?_
   refine ks_n ?_
   refine ACode.block ?_
   refine .loopK (fun m σ => (∃ k : Nat, m = g.2.length - k ∧ (k ≤ g.2.length) ∧ (∀ j q, j < k → g.2[j]? = some q → prtV g.1 q = true) ∧ (insG 0 (g.2.take k) = []) ∧ σ = [(.t 1, .v (.o (.c (.ptr (rG g))))), (.t 4, .v (.o (.c (.d (.val (.slice none 0 0)))))), (.t 24, .v (.o (vD (dPts g.2)))), (.t 25, .v (.o (nat1 (g.2.length : Nat)))), (.t 26, .v (.o (nat1 (k : Nat))))]) ∨ (∃ (k : Nat) (o : List Ins), m = g.2.length - k ∧ (k ≤ g.2.length) ∧ (∀ j q, j < k → g.2[j]? = some q → prtV g.1 q = true) ∧ (insG 0 (g.2.take k) = o) ∧ (o.length ≤ 480 * k) ∧ σ = [(.t 1, .v (.o (.c (.ptr (rG g))))), (.t 4, .v (.o (.c (.own 110 3 (o.length))))), (.t 24, .v (.o (vD (dPts g.2)))), (.t 25, .v (.o (nat1 (g.2.length : Nat)))), (.t 26, .v (.o (nat1 (k : Nat)))), (.b 110, .b 94 3 (dR (o.map rN))), (.u 110, .u)])) [] (.inl ⟨0, rfl, by omega, fun j q hj _ => absurd hj (by omega), rfl, rfl⟩) ⟨ks rfl .dt, ks rfl .dt, ks rfl .dt, ks rfl .dt, ks rfl .dt, trivial⟩ ?_
   rintro m σ (⟨k, hm0, hk, hF, hE, rfl⟩ | ⟨k, o, hm0, hk, hF, hE, ho, rfl⟩)
   ·skip
    refine ACode.seq ?_
    refine ACode.region ?_
    refine .cons (.ls rfl rfl rfl) ?_
    refine .nil ?_
    refine ks_n ?_
    refine ACode.seq ?_
    refine .cD rfl (fun h27 => ?_) (fun h27 => ?_)
    ·skip
     obtain ⟨q, hq1⟩ : ∃ x_, g.2[k]? = some x_ := ⟨_, List.getElem?_eq_getElem (by omega)⟩
     have hqm := List.mem_of_getElem? hq1
     have hqs := szO_mem (f := szPt) hqm
     have hqe : szPt q = szLs q.1 + szO szS q.2 := rfl
     have hbg := sz_bg (ns := q.1) (by omega)
     have hql := szO_len (f := szS) q.2
     refine ACode.skip ?_
     refine ks_n ?_
     refine ACode.seq ?_
     refine ACode.block ?_
     refine ACode.seq ?_
     refine ACode.region ?_
     refine .cons (.mv rfl rfl) ?_
     refine .cons (.xL 119 2 48 rfl rfl rfl rfl rfl) ?_
     refine .cons (.lN 2 rfl rfl rfl) ?_
     refine .cons (.al 106 [.slice none 0 0, .slice none 0 0] rfl rfl rfl) ?_
     refine .cons (.asg rfl rfl) ?_
     refine .cons (.sT 2 true rfl rfl rfl rfl rfl rfl rfl) ?_
     refine .nil ?_
     refine ks_n ?_
     refine ACode.seq ?_
     refine .keep [(.t 1, .v (.o (.c (.ptr (rG g))))), (.t 4, .v (.o (.c (.d (.val (.slice none 0 0)))))), (.t 5, .v (.o (nat1 (k : Nat)))), (.t 6, .v (.o (.c (.ptr (rP q))))), (.t 24, .v (.o (vD (dPts g.2)))), (.t 25, .v (.o (nat1 (g.2.length : Nat)))), (.t 26, .v (.o (nat1 (k : Nat))))] [] ⟨ks rfl .dt, ks rfl .dt, ks rfl .dt, ks rfl (.c (.frzP _ _ _ _ _ _ _ _ rfl (show _ = dR [rP q] from rfl) rfl rfl rfl)), ks rfl .dt, ks rfl .dt, ks rfl .dt, trivial⟩ ?_
     refine ACode.region ?_
     refine .cons (.fP 0 0 false rfl rfl) ?_
     refine .cons (.l1 1 rfl rfl) ?_
     refine .cons (.cP [.tmp 33] rfl rfl rfl rfl (implNestPts_B q.1 hbg) rfl) ?_
     refine .cons (.mv rfl rfl) ?_
     refine .cons (.ex rfl rfl rfl) ?_
     refine .cons (.ex rfl rfl rfl) ?_
     refine .cons (.asg rfl rfl) ?_
     refine .cons (.asg rfl rfl) ?_
     refine .nil ?_
     refine ks_n ?_
     refine ACode.seq ?_
     refine ACode.seq ?_
     refine ACode.region ?_
     refine .cons (.mv rfl rfl) ?_
     refine .cons (.nt rfl rfl) ?_
     refine .cons (.mv rfl rfl) ?_
     refine AOps.cases 39 _ rfl (fun g39 => ?_) (fun g39 => ?_)
     ·try simp only [zs1, zs2, zs3, zs4, zs5, zs6, zs7] at g39
      refine .cons (.gF rfl rfl rfl) ?_
      refine .cons (.gF rfl rfl rfl) ?_
      refine .cons (.gF rfl rfl rfl) ?_
      refine .cons (.gF rfl rfl rfl) ?_
      refine .cons (.gF rfl rfl rfl) ?_
      refine .cons (.pT rfl rfl rfl) ?_
      refine .cons (.mv rfl rfl) ?_
      refine .cons (.gF rfl rfl rfl) ?_
      refine .cons (.gF rfl rfl rfl) ?_
      refine .cons (.gF rfl rfl rfl) ?_
      refine .cons (.gF rfl rfl rfl) ?_
      refine .cons (.pT rfl rfl rfl) ?_
      refine .nil ?_
      refine ks_n ?_
      refine ACode.condT rfl (fun _ => ?_) (fun h => by first | (cases h; done) | (simp [*] at h; done) | (exfalso; simp_all; done))
      refine ACode.seq ?_
      have hbad : prtV g.1 q = false := by first | exact prtV_f1 (by assumption) | exact prtV_f2 (fun h => by simp_all [inB]; omega) | (obtain ⟨s, hs, hs2⟩ := List.any_eq_true.1 (by assumption); exact prtV_f3 hs (by simpa using hs2))
      obtain ⟨hO, hN⟩ := prgV_f (g := g) (prgS_f3 hqm hbad)
      refine ACode.region ?_
      refine .cons (.asg rfl rfl) ?_
      refine .cons (.asg rfl rfl) ?_
      refine .nil ?_
      refine ks_n ?_
      refine ACode.ret ?_
      refine ks_r ?_
      refine kb_r ?_
      refine ks_r ?_
      refine kl_r ?_
      refine kb_r ?_
      refine ks_r ?_
      refine kf_wret [(.t 2, .v (.o (vD (dNs (insV g))))), (.t 3, .v (.o (bo1 (prgV g))))] (Wk.keep [] rfl rfl ⟨ks rfl (.c (Cto.nilE 3 (by first | (rw [hN]; rfl) | (rw [hN, hEz]; rfl)))), ks rfl (.dt (by first | exact congrArg (fun b => V.o (bo1 b)) hO.symm | exact congrArg (fun b => V.o (bo1 b)) (by rw [hO, hEz, decide_eq_decide]; simp) | exact congrArg (fun b => V.o (bo1 b)) (by rw [hO, hEz, decide_eq_decide]; omega))), trivial⟩) rfl ?_ nobox
      rfl
     ·try simp only [zs1, zs2, zs3, zs4, zs5, zs6, zs7] at g39
      refine .cons (.gT rfl rfl rfl (.fP 1 0 false rfl rfl)) ?_
      refine .cons (.gT rfl rfl rfl (.l1 1 rfl rfl)) ?_
      refine .cons (.gT rfl rfl rfl (.ln 91 9 152 rfl rfl rfl)) ?_
      refine .cons (.gT rfl rfl rfl (.cP [.tmp 42, .const (.int .i64 (1)), .const (.int .i64 (4))] rfl rfl rfl rfl (within_fn _ 1 4) rfl)) ?_
      refine .cons (.gT rfl rfl rfl (.nt rfl rfl)) ?_
      refine .cons (.pF rfl rfl rfl) ?_
      refine .cons (.mv rfl rfl) ?_
      refine AOps.cases 46 _ rfl (fun g46 => ?_) (fun g46 => ?_)
      ·try simp only [zs1, zs2, zs3, zs4, zs5, zs6, zs7] at g46
       refine .cons (.gF rfl rfl rfl) ?_
       refine .cons (.gF rfl rfl rfl) ?_
       refine .cons (.gF rfl rfl rfl) ?_
       refine .cons (.gF rfl rfl rfl) ?_
       refine .cons (.pT rfl rfl rfl) ?_
       refine .nil ?_
       refine ks_n ?_
       refine ACode.condT rfl (fun _ => ?_) (fun h => by first | (cases h; done) | (simp [*] at h; done) | (exfalso; simp_all; done))
       refine ACode.seq ?_
       have hbad : prtV g.1 q = false := by first | exact prtV_f1 (by assumption) | exact prtV_f2 (fun h => by simp_all [inB]; omega) | (obtain ⟨s, hs, hs2⟩ := List.any_eq_true.1 (by assumption); exact prtV_f3 hs (by simpa using hs2))
       obtain ⟨hO, hN⟩ := prgV_f (g := g) (prgS_f3 hqm hbad)
       refine ACode.region ?_
       refine .cons (.asg rfl rfl) ?_
       refine .cons (.asg rfl rfl) ?_
       refine .nil ?_
       refine ks_n ?_
       refine ACode.ret ?_
       refine ks_r ?_
       refine kb_r ?_
       refine ks_r ?_
       refine kl_r ?_
       refine kb_r ?_
       refine ks_r ?_
       refine kf_wret [(.t 2, .v (.o (vD (dNs (insV g))))), (.t 3, .v (.o (bo1 (prgV g))))] (Wk.keep [] rfl rfl ⟨ks rfl (.c (Cto.nilE 3 (by first | (rw [hN]; rfl) | (rw [hN, hEz]; rfl)))), ks rfl (.dt (by first | exact congrArg (fun b => V.o (bo1 b)) hO.symm | exact congrArg (fun b => V.o (bo1 b)) (by rw [hO, hEz, decide_eq_decide]; simp) | exact congrArg (fun b => V.o (bo1 b)) (by rw [hO, hEz, decide_eq_decide]; omega))), trivial⟩) rfl ?_ nobox
       rfl
      ·try simp only [zs1, zs2, zs3, zs4, zs5, zs6, zs7] at g46
       refine .cons (.gT rfl rfl rfl (.fP 1 0 false rfl rfl)) ?_
       refine .cons (.gT rfl rfl rfl (.l1 1 rfl rfl)) ?_
       refine .cons (.gT rfl rfl rfl (St1.makeFunc (xs := [.tmp 6]) rfl rfl rfl rfl rfl rfl rfl)) ?_
       refine .cons (.gT rfl rfl rfl (.cP [.tmp 48, .tmp 49] rfl rfl rfl rfl (cnt_stm (f := 121) (cap := [rP q]) (by kernel_rfl) (fun s => !stmtV (q.1.length : Nat) s) q.2 (by omega) (fun s hs => ins1_fn (by have := szO_mem (f := szS) hs; omega))) rfl)) ?_
       refine .cons (.pF rfl rfl rfl) ?_
       refine .nil ?_
       refine ks_n ?_
       refine ACode.condT rfl (fun h51 => ?_) (fun h51 => ?_)
       ·try simp only [zs1, zs2, zs3, zs4, zs5, zs6, zs7] at h51
        refine ACode.seq ?_
        have hbad : prtV g.1 q = false := by first | exact prtV_f1 (by assumption) | exact prtV_f2 (fun h => by simp_all [inB]; omega) | (obtain ⟨s, hs, hs2⟩ := List.any_eq_true.1 (by assumption); exact prtV_f3 hs (by simpa using hs2))
        obtain ⟨hO, hN⟩ := prgV_f (g := g) (prgS_f3 hqm hbad)
        refine ACode.region ?_
        refine .cons (.asg rfl rfl) ?_
        refine .cons (.asg rfl rfl) ?_
        refine .nil ?_
        refine ks_n ?_
        refine ACode.ret ?_
        refine ks_r ?_
        refine kb_r ?_
        refine ks_r ?_
        refine kl_r ?_
        refine kb_r ?_
        refine ks_r ?_
        refine kf_wret [(.t 2, .v (.o (vD (dNs (insV g))))), (.t 3, .v (.o (bo1 (prgV g))))] (Wk.keep [] rfl rfl ⟨ks rfl (.c (Cto.nilE 3 (by first | (rw [hN]; rfl) | (rw [hN, hEz]; rfl)))), ks rfl (.dt (by first | exact congrArg (fun b => V.o (bo1 b)) hO.symm | exact congrArg (fun b => V.o (bo1 b)) (by rw [hO, hEz, decide_eq_decide]; simp) | exact congrArg (fun b => V.o (bo1 b)) (by rw [hO, hEz, decide_eq_decide]; omega))), trivial⟩) rfl ?_ nobox
        rfl
       ·try simp only [zs1, zs2, zs3, zs4, zs5, zs6, zs7] at h51
        have hv1 : okP q.1 = true := by first | assumption | simp_all
        have hv2 : 1 ≤ q.2.length ∧ q.2.length ≤ 4 := by simp_all [inB]; omega
        have hv3 : ∀ s ∈ q.2, stmtV (q.1.length : Nat) s = true := by simp_all
        refine ACode.skip ?_
        refine ks_n ?_
        refine ACode.seq ?_
        refine ACode.region ?_
        refine .cons (.mv rfl rfl) ?_
        refine .cons (.ln 27 1 24 rfl rfl rfl) ?_
        refine .cons (.mv rfl rfl) ?_
        refine .nil ?_
        refine ks_n ?_
        refine ACode.block ?_
        refine .loopK (fun m σ => (∃ i : Nat, m = (npR q.1).length - i ∧ (i = 0) ∧ σ = [(.t 1, .v (.o (.c (.ptr (rG g))))), (.t 4, .v (.o (.c (.d (.val (.slice none 0 0)))))), (.t 5, .v (.o (nat1 (k : Nat)))), (.t 6, .v (.o (.c (.ptr (rP q))))), (.t 24, .v (.o (vD (dPts g.2)))), (.t 25, .v (.o (nat1 (g.2.length : Nat)))), (.t 26, .v (.o (nat1 (k : Nat)))), (.t 52, .v (.o (vD (dPs (npR q.1))))), (.t 53, .v (.o (nat1 ((npR q.1).length : Nat)))), (.t 54, .v (.o (nat1 (i : Nat))))]) ∨ (∃ (i : Nat) (o2 : List Ins), m = (npR q.1).length - i ∧ (i ≤ (npR q.1).length) ∧ (∀ j p, j < i → (npR q.1)[j]? = some p → ptG' g.1 q.2 p = true) ∧ ([] ++ insT k q.2.length ((npR q.1).take i) = o2) ∧ (o2.length ≤ 480 * k + 4 * i) ∧ σ = [(.t 1, .v (.o (.c (.ptr (rG g))))), (.t 4, .v (.o (.c (.own 120 3 (o2.length))))), (.t 5, .v (.o (nat1 (k : Nat)))), (.t 6, .v (.o (.c (.ptr (rP q))))), (.t 24, .v (.o (vD (dPts g.2)))), (.t 25, .v (.o (nat1 (g.2.length : Nat)))), (.t 26, .v (.o (nat1 (k : Nat)))), (.t 52, .v (.o (vD (dPs (npR q.1))))), (.t 53, .v (.o (nat1 ((npR q.1).length : Nat)))), (.t 54, .v (.o (nat1 (i : Nat)))), (.b 120, .b 94 3 (dR (o2.map rN))), (.u 120, .u)])) [] (.inl ⟨0, rfl, rfl, rfl⟩) ⟨ks rfl .dt, ks rfl .dt, ks rfl .dt, ks rfl .dt, ks rfl .dt, ks rfl .dt, ks rfl .dt, ks rfl .dt, ks rfl .dt, ks rfl .dt, trivial⟩ ?_
        rintro m σ (⟨i, hm0, rfl, rfl⟩ | ⟨i, o2, hm0, hi, hG, hEo, ho2, rfl⟩)
        ·skip
         refine ACode.seq ?_
         refine ACode.region ?_
         refine .cons (.ls rfl rfl rfl) ?_
         refine .nil ?_
         refine ks_n ?_
         refine ACode.seq ?_
         refine .cD rfl (fun h55 => ?_) (fun h55 => ?_)
         ·skip
          obtain ⟨p, hp1⟩ : ∃ x_, (npR q.1)[0]? = some x_ := ⟨_, List.getElem?_eq_getElem (by omega)⟩
          have hpm := List.mem_of_getElem? hp1
          have hpt := npR_pt hpm
          have hnl := npR_len q.1
          refine ACode.skip ?_
          refine ks_n ?_
          refine ACode.seq ?_
          refine ACode.block ?_
          refine ACode.seq ?_
          refine ACode.region ?_
          refine .cons (.xL 27 1 24 rfl rfl rfl rfl rfl) ?_
          refine .cons (.l1 1 rfl rfl) ?_
          refine .cons (.asg rfl rfl) ?_
          refine .nil ?_
          refine ks_n ?_
          refine ACode.seq ?_
          refine ACode.seq ?_
          refine ACode.region ?_
          refine .cons (.mv rfl rfl) ?_
          refine .cons (.cP [.tmp 58] rfl rfl rfl rfl (isPoint_fn _) rfl) ?_
          refine .cons (.nt rfl rfl) ?_
          refine .nil ?_
          refine ks_n ?_
          refine ACode.condT rfl (fun h60 => ?_) (fun h60 => ?_)
          ·try simp only [zs1, zs2, zs3, zs4, zs5, zs6, zs7] at h60
           refine ACode.seq ?_
           obtain ⟨hO, hN⟩ := prgV_f (g := g) (prgS_f3 hqm (prtV_f4 hpm (by assumption)))
           refine ACode.region ?_
           refine .cons (.asg rfl rfl) ?_
           refine .cons (.asg rfl rfl) ?_
           refine .nil ?_
           refine ks_n ?_
           refine ACode.ret ?_
           refine ks_r ?_
           refine kb_r ?_
           refine ks_r ?_
           refine kl_r ?_
           refine kb_r ?_
           refine kb_r ?_
           refine ks_r ?_
           refine kl_r ?_
           refine kb_r ?_
           refine ks_r ?_
           refine kf_wret [(.t 2, .v (.o (vD (dNs (insV g))))), (.t 3, .v (.o (bo1 (prgV g))))] (Wk.keep [] rfl rfl ⟨ks rfl (.c (Cto.nilE 3 (by first | (rw [hN]; rfl) | (rw [hN, hEz]; rfl)))), ks rfl (.dt (by first | exact congrArg (fun b => V.o (bo1 b)) hO.symm | exact congrArg (fun b => V.o (bo1 b)) (by rw [hO, hEz, decide_eq_decide]; simp) | exact congrArg (fun b => V.o (bo1 b)) (by rw [hO, hEz, decide_eq_decide]; omega))), trivial⟩) rfl ?_ nobox
           rfl
          ·try simp only [zs1, zs2, zs3, zs4, zs5, zs6, zs7] at h60
           refine ACode.skip ?_
           refine ks_n ?_
           refine ACode.seq ?_
           refine ACode.region ?_
           refine .cons (.fP 1 0 false rfl rfl) ?_
           refine .cons (.l1 1 rfl rfl) ?_
           refine .cons (.ln 91 9 152 rfl rfl rfl) ?_
           refine .cons (.mv rfl rfl) ?_
           refine .nil ?_
           refine ks_n ?_
           refine ACode.block ?_
           refine .loopK (fun m σ => (∃ j : Nat, m = q.2.length - j ∧ (j = 0) ∧ σ = [(.t 1, .v (.o (.c (.ptr (rG g))))), (.t 4, .v (.o (.c (.d (.val (.slice none 0 0)))))), (.t 5, .v (.o (nat1 (k : Nat)))), (.t 6, .v (.o (.c (.ptr (rP q))))), (.t 10, .v (.o (vD (dIs p)))), (.t 24, .v (.o (vD (dPts g.2)))), (.t 25, .v (.o (nat1 (g.2.length : Nat)))), (.t 26, .v (.o (nat1 (k : Nat)))), (.t 52, .v (.o (vD (dPs (npR q.1))))), (.t 53, .v (.o (nat1 ((npR q.1).length : Nat)))), (.t 54, .v (.o (nat1 (0 : Nat)))), (.t 62, .v (.o (vD (dMs q.2)))), (.t 63, .v (.o (nat1 (q.2.length : Nat)))), (.t 64, .v (.o (nat1 (j : Nat))))]) ∨ (∃ (j : Nat) (o3 : List Ins), m = q.2.length - j ∧ (j ≤ q.2.length) ∧ (∀ t s, t < j → q.2[t]? = some s → stmG g.1 s p = true) ∧ ([] ++ rowI k j p = o3) ∧ (o3.length ≤ 480 * k + 4 * 0 + j) ∧ σ = [(.t 1, .v (.o (.c (.ptr (rG g))))), (.t 4, .v (.o (.c (.own 130 3 (o3.length))))), (.t 5, .v (.o (nat1 (k : Nat)))), (.t 6, .v (.o (.c (.ptr (rP q))))), (.t 10, .v (.o (vD (dIs p)))), (.t 24, .v (.o (vD (dPts g.2)))), (.t 25, .v (.o (nat1 (g.2.length : Nat)))), (.t 26, .v (.o (nat1 (k : Nat)))), (.t 52, .v (.o (vD (dPs (npR q.1))))), (.t 53, .v (.o (nat1 ((npR q.1).length : Nat)))), (.t 54, .v (.o (nat1 (0 : Nat)))), (.t 62, .v (.o (vD (dMs q.2)))), (.t 63, .v (.o (nat1 (q.2.length : Nat)))), (.t 64, .v (.o (nat1 (j : Nat)))), (.b 130, .b 94 3 (dR (o3.map rN))), (.u 130, .u)])) [] (.inl ⟨0, rfl, rfl, rfl⟩) ⟨ks rfl .dt, ks rfl .dt, ks rfl .dt, ks rfl .dt, ks rfl .dt, ks rfl .dt, ks rfl .dt, ks rfl .dt, ks rfl .dt, ks rfl .dt, ks rfl .dt, ks rfl .dt, ks rfl .dt, ks rfl .dt, trivial⟩ ?_
           rintro m σ (⟨j, hm0, rfl, rfl⟩ | ⟨j, o3, hm0, hj, hH, hEp, ho3, rfl⟩)
           ·skip
            refine ACode.seq ?_
            refine ACode.region ?_
            refine .cons (.ls rfl rfl rfl) ?_
            refine .nil ?_
            refine ks_n ?_
            refine ACode.seq ?_
            refine .cD rfl (fun h65 => ?_) (fun h65 => ?_)
            ·skip
             obtain ⟨s, hs1⟩ : ∃ x_, q.2[0]? = some x_ := ⟨_, List.getElem?_eq_getElem (by omega)⟩
             have hsm := List.mem_of_getElem? hs1
             have hsv := hv3 s hsm
             refine ACode.skip ?_
             refine ks_n ?_
             refine ACode.seq ?_
             refine ACode.block ?_
             refine ACode.seq ?_
             refine ACode.region ?_
             refine .cons (.mv rfl rfl) ?_
             refine .cons (.xL 91 9 152 rfl rfl rfl rfl rfl) ?_
             refine .cons (.lN 9 rfl rfl rfl) ?_
             refine .cons (.al 112 [.string ByteArray.empty, .slice none 0 0, .int .i64 0, .int .i64 0, .slice none 0 0, .int .i64 0, .string ByteArray.empty, .slice none 0 0, .slice none 0 0] rfl rfl rfl) ?_
             refine .cons (.asg rfl rfl) ?_
             refine .cons (.sT 9 true rfl rfl rfl rfl rfl rfl rfl) ?_
             refine .nil ?_
             refine ks_n ?_
             refine ACode.seq ?_
             refine ACode.seq ?_
             refine ACode.region ?_
             refine .cons (.lN 2 rfl rfl rfl) ?_
             refine .cons (.bN 9 rfl rfl rfl rfl rfl rfl) ?_
             refine .cons (.mv rfl rfl) ?_
             refine .cons (.cP [.tmp 69, .tmp 70, .tmp 71] rfl rfl rfl rfl (sok_fn hA hsv hpt.1 hpt.2) rfl) ?_
             refine .cons (.nt rfl rfl) ?_
             refine .nil ?_
             refine ks_n ?_
             refine ACode.condT rfl (fun h73 => ?_) (fun h73 => ?_)
             ·try simp only [zs1, zs2, zs3, zs4, zs5, zs6, zs7] at h73
              refine ACode.seq ?_
              obtain ⟨hO, hN⟩ := prgV_f (g := g) (prgS_f3 hqm (prtV_f5 hpm hsm (by assumption)))
              refine ACode.region ?_
              refine .cons (.asg rfl rfl) ?_
              refine .cons (.asg rfl rfl) ?_
              refine .nil ?_
              refine ks_n ?_
              refine ACode.ret ?_
              refine ks_r ?_
              refine kb_r ?_
              refine ks_r ?_
              refine kl_r ?_
              refine kb_r ?_
              refine kb_r ?_
              refine ks_r ?_
              refine kl_r ?_
              refine kb_r ?_
              refine kb_r ?_
              refine ks_r ?_
              refine kl_r ?_
              refine kb_r ?_
              refine ks_r ?_
              refine kf_wret [(.t 2, .v (.o (vD (dNs (insV g))))), (.t 3, .v (.o (bo1 (prgV g))))] (Wk.keep [] rfl rfl ⟨ks rfl (.c (Cto.nilE 3 (by first | (rw [hN]; rfl) | (rw [hN, hEz]; rfl)))), ks rfl (.dt (by first | exact congrArg (fun b => V.o (bo1 b)) hO.symm | exact congrArg (fun b => V.o (bo1 b)) (by rw [hO, hEz, decide_eq_decide]; simp) | exact congrArg (fun b => V.o (bo1 b)) (by rw [hO, hEz, decide_eq_decide]; omega))), trivial⟩) rfl ?_ nobox
              rfl
             ·try simp only [zs1, zs2, zs3, zs4, zs5, zs6, zs7] at h73
              have hST : stmG g.1 s p = true := by assumption
              refine ACode.skip ?_
              refine ks_n ?_
              refine ACode.region ?_
              refine .cons (.mv rfl rfl) ?_
              refine .cons (.mv rfl rfl) ?_
              refine .cons (.mv rfl rfl) ?_
              refine .cons (.mv rfl rfl) ?_
              refine .cons (.cP [.tmp 77] rfl rfl rfl rfl (cloneInts_fn p (by omega)) rfl) ?_
              refine .cons (.bu [(0, .tmp 75), (1, .tmp 76), (2, .tmp 78)] [(0, 1), (1, 1), (2, 1)] [.int .i64 0, .int .i64 0, .slice none 0 0] rfl rfl rfl rfl rfl) ?_
              refine .cons (.li 94 2 0 [.tmp 79] rfl rfl rfl rfl rfl rfl) ?_
              refine .cons (St1.appN (k' := 181) (e := 94) (sz := 2) (by' := 40) rfl rfl rfl rfl rfl (by kernel_rfl) rfl rfl rfl (by simp) (by first | (simp [dR]; done) | (simp [dR]; omega)) rfl rfl) ?_
              refine .cons (.asg rfl rfl) ?_
              refine .nil ?_
              refine kb_n ?_
              refine ks_n ?_
              refine ACode.region ?_
              refine .cons (.pl rfl rfl rfl) ?_
              refine .cons (.mv rfl rfl) ?_
              refine .nil ?_
              refine kl_k [(130, 181)] (.inr ⟨1, [((k : Int), ((0 : Nat) : Int), p)], rfl, by omega, fun t s' ht hs' => (Nat.lt_succ_iff_lt_or_eq.1 ht).elim (fun h => absurd h (by omega)) (fun h => by subst h; rw [hs1] at hs'; cases hs'; exact hST), rfl, by simp, rfl⟩) ⟨ks rfl .dt, ks rfl (.c .ow), ks rfl .dt, ks rfl .dt, ks rfl .dt, ks rfl .dt, ks rfl .dt, ks rfl .dt, ks rfl .dt, ks rfl .dt, ks rfl .dt, ks rfl .dt, ks rfl .dt, ks rfl .dt, kb 181 rfl (.dt rfl (by first | rfl | (simp [dR, rN, dI]; done))), trivial⟩
            ·skip
             exfalso; omega
           ·skip
            refine ACode.seq ?_
            refine ACode.region ?_
            refine .cons (.ls rfl rfl rfl) ?_
            refine .nil ?_
            refine ks_n ?_
            refine ACode.seq ?_
            refine .cD rfl (fun h65 => ?_) (fun h65 => ?_)
            ·skip
             obtain ⟨s, hs1⟩ : ∃ x_, q.2[j]? = some x_ := ⟨_, List.getElem?_eq_getElem (by omega)⟩
             have hsm := List.mem_of_getElem? hs1
             have hsv := hv3 s hsm
             refine ACode.skip ?_
             refine ks_n ?_
             refine ACode.seq ?_
             refine ACode.block ?_
             refine ACode.seq ?_
             refine ACode.region ?_
             refine .cons (.mv rfl rfl) ?_
             refine .cons (.xL 91 9 152 rfl rfl rfl rfl rfl) ?_
             refine .cons (.lN 9 rfl rfl rfl) ?_
             refine .cons (.al 112 [.string ByteArray.empty, .slice none 0 0, .int .i64 0, .int .i64 0, .slice none 0 0, .int .i64 0, .string ByteArray.empty, .slice none 0 0, .slice none 0 0] rfl rfl rfl) ?_
             refine .cons (.asg rfl rfl) ?_
             refine .cons (.sT 9 true rfl rfl rfl rfl rfl rfl rfl) ?_
             refine .nil ?_
             refine ks_n ?_
             refine ACode.seq ?_
             refine ACode.seq ?_
             refine ACode.region ?_
             refine .cons (.lN 2 rfl rfl rfl) ?_
             refine .cons (.bN 9 rfl rfl rfl rfl rfl rfl) ?_
             refine .cons (.mv rfl rfl) ?_
             refine .cons (.cP [.tmp 69, .tmp 70, .tmp 71] rfl rfl rfl rfl (sok_fn hA hsv hpt.1 hpt.2) rfl) ?_
             refine .cons (.nt rfl rfl) ?_
             refine .nil ?_
             refine ks_n ?_
             refine ACode.condT rfl (fun h73 => ?_) (fun h73 => ?_)
             ·try simp only [zs1, zs2, zs3, zs4, zs5, zs6, zs7] at h73
              refine ACode.seq ?_
              obtain ⟨hO, hN⟩ := prgV_f (g := g) (prgS_f3 hqm (prtV_f5 hpm hsm (by assumption)))
              refine ACode.region ?_
              refine .cons (.asg rfl rfl) ?_
              refine .cons (.asg rfl rfl) ?_
              refine .nil ?_
              refine ks_n ?_
              refine ACode.ret ?_
              refine ks_r ?_
              refine kb_r ?_
              refine ks_r ?_
              refine kl_r ?_
              refine kb_r ?_
              refine kb_r ?_
              refine ks_r ?_
              refine kl_r ?_
              refine kb_r ?_
              refine kb_r ?_
              refine ks_r ?_
              refine kl_r ?_
              refine kb_r ?_
              refine ks_r ?_
              refine kf_wret [(.t 2, .v (.o (vD (dNs (insV g))))), (.t 3, .v (.o (bo1 (prgV g))))] (Wk.keep [] rfl rfl ⟨ks rfl (.c (Cto.nilE 3 (by first | (rw [hN]; rfl) | (rw [hN, hEz]; rfl)))), ks rfl (.dt (by first | exact congrArg (fun b => V.o (bo1 b)) hO.symm | exact congrArg (fun b => V.o (bo1 b)) (by rw [hO, hEz, decide_eq_decide]; simp) | exact congrArg (fun b => V.o (bo1 b)) (by rw [hO, hEz, decide_eq_decide]; omega))), trivial⟩) rfl ?_ nobox
              rfl
             ·try simp only [zs1, zs2, zs3, zs4, zs5, zs6, zs7] at h73
              have hST : stmG g.1 s p = true := by assumption
              refine ACode.skip ?_
              refine ks_n ?_
              refine ACode.region ?_
              refine .cons (.mv rfl rfl) ?_
              refine .cons (.mv rfl rfl) ?_
              refine .cons (.mv rfl rfl) ?_
              refine .cons (.mv rfl rfl) ?_
              refine .cons (.cP [.tmp 77] rfl rfl rfl rfl (cloneInts_fn p (by omega)) rfl) ?_
              refine .cons (.bu [(0, .tmp 75), (1, .tmp 76), (2, .tmp 78)] [(0, 1), (1, 1), (2, 1)] [.int .i64 0, .int .i64 0, .slice none 0 0] rfl rfl rfl rfl rfl) ?_
              refine .cons (.li 94 2 0 [.tmp 79] rfl rfl rfl rfl rfl rfl) ?_
              refine .cons (St1.appB (k' := 181) (e := 94) (sz := 2) (by' := 40) rfl rfl rfl rfl rfl (by kernel_rfl) rfl rfl rfl rfl (by first | (simp [dR]; done) | (simp [dR]; omega)) (by first | (simp [dR]; done) | (simp [dR]; omega)) rfl rfl rfl) ?_
              refine .cons (.asg rfl rfl) ?_
              refine .nil ?_
              refine kb_n ?_
              refine ks_n ?_
              refine ACode.region ?_
              refine .cons (.pl rfl rfl rfl) ?_
              refine .cons (.mv rfl rfl) ?_
              refine .nil ?_
              refine kl_k [(130, 181)] (.inr ⟨j + 1, o3 ++ [((k : Int), ((j : Nat) : Int), p)], rfl, by omega, fun t s' ht hs' => (Nat.lt_succ_iff_lt_or_eq.1 ht).elim (fun h => hH t s' h hs') (fun h => by subst h; rw [hs1] at hs'; cases hs'; exact hST), by rw [rowI_snoc, ← List.append_assoc, hEp], by rw [List.length_append, List.length_singleton]; omega, rfl⟩) ⟨ks rfl .dt, ks rfl (.c .ow), ks rfl .dt, ks rfl .dt, ks rfl .dt, ks rfl .dt, ks rfl .dt, ks rfl .dt, ks rfl .dt, ks rfl .dt, ks rfl .dt, ks rfl .dt, ks rfl .dt, ks rfl .dt, kb 181 rfl (.dt rfl (by first | rfl | (simp [dR, rN, dI]; done))), trivial⟩
            ·skip
             obtain rfl : j = q.2.length := by omega
             have hPT : ptG' g.1 q.2 p = true := by rw [ptG', show isPt p = true by assumption, Bool.true_and]; exact all_of fun j s h => hH j s (List.getElem?_eq_some_iff.1 h).1 h
             refine ACode.exit ?_
             refine ks_e ?_
             refine kl_e ?_
             refine kb_hit ?_
             refine kb_n ?_
             refine ks_n ?_
             refine ACode.region ?_
             refine .cons (.pl rfl rfl rfl) ?_
             refine .cons (.mv rfl rfl) ?_
             refine .nil ?_
             refine kl_k [(120, 130)] (.inr ⟨1, o3, rfl, by omega, fun j p' hj hp' => (Nat.lt_succ_iff_lt_or_eq.1 hj).elim (fun h => absurd h (by omega)) (fun h => by subst h; rw [hp1] at hp'; cases hp'; exact hPT), by rw [insT_take hp1]; exact hEp, by omega, rfl⟩) ⟨ks rfl .dt, ks rfl (.c .ow), ks rfl .dt, ks rfl .dt, ks rfl .dt, ks rfl .dt, ks rfl .dt, ks rfl .dt, ks rfl .dt, ks rfl .dt, kb 130 rfl (.dt rfl (by first | rfl | (simp [dR, rN, dI]; done))), trivial⟩
         ·skip
          have hn0 : npR q.1 = [] := List.eq_nil_of_length_eq_zero (by omega)
          have hPV : prtV g.1 q = true := by rw [prtV_eq hv1 hv2 (List.all_eq_true.2 hv3), hn0]; rfl
          refine ACode.exit ?_
          refine ks_e ?_
          refine kl_e ?_
          refine kb_hit ?_
          refine kb_n ?_
          refine ks_n ?_
          refine ACode.region ?_
          refine .cons (.pl rfl rfl rfl) ?_
          refine .cons (.mv rfl rfl) ?_
          refine .nil ?_
          refine kl_k [] (.inl ⟨k + 1, rfl, by omega, fun j q' hj hq' => (Nat.lt_succ_iff_lt_or_eq.1 hj).elim (fun h => hF j q' h hq') (fun h => by subst h; rw [hq1] at hq'; cases hq'; exact hPV), by rw [insG_take hq1, hE, insP, hn0]; rfl, rfl⟩) ⟨ks rfl .dt, ks rfl .dt, ks rfl .dt, ks rfl .dt, ks rfl .dt, trivial⟩
        ·skip
         refine ACode.seq ?_
         refine ACode.region ?_
         refine .cons (.ls rfl rfl rfl) ?_
         refine .nil ?_
         refine ks_n ?_
         refine ACode.seq ?_
         refine .cD rfl (fun h55 => ?_) (fun h55 => ?_)
         ·skip
          obtain ⟨p, hp1⟩ : ∃ x_, (npR q.1)[i]? = some x_ := ⟨_, List.getElem?_eq_getElem (by omega)⟩
          have hpm := List.mem_of_getElem? hp1
          have hpt := npR_pt hpm
          have hnl := npR_len q.1
          refine ACode.skip ?_
          refine ks_n ?_
          refine ACode.seq ?_
          refine ACode.block ?_
          refine ACode.seq ?_
          refine ACode.region ?_
          refine .cons (.xL 27 1 24 rfl rfl rfl rfl rfl) ?_
          refine .cons (.l1 1 rfl rfl) ?_
          refine .cons (.asg rfl rfl) ?_
          refine .nil ?_
          refine ks_n ?_
          refine ACode.seq ?_
          refine ACode.seq ?_
          refine ACode.region ?_
          refine .cons (.mv rfl rfl) ?_
          refine .cons (.cP [.tmp 58] rfl rfl rfl rfl (isPoint_fn _) rfl) ?_
          refine .cons (.nt rfl rfl) ?_
          refine .nil ?_
          refine ks_n ?_
          refine ACode.condT rfl (fun h60 => ?_) (fun h60 => ?_)
          ·try simp only [zs1, zs2, zs3, zs4, zs5, zs6, zs7] at h60
           refine ACode.seq ?_
           obtain ⟨hO, hN⟩ := prgV_f (g := g) (prgS_f3 hqm (prtV_f4 hpm (by assumption)))
           refine ACode.region ?_
           refine .cons (.asg rfl rfl) ?_
           refine .cons (.asg rfl rfl) ?_
           refine .nil ?_
           refine ks_n ?_
           refine ACode.ret ?_
           refine ks_r ?_
           refine kb_r ?_
           refine ks_r ?_
           refine kl_r ?_
           refine kb_r ?_
           refine kb_r ?_
           refine ks_r ?_
           refine kl_r ?_
           refine kb_r ?_
           refine ks_r ?_
           refine kf_wret [(.t 2, .v (.o (vD (dNs (insV g))))), (.t 3, .v (.o (bo1 (prgV g))))] (Wk.keep [] rfl rfl ⟨ks rfl (.c (Cto.nilE 3 (by first | (rw [hN]; rfl) | (rw [hN, hEz]; rfl)))), ks rfl (.dt (by first | exact congrArg (fun b => V.o (bo1 b)) hO.symm | exact congrArg (fun b => V.o (bo1 b)) (by rw [hO, hEz, decide_eq_decide]; simp) | exact congrArg (fun b => V.o (bo1 b)) (by rw [hO, hEz, decide_eq_decide]; omega))), trivial⟩) rfl ?_ nobox
           rfl
          ·try simp only [zs1, zs2, zs3, zs4, zs5, zs6, zs7] at h60
           refine ACode.skip ?_
           refine ks_n ?_
           refine ACode.seq ?_
           refine ACode.region ?_
           refine .cons (.fP 1 0 false rfl rfl) ?_
           refine .cons (.l1 1 rfl rfl) ?_
           refine .cons (.ln 91 9 152 rfl rfl rfl) ?_
           refine .cons (.mv rfl rfl) ?_
           refine .nil ?_
           refine ks_n ?_
           refine ACode.block ?_
           refine .loopK (fun m σ => (∃ (j : Nat) (o3 : List Ins), m = q.2.length - j ∧ (j ≤ q.2.length) ∧ (∀ t s, t < j → q.2[t]? = some s → stmG g.1 s p = true) ∧ (o2 ++ rowI k j p = o3) ∧ (o3.length ≤ 480 * k + 4 * i + j) ∧ σ = [(.t 1, .v (.o (.c (.ptr (rG g))))), (.t 4, .v (.o (.c (.own 130 3 (o3.length))))), (.t 5, .v (.o (nat1 (k : Nat)))), (.t 6, .v (.o (.c (.ptr (rP q))))), (.t 10, .v (.o (vD (dIs p)))), (.t 24, .v (.o (vD (dPts g.2)))), (.t 25, .v (.o (nat1 (g.2.length : Nat)))), (.t 26, .v (.o (nat1 (k : Nat)))), (.t 52, .v (.o (vD (dPs (npR q.1))))), (.t 53, .v (.o (nat1 ((npR q.1).length : Nat)))), (.t 54, .v (.o (nat1 (i : Nat)))), (.t 62, .v (.o (vD (dMs q.2)))), (.t 63, .v (.o (nat1 (q.2.length : Nat)))), (.t 64, .v (.o (nat1 (j : Nat)))), (.b 130, .b 94 3 (dR (o3.map rN))), (.u 130, .u)])) [(130, 120)] ⟨0, o2, rfl, by omega, fun t s ht _ => absurd ht (by omega), by simp [rowI_zero], by omega, rfl⟩ ⟨ks rfl .dt, ks rfl (.c .ow), ks rfl .dt, ks rfl .dt, ks rfl .dt, ks rfl .dt, ks rfl .dt, ks rfl .dt, ks rfl .dt, ks rfl .dt, ks rfl .dt, ks rfl .dt, ks rfl .dt, ks rfl .dt, kb 120 rfl (.dt rfl (by first | rfl | (simp [dR, rN, dI]; done))), trivial⟩ ?_
           rintro m σ ⟨j, o3, hm0, hj, hH, hEp, ho3, rfl⟩
           refine ACode.seq ?_
           refine ACode.region ?_
           refine .cons (.ls rfl rfl rfl) ?_
           refine .nil ?_
           refine ks_n ?_
           refine ACode.seq ?_
           refine .cD rfl (fun h65 => ?_) (fun h65 => ?_)
           ·skip
            obtain ⟨s, hs1⟩ : ∃ x_, q.2[j]? = some x_ := ⟨_, List.getElem?_eq_getElem (by omega)⟩
            have hsm := List.mem_of_getElem? hs1
            have hsv := hv3 s hsm
            refine ACode.skip ?_
            refine ks_n ?_
            refine ACode.seq ?_
            refine ACode.block ?_
            refine ACode.seq ?_
            refine ACode.region ?_
            refine .cons (.mv rfl rfl) ?_
            refine .cons (.xL 91 9 152 rfl rfl rfl rfl rfl) ?_
            refine .cons (.lN 9 rfl rfl rfl) ?_
            refine .cons (.al 112 [.string ByteArray.empty, .slice none 0 0, .int .i64 0, .int .i64 0, .slice none 0 0, .int .i64 0, .string ByteArray.empty, .slice none 0 0, .slice none 0 0] rfl rfl rfl) ?_
            refine .cons (.asg rfl rfl) ?_
            refine .cons (.sT 9 true rfl rfl rfl rfl rfl rfl rfl) ?_
            refine .nil ?_
            refine ks_n ?_
            refine ACode.seq ?_
            refine ACode.seq ?_
            refine ACode.region ?_
            refine .cons (.lN 2 rfl rfl rfl) ?_
            refine .cons (.bN 9 rfl rfl rfl rfl rfl rfl) ?_
            refine .cons (.mv rfl rfl) ?_
            refine .cons (.cP [.tmp 69, .tmp 70, .tmp 71] rfl rfl rfl rfl (sok_fn hA hsv hpt.1 hpt.2) rfl) ?_
            refine .cons (.nt rfl rfl) ?_
            refine .nil ?_
            refine ks_n ?_
            refine ACode.condT rfl (fun h73 => ?_) (fun h73 => ?_)
            ·try simp only [zs1, zs2, zs3, zs4, zs5, zs6, zs7] at h73
             refine ACode.seq ?_
             obtain ⟨hO, hN⟩ := prgV_f (g := g) (prgS_f3 hqm (prtV_f5 hpm hsm (by assumption)))
             refine ACode.region ?_
             refine .cons (.asg rfl rfl) ?_
             refine .cons (.asg rfl rfl) ?_
             refine .nil ?_
             refine ks_n ?_
             refine ACode.ret ?_
             refine ks_r ?_
             refine kb_r ?_
             refine ks_r ?_
             refine kl_r ?_
             refine kb_r ?_
             refine kb_r ?_
             refine ks_r ?_
             refine kl_r ?_
             refine kb_r ?_
             refine kb_r ?_
             refine ks_r ?_
             refine kl_r ?_
             refine kb_r ?_
             refine ks_r ?_
             refine kf_wret [(.t 2, .v (.o (vD (dNs (insV g))))), (.t 3, .v (.o (bo1 (prgV g))))] (Wk.keep [] rfl rfl ⟨ks rfl (.c (Cto.nilE 3 (by first | (rw [hN]; rfl) | (rw [hN, hEz]; rfl)))), ks rfl (.dt (by first | exact congrArg (fun b => V.o (bo1 b)) hO.symm | exact congrArg (fun b => V.o (bo1 b)) (by rw [hO, hEz, decide_eq_decide]; simp) | exact congrArg (fun b => V.o (bo1 b)) (by rw [hO, hEz, decide_eq_decide]; omega))), trivial⟩) rfl ?_ nobox
             rfl
            ·try simp only [zs1, zs2, zs3, zs4, zs5, zs6, zs7] at h73
             have hST : stmG g.1 s p = true := by assumption
             refine ACode.skip ?_
             refine ks_n ?_
             refine ACode.region ?_
             refine .cons (.mv rfl rfl) ?_
             refine .cons (.mv rfl rfl) ?_
             refine .cons (.mv rfl rfl) ?_
             refine .cons (.mv rfl rfl) ?_
             refine .cons (.cP [.tmp 77] rfl rfl rfl rfl (cloneInts_fn p (by omega)) rfl) ?_
             refine .cons (.bu [(0, .tmp 75), (1, .tmp 76), (2, .tmp 78)] [(0, 1), (1, 1), (2, 1)] [.int .i64 0, .int .i64 0, .slice none 0 0] rfl rfl rfl rfl rfl) ?_
             refine .cons (.li 94 2 0 [.tmp 79] rfl rfl rfl rfl rfl rfl) ?_
             refine .cons (St1.appB (k' := 181) (e := 94) (sz := 2) (by' := 40) rfl rfl rfl rfl rfl (by kernel_rfl) rfl rfl rfl rfl (by first | (simp [dR]; done) | (simp [dR]; omega)) (by first | (simp [dR]; done) | (simp [dR]; omega)) rfl rfl rfl) ?_
             refine .cons (.asg rfl rfl) ?_
             refine .nil ?_
             refine kb_n ?_
             refine ks_n ?_
             refine ACode.region ?_
             refine .cons (.pl rfl rfl rfl) ?_
             refine .cons (.mv rfl rfl) ?_
             refine .nil ?_
             refine kl_k [(130, 181)] ⟨j + 1, o3 ++ [((k : Int), ((j : Nat) : Int), p)], rfl, by omega, fun t s' ht hs' => (Nat.lt_succ_iff_lt_or_eq.1 ht).elim (fun h => hH t s' h hs') (fun h => by subst h; rw [hs1] at hs'; cases hs'; exact hST), by rw [rowI_snoc, ← List.append_assoc, hEp], by rw [List.length_append, List.length_singleton]; omega, rfl⟩ ⟨ks rfl .dt, ks rfl (.c .ow), ks rfl .dt, ks rfl .dt, ks rfl .dt, ks rfl .dt, ks rfl .dt, ks rfl .dt, ks rfl .dt, ks rfl .dt, ks rfl .dt, ks rfl .dt, ks rfl .dt, ks rfl .dt, kb 181 rfl (.dt rfl (by first | rfl | (simp [dR, rN, dI]; done))), trivial⟩
           ·skip
            obtain rfl : j = q.2.length := by omega
            have hPT : ptG' g.1 q.2 p = true := by rw [ptG', show isPt p = true by assumption, Bool.true_and]; exact all_of fun j s h => hH j s (List.getElem?_eq_some_iff.1 h).1 h
            refine ACode.exit ?_
            refine ks_e ?_
            refine kl_e ?_
            refine kb_hit ?_
            refine kb_n ?_
            refine ks_n ?_
            refine ACode.region ?_
            refine .cons (.pl rfl rfl rfl) ?_
            refine .cons (.mv rfl rfl) ?_
            refine .nil ?_
            refine kl_k [(120, 130)] (.inr ⟨i + 1, o3, rfl, by omega, fun j p' hj hp' => (Nat.lt_succ_iff_lt_or_eq.1 hj).elim (fun h => hG j p' h hp') (fun h => by subst h; rw [hp1] at hp'; cases hp'; exact hPT), by rw [insT_take hp1, ← List.append_assoc, hEo]; exact hEp, by omega, rfl⟩) ⟨ks rfl .dt, ks rfl (.c .ow), ks rfl .dt, ks rfl .dt, ks rfl .dt, ks rfl .dt, ks rfl .dt, ks rfl .dt, ks rfl .dt, ks rfl .dt, kb 130 rfl (.dt rfl (by first | rfl | (simp [dR, rN, dI]; done))), trivial⟩
         ·skip
          obtain rfl : i = (npR q.1).length := by omega
          rw [List.take_length] at hEo
          have hPV : prtV g.1 q = true := by rw [prtV_eq hv1 hv2 (List.all_eq_true.2 hv3)]; exact all_of fun j p h => hG j p (List.getElem?_eq_some_iff.1 h).1 h
          have hnl := npR_len q.1
          refine ACode.exit ?_
          refine ks_e ?_
          refine kl_e ?_
          refine kb_hit ?_
          refine kb_n ?_
          refine ks_n ?_
          refine ACode.region ?_
          refine .cons (.pl rfl rfl rfl) ?_
          refine .cons (.mv rfl rfl) ?_
          refine .nil ?_
          refine kl_k [(110, 120)] (.inr ⟨k + 1, o2, rfl, by omega, fun j q' hj hq' => (Nat.lt_succ_iff_lt_or_eq.1 hj).elim (fun h => hF j q' h hq') (fun h => by subst h; rw [hq1] at hq'; cases hq'; exact hPV), by rw [insG_take hq1, hE]; exact hEo, by omega, rfl⟩) ⟨ks rfl .dt, ks rfl (.c .ow), ks rfl .dt, ks rfl .dt, ks rfl .dt, kb 120 rfl (.dt rfl (by first | rfl | (simp [dR, rN, dI]; done))), trivial⟩
    ·skip
     obtain rfl : k = g.2.length := by omega
     rw [List.take_length] at hE
     have hEz := hE
     obtain ⟨hO, hN⟩ := prgV_t (prgS_eq hA h4 hF)
     refine ACode.exit ?_
     refine ks_e ?_
     refine kl_e ?_
     refine kb_hit ?_
     refine ks_n ?_
     refine ACode.seq ?_
     refine ACode.region ?_
     refine .cons (.mv rfl rfl) ?_
     refine .cons (.mv rfl rfl) ?_
     refine .cons (St1.lenN (e := 94) (m := 3) (by' := 40) rfl rfl rfl rfl rfl (by kernel_rfl) rfl) ?_
     refine .cons (.le rfl rfl rfl) ?_
     refine .cons (.asg rfl rfl) ?_
     refine .cons (.asg rfl rfl) ?_
     refine .nil ?_
     refine ks_n ?_
     refine ACode.ret ?_
     refine kf_wret [(.t 2, .v (.o (vD (dNs (insV g))))), (.t 3, .v (.o (bo1 (prgV g))))] (Wk.keep [] rfl rfl ⟨ks rfl (.c (Cto.nilE 3 (by first | (rw [hN]; rfl) | (rw [hN, hEz]; rfl)))), ks rfl (.dt (by first | exact congrArg (fun b => V.o (bo1 b)) hO.symm | exact congrArg (fun b => V.o (bo1 b)) (by rw [hO, hEz, decide_eq_decide]; simp) | exact congrArg (fun b => V.o (bo1 b)) (by rw [hO, hEz, decide_eq_decide]; omega))), trivial⟩) rfl ?_ nobox
     rfl
   ·skip
    refine ACode.seq ?_
    refine ACode.region ?_
    refine .cons (.ls rfl rfl rfl) ?_
    refine .nil ?_
    refine ks_n ?_
    refine ACode.seq ?_
    refine .cD rfl (fun h27 => ?_) (fun h27 => ?_)
    ·skip
     obtain ⟨q, hq1⟩ : ∃ x_, g.2[k]? = some x_ := ⟨_, List.getElem?_eq_getElem (by omega)⟩
     have hqm := List.mem_of_getElem? hq1
     have hqs := szO_mem (f := szPt) hqm
     have hqe : szPt q = szLs q.1 + szO szS q.2 := rfl
     have hbg := sz_bg (ns := q.1) (by omega)
     have hql := szO_len (f := szS) q.2
     refine ACode.skip ?_
     refine ks_n ?_
     refine ACode.seq ?_
     refine ACode.block ?_
     refine ACode.seq ?_
     refine ACode.region ?_
     refine .cons (.mv rfl rfl) ?_
     refine .cons (.xL 119 2 48 rfl rfl rfl rfl rfl) ?_
     refine .cons (.lN 2 rfl rfl rfl) ?_
     refine .cons (.al 106 [.slice none 0 0, .slice none 0 0] rfl rfl rfl) ?_
     refine .cons (.asg rfl rfl) ?_
     refine .cons (.sT 2 true rfl rfl rfl rfl rfl rfl rfl) ?_
     refine .nil ?_
     refine ks_n ?_
     refine ACode.seq ?_
     refine .keep [(.t 1, .v (.o (.c (.ptr (rG g))))), (.t 4, .v (.o (.c (.own 770 3 (o.length))))), (.t 5, .v (.o (nat1 (k : Nat)))), (.t 6, .v (.o (.c (.ptr (rP q))))), (.t 24, .v (.o (vD (dPts g.2)))), (.t 25, .v (.o (nat1 (g.2.length : Nat)))), (.t 26, .v (.o (nat1 (k : Nat)))), (.b 770, .b 94 3 (dR (o.map rN))), (.u 770, .u)] [(770, 110)] ⟨ks rfl .dt, ks rfl (.c .ow), ks rfl .dt, ks rfl (.c (.frzP _ _ _ _ _ _ _ _ rfl (show _ = dR [rP q] from rfl) rfl rfl rfl)), ks rfl .dt, ks rfl .dt, ks rfl .dt, kb 110 rfl (.dt rfl (by first | rfl | (simp [dR, rN, dI]; done))), trivial⟩ ?_
     refine ACode.region ?_
     refine .cons (.fP 0 0 false rfl rfl) ?_
     refine .cons (.l1 1 rfl rfl) ?_
     refine .cons (.cP [.tmp 33] rfl rfl rfl rfl (implNestPts_B q.1 hbg) rfl) ?_
     refine .cons (.mv rfl rfl) ?_
     refine .cons (.ex rfl rfl rfl) ?_
     refine .cons (.ex rfl rfl rfl) ?_
     refine .cons (.asg rfl rfl) ?_
     refine .cons (.asg rfl rfl) ?_
     refine .nil ?_
     refine ks_n ?_
     refine ACode.seq ?_
     refine ACode.seq ?_
     refine ACode.region ?_
     refine .cons (.mv rfl rfl) ?_
     refine .cons (.nt rfl rfl) ?_
     refine .cons (.mv rfl rfl) ?_
     refine AOps.cases 39 _ rfl (fun g39 => ?_) (fun g39 => ?_)
     ·try simp only [zs1, zs2, zs3, zs4, zs5, zs6, zs7] at g39
      refine .cons (.gF rfl rfl rfl) ?_
      refine .cons (.gF rfl rfl rfl) ?_
      refine .cons (.gF rfl rfl rfl) ?_
      refine .cons (.gF rfl rfl rfl) ?_
      refine .cons (.gF rfl rfl rfl) ?_
      refine .cons (.pT rfl rfl rfl) ?_
      refine .cons (.mv rfl rfl) ?_
      refine .cons (.gF rfl rfl rfl) ?_
      refine .cons (.gF rfl rfl rfl) ?_
      refine .cons (.gF rfl rfl rfl) ?_
      refine .cons (.gF rfl rfl rfl) ?_
      refine .cons (.pT rfl rfl rfl) ?_
      refine .nil ?_
      refine ks_n ?_
      refine ACode.condT rfl (fun _ => ?_) (fun h => by first | (cases h; done) | (simp [*] at h; done) | (exfalso; simp_all; done))
      refine ACode.seq ?_
      have hbad : prtV g.1 q = false := by first | exact prtV_f1 (by assumption) | exact prtV_f2 (fun h => by simp_all [inB]; omega) | (obtain ⟨s, hs, hs2⟩ := List.any_eq_true.1 (by assumption); exact prtV_f3 hs (by simpa using hs2))
      obtain ⟨hO, hN⟩ := prgV_f (g := g) (prgS_f3 hqm hbad)
      refine ACode.region ?_
      refine .cons (.asg rfl rfl) ?_
      refine .cons (.asg rfl rfl) ?_
      refine .nil ?_
      refine ks_n ?_
      refine ACode.ret ?_
      refine ks_r ?_
      refine kb_r ?_
      refine ks_r ?_
      refine kl_r ?_
      refine kb_r ?_
      refine ks_r ?_
      refine kf_wret [(.t 2, .v (.o (vD (dNs (insV g))))), (.t 3, .v (.o (bo1 (prgV g))))] (Wk.keep [] rfl rfl ⟨ks rfl (.c (Cto.nilE 3 (by first | (rw [hN]; rfl) | (rw [hN, hEz]; rfl)))), ks rfl (.dt (by first | exact congrArg (fun b => V.o (bo1 b)) hO.symm | exact congrArg (fun b => V.o (bo1 b)) (by rw [hO, hEz, decide_eq_decide]; simp) | exact congrArg (fun b => V.o (bo1 b)) (by rw [hO, hEz, decide_eq_decide]; omega))), trivial⟩) rfl ?_ nobox
      rfl
     ·try simp only [zs1, zs2, zs3, zs4, zs5, zs6, zs7] at g39
      refine .cons (.gT rfl rfl rfl (.fP 1 0 false rfl rfl)) ?_
      refine .cons (.gT rfl rfl rfl (.l1 1 rfl rfl)) ?_
      refine .cons (.gT rfl rfl rfl (.ln 91 9 152 rfl rfl rfl)) ?_
      refine .cons (.gT rfl rfl rfl (.cP [.tmp 42, .const (.int .i64 (1)), .const (.int .i64 (4))] rfl rfl rfl rfl (within_fn _ 1 4) rfl)) ?_
      refine .cons (.gT rfl rfl rfl (.nt rfl rfl)) ?_
      refine .cons (.pF rfl rfl rfl) ?_
      refine .cons (.mv rfl rfl) ?_
      refine AOps.cases 46 _ rfl (fun g46 => ?_) (fun g46 => ?_)
      ·try simp only [zs1, zs2, zs3, zs4, zs5, zs6, zs7] at g46
       refine .cons (.gF rfl rfl rfl) ?_
       refine .cons (.gF rfl rfl rfl) ?_
       refine .cons (.gF rfl rfl rfl) ?_
       refine .cons (.gF rfl rfl rfl) ?_
       refine .cons (.pT rfl rfl rfl) ?_
       refine .nil ?_
       refine ks_n ?_
       refine ACode.condT rfl (fun _ => ?_) (fun h => by first | (cases h; done) | (simp [*] at h; done) | (exfalso; simp_all; done))
       refine ACode.seq ?_
       have hbad : prtV g.1 q = false := by first | exact prtV_f1 (by assumption) | exact prtV_f2 (fun h => by simp_all [inB]; omega) | (obtain ⟨s, hs, hs2⟩ := List.any_eq_true.1 (by assumption); exact prtV_f3 hs (by simpa using hs2))
       obtain ⟨hO, hN⟩ := prgV_f (g := g) (prgS_f3 hqm hbad)
       refine ACode.region ?_
       refine .cons (.asg rfl rfl) ?_
       refine .cons (.asg rfl rfl) ?_
       refine .nil ?_
       refine ks_n ?_
       refine ACode.ret ?_
       refine ks_r ?_
       refine kb_r ?_
       refine ks_r ?_
       refine kl_r ?_
       refine kb_r ?_
       refine ks_r ?_
       refine kf_wret [(.t 2, .v (.o (vD (dNs (insV g))))), (.t 3, .v (.o (bo1 (prgV g))))] (Wk.keep [] rfl rfl ⟨ks rfl (.c (Cto.nilE 3 (by first | (rw [hN]; rfl) | (rw [hN, hEz]; rfl)))), ks rfl (.dt (by first | exact congrArg (fun b => V.o (bo1 b)) hO.symm | exact congrArg (fun b => V.o (bo1 b)) (by rw [hO, hEz, decide_eq_decide]; simp) | exact congrArg (fun b => V.o (bo1 b)) (by rw [hO, hEz, decide_eq_decide]; omega))), trivial⟩) rfl ?_ nobox
       rfl
      ·try simp only [zs1, zs2, zs3, zs4, zs5, zs6, zs7] at g46
       refine .cons (.gT rfl rfl rfl (.fP 1 0 false rfl rfl)) ?_
       refine .cons (.gT rfl rfl rfl (.l1 1 rfl rfl)) ?_
       refine .cons (.gT rfl rfl rfl (St1.makeFunc (xs := [.tmp 6]) rfl rfl rfl rfl rfl rfl rfl)) ?_
       refine .cons (.gT rfl rfl rfl (.cP [.tmp 48, .tmp 49] rfl rfl rfl rfl (cnt_stm (f := 121) (cap := [rP q]) (by kernel_rfl) (fun s => !stmtV (q.1.length : Nat) s) q.2 (by omega) (fun s hs => ins1_fn (by have := szO_mem (f := szS) hs; omega))) rfl)) ?_
       refine .cons (.pF rfl rfl rfl) ?_
       refine .nil ?_
       refine ks_n ?_
       refine ACode.condT rfl (fun h51 => ?_) (fun h51 => ?_)
       ·try simp only [zs1, zs2, zs3, zs4, zs5, zs6, zs7] at h51
        refine ACode.seq ?_
        have hbad : prtV g.1 q = false := by first | exact prtV_f1 (by assumption) | exact prtV_f2 (fun h => by simp_all [inB]; omega) | (obtain ⟨s, hs, hs2⟩ := List.any_eq_true.1 (by assumption); exact prtV_f3 hs (by simpa using hs2))
        obtain ⟨hO, hN⟩ := prgV_f (g := g) (prgS_f3 hqm hbad)
        refine ACode.region ?_
        refine .cons (.asg rfl rfl) ?_
        refine .cons (.asg rfl rfl) ?_
        refine .nil ?_
        refine ks_n ?_
        refine ACode.ret ?_
        refine ks_r ?_
        refine kb_r ?_
        refine ks_r ?_
        refine kl_r ?_
        refine kb_r ?_
        refine ks_r ?_
        refine kf_wret [(.t 2, .v (.o (vD (dNs (insV g))))), (.t 3, .v (.o (bo1 (prgV g))))] (Wk.keep [] rfl rfl ⟨ks rfl (.c (Cto.nilE 3 (by first | (rw [hN]; rfl) | (rw [hN, hEz]; rfl)))), ks rfl (.dt (by first | exact congrArg (fun b => V.o (bo1 b)) hO.symm | exact congrArg (fun b => V.o (bo1 b)) (by rw [hO, hEz, decide_eq_decide]; simp) | exact congrArg (fun b => V.o (bo1 b)) (by rw [hO, hEz, decide_eq_decide]; omega))), trivial⟩) rfl ?_ nobox
        rfl
       ·try simp only [zs1, zs2, zs3, zs4, zs5, zs6, zs7] at h51
        have hv1 : okP q.1 = true := by first | assumption | simp_all
        have hv2 : 1 ≤ q.2.length ∧ q.2.length ≤ 4 := by simp_all [inB]; omega
        have hv3 : ∀ s ∈ q.2, stmtV (q.1.length : Nat) s = true := by simp_all
        refine ACode.skip ?_
        refine ks_n ?_
        refine ACode.seq ?_
        refine ACode.region ?_
        refine .cons (.mv rfl rfl) ?_
        refine .cons (.ln 27 1 24 rfl rfl rfl) ?_
        refine .cons (.mv rfl rfl) ?_
        refine .nil ?_
        refine ks_n ?_
        refine ACode.block ?_
        refine .loopK (fun m σ => (∃ (i : Nat) (o2 : List Ins), m = (npR q.1).length - i ∧ (i ≤ (npR q.1).length) ∧ (∀ j p, j < i → (npR q.1)[j]? = some p → ptG' g.1 q.2 p = true) ∧ (o ++ insT k q.2.length ((npR q.1).take i) = o2) ∧ (o2.length ≤ 480 * k + 4 * i) ∧ σ = [(.t 1, .v (.o (.c (.ptr (rG g))))), (.t 4, .v (.o (.c (.own 120 3 (o2.length))))), (.t 5, .v (.o (nat1 (k : Nat)))), (.t 6, .v (.o (.c (.ptr (rP q))))), (.t 24, .v (.o (vD (dPts g.2)))), (.t 25, .v (.o (nat1 (g.2.length : Nat)))), (.t 26, .v (.o (nat1 (k : Nat)))), (.t 52, .v (.o (vD (dPs (npR q.1))))), (.t 53, .v (.o (nat1 ((npR q.1).length : Nat)))), (.t 54, .v (.o (nat1 (i : Nat)))), (.b 120, .b 94 3 (dR (o2.map rN))), (.u 120, .u)])) [(120, 770)] ⟨0, o, rfl, by omega, fun j p hj _ => absurd hj (by omega), by simp [insT], by omega, rfl⟩ ⟨ks rfl .dt, ks rfl (.c .ow), ks rfl .dt, ks rfl .dt, ks rfl .dt, ks rfl .dt, ks rfl .dt, ks rfl .dt, ks rfl .dt, ks rfl .dt, kb 770 rfl (.dt rfl (by first | rfl | (simp [dR, rN, dI]; done))), trivial⟩ ?_
        rintro m σ ⟨i, o2, hm0, hi, hG, hEo, ho2, rfl⟩
        refine ACode.seq ?_
        refine ACode.region ?_
        refine .cons (.ls rfl rfl rfl) ?_
        refine .nil ?_
        refine ks_n ?_
        refine ACode.seq ?_
        refine .cD rfl (fun h55 => ?_) (fun h55 => ?_)
        ·skip
         obtain ⟨p, hp1⟩ : ∃ x_, (npR q.1)[i]? = some x_ := ⟨_, List.getElem?_eq_getElem (by omega)⟩
         have hpm := List.mem_of_getElem? hp1
         have hpt := npR_pt hpm
         have hnl := npR_len q.1
         refine ACode.skip ?_
         refine ks_n ?_
         refine ACode.seq ?_
         refine ACode.block ?_
         refine ACode.seq ?_
         refine ACode.region ?_
         refine .cons (.xL 27 1 24 rfl rfl rfl rfl rfl) ?_
         refine .cons (.l1 1 rfl rfl) ?_
         refine .cons (.asg rfl rfl) ?_
         refine .nil ?_
         refine ks_n ?_
         refine ACode.seq ?_
         refine ACode.seq ?_
         refine ACode.region ?_
         refine .cons (.mv rfl rfl) ?_
         refine .cons (.cP [.tmp 58] rfl rfl rfl rfl (isPoint_fn _) rfl) ?_
         refine .cons (.nt rfl rfl) ?_
         refine .nil ?_
         refine ks_n ?_
         refine ACode.condT rfl (fun h60 => ?_) (fun h60 => ?_)
         ·try simp only [zs1, zs2, zs3, zs4, zs5, zs6, zs7] at h60
          refine ACode.seq ?_
          obtain ⟨hO, hN⟩ := prgV_f (g := g) (prgS_f3 hqm (prtV_f4 hpm (by assumption)))
          refine ACode.region ?_
          refine .cons (.asg rfl rfl) ?_
          refine .cons (.asg rfl rfl) ?_
          refine .nil ?_
          refine ks_n ?_
          refine ACode.ret ?_
          refine ks_r ?_
          refine kb_r ?_
          refine ks_r ?_
          refine kl_r ?_
          refine kb_r ?_
          refine kb_r ?_
          refine ks_r ?_
          refine kl_r ?_
          refine kb_r ?_
          refine ks_r ?_
          refine kf_wret [(.t 2, .v (.o (vD (dNs (insV g))))), (.t 3, .v (.o (bo1 (prgV g))))] (Wk.keep [] rfl rfl ⟨ks rfl (.c (Cto.nilE 3 (by first | (rw [hN]; rfl) | (rw [hN, hEz]; rfl)))), ks rfl (.dt (by first | exact congrArg (fun b => V.o (bo1 b)) hO.symm | exact congrArg (fun b => V.o (bo1 b)) (by rw [hO, hEz, decide_eq_decide]; simp) | exact congrArg (fun b => V.o (bo1 b)) (by rw [hO, hEz, decide_eq_decide]; omega))), trivial⟩) rfl ?_ nobox
          rfl
         ·try simp only [zs1, zs2, zs3, zs4, zs5, zs6, zs7] at h60
          refine ACode.skip ?_
          refine ks_n ?_
          refine ACode.seq ?_
          refine ACode.region ?_
          refine .cons (.fP 1 0 false rfl rfl) ?_
          refine .cons (.l1 1 rfl rfl) ?_
          refine .cons (.ln 91 9 152 rfl rfl rfl) ?_
          refine .cons (.mv rfl rfl) ?_
          refine .nil ?_
          refine ks_n ?_
          refine ACode.block ?_
          refine .loopK (fun m σ => (∃ (j : Nat) (o3 : List Ins), m = q.2.length - j ∧ (j ≤ q.2.length) ∧ (∀ t s, t < j → q.2[t]? = some s → stmG g.1 s p = true) ∧ (o2 ++ rowI k j p = o3) ∧ (o3.length ≤ 480 * k + 4 * i + j) ∧ σ = [(.t 1, .v (.o (.c (.ptr (rG g))))), (.t 4, .v (.o (.c (.own 130 3 (o3.length))))), (.t 5, .v (.o (nat1 (k : Nat)))), (.t 6, .v (.o (.c (.ptr (rP q))))), (.t 10, .v (.o (vD (dIs p)))), (.t 24, .v (.o (vD (dPts g.2)))), (.t 25, .v (.o (nat1 (g.2.length : Nat)))), (.t 26, .v (.o (nat1 (k : Nat)))), (.t 52, .v (.o (vD (dPs (npR q.1))))), (.t 53, .v (.o (nat1 ((npR q.1).length : Nat)))), (.t 54, .v (.o (nat1 (i : Nat)))), (.t 62, .v (.o (vD (dMs q.2)))), (.t 63, .v (.o (nat1 (q.2.length : Nat)))), (.t 64, .v (.o (nat1 (j : Nat)))), (.b 130, .b 94 3 (dR (o3.map rN))), (.u 130, .u)])) [(130, 120)] ⟨0, o2, rfl, by omega, fun t s ht _ => absurd ht (by omega), by simp [rowI_zero], by omega, rfl⟩ ⟨ks rfl .dt, ks rfl (.c .ow), ks rfl .dt, ks rfl .dt, ks rfl .dt, ks rfl .dt, ks rfl .dt, ks rfl .dt, ks rfl .dt, ks rfl .dt, ks rfl .dt, ks rfl .dt, ks rfl .dt, ks rfl .dt, kb 120 rfl (.dt rfl (by first | rfl | (simp [dR, rN, dI]; done))), trivial⟩ ?_
          rintro m σ ⟨j, o3, hm0, hj, hH, hEp, ho3, rfl⟩
          refine ACode.seq ?_
          refine ACode.region ?_
          refine .cons (.ls rfl rfl rfl) ?_
          refine .nil ?_
          refine ks_n ?_
          refine ACode.seq ?_
          refine .cD rfl (fun h65 => ?_) (fun h65 => ?_)
          ·skip
           obtain ⟨s, hs1⟩ : ∃ x_, q.2[j]? = some x_ := ⟨_, List.getElem?_eq_getElem (by omega)⟩
           have hsm := List.mem_of_getElem? hs1
           have hsv := hv3 s hsm
           refine ACode.skip ?_
           refine ks_n ?_
           refine ACode.seq ?_
           refine ACode.block ?_
           refine ACode.seq ?_
           refine ACode.region ?_
           refine .cons (.mv rfl rfl) ?_
           refine .cons (.xL 91 9 152 rfl rfl rfl rfl rfl) ?_
           refine .cons (.lN 9 rfl rfl rfl) ?_
           refine .cons (.al 112 [.string ByteArray.empty, .slice none 0 0, .int .i64 0, .int .i64 0, .slice none 0 0, .int .i64 0, .string ByteArray.empty, .slice none 0 0, .slice none 0 0] rfl rfl rfl) ?_
           refine .cons (.asg rfl rfl) ?_
           refine .cons (.sT 9 true rfl rfl rfl rfl rfl rfl rfl) ?_
           refine .nil ?_
           refine ks_n ?_
           refine ACode.seq ?_
           refine ACode.seq ?_
           refine ACode.region ?_
           refine .cons (.lN 2 rfl rfl rfl) ?_
           refine .cons (.bN 9 rfl rfl rfl rfl rfl rfl) ?_
           refine .cons (.mv rfl rfl) ?_
           refine .cons (.cP [.tmp 69, .tmp 70, .tmp 71] rfl rfl rfl rfl (sok_fn hA hsv hpt.1 hpt.2) rfl) ?_
           refine .cons (.nt rfl rfl) ?_
           refine .nil ?_
           refine ks_n ?_
           refine ACode.condT rfl (fun h73 => ?_) (fun h73 => ?_)
           ·try simp only [zs1, zs2, zs3, zs4, zs5, zs6, zs7] at h73
            refine ACode.seq ?_
            obtain ⟨hO, hN⟩ := prgV_f (g := g) (prgS_f3 hqm (prtV_f5 hpm hsm (by assumption)))
            refine ACode.region ?_
            refine .cons (.asg rfl rfl) ?_
            refine .cons (.asg rfl rfl) ?_
            refine .nil ?_
            refine ks_n ?_
            refine ACode.ret ?_
            refine ks_r ?_
            refine kb_r ?_
            refine ks_r ?_
            refine kl_r ?_
            refine kb_r ?_
            refine kb_r ?_
            refine ks_r ?_
            refine kl_r ?_
            refine kb_r ?_
            refine kb_r ?_
            refine ks_r ?_
            refine kl_r ?_
            refine kb_r ?_
            refine ks_r ?_
            refine kf_wret [(.t 2, .v (.o (vD (dNs (insV g))))), (.t 3, .v (.o (bo1 (prgV g))))] (Wk.keep [] rfl rfl ⟨ks rfl (.c (Cto.nilE 3 (by first | (rw [hN]; rfl) | (rw [hN, hEz]; rfl)))), ks rfl (.dt (by first | exact congrArg (fun b => V.o (bo1 b)) hO.symm | exact congrArg (fun b => V.o (bo1 b)) (by rw [hO, hEz, decide_eq_decide]; simp) | exact congrArg (fun b => V.o (bo1 b)) (by rw [hO, hEz, decide_eq_decide]; omega))), trivial⟩) rfl ?_ nobox
            rfl
           ·try simp only [zs1, zs2, zs3, zs4, zs5, zs6, zs7] at h73
            have hST : stmG g.1 s p = true := by assumption
            refine ACode.skip ?_
            refine ks_n ?_
            refine ACode.region ?_
            refine .cons (.mv rfl rfl) ?_
            refine .cons (.mv rfl rfl) ?_
            refine .cons (.mv rfl rfl) ?_
            refine .cons (.mv rfl rfl) ?_
            refine .cons (.cP [.tmp 77] rfl rfl rfl rfl (cloneInts_fn p (by omega)) rfl) ?_
            refine .cons (.bu [(0, .tmp 75), (1, .tmp 76), (2, .tmp 78)] [(0, 1), (1, 1), (2, 1)] [.int .i64 0, .int .i64 0, .slice none 0 0] rfl rfl rfl rfl rfl) ?_
            refine .cons (.li 94 2 0 [.tmp 79] rfl rfl rfl rfl rfl rfl) ?_
            refine .cons (St1.appB (k' := 181) (e := 94) (sz := 2) (by' := 40) rfl rfl rfl rfl rfl (by kernel_rfl) rfl rfl rfl rfl (by first | (simp [dR]; done) | (simp [dR]; omega)) (by first | (simp [dR]; done) | (simp [dR]; omega)) rfl rfl rfl) ?_
            refine .cons (.asg rfl rfl) ?_
            refine .nil ?_
            refine kb_n ?_
            refine ks_n ?_
            refine ACode.region ?_
            refine .cons (.pl rfl rfl rfl) ?_
            refine .cons (.mv rfl rfl) ?_
            refine .nil ?_
            refine kl_k [(130, 181)] ⟨j + 1, o3 ++ [((k : Int), ((j : Nat) : Int), p)], rfl, by omega, fun t s' ht hs' => (Nat.lt_succ_iff_lt_or_eq.1 ht).elim (fun h => hH t s' h hs') (fun h => by subst h; rw [hs1] at hs'; cases hs'; exact hST), by rw [rowI_snoc, ← List.append_assoc, hEp], by rw [List.length_append, List.length_singleton]; omega, rfl⟩ ⟨ks rfl .dt, ks rfl (.c .ow), ks rfl .dt, ks rfl .dt, ks rfl .dt, ks rfl .dt, ks rfl .dt, ks rfl .dt, ks rfl .dt, ks rfl .dt, ks rfl .dt, ks rfl .dt, ks rfl .dt, ks rfl .dt, kb 181 rfl (.dt rfl (by first | rfl | (simp [dR, rN, dI]; done))), trivial⟩
          ·skip
           obtain rfl : j = q.2.length := by omega
           have hPT : ptG' g.1 q.2 p = true := by rw [ptG', show isPt p = true by assumption, Bool.true_and]; exact all_of fun j s h => hH j s (List.getElem?_eq_some_iff.1 h).1 h
           refine ACode.exit ?_
           refine ks_e ?_
           refine kl_e ?_
           refine kb_hit ?_
           refine kb_n ?_
           refine ks_n ?_
           refine ACode.region ?_
           refine .cons (.pl rfl rfl rfl) ?_
           refine .cons (.mv rfl rfl) ?_
           refine .nil ?_
           refine kl_k [(120, 130)] ⟨i + 1, o3, rfl, by omega, fun j p' hj hp' => (Nat.lt_succ_iff_lt_or_eq.1 hj).elim (fun h => hG j p' h hp') (fun h => by subst h; rw [hp1] at hp'; cases hp'; exact hPT), by rw [insT_take hp1, ← List.append_assoc, hEo]; exact hEp, by omega, rfl⟩ ⟨ks rfl .dt, ks rfl (.c .ow), ks rfl .dt, ks rfl .dt, ks rfl .dt, ks rfl .dt, ks rfl .dt, ks rfl .dt, ks rfl .dt, ks rfl .dt, kb 130 rfl (.dt rfl (by first | rfl | (simp [dR, rN, dI]; done))), trivial⟩
        ·skip
         obtain rfl : i = (npR q.1).length := by omega
         rw [List.take_length] at hEo
         have hPV : prtV g.1 q = true := by rw [prtV_eq hv1 hv2 (List.all_eq_true.2 hv3)]; exact all_of fun j p h => hG j p (List.getElem?_eq_some_iff.1 h).1 h
         have hnl := npR_len q.1
         refine ACode.exit ?_
         refine ks_e ?_
         refine kl_e ?_
         refine kb_hit ?_
         refine kb_n ?_
         refine ks_n ?_
         refine ACode.region ?_
         refine .cons (.pl rfl rfl rfl) ?_
         refine .cons (.mv rfl rfl) ?_
         refine .nil ?_
         refine kl_k [(110, 120)] (.inr ⟨k + 1, o2, rfl, by omega, fun j q' hj hq' => (Nat.lt_succ_iff_lt_or_eq.1 hj).elim (fun h => hF j q' h hq') (fun h => by subst h; rw [hq1] at hq'; cases hq'; exact hPV), by rw [insG_take hq1, hE]; exact hEo, by omega, rfl⟩) ⟨ks rfl .dt, ks rfl (.c .ow), ks rfl .dt, ks rfl .dt, ks rfl .dt, kb 120 rfl (.dt rfl (by first | rfl | (simp [dR, rN, dI]; done))), trivial⟩
    ·skip
     obtain rfl : k = g.2.length := by omega
     rw [List.take_length] at hE
     have hEz := hE
     obtain ⟨hO, hN⟩ := prgV_t (prgS_eq hA h4 hF)
     refine ACode.exit ?_
     refine ks_e ?_
     refine kl_e ?_
     refine kb_hit ?_
     refine ks_n ?_
     refine ACode.seq ?_
     refine ACode.region ?_
     refine .cons (.mv rfl rfl) ?_
     refine .cons (.mv rfl rfl) ?_
     refine .cons (.lB 94 3 40 rfl rfl rfl rfl) ?_
     refine .cons (.le rfl rfl rfl) ?_
     refine .cons (.asg rfl rfl) ?_
     refine .cons (.asg rfl rfl) ?_
     refine .nil ?_
     refine ks_n ?_
     refine ACode.ret ?_
     refine kf_wret [(.t 2, .v (.o (vD (dNs (insV g))))), (.t 3, .v (.o (bo1 (prgV g))))] (Wk.keep [] rfl rfl ⟨ks rfl (.c (.fz rfl (by first | (rw [hN, hEz]; done) | (rw [hN, hEz]; rfl)) (by rw [hN, hEz, List.length_map]) (by omega))), ks rfl (.dt (by first | exact congrArg (fun b => V.o (bo1 b)) hO.symm | exact congrArg (fun b => V.o (bo1 b)) (by rw [hO, hEz, decide_eq_decide]; simp) | exact congrArg (fun b => V.o (bo1 b)) (by rw [hO, hEz, decide_eq_decide]; omega))), trivial⟩) rfl ?_ nobox
     rfl
end Go.Proofs.YtongpceopgkhnaaGreat
