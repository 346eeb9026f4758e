/- Part 4 of 6 of the proof: laws on memory and data, then what the functions compute, in the order in which they build on each other; conditions: those that each theorem names. -/
import Derived.Laws.MakeOwn
import Derived.Test.YtongpceopgkhnaaGreatP3

namespace Go.Proofs.YtongpceopgkhnaaGreat
set_option linter.unusedVariables false
set_option linter.unusedSimpArgs false
open Go.RowKit
/-- A box with one number, handed to a function. -/
def hbI (c : Int) : St := [(.b 0, .b 3 1 (dR [rI c])), (.u 0, .u)]
theorem hbI_HB (c : Int) : HB (hbI c) := HB.nil.data
theorem hbI_flat (c : Int) : flatS (hbI c) := flatS.nil.cons rfl
theorem hbI_num (c d : Int) : ∀ k, k < 100 → Al (lk (hbI d)) k → Al (lk (hbI c)) k := fun k _ ⟨e, sz, rows, h⟩ => by
  by_cases hk : k = 0
  · subst hk; exact ⟨_, _, _, rfl⟩
  · rw [hbI, lk_other _ _ _ _ (by simpa using fun e => hk e.symm), lk_other _ _ _ _ (by simp)] at h; cases h
theorem hbI_box {σ : St} {c : Int} (h : lk σ (.b 0) = .b 3 1 (dR [rI c])) : ∀ k e sz rows, lk (hbI c) (.b k) = .b e sz rows → lk σ (.b k) = .b e sz rows := one_box h

theorem acc_len {d : Nat} {xs : List Aff} (h : inB (xs.length : Nat) 1 2 = false) : false = sideV d xs := by
  rw [Bool.eq_iff_iff]
  simp only [inB, Bool.and_eq_false_iff, decide_eq_false_iff_not, sideV, Bool.and_eq_true, decide_eq_true_eq, Bool.false_eq_true, false_iff] at h ⊢
  omega
theorem acc_any {d : Nat} {xs : List Aff} (h : inB (xs.length : Nat) 1 2 = true) : (!xs.any fun x => !bndV d x) = sideV d xs := by
  simp only [inB, Bool.and_eq_true, decide_eq_true_eq] at h
  rw [nany, sideV, decide_eq_true (show 1 ≤ xs.length by omega), decide_eq_true (show xs.length ≤ 2 by omega), Bool.and_true, Bool.and_true]

set_option maxRecDepth 100000 in
set_option maxHeartbeats 1600000 in
theorem implNoA_fn (x : Aff) : Fn Tryz.prog 199 [] [ad (rA x)] (.o (bo1 (nonA x))) [] := by
 refine Fn.code0 Tryz.func199 rfl rfl rfl rfl ?_
 refine ACode.seq ?_
 refine ACode.region ?_
 refine .cons (St1.boxP rfl rfl rfl rfl rfl rfl) ?_
 refine .cons (.asg rfl rfl) ?_
 refine .nil ?_
 refine ks_n ?_
 refine ACode.seq ?_
 refine ACode.region ?_
 refine .cons (.fP 0 0 false rfl rfl) ?_
 refine .cons (.l1 1 rfl rfl) ?_
 refine .cons (.ln 3 1 8 rfl rfl rfl) ?_
 refine .cons (.eq rfl rfl rfl) ?_
 refine .cons (.mv rfl rfl) ?_
 refine .cD 7 rfl (fun g7 => ?_) (fun g7 => ?_)
 ·skip
  refine .cons (.gT rfl rfl rfl (.fP 1 0 false rfl rfl)) ?_
  refine .cons (.gT rfl rfl rfl (.l1 1 rfl rfl)) ?_
  refine .cons (.gT rfl rfl rfl (.eq rfl rfl rfl)) ?_
  refine .cons (.pT rfl rfl rfl) ?_
  refine .cons (.asg rfl rfl) ?_
  refine .nil ?_
  refine ks_n ?_
  refine ACode.ret ?_
  refine kf_ret rfl ?_ nobox
  exact leafB (by rw [nonA]; first | rfl | grind)
 ·skip
  refine .cons (.gF rfl rfl rfl) ?_
  refine .cons (.gF rfl rfl rfl) ?_
  refine .cons (.gF rfl rfl rfl) ?_
  refine .cons (.pF rfl rfl rfl) ?_
  refine .cons (.asg rfl rfl) ?_
  refine .nil ?_
  refine ks_n ?_
  refine ACode.ret ?_
  refine kf_ret rfl ?_ nobox
  exact leafB (by rw [nonA]; first | rfl | grind)

set_option maxRecDepth 100000 in
set_option maxHeartbeats 1600000 in
theorem l3None_fn (x : Aff) : Fn Tryz.prog 220 [] [ad (rA x)] (.o (bo1 (nonA x))) [] := by
 refine Fn.code0 Tryz.func220 rfl rfl rfl rfl ?_
 refine ACode.seq ?_
 refine ACode.region ?_
 refine .cons (St1.boxP rfl rfl rfl rfl rfl rfl) ?_
 refine .cons (.asg rfl rfl) ?_
 refine .nil ?_
 refine ks_n ?_
 refine ACode.seq ?_
 refine ACode.region ?_
 refine .cons (.fP 0 0 false rfl rfl) ?_
 refine .cons (.l1 1 rfl rfl) ?_
 refine .cons (.ln 3 1 8 rfl rfl rfl) ?_
 refine .cons (.eq rfl rfl rfl) ?_
 refine .cons (.mv rfl rfl) ?_
 refine .cD 7 rfl (fun g7 => ?_) (fun g7 => ?_)
 ·skip
  refine .cons (.gT rfl rfl rfl (.fP 1 0 false rfl rfl)) ?_
  refine .cons (.gT rfl rfl rfl (.l1 1 rfl rfl)) ?_
  refine .cons (.gT rfl rfl rfl (.eq rfl rfl rfl)) ?_
  refine .cons (.pT rfl rfl rfl) ?_
  refine .cons (.asg rfl rfl) ?_
  refine .nil ?_
  refine ks_n ?_
  refine ACode.ret ?_
  refine kf_ret rfl ?_ nobox
  exact leafB (by rw [nonA]; first | rfl | grind)
 ·skip
  refine .cons (.gF rfl rfl rfl) ?_
  refine .cons (.gF rfl rfl rfl) ?_
  refine .cons (.gF rfl rfl rfl) ?_
  refine .cons (.pF rfl rfl rfl) ?_
  refine .cons (.asg rfl rfl) ?_
  refine .nil ?_
  refine ks_n ?_
  refine ACode.ret ?_
  refine kf_ret rfl ?_ nobox
  exact leafB (by rw [nonA]; first | rfl | grind)

set_option maxRecDepth 100000 in
set_option maxHeartbeats 1600000 in
theorem implNoC_fn (a : Acc) : Fn Tryz.prog 200 [] [ad (rC a)] (.o (bo1 (nonC a))) [] := by
 refine Fn.code0 Tryz.func200 rfl rfl rfl rfl ?_
 refine ACode.seq ?_
 refine ACode.region ?_
 refine .cons (St1.boxP rfl rfl rfl rfl rfl rfl) ?_
 refine .cons (.asg rfl rfl) ?_
 refine .nil ?_
 refine ks_n ?_
 refine ACode.seq ?_
 refine ACode.region ?_
 refine .cons (.fP 0 0 false rfl rfl) ?_
 refine .cons (.l1 1 rfl rfl) ?_
 refine .cons (St1.eqS rfl rfl rfl) ?_
 refine .cons (.mv rfl rfl) ?_
 refine AOps.cases 6 _ rfl (fun g6 => ?_) (fun g6 => ?_)
 ·try simp only [zs1, zs2, zs3, zs4, zs5, zs6, zs7] at g6
  have g := g6
  refine .cons (.gT rfl rfl rfl (.fP 1 0 false rfl rfl)) ?_
  refine .cons (.gT rfl rfl rfl (.l1 1 rfl rfl)) ?_
  refine .cons (.gT rfl rfl rfl (.ln 86 2 32 rfl rfl rfl)) ?_
  refine .cons (.gT rfl rfl rfl (.eq rfl rfl rfl)) ?_
  refine .cons (.pT rfl rfl rfl) ?_
  refine .cons (.asg rfl rfl) ?_
  refine .nil ?_
  refine ks_n ?_
  refine ACode.ret ?_
  refine kf_ret rfl ?_ nobox
  exact leafB (by rw [nonC, show sEq a.1 ByteArray.empty = _ from g]; first | rfl | (rw [Bool.eq_iff_iff]; simp only [Bool.and_eq_true, Bool.or_eq_true, Bool.not_eq_true', Bool.and_eq_false_iff, Bool.or_eq_false_iff, decide_eq_true_eq, decide_eq_false_iff_not, Bool.false_eq_true, Bool.true_eq_false, false_iff, true_iff, iff_false, iff_true, false_and, and_false, true_and, and_true, not_false_eq_true, not_true_eq_false, ne_eq]; omega))
 ·try simp only [zs1, zs2, zs3, zs4, zs5, zs6, zs7] at g6
  have g := g6
  refine .cons (.gF rfl rfl rfl) ?_
  refine .cons (.gF rfl rfl rfl) ?_
  refine .cons (.gF rfl rfl rfl) ?_
  refine .cons (.gF rfl rfl rfl) ?_
  refine .cons (.pF rfl rfl rfl) ?_
  refine .cons (.asg rfl rfl) ?_
  refine .nil ?_
  refine ks_n ?_
  refine ACode.ret ?_
  refine kf_ret rfl ?_ nobox
  exact leafB (by rw [nonC, show sEq a.1 ByteArray.empty = _ from g]; first | rfl | (rw [Bool.eq_iff_iff]; simp only [Bool.and_eq_true, Bool.or_eq_true, Bool.not_eq_true', Bool.and_eq_false_iff, Bool.or_eq_false_iff, decide_eq_true_eq, decide_eq_false_iff_not, Bool.false_eq_true, Bool.true_eq_false, false_iff, true_iff, iff_false, iff_true, false_and, and_false, true_and, and_true, not_false_eq_true, not_true_eq_false, ne_eq]; omega))

set_option maxRecDepth 100000 in
set_option maxHeartbeats 1600000 in
theorem l3Empty_fn (a : Acc) : Fn Tryz.prog 219 [] [ad (rC a)] (.o (bo1 (nonC a))) [] := by
 refine Fn.code0 Tryz.func219 rfl rfl rfl rfl ?_
 refine ACode.seq ?_
 refine ACode.region ?_
 refine .cons (St1.boxP rfl rfl rfl rfl rfl rfl) ?_
 refine .cons (.asg rfl rfl) ?_
 refine .nil ?_
 refine ks_n ?_
 refine ACode.seq ?_
 refine ACode.region ?_
 refine .cons (.fP 0 0 false rfl rfl) ?_
 refine .cons (.l1 1 rfl rfl) ?_
 refine .cons (St1.eqS rfl rfl rfl) ?_
 refine .cons (.mv rfl rfl) ?_
 refine AOps.cases 6 _ rfl (fun g6 => ?_) (fun g6 => ?_)
 ·try simp only [zs1, zs2, zs3, zs4, zs5, zs6, zs7] at g6
  have g := g6
  refine .cons (.gT rfl rfl rfl (.fP 1 0 false rfl rfl)) ?_
  refine .cons (.gT rfl rfl rfl (.l1 1 rfl rfl)) ?_
  refine .cons (.gT rfl rfl rfl (.ln 86 2 32 rfl rfl rfl)) ?_
  refine .cons (.gT rfl rfl rfl (.eq rfl rfl rfl)) ?_
  refine .cons (.pT rfl rfl rfl) ?_
  refine .cons (.asg rfl rfl) ?_
  refine .nil ?_
  refine ks_n ?_
  refine ACode.ret ?_
  refine kf_ret rfl ?_ nobox
  exact leafB (by rw [nonC, show sEq a.1 ByteArray.empty = _ from g]; first | rfl | (rw [Bool.eq_iff_iff]; simp only [Bool.and_eq_true, Bool.or_eq_true, Bool.not_eq_true', Bool.and_eq_false_iff, Bool.or_eq_false_iff, decide_eq_true_eq, decide_eq_false_iff_not, Bool.false_eq_true, Bool.true_eq_false, false_iff, true_iff, iff_false, iff_true, false_and, and_false, true_and, and_true, not_false_eq_true, not_true_eq_false, ne_eq]; omega))
 ·try simp only [zs1, zs2, zs3, zs4, zs5, zs6, zs7] at g6
  have g := g6
  refine .cons (.gF rfl rfl rfl) ?_
  refine .cons (.gF rfl rfl rfl) ?_
  refine .cons (.gF rfl rfl rfl) ?_
  refine .cons (.gF rfl rfl rfl) ?_
  refine .cons (.pF rfl rfl rfl) ?_
  refine .cons (.asg rfl rfl) ?_
  refine .nil ?_
  refine ks_n ?_
  refine ACode.ret ?_
  refine kf_ret rfl ?_ nobox
  exact leafB (by rw [nonC, show sEq a.1 ByteArray.empty = _ from g]; first | rfl | (rw [Bool.eq_iff_iff]; simp only [Bool.and_eq_true, Bool.or_eq_true, Bool.not_eq_true', Bool.and_eq_false_iff, Bool.or_eq_false_iff, decide_eq_true_eq, decide_eq_false_iff_not, Bool.false_eq_true, Bool.true_eq_false, false_iff, true_iff, iff_false, iff_true, false_and, and_false, true_and, and_true, not_false_eq_true, not_true_eq_false, ne_eq]; omega))

set_option maxRecDepth 100000 in
set_option maxHeartbeats 1600000 in
theorem isArray_fn (s : ByteArray) : Fn Tryz.prog 160 [] [st1 s] (.o (bo1 (arrV s))) [] := by
 refine Fn.code0 Tryz.func160 rfl rfl rfl rfl ?_
 refine ACode.seq ?_
 refine ACode.region ?_
 refine .cons (.asg rfl rfl) ?_
 refine .nil ?_
 refine ks_n ?_
 refine ACode.seq ?_
 refine ACode.region ?_
 refine .cons (.mv rfl rfl) ?_
 refine .cons (St1.lenS rfl rfl rfl rfl rfl (by kernel_rfl) rfl) ?_
 refine .cons (.eq rfl rfl rfl) ?_
 refine .cons (.mv rfl rfl) ?_
 refine .cD 6 rfl (fun g6 => ?_) (fun g6 => ?_)
 ·skip
  refine .cons (.gT rfl rfl rfl (.mv rfl rfl)) ?_
  refine .cons (.gT rfl rfl rfl (.cP [.const (.string ⟨#[65, 66, 67, 68]⟩), .tmp 7] rfl rfl rfl rfl (contains1_fn s (by omega)) rfl)) ?_
  refine .cons (.pT rfl rfl rfl) ?_
  refine .cons (.asg rfl rfl) ?_
  refine .nil ?_
  refine ks_n ?_
  refine ACode.ret ?_
  refine kf_ret rfl ?_ nobox
  first | rfl | exact leafB (arrV_size (by omega)).symm
 ·skip
  refine .cons (.gF rfl rfl rfl) ?_
  refine .cons (.gF rfl rfl rfl) ?_
  refine .cons (.pF rfl rfl rfl) ?_
  refine .cons (.asg rfl rfl) ?_
  refine .nil ?_
  refine ks_n ?_
  refine ACode.ret ?_
  refine kf_ret rfl ?_ nobox
  first | rfl | exact leafB (arrV_size (by omega)).symm

set_option maxRecDepth 100000 in
set_option maxHeartbeats 1600000 in
theorem isOp_fn (k : Int) : Fn Tryz.prog 201 [] [nat1 k] (.o (bo1 (inB k 4 6))) [] := by
 refine Fn.code0 Tryz.func201 rfl rfl rfl rfl ?_
 refine ACode.seq ?_
 refine ACode.region ?_
 refine .cons (.asg rfl rfl) ?_
 refine .nil ?_
 refine ks_n ?_
 refine ACode.seq ?_
 refine ACode.region ?_
 refine .cons (.mv rfl rfl) ?_
 refine .cons (.cP [.tmp 3, .const (.int .i64 (4)), .const (.int .i64 (6))] rfl rfl rfl rfl (within_fn _ 4 6) rfl) ?_
 refine .cons (.asg rfl rfl) ?_
 refine .nil ?_
 refine ks_n ?_
 refine ACode.ret ?_
 refine kf_ret rfl ?_ nobox
 rfl

set_option maxRecDepth 100000 in
set_option maxHeartbeats 1600000 in
theorem accOk1_fn (d : Nat) (x : Aff) : Fn Tryz.prog 196 [] [ad (rA x), .c (.ptr [dI (d : Nat)])] (.o (bo1 (!bndV d x))) [] := by
 refine Fn.code0 Tryz.func196 rfl rfl rfl rfl ?_
 refine ACode.seq ?_
 refine ACode.region ?_
 refine .cons (St1.boxP rfl rfl rfl rfl rfl rfl) ?_
 refine .cons (.asg rfl rfl) ?_
 refine .nil ?_
 refine ks_n ?_
 refine ACode.seq ?_
 refine ACode.drawK (by kernel_rfl) (by kernel_rfl) ?_
 refine .cons (.lN 2 rfl rfl rfl) ?_
 refine .cons (.cP [.tmp 4] rfl rfl rfl rfl (implAffV_fn x) rfl) ?_
 refine .cons (.nt rfl rfl) ?_
 refine .cons (.mv rfl rfl) ?_
 refine RunK.cases 7 _ rfl (fun g7 => ?_) (fun g7 => ?_)
 ·try simp only [zs1, zs2, zs3, zs4, zs5, zs6, zs7] at g7
  refine .cons (.gF rfl rfl rfl) ?_
  refine .cons (.gF rfl rfl rfl) ?_
  refine .cons (.gF rfl rfl rfl) ?_
  refine .cons (.gF rfl rfl rfl) ?_
  refine .cons (.pT rfl rfl rfl) ?_
  refine .cons (.asg rfl rfl) ?_
  refine .nil ⟨by kernel_rfl, ?_⟩
  refine ks_n ?_
  refine ACode.ret ?_
  refine kf_ret rfl ?_ nobox
  first | exact leafB (by rw [bnd_no (.inl (by simpa using g7))]; rfl) | exact leafB (by rw [bndV, show affV x = true by simpa using g7, Bool.true_and, Bool.eq_iff_iff]; simp)
 ·try simp only [zs1, zs2, zs3, zs4, zs5, zs6, zs7] at g7
  refine .cons (.gT rfl rfl rfl (.lN 2 rfl rfl rfl)) ?_
  refine .cons (.gT rfl rfl rfl (.cP [.tmp 8] rfl rfl rfl rfl (depth_fn x) rfl)) ?_
  refine .cons (.gT rfl rfl rfl (.l1 1 rfl rfl)) ?_
  refine .cons (.gT rfl rfl rfl (.gt rfl rfl rfl)) ?_
  refine .cons (.pF rfl rfl rfl) ?_
  refine .cons (.asg rfl rfl) ?_
  refine .nil ⟨by kernel_rfl, ?_⟩
  refine ks_n ?_
  refine ACode.ret ?_
  refine kf_ret rfl ?_ nobox
  first | exact leafB (by rw [bnd_no (.inl (by simpa using g7))]; rfl) | exact leafB (by rw [bndV, show affV x = true by simpa using g7, Bool.true_and, Bool.eq_iff_iff]; simp)

set_option maxRecDepth 100000 in
set_option maxHeartbeats 1600000 in
theorem accOk_fn (d : Nat) (a : Acc) (ha : a.2.length ≤ 1099511627776) : Fn Tryz.prog 166 [] [ad (rC a), nat1 (d : Nat)] (.o (bo1 (accV d a))) [] := by
 refine Fn.code0 Tryz.func166 rfl rfl rfl rfl ?_
 refine ACode.seq ?_
 refine ACode.region ?_
 refine .cons (St1.boxP rfl rfl rfl rfl rfl rfl) ?_
 refine .cons (St1.boxP rfl rfl rfl rfl rfl rfl) ?_
 refine .cons (.asg rfl rfl) ?_
 refine .nil ?_
 refine ks_n ?_
 refine ACode.seq ?_
 refine ACode.region ?_
 refine .cons (.fP 0 0 false rfl rfl) ?_
 refine .cons (.l1 1 rfl rfl) ?_
 refine .cons (.cP [.tmp 6] rfl rfl rfl rfl (isArray_fn _) rfl) ?_
 refine .cons (.mv rfl rfl) ?_
 refine AOps.cases 8 _ rfl (fun g8 => ?_) (fun g8 => ?_)
 ·try simp only [zs1, zs2, zs3, zs4, zs5, zs6, zs7] at g8
  refine .cons (.gT rfl rfl rfl (.fP 1 0 false rfl rfl)) ?_
  refine .cons (.gT rfl rfl rfl (.l1 1 rfl rfl)) ?_
  refine .cons (.gT rfl rfl rfl (.ln 86 2 32 rfl rfl rfl)) ?_
  refine .cons (.gT rfl rfl rfl (.cP [.tmp 11, .const (.int .i64 (1)), .const (.int .i64 (2))] rfl rfl rfl rfl (within_fn _ 1 2) rfl)) ?_
  refine .cons (.pT rfl rfl rfl) ?_
  refine .cons (.mv rfl rfl) ?_
  refine AOps.cases 14 _ rfl (fun g14 => ?_) (fun g14 => ?_)
  ·try simp only [zs1, zs2, zs3, zs4, zs5, zs6, zs7] at g14
   refine .cons (.gT rfl rfl rfl (.fP 1 0 false rfl rfl)) ?_
   refine .cons (.gT rfl rfl rfl (.l1 1 rfl rfl)) ?_
   refine .cons (.gT rfl rfl rfl (St1.makeFunc (xs := [.tmp 3]) rfl rfl rfl rfl rfl rfl rfl)) ?_
   refine .cons (.gT rfl rfl rfl (.cP [.tmp 16, .tmp 17] rfl rfl rfl rfl (cnt_aff (f := 196) (cap := [[dI (d : Nat)]]) (by kernel_rfl) (fun x => !bndV d x) a.2 ha (fun x _ => accOk1_fn d x)) rfl)) ?_
   refine .cons (.gT rfl rfl rfl (.nt rfl rfl)) ?_
   refine .cons (.pT rfl rfl rfl) ?_
   refine .cons (.asg rfl rfl) ?_
   refine .nil ?_
   refine ks_n ?_
   refine ACode.ret ?_
   refine kf_ret rfl ?_ nobox
   first | exact leafB (by rw [accV, g8]; rfl) | exact leafB (by rw [accV, g8, Bool.true_and]; exact acc_len g14) | exact leafB (by rw [accV, g8, Bool.true_and]; exact acc_any g14)
  ·try simp only [zs1, zs2, zs3, zs4, zs5, zs6, zs7] at g14
   refine .cons (.gF rfl rfl rfl) ?_
   refine .cons (.gF rfl rfl rfl) ?_
   refine .cons (.gF rfl rfl rfl) ?_
   refine .cons (.gF rfl rfl rfl) ?_
   refine .cons (.gF rfl rfl rfl) ?_
   refine .cons (.pF rfl rfl rfl) ?_
   refine .cons (.asg rfl rfl) ?_
   refine .nil ?_
   refine ks_n ?_
   refine ACode.ret ?_
   refine kf_ret rfl ?_ nobox
   first | exact leafB (by rw [accV, g8]; rfl) | exact leafB (by rw [accV, g8, Bool.true_and]; exact acc_len g14) | exact leafB (by rw [accV, g8, Bool.true_and]; exact acc_any g14)
 ·try simp only [zs1, zs2, zs3, zs4, zs5, zs6, zs7] at g8
  refine .cons (.gF rfl rfl rfl) ?_
  refine .cons (.gF rfl rfl rfl) ?_
  refine .cons (.gF rfl rfl rfl) ?_
  refine .cons (.gF rfl rfl rfl) ?_
  refine .cons (.pF rfl rfl rfl) ?_
  refine .cons (.mv rfl rfl) ?_
  refine .cons (.gF rfl rfl rfl) ?_
  refine .cons (.gF rfl rfl rfl) ?_
  refine .cons (.gF rfl rfl rfl) ?_
  refine .cons (.gF rfl rfl rfl) ?_
  refine .cons (.gF rfl rfl rfl) ?_
  refine .cons (.pF rfl rfl rfl) ?_
  refine .cons (.asg rfl rfl) ?_
  refine .nil ?_
  refine ks_n ?_
  refine ACode.ret ?_
  refine kf_ret rfl ?_ nobox
  first | exact leafB (by rw [accV, g8]; rfl) | exact leafB (by rw [accV, g8, Bool.true_and]; exact acc_len g14) | exact leafB (by rw [accV, g8, Bool.true_and]; exact acc_any g14)
/-- What the program asks of the fields that a kind does not use. -/
def hdV (e : Ex) : Bool := (decide (e.k = 1) || decide (e.n = 0)) && (decide (e.k = 2) || nonA e.i) && (decide (e.k = 3) || nonC e.r)
theorem scan_z (d c : Nat) (e : Ex) : scanV d 0 c e = (false, c + 1) := rfl
theorem scan_many {d L c : Nat} {e : Ex} (h : 12 < c + 1) : scanV d (L + 1) c e = (false, c + 1) := by rw [scanV, if_pos h]
theorem scan_hd {d L c : Nat} {e : Ex} (h : hdV e = false) : scanV d (L + 1) c e = (false, c + 1) := by
  rw [scanV]
  split
  · rfl
  · rw [if_neg]
    intro h2
    have h3 := (Bool.and_eq_true_iff.1 h2).2
    unfold fldV at h3
    unfold hdV at h
    cases hA : nonA e.i <;> cases hC : nonC e.r <;> simp only [hA, hC] at h h3 <;> (split at h3 <;> first | (split at h3 <;> first | (split at h3 <;> simp_all; done) | (simp_all; done)) | (simp_all; done))
theorem hd_rest {e : Ex} (h : hdV e = true) : (e.k = 1 ∨ e.n = 0) ∧ (e.k = 2 ∨ nonA e.i = true) ∧ (e.k = 3 ∨ nonC e.r = true) := by
  simp only [hdV, Bool.and_eq_true, Bool.or_eq_true, decide_eq_true_eq] at h
  exact ⟨h.1.1, h.1.2, h.2⟩
theorem scan_leaf {d L c : Nat} {e : Ex} (hk : 1 ≤ e.k ∧ e.k ≤ 3) (hc : ¬ 12 < c + 1) : scanV d (L + 1) c e = (decide (e.ks.length = 0) && fldV d e.k e.n e.i e.r, c + 1) := by
  rw [scanV, if_neg hc, kidV, if_pos hk]
  split
  · rename_i h
    rw [h]
    have := of_decide_eq_true (Bool.and_eq_true_iff.1 h).1
    rw [List.eq_nil_of_length_eq_zero this]; rfl
  · rename_i h
    rw [Bool.eq_false_iff.2 h]
theorem scan1 {d L c : Nat} {e : Ex} (hk : e.k = 1) (hh : hdV e = true) (hc : ¬ 12 < c + 1) : scanV d (L + 1) c e = (inB e.n 0 99 && decide (e.ks.length = 0), c + 1) := by
  obtain ⟨h1, h2, h3⟩ := hd_rest hh
  rw [scan_leaf (by omega) hc, fldV, if_pos hk, h2.resolve_left (by omega), h3.resolve_left (by omega), Bool.and_true, Bool.and_true, Bool.and_comm]
theorem scan2 {d L c : Nat} {e : Ex} (hk : e.k = 2) (hh : hdV e = true) (hc : ¬ 12 < c + 1) : scanV d (L + 1) c e = (affV e.i && decide (affDepth e.i ≤ d) && decide (e.ks.length = 0), c + 1) := by
  obtain ⟨h1, h2, h3⟩ := hd_rest hh
  rw [scan_leaf (by omega) hc, fldV, if_neg (by omega), if_pos hk, h3.resolve_left (by omega), decide_eq_true (h1.resolve_left (by omega)), Bool.and_true, Bool.true_and, Bool.and_comm]
theorem scan3 {d L c : Nat} {e : Ex} (hk : e.k = 3) (hh : hdV e = true) (hc : ¬ 12 < c + 1) : scanV d (L + 1) c e = (accV d e.r && decide (e.ks.length = 0), c + 1) := by
  obtain ⟨h1, h2, h3⟩ := hd_rest hh
  rw [scan_leaf (by omega) hc, fldV, if_neg (by omega), if_neg (by omega), if_pos hk, h2.resolve_left (by omega), decide_eq_true (h1.resolve_left (by omega)), Bool.and_true, Bool.true_and, Bool.and_comm]
theorem scan_bad {d L c : Nat} {e : Ex} (hk : ¬ e.k = 1 ∧ ¬ e.k = 2 ∧ ¬ e.k = 3) (hb : inB e.k 4 6 = false ∨ ¬ e.ks.length = 2) : scanV d (L + 1) c e = (false, c + 1) := by
  rw [scanV]
  split
  · rfl
  · rw [if_neg]
    intro h2
    have h3 := (Bool.and_eq_true_iff.1 h2).1
    unfold kidV at h3
    rw [if_neg (by omega)] at h3
    split at h3
    · rename_i h4
      have h5 := of_decide_eq_true h3
      rcases hb with h | h
      · rw [inB, decide_eq_true h4] at h; cases h
      · exact h h5
    · cases h3
theorem scan_op {d L c : Nat} {e : Ex} {x y : Ex} (hk : inB e.k 4 6 = true) (hh : hdV e = true) (hc : ¬ 12 < c + 1) (hks : e.ks = [x, y]) : scanV d (L + 1) c e = if (scanV d L (c + 1) x).1 = true then scanV d L (scanV d L (c + 1) x).2 y else (false, (scanV d L (c + 1) x).2) := by
  obtain ⟨h1, h2, h3⟩ := hd_rest hh
  simp only [inB, Bool.and_eq_true, decide_eq_true_eq] at hk
  rw [scanV, if_neg hc, if_pos, hks, scanK]
  · split
    · rename_i h
      rw [scanK]
      split
      · rename_i h4; rw [scanK, ← h4]
      · rename_i h4; rw [← Bool.eq_false_iff.2 h4]
    · rfl
  · rw [kidV, if_neg (by omega), if_pos hk, hks, fldV, if_neg (by omega), if_neg (by omega), if_neg (by omega), h2.resolve_left (by omega), h3.resolve_left (by omega), decide_eq_true (h1.resolve_left (by omega))]; rfl
theorem two_of {α : Type} {l : List α} (h : l.length = 2) : ∃ x y, l = [x, y] := by
  match l, h with
  | [x, y], _ => exact ⟨x, y, rfl⟩

set_option maxRecDepth 100000 in
set_option maxHeartbeats 1600000 in
theorem scan_zero (d : Nat) {deep : Int} {c : Nat} {e : Ex} (hc : c ≤ 12) (hd8 : -100 ≤ deep ∧ deep ≤ 100) (hrl : e.r.2.length ≤ 1099511627776) (hd5 : 5 < deep) : Fn Tryz.prog 167 (hbI (c : Nat)) [ad (rX e), nat1 (d : Nat), nat1 deep, .c (.box 0 1 0 0)] (.o (bo1 (scanV d 0 c e).1)) (hbI ((scanV d 0 c e).2 : Nat)) := by
 refine Fn.of_code Tryz.func167 rfl rfl (hbI_HB _) rfl rfl (hbI_HB _) rfl (hbI_num _ _) ?_
 refine ACode.seq ?_
 refine ACode.region ?_
 refine .cons (St1.boxP rfl rfl rfl rfl rfl rfl) ?_
 refine .cons (.asg rfl rfl) ?_
 refine .nil ?_
 refine ks_n ?_
 refine ACode.seq ?_
 refine ACode.region ?_
 refine .cons (.mv rfl rfl) ?_
 refine .cons (.nB rfl rfl rfl) ?_
 refine .cons (.b1 1 rfl rfl rfl rfl rfl rfl) ?_
 refine .cons (.pl rfl rfl rfl) ?_
 refine .cons (.nB rfl rfl rfl) ?_
 refine .cons (.sT 1 false rfl rfl rfl rfl rfl rfl rfl) ?_
 refine .nil ?_
 refine ks_n ?_
 refine ACode.seq ?_
 refine ACode.seq ?_
 refine ACode.cut [(.t 1, .v (.o (nat1 (d : Nat)))), (.t 2, .v (.o (nat1 deep))), (.t 3, .v (.o (.c (.box 0 1 0 0)))), (.t 4, .v (.o (.c (.ptr (rX e))))), (.t 8, .v (.o (bo1 false))), (.t 21, .v (.o (bo1 (decide (12 < c + 1 ∨ 5 < deep))))), (.b 0, .b 3 1 (dR ([rI ((c : Int) + 1)]))), (.u 0, .u)] ?_ ?_
 ·skip
  refine ACode.region ?_
  refine .cons (.mv rfl rfl) ?_
  refine .cons (.nB rfl rfl rfl) ?_
  refine .cons (.b1 1 rfl rfl rfl rfl rfl rfl) ?_
  refine .cons (.gt rfl rfl rfl) ?_
  refine .cons (.mv rfl rfl) ?_
  refine .cD 18 rfl (fun g18 => ?_) (fun g18 => ?_)
  ·skip
   refine .cons (.gF rfl rfl rfl) ?_
   refine .cons (.gF rfl rfl rfl) ?_
   refine .cons (.pT rfl rfl rfl) ?_
   refine .nil ?_
   exact kc_n (Wk.keep [(0, 0)] rfl rfl ⟨ks rfl .dt, ks rfl .dt, ks rfl (.c .bx), ks rfl .dt, ks rfl .dt, ks rfl (.dt (vB (by first | rfl | grind))), kb 0 rfl (.dt rfl), trivial⟩)
  ·skip
   refine .cons (.gT rfl rfl rfl (.mv rfl rfl)) ?_
   refine .cons (.gT rfl rfl rfl (.gt rfl rfl rfl)) ?_
   refine .cons (.pF rfl rfl rfl) ?_
   refine .nil ?_
   exact kc_n (Wk.keep [(0, 0)] rfl rfl ⟨ks rfl .dt, ks rfl .dt, ks rfl (.c .bx), ks rfl .dt, ks rfl .dt, ks rfl (.dt (vB (by first | rfl | grind))), kb 0 rfl (.dt rfl), trivial⟩)
 refine ks_n ?_
 refine ACode.condT rfl (fun h21 => ?_) (fun h21 => ?_)
 ·try simp only [zs1, zs2, zs3, zs4, zs5, zs6, zs7] at h21
  refine ACode.seq ?_
  have hR := scan_z d c e
  refine ACode.region ?_
  refine .cons (.asg rfl rfl) ?_
  refine .nil ?_
  refine ks_n ?_
  refine ACode.ret ?_
  refine ks_r ?_
  obtain ⟨r, hr⟩ : ∃ r, r = (scanV d 0 c e) := ⟨_, rfl⟩
  rw [← hr]
  rw [← hr] at hR
  refine kf_wret [(.t 3, .v (.o (.c (.box 0 1 0 0)))), (.t 8, .v (.o (bo1 r.1))), (.b 0, .b 3 1 (dR ([rI (r.2 : Nat)]))), (.u 0, .u)] (Wk.keep [(0, 0)] rfl rfl ⟨ks rfl (.c .bx), ks rfl (.dt (vB (by rw [hR] <;> first | rfl | grind))), kb 0 rfl (.dt rfl (by rw [hR] <;> rfl)), trivial⟩) rfl ?_ (hbI_box rfl)
  rfl
 ·try simp only [zs1, zs2, zs3, zs4, zs5, zs6, zs7] at h21
  exact absurd (Or.inr hd5) h21

set_option maxRecDepth 100000 in
set_option maxHeartbeats 1600000 in
theorem scan_succ (d : Nat) {deep : Int} {c : Nat} {e : Ex} (hc : c ≤ 12) (hd8 : -100 ≤ deep ∧ deep ≤ 100) (hrl : e.r.2.length ≤ 1099511627776) (hd5 : ¬ 5 < deep) {L : Nat} (ih : ∀ x ∈ e.ks, ∀ c : Nat, c ≤ 12 → Fn Tryz.prog 167 (hbI (c : Nat)) [ad (rX x), nat1 (d : Nat), nat1 (deep + 1), .c (.box 0 1 0 0)] (.o (bo1 (scanV d L c x).1)) (hbI ((scanV d L c x).2 : Nat))) : Fn Tryz.prog 167 (hbI (c : Nat)) [ad (rX e), nat1 (d : Nat), nat1 deep, .c (.box 0 1 0 0)] (.o (bo1 (scanV d (L + 1) c e).1)) (hbI ((scanV d (L + 1) c e).2 : Nat)) := by
 refine Fn.of_code Tryz.func167 rfl rfl (hbI_HB _) rfl rfl (hbI_HB _) rfl (hbI_num _ _) ?_
 refine ACode.seq ?_
 refine ACode.region ?_
 refine .cons (St1.boxP rfl rfl rfl rfl rfl rfl) ?_
 refine .cons (.asg rfl rfl) ?_
 refine .nil ?_
 refine ks_n ?_
 refine ACode.seq ?_
 refine ACode.region ?_
 refine .cons (.mv rfl rfl) ?_
 refine .cons (.nB rfl rfl rfl) ?_
 refine .cons (.b1 1 rfl rfl rfl rfl rfl rfl) ?_
 refine .cons (.pl rfl rfl rfl) ?_
 refine .cons (.nB rfl rfl rfl) ?_
 refine .cons (.sT 1 false rfl rfl rfl rfl rfl rfl rfl) ?_
 refine .nil ?_
 refine ks_n ?_
 refine ACode.seq ?_
 refine ACode.seq ?_
 refine ACode.cut [(.t 1, .v (.o (nat1 (d : Nat)))), (.t 2, .v (.o (nat1 deep))), (.t 3, .v (.o (.c (.box 0 1 0 0)))), (.t 4, .v (.o (.c (.ptr (rX e))))), (.t 8, .v (.o (bo1 false))), (.t 21, .v (.o (bo1 (decide (12 < c + 1 ∨ 5 < deep))))), (.b 0, .b 3 1 (dR ([rI ((c : Int) + 1)]))), (.u 0, .u)] ?_ ?_
 ·skip
  refine ACode.region ?_
  refine .cons (.mv rfl rfl) ?_
  refine .cons (.nB rfl rfl rfl) ?_
  refine .cons (.b1 1 rfl rfl rfl rfl rfl rfl) ?_
  refine .cons (.gt rfl rfl rfl) ?_
  refine .cons (.mv rfl rfl) ?_
  refine .cD 18 rfl (fun g18 => ?_) (fun g18 => ?_)
  ·skip
   refine .cons (.gF rfl rfl rfl) ?_
   refine .cons (.gF rfl rfl rfl) ?_
   refine .cons (.pT rfl rfl rfl) ?_
   refine .nil ?_
   exact kc_n (Wk.keep [(0, 0)] rfl rfl ⟨ks rfl .dt, ks rfl .dt, ks rfl (.c .bx), ks rfl .dt, ks rfl .dt, ks rfl (.dt (vB (by first | rfl | grind))), kb 0 rfl (.dt rfl), trivial⟩)
  ·skip
   refine .cons (.gT rfl rfl rfl (.mv rfl rfl)) ?_
   refine .cons (.gT rfl rfl rfl (.gt rfl rfl rfl)) ?_
   refine .cons (.pF rfl rfl rfl) ?_
   refine .nil ?_
   exact kc_n (Wk.keep [(0, 0)] rfl rfl ⟨ks rfl .dt, ks rfl .dt, ks rfl (.c .bx), ks rfl .dt, ks rfl .dt, ks rfl (.dt (vB (by first | rfl | grind))), kb 0 rfl (.dt rfl), trivial⟩)
 refine ks_n ?_
 refine ACode.condT rfl (fun h21 => ?_) (fun h21 => ?_)
 ·try simp only [zs1, zs2, zs3, zs4, zs5, zs6, zs7] at h21
  refine ACode.seq ?_
  have hR := scan_many (d := d) (L := L) (e := e) (show 12 < c + 1 by omega)
  refine ACode.region ?_
  refine .cons (.asg rfl rfl) ?_
  refine .nil ?_
  refine ks_n ?_
  refine ACode.ret ?_
  refine ks_r ?_
  obtain ⟨r, hr⟩ : ∃ r, r = (scanV d (L + 1) c e) := ⟨_, rfl⟩
  rw [← hr]
  rw [← hr] at hR
  refine kf_wret [(.t 3, .v (.o (.c (.box 0 1 0 0)))), (.t 8, .v (.o (bo1 r.1))), (.b 0, .b 3 1 (dR ([rI (r.2 : Nat)]))), (.u 0, .u)] (Wk.keep [(0, 0)] rfl rfl ⟨ks rfl (.c .bx), ks rfl (.dt (vB (by rw [hR] <;> first | rfl | grind))), kb 0 rfl (.dt rfl (by rw [hR] <;> rfl)), trivial⟩) rfl ?_ (hbI_box rfl)
  rfl
 ·try simp only [zs1, zs2, zs3, zs4, zs5, zs6, zs7] at h21
  have hc1 : ¬ 12 < c + 1 := by omega
  refine ACode.skip ?_
  refine ks_n ?_
  refine ACode.seq ?_
  refine ACode.seq ?_
  refine ACode.cut [(.t 1, .v (.o (nat1 (d : Nat)))), (.t 2, .v (.o (nat1 deep))), (.t 3, .v (.o (.c (.box 0 1 0 0)))), (.t 4, .v (.o (.c (.ptr (rX e))))), (.t 8, .v (.o (bo1 false))), (.t 51, .v (.o (bo1 (!hdV e)))), (.b 0, .b 3 1 (dR ([rI ((c : Int) + 1)]))), (.u 0, .u)] ?_ ?_
  ·skip
   refine ACode.region ?_
   refine .cons (.fP 0 0 false rfl rfl) ?_
   refine .cons (.l1 1 rfl rfl) ?_
   refine .cons (.ne rfl rfl rfl) ?_
   refine .cons (.mv rfl rfl) ?_
   refine .cND 25 rfl (fun g25 => ?_) (fun g25 => ?_)
   ·skip
    refine .cons (.gT rfl rfl rfl (.fP 1 0 false rfl rfl)) ?_
    refine .cons (.gT rfl rfl rfl (.l1 1 rfl rfl)) ?_
    refine .cons (.gT rfl rfl rfl (.ne rfl rfl rfl)) ?_
    refine .cons (.pT rfl rfl rfl) ?_
    refine .cons (.mv rfl rfl) ?_
    refine AOps.cases 30 _ rfl (fun g30 => ?_) (fun g30 => ?_)
    ·try simp only [zs1, zs2, zs3, zs4, zs5, zs6, zs7] at g30
     refine .cons (.gF rfl rfl rfl) ?_
     refine .cons (.gF rfl rfl rfl) ?_
     refine .cons (.gF rfl rfl rfl) ?_
     refine .cons (.gF rfl rfl rfl) ?_
     refine .cons (.gU rfl rfl) ?_
     refine .cons (.gU rfl rfl) ?_
     refine .cons (.gU rfl rfl) ?_
     refine .cons (.gU rfl rfl) ?_
     refine .cons (.gF rfl rfl rfl) ?_
     refine .cons (.pT rfl rfl rfl) ?_
     refine .cons (.mv rfl rfl) ?_
     refine .cons (.gF rfl rfl rfl) ?_
     refine .cons (.gF rfl rfl rfl) ?_
     refine .cons (.gF rfl rfl rfl) ?_
     refine .cons (.gF rfl rfl rfl) ?_
     refine .cons (.gU rfl rfl) ?_
     refine .cons (.gU rfl rfl) ?_
     refine .cons (.gU rfl rfl) ?_
     refine .cons (.gU rfl rfl) ?_
     refine .cons (.gF rfl rfl rfl) ?_
     refine .cons (.pT rfl rfl rfl) ?_
     refine .nil ?_
     exact kc_n (Wk.keep [(0, 0)] rfl rfl ⟨ks rfl .dt, ks rfl .dt, ks rfl (.c .bx), ks rfl .dt, ks rfl .dt, ks rfl (.dt (vB (by first | (exfalso; omega) | (rw [hdV]; simp [*]; done) | (rw [hdV]; cases hA : nonA e.i <;> cases hC : nonC e.r <;> simp_all; done)))), kb 0 rfl (.dt rfl), trivial⟩)
    ·try simp only [zs1, zs2, zs3, zs4, zs5, zs6, zs7] at g30
     refine .cons (.gT rfl rfl rfl (.fP 0 0 false rfl rfl)) ?_
     refine .cons (.gT rfl rfl rfl (.l1 1 rfl rfl)) ?_
     refine .cons (.gT rfl rfl rfl (.ne rfl rfl rfl)) ?_
     refine .cons (.gT rfl rfl rfl (.mv rfl rfl)) ?_
     refine .cND 34 rfl (fun g34 => ?_) (fun g34 => ?_)
     ·skip
      refine .cons (.gT rfl rfl rfl (.fP 2 1 true rfl rfl)) ?_
      refine .cons (.gT rfl rfl rfl (.lN 2 rfl rfl rfl)) ?_
      refine .cons (.gT rfl rfl rfl (.cP [.tmp 36] rfl rfl rfl rfl (implNoA_fn _) rfl)) ?_
      refine .cons (.gT rfl rfl rfl (.nt rfl rfl)) ?_
      refine .cons (.gT rfl rfl rfl (.pT rfl rfl rfl)) ?_
      refine .cons (.pF rfl rfl rfl) ?_
      refine .cons (.mv rfl rfl) ?_
      refine AOps.cases 41 _ rfl (fun g41 => ?_) (fun g41 => ?_)
      ·try simp only [zs1, zs2, zs3, zs4, zs5, zs6, zs7] at g41
       refine .cons (.gF rfl rfl rfl) ?_
       refine .cons (.gF rfl rfl rfl) ?_
       refine .cons (.gF rfl rfl rfl) ?_
       refine .cons (.gF rfl rfl rfl) ?_
       refine .cons (.gU rfl rfl) ?_
       refine .cons (.gU rfl rfl) ?_
       refine .cons (.gU rfl rfl) ?_
       refine .cons (.gU rfl rfl) ?_
       refine .cons (.gF rfl rfl rfl) ?_
       refine .cons (.pT rfl rfl rfl) ?_
       refine .nil ?_
       exact kc_n (Wk.keep [(0, 0)] rfl rfl ⟨ks rfl .dt, ks rfl .dt, ks rfl (.c .bx), ks rfl .dt, ks rfl .dt, ks rfl (.dt (vB (by first | (exfalso; omega) | (rw [hdV]; simp [*]; done) | (rw [hdV]; cases hA : nonA e.i <;> cases hC : nonC e.r <;> simp_all; done)))), kb 0 rfl (.dt rfl), trivial⟩)
      ·try simp only [zs1, zs2, zs3, zs4, zs5, zs6, zs7] at g41
       refine .cons (.gT rfl rfl rfl (.fP 0 0 false rfl rfl)) ?_
       refine .cons (.gT rfl rfl rfl (.l1 1 rfl rfl)) ?_
       refine .cons (.gT rfl rfl rfl (.ne rfl rfl rfl)) ?_
       refine .cons (.gT rfl rfl rfl (.mv rfl rfl)) ?_
       refine .cND 45 rfl (fun g45 => ?_) (fun g45 => ?_)
       ·skip
        refine .cons (.gT rfl rfl rfl (.fP 4 1 true rfl rfl)) ?_
        refine .cons (.gT rfl rfl rfl (.lN 2 rfl rfl rfl)) ?_
        refine .cons (.gT rfl rfl rfl (.cP [.tmp 47] rfl rfl rfl rfl (implNoC_fn _) rfl)) ?_
        refine .cons (.gT rfl rfl rfl (.nt rfl rfl)) ?_
        refine .cons (.gT rfl rfl rfl (.pT rfl rfl rfl)) ?_
        refine .cons (.pF rfl rfl rfl) ?_
        refine .nil ?_
        exact kc_n (Wk.keep [(0, 0)] rfl rfl ⟨ks rfl .dt, ks rfl .dt, ks rfl (.c .bx), ks rfl .dt, ks rfl .dt, ks rfl (.dt (vB (by first | (exfalso; omega) | (rw [hdV]; simp [*]; done) | (rw [hdV]; cases hA : nonA e.i <;> cases hC : nonC e.r <;> simp_all; done)))), kb 0 rfl (.dt rfl), trivial⟩)
       ·skip
        refine .cons (.gF rfl rfl rfl) ?_
        refine .cons (.gF rfl rfl rfl) ?_
        refine .cons (.gF rfl rfl rfl) ?_
        refine .cons (.gF rfl rfl rfl) ?_
        refine .cons (.gT rfl rfl rfl (.pF rfl rfl rfl)) ?_
        refine .cons (.pF rfl rfl rfl) ?_
        refine .nil ?_
        exact kc_n (Wk.keep [(0, 0)] rfl rfl ⟨ks rfl .dt, ks rfl .dt, ks rfl (.c .bx), ks rfl .dt, ks rfl .dt, ks rfl (.dt (vB (by first | (exfalso; omega) | (rw [hdV]; simp [*]; done) | (rw [hdV]; cases hA : nonA e.i <;> cases hC : nonC e.r <;> simp_all; done)))), kb 0 rfl (.dt rfl), trivial⟩)
     ·skip
      refine .cons (.gF rfl rfl rfl) ?_
      refine .cons (.gF rfl rfl rfl) ?_
      refine .cons (.gF rfl rfl rfl) ?_
      refine .cons (.gF rfl rfl rfl) ?_
      refine .cons (.gT rfl rfl rfl (.pF rfl rfl rfl)) ?_
      refine .cons (.pF rfl rfl rfl) ?_
      refine .cons (.mv rfl rfl) ?_
      refine .cons (.gT rfl rfl rfl (.fP 0 0 false rfl rfl)) ?_
      refine .cons (.gT rfl rfl rfl (.l1 1 rfl rfl)) ?_
      refine .cons (.gT rfl rfl rfl (.ne rfl rfl rfl)) ?_
      refine .cons (.gT rfl rfl rfl (.mv rfl rfl)) ?_
      refine .cND 45 rfl (fun g45 => ?_) (fun g45 => ?_)
      ·skip
       refine .cons (.gT rfl rfl rfl (.fP 4 1 true rfl rfl)) ?_
       refine .cons (.gT rfl rfl rfl (.lN 2 rfl rfl rfl)) ?_
       refine .cons (.gT rfl rfl rfl (.cP [.tmp 47] rfl rfl rfl rfl (implNoC_fn _) rfl)) ?_
       refine .cons (.gT rfl rfl rfl (.nt rfl rfl)) ?_
       refine .cons (.gT rfl rfl rfl (.pT rfl rfl rfl)) ?_
       refine .cons (.pF rfl rfl rfl) ?_
       refine .nil ?_
       exact kc_n (Wk.keep [(0, 0)] rfl rfl ⟨ks rfl .dt, ks rfl .dt, ks rfl (.c .bx), ks rfl .dt, ks rfl .dt, ks rfl (.dt (vB (by first | (exfalso; omega) | (rw [hdV]; simp [*]; done) | (rw [hdV]; cases hA : nonA e.i <;> cases hC : nonC e.r <;> simp_all; done)))), kb 0 rfl (.dt rfl), trivial⟩)
      ·skip
       refine .cons (.gF rfl rfl rfl) ?_
       refine .cons (.gF rfl rfl rfl) ?_
       refine .cons (.gF rfl rfl rfl) ?_
       refine .cons (.gF rfl rfl rfl) ?_
       refine .cons (.gT rfl rfl rfl (.pF rfl rfl rfl)) ?_
       refine .cons (.pF rfl rfl rfl) ?_
       refine .nil ?_
       exact kc_n (Wk.keep [(0, 0)] rfl rfl ⟨ks rfl .dt, ks rfl .dt, ks rfl (.c .bx), ks rfl .dt, ks rfl .dt, ks rfl (.dt (vB (by first | (exfalso; omega) | (rw [hdV]; simp [*]; done) | (rw [hdV]; cases hA : nonA e.i <;> cases hC : nonC e.r <;> simp_all; done)))), kb 0 rfl (.dt rfl), trivial⟩)
   ·skip
    refine .cons (.gF rfl rfl rfl) ?_
    refine .cons (.gF rfl rfl rfl) ?_
    refine .cons (.gF rfl rfl rfl) ?_
    refine .cons (.pF rfl rfl rfl) ?_
    refine .cons (.mv rfl rfl) ?_
    refine .cons (.gT rfl rfl rfl (.fP 0 0 false rfl rfl)) ?_
    refine .cons (.gT rfl rfl rfl (.l1 1 rfl rfl)) ?_
    refine .cons (.gT rfl rfl rfl (.ne rfl rfl rfl)) ?_
    refine .cons (.gT rfl rfl rfl (.mv rfl rfl)) ?_
    refine .cND 34 rfl (fun g34 => ?_) (fun g34 => ?_)
    ·skip
     refine .cons (.gT rfl rfl rfl (.fP 2 1 true rfl rfl)) ?_
     refine .cons (.gT rfl rfl rfl (.lN 2 rfl rfl rfl)) ?_
     refine .cons (.gT rfl rfl rfl (.cP [.tmp 36] rfl rfl rfl rfl (implNoA_fn _) rfl)) ?_
     refine .cons (.gT rfl rfl rfl (.nt rfl rfl)) ?_
     refine .cons (.gT rfl rfl rfl (.pT rfl rfl rfl)) ?_
     refine .cons (.pF rfl rfl rfl) ?_
     refine .cons (.mv rfl rfl) ?_
     refine AOps.cases 41 _ rfl (fun g41 => ?_) (fun g41 => ?_)
     ·try simp only [zs1, zs2, zs3, zs4, zs5, zs6, zs7] at g41
      refine .cons (.gF rfl rfl rfl) ?_
      refine .cons (.gF rfl rfl rfl) ?_
      refine .cons (.gF rfl rfl rfl) ?_
      refine .cons (.gF rfl rfl rfl) ?_
      refine .cons (.gU rfl rfl) ?_
      refine .cons (.gU rfl rfl) ?_
      refine .cons (.gU rfl rfl) ?_
      refine .cons (.gU rfl rfl) ?_
      refine .cons (.gF rfl rfl rfl) ?_
      refine .cons (.pT rfl rfl rfl) ?_
      refine .nil ?_
      exact kc_n (Wk.keep [(0, 0)] rfl rfl ⟨ks rfl .dt, ks rfl .dt, ks rfl (.c .bx), ks rfl .dt, ks rfl .dt, ks rfl (.dt (vB (by first | (exfalso; omega) | (rw [hdV]; simp [*]; done) | (rw [hdV]; cases hA : nonA e.i <;> cases hC : nonC e.r <;> simp_all; done)))), kb 0 rfl (.dt rfl), trivial⟩)
     ·try simp only [zs1, zs2, zs3, zs4, zs5, zs6, zs7] at g41
      refine .cons (.gT rfl rfl rfl (.fP 0 0 false rfl rfl)) ?_
      refine .cons (.gT rfl rfl rfl (.l1 1 rfl rfl)) ?_
      refine .cons (.gT rfl rfl rfl (.ne rfl rfl rfl)) ?_
      refine .cons (.gT rfl rfl rfl (.mv rfl rfl)) ?_
      refine .cND 45 rfl (fun g45 => ?_) (fun g45 => ?_)
      ·skip
       refine .cons (.gT rfl rfl rfl (.fP 4 1 true rfl rfl)) ?_
       refine .cons (.gT rfl rfl rfl (.lN 2 rfl rfl rfl)) ?_
       refine .cons (.gT rfl rfl rfl (.cP [.tmp 47] rfl rfl rfl rfl (implNoC_fn _) rfl)) ?_
       refine .cons (.gT rfl rfl rfl (.nt rfl rfl)) ?_
       refine .cons (.gT rfl rfl rfl (.pT rfl rfl rfl)) ?_
       refine .cons (.pF rfl rfl rfl) ?_
       refine .nil ?_
       exact kc_n (Wk.keep [(0, 0)] rfl rfl ⟨ks rfl .dt, ks rfl .dt, ks rfl (.c .bx), ks rfl .dt, ks rfl .dt, ks rfl (.dt (vB (by first | (exfalso; omega) | (rw [hdV]; simp [*]; done) | (rw [hdV]; cases hA : nonA e.i <;> cases hC : nonC e.r <;> simp_all; done)))), kb 0 rfl (.dt rfl), trivial⟩)
      ·skip
       refine .cons (.gF rfl rfl rfl) ?_
       refine .cons (.gF rfl rfl rfl) ?_
       refine .cons (.gF rfl rfl rfl) ?_
       refine .cons (.gF rfl rfl rfl) ?_
       refine .cons (.gT rfl rfl rfl (.pF rfl rfl rfl)) ?_
       refine .cons (.pF rfl rfl rfl) ?_
       refine .nil ?_
       exact kc_n (Wk.keep [(0, 0)] rfl rfl ⟨ks rfl .dt, ks rfl .dt, ks rfl (.c .bx), ks rfl .dt, ks rfl .dt, ks rfl (.dt (vB (by first | (exfalso; omega) | (rw [hdV]; simp [*]; done) | (rw [hdV]; cases hA : nonA e.i <;> cases hC : nonC e.r <;> simp_all; done)))), kb 0 rfl (.dt rfl), trivial⟩)
    ·skip
     refine .cons (.gF rfl rfl rfl) ?_
     refine .cons (.gF rfl rfl rfl) ?_
     refine .cons (.gF rfl rfl rfl) ?_
     refine .cons (.gF rfl rfl rfl) ?_
     refine .cons (.gT rfl rfl rfl (.pF rfl rfl rfl)) ?_
     refine .cons (.pF rfl rfl rfl) ?_
     refine .cons (.mv rfl rfl) ?_
     refine .cons (.gT rfl rfl rfl (.fP 0 0 false rfl rfl)) ?_
     refine .cons (.gT rfl rfl rfl (.l1 1 rfl rfl)) ?_
     refine .cons (.gT rfl rfl rfl (.ne rfl rfl rfl)) ?_
     refine .cons (.gT rfl rfl rfl (.mv rfl rfl)) ?_
     refine .cND 45 rfl (fun g45 => ?_) (fun g45 => ?_)
     ·skip
      refine .cons (.gT rfl rfl rfl (.fP 4 1 true rfl rfl)) ?_
      refine .cons (.gT rfl rfl rfl (.lN 2 rfl rfl rfl)) ?_
      refine .cons (.gT rfl rfl rfl (.cP [.tmp 47] rfl rfl rfl rfl (implNoC_fn _) rfl)) ?_
      refine .cons (.gT rfl rfl rfl (.nt rfl rfl)) ?_
      refine .cons (.gT rfl rfl rfl (.pT rfl rfl rfl)) ?_
      refine .cons (.pF rfl rfl rfl) ?_
      refine .nil ?_
      exact kc_n (Wk.keep [(0, 0)] rfl rfl ⟨ks rfl .dt, ks rfl .dt, ks rfl (.c .bx), ks rfl .dt, ks rfl .dt, ks rfl (.dt (vB (by first | (exfalso; omega) | (rw [hdV]; simp [*]; done) | (rw [hdV]; cases hA : nonA e.i <;> cases hC : nonC e.r <;> simp_all; done)))), kb 0 rfl (.dt rfl), trivial⟩)
     ·skip
      refine .cons (.gF rfl rfl rfl) ?_
      refine .cons (.gF rfl rfl rfl) ?_
      refine .cons (.gF rfl rfl rfl) ?_
      refine .cons (.gF rfl rfl rfl) ?_
      refine .cons (.gT rfl rfl rfl (.pF rfl rfl rfl)) ?_
      refine .cons (.pF rfl rfl rfl) ?_
      refine .nil ?_
      exact kc_n (Wk.keep [(0, 0)] rfl rfl ⟨ks rfl .dt, ks rfl .dt, ks rfl (.c .bx), ks rfl .dt, ks rfl .dt, ks rfl (.dt (vB (by first | (exfalso; omega) | (rw [hdV]; simp [*]; done) | (rw [hdV]; cases hA : nonA e.i <;> cases hC : nonC e.r <;> simp_all; done)))), kb 0 rfl (.dt rfl), trivial⟩)
  refine ks_n ?_
  refine ACode.condT rfl (fun h51 => ?_) (fun h51 => ?_)
  ·try simp only [zs1, zs2, zs3, zs4, zs5, zs6, zs7] at h51
   refine ACode.seq ?_
   have hR := scan_hd (d := d) (L := L) (c := c) h51
   refine ACode.region ?_
   refine .cons (.asg rfl rfl) ?_
   refine .nil ?_
   refine ks_n ?_
   refine ACode.ret ?_
   refine ks_r ?_
   obtain ⟨r, hr⟩ : ∃ r, r = (scanV d (L + 1) c e) := ⟨_, rfl⟩
   rw [← hr]
   rw [← hr] at hR
   refine kf_wret [(.t 3, .v (.o (.c (.box 0 1 0 0)))), (.t 8, .v (.o (bo1 r.1))), (.b 0, .b 3 1 (dR ([rI (r.2 : Nat)]))), (.u 0, .u)] (Wk.keep [(0, 0)] rfl rfl ⟨ks rfl (.c .bx), ks rfl (.dt (vB (by rw [hR] <;> first | rfl | grind))), kb 0 rfl (.dt rfl (by rw [hR] <;> rfl)), trivial⟩) rfl ?_ (hbI_box rfl)
   rfl
  ·try simp only [zs1, zs2, zs3, zs4, zs5, zs6, zs7] at h51
   refine ACode.skip ?_
   refine ks_n ?_
   refine ACode.seq ?_
   refine ACode.block ?_
   refine ACode.seq ?_
   refine ACode.region ?_
   refine .cons (.fP 0 0 false rfl rfl) ?_
   refine .cons (.l1 1 rfl rfl) ?_
   refine .cons (.eq rfl rfl rfl) ?_
   refine .cons (.asg rfl rfl) ?_
   refine .nil ?_
   refine ks_n ?_
   refine .cD rfl (fun h52 => ?_) (fun h52 => ?_)
   ·skip
    refine ACode.seq ?_
    have hR := scan1 (d := d) (L := L) h52 h51 hc1
    refine ACode.region ?_
    refine .cons (.fP 1 0 false rfl rfl) ?_
    refine .cons (.l1 1 rfl rfl) ?_
    refine .cons (.cP [.tmp 57, .const (.int .i64 (0)), .const (.int .i64 (99))] rfl rfl rfl rfl (within_fn _ 0 99) rfl) ?_
    refine .cons (.mv rfl rfl) ?_
    refine AOps.cases 59 _ rfl (fun g59 => ?_) (fun g59 => ?_)
    ·try simp only [zs1, zs2, zs3, zs4, zs5, zs6, zs7] at g59
     refine .cons (.gT rfl rfl rfl (.fP 6 0 false rfl rfl)) ?_
     refine .cons (.gT rfl rfl rfl (.l1 1 rfl rfl)) ?_
     refine .cons (.gT rfl rfl rfl (.ln 89 7 112 rfl rfl rfl)) ?_
     refine .cons (.gT rfl rfl rfl (.eq rfl rfl rfl)) ?_
     refine .cons (.pT rfl rfl rfl) ?_
     refine .cons (.asg rfl rfl) ?_
     refine .nil ?_
     refine ks_n ?_
     refine ACode.ret ?_
     refine kb_r ?_
     refine ks_r ?_
     obtain ⟨r, hr⟩ : ∃ r, r = (scanV d (L + 1) c e) := ⟨_, rfl⟩
     rw [← hr]
     rw [← hr] at hR
     refine kf_wret [(.t 3, .v (.o (.c (.box 0 1 0 0)))), (.t 8, .v (.o (bo1 r.1))), (.b 0, .b 3 1 (dR ([rI (r.2 : Nat)]))), (.u 0, .u)] (Wk.keep [(0, 0)] rfl rfl ⟨ks rfl (.c .bx), ks rfl (.dt (vB (by rw [hR] <;> first | rfl | grind))), kb 0 rfl (.dt rfl (by rw [hR] <;> rfl)), trivial⟩) rfl ?_ (hbI_box rfl)
     rfl
    ·try simp only [zs1, zs2, zs3, zs4, zs5, zs6, zs7] at g59
     refine .cons (.gF rfl rfl rfl) ?_
     refine .cons (.gF rfl rfl rfl) ?_
     refine .cons (.gF rfl rfl rfl) ?_
     refine .cons (.gF rfl rfl rfl) ?_
     refine .cons (.pF rfl rfl rfl) ?_
     refine .cons (.asg rfl rfl) ?_
     refine .nil ?_
     refine ks_n ?_
     refine ACode.ret ?_
     refine kb_r ?_
     refine ks_r ?_
     obtain ⟨r, hr⟩ : ∃ r, r = (scanV d (L + 1) c e) := ⟨_, rfl⟩
     rw [← hr]
     rw [← hr] at hR
     refine kf_wret [(.t 3, .v (.o (.c (.box 0 1 0 0)))), (.t 8, .v (.o (bo1 r.1))), (.b 0, .b 3 1 (dR ([rI (r.2 : Nat)]))), (.u 0, .u)] (Wk.keep [(0, 0)] rfl rfl ⟨ks rfl (.c .bx), ks rfl (.dt (vB (by rw [hR] <;> first | rfl | grind))), kb 0 rfl (.dt rfl (by rw [hR] <;> rfl)), trivial⟩) rfl ?_ (hbI_box rfl)
     rfl
   ·skip
    refine ACode.seq ?_
    refine ACode.region ?_
    refine .cons (.fP 0 0 false rfl rfl) ?_
    refine .cons (.l1 1 rfl rfl) ?_
    refine .cons (.eq rfl rfl rfl) ?_
    refine .cons (.asg rfl rfl) ?_
    refine .nil ?_
    refine ks_n ?_
    refine .cD rfl (fun h65 => ?_) (fun h65 => ?_)
    ·skip
     refine ACode.seq ?_
     have hR := scan2 (d := d) (L := L) h65 h51 hc1
     refine ACode.region ?_
     refine .cons (.fP 2 1 true rfl rfl) ?_
     refine .cons (.lN 2 rfl rfl rfl) ?_
     refine .cons (.cP [.tmp 70] rfl rfl rfl rfl (implAffV_fn _) rfl) ?_
     refine .cons (.mv rfl rfl) ?_
     refine AOps.cases 72 _ rfl (fun g72 => ?_) (fun g72 => ?_)
     ·try simp only [zs1, zs2, zs3, zs4, zs5, zs6, zs7] at g72
      refine .cons (.gT rfl rfl rfl (.fP 2 1 true rfl rfl)) ?_
      refine .cons (.gT rfl rfl rfl (.lN 2 rfl rfl rfl)) ?_
      refine .cons (.gT rfl rfl rfl (.cP [.tmp 74] rfl rfl rfl rfl (depth_fn _) rfl)) ?_
      refine .cons (.gT rfl rfl rfl (.mv rfl rfl)) ?_
      refine .cons (.gT rfl rfl rfl (.le rfl rfl rfl)) ?_
      refine .cons (.pT rfl rfl rfl) ?_
      refine .cons (.mv rfl rfl) ?_
      refine AOps.cases 79 _ rfl (fun g79 => ?_) (fun g79 => ?_)
      ·try simp only [zs1, zs2, zs3, zs4, zs5, zs6, zs7] at g79
       refine .cons (.gT rfl rfl rfl (.fP 6 0 false rfl rfl)) ?_
       refine .cons (.gT rfl rfl rfl (.l1 1 rfl rfl)) ?_
       refine .cons (.gT rfl rfl rfl (.ln 89 7 112 rfl rfl rfl)) ?_
       refine .cons (.gT rfl rfl rfl (.eq rfl rfl rfl)) ?_
       refine .cons (.pT rfl rfl rfl) ?_
       refine .cons (.asg rfl rfl) ?_
       refine .nil ?_
       refine ks_n ?_
       refine ACode.ret ?_
       refine kb_r ?_
       refine ks_r ?_
       obtain ⟨r, hr⟩ : ∃ r, r = (scanV d (L + 1) c e) := ⟨_, rfl⟩
       rw [← hr]
       rw [← hr] at hR
       refine kf_wret [(.t 3, .v (.o (.c (.box 0 1 0 0)))), (.t 8, .v (.o (bo1 r.1))), (.b 0, .b 3 1 (dR ([rI (r.2 : Nat)]))), (.u 0, .u)] (Wk.keep [(0, 0)] rfl rfl ⟨ks rfl (.c .bx), ks rfl (.dt (vB (by rw [hR] <;> first | rfl | grind))), kb 0 rfl (.dt rfl (by rw [hR] <;> rfl)), trivial⟩) rfl ?_ (hbI_box rfl)
       rfl
      ·try simp only [zs1, zs2, zs3, zs4, zs5, zs6, zs7] at g79
       refine .cons (.gF rfl rfl rfl) ?_
       refine .cons (.gF rfl rfl rfl) ?_
       refine .cons (.gF rfl rfl rfl) ?_
       refine .cons (.gF rfl rfl rfl) ?_
       refine .cons (.pF rfl rfl rfl) ?_
       refine .cons (.asg rfl rfl) ?_
       refine .nil ?_
       refine ks_n ?_
       refine ACode.ret ?_
       refine kb_r ?_
       refine ks_r ?_
       obtain ⟨r, hr⟩ : ∃ r, r = (scanV d (L + 1) c e) := ⟨_, rfl⟩
       rw [← hr]
       rw [← hr] at hR
       refine kf_wret [(.t 3, .v (.o (.c (.box 0 1 0 0)))), (.t 8, .v (.o (bo1 r.1))), (.b 0, .b 3 1 (dR ([rI (r.2 : Nat)]))), (.u 0, .u)] (Wk.keep [(0, 0)] rfl rfl ⟨ks rfl (.c .bx), ks rfl (.dt (vB (by rw [hR] <;> first | rfl | grind))), kb 0 rfl (.dt rfl (by rw [hR] <;> rfl)), trivial⟩) rfl ?_ (hbI_box rfl)
       rfl
     ·try simp only [zs1, zs2, zs3, zs4, zs5, zs6, zs7] at g72
      refine .cons (.gF rfl rfl rfl) ?_
      refine .cons (.gF rfl rfl rfl) ?_
      refine .cons (.gF rfl rfl rfl) ?_
      refine .cons (.gF rfl rfl rfl) ?_
      refine .cons (.gF rfl rfl rfl) ?_
      refine .cons (.pF rfl rfl rfl) ?_
      refine .cons (.mv rfl rfl) ?_
      refine .cons (.gF rfl rfl rfl) ?_
      refine .cons (.gF rfl rfl rfl) ?_
      refine .cons (.gF rfl rfl rfl) ?_
      refine .cons (.gF rfl rfl rfl) ?_
      refine .cons (.pF rfl rfl rfl) ?_
      refine .cons (.asg rfl rfl) ?_
      refine .nil ?_
      refine ks_n ?_
      refine ACode.ret ?_
      refine kb_r ?_
      refine ks_r ?_
      obtain ⟨r, hr⟩ : ∃ r, r = (scanV d (L + 1) c e) := ⟨_, rfl⟩
      rw [← hr]
      rw [← hr] at hR
      refine kf_wret [(.t 3, .v (.o (.c (.box 0 1 0 0)))), (.t 8, .v (.o (bo1 r.1))), (.b 0, .b 3 1 (dR ([rI (r.2 : Nat)]))), (.u 0, .u)] (Wk.keep [(0, 0)] rfl rfl ⟨ks rfl (.c .bx), ks rfl (.dt (vB (by rw [hR] <;> first | rfl | grind))), kb 0 rfl (.dt rfl (by rw [hR] <;> rfl)), trivial⟩) rfl ?_ (hbI_box rfl)
      rfl
    ·skip
     refine ACode.seq ?_
     refine ACode.region ?_
     refine .cons (.fP 0 0 false rfl rfl) ?_
     refine .cons (.l1 1 rfl rfl) ?_
     refine .cons (.eq rfl rfl rfl) ?_
     refine .cons (.asg rfl rfl) ?_
     refine .nil ?_
     refine ks_n ?_
     refine .cD rfl (fun h85 => ?_) (fun h85 => ?_)
     ·skip
      refine ACode.seq ?_
      have hR := scan3 (d := d) (L := L) h85 h51 hc1
      refine ACode.region ?_
      refine .cons (.fP 4 1 true rfl rfl) ?_
      refine .cons (.lN 2 rfl rfl rfl) ?_
      refine .cons (.mv rfl rfl) ?_
      refine .cons (.cP [.tmp 90, .tmp 91] rfl rfl rfl rfl (accOk_fn d _ hrl) rfl) ?_
      refine .cons (.mv rfl rfl) ?_
      refine AOps.cases 93 _ rfl (fun g93 => ?_) (fun g93 => ?_)
      ·try simp only [zs1, zs2, zs3, zs4, zs5, zs6, zs7] at g93
       refine .cons (.gT rfl rfl rfl (.fP 6 0 false rfl rfl)) ?_
       refine .cons (.gT rfl rfl rfl (.l1 1 rfl rfl)) ?_
       refine .cons (.gT rfl rfl rfl (.ln 89 7 112 rfl rfl rfl)) ?_
       refine .cons (.gT rfl rfl rfl (.eq rfl rfl rfl)) ?_
       refine .cons (.pT rfl rfl rfl) ?_
       refine .cons (.asg rfl rfl) ?_
       refine .nil ?_
       refine ks_n ?_
       refine ACode.ret ?_
       refine kb_r ?_
       refine ks_r ?_
       obtain ⟨r, hr⟩ : ∃ r, r = (scanV d (L + 1) c e) := ⟨_, rfl⟩
       rw [← hr]
       rw [← hr] at hR
       refine kf_wret [(.t 3, .v (.o (.c (.box 0 1 0 0)))), (.t 8, .v (.o (bo1 r.1))), (.b 0, .b 3 1 (dR ([rI (r.2 : Nat)]))), (.u 0, .u)] (Wk.keep [(0, 0)] rfl rfl ⟨ks rfl (.c .bx), ks rfl (.dt (vB (by rw [hR] <;> first | rfl | grind))), kb 0 rfl (.dt rfl (by rw [hR] <;> rfl)), trivial⟩) rfl ?_ (hbI_box rfl)
       rfl
      ·try simp only [zs1, zs2, zs3, zs4, zs5, zs6, zs7] at g93
       refine .cons (.gF rfl rfl rfl) ?_
       refine .cons (.gF rfl rfl rfl) ?_
       refine .cons (.gF rfl rfl rfl) ?_
       refine .cons (.gF rfl rfl rfl) ?_
       refine .cons (.pF rfl rfl rfl) ?_
       refine .cons (.asg rfl rfl) ?_
       refine .nil ?_
       refine ks_n ?_
       refine ACode.ret ?_
       refine kb_r ?_
       refine ks_r ?_
       obtain ⟨r, hr⟩ : ∃ r, r = (scanV d (L + 1) c e) := ⟨_, rfl⟩
       rw [← hr]
       rw [← hr] at hR
       refine kf_wret [(.t 3, .v (.o (.c (.box 0 1 0 0)))), (.t 8, .v (.o (bo1 r.1))), (.b 0, .b 3 1 (dR ([rI (r.2 : Nat)]))), (.u 0, .u)] (Wk.keep [(0, 0)] rfl rfl ⟨ks rfl (.c .bx), ks rfl (.dt (vB (by rw [hR] <;> first | rfl | grind))), kb 0 rfl (.dt rfl (by rw [hR] <;> rfl)), trivial⟩) rfl ?_ (hbI_box rfl)
       rfl
     ·skip
      refine ACode.seq ?_
      refine ACode.region ?_
      refine .cons (.fP 0 0 false rfl rfl) ?_
      refine .cons (.l1 1 rfl rfl) ?_
      refine .cons (.cP [.tmp 101] rfl rfl rfl rfl (isOp_fn _) rfl) ?_
      refine .cons (.nt rfl rfl) ?_
      refine .cons (.mv rfl rfl) ?_
      refine AOps.cases 104 _ rfl (fun g104 => ?_) (fun g104 => ?_)
      ·try simp only [zs1, zs2, zs3, zs4, zs5, zs6, zs7] at g104
       refine .cons (.gF rfl rfl rfl) ?_
       refine .cons (.gF rfl rfl rfl) ?_
       refine .cons (.gF rfl rfl rfl) ?_
       refine .cons (.gF rfl rfl rfl) ?_
       refine .cons (.pT rfl rfl rfl) ?_
       refine .cons (.asg rfl rfl) ?_
       refine .nil ?_
       refine ks_n ?_
       refine ACode.condT rfl (fun _ => ?_) (fun h => by first | (cases h; done) | (simp [*] at h; done) | (exfalso; simp_all; done))
       refine ACode.seq ?_
       have hR := scan_bad (d := d) (L := L) (c := c) ⟨h52, h65, h85⟩ (by first | exact .inl (by assumption) | exact .inr (by omega))
       refine ACode.region ?_
       refine .cons (.asg rfl rfl) ?_
       refine .nil ?_
       refine ks_n ?_
       refine ACode.ret ?_
       refine kb_r ?_
       refine ks_r ?_
       obtain ⟨r, hr⟩ : ∃ r, r = (scanV d (L + 1) c e) := ⟨_, rfl⟩
       rw [← hr]
       rw [← hr] at hR
       refine kf_wret [(.t 3, .v (.o (.c (.box 0 1 0 0)))), (.t 8, .v (.o (bo1 r.1))), (.b 0, .b 3 1 (dR ([rI (r.2 : Nat)]))), (.u 0, .u)] (Wk.keep [(0, 0)] rfl rfl ⟨ks rfl (.c .bx), ks rfl (.dt (vB (by rw [hR] <;> first | rfl | grind))), kb 0 rfl (.dt rfl (by rw [hR] <;> rfl)), trivial⟩) rfl ?_ (hbI_box rfl)
       rfl
      ·try simp only [zs1, zs2, zs3, zs4, zs5, zs6, zs7] at g104
       refine .cons (.gT rfl rfl rfl (.fP 6 0 false rfl rfl)) ?_
       refine .cons (.gT rfl rfl rfl (.l1 1 rfl rfl)) ?_
       refine .cons (.gT rfl rfl rfl (.ln 89 7 112 rfl rfl rfl)) ?_
       refine .cons (.gT rfl rfl rfl (.ne rfl rfl rfl)) ?_
       refine .cons (.pF rfl rfl rfl) ?_
       refine .cons (.asg rfl rfl) ?_
       refine .nil ?_
       refine ks_n ?_
       refine ACode.condT rfl (fun h99 => ?_) (fun h99 => ?_)
       ·try simp only [zs1, zs2, zs3, zs4, zs5, zs6, zs7] at h99
        refine ACode.seq ?_
        have hR := scan_bad (d := d) (L := L) (c := c) ⟨h52, h65, h85⟩ (by first | exact .inl (by assumption) | exact .inr (by omega))
        refine ACode.region ?_
        refine .cons (.asg rfl rfl) ?_
        refine .nil ?_
        refine ks_n ?_
        refine ACode.ret ?_
        refine kb_r ?_
        refine ks_r ?_
        obtain ⟨r, hr⟩ : ∃ r, r = (scanV d (L + 1) c e) := ⟨_, rfl⟩
        rw [← hr]
        rw [← hr] at hR
        refine kf_wret [(.t 3, .v (.o (.c (.box 0 1 0 0)))), (.t 8, .v (.o (bo1 r.1))), (.b 0, .b 3 1 (dR ([rI (r.2 : Nat)]))), (.u 0, .u)] (Wk.keep [(0, 0)] rfl rfl ⟨ks rfl (.c .bx), ks rfl (.dt (vB (by rw [hR] <;> first | rfl | grind))), kb 0 rfl (.dt rfl (by rw [hR] <;> rfl)), trivial⟩) rfl ?_ (hbI_box rfl)
        rfl
       ·try simp only [zs1, zs2, zs3, zs4, zs5, zs6, zs7] at h99
        refine ACode.skip ?_
        refine kb_n ?_
        refine ks_n ?_
        refine ACode.seq ?_
        obtain ⟨x, y, hks⟩ := two_of (l := e.ks) (by omega)
        have hR := scan_op (d := d) (L := L) (by assumption) h51 hc1 hks
        obtain ⟨_, hx2, _, _⟩ := scanV_iff d L (c + 1) x
        refine ACode.region ?_
        refine .cons (.fP 6 0 false rfl rfl) ?_
        refine .cons (.l1 1 rfl rfl) ?_
        refine .cons (.xL 89 7 112 (i := 0) rfl rfl rfl rfl rfl (by rw [hks]; exact rE_at rfl)) ?_
        refine .cons (.lN 7 rfl rfl rfl) ?_
        refine .cons (.mv rfl rfl) ?_
        refine .cons (.mv rfl rfl) ?_
        refine .cons (.pl rfl rfl rfl) ?_
        refine .cons (.mv rfl rfl) ?_
        refine .cons (.cO [.tmp 113, .tmp 114, .tmp 116, .tmp 117] [(0, 0)] rfl rfl rfl rfl (ih x (by rw [hks]; simp) (c + 1) (by omega)) rfl ⟨rfl, trivial⟩ (hbI_flat _) (hbI_flat _) (hbI_HB _) outS_one) ?_
        refine .cons (.mv rfl rfl) ?_
        refine AOps.cases 119 _ rfl (fun g119 => ?_) (fun g119 => ?_)
        ·try simp only [zs1, zs2, zs3, zs4, zs5, zs6, zs7] at g119
         have hc2 : (scanV d L (c + 1) x).2 ≤ 12 := by have h1 := hx2 g119; have h2 := ((scanV_iff d L (c + 1) x).1.1 g119).2; omega
         rw [if_pos g119] at hR
         refine .cons (.gT rfl rfl rfl (.fP 6 0 false rfl rfl)) ?_
         refine .cons (.gT rfl rfl rfl (.l1 1 rfl rfl)) ?_
         refine .cons (.gT rfl rfl rfl (.xL 89 7 112 (i := 1) rfl rfl rfl rfl rfl (by rw [hks]; exact rE_at rfl))) ?_
         refine .cons (.gT rfl rfl rfl (.lN 7 rfl rfl rfl)) ?_
         refine .cons (.gT rfl rfl rfl (.mv rfl rfl)) ?_
         refine .cons (.gT rfl rfl rfl (.mv rfl rfl)) ?_
         refine .cons (.gT rfl rfl rfl (.pl rfl rfl rfl)) ?_
         refine .cons (.gT rfl rfl rfl (.mv rfl rfl)) ?_
         refine .cons (.gT rfl rfl rfl (.cO [.tmp 123, .tmp 124, .tmp 126, .tmp 127] [(0, 0)] rfl rfl rfl rfl (ih y (by rw [hks]; simp) (scanV d L (c + 1) x).2 hc2) rfl ⟨rfl, trivial⟩ (hbI_flat _) (hbI_flat _) (hbI_HB _) outS_one)) ?_
         refine .cons (.pT rfl rfl rfl) ?_
         refine .cons (.asg rfl rfl) ?_
         refine .nil ?_
         refine ks_n ?_
         refine ACode.ret ?_
         obtain ⟨r, hr⟩ : ∃ r, r = (scanV d (L + 1) c e) := ⟨_, rfl⟩
         rw [← hr]
         rw [← hr] at hR
         refine kf_wret [(.t 3, .v (.o (.c (.box 0 1 0 0)))), (.t 8, .v (.o (bo1 r.1))), (.b 0, .b 3 1 (dR ([rI (r.2 : Nat)]))), (.u 0, .u)] (Wk.keep [(0, 0)] rfl rfl ⟨ks rfl (.c .bx), ks rfl (.dt (vB (by rw [hR] <;> first | rfl | grind))), kb 0 rfl (.dt rfl (by rw [hR] <;> rfl)), trivial⟩) rfl ?_ (hbI_box rfl)
         rfl
        ·try simp only [zs1, zs2, zs3, zs4, zs5, zs6, zs7] at g119
         rw [if_neg (by rw [g119]; simp)] at hR
         refine .cons (.gF rfl rfl rfl) ?_
         refine .cons (.gF rfl rfl rfl) ?_
         refine .cons (.gF rfl rfl rfl) ?_
         refine .cons (.gF rfl rfl rfl) ?_
         refine .cons (.gF rfl rfl rfl) ?_
         refine .cons (.gF rfl rfl rfl) ?_
         refine .cons (.gF rfl rfl rfl) ?_
         refine .cons (.gF rfl rfl rfl) ?_
         refine .cons (.gF rfl rfl rfl) ?_
         refine .cons (.pF rfl rfl rfl) ?_
         refine .cons (.asg rfl rfl) ?_
         refine .nil ?_
         refine ks_n ?_
         refine ACode.ret ?_
         obtain ⟨r, hr⟩ : ∃ r, r = (scanV d (L + 1) c e) := ⟨_, rfl⟩
         rw [← hr]
         rw [← hr] at hR
         refine kf_wret [(.t 3, .v (.o (.c (.box 0 1 0 0)))), (.t 8, .v (.o (bo1 r.1))), (.b 0, .b 3 1 (dR ([rI (r.2 : Nat)]))), (.u 0, .u)] (Wk.keep [(0, 0)] rfl rfl ⟨ks rfl (.c .bx), ks rfl (.dt (vB (by rw [hR] <;> first | rfl | grind))), kb 0 rfl (.dt rfl (by rw [hR] <;> rfl)), trivial⟩) rfl ?_ (hbI_box rfl)
         rfl

theorem szE_eq (e : Ex) : szE e = e.i.1.length + szC e.r + e.ks.length + szEs e.ks := by cases e; rw [szE]; rfl
theorem exprScan_fn (d : Nat) : ∀ (L : Nat) (deep : Int) (c : Nat) (e : Ex), deep = 6 - (L : Int) → L ≤ 5 → c ≤ 12 → szE e ≤ 1099511627776 →
    Fn Tryz.prog 167 (hbI (c : Nat)) [ad (rX e), nat1 (d : Nat), nat1 deep, .c (.box 0 1 0 0)] (.o (bo1 (scanV d L c e).1)) (hbI ((scanV d L c e).2 : Nat))
  | 0, deep, c, e, hd, hL, hc, hs => scan_zero d hc (by omega) (by rw [szE_eq, szC] at hs; have := szAs_len e.r.2; omega) (by omega)
  | L + 1, deep, c, e, hd, hL, hc, hs => scan_succ d hc (by omega) (by rw [szE_eq, szC] at hs; have := szAs_len e.r.2; omega) (by omega) fun x hx c hc =>
      exprScan_fn d L (deep + 1) c x (by omega) (by omega) hc (by have := szEs_mem hx; rw [szE_eq] at hs; omega)
theorem szS_parts {s : Stm} (hs : szS s ≤ 1099511627776) : s.1.2.length ≤ 1099511627776 ∧ szE s.2 ≤ 1099511627776 := by
  rw [szS, szC] at hs
  have := szAs_len s.1.2
  exact ⟨by omega, by omega⟩
theorem stmtV_no {d : Int} {s : Stm} (h : inB d 0 4 = false) : stmtV d s = false := by rw [stmtV, h]; rfl
theorem stmtV_w {d : Int} {s : Stm} (h : inB d 0 4 = true) : stmtV d s = (accV d.toNat s.1 && (scanV d.toNat 5 0 s.2).1) := by
  rw [stmtV, h, Bool.true_and, Bool.and_assoc]
  congr 1
  rw [Bool.eq_iff_iff, Bool.and_eq_true, decide_eq_true_eq, (scanV_iff d.toNat 5 0 s.2).1, Nat.zero_add]

theorem accOk_fi {d : Int} (h : ((d.toNat : Nat) : Int) = d) (a : Acc) (ha : a.2.length ≤ 1099511627776) : Fn Tryz.prog 166 [] [ad (rC a), nat1 d] (.o (bo1 (accV d.toNat a))) [] := by
  have h2 := accOk_fn d.toNat a ha
  rw [h] at h2; exact h2
theorem exprScan_fi {d : Int} (h : ((d.toNat : Nat) : Int) = d) (e : Ex) (hs : szE e ≤ 1099511627776) : Fn Tryz.prog 167 (hbI 0) [ad (rX e), nat1 d, nat1 1, .c (.box 0 1 0 0)] (.o (bo1 (scanV d.toNat 5 0 e).1)) (hbI ((scanV d.toNat 5 0 e).2 : Nat)) := by
  have h2 := exprScan_fn d.toNat 5 1 0 e (by omega) (by omega) (by omega) hs
  rw [h] at h2; exact h2

set_option maxRecDepth 100000 in
set_option maxHeartbeats 1600000 in
theorem implStmtV_fn (d : Int) (s : Stm) (hs : szS s ≤ 1099511627776) : Fn Tryz.prog 122 [] [ad (rS s), nat1 d] (.o (bo1 (stmtV d s))) [] := by
 obtain ⟨hs1, hs2⟩ := szS_parts hs
 refine Fn.code0 Tryz.func122 rfl rfl rfl rfl ?_
 refine ACode.seq ?_
 refine ACode.region ?_
 refine .cons (St1.boxP rfl rfl rfl rfl rfl rfl) ?_
 refine .cons (.asg rfl rfl) ?_
 refine .nil ?_
 refine ks_n ?_
 refine ACode.seq ?_
 refine ACode.region ?_
 refine .cons (.al 105 [.int .i64 0] rfl rfl rfl) ?_
 refine .cons (.sT 1 false rfl rfl rfl rfl rfl rfl rfl) ?_
 refine .nil ?_
 refine ks_n ?_
 refine ACode.seq ?_
 refine ACode.region ?_
 refine .cons (.mv rfl rfl) ?_
 refine .cons (.cP [.tmp 6, .const (.int .i64 (0)), .const (.int .i64 (4))] rfl rfl rfl rfl (within_fn _ 0 4) rfl) ?_
 refine .cons (.mv rfl rfl) ?_
 refine AOps.cases 8 _ rfl (fun g8 => ?_) (fun g8 => ?_)
 ·try simp only [zs1, zs2, zs3, zs4, zs5, zs6, zs7] at g8
  have hD : ((d.toNat : Nat) : Int) = d := by simp only [inB, decide_eq_true_eq] at g8; omega
  refine .cons (.gT rfl rfl rfl (.fP 0 1 true rfl rfl)) ?_
  refine .cons (.gT rfl rfl rfl (.lN 2 rfl rfl rfl)) ?_
  refine .cons (.gT rfl rfl rfl (.mv rfl rfl)) ?_
  refine .cons (.gT rfl rfl rfl (.cP [.tmp 10, .tmp 11] rfl rfl rfl rfl (accOk_fi hD s.1 hs1) rfl)) ?_
  refine .cons (.pT rfl rfl rfl) ?_
  refine .cons (.mv rfl rfl) ?_
  refine AOps.cases 14 _ rfl (fun g14 => ?_) (fun g14 => ?_)
  ·try simp only [zs1, zs2, zs3, zs4, zs5, zs6, zs7] at g14
   refine .cons (.gT rfl rfl rfl (.fP 2 6 true rfl rfl)) ?_
   refine .cons (.gT rfl rfl rfl (.lN 7 rfl rfl rfl)) ?_
   refine .cons (.gT rfl rfl rfl (.mv rfl rfl)) ?_
   refine .cons (.gT rfl rfl rfl (.cO [.tmp 16, .tmp 17, .const (.int .i64 (1)), .tmp 5] [(0, 105)] rfl rfl rfl rfl (exprScan_fi hD s.2 hs2) rfl ⟨rfl, trivial⟩ (hbI_flat _) (hbI_flat _) (hbI_HB _) outS_one)) ?_
   refine .cons (.pT rfl rfl rfl) ?_
   refine .cons (.asg rfl rfl) ?_
   refine .nil ?_
   refine ks_n ?_
   refine ACode.ret ?_
   refine kf_ret rfl ?_ nobox
   first | exact leafB (stmtV_no g8).symm | exact leafB (by rw [stmtV_w g8, g14]; first | rfl | simp)
  ·try simp only [zs1, zs2, zs3, zs4, zs5, zs6, zs7] at g14
   refine .cons (.gF rfl rfl rfl) ?_
   refine .cons (.gF rfl rfl rfl) ?_
   refine .cons (.gF rfl rfl rfl) ?_
   refine .cons (.gF rfl rfl rfl) ?_
   refine .cons (.pF rfl rfl rfl) ?_
   refine .cons (.asg rfl rfl) ?_
   refine .nil ?_
   refine ks_n ?_
   refine ACode.ret ?_
   refine kf_ret rfl ?_ nobox
   first | exact leafB (stmtV_no g8).symm | exact leafB (by rw [stmtV_w g8, g14]; first | rfl | simp)
 ·try simp only [zs1, zs2, zs3, zs4, zs5, zs6, zs7] at g8
  refine .cons (.gF rfl rfl rfl) ?_
  refine .cons (.gF rfl rfl rfl) ?_
  refine .cons (.gF rfl rfl rfl) ?_
  refine .cons (.gF rfl rfl rfl) ?_
  refine .cons (.pF rfl rfl rfl) ?_
  refine .cons (.mv rfl rfl) ?_
  refine .cons (.gF rfl rfl rfl) ?_
  refine .cons (.gF rfl rfl rfl) ?_
  refine .cons (.gF rfl rfl rfl) ?_
  refine .cons (.gF rfl rfl rfl) ?_
  refine .cons (.pF rfl rfl rfl) ?_
  refine .cons (.asg rfl rfl) ?_
  refine .nil ?_
  refine ks_n ?_
  refine ACode.ret ?_
  refine kf_ret rfl ?_ nobox
  first | exact leafB (stmtV_no g8).symm | exact leafB (by rw [stmtV_w g8, g14]; first | rfl | simp)


theorem kids_eq (k : Int) (n : Nat) : kidV k n = decide ((if 1 ≤ k ∧ k ≤ 3 then (0 : Int) else if 4 ≤ k ∧ k ≤ 6 then 2 else -1) = (n : Nat)) := by
  rw [kidV]
  split
  · rw [decide_eq_decide]; omega
  · split
    · rw [decide_eq_decide]; omega
    · rw [decide_eq_false]; omega
theorem arr_leaf {s : ByteArray} (h : s.size = 1) : arrV s = (!sLt s ⟨#[65]⟩ && (sLt s ⟨#[68]⟩ || sEq s ⟨#[68]⟩)) := by
  have hsz : s.size = s.data.toList.length := Lib.size_eq s
  obtain ⟨b, hb⟩ : ∃ b, s.data.toList = [b] := List.length_eq_one_iff.1 (by omega)
  obtain rfl : s = ⟨#[b]⟩ := by
    cases s with
    | mk data => exact congrArg ByteArray.mk (Array.toList_inj.1 (by rw [hb]))
  have key : ∀ n : Fin 256, arrV ⟨#[UInt8.ofNat n.val]⟩ = (!sLt ⟨#[UInt8.ofNat n.val]⟩ ⟨#[65]⟩ && (sLt ⟨#[UInt8.ofNat n.val]⟩ ⟨#[68]⟩ || sEq ⟨#[UInt8.ofNat n.val]⟩ ⟨#[68]⟩)) := by decide +kernel
  have := key ⟨b.toNat, b.toNat_lt⟩
  simpa using this

set_option maxRecDepth 100000 in
set_option maxHeartbeats 1600000 in
theorem l3Kids_fn (k : Int) : Fn Tryz.prog 186 [] [nat1 k] (.o (nat1 (if 1 ≤ k ∧ k ≤ 3 then 0 else if 4 ≤ k ∧ k ≤ 6 then 2 else -1))) [] := by
 refine Fn.code0 Tryz.func186 rfl rfl rfl rfl ?_
 refine ACode.seq ?_
 refine ACode.region ?_
 refine .cons (.asg rfl rfl) ?_
 refine .nil ?_
 refine ks_n ?_
 refine ACode.seq ?_
 refine ACode.seq ?_
 refine ACode.region ?_
 refine .cons (.mv rfl rfl) ?_
 refine .nil ?_
 refine ks_n ?_
 refine ACode.block ?_
 refine ACode.seq ?_
 refine ACode.cut [(.t 2, .v (.o (nat1 0))), (.t 3, .v (.o (nat1 k))), (.t 4, .v (.o (bo1 (decide (1 ≤ k ∧ k ≤ 3)))))] ?_ ?_
 ·skip
  refine ACode.seq ?_
  refine ACode.region ?_
  refine .cons (.eq rfl rfl rfl) ?_
  refine .cons (.asg rfl rfl) ?_
  refine .nil ?_
  refine ks_n ?_
  refine .cD rfl (fun h4 => ?_) (fun h4 => ?_)
  ·skip
   refine ACode.skip ?_
   exact kc_n (Wk.keep [] rfl rfl ⟨ks rfl .dt, ks rfl .dt, ks rfl (.dt (vB (by first | rfl | grind))), trivial⟩)
  ·skip
   refine ACode.seq ?_
   refine ACode.region ?_
   refine .cons (.eq rfl rfl rfl) ?_
   refine .cons (.asg rfl rfl) ?_
   refine .nil ?_
   refine ks_n ?_
   refine .cD rfl (fun h4 => ?_) (fun h4 => ?_)
   ·skip
    refine ACode.skip ?_
    exact kc_n (Wk.keep [] rfl rfl ⟨ks rfl .dt, ks rfl .dt, ks rfl (.dt (vB (by first | rfl | grind))), trivial⟩)
   ·skip
    refine ACode.region ?_
    refine .cons (.eq rfl rfl rfl) ?_
    refine .cons (.asg rfl rfl) ?_
    refine .nil ?_
    exact kc_n (Wk.keep [] rfl rfl ⟨ks rfl .dt, ks rfl .dt, ks rfl (.dt (vB (by first | rfl | grind))), trivial⟩)
 refine ks_n ?_
 refine ACode.condT rfl (fun h4 => ?_) (fun h4 => ?_)
 ·try simp only [zs1, zs2, zs3, zs4, zs5, zs6, zs7] at h4
  refine ACode.seq ?_
  refine ACode.region ?_
  refine .cons (.asg rfl rfl) ?_
  refine .nil ?_
  refine ks_n ?_
  refine ACode.ret ?_
  refine kb_r ?_
  refine ks_r ?_
  refine kf_ret rfl ?_ nobox
  first | exact leafI (by rw [if_pos h4]) | exact leafI (by rw [if_neg h4, if_pos h8]) | exact leafI (by rw [if_neg h4, if_neg h8])
 ·try simp only [zs1, zs2, zs3, zs4, zs5, zs6, zs7] at h4
  refine ACode.seq ?_
  refine ACode.cut [(.t 2, .v (.o (nat1 0))), (.t 3, .v (.o (nat1 k))), (.t 8, .v (.o (bo1 (decide (4 ≤ k ∧ k ≤ 6)))))] ?_ ?_
  ·skip
   refine ACode.seq ?_
   refine ACode.region ?_
   refine .cons (.eq rfl rfl rfl) ?_
   refine .cons (.asg rfl rfl) ?_
   refine .nil ?_
   refine ks_n ?_
   refine .cD rfl (fun h8 => ?_) (fun h8 => ?_)
   ·skip
    refine ACode.skip ?_
    exact kc_n (Wk.keep [] rfl rfl ⟨ks rfl .dt, ks rfl .dt, ks rfl (.dt (vB (by first | rfl | grind))), trivial⟩)
   ·skip
    refine ACode.seq ?_
    refine ACode.region ?_
    refine .cons (.eq rfl rfl rfl) ?_
    refine .cons (.asg rfl rfl) ?_
    refine .nil ?_
    refine ks_n ?_
    refine .cD rfl (fun h8 => ?_) (fun h8 => ?_)
    ·skip
     refine ACode.skip ?_
     exact kc_n (Wk.keep [] rfl rfl ⟨ks rfl .dt, ks rfl .dt, ks rfl (.dt (vB (by first | rfl | grind))), trivial⟩)
    ·skip
     refine ACode.region ?_
     refine .cons (.eq rfl rfl rfl) ?_
     refine .cons (.asg rfl rfl) ?_
     refine .nil ?_
     exact kc_n (Wk.keep [] rfl rfl ⟨ks rfl .dt, ks rfl .dt, ks rfl (.dt (vB (by first | rfl | grind))), trivial⟩)
  refine ks_n ?_
  refine ACode.condT rfl (fun h8 => ?_) (fun h8 => ?_)
  ·try simp only [zs1, zs2, zs3, zs4, zs5, zs6, zs7] at h8
   refine ACode.seq ?_
   refine ACode.region ?_
   refine .cons (.asg rfl rfl) ?_
   refine .nil ?_
   refine ks_n ?_
   refine ACode.ret ?_
   refine kb_r ?_
   refine ks_r ?_
   refine kf_ret rfl ?_ nobox
   first | exact leafI (by rw [if_pos h4]) | exact leafI (by rw [if_neg h4, if_pos h8]) | exact leafI (by rw [if_neg h4, if_neg h8])
  ·try simp only [zs1, zs2, zs3, zs4, zs5, zs6, zs7] at h8
   refine ACode.skip ?_
   refine kb_n ?_
   refine ks_n ?_
   refine ACode.seq ?_
   refine ACode.region ?_
   refine .cons (.asg rfl rfl) ?_
   refine .nil ?_
   refine ks_n ?_
   refine ACode.ret ?_
   refine kf_ret rfl ?_ nobox
   first | exact leafI (by rw [if_pos h4]) | exact leafI (by rw [if_neg h4, if_pos h8]) | exact leafI (by rw [if_neg h4, if_neg h8])

set_option maxRecDepth 100000 in
set_option maxHeartbeats 1600000 in
theorem l3Access_fn (d : Nat) (a : Acc) (ha : a.2.length ≤ 1099511627776) : Fn Tryz.prog 151 [] [ad (rC a), nat1 (d : Nat)] (.o (bo1 (accV d a))) [] := by
 refine Fn.code0 Tryz.func151 rfl rfl rfl rfl ?_
 refine ACode.seq ?_
 refine ACode.region ?_
 refine .cons (St1.boxP rfl rfl rfl rfl rfl rfl) ?_
 refine .cons (.asg rfl rfl) ?_
 refine .nil ?_
 refine ks_n ?_
 refine ACode.seq ?_
 refine ACode.seq ?_
 refine ACode.region ?_
 refine .cons (.asg rfl rfl) ?_
 refine .nil ?_
 refine ks_n ?_
 refine ACode.block ?_
 refine .loopK (fun m σ => (∃ i : Nat, m = a.2.length - i ∧ (i ≤ a.2.length) ∧ (a.2.all (bndV d) = (a.2.drop i).all (bndV d)) ∧ σ = [(.t 1, .v (.o (nat1 (d : Nat)))), (.t 2, .v (.o (.c (.ptr (rC a))))), (.t 4, .v (.o (bo1 false))), (.t 5, .v (.o (nat1 (i : Nat))))])) [] ⟨0, rfl, by omega, by simp, rfl⟩ ⟨ks rfl .dt, ks rfl .dt, ks rfl .dt, ks rfl .dt, trivial⟩ ?_
 rintro m σ ⟨i, hm0, hi, hF, rfl⟩
 refine ACode.seq ?_
 refine ACode.seq ?_
 refine ACode.region ?_
 refine .cons (.mv rfl rfl) ?_
 refine .cons (.fP 1 0 false rfl rfl) ?_
 refine .cons (.l1 1 rfl rfl) ?_
 refine .cons (.ln 86 2 32 rfl rfl rfl) ?_
 refine .cons (.ls rfl rfl rfl) ?_
 refine .nil ?_
 refine ks_n ?_
 refine .cD rfl (fun h10 => ?_) (fun h10 => ?_)
 ·skip
  obtain ⟨x, hx1⟩ : ∃ x, a.2[i]? = some x := ⟨_, List.getElem?_eq_getElem (by omega)⟩
  refine ACode.skip ?_
  refine ks_n ?_
  refine ACode.seq ?_
  refine ACode.block ?_
  refine ACode.seq ?_
  refine ACode.region ?_
  refine .cons (.fP 1 0 false rfl rfl) ?_
  refine .cons (.l1 1 rfl rfl) ?_
  refine .cons (.mv rfl rfl) ?_
  refine .cons (.xL 86 2 32 rfl rfl rfl rfl rfl) ?_
  refine .cons (.lN 2 rfl rfl rfl) ?_
  refine .cons (.cP [.tmp 17] rfl rfl rfl rfl (specAffV_fn x) rfl) ?_
  refine .cons (.nt rfl rfl) ?_
  refine .cons (.mv rfl rfl) ?_
  refine AOps.cases 20 _ rfl (fun g20 => ?_) (fun g20 => ?_)
  ·try simp only [zs1, zs2, zs3, zs4, zs5, zs6, zs7] at g20
   refine .cons (.gF rfl rfl rfl) ?_
   refine .cons (.gF rfl rfl rfl) ?_
   refine .cons (.gF rfl rfl rfl) ?_
   refine .cons (.gF rfl rfl rfl) ?_
   refine .cons (.gF rfl rfl rfl) ?_
   refine .cons (.gF rfl rfl rfl) ?_
   refine .cons (.gF rfl rfl rfl) ?_
   refine .cons (.gF rfl rfl rfl) ?_
   refine .cons (.pT rfl rfl rfl) ?_
   refine .nil ?_
   refine ks_n ?_
   refine ACode.condT rfl (fun _ => ?_) (fun h => by first | (cases h; done) | (simp [*] at h; done) | (exfalso; simp_all; done))
   refine ACode.seq ?_
   have g : bndV d x = false := bnd_no (by first | exact .inl (by assumption) | exact .inr (by omega))
   refine ACode.region ?_
   refine .cons (.asg rfl rfl) ?_
   refine .nil ?_
   refine ks_n ?_
   refine ACode.ret ?_
   refine kb_r ?_
   refine ks_r ?_
   refine kl_r ?_
   refine kb_r ?_
   refine ks_r ?_
   refine kf_ret rfl ?_ nobox
   exact leafB (by rw [accV, sideV, hF, all_drop hx1, g, Bool.false_and, Bool.false_and, Bool.false_and, Bool.and_false])
  ·try simp only [zs1, zs2, zs3, zs4, zs5, zs6, zs7] at g20
   have g20 := g20
   refine .cons (.gT rfl rfl rfl (.fP 1 0 false rfl rfl)) ?_
   refine .cons (.gT rfl rfl rfl (.l1 1 rfl rfl)) ?_
   refine .cons (.gT rfl rfl rfl (.mv rfl rfl)) ?_
   refine .cons (.gT rfl rfl rfl (.xL 86 2 32 rfl rfl rfl rfl rfl)) ?_
   refine .cons (.gT rfl rfl rfl (.lN 2 rfl rfl rfl)) ?_
   refine .cons (.gT rfl rfl rfl (.cP [.tmp 25] rfl rfl rfl rfl (l1Depth_fn x) rfl)) ?_
   refine .cons (.gT rfl rfl rfl (.mv rfl rfl)) ?_
   refine .cons (.gT rfl rfl rfl (.gt rfl rfl rfl)) ?_
   refine .cons (.pF rfl rfl rfl) ?_
   refine .nil ?_
   refine ks_n ?_
   refine ACode.condT rfl (fun h29 => ?_) (fun h29 => ?_)
   ·try simp only [zs1, zs2, zs3, zs4, zs5, zs6, zs7] at h29
    refine ACode.seq ?_
    have g : bndV d x = false := bnd_no (by first | exact .inl (by assumption) | exact .inr (by omega))
    refine ACode.region ?_
    refine .cons (.asg rfl rfl) ?_
    refine .nil ?_
    refine ks_n ?_
    refine ACode.ret ?_
    refine kb_r ?_
    refine ks_r ?_
    refine kl_r ?_
    refine kb_r ?_
    refine ks_r ?_
    refine kf_ret rfl ?_ nobox
    exact leafB (by rw [accV, sideV, hF, all_drop hx1, g, Bool.false_and, Bool.false_and, Bool.false_and, Bool.and_false])
   ·try simp only [zs1, zs2, zs3, zs4, zs5, zs6, zs7] at h29
    replace h29 : ¬ d < affDepth x := by omega
    refine ACode.skip ?_
    refine kb_n ?_
    refine ks_n ?_
    refine ACode.region ?_
    refine .cons (.mv rfl rfl) ?_
    refine .cons (.pl rfl rfl rfl) ?_
    refine .cons (.asg rfl rfl) ?_
    refine .nil ?_
    refine kl_k [] ⟨i + 1, rfl, by omega, by rw [hF, all_drop hx1, bnd_yes g20 h29, Bool.true_and], rfl⟩ ⟨ks rfl .dt, ks rfl .dt, ks rfl .dt, ks rfl .dt, trivial⟩
 ·skip
  have hA : a.2.all (bndV d) = true := by rw [hF, List.drop_of_length_le (by omega)]; rfl
  refine ACode.exit ?_
  refine ks_e ?_
  refine kl_e ?_
  refine kb_hit ?_
  refine ks_n ?_
  refine ACode.seq ?_
  refine ACode.region ?_
  refine .cons (.fP 0 0 false rfl rfl) ?_
  refine .cons (.l1 1 rfl rfl) ?_
  refine .cons (St1.lenS rfl rfl rfl rfl rfl (by kernel_rfl) rfl) ?_
  refine .cons (.eq rfl rfl rfl) ?_
  refine .cons (.mv rfl rfl) ?_
  refine .cD 34 rfl (fun g34 => ?_) (fun g34 => ?_)
  ·skip
   have h1s : a.1.size = 1 := by omega
   have hAr := arr_leaf h1s
   refine .cons (.gT rfl rfl rfl (.fP 0 0 false rfl rfl)) ?_
   refine .cons (.gT rfl rfl rfl (.l1 1 rfl rfl)) ?_
   refine .cons (.gT rfl rfl rfl (St1.geS rfl rfl rfl)) ?_
   refine .cons (.pT rfl rfl rfl) ?_
   refine .cons (.mv rfl rfl) ?_
   refine AOps.cases 39 _ rfl (fun g39 => ?_) (fun g39 => ?_)
   ·try simp only [zs1, zs2, zs3, zs4, zs5, zs6, zs7] at g39
    refine .cons (.gT rfl rfl rfl (.fP 0 0 false rfl rfl)) ?_
    refine .cons (.gT rfl rfl rfl (.l1 1 rfl rfl)) ?_
    refine .cons (.gT rfl rfl rfl (St1.leS rfl rfl rfl)) ?_
    refine .cons (.pT rfl rfl rfl) ?_
    refine .cons (.mv rfl rfl) ?_
    refine AOps.cases 44 _ rfl (fun g44 => ?_) (fun g44 => ?_)
    ·try simp only [zs1, zs2, zs3, zs4, zs5, zs6, zs7] at g44
     refine .cons (.gT rfl rfl rfl (.fP 1 0 false rfl rfl)) ?_
     refine .cons (.gT rfl rfl rfl (.l1 1 rfl rfl)) ?_
     refine .cons (.gT rfl rfl rfl (.ln 86 2 32 rfl rfl rfl)) ?_
     refine .cons (.gT rfl rfl rfl (.ge rfl rfl rfl)) ?_
     refine .cons (.pT rfl rfl rfl) ?_
     refine .cons (.mv rfl rfl) ?_
     refine AOps.cases 50 _ rfl (fun g50 => ?_) (fun g50 => ?_)
     ·try simp only [zs1, zs2, zs3, zs4, zs5, zs6, zs7] at g50
      refine .cons (.gT rfl rfl rfl (.fP 1 0 false rfl rfl)) ?_
      refine .cons (.gT rfl rfl rfl (.l1 1 rfl rfl)) ?_
      refine .cons (.gT rfl rfl rfl (.ln 86 2 32 rfl rfl rfl)) ?_
      refine .cons (.gT rfl rfl rfl (.le rfl rfl rfl)) ?_
      refine .cons (.pT rfl rfl rfl) ?_
      refine .cons (.asg rfl rfl) ?_
      refine .nil ?_
      refine ks_n ?_
      refine ACode.ret ?_
      refine kf_ret rfl ?_ nobox
      exact leafB (by rw [accV, hAr, sideV, hA]; first | rfl | grind)
     ·try simp only [zs1, zs2, zs3, zs4, zs5, zs6, zs7] at g50
      refine .cons (.gF rfl rfl rfl) ?_
      refine .cons (.gF rfl rfl rfl) ?_
      refine .cons (.gF rfl rfl rfl) ?_
      refine .cons (.gF rfl rfl rfl) ?_
      refine .cons (.pF rfl rfl rfl) ?_
      refine .cons (.asg rfl rfl) ?_
      refine .nil ?_
      refine ks_n ?_
      refine ACode.ret ?_
      refine kf_ret rfl ?_ nobox
      exact leafB (by rw [accV, hAr, sideV, hA]; first | rfl | grind)
    ·try simp only [zs1, zs2, zs3, zs4, zs5, zs6, zs7] at g44
     refine .cons (.gF rfl rfl rfl) ?_
     refine .cons (.gF rfl rfl rfl) ?_
     refine .cons (.gF rfl rfl rfl) ?_
     refine .cons (.gF rfl rfl rfl) ?_
     refine .cons (.pF rfl rfl rfl) ?_
     refine .cons (.mv rfl rfl) ?_
     refine .cons (.gF rfl rfl rfl) ?_
     refine .cons (.gF rfl rfl rfl) ?_
     refine .cons (.gF rfl rfl rfl) ?_
     refine .cons (.gF rfl rfl rfl) ?_
     refine .cons (.pF rfl rfl rfl) ?_
     refine .cons (.asg rfl rfl) ?_
     refine .nil ?_
     refine ks_n ?_
     refine ACode.ret ?_
     refine kf_ret rfl ?_ nobox
     exact leafB (by rw [accV, hAr, sideV, hA]; first | rfl | grind)
   ·try simp only [zs1, zs2, zs3, zs4, zs5, zs6, zs7] at g39
    refine .cons (.gF rfl rfl rfl) ?_
    refine .cons (.gF rfl rfl rfl) ?_
    refine .cons (.gF rfl rfl rfl) ?_
    refine .cons (.pF rfl rfl rfl) ?_
    refine .cons (.mv rfl rfl) ?_
    refine .cons (.gF rfl rfl rfl) ?_
    refine .cons (.gF rfl rfl rfl) ?_
    refine .cons (.gF rfl rfl rfl) ?_
    refine .cons (.gF rfl rfl rfl) ?_
    refine .cons (.pF rfl rfl rfl) ?_
    refine .cons (.mv rfl rfl) ?_
    refine .cons (.gF rfl rfl rfl) ?_
    refine .cons (.gF rfl rfl rfl) ?_
    refine .cons (.gF rfl rfl rfl) ?_
    refine .cons (.gF rfl rfl rfl) ?_
    refine .cons (.pF rfl rfl rfl) ?_
    refine .cons (.asg rfl rfl) ?_
    refine .nil ?_
    refine ks_n ?_
    refine ACode.ret ?_
    refine kf_ret rfl ?_ nobox
    exact leafB (by rw [accV, hAr, sideV, hA]; first | rfl | grind)
  ·skip
   have hAr := arrV_size (s := a.1) (by omega)
   refine .cons (.gF rfl rfl rfl) ?_
   refine .cons (.gF rfl rfl rfl) ?_
   refine .cons (.gF rfl rfl rfl) ?_
   refine .cons (.pF rfl rfl rfl) ?_
   refine .cons (.mv rfl rfl) ?_
   refine .cons (.gF rfl rfl rfl) ?_
   refine .cons (.gF rfl rfl rfl) ?_
   refine .cons (.gF rfl rfl rfl) ?_
   refine .cons (.pF rfl rfl rfl) ?_
   refine .cons (.mv rfl rfl) ?_
   refine .cons (.gF rfl rfl rfl) ?_
   refine .cons (.gF rfl rfl rfl) ?_
   refine .cons (.gF rfl rfl rfl) ?_
   refine .cons (.gF rfl rfl rfl) ?_
   refine .cons (.pF rfl rfl rfl) ?_
   refine .cons (.mv rfl rfl) ?_
   refine .cons (.gF rfl rfl rfl) ?_
   refine .cons (.gF rfl rfl rfl) ?_
   refine .cons (.gF rfl rfl rfl) ?_
   refine .cons (.gF rfl rfl rfl) ?_
   refine .cons (.pF rfl rfl rfl) ?_
   refine .cons (.asg rfl rfl) ?_
   refine .nil ?_
   refine ks_n ?_
   refine ACode.ret ?_
   refine kf_ret rfl ?_ nobox
   exact leafB (by rw [accV, hAr, sideV, hA]; first | rfl | grind)

set_option maxRecDepth 100000 in
set_option maxHeartbeats 1600000 in
theorem l3Own_fn (d : Nat) (e : Ex) (hr : e.r.2.length ≤ 1099511627776) : Fn Tryz.prog 187 [] [ad (rX e), nat1 (d : Nat)] (.o (bo1 (fldV d e.k e.n e.i e.r))) [] := by
 refine Fn.code0 Tryz.func187 rfl rfl rfl rfl ?_
 refine ACode.seq ?_
 refine ACode.region ?_
 refine .cons (St1.boxP rfl rfl rfl rfl rfl rfl) ?_
 refine .cons (.asg rfl rfl) ?_
 refine .nil ?_
 refine ks_n ?_
 refine ACode.seq ?_
 refine ACode.seq ?_
 refine ACode.region ?_
 refine .cons (.fP 0 0 false rfl rfl) ?_
 refine .cons (.l1 1 rfl rfl) ?_
 refine .cons (.eq rfl rfl rfl) ?_
 refine .nil ?_
 refine ks_n ?_
 refine .cD rfl (fun h7 => ?_) (fun h7 => ?_)
 ·skip
  refine ACode.seq ?_
  refine ACode.region ?_
  refine .cons (.fP 1 0 false rfl rfl) ?_
  refine .cons (.l1 1 rfl rfl) ?_
  refine .cons (.eq rfl rfl rfl) ?_
  refine .cons (.mv rfl rfl) ?_
  refine .cD 11 rfl (fun g11 => ?_) (fun g11 => ?_)
  ·skip
   refine .cons (.gT rfl rfl rfl (.fP 4 1 true rfl rfl)) ?_
   refine .cons (.gT rfl rfl rfl (.lN 2 rfl rfl rfl)) ?_
   refine .cons (.gT rfl rfl rfl (.cP [.tmp 13] rfl rfl rfl rfl (l3Empty_fn _) rfl)) ?_
   refine .cons (.pT rfl rfl rfl) ?_
   refine .cons (.mv rfl rfl) ?_
   refine AOps.cases 16 _ rfl (fun g16 => ?_) (fun g16 => ?_)
   ·try simp only [zs1, zs2, zs3, zs4, zs5, zs6, zs7] at g16
    refine .cons (.gT rfl rfl rfl (.fP 2 1 true rfl rfl)) ?_
    refine .cons (.gT rfl rfl rfl (.lN 2 rfl rfl rfl)) ?_
    refine .cons (.gT rfl rfl rfl (.cP [.tmp 18] rfl rfl rfl rfl (specAffV_fn _) rfl)) ?_
    refine .cons (.pT rfl rfl rfl) ?_
    refine .cons (.mv rfl rfl) ?_
    refine AOps.cases 21 _ rfl (fun g21 => ?_) (fun g21 => ?_)
    ·try simp only [zs1, zs2, zs3, zs4, zs5, zs6, zs7] at g21
     refine .cons (.gT rfl rfl rfl (.fP 2 1 true rfl rfl)) ?_
     refine .cons (.gT rfl rfl rfl (.lN 2 rfl rfl rfl)) ?_
     refine .cons (.gT rfl rfl rfl (.cP [.tmp 23] rfl rfl rfl rfl (l1Depth_fn _) rfl)) ?_
     refine .cons (.gT rfl rfl rfl (.mv rfl rfl)) ?_
     refine .cons (.gT rfl rfl rfl (.le rfl rfl rfl)) ?_
     refine .cons (.pT rfl rfl rfl) ?_
     refine .cons (.asg rfl rfl) ?_
     refine .nil ?_
     refine ks_n ?_
     refine ACode.ret ?_
     refine ks_r ?_
     refine kf_ret rfl ?_ nobox
     exact leafB (by rw [fldV, if_neg (show ¬ e.k = 1 by omega), if_pos h7]; cases hA : affV e.i <;> cases hC : nonC e.r <;> first | rfl | grind)
    ·try simp only [zs1, zs2, zs3, zs4, zs5, zs6, zs7] at g21
     refine .cons (.gF rfl rfl rfl) ?_
     refine .cons (.gF rfl rfl rfl) ?_
     refine .cons (.gF rfl rfl rfl) ?_
     refine .cons (.gF rfl rfl rfl) ?_
     refine .cons (.gF rfl rfl rfl) ?_
     refine .cons (.pF rfl rfl rfl) ?_
     refine .cons (.asg rfl rfl) ?_
     refine .nil ?_
     refine ks_n ?_
     refine ACode.ret ?_
     refine ks_r ?_
     refine kf_ret rfl ?_ nobox
     exact leafB (by rw [fldV, if_neg (show ¬ e.k = 1 by omega), if_pos h7]; cases hA : affV e.i <;> cases hC : nonC e.r <;> first | rfl | grind)
   ·try simp only [zs1, zs2, zs3, zs4, zs5, zs6, zs7] at g16
    refine .cons (.gF rfl rfl rfl) ?_
    refine .cons (.gF rfl rfl rfl) ?_
    refine .cons (.gF rfl rfl rfl) ?_
    refine .cons (.pF rfl rfl rfl) ?_
    refine .cons (.mv rfl rfl) ?_
    refine .cons (.gF rfl rfl rfl) ?_
    refine .cons (.gF rfl rfl rfl) ?_
    refine .cons (.gF rfl rfl rfl) ?_
    refine .cons (.gF rfl rfl rfl) ?_
    refine .cons (.gF rfl rfl rfl) ?_
    refine .cons (.pF rfl rfl rfl) ?_
    refine .cons (.asg rfl rfl) ?_
    refine .nil ?_
    refine ks_n ?_
    refine ACode.ret ?_
    refine ks_r ?_
    refine kf_ret rfl ?_ nobox
    exact leafB (by rw [fldV, if_neg (show ¬ e.k = 1 by omega), if_pos h7]; cases hA : affV e.i <;> cases hC : nonC e.r <;> first | rfl | grind)
  ·skip
   refine .cons (.gF rfl rfl rfl) ?_
   refine .cons (.gF rfl rfl rfl) ?_
   refine .cons (.gF rfl rfl rfl) ?_
   refine .cons (.pF rfl rfl rfl) ?_
   refine .cons (.mv rfl rfl) ?_
   refine .cons (.gF rfl rfl rfl) ?_
   refine .cons (.gF rfl rfl rfl) ?_
   refine .cons (.gF rfl rfl rfl) ?_
   refine .cons (.pF rfl rfl rfl) ?_
   refine .cons (.mv rfl rfl) ?_
   refine .cons (.gF rfl rfl rfl) ?_
   refine .cons (.gF rfl rfl rfl) ?_
   refine .cons (.gF rfl rfl rfl) ?_
   refine .cons (.gF rfl rfl rfl) ?_
   refine .cons (.gF rfl rfl rfl) ?_
   refine .cons (.pF rfl rfl rfl) ?_
   refine .cons (.asg rfl rfl) ?_
   refine .nil ?_
   refine ks_n ?_
   refine ACode.ret ?_
   refine ks_r ?_
   refine kf_ret rfl ?_ nobox
   exact leafB (by rw [fldV, if_neg (show ¬ e.k = 1 by omega), if_pos h7]; cases hA : affV e.i <;> cases hC : nonC e.r <;> first | rfl | grind)
 ·skip
  refine ACode.skip ?_
  refine ks_n ?_
  refine ACode.seq ?_
  refine ACode.seq ?_
  refine ACode.region ?_
  refine .cons (.fP 0 0 false rfl rfl) ?_
  refine .cons (.l1 1 rfl rfl) ?_
  refine .cons (.eq rfl rfl rfl) ?_
  refine .nil ?_
  refine ks_n ?_
  refine .cD rfl (fun h30 => ?_) (fun h30 => ?_)
  ·skip
   refine ACode.seq ?_
   refine ACode.region ?_
   refine .cons (.fP 1 0 false rfl rfl) ?_
   refine .cons (.l1 1 rfl rfl) ?_
   refine .cons (.eq rfl rfl rfl) ?_
   refine .cons (.mv rfl rfl) ?_
   refine .cD 34 rfl (fun g34 => ?_) (fun g34 => ?_)
   ·skip
    refine .cons (.gT rfl rfl rfl (.fP 2 1 true rfl rfl)) ?_
    refine .cons (.gT rfl rfl rfl (.lN 2 rfl rfl rfl)) ?_
    refine .cons (.gT rfl rfl rfl (.cP [.tmp 36] rfl rfl rfl rfl (l3None_fn _) rfl)) ?_
    refine .cons (.pT rfl rfl rfl) ?_
    refine .cons (.mv rfl rfl) ?_
    refine AOps.cases 39 _ rfl (fun g39 => ?_) (fun g39 => ?_)
    ·try simp only [zs1, zs2, zs3, zs4, zs5, zs6, zs7] at g39
     refine .cons (.gT rfl rfl rfl (.fP 4 1 true rfl rfl)) ?_
     refine .cons (.gT rfl rfl rfl (.lN 2 rfl rfl rfl)) ?_
     refine .cons (.gT rfl rfl rfl (.mv rfl rfl)) ?_
     refine .cons (.gT rfl rfl rfl (.cP [.tmp 41, .tmp 42] rfl rfl rfl rfl (l3Access_fn d _ hr) rfl)) ?_
     refine .cons (.pT rfl rfl rfl) ?_
     refine .cons (.asg rfl rfl) ?_
     refine .nil ?_
     refine ks_n ?_
     refine ACode.ret ?_
     refine ks_r ?_
     refine kf_ret rfl ?_ nobox
     exact leafB (by rw [fldV, if_neg (show ¬ e.k = 1 by omega), if_neg h7, if_pos h30]; cases hA : nonA e.i <;> cases hC : accV d e.r <;> first | rfl | grind)
    ·try simp only [zs1, zs2, zs3, zs4, zs5, zs6, zs7] at g39
     refine .cons (.gF rfl rfl rfl) ?_
     refine .cons (.gF rfl rfl rfl) ?_
     refine .cons (.gF rfl rfl rfl) ?_
     refine .cons (.gF rfl rfl rfl) ?_
     refine .cons (.pF rfl rfl rfl) ?_
     refine .cons (.asg rfl rfl) ?_
     refine .nil ?_
     refine ks_n ?_
     refine ACode.ret ?_
     refine ks_r ?_
     refine kf_ret rfl ?_ nobox
     exact leafB (by rw [fldV, if_neg (show ¬ e.k = 1 by omega), if_neg h7, if_pos h30]; cases hA : nonA e.i <;> cases hC : accV d e.r <;> first | rfl | grind)
   ·skip
    refine .cons (.gF rfl rfl rfl) ?_
    refine .cons (.gF rfl rfl rfl) ?_
    refine .cons (.gF rfl rfl rfl) ?_
    refine .cons (.pF rfl rfl rfl) ?_
    refine .cons (.mv rfl rfl) ?_
    refine .cons (.gF rfl rfl rfl) ?_
    refine .cons (.gF rfl rfl rfl) ?_
    refine .cons (.gF rfl rfl rfl) ?_
    refine .cons (.gF rfl rfl rfl) ?_
    refine .cons (.pF rfl rfl rfl) ?_
    refine .cons (.asg rfl rfl) ?_
    refine .nil ?_
    refine ks_n ?_
    refine ACode.ret ?_
    refine ks_r ?_
    refine kf_ret rfl ?_ nobox
    exact leafB (by rw [fldV, if_neg (show ¬ e.k = 1 by omega), if_neg h7, if_pos h30]; cases hA : nonA e.i <;> cases hC : accV d e.r <;> first | rfl | grind)
  ·skip
   refine ACode.skip ?_
   refine ks_n ?_
   refine ACode.seq ?_
   refine ACode.seq ?_
   refine ACode.region ?_
   refine .cons (.fP 0 0 false rfl rfl) ?_
   refine .cons (.l1 1 rfl rfl) ?_
   refine .cons (.eq rfl rfl rfl) ?_
   refine .nil ?_
   refine ks_n ?_
   refine .cD rfl (fun h47 => ?_) (fun h47 => ?_)
   ·skip
    refine ACode.seq ?_
    refine ACode.region ?_
    refine .cons (.fP 1 0 false rfl rfl) ?_
    refine .cons (.l1 1 rfl rfl) ?_
    refine .cons (.ge rfl rfl rfl) ?_
    refine .cons (.mv rfl rfl) ?_
    refine .cD 51 rfl (fun g51 => ?_) (fun g51 => ?_)
    ·skip
     refine .cons (.gT rfl rfl rfl (.fP 1 0 false rfl rfl)) ?_
     refine .cons (.gT rfl rfl rfl (.l1 1 rfl rfl)) ?_
     refine .cons (.gT rfl rfl rfl (.le rfl rfl rfl)) ?_
     refine .cons (.pT rfl rfl rfl) ?_
     refine .cons (.mv rfl rfl) ?_
     refine AOps.cases 56 _ rfl (fun g56 => ?_) (fun g56 => ?_)
     ·try simp only [zs1, zs2, zs3, zs4, zs5, zs6, zs7] at g56
      refine .cons (.gT rfl rfl rfl (.fP 2 1 true rfl rfl)) ?_
      refine .cons (.gT rfl rfl rfl (.lN 2 rfl rfl rfl)) ?_
      refine .cons (.gT rfl rfl rfl (.cP [.tmp 58] rfl rfl rfl rfl (l3None_fn _) rfl)) ?_
      refine .cons (.pT rfl rfl rfl) ?_
      refine .cons (.mv rfl rfl) ?_
      refine AOps.cases 61 _ rfl (fun g61 => ?_) (fun g61 => ?_)
      ·try simp only [zs1, zs2, zs3, zs4, zs5, zs6, zs7] at g61
       refine .cons (.gT rfl rfl rfl (.fP 4 1 true rfl rfl)) ?_
       refine .cons (.gT rfl rfl rfl (.lN 2 rfl rfl rfl)) ?_
       refine .cons (.gT rfl rfl rfl (.cP [.tmp 63] rfl rfl rfl rfl (l3Empty_fn _) rfl)) ?_
       refine .cons (.pT rfl rfl rfl) ?_
       refine .cons (.asg rfl rfl) ?_
       refine .nil ?_
       refine ks_n ?_
       refine ACode.ret ?_
       refine ks_r ?_
       refine kf_ret rfl ?_ nobox
       exact leafB (by rw [fldV, if_pos h47, inB]; cases hA : nonA e.i <;> cases hC : nonC e.r <;> first | rfl | grind)
      ·try simp only [zs1, zs2, zs3, zs4, zs5, zs6, zs7] at g61
       refine .cons (.gF rfl rfl rfl) ?_
       refine .cons (.gF rfl rfl rfl) ?_
       refine .cons (.gF rfl rfl rfl) ?_
       refine .cons (.pF rfl rfl rfl) ?_
       refine .cons (.asg rfl rfl) ?_
       refine .nil ?_
       refine ks_n ?_
       refine ACode.ret ?_
       refine ks_r ?_
       refine kf_ret rfl ?_ nobox
       exact leafB (by rw [fldV, if_pos h47, inB]; cases hA : nonA e.i <;> cases hC : nonC e.r <;> first | rfl | grind)
     ·try simp only [zs1, zs2, zs3, zs4, zs5, zs6, zs7] at g56
      refine .cons (.gF rfl rfl rfl) ?_
      refine .cons (.gF rfl rfl rfl) ?_
      refine .cons (.gF rfl rfl rfl) ?_
      refine .cons (.pF rfl rfl rfl) ?_
      refine .cons (.mv rfl rfl) ?_
      refine .cons (.gF rfl rfl rfl) ?_
      refine .cons (.gF rfl rfl rfl) ?_
      refine .cons (.gF rfl rfl rfl) ?_
      refine .cons (.pF rfl rfl rfl) ?_
      refine .cons (.asg rfl rfl) ?_
      refine .nil ?_
      refine ks_n ?_
      refine ACode.ret ?_
      refine ks_r ?_
      refine kf_ret rfl ?_ nobox
      exact leafB (by rw [fldV, if_pos h47, inB]; cases hA : nonA e.i <;> cases hC : nonC e.r <;> first | rfl | grind)
    ·skip
     refine .cons (.gF rfl rfl rfl) ?_
     refine .cons (.gF rfl rfl rfl) ?_
     refine .cons (.gF rfl rfl rfl) ?_
     refine .cons (.pF rfl rfl rfl) ?_
     refine .cons (.mv rfl rfl) ?_
     refine .cons (.gF rfl rfl rfl) ?_
     refine .cons (.gF rfl rfl rfl) ?_
     refine .cons (.gF rfl rfl rfl) ?_
     refine .cons (.pF rfl rfl rfl) ?_
     refine .cons (.mv rfl rfl) ?_
     refine .cons (.gF rfl rfl rfl) ?_
     refine .cons (.gF rfl rfl rfl) ?_
     refine .cons (.gF rfl rfl rfl) ?_
     refine .cons (.pF rfl rfl rfl) ?_
     refine .cons (.asg rfl rfl) ?_
     refine .nil ?_
     refine ks_n ?_
     refine ACode.ret ?_
     refine ks_r ?_
     refine kf_ret rfl ?_ nobox
     exact leafB (by rw [fldV, if_pos h47, inB]; cases hA : nonA e.i <;> cases hC : nonC e.r <;> first | rfl | grind)
   ·skip
    refine ACode.skip ?_
    refine ks_n ?_
    refine ACode.seq ?_
    refine ACode.region ?_
    refine .cons (.fP 1 0 false rfl rfl) ?_
    refine .cons (.l1 1 rfl rfl) ?_
    refine .cons (.eq rfl rfl rfl) ?_
    refine .cons (.mv rfl rfl) ?_
    refine .cD 69 rfl (fun g69 => ?_) (fun g69 => ?_)
    ·skip
     refine .cons (.gT rfl rfl rfl (.fP 2 1 true rfl rfl)) ?_
     refine .cons (.gT rfl rfl rfl (.lN 2 rfl rfl rfl)) ?_
     refine .cons (.gT rfl rfl rfl (.cP [.tmp 71] rfl rfl rfl rfl (l3None_fn _) rfl)) ?_
     refine .cons (.pT rfl rfl rfl) ?_
     refine .cons (.mv rfl rfl) ?_
     refine AOps.cases 74 _ rfl (fun g74 => ?_) (fun g74 => ?_)
     ·try simp only [zs1, zs2, zs3, zs4, zs5, zs6, zs7] at g74
      refine .cons (.gT rfl rfl rfl (.fP 4 1 true rfl rfl)) ?_
      refine .cons (.gT rfl rfl rfl (.lN 2 rfl rfl rfl)) ?_
      refine .cons (.gT rfl rfl rfl (.cP [.tmp 76] rfl rfl rfl rfl (l3Empty_fn _) rfl)) ?_
      refine .cons (.pT rfl rfl rfl) ?_
      refine .cons (.asg rfl rfl) ?_
      refine .nil ?_
      refine ks_n ?_
      refine ACode.ret ?_
      refine kf_ret rfl ?_ nobox
      exact leafB (by rw [fldV, if_neg h47, if_neg h7, if_neg h30]; cases hA : nonA e.i <;> cases hC : nonC e.r <;> first | rfl | grind)
     ·try simp only [zs1, zs2, zs3, zs4, zs5, zs6, zs7] at g74
      refine .cons (.gF rfl rfl rfl) ?_
      refine .cons (.gF rfl rfl rfl) ?_
      refine .cons (.gF rfl rfl rfl) ?_
      refine .cons (.pF rfl rfl rfl) ?_
      refine .cons (.asg rfl rfl) ?_
      refine .nil ?_
      refine ks_n ?_
      refine ACode.ret ?_
      refine kf_ret rfl ?_ nobox
      exact leafB (by rw [fldV, if_neg h47, if_neg h7, if_neg h30]; cases hA : nonA e.i <;> cases hC : nonC e.r <;> first | rfl | grind)
    ·skip
     refine .cons (.gF rfl rfl rfl) ?_
     refine .cons (.gF rfl rfl rfl) ?_
     refine .cons (.gF rfl rfl rfl) ?_
     refine .cons (.pF rfl rfl rfl) ?_
     refine .cons (.mv rfl rfl) ?_
     refine .cons (.gF rfl rfl rfl) ?_
     refine .cons (.gF rfl rfl rfl) ?_
     refine .cons (.gF rfl rfl rfl) ?_
     refine .cons (.pF rfl rfl rfl) ?_
     refine .cons (.asg rfl rfl) ?_
     refine .nil ?_
     refine ks_n ?_
     refine ACode.ret ?_
     refine kf_ret rfl ?_ nobox
     exact leafB (by rw [fldV, if_neg h47, if_neg h7, if_neg h30]; cases hA : nonA e.i <;> cases hC : nonC e.r <;> first | rfl | grind)

set_option maxRecDepth 100000 in
set_option maxHeartbeats 1600000 in
theorem shape_zero (d : Nat) (lv : Int) (hl : lv < 1) (e : Ex) (hr : e.r.2.length ≤ 1099511627776) (hkl : e.ks.length ≤ 1099511627776) : Fn Tryz.prog 152 [] [ad (rX e), nat1 (d : Nat), nat1 lv] (.o (bo1 false)) [] := by
 refine Fn.code0 Tryz.func152 rfl rfl rfl rfl ?_
 refine ACode.seq ?_
 refine ACode.region ?_
 refine .cons (St1.boxP rfl rfl rfl rfl rfl rfl) ?_
 refine .cons (.asg rfl rfl) ?_
 refine .nil ?_
 refine ks_n ?_
 refine ACode.seq ?_
 refine ACode.seq ?_
 refine ACode.drawK (by kernel_rfl) (by kernel_rfl) ?_
 refine .cons (.mv rfl rfl) ?_
 refine .cons (.ls rfl rfl rfl) ?_
 refine .cons (.mv rfl rfl) ?_
 refine .cD 10 rfl (fun g10 => ?_) (fun g10 => ?_)
 ·skip
  refine .cons (.gF rfl rfl rfl) ?_
  refine .cons (.gF rfl rfl rfl) ?_
  refine .cons (.gF rfl rfl rfl) ?_
  refine .cons (.gF rfl rfl rfl) ?_
  refine .cons (.gF rfl rfl rfl) ?_
  refine .cons (.gF rfl rfl rfl) ?_
  refine .cons (.gF rfl rfl rfl) ?_
  refine .cons (.pT rfl rfl rfl) ?_
  refine .cons (.mv rfl rfl) ?_
  refine .cons (.gF rfl rfl rfl) ?_
  refine .cons (.gF rfl rfl rfl) ?_
  refine .cons (.gF rfl rfl rfl) ?_
  refine .cons (.gF rfl rfl rfl) ?_
  refine .cons (.pT rfl rfl rfl) ?_
  refine .nil ⟨by kernel_rfl, ?_⟩
  refine ks_n ?_
  refine ACode.condT rfl (fun _ => ?_) (fun h => by first | (cases h; done) | (simp [*] at h; done) | (exfalso; simp_all; done))
  refine ACode.seq ?_
  refine ACode.region ?_
  refine .cons (.asg rfl rfl) ?_
  refine .nil ?_
  refine ks_n ?_
  refine ACode.ret ?_
  refine ks_r ?_
  refine kf_ret rfl ?_ nobox
  rfl
 ·skip
  exact absurd hl g10

set_option maxRecDepth 100000 in
set_option maxHeartbeats 1600000 in
theorem shape_succ (d L : Nat) (lv : Int) (hl : ¬ lv < 1) (hl2 : lv ≤ 100) (e : Ex) (hr : e.r.2.length ≤ 1099511627776) (hkl : e.ks.length ≤ 1099511627776) (ih : ∀ x ∈ e.ks, Fn Tryz.prog 152 [] [ad (rX x), nat1 (d : Nat), nat1 (lv - 1)] (.o (bo1 (exV d L x))) []) : Fn Tryz.prog 152 [] [ad (rX e), nat1 (d : Nat), nat1 lv] (.o (bo1 (exV d (L + 1) e))) [] := by
 refine Fn.code0 Tryz.func152 rfl rfl rfl rfl ?_
 refine ACode.seq ?_
 refine ACode.region ?_
 refine .cons (St1.boxP rfl rfl rfl rfl rfl rfl) ?_
 refine .cons (.asg rfl rfl) ?_
 refine .nil ?_
 refine ks_n ?_
 refine ACode.seq ?_
 refine ACode.seq ?_
 refine ACode.cut [(.t 1, .v (.o (nat1 (d : Nat)))), (.t 2, .v (.o (nat1 lv))), (.t 3, .v (.o (.c (.ptr (rX e))))), (.t 6, .v (.o (bo1 false))), (.t 24, .v (.o (bo1 (!(kidV e.k e.ks.length && fldV d e.k e.n e.i e.r)))))] ?_ ?_
 ·skip
  refine ACode.drawK (by kernel_rfl) (by kernel_rfl) ?_
  refine .cons (.mv rfl rfl) ?_
  refine .cons (.ls rfl rfl rfl) ?_
  refine .cons (.mv rfl rfl) ?_
  refine .cD 10 rfl (fun g10 => ?_) (fun g10 => ?_)
  ·skip
   exact absurd g10 hl
  ·skip
   refine .cons (.gT rfl rfl rfl (.fP 0 0 false rfl rfl)) ?_
   refine .cons (.gT rfl rfl rfl (.l1 1 rfl rfl)) ?_
   refine .cons (.gT rfl rfl rfl (.cP [.tmp 12] rfl rfl rfl rfl (l3Kids_fn _) rfl)) ?_
   refine .cons (.gT rfl rfl rfl (.fP 6 0 false rfl rfl)) ?_
   refine .cons (.gT rfl rfl rfl (.l1 1 rfl rfl)) ?_
   refine .cons (.gT rfl rfl rfl (.ln 89 7 112 rfl rfl rfl)) ?_
   refine .cons (.gT rfl rfl rfl (.ne rfl rfl rfl)) ?_
   refine .cons (.pF rfl rfl rfl) ?_
   refine .cons (.mv rfl rfl) ?_
   refine RunK.cases 19 _ rfl (fun g19 => ?_) (fun g19 => ?_)
   ·try simp only [zs1, zs2, zs3, zs4, zs5, zs6, zs7] at g19
    refine .cons (.gF rfl rfl rfl) ?_
    refine .cons (.gF rfl rfl rfl) ?_
    refine .cons (.gF rfl rfl rfl) ?_
    refine .cons (.gF rfl rfl rfl) ?_
    refine .cons (.pT rfl rfl rfl) ?_
    refine .nil ⟨by kernel_rfl, ?_⟩
    exact kc_n (Wk.keep [] rfl rfl ⟨ks rfl .dt, ks rfl .dt, ks rfl .dt, ks rfl .dt, ks rfl (.dt (vB (by rw [kids_eq]; first | rfl | grind))), trivial⟩)
   ·try simp only [zs1, zs2, zs3, zs4, zs5, zs6, zs7] at g19
    refine .cons (.gT rfl rfl rfl (.lN 7 rfl rfl rfl)) ?_
    refine .cons (.gT rfl rfl rfl (.mv rfl rfl)) ?_
    refine .cons (.gT rfl rfl rfl (.cP [.tmp 20, .tmp 21] rfl rfl rfl rfl (l3Own_fn d e hr) rfl)) ?_
    refine .cons (.gT rfl rfl rfl (.nt rfl rfl)) ?_
    refine .cons (.pF rfl rfl rfl) ?_
    refine .nil ⟨by kernel_rfl, ?_⟩
    exact kc_n (Wk.keep [] rfl rfl ⟨ks rfl .dt, ks rfl .dt, ks rfl .dt, ks rfl .dt, ks rfl (.dt (vB (by rw [kids_eq]; first | rfl | grind))), trivial⟩)
 refine ks_n ?_
 refine ACode.condT rfl (fun h24 => ?_) (fun h24 => ?_)
 ·try simp only [zs1, zs2, zs3, zs4, zs5, zs6, zs7] at h24
  refine ACode.seq ?_
  refine ACode.region ?_
  refine .cons (.asg rfl rfl) ?_
  refine .nil ?_
  refine ks_n ?_
  refine ACode.ret ?_
  refine ks_r ?_
  refine kf_ret rfl ?_ nobox
  exact leafB (by rw [exV, h24]; rfl)
 ·try simp only [zs1, zs2, zs3, zs4, zs5, zs6, zs7] at h24
  refine ACode.skip ?_
  refine ks_n ?_
  refine ACode.seq ?_
  refine ACode.seq ?_
  refine ACode.region ?_
  refine .cons (.asg rfl rfl) ?_
  refine .nil ?_
  refine ks_n ?_
  refine ACode.block ?_
  refine .loopK (fun m σ => (∃ i : Nat, m = e.ks.length - i ∧ (i ≤ e.ks.length) ∧ (e.ks.all (exV d L) = (e.ks.drop i).all (exV d L)) ∧ σ = [(.t 1, .v (.o (nat1 (d : Nat)))), (.t 2, .v (.o (nat1 lv))), (.t 3, .v (.o (.c (.ptr (rX e))))), (.t 6, .v (.o (bo1 false))), (.t 7, .v (.o (nat1 (i : Nat))))])) [] ⟨0, rfl, by omega, by simp, rfl⟩ ⟨ks rfl .dt, ks rfl .dt, ks rfl .dt, ks rfl .dt, ks rfl .dt, trivial⟩ ?_
  rintro m σ ⟨i, hm0, hi, hF, rfl⟩
  refine ACode.seq ?_
  refine ACode.seq ?_
  refine ACode.region ?_
  refine .cons (.mv rfl rfl) ?_
  refine .cons (.fP 6 0 false rfl rfl) ?_
  refine .cons (.l1 1 rfl rfl) ?_
  refine .cons (.ln 89 7 112 rfl rfl rfl) ?_
  refine .cons (.ls rfl rfl rfl) ?_
  refine .nil ?_
  refine ks_n ?_
  refine .cD rfl (fun h29 => ?_) (fun h29 => ?_)
  ·skip
   obtain ⟨x, hx1⟩ : ∃ x, e.ks[i]? = some x := ⟨_, List.getElem?_eq_getElem (by omega)⟩
   refine ACode.skip ?_
   refine ks_n ?_
   refine ACode.seq ?_
   refine ACode.block ?_
   refine ACode.seq ?_
   refine ACode.region ?_
   refine .cons (.fP 6 0 false rfl rfl) ?_
   refine .cons (.l1 1 rfl rfl) ?_
   refine .cons (.mv rfl rfl) ?_
   refine .cons (.xL 89 7 112 rfl rfl rfl rfl rfl (rE_at hx1)) ?_
   refine .cons (.lN 7 rfl rfl rfl) ?_
   refine .cons (.mv rfl rfl) ?_
   refine .cons (.mv rfl rfl) ?_
   refine .cons (.sb rfl rfl rfl) ?_
   refine .cons (.cP [.tmp 36, .tmp 37, .tmp 39] rfl rfl rfl rfl (ih x (List.mem_of_getElem? hx1)) rfl) ?_
   refine .cons (.nt rfl rfl) ?_
   refine .nil ?_
   refine ks_n ?_
   refine ACode.condT rfl (fun h41 => ?_) (fun h41 => ?_)
   ·try simp only [zs1, zs2, zs3, zs4, zs5, zs6, zs7] at h41
    refine ACode.seq ?_
    refine ACode.region ?_
    refine .cons (.asg rfl rfl) ?_
    refine .nil ?_
    refine ks_n ?_
    refine ACode.ret ?_
    refine kb_r ?_
    refine ks_r ?_
    refine kl_r ?_
    refine kb_r ?_
    refine ks_r ?_
    refine kf_ret rfl ?_ nobox
    exact leafB (by rw [exV, h24, hF, all_drop hx1, h41]; rfl)
   ·try simp only [zs1, zs2, zs3, zs4, zs5, zs6, zs7] at h41
    refine ACode.skip ?_
    refine kb_n ?_
    refine ks_n ?_
    refine ACode.region ?_
    refine .cons (.mv rfl rfl) ?_
    refine .cons (.pl rfl rfl rfl) ?_
    refine .cons (.asg rfl rfl) ?_
    refine .nil ?_
    refine kl_k [] ⟨i + 1, rfl, by omega, by rw [hF, all_drop hx1, h41, Bool.true_and], rfl⟩ ⟨ks rfl .dt, ks rfl .dt, ks rfl .dt, ks rfl .dt, ks rfl .dt, trivial⟩
  ·skip
   refine ACode.exit ?_
   refine ks_e ?_
   refine kl_e ?_
   refine kb_hit ?_
   refine ks_n ?_
   refine ACode.seq ?_
   refine ACode.region ?_
   refine .cons (.asg rfl rfl) ?_
   refine .nil ?_
   refine ks_n ?_
   refine ACode.ret ?_
   refine kf_ret rfl ?_ nobox
   exact leafB (by rw [exV, h24, hF, List.drop_of_length_le (by omega)]; rfl)

theorem szE_parts {e : Ex} (hs : szE e ≤ 1099511627776) : e.i.1.length ≤ 1099511627776 ∧ e.r.2.length ≤ 1099511627776 ∧ e.ks.length ≤ 1099511627776 ∧ ∀ x ∈ e.ks, szE x ≤ 1099511627776 := by
  rw [szE_eq, szC] at hs
  have := szAs_len e.r.2
  exact ⟨by omega, by omega, by omega, fun x hx => by have := szEs_mem hx; omega⟩
theorem l3Shape_fn (d : Nat) : ∀ (L : Nat) (lv : Int) (e : Ex), lv = (L : Int) → L ≤ 100 → szE e ≤ 1099511627776 → Fn Tryz.prog 152 [] [ad (rX e), nat1 (d : Nat), nat1 lv] (.o (bo1 (exV d L e))) []
  | 0, lv, e, hd, hL, hs => shape_zero d lv (by omega) e (szE_parts hs).2.1 (szE_parts hs).2.2.1
  | L + 1, lv, e, hd, hL, hs => shape_succ d L lv (by omega) (by omega) e (szE_parts hs).2.1 (szE_parts hs).2.2.1 fun x hx => l3Shape_fn d L (lv - 1) x (by omega) (by omega) ((szE_parts hs).2.2.2 x hx)
theorem cntEs_take {l : List Ex} {i : Nat} {x : Ex} (h : l[i]? = some x) : cntEs (l.take (i + 1)) = cntEs (l.take i) + cntE x := by
  have key : ∀ (a : List Ex) (x : Ex), cntEs (a ++ [x]) = cntEs a + cntE x := by
    intro a x
    induction a with
    | nil => simp [cntEs]
    | cons y a ih => rw [List.cons_append, cntEs, cntEs, ih]; omega
  rw [List.take_add_one, h]
  exact key _ _
theorem cnt_bd {d : Nat} : ∀ {L : Nat} {e : Ex}, exV d L e = true → cntE e + 1 ≤ 2 ^ L
  | 0, e, h => by cases h
  | L + 1, e, h => by
    rw [exV, Bool.and_eq_true, Bool.and_eq_true] at h
    rw [cntE_eq]
    have hp : 1 ≤ 2 ^ L := Nat.one_le_two_pow
    rcases kidV_len h.1.1 with h1 | h1
    · rw [List.eq_nil_of_length_eq_zero h1, cntEs, Nat.pow_succ]; omega
    · obtain ⟨x, y, h2⟩ := two_of h1
      have h3 := h.2
      rw [h2, List.all_cons, List.all_cons, Bool.and_eq_true, Bool.and_eq_true] at h3
      have := cnt_bd h3.1
      have := cnt_bd h3.2.1
      rw [h2, cntEs, cntEs, cntEs, Nat.pow_succ]; omega
theorem exV_kids {d L : Nat} {e : Ex} (h : exV d L e = true) : e.ks.length ≤ 2 ∧ ∀ x ∈ e.ks, exV d (L - 1) x = true := by
  cases L with
  | zero => cases h
  | succ L =>
    rw [exV, Bool.and_eq_true, Bool.and_eq_true] at h
    exact ⟨by have := kidV_len h.1.1; omega, fun x hx => List.all_eq_true.1 h.2 x hx⟩

set_option maxRecDepth 100000 in
set_option maxHeartbeats 1600000 in
theorem l3Count_one (d L : Nat) (lv : Int) (hl : 0 < lv) (hl2 : lv ≤ 100) (e : Ex) (hk2 : e.ks.length ≤ 2) (hb : ∀ x ∈ e.ks, cntE x ≤ 1000) (ih : ∀ x ∈ e.ks, Fn Tryz.prog 153 [] [ad (rX x), nat1 (lv - 1)] (.o (nat1 (cntE x : Nat))) []) : Fn Tryz.prog 153 [] [ad (rX e), nat1 lv] (.o (nat1 (cntE e : Nat))) [] := by
 refine Fn.code0 Tryz.func153 rfl rfl rfl rfl ?_
 refine ACode.seq ?_
 refine ACode.region ?_
 refine .cons (St1.boxP rfl rfl rfl rfl rfl rfl) ?_
 refine .cons (.asg rfl rfl) ?_
 refine .nil ?_
 refine ks_n ?_
 refine ACode.seq ?_
 refine ACode.region ?_
 refine .cons (.asg rfl rfl) ?_
 refine .nil ?_
 refine ks_n ?_
 refine ACode.seq ?_
 refine ACode.seq ?_
 refine ACode.region ?_
 refine .cons (.asg rfl rfl) ?_
 refine .nil ?_
 refine ks_n ?_
 refine ACode.block ?_
 refine .loopK (fun m σ => (∃ i : Nat, m = e.ks.length - i ∧ (i ≤ e.ks.length) ∧ (cntEs (e.ks.take i) ≤ 1000 * i) ∧ σ = [(.t 1, .v (.o (nat1 lv))), (.t 2, .v (.o (.c (.ptr (rX e))))), (.t 5, .v (.o (nat1 ((1 + cntEs (e.ks.take i) : Nat))))), (.t 6, .v (.o (nat1 (i : Nat))))])) [] ⟨0, rfl, by omega, by simp [cntEs], rfl⟩ ⟨ks rfl .dt, ks rfl .dt, ks rfl (.dt (vI (by first | (simp [cntEs]; done) | (rw [cntEs_take hx1]; omega)))), ks rfl .dt, trivial⟩ ?_
 rintro m σ ⟨i, hm0, hi, hF, rfl⟩
 refine ACode.seq ?_
 refine ACode.seq ?_
 refine ACode.region ?_
 refine .cons (.mv rfl rfl) ?_
 refine .cons (.fP 6 0 false rfl rfl) ?_
 refine .cons (.l1 1 rfl rfl) ?_
 refine .cons (.ln 89 7 112 rfl rfl rfl) ?_
 refine .cons (.ls rfl rfl rfl) ?_
 refine .cons (.mv rfl rfl) ?_
 refine .cD 12 rfl (fun g12 => ?_) (fun g12 => ?_)
 ·skip
  obtain ⟨x, hx1⟩ : ∃ x, e.ks[i]? = some x := ⟨_, List.getElem?_eq_getElem (by omega)⟩
  have hbx := hb x (List.mem_of_getElem? hx1)
  refine .cons (.gT rfl rfl rfl (.mv rfl rfl)) ?_
  refine .cons (.gT rfl rfl rfl (.gt rfl rfl rfl)) ?_
  refine .cons (.pT rfl rfl rfl) ?_
  refine .nil ?_
  refine ks_n ?_
  refine ACode.condT rfl (fun h15 => ?_) (fun h15 => ?_)
  ·try simp only [zs1, zs2, zs3, zs4, zs5, zs6, zs7] at h15
   refine ACode.skip ?_
   refine ks_n ?_
   refine ACode.seq ?_
   refine ACode.block ?_
   refine ACode.region ?_
   refine .cons (.mv rfl rfl) ?_
   refine .cons (.fP 6 0 false rfl rfl) ?_
   refine .cons (.l1 1 rfl rfl) ?_
   refine .cons (.mv rfl rfl) ?_
   refine .cons (.xL 89 7 112 rfl rfl rfl rfl rfl (rE_at hx1)) ?_
   refine .cons (.lN 7 rfl rfl rfl) ?_
   refine .cons (.mv rfl rfl) ?_
   refine .cons (.sb rfl rfl rfl) ?_
   refine .cons (.cP [.tmp 23, .tmp 25] rfl rfl rfl rfl (ih x (List.mem_of_getElem? hx1)) rfl) ?_
   refine .cons (.pl rfl rfl rfl) ?_
   refine .cons (.asg rfl rfl) ?_
   refine .nil ?_
   refine kb_n ?_
   refine ks_n ?_
   refine ACode.region ?_
   refine .cons (.mv rfl rfl) ?_
   refine .cons (.pl rfl rfl rfl) ?_
   refine .cons (.asg rfl rfl) ?_
   refine .nil ?_
   refine kl_k [] ⟨i + 1, rfl, by omega, by rw [cntEs_take hx1]; omega, rfl⟩ ⟨ks rfl .dt, ks rfl .dt, ks rfl (.dt (vI (by first | (simp [cntEs]; done) | (rw [cntEs_take hx1]; omega)))), ks rfl .dt, trivial⟩
  ·try simp only [zs1, zs2, zs3, zs4, zs5, zs6, zs7] at h15
   exact absurd hl h15
 ·skip
  have hall : e.ks.take i = e.ks := List.take_of_length_le (by omega)
  refine .cons (.gF rfl rfl rfl) ?_
  refine .cons (.gF rfl rfl rfl) ?_
  refine .cons (.pF rfl rfl rfl) ?_
  refine .nil ?_
  refine ks_n ?_
  refine ACode.condT rfl (fun h => by first | (cases h; done) | (simp [*] at h; done) | (exfalso; simp_all; done)) (fun _ => ?_)
  refine ACode.exit ?_
  refine ks_e ?_
  refine kl_e ?_
  refine kb_hit ?_
  refine ks_n ?_
  refine ACode.seq ?_
  refine ACode.region ?_
  refine .cons (.mv rfl rfl) ?_
  refine .cons (.asg rfl rfl) ?_
  refine .nil ?_
  refine ks_n ?_
  refine ACode.ret ?_
  refine kf_ret rfl ?_ nobox
  exact leafI (by rw [cntE_eq, hall])

theorem l3Count_fn (d : Nat) : ∀ (L : Nat) (lv : Int) (e : Ex), lv = (L : Int) → L ≤ 6 → exV d L e = true → Fn Tryz.prog 153 [] [ad (rX e), nat1 lv] (.o (nat1 (cntE e : Nat))) []
  | 0, lv, e, hd, hL, h => by cases h
  | L + 1, lv, e, hd, hL, h => l3Count_one d L lv (by omega) (by omega) e (exV_kids h).1 (fun x hx => by
      have h1 := cnt_bd ((exV_kids h).2 x hx)
      have h2 : 2 ^ (L + 1 - 1) ≤ 2 ^ 6 := Nat.pow_le_pow_right (by omega) (by omega)
      omega) fun x hx => l3Count_fn d L (lv - 1) x (by omega) (by omega) ((exV_kids h).2 x hx)
theorem l3Access_fi {d : Int} (h : ((d.toNat : Nat) : Int) = d) (a : Acc) (ha : a.2.length ≤ 1099511627776) : Fn Tryz.prog 151 [] [ad (rC a), nat1 d] (.o (bo1 (accV d.toNat a))) [] := by
  have h2 := l3Access_fn d.toNat a ha
  rw [h] at h2; exact h2
theorem l3Shape_fi {d : Int} (h : ((d.toNat : Nat) : Int) = d) (e : Ex) (hs : szE e ≤ 1099511627776) : Fn Tryz.prog 152 [] [ad (rX e), nat1 d, nat1 5] (.o (bo1 (exV d.toNat 5 e))) [] := by
  have h2 := l3Shape_fn d.toNat 5 5 e rfl (by omega) hs
  rw [h] at h2; exact h2

set_option maxRecDepth 100000 in
set_option maxHeartbeats 1600000 in
theorem specStmtV_fn (d : Int) (s : Stm) (hs : szS s ≤ 1099511627776) : Fn Tryz.prog 111 [] [ad (rS s), nat1 d] (.o (bo1 (stmtV d s))) [] := by
 obtain ⟨hs1, hs2⟩ := szS_parts hs
 refine Fn.code0 Tryz.func111 rfl rfl rfl rfl ?_
 refine ACode.seq ?_
 refine ACode.region ?_
 refine .cons (St1.boxP rfl rfl rfl rfl rfl rfl) ?_
 refine .cons (.asg rfl rfl) ?_
 refine .nil ?_
 refine ks_n ?_
 refine ACode.seq ?_
 refine ACode.seq ?_
 refine ACode.cut [(.t 2, .v (.o (.c (.ptr (rS s))))), (.t 4, .v (.o (bo1 false))), (.t 24, .v (.o (bo1 (!(inB d 0 4 && (accV d.toNat s.1 && exV d.toNat 5 s.2))))))] ?_ ?_
 ·skip
  refine ACode.region ?_
  refine .cons (.mv rfl rfl) ?_
  refine .cons (.ls rfl rfl rfl) ?_
  refine .cons (.mv rfl rfl) ?_
  refine .cD 7 rfl (fun g7 => ?_) (fun g7 => ?_)
  ·skip
   refine .cons (.gF rfl rfl rfl) ?_
   refine .cons (.gF rfl rfl rfl) ?_
   refine .cons (.pT rfl rfl rfl) ?_
   refine .cons (.mv rfl rfl) ?_
   refine .cons (.gF rfl rfl rfl) ?_
   refine .cons (.gF rfl rfl rfl) ?_
   refine .cons (.gF rfl rfl rfl) ?_
   refine .cons (.gF rfl rfl rfl) ?_
   refine .cons (.gF rfl rfl rfl) ?_
   refine .cons (.pT rfl rfl rfl) ?_
   refine .cons (.mv rfl rfl) ?_
   refine .cons (.gF rfl rfl rfl) ?_
   refine .cons (.gF rfl rfl rfl) ?_
   refine .cons (.gF rfl rfl rfl) ?_
   refine .cons (.gF rfl rfl rfl) ?_
   refine .cons (.gF rfl rfl rfl) ?_
   refine .cons (.pT rfl rfl rfl) ?_
   refine .nil ?_
   exact kc_n (Wk.keep [] rfl rfl ⟨ks rfl .dt, ks rfl .dt, ks rfl (.dt (vB (by rw [inB]; cases hq1 : accV d.toNat s.1 <;> cases hq2 : exV d.toNat 5 s.2 <;> first | rfl | grind))), trivial⟩)
  ·skip
   refine .cons (.gT rfl rfl rfl (.mv rfl rfl)) ?_
   refine .cons (.gT rfl rfl rfl (.gt rfl rfl rfl)) ?_
   refine .cons (.pF rfl rfl rfl) ?_
   refine .cons (.mv rfl rfl) ?_
   refine AOps.cases 11 _ rfl (fun g11 => ?_) (fun g11 => ?_)
   ·try simp only [zs1, zs2, zs3, zs4, zs5, zs6, zs7] at g11
    refine .cons (.gF rfl rfl rfl) ?_
    refine .cons (.gF rfl rfl rfl) ?_
    refine .cons (.gF rfl rfl rfl) ?_
    refine .cons (.gF rfl rfl rfl) ?_
    refine .cons (.gF rfl rfl rfl) ?_
    refine .cons (.pT rfl rfl rfl) ?_
    refine .cons (.mv rfl rfl) ?_
    refine .cons (.gF rfl rfl rfl) ?_
    refine .cons (.gF rfl rfl rfl) ?_
    refine .cons (.gF rfl rfl rfl) ?_
    refine .cons (.gF rfl rfl rfl) ?_
    refine .cons (.gF rfl rfl rfl) ?_
    refine .cons (.pT rfl rfl rfl) ?_
    refine .nil ?_
    exact kc_n (Wk.keep [] rfl rfl ⟨ks rfl .dt, ks rfl .dt, ks rfl (.dt (vB (by rw [inB]; cases hq1 : accV d.toNat s.1 <;> cases hq2 : exV d.toNat 5 s.2 <;> first | rfl | grind))), trivial⟩)
   ·try simp only [zs1, zs2, zs3, zs4, zs5, zs6, zs7] at g11
    have hD : ((d.toNat : Nat) : Int) = d := by omega
    refine .cons (.gT rfl rfl rfl (.fP 0 1 true rfl rfl)) ?_
    refine .cons (.gT rfl rfl rfl (.lN 2 rfl rfl rfl)) ?_
    refine .cons (.gT rfl rfl rfl (.mv rfl rfl)) ?_
    refine .cons (.gT rfl rfl rfl (.cP [.tmp 13, .tmp 14] rfl rfl rfl rfl (l3Access_fi hD s.1 hs1) rfl)) ?_
    refine .cons (.gT rfl rfl rfl (.nt rfl rfl)) ?_
    refine .cons (.pF rfl rfl rfl) ?_
    refine .cons (.mv rfl rfl) ?_
    refine AOps.cases 18 _ rfl (fun g18 => ?_) (fun g18 => ?_)
    ·try simp only [zs1, zs2, zs3, zs4, zs5, zs6, zs7] at g18
     refine .cons (.gF rfl rfl rfl) ?_
     refine .cons (.gF rfl rfl rfl) ?_
     refine .cons (.gF rfl rfl rfl) ?_
     refine .cons (.gF rfl rfl rfl) ?_
     refine .cons (.gF rfl rfl rfl) ?_
     refine .cons (.pT rfl rfl rfl) ?_
     refine .nil ?_
     exact kc_n (Wk.keep [] rfl rfl ⟨ks rfl .dt, ks rfl .dt, ks rfl (.dt (vB (by rw [inB]; cases hq1 : accV d.toNat s.1 <;> cases hq2 : exV d.toNat 5 s.2 <;> first | rfl | grind))), trivial⟩)
    ·try simp only [zs1, zs2, zs3, zs4, zs5, zs6, zs7] at g18
     refine .cons (.gT rfl rfl rfl (.fP 2 6 true rfl rfl)) ?_
     refine .cons (.gT rfl rfl rfl (.lN 7 rfl rfl rfl)) ?_
     refine .cons (.gT rfl rfl rfl (.mv rfl rfl)) ?_
     refine .cons (.gT rfl rfl rfl (.cP [.tmp 20, .tmp 21, .const (.int .i64 (5))] rfl rfl rfl rfl (l3Shape_fi hD s.2 hs2) rfl)) ?_
     refine .cons (.gT rfl rfl rfl (.nt rfl rfl)) ?_
     refine .cons (.pF rfl rfl rfl) ?_
     refine .nil ?_
     exact kc_n (Wk.keep [] rfl rfl ⟨ks rfl .dt, ks rfl .dt, ks rfl (.dt (vB (by rw [inB]; cases hq1 : accV d.toNat s.1 <;> cases hq2 : exV d.toNat 5 s.2 <;> first | rfl | grind))), trivial⟩)
 refine ks_n ?_
 refine ACode.condT rfl (fun h24 => ?_) (fun h24 => ?_)
 ·try simp only [zs1, zs2, zs3, zs4, zs5, zs6, zs7] at h24
  refine ACode.seq ?_
  refine ACode.region ?_
  refine .cons (.asg rfl rfl) ?_
  refine .nil ?_
  refine ks_n ?_
  refine ACode.ret ?_
  refine ks_r ?_
  refine kf_ret rfl ?_ nobox
  exact leafB (by rw [stmtV, ← Bool.and_assoc, h24]; rfl)
 ·try simp only [zs1, zs2, zs3, zs4, zs5, zs6, zs7] at h24
  have hX : exV d.toNat 5 s.2 = true := by simp only [Bool.and_eq_true] at h24; exact h24.2.2
  have hI : inB d 0 4 = true := by simp only [Bool.and_eq_true] at h24; exact h24.1
  have hA : accV d.toNat s.1 = true := by simp only [Bool.and_eq_true] at h24; exact h24.2.1
  refine ACode.skip ?_
  refine ks_n ?_
  refine ACode.seq ?_
  refine ACode.region ?_
  refine .cons (.fP 2 6 true rfl rfl) ?_
  refine .cons (.lN 7 rfl rfl rfl) ?_
  refine .cons (.cP [.tmp 26, .const (.int .i64 (5))] rfl rfl rfl rfl (l3Count_fn d.toNat 5 5 s.2 rfl (by omega) hX) rfl) ?_
  refine .cons (.le rfl rfl rfl) ?_
  refine .cons (.asg rfl rfl) ?_
  refine .nil ?_
  refine ks_n ?_
  refine ACode.ret ?_
  refine kf_ret rfl ?_ nobox
  exact leafB (by rw [stmtV, hI, hA, hX]; simp; omega)
theorem RetA2.mono {P Q : Nat → Prop} {x : Aff} {ok : Bool} {w : World} {e : Ending} {w' : World} (hp : ∀ b, P b → Q b) (h : RetA2 P x ok w e w') : RetA2 Q x ok w e w' := by
  obtain ⟨v, e, ha, hb⟩ := h
  exact ⟨v, e, ha.mono fun b hb _ => hp b hb, hb⟩
theorem dR_af (f : Aff → Aff) (l : List Aff) : dR ((l.take l.length).map fun x => rA (f x)) = dR ((l.map f).map rA) := by
  rw [List.take_length, List.map_map]; rfl


set_option maxRecDepth 100000 in
set_option maxHeartbeats 1600000 in
theorem l3CopyAff_fn {x : Aff} (hx : x.1.length ≤ 1073741824) : Fn Tryz.prog 188 [] [ad (rA x)] (.o (ad (rA x))) [] := by
 refine Fn.code0 Tryz.func188 rfl rfl rfl rfl ?_
 refine ACode.seq ?_
 refine ACode.region ?_
 refine .cons (St1.boxP rfl rfl rfl rfl rfl rfl) ?_
 refine .cons (.al 102 [.slice none 0 0, .int .i64 0] rfl rfl rfl) ?_
 refine .nil ?_
 refine ks_n ?_
 refine ACode.seq ?_
 refine ACode.seq ?_
 refine ACode.region ?_
 refine .cons (.fP 0 0 false rfl rfl) ?_
 refine .cons (.l1 1 rfl rfl) ?_
 refine .cons (.ln 3 1 8 rfl rfl rfl) ?_
 refine .cons (.eq rfl rfl rfl) ?_
 refine .nil ?_
 refine ks_n ?_
 refine .cD rfl (fun h6 => ?_) (fun h6 => ?_)
 ·skip
  have hn : x.1 = [] := List.eq_nil_of_length_eq_zero (by omega)
  refine ACode.seq ?_
  refine ACode.region ?_
  refine .cons (.fP 1 0 false rfl rfl) ?_
  refine .cons (.l1 1 rfl rfl) ?_
  refine .cons (.bu [(1, .tmp 8)] [(0, 1), (1, 1)] [.slice none 0 0, .int .i64 0] rfl rfl rfl rfl rfl) ?_
  refine .cons (.sT 2 true rfl rfl rfl rfl rfl rfl rfl) ?_
  refine .nil ?_
  refine ks_n ?_
  refine ACode.ret ?_
  refine ks_r ?_
  refine kf_wret [(.t 2, .v (.o (.c (.box 100 2 0 0)))), (.b 100, .b 86 2 [[.d (dIs x.1), .d (dI x.2)]]), (.u 100, .u)] (Wk.keep [(100, 102)] rfl rfl ⟨ks rfl (.c .bx), kb 102 rfl (.cons (.cons (Cto.nilE 1 (by rw [hn]; rfl)) (.cons .dt Ctos.nil)) .nil), trivial⟩) rfl ?_ nobox
  rfl
 ·skip
  refine ACode.skip ?_
  refine ks_n ?_
  refine ACode.seq ?_
  refine ACode.drawK (by kernel_rfl) (by kernel_rfl) ?_
  refine .cons (St1.lit0 (k' := 110) (e := 3) (sz := 1) (b := true) rfl rfl rfl rfl (by kernel_rfl) rfl rfl) ?_
  refine .cons (.fP 0 0 false rfl rfl) ?_
  refine .cons (.l1 1 rfl rfl) ?_
  refine .cons (St1.appD (rows := []) (e := 3) (sz := 0) (by' := 8) rfl rfl rfl rfl rfl (by kernel_rfl) rfl rfl rfl rfl rfl (by simp; omega) rfl) ?_
  refine .cons (.fP 1 0 false rfl rfl) ?_
  refine .cons (.l1 1 rfl rfl) ?_
  refine .cons (.bu [(0, .tmp 13), (1, .tmp 15)] [(0, 1), (1, 1)] [.slice none 0 0, .int .i64 0] rfl rfl rfl rfl rfl) ?_
  refine .cons (.sT 2 true rfl rfl rfl rfl rfl rfl rfl) ?_
  refine .nil ⟨by kernel_rfl, ?_⟩
  refine ks_n ?_
  refine ACode.ret ?_
  refine kf_wret [(.t 2, .v (.o (.c (.box 100 2 0 0)))), (.b 100, .b 86 2 [[.d (dIs x.1), .d (dI x.2)]]), (.u 100, .u)] (Wk.keep [(100, 102)] rfl rfl ⟨ks rfl (.c .bx), kb 102 rfl (.cons (.cons (.dt) (.cons .dt Ctos.nil)) .nil), trivial⟩) rfl ?_ nobox
  rfl

set_option maxRecDepth 100000 in
set_option maxHeartbeats 1600000 in
theorem l3CopyAcc_fn (a : Acc) (ha : a.2.length ≤ 1073741824) (hq : ∀ x ∈ a.2, x.1.length ≤ 1073741824) : Fn Tryz.prog 156 [] [ad (rC a)] (.o (ad (rC a))) [] := by
 refine Fn.code0 Tryz.func156 rfl rfl rfl rfl ?_
 refine ACode.seq ?_
 refine ACode.region ?_
 refine .cons (St1.boxP rfl rfl rfl rfl rfl rfl) ?_
 refine .cons (.al 102 [.string ByteArray.empty, .slice none 0 0] rfl rfl rfl) ?_
 refine .nil ?_
 refine ks_n ?_
 refine ACode.seq ?_
 refine ACode.region ?_
 refine .cons (.fP 0 0 false rfl rfl) ?_
 refine .cons (.l1 1 rfl rfl) ?_
 refine .cons (.bu [(0, .tmp 6)] [(0, 1), (1, 1)] [.string ByteArray.empty, .slice none 0 0] rfl rfl rfl rfl rfl) ?_
 refine .cons (.al 103 [.string ByteArray.empty, .slice none 0 0] rfl rfl rfl) ?_
 refine .cons (.sT 2 true rfl rfl rfl rfl rfl rfl rfl) ?_
 refine .nil ?_
 refine ks_n ?_
 refine ACode.seq ?_
 refine ACode.seq ?_
 refine ACode.region ?_
 refine .cons (.asg rfl rfl) ?_
 refine .nil ?_
 refine ks_n ?_
 refine ACode.block ?_
 refine .loopK (fun m σ => (∃ i : Nat, m = a.2.length - i ∧ (i = 0) ∧ σ = [(.t 1, .v (.o (.c (.ptr (rC a))))), (.t 2, .v (.o (.c (.box 110 2 0 0)))), (.t 3, .v (.o (.c (.box 111 2 0 0)))), (.t 4, .v (.o (nat1 (i : Nat)))), (.b 110, .b 84 2 [[.d (dS ByteArray.empty), .d (.val (.slice none 0 0))]]), (.u 110, .u), (.b 111, .b 84 2 [[.d (dS a.1), .d (.val (.slice none 0 0))]]), (.u 111, .u)]) ∨ (∃ i : Nat, m = a.2.length - i ∧ (1 ≤ i) ∧ (i ≤ a.2.length) ∧ σ = [(.t 1, .v (.o (.c (.ptr (rC a))))), (.t 2, .v (.o (.c (.box 110 2 0 0)))), (.t 3, .v (.o (.c (.box 111 2 0 0)))), (.t 4, .v (.o (nat1 (i : Nat)))), (.b 110, .b 84 2 [[.d (dS ByteArray.empty), .d (.val (.slice none 0 0))]]), (.u 110, .u), (.b 112, .b 86 2 (dR ((a.2.take i).map rA))), (.u 112, .u), (.b 111, .b 84 2 [[.d (dS a.1), .own 112 2 (i)]]), (.u 111, .u)])) [(110, 102), (111, 103)] (.inl ⟨0, rfl, rfl, rfl⟩) ⟨ks rfl .dt, ks rfl (.c .bx), ks rfl (.c .bx), ks rfl .dt, kb 102 rfl (.cons (.cons .dt (.cons .dt Ctos.nil)) .nil), kb 103 rfl (.cons (.cons .dt (.cons .dt Ctos.nil)) .nil), trivial⟩ ?_
 rintro m σ (⟨i, hm0, rfl, rfl⟩ | ⟨i, hm0, hi1, hi2, rfl⟩)
 ·skip
  refine ACode.seq ?_
  refine ACode.seq ?_
  refine ACode.region ?_
  refine .cons (.mv rfl rfl) ?_
  refine .cons (.fP 1 0 false rfl rfl) ?_
  refine .cons (.l1 1 rfl rfl) ?_
  refine .cons (.ln 86 2 32 rfl rfl rfl) ?_
  refine .cons (.ls rfl rfl rfl) ?_
  refine .nil ?_
  refine ks_n ?_
  refine .cD rfl (fun h12 => ?_) (fun h12 => ?_)
  ·skip
   obtain ⟨x, hx1⟩ : ∃ x, a.2[0]? = some x := ⟨_, List.getElem?_eq_getElem (by omega)⟩
   refine ACode.skip ?_
   refine ks_n ?_
   refine ACode.seq ?_
   refine ACode.block ?_
   refine ACode.drawK (by kernel_rfl) (by kernel_rfl) ?_
   refine .cons (.fB 1 0 false rfl rfl rfl) ?_
   refine .cons (.b1 1 rfl rfl rfl rfl rfl rfl) ?_
   refine .cons (.fP 1 0 false rfl rfl) ?_
   refine .cons (.l1 1 rfl rfl) ?_
   refine .cons (.mv rfl rfl) ?_
   refine .cons (.xL 86 2 32 rfl rfl rfl rfl rfl) ?_
   refine .cons (.lN 2 rfl rfl rfl) ?_
   refine .cons (.cP [.tmp 21] rfl rfl rfl rfl (l3CopyAff_fn (hq x (List.mem_of_getElem? hx1))) rfl) ?_
   refine .cons (.li 86 1 0 [.tmp 22] rfl rfl rfl rfl rfl rfl) ?_
   refine .cons (St1.appN (k' := 124) (e := 86) (sz := 1) (by' := 32) rfl rfl rfl rfl rfl (by kernel_rfl) rfl rfl rfl (by simp) (by first | (simp [dR]; done) | (simp [dR]; omega)) rfl rfl) ?_
   refine .cons (.fB 1 0 false rfl rfl rfl) ?_
   refine .cons (.sT 1 false rfl rfl rfl rfl rfl rfl rfl) ?_
   refine .nil ⟨by kernel_rfl, ?_⟩
   refine kb_n ?_
   refine ks_n ?_
   refine ACode.region ?_
   refine .cons (.mv rfl rfl) ?_
   refine .cons (.pl rfl rfl rfl) ?_
   refine .cons (.asg rfl rfl) ?_
   refine .nil ?_
   refine kl_k [(110, 110), (111, 111), (112, 124)] (.inr ⟨1, rfl, by omega, by omega, rfl⟩) ⟨ks rfl .dt, ks rfl (.c .bx), ks rfl (.c .bx), ks rfl .dt, kb 110 rfl (.cons (.cons .dt (.cons .dt Ctos.nil)) .nil), kb 124 rfl (.dt rfl (by first | exact dR_take (rA) hx1 | exact dR_take1 (rA) hx1 | rfl | (simp [dR]; done))), kb 111 rfl (.cons (.cons .dt (.cons .ow Ctos.nil)) .nil), trivial⟩
  ·skip
   have hn : a.2 = [] := List.eq_nil_of_length_eq_zero (by omega)
   refine ACode.exit ?_
   refine ks_e ?_
   refine kl_e ?_
   refine kb_hit ?_
   refine ks_n ?_
   refine ACode.seq ?_
   refine ACode.region ?_
   refine .cons (.bN 2 rfl rfl rfl rfl rfl rfl) ?_
   refine .cons (.sT 2 true rfl rfl rfl rfl rfl rfl rfl) ?_
   refine .nil ?_
   refine ks_n ?_
   refine ACode.ret ?_
   refine kf_wret [(.t 2, .v (.o (.c (.box 100 2 0 0)))), (.b 100, .b 84 2 [[.d (dS a.1), .d (dAs a.2)]]), (.u 100, .u)] (Wk.keep [(100, 110)] rfl rfl ⟨ks rfl (.c .bx), kb 110 rfl (.cons (.cons .dt (.cons (Cto.nilE 2 (by rw [hn]; rfl)) Ctos.nil)) .nil), trivial⟩) rfl ?_ nobox
   rfl
 ·skip
  refine ACode.seq ?_
  refine ACode.seq ?_
  refine ACode.region ?_
  refine .cons (.mv rfl rfl) ?_
  refine .cons (.fP 1 0 false rfl rfl) ?_
  refine .cons (.l1 1 rfl rfl) ?_
  refine .cons (.ln 86 2 32 rfl rfl rfl) ?_
  refine .cons (.ls rfl rfl rfl) ?_
  refine .nil ?_
  refine ks_n ?_
  refine .cD rfl (fun h12 => ?_) (fun h12 => ?_)
  ·skip
   obtain ⟨x, hx1⟩ : ∃ x, a.2[i]? = some x := ⟨_, List.getElem?_eq_getElem (by omega)⟩
   refine ACode.skip ?_
   refine ks_n ?_
   refine ACode.seq ?_
   refine ACode.block ?_
   refine ACode.drawK (by kernel_rfl) (by kernel_rfl) ?_
   refine .cons (.fB 1 0 false rfl rfl rfl) ?_
   refine .cons (.b1 1 rfl rfl rfl rfl rfl rfl) ?_
   refine .cons (.fP 1 0 false rfl rfl) ?_
   refine .cons (.l1 1 rfl rfl) ?_
   refine .cons (.mv rfl rfl) ?_
   refine .cons (.xL 86 2 32 rfl rfl rfl rfl rfl) ?_
   refine .cons (.lN 2 rfl rfl rfl) ?_
   refine .cons (.cP [.tmp 21] rfl rfl rfl rfl (l3CopyAff_fn (hq x (List.mem_of_getElem? hx1))) rfl) ?_
   refine .cons (.li 86 1 0 [.tmp 22] rfl rfl rfl rfl rfl rfl) ?_
   refine .cons (St1.appB (k' := 124) (e := 86) (sz := 1) (by' := 32) rfl rfl rfl rfl rfl (by kernel_rfl) rfl rfl rfl rfl (by first | (simp [dR]; done) | (simp [dR]; omega)) (by first | (simp [dR]; done) | (simp [dR]; omega)) rfl rfl rfl) ?_
   refine .cons (.fB 1 0 false rfl rfl rfl) ?_
   refine .cons (.sT 1 false rfl rfl rfl rfl rfl rfl rfl) ?_
   refine .nil ⟨by kernel_rfl, ?_⟩
   refine kb_n ?_
   refine ks_n ?_
   refine ACode.region ?_
   refine .cons (.mv rfl rfl) ?_
   refine .cons (.pl rfl rfl rfl) ?_
   refine .cons (.asg rfl rfl) ?_
   refine .nil ?_
   refine kl_k [(110, 110), (111, 111), (112, 124)] (.inr ⟨i + 1, rfl, by omega, by omega, rfl⟩) ⟨ks rfl .dt, ks rfl (.c .bx), ks rfl (.c .bx), ks rfl .dt, kb 110 rfl (.cons (.cons .dt (.cons .dt Ctos.nil)) .nil), kb 124 rfl (.dt rfl (by first | exact dR_take (rA) hx1 | exact dR_take1 (rA) hx1 | rfl | (simp [dR]; done))), kb 111 rfl (.cons (.cons .dt (.cons .ow Ctos.nil)) .nil), trivial⟩
  ·skip
   obtain rfl : i = a.2.length := by omega
   refine ACode.exit ?_
   refine ks_e ?_
   refine kl_e ?_
   refine kb_hit ?_
   refine ks_n ?_
   refine ACode.seq ?_
   refine ACode.region ?_
   refine .cons (.bN 2 rfl rfl rfl rfl rfl rfl) ?_
   refine .cons (.sT 2 true rfl rfl rfl rfl rfl rfl rfl) ?_
   refine .nil ?_
   refine ks_n ?_
   refine ACode.ret ?_
   refine kf_wret [(.t 2, .v (.o (.c (.box 100 2 0 0)))), (.b 100, .b 84 2 [[.d (dS a.1), .d (dAs a.2)]]), (.u 100, .u)] (Wk.keep [(100, 110)] rfl rfl ⟨ks rfl (.c .bx), kb 110 rfl (.cons (.cons .dt (.cons (.fz rfl (by first | rfl | exact dR_af _ _ | (rw [List.take_length]; done)) (by first | rfl | (simp; done) | (simp; omega)) (by omega)) Ctos.nil)) .nil), trivial⟩) rfl ?_ nobox
   rfl
theorem rdE_eq (e : Ex) : rdE e = (if e.k = 3 then [e.r] else []) ++ rdEs e.ks := by cases e; rw [rdE]; rfl
theorem rdEs_take {l : List Ex} {i : Nat} {x : Ex} (h : l[i]? = some x) : rdEs (l.take (i + 1)) = rdEs (l.take i) ++ rdE x := by
  have key : ∀ (a : List Ex) (x : Ex), rdEs (a ++ [x]) = rdEs a ++ rdE x := by
    intro a x
    induction a with
    | nil => simp [rdEs]
    | cons y a ih => rw [List.cons_append, rdEs, rdEs, ih, List.append_assoc]
  rw [List.take_add_one, h]
  exact key _ _
mutual
theorem rdE_len : ∀ e : Ex, (rdE e).length ≤ cntE e
  | .mk k n i r ks => by
    rw [rdE, cntE, List.length_append]
    have := rdEs_len ks
    split
    · simp; omega
    · simp; omega
theorem rdEs_len : ∀ l : List Ex, (rdEs l).length ≤ cntEs l
  | [] => by simp [rdEs]
  | e :: l => by
    rw [rdEs, cntEs, List.length_append]
    have := rdE_len e
    have := rdEs_len l
    omega
end
theorem cntEs_le {l : List Ex} {i : Nat} : cntEs (l.take i) ≤ cntEs l := by
  induction l generalizing i with
  | nil => simp [cntEs]
  | cons y l ih =>
    cases i with
    | zero => simp [cntEs]
    | succ i => rw [List.take_succ_cons, cntEs, cntEs]; have := ih (i := i); omega
theorem cnt64 {d L : Nat} {e : Ex} (h : exV d L e = true) (hL : L ≤ 6) : cntE e ≤ 64 := by
  have h1 := cnt_bd h
  have : 2 ^ L ≤ 2 ^ 6 := Nat.pow_le_pow_right (by omega) hL
  omega
theorem kids64 {e : Ex} {i : Nat} (h : cntE e ≤ 64) : (rdEs (e.ks.take i)).length ≤ 64 := by
  have h1 := rdEs_len (e.ks.take i)
  have h2 := cntEs_le (l := e.ks) (i := i)
  rw [cntE_eq] at h
  omega
theorem leaf_nil {d L : Nat} {e : Ex} (h : exV d L e = true) (hk : 1 ≤ e.k ∧ e.k ≤ 3) : e.ks = [] := by
  cases L with
  | zero => cases h
  | succ L =>
    rw [exV, Bool.and_eq_true, Bool.and_eq_true] at h
    have h1 := h.1.1
    rw [kidV, if_pos hk] at h1
    exact List.eq_nil_of_length_eq_zero (of_decide_eq_true h1)
theorem dR_apC (a b : List Acc) : dR (a.map rC) ++ (b.map rC).map (·.map C.d) = dR ((a ++ b).map rC) := by rw [dR_app, List.map_append]

set_option maxRecDepth 100000 in
set_option maxHeartbeats 1600000 in
theorem reads_one (e : Ex) {d L : Nat} (hv : exV d L e = true) (hcn : cntE e ≤ 64) (ih : ∀ x ∈ e.ks, Fn Tryz.prog 97 [] [ad (rX x)] (.o (vD (dCs (rdE x)))) []) : Fn Tryz.prog 97 [] [ad (rX e)] (.o (vD (dCs (rdE e)))) [] := by
 have hkl := (exV_kids hv).1
 refine Fn.code0 Tryz.func97 rfl rfl rfl rfl ?_
 refine ACode.seq ?_
 refine ACode.region ?_
 refine .cons (St1.boxP rfl rfl rfl rfl rfl rfl) ?_
 refine .cons (.asg rfl rfl) ?_
 refine .nil ?_
 refine ks_n ?_
 refine ACode.seq ?_
 refine ACode.seq ?_
 refine ACode.region ?_
 refine .cons (.fP 0 0 false rfl rfl) ?_
 refine .cons (.l1 1 rfl rfl) ?_
 refine .cons (.eq rfl rfl rfl) ?_
 refine .nil ?_
 refine ks_n ?_
 refine .cD rfl (fun h8 => ?_) (fun h8 => ?_)
 ·skip
  refine ACode.seq ?_
  refine ACode.region ?_
  refine .cons (.fP 4 1 true rfl rfl) ?_
  refine .cons (.lN 2 rfl rfl rfl) ?_
  refine .cons (.li 84 1 0 [.tmp 10] rfl rfl rfl rfl rfl rfl) ?_
  refine .cons (.asg rfl rfl) ?_
  refine .nil ?_
  refine ks_n ?_
  refine ACode.ret ?_
  refine ks_r ?_
  refine kf_wret [(.t 2, .v (.o (vD (dCs (rdE e)))))] (Wk.keep [] rfl rfl ⟨ks rfl (.dt (by rw [rdE_eq, if_pos h8, leaf_nil hv (by omega)]; rfl)), trivial⟩) rfl ?_ nobox
  rfl
 ·skip
  refine ACode.skip ?_
  refine ks_n ?_
  refine ACode.seq ?_
  refine ACode.region ?_
  refine .cons (.asg rfl rfl) ?_
  refine .nil ?_
  refine ks_n ?_
  refine ACode.seq ?_
  refine ACode.seq ?_
  refine ACode.region ?_
  refine .cons (.fP 6 0 false rfl rfl) ?_
  refine .cons (.l1 1 rfl rfl) ?_
  refine .cons (.ln 89 7 112 rfl rfl rfl) ?_
  refine .cons (.mv rfl rfl) ?_
  refine .nil ?_
  refine ks_n ?_
  refine ACode.block ?_
  refine .loopK (fun m σ => (∃ i : Nat, m = e.ks.length - i ∧ (i ≤ e.ks.length) ∧ (rdEs (e.ks.take i) = []) ∧ σ = [(.t 1, .v (.o (.c (.ptr (rX e))))), (.t 2, .v (.o (.c (.d (.val (.slice none 0 0)))))), (.t 3, .v (.o (.c (.d (.val (.slice none 0 0)))))), (.t 13, .v (.o (vD (dEs e.ks)))), (.t 14, .v (.o (nat1 (e.ks.length : Nat)))), (.t 15, .v (.o (nat1 (i : Nat))))]) ∨ (∃ i : Nat, m = e.ks.length - i ∧ (i ≤ e.ks.length) ∧ (0 < (rdEs (e.ks.take i)).length) ∧ σ = [(.t 1, .v (.o (.c (.ptr (rX e))))), (.t 2, .v (.o (.c (.d (.val (.slice none 0 0)))))), (.t 3, .v (.o (.c (.own 110 2 ((rdEs (e.ks.take i)).length))))), (.t 13, .v (.o (vD (dEs e.ks)))), (.t 14, .v (.o (nat1 (e.ks.length : Nat)))), (.t 15, .v (.o (nat1 (i : Nat)))), (.b 110, .b 84 2 (dR ((rdEs (e.ks.take i)).map rC))), (.u 110, .u)])) [] (.inl ⟨0, rfl, by omega, by simp [rdEs], rfl⟩) ⟨ks rfl .dt, ks rfl .dt, ks rfl .dt, ks rfl .dt, ks rfl .dt, ks rfl .dt, trivial⟩ ?_
  rintro m σ (⟨i, hm0, hi, h0, rfl⟩ | ⟨i, hm0, hi, h0, rfl⟩)
  ·skip
   refine ACode.seq ?_
   refine ACode.region ?_
   refine .cons (.ls rfl rfl rfl) ?_
   refine .nil ?_
   refine ks_n ?_
   refine ACode.seq ?_
   refine .cD rfl (fun h16 => ?_) (fun h16 => ?_)
   ·skip
    obtain ⟨x, hx1⟩ : ∃ x, e.ks[i]? = some x := ⟨_, List.getElem?_eq_getElem (by omega)⟩
    have hmx := List.mem_of_getElem? hx1
    have hT := rdEs_take hx1
    have h64 := kids64 (i := i + 1) hcn
    refine ACode.skip ?_
    refine ks_n ?_
    refine ACode.seq ?_
    refine ACode.block ?_
    refine ACode.seq ?_
    refine ACode.region ?_
    refine .cons (.xL 89 7 112 rfl rfl rfl rfl rfl (rE_at hx1)) ?_
    refine .cons (.lN 7 rfl rfl rfl) ?_
    refine .cons (.al 105 [.int .i64 0, .int .i64 0, .slice none 0 0, .int .i64 0, .string ByteArray.empty, .slice none 0 0, .slice none 0 0] rfl rfl rfl) ?_
    refine .cons (.sT 7 true rfl rfl rfl rfl rfl rfl rfl) ?_
    refine .nil ?_
    refine ks_n ?_
    by_cases hsp : rdE x = []
    ·skip
     refine ACode.region ?_
     refine .cons (.mv rfl rfl) ?_
     refine .cons (.bN 7 rfl rfl rfl rfl rfl rfl) ?_
     refine .cons (.cP [.tmp 20] rfl rfl rfl rfl (ih x hmx) rfl) ?_
     refine .cons (St1.appNE (e := 84) (sz := 1) (by' := 40) rfl rfl rfl rfl rfl (by kernel_rfl) rfl (congrArg (fun l => some (V.o (vD (dCs l)))) hsp)) ?_
     refine .cons (.asg rfl rfl) ?_
     refine .nil ?_
     refine kb_n ?_
     refine ks_n ?_
     refine ACode.region ?_
     refine .cons (.pl rfl rfl rfl) ?_
     refine .cons (.mv rfl rfl) ?_
     refine .nil ?_
     refine kl_k [] (.inl ⟨i + 1, rfl, by omega, by rw [hT, h0, hsp]; rfl, rfl⟩) ⟨ks rfl .dt, ks rfl .dt, ks rfl .dt, ks rfl .dt, ks rfl .dt, ks rfl .dt, trivial⟩
    ·skip
     refine ACode.region ?_
     refine .cons (.mv rfl rfl) ?_
     refine .cons (.bN 7 rfl rfl rfl rfl rfl rfl) ?_
     refine .cons (.cP [.tmp 20] rfl rfl rfl rfl (ih x hmx) rfl) ?_
     refine .cons (St1.appN (k' := 122) (e := 84) (sz := 1) (by' := 40) rfl rfl rfl rfl rfl (by kernel_rfl) rfl rfl rfl (by rw [List.length_map]; exact List.length_pos_iff.2 hsp) (by rw [hT, List.length_append] at h64; simp [dR]; omega) rfl rfl) ?_
     refine .cons (.asg rfl rfl) ?_
     refine .nil ?_
     refine kb_n ?_
     refine ks_n ?_
     refine ACode.region ?_
     refine .cons (.pl rfl rfl rfl) ?_
     refine .cons (.mv rfl rfl) ?_
     refine .nil ?_
     refine kl_k [(110, 122)] (.inr ⟨i + 1, rfl, by omega, by rw [hT, List.length_append]; have := List.length_pos_iff.2 hsp; omega, rfl⟩) ⟨ks rfl .dt, ks rfl .dt, ks rfl (.c (.ow (by first | (simp [rdEs]; done) | (rw [hT, List.length_append, List.length_map]; done) | (rw [hT, h0, List.length_map]; rfl) | (simp [hT, h0]; done)))), ks rfl .dt, ks rfl .dt, ks rfl .dt, kb 122 rfl (.dt rfl (by first | (rw [hT, ← dR_apC]; done) | (rw [hT, h0]; rfl) | (rw [hT, dR_apC]; done) | (simp [dR, hT, h0]; done))), trivial⟩
   ·skip
    have hR : rdEs (e.ks.take i) = rdE e := by rw [List.take_of_length_le (by omega), rdE_eq, if_neg h8]; rfl
    refine ACode.exit ?_
    refine ks_e ?_
    refine kl_e ?_
    refine kb_hit ?_
    refine ks_n ?_
    refine ACode.seq ?_
    refine ACode.region ?_
    refine .cons (.mv rfl rfl) ?_
    refine .cons (.asg rfl rfl) ?_
    refine .nil ?_
    refine ks_n ?_
    refine ACode.ret ?_
    refine kf_wret [(.t 2, .v (.o (vD (dCs (rdE e)))))] (Wk.keep [] rfl rfl ⟨ks rfl (.c (Cto.nilE 2 (by rw [← hR, h0]; rfl))), trivial⟩) rfl ?_ nobox
    rfl
  ·skip
   refine ACode.seq ?_
   refine ACode.region ?_
   refine .cons (.ls rfl rfl rfl) ?_
   refine .nil ?_
   refine ks_n ?_
   refine ACode.seq ?_
   refine .cD rfl (fun h16 => ?_) (fun h16 => ?_)
   ·skip
    obtain ⟨x, hx1⟩ : ∃ x, e.ks[i]? = some x := ⟨_, List.getElem?_eq_getElem (by omega)⟩
    have hmx := List.mem_of_getElem? hx1
    have hT := rdEs_take hx1
    have h64 := kids64 (i := i + 1) hcn
    refine ACode.skip ?_
    refine ks_n ?_
    refine ACode.seq ?_
    refine ACode.block ?_
    refine ACode.seq ?_
    refine ACode.region ?_
    refine .cons (.xL 89 7 112 rfl rfl rfl rfl rfl (rE_at hx1)) ?_
    refine .cons (.lN 7 rfl rfl rfl) ?_
    refine .cons (.al 105 [.int .i64 0, .int .i64 0, .slice none 0 0, .int .i64 0, .string ByteArray.empty, .slice none 0 0, .slice none 0 0] rfl rfl rfl) ?_
    refine .cons (.sT 7 true rfl rfl rfl rfl rfl rfl rfl) ?_
    refine .nil ?_
    refine ks_n ?_
    refine ACode.region ?_
    refine .cons (.mv rfl rfl) ?_
    refine .cons (.bN 7 rfl rfl rfl rfl rfl rfl) ?_
    refine .cons (.cP [.tmp 20] rfl rfl rfl rfl (ih x hmx) rfl) ?_
    refine .cons (St1.appB (k' := 122) (e := 84) (sz := 1) (by' := 40) rfl rfl rfl rfl rfl (by kernel_rfl) rfl rfl rfl rfl (by simp [dR]) (by rw [hT, List.length_append] at h64; simp [dR]; omega) rfl rfl rfl) ?_
    refine .cons (.asg rfl rfl) ?_
    refine .nil ?_
    refine kb_n ?_
    refine ks_n ?_
    refine ACode.region ?_
    refine .cons (.pl rfl rfl rfl) ?_
    refine .cons (.mv rfl rfl) ?_
    refine .nil ?_
    refine kl_k [(110, 122)] (.inr ⟨i + 1, rfl, by omega, by rw [hT, List.length_append]; omega, rfl⟩) ⟨ks rfl .dt, ks rfl .dt, ks rfl (.c (.ow (by first | (simp [rdEs]; done) | (rw [hT, List.length_append, List.length_map]; done) | (rw [hT, h0, List.length_map]; rfl) | (simp [hT, h0]; done)))), ks rfl .dt, ks rfl .dt, ks rfl .dt, kb 122 rfl (.dt rfl (by first | (rw [hT, ← dR_apC]; done) | (rw [hT, h0]; rfl) | (rw [hT, dR_apC]; done) | (simp [dR, hT, h0]; done))), trivial⟩
   ·skip
    have hR : rdEs (e.ks.take i) = rdE e := by rw [List.take_of_length_le (by omega), rdE_eq, if_neg h8]; rfl
    refine ACode.exit ?_
    refine ks_e ?_
    refine kl_e ?_
    refine kb_hit ?_
    refine ks_n ?_
    refine ACode.seq ?_
    refine ACode.region ?_
    refine .cons (.mv rfl rfl) ?_
    refine .cons (.asg rfl rfl) ?_
    refine .nil ?_
    refine ks_n ?_
    refine ACode.ret ?_
    refine kf_wret [(.t 2, .v (.o (vD (dCs (rdE e)))))] (Wk.keep [] rfl rfl ⟨ks rfl (.c (.fz rfl (by rw [hR]) (by rw [hR, List.length_map]) (by have := rdE_len e; first | omega | (rw [hR]; omega)))), trivial⟩) rfl ?_ nobox
    rfl

theorem reads_fn {d : Nat} : ∀ {L : Nat} (e : Ex), L ≤ 6 → exV d L e = true → Fn Tryz.prog 97 [] [ad (rX e)] (.o (vD (dCs (rdE e)))) []
  | 0, e, hL, h => by cases h
  | L + 1, e, hL, h => reads_one e h (cnt64 h hL) fun x hx => reads_fn (L := L) x (by omega) ((exV_kids h).2 x hx)
/-- A statement that is valid somewhere. -/
theorem stmtV_ex {d : Int} {s : Stm} (h : stmtV d s = true) : exV d.toNat 5 s.2 = true ∧ accV d.toNat s.1 = true ∧ cntE s.2 ≤ 12 ∧ 0 ≤ d ∧ d ≤ 4 := by
  rw [stmtV, Bool.and_eq_true, Bool.and_eq_true, Bool.and_eq_true, decide_eq_true_eq, inB, decide_eq_true_eq] at h
  exact ⟨h.2.1.2, h.2.1.1, h.2.2, h.1⟩
theorem sameE_eq (x y : Ex) : sameE x y = (decide (x.k = y.k) && decide (x.n = y.n) && decide (x.i = y.i) && sameC x.r y.r && sameEs x.ks y.ks) := by
  cases x; cases y
  rw [sameE, sameC]
  simp only [Ex.k, Ex.n, Ex.i, Ex.r, Ex.ks, Bool.and_assoc]
  congr 3
  rw [← Bool.and_assoc, ← Bool.and_assoc]
  congr 1
  exact Bool.and_comm _ _
theorem eqF_sameE : ∀ a b : List Ex, eqF sameE a b = sameEs a b
  | [], [] => rfl
  | [], _ :: _ => rfl
  | _ :: _, [] => rfl
  | x :: a, y :: b => by rw [eqF, sameEs, eqF_sameE a b]


set_option maxRecDepth 100000 in
set_option maxHeartbeats 1600000 in
theorem idx_acc {f : FuncId} {cap : List (List D)} (hc : callable Tryz.prog f = true) (p : Acc → Bool) (xs : List Acc) (hx : xs.length ≤ 1099511627776) (hf : ∀ x ∈ xs, Fn Tryz.prog f [] (ad (rC x) :: cap.map fun c => .c (.ptr c)) (.o (bo1 (p x))) []) : Fn Tryz.prog 138 [] [vD (dCs xs), .c (.fn f cap)] (.o (nat1 (idxF p xs))) [] := by
 refine Fn.code0 Tryz.func138 rfl rfl rfl rfl ?_
 refine ACode.seq ?_
 refine ACode.region ?_
 refine .cons (.asg rfl rfl) ?_
 refine .nil ?_
 refine ks_n ?_
 refine ACode.seq ?_
 refine ACode.seq ?_
 refine ACode.region ?_
 refine .cons (.mv rfl rfl) ?_
 refine .cons (.ln 84 2 40 rfl rfl rfl) ?_
 refine .cons (.mv rfl rfl) ?_
 refine .nil ?_
 refine ks_n ?_
 refine ACode.block ?_
 refine .loopK (fun m σ => (∃ i : Nat, m = xs.length - i ∧ (i ≤ xs.length) ∧ (idxF p xs = idxG p i (xs.drop i)) ∧ σ = [(.t 0, .v (.o (vD (dCs xs)))), (.t 1, .v (.o (.c (.fn f cap)))), (.t 7, .v (.o (nat1 (xs.length : Nat)))), (.t 8, .v (.o (nat1 (i : Nat))))])) [] ⟨0, rfl, by omega, rfl, rfl⟩ ⟨ks rfl .dt, ks rfl .dt, ks rfl .dt, ks rfl .dt, trivial⟩ ?_
 rintro m σ ⟨i, hm0, hi, hF, rfl⟩
 refine ACode.seq ?_
 refine ACode.region ?_
 refine .cons (.ls rfl rfl rfl) ?_
 refine .nil ?_
 refine ks_n ?_
 refine ACode.seq ?_
 refine .cD rfl (fun h9 => ?_) (fun h9 => ?_)
 ·skip
  obtain ⟨x, hx1⟩ : ∃ x, xs[i]? = some x := ⟨_, List.getElem?_eq_getElem (by omega)⟩
  refine ACode.skip ?_
  refine ks_n ?_
  refine ACode.seq ?_
  refine ACode.block ?_
  refine ACode.seq ?_
  refine ACode.region ?_
  refine .cons (.mv rfl rfl) ?_
  refine .cons (.asg rfl rfl) ?_
  refine .nil ?_
  refine ks_n ?_
  refine ACode.seq ?_
  refine ACode.region ?_
  refine .cons (.mv rfl rfl) ?_
  refine .cons (.mv rfl rfl) ?_
  refine .cons (.mv rfl rfl) ?_
  refine .cons (.xL 84 2 40 rfl rfl rfl rfl rfl) ?_
  refine .cons (.lN 2 rfl rfl rfl) ?_
  refine .cons (.cP [.tmp 15] rfl rfl rfl rfl (hf x (List.mem_of_getElem? hx1)) rfl hc) ?_
  refine .nil ?_
  refine ks_n ?_
  refine ACode.condT rfl (fun h16 => ?_) (fun h16 => ?_)
  ·try simp only [zs1, zs2, zs3, zs4, zs5, zs6, zs7] at h16
   refine ACode.seq ?_
   refine ACode.region ?_
   refine .cons (.mv rfl rfl) ?_
   refine .cons (.asg rfl rfl) ?_
   refine .nil ?_
   refine ks_n ?_
   refine ACode.ret ?_
   refine kb_r ?_
   refine ks_r ?_
   refine kl_r ?_
   refine kb_r ?_
   refine ks_r ?_
   refine kf_ret rfl ?_ nobox
   exact leafI (by rw [hF, idxG_drop hx1, h16]; rfl)
  ·try simp only [zs1, zs2, zs3, zs4, zs5, zs6, zs7] at h16
   refine ACode.skip ?_
   refine kb_n ?_
   refine ks_n ?_
   refine ACode.region ?_
   refine .cons (.pl rfl rfl rfl) ?_
   refine .cons (.mv rfl rfl) ?_
   refine .nil ?_
   refine kl_k [] ⟨i + 1, rfl, by omega, by rw [hF, idxG_drop hx1, h16]; rfl, rfl⟩ ⟨ks rfl .dt, ks rfl .dt, ks rfl .dt, ks rfl .dt, trivial⟩
 ·skip
  refine ACode.exit ?_
  refine ks_e ?_
  refine kl_e ?_
  refine kb_hit ?_
  refine ks_n ?_
  refine ACode.seq ?_
  refine ACode.region ?_
  refine .cons (.asg rfl rfl) ?_
  refine .nil ?_
  refine ks_n ?_
  refine ACode.ret ?_
  refine kf_ret rfl ?_ nobox
  exact leafI (by rw [hF, List.drop_of_length_le (by omega)]; rfl)

set_option maxRecDepth 100000 in
set_option maxHeartbeats 1600000 in
theorem cnt_acc {f : FuncId} {cap : List (List D)} (hc : callable Tryz.prog f = true) (p : Acc → Bool) (xs : List Acc) (hx : xs.length ≤ 1099511627776) (hf : ∀ x ∈ xs, Fn Tryz.prog f [] (ad (rC x) :: cap.map fun c => .c (.ptr c)) (.o (bo1 (p x))) []) : Fn Tryz.prog 96 [] [vD (dCs xs), .c (.fn f cap)] (.o (bo1 (xs.any p))) [] := by
 refine Fn.code0 Tryz.func96 rfl rfl rfl rfl ?_
 refine ACode.seq ?_
 refine ACode.region ?_
 refine .cons (.asg rfl rfl) ?_
 refine .nil ?_
 refine ks_n ?_
 refine ACode.seq ?_
 refine ACode.region ?_
 refine .cons (.mv rfl rfl) ?_
 refine .cons (.mv rfl rfl) ?_
 refine .cons (.cP [.tmp 5, .tmp 6] rfl rfl rfl rfl (idx_acc hc p xs hx hf) rfl) ?_
 refine .cons (.ge rfl rfl rfl) ?_
 refine .cons (.asg rfl rfl) ?_
 refine .nil ?_
 refine ks_n ?_
 refine ACode.ret ?_
 refine kf_ret rfl ?_ nobox
 exact leafB idxG_any
def hbL (k : Nat) (l : List Acc) : St := [(.b k, .b 84 2 (dR (l.map rC))), (.u k, .u)]
theorem rdEs_le : ∀ {l : List Ex} {i : Nat}, (rdEs (l.take i)).length ≤ (rdEs l).length
  | [], i => by simp [rdEs]
  | y :: l, 0 => by simp [rdEs]
  | y :: l, i + 1 => by
    rw [List.take_succ_cons, rdEs, rdEs, List.length_append, List.length_append]
    have := rdEs_le (l := l) (i := i)
    omega
theorem hbL_HB (k : Nat) (l : List Acc) : HB (hbL k l) := HB.nil.data
theorem hbL_flat (k : Nat) (l : List Acc) : flatS (hbL k l) := flatS.nil.cons rfl

set_option maxRecDepth 100000 in
set_option maxHeartbeats 1600000 in
theorem l3Reads_one (l : List Acc) (e : Ex) (hi3 : e.r.2.length ≤ 1073741824) (hq3 : ∀ x ∈ e.r.2, x.1.length ≤ 1073741824) (hkl : e.ks.length ≤ 1099511627776) (hln : l.length + (rdE e).length ≤ 1073741824) (ih : ∀ x ∈ e.ks, ∀ l : List Acc, l.length + (rdE x).length ≤ 1073741824 → Fn Tryz.prog 114 (hbL 0 l) [.c (.own 0 2 l.length), ad (rX x)] (.o (.c (.own 1000 2 (l ++ rdE x).length))) (hbL 1000 (l ++ rdE x))) : Fn Tryz.prog 114 (hbL 0 l) [.c (.own 0 2 l.length), ad (rX e)] (.o (.c (.own 1000 2 (l ++ rdE e).length))) (hbL 1000 (l ++ rdE e)) := by
 have hrd := rdE_eq e
 have hbl : (rdE e).length = (if e.k = 3 then [e.r] else []).length + (rdEs e.ks).length := by rw [hrd, List.length_append]
 refine Fn.of_code Tryz.func114 rfl rfl (hbL_HB _ _) rfl rfl (hbL_HB _ _) rfl (one_num rfl) ?_
 refine ACode.seq ?_
 refine ACode.region ?_
 refine .cons (St1.boxP rfl rfl rfl rfl rfl rfl) ?_
 refine .cons (.asg rfl rfl) ?_
 refine .nil ?_
 refine ks_n ?_
 refine ACode.seq ?_
 refine ACode.cut [(.t 0, .v (.o (.c (.own 1710 2 ((l ++ (if e.k = 3 then [e.r] else [])).length))))), (.t 3, .v (.o (.c (.ptr (rX e))))), (.t 4, .v (.o (.c (.d (.val (.slice none 0 0)))))), (.b 1710, .b 84 2 (dR ((l ++ (if e.k = 3 then [e.r] else [])).map rC))), (.u 1710, .u)] ?_ ?_
 ·skip
  refine ACode.seq ?_
  refine ACode.region ?_
  refine .cons (.fP 0 0 false rfl rfl) ?_
  refine .cons (.l1 1 rfl rfl) ?_
  refine .cons (.eq rfl rfl rfl) ?_
  refine .nil ?_
  refine ks_n ?_
  refine .cD rfl (fun h8 => ?_) (fun h8 => ?_)
  ·skip
   refine ACode.region ?_
   refine .cons (.mv rfl rfl) ?_
   refine .cons (.fP 4 1 true rfl rfl) ?_
   refine .cons (.lN 2 rfl rfl rfl) ?_
   refine .cons (.cP [.tmp 11] rfl rfl rfl rfl (l3CopyAcc_fn _ hi3 hq3) rfl) ?_
   refine .cons (.li 84 1 0 [.tmp 12] rfl rfl rfl rfl rfl rfl) ?_
   refine .cons (St1.appB (k' := 1014) (e := 84) (sz := 1) (by' := 40) rfl rfl rfl rfl rfl (by kernel_rfl) rfl rfl rfl rfl (by simp [dR]) (by rw [if_pos h8] at hbl; simp [dR] at hbl ⊢; omega) rfl rfl rfl) ?_
   refine .cons (.asg rfl rfl) ?_
   refine .nil ?_
   exact kc_n (Wk.keep [(1710, 1014)] rfl rfl ⟨ks rfl (.c (.ow (by first | rfl | omega | (simp; done) | (simp; omega) | (simp [*]; done) | (simp [*]; omega) | (simp [rdEs]; done) | (rw [hT]; simp; omega) | (rw [hT]; simp [Nat.add_assoc]; done)))), ks rfl .dt, ks rfl .dt, kb 1014 rfl (.dt rfl (by first | rfl | (rw [if_pos h8, ← dR_apC]; rfl) | (rw [if_neg h8, List.append_nil]; done) | (simp only [dR_apC]; simp [hT, List.append_assoc]; done) | (rw [hT, ← List.append_assoc]; done) | (simp [rdEs]; done))), trivial⟩)
  ·skip
   refine ACode.skip ?_
   exact kc_n (Wk.keep [(1710, 0)] rfl rfl ⟨ks rfl (.c (.ow (by first | rfl | omega | (simp; done) | (simp; omega) | (simp [*]; done) | (simp [*]; omega) | (simp [rdEs]; done) | (rw [hT]; simp; omega) | (rw [hT]; simp [Nat.add_assoc]; done)))), ks rfl .dt, ks rfl .dt, kb 0 rfl (.dt rfl (by first | rfl | (rw [if_pos h8, ← dR_apC]; rfl) | (rw [if_neg h8, List.append_nil]; done) | (simp only [dR_apC]; simp [hT, List.append_assoc]; done) | (rw [hT, ← List.append_assoc]; done) | (simp [rdEs]; done))), trivial⟩)
 refine ks_n ?_
 refine ACode.seq ?_
 refine ACode.seq ?_
 refine ACode.region ?_
 refine .cons (.asg rfl rfl) ?_
 refine .nil ?_
 refine ks_n ?_
 refine ACode.block ?_
 refine .loopK (fun m σ => (∃ i : Nat, m = e.ks.length - i ∧ (i ≤ e.ks.length) ∧ (True) ∧ σ = [(.t 0, .v (.o (.c (.own 1010 2 ((l ++ (if e.k = 3 then [e.r] else []) ++ rdEs (e.ks.take i)).length))))), (.t 3, .v (.o (.c (.ptr (rX e))))), (.t 4, .v (.o (.c (.d (.val (.slice none 0 0)))))), (.t 5, .v (.o (nat1 (i : Nat)))), (.b 1010, .b 84 2 (dR ((l ++ (if e.k = 3 then [e.r] else []) ++ rdEs (e.ks.take i)).map rC))), (.u 1010, .u)])) [(1010, 1710)] ⟨0, rfl, by omega, trivial, rfl⟩ ⟨ks rfl (.c (.ow (by first | rfl | omega | (simp; done) | (simp; omega) | (simp [*]; done) | (simp [*]; omega) | (simp [rdEs]; done) | (rw [hT]; simp; omega) | (rw [hT]; simp [Nat.add_assoc]; done)))), ks rfl .dt, ks rfl .dt, ks rfl .dt, kb 1710 rfl (.dt rfl (by first | rfl | (rw [if_pos h8, ← dR_apC]; rfl) | (rw [if_neg h8, List.append_nil]; done) | (simp only [dR_apC]; simp [hT, List.append_assoc]; done) | (rw [hT, ← List.append_assoc]; done) | (simp [rdEs]; done))), trivial⟩ ?_
 rintro m σ ⟨i, hm0, hi, hF, rfl⟩
 refine ACode.seq ?_
 refine ACode.seq ?_
 refine ACode.region ?_
 refine .cons (.mv rfl rfl) ?_
 refine .cons (.fP 6 0 false rfl rfl) ?_
 refine .cons (.l1 1 rfl rfl) ?_
 refine .cons (.ln 89 7 112 rfl rfl rfl) ?_
 refine .cons (.ls rfl rfl rfl) ?_
 refine .nil ?_
 refine ks_n ?_
 refine .cD rfl (fun h19 => ?_) (fun h19 => ?_)
 ·skip
  obtain ⟨x, hx1⟩ : ∃ x, e.ks[i]? = some x := ⟨_, List.getElem?_eq_getElem (by omega)⟩
  have hT := rdEs_take hx1
  have hle := rdEs_le (l := e.ks) (i := i + 1)
  have hnx : (l ++ (if e.k = 3 then [e.r] else []) ++ rdEs (e.ks.take i)).length + (rdE x).length ≤ 1073741824 := by rw [hT, List.length_append] at hle; simp only [List.length_append]; omega
  refine ACode.skip ?_
  refine ks_n ?_
  refine ACode.seq ?_
  refine ACode.block ?_
  refine ACode.region ?_
  refine .cons (.mv rfl rfl) ?_
  refine .cons (.fP 6 0 false rfl rfl) ?_
  refine .cons (.l1 1 rfl rfl) ?_
  refine .cons (.mv rfl rfl) ?_
  refine .cons (.xL 89 7 112 rfl rfl rfl rfl rfl (rE_at hx1)) ?_
  refine .cons (.lN 7 rfl rfl rfl) ?_
  refine .cons (.cO [.tmp 22, .tmp 27] [(0, 1010), (1000, 1028)] rfl rfl rfl rfl (ih x (List.mem_of_getElem? hx1) (l ++ (if e.k = 3 then [e.r] else []) ++ rdEs (e.ks.take i)) hnx) rfl ⟨(by rw [renR_dR]; rfl), trivial⟩ (hbL_flat _ _) (hbL_flat _ _) (hbL_HB _ _) outS_one) ?_
  refine .cons (.asg rfl rfl) ?_
  refine .nil ?_
  refine kb_n ?_
  refine ks_n ?_
  refine ACode.region ?_
  refine .cons (.mv rfl rfl) ?_
  refine .cons (.pl rfl rfl rfl) ?_
  refine .cons (.asg rfl rfl) ?_
  refine .nil ?_
  refine kl_k [(1010, 1028)] ⟨i + 1, rfl, by omega, trivial, rfl⟩ ⟨ks rfl (.c (.ow (by first | rfl | omega | (simp; done) | (simp; omega) | (simp [*]; done) | (simp [*]; omega) | (simp [rdEs]; done) | (rw [hT]; simp; omega) | (rw [hT]; simp [Nat.add_assoc]; done)))), ks rfl .dt, ks rfl .dt, ks rfl .dt, kb 1028 rfl (.dt rfl (by first | rfl | (rw [if_pos h8, ← dR_apC]; rfl) | (rw [if_neg h8, List.append_nil]; done) | (simp only [dR_apC]; simp [hT, List.append_assoc]; done) | (rw [hT, ← List.append_assoc]; done) | (simp [rdEs]; done))), trivial⟩
 ·skip
  have hall : l ++ (if e.k = 3 then [e.r] else []) ++ rdEs (e.ks.take i) = l ++ rdE e := by rw [List.take_of_length_le (by omega), hrd, List.append_assoc]
  refine ACode.exit ?_
  refine ks_e ?_
  refine kl_e ?_
  refine kb_hit ?_
  refine ks_n ?_
  refine ACode.seq ?_
  refine ACode.region ?_
  refine .cons (.mv rfl rfl) ?_
  refine .cons (.asg rfl rfl) ?_
  refine .nil ?_
  refine ks_n ?_
  refine ACode.ret ?_
  refine kf_wret [(.t 4, .v (.o (.c (.own 1000 2 ((l ++ rdE e).length))))), (.b 1000, .b 84 2 (dR ((l ++ rdE e).map rC))), (.u 1000, .u)] (Wk.keep [(1000, 1010)] rfl rfl ⟨ks rfl (.c (.ow (by rw [hall]))), kb 1010 rfl (.dt rfl (by rw [hall])), trivial⟩) rfl ?_ (one_box rfl)
  rfl

theorem l3Reads_fn : ∀ e : Ex, szE e ≤ 1073741824 → ∀ l : List Acc, l.length + (rdE e).length ≤ 1073741824 → Fn Tryz.prog 114 (hbL 0 l) [.c (.own 0 2 l.length), ad (rX e)] (.o (.c (.own 1000 2 (l ++ rdE e).length))) (hbL 1000 (l ++ rdE e)) := by
  intro e
  induction e using Ex.rec' with
  | h e ih =>
    intro hs l hl
    have h1 := hs
    rw [szE_eq, szC] at h1
    have := szAs_len e.r.2
    exact l3Reads_one l e (by omega) (fun x hx => by have := szAs_mem hx; omega) (by omega) hl fun x hx l hl => ih x hx (by have := szEs_mem hx; omega) l hl




/-- An array, a part, a program, an instance. -/
abbrev Arr := ByteArray × List Int
def rR (a : Arr) : List D := [dS a.1, dIs a.2]
def dRs (l : List Arr) : D := .list 2 (l.map rR)
def dMs (l : List Stm) : D := .list 9 (l.map rS)
abbrev Prt := List Lp × List Stm
def rP (p : Prt) : List D := [dLs p.1, dMs p.2]
def dPts (l : List Prt) : D := .list 2 (l.map rP)
abbrev Prg := List Arr × List Prt
def rG (g : Prg) : List D := [dRs g.1, dPts g.2]
abbrev Ins := Int × Int × List Int
def rN (x : Ins) : List D := [dI x.1, dI x.2.1, dIs x.2.2]
def dNs (l : List Ins) : D := .list 3 (l.map rN)

/-- Arrays: names in order, dimensions within the limits. -/
def dimV (n : Int) : Bool := inB n 1 6
def arrOk (a : Arr) : Bool := arrV a.1 && (decide (1 ≤ a.2.length ∧ a.2.length ≤ 2) && a.2.all dimV)
def lastV (l : List Arr) (i : Nat) (a : Arr) : Bool := match l[i]? with | some b => sLt b.1 a.1 | none => true
def arrAt (l : List Arr) (i : Nat) : Bool := match l[i]? with
  | none => true
  | some a => arrOk a && (decide (i = 0) || lastV l (i - 1) a)
def arrsV (l : List Arr) : Bool := (List.range l.length).all (arrAt l) && decide (l.length ≤ 4)
theorem arrAt_eq {l : List Arr} {i : Nat} {a : Arr} (h : l[i]? = some a) : arrAt l i = (arrOk a && (decide (i = 0) || lastV l (i - 1) a)) := by rw [arrAt, h]
theorem lastV_eq {l : List Arr} {i : Nat} {a b : Arr} (h : l[i]? = some b) : lastV l i a = sLt b.1 a.1 := by rw [lastV, h]
theorem arrsV_bad {l : List Arr} {i : Nat} (hi : i < l.length) (h : arrAt l i = false) : arrsV l = false := by
  rw [arrsV, Bool.and_eq_false_iff]
  refine .inl (Bool.eq_false_iff.2 fun h2 => ?_)
  have := List.all_eq_true.1 h2 i (List.mem_range.2 hi)
  rw [h] at this; cases this
theorem arrsV_end {l : List Arr} (h : ∀ j, j < l.length → arrAt l j = true) : arrsV l = decide (l.length ≤ 4) := by
  rw [arrsV, show (List.range l.length).all (arrAt l) = true from List.all_eq_true.2 fun j hj => h j (List.mem_range.1 hj), Bool.true_and]
theorem arrsV_at {l : List Arr} (h : arrsV l = true) {a : Arr} (ha : a ∈ l) : arrOk a = true := by
  obtain ⟨i, hi⟩ := List.mem_iff_getElem?.1 ha
  rw [arrsV, Bool.and_eq_true] at h
  have := List.all_eq_true.1 h.1 i (List.mem_range.2 (List.getElem?_eq_some_iff.1 hi).1)
  rw [arrAt_eq hi, Bool.and_eq_true] at this
  exact this.1
theorem arrsV_len {l : List Arr} (h : arrsV l = true) : l.length ≤ 4 := by
  rw [arrsV, Bool.and_eq_true] at h; exact of_decide_eq_true h.2
theorem arrOk_at {a : Arr} (h : arrOk a = true) : (1 ≤ a.2.length ∧ a.2.length ≤ 2) ∧ ∀ d ∈ a.2, 1 ≤ d ∧ d ≤ 6 := by
  rw [arrOk, Bool.and_eq_true, Bool.and_eq_true] at h
  exact ⟨of_decide_eq_true h.2.1, fun d hd => of_decide_eq_true (List.all_eq_true.1 h.2.2 d hd)⟩
/-- A product of k numbers from 1 to 6 at the most. -/
def B6 (k : Nat) (n : Int) : Prop := 0 ≤ n ∧ ((k = 0 ∧ n ≤ 1) ∨ (k = 1 ∧ n ≤ 6) ∨ (k = 2 ∧ n ≤ 36))
theorem B6.bd {k : Nat} {n : Int} (h : B6 k n) : 0 ≤ n ∧ n ≤ 36 := by unfold B6 at h; omega
theorem mul_b6 {n d A : Int} (h0 : 0 ≤ n) (h1 : n ≤ A) (h2 : 0 ≤ d) (h3 : d ≤ 6) : 0 ≤ n * d ∧ n * d ≤ A * 6 :=
  ⟨Int.mul_nonneg h0 h2, Int.le_trans (Int.mul_le_mul_of_nonneg_right h1 h2) (Int.mul_le_mul_of_nonneg_left h3 (Int.le_trans h0 h1))⟩
theorem B6.mul {k : Nat} {n d : Int} (h : B6 k n) (hd : 1 ≤ d ∧ d ≤ 6) (hk : k < 2) : B6 (k + 1) (n * d) := by
  obtain ⟨h0, h | h | h⟩ := h
  · have := mul_b6 h0 h.2 (by omega) hd.2; unfold B6; omega
  · have := mul_b6 h0 h.2 (by omega) hd.2; unfold B6; omega
  · omega
theorem B6.at {k : Nat} {n d v : Int} (h0 : 0 ≤ n) (h : B6 k (n + 1)) (hd : 1 ≤ d ∧ d ≤ 6) (hk : k < 2) (hv : 0 ≤ v ∧ v ≤ d - 1) : 0 ≤ n * d ∧ n * d + v + 1 ≤ 36 ∧ 0 ≤ n * d + v ∧ B6 (k + 1) (n * d + v + 1) := by
  have h1 := h.mul hd hk
  have e : (n + 1) * d = n * d + d := by rw [Int.add_mul, Int.one_mul]
  rw [e] at h1
  have h2 := Int.mul_nonneg h0 (show 0 ≤ d by omega)
  have h3 := h1.bd
  refine ⟨h2, by omega, by omega, ?_⟩
  unfold B6 at h1 ⊢; omega
def sizeF (n : Int) (l : List Int) : Int := l.foldl (· * ·) n
def sizeA (l : List Int) : Int := sizeF 1 l
theorem sizeF_drop {l : List Int} {i : Nat} {d : Int} {n : Int} (h : l[i]? = some d) : sizeF n (l.drop i) = sizeF (n * d) (l.drop (i + 1)) := by
  obtain ⟨hi, rfl⟩ := List.getElem?_eq_some_iff.1 h
  rw [List.drop_eq_getElem_cons hi]; rfl
theorem sizeF_end {l : List Int} {i : Nat} {n : Int} (h : l.length ≤ i) : sizeF n (l.drop i) = n := by rw [List.drop_of_length_le h]; rfl
theorem sizeA_bd {a : Arr} (h : arrOk a = true) : 0 ≤ sizeA a.2 ∧ sizeA a.2 ≤ 36 := by
  obtain ⟨h1, h2⟩ := arrOk_at h
  have key : ∀ (l : List Int) (k : Nat) (n : Int), B6 k n → k + l.length ≤ 2 → (∀ d ∈ l, 1 ≤ d ∧ d ≤ 6) → 0 ≤ sizeF n l ∧ sizeF n l ≤ 36 := by
    intro l
    induction l with
    | nil => intro k n hb _ _; exact hb.bd
    | cons d l ih =>
      intro k n hb hk hd
      rw [List.length_cons] at hk
      exact ih (k + 1) (n * d) (hb.mul (hd d (by simp)) (by omega)) (by omega) fun d hd' => hd d (by simp [hd'])
  exact key a.2 0 1 (by unfold B6; omega) (by omega) h2
/-- The place of an element within its array, or -1. -/
def atG (p : List Int) : List Int → List Aff → Int → Int
  | d :: ds, s :: ss, n => if inB (affEval s p) 0 (d - 1) = true then atG p ds ss (n * d + affEval s p) else -1
  | _, _, n => n
theorem atG_yes {p : List Int} {ds : List Int} {ss : List Aff} {i : Nat} {d : Int} {s : Aff} {n : Int} (hd : ds[i]? = some d) (hs : ss[i]? = some s) (h : inB (affEval s p) 0 (d - 1) = true) : atG p (ds.drop i) (ss.drop i) n = atG p (ds.drop (i + 1)) (ss.drop (i + 1)) (n * d + affEval s p) := by
  obtain ⟨hi, rfl⟩ := List.getElem?_eq_some_iff.1 hd
  obtain ⟨hj, rfl⟩ := List.getElem?_eq_some_iff.1 hs
  rw [List.drop_eq_getElem_cons hi, List.drop_eq_getElem_cons hj, atG, if_pos h]
theorem atG_no {p : List Int} {ds : List Int} {ss : List Aff} {i : Nat} {d : Int} {s : Aff} {n : Int} (hd : ds[i]? = some d) (hs : ss[i]? = some s) (h : ¬ inB (affEval s p) 0 (d - 1) = true) : atG p (ds.drop i) (ss.drop i) n = -1 := by
  obtain ⟨hi, rfl⟩ := List.getElem?_eq_some_iff.1 hd
  obtain ⟨hj, rfl⟩ := List.getElem?_eq_some_iff.1 hs
  rw [List.drop_eq_getElem_cons hi, List.drop_eq_getElem_cons hj, atG, if_neg h]
theorem atG_end {p : List Int} {ds : List Int} {ss : List Aff} {i : Nat} {n : Int} (h : ss.length ≤ i) : atG p (ds.drop i) (ss.drop i) n = n := by
  rw [List.drop_of_length_le h, atG]; intros; contradiction
def cellG (a : Acc) (p : List Int) : List Arr → Int → Int
  | [], _ => -1
  | x :: l, base => if sEq x.1 a.1 = true then (if a.2.length = x.2.length then (if atG p x.2 a.2 0 = -1 then -1 else base + atG p x.2 a.2 0) else -1) else cellG a p l (base + sizeA x.2)
theorem cellG_next {a : Acc} {p : List Int} {l : List Arr} {i : Nat} {x : Arr} {b : Int} (hx : l[i]? = some x) (h : sEq x.1 a.1 = false) : cellG a p (l.drop i) b = cellG a p (l.drop (i + 1)) (b + sizeA x.2) := by
  obtain ⟨hi, rfl⟩ := List.getElem?_eq_some_iff.1 hx
  rw [List.drop_eq_getElem_cons hi, cellG, if_neg (by rw [h]; simp)]
theorem cellG_len {a : Acc} {p : List Int} {l : List Arr} {i : Nat} {x : Arr} {b : Int} (hx : l[i]? = some x) (h : sEq x.1 a.1 = true) (hl : ¬ a.2.length = x.2.length) : cellG a p (l.drop i) b = -1 := by
  obtain ⟨hi, rfl⟩ := List.getElem?_eq_some_iff.1 hx
  rw [List.drop_eq_getElem_cons hi, cellG, if_pos h, if_neg hl]
theorem cellG_at {a : Acc} {p : List Int} {l : List Arr} {i : Nat} {x : Arr} {b : Int} (hx : l[i]? = some x) (h : sEq x.1 a.1 = true) (hl : a.2.length = x.2.length) : cellG a p (l.drop i) b = if atG p x.2 a.2 0 = -1 then -1 else b + atG p x.2 a.2 0 := by
  obtain ⟨hi, rfl⟩ := List.getElem?_eq_some_iff.1 hx
  rw [List.drop_eq_getElem_cons hi, cellG, if_pos h, if_pos hl]
theorem cellG_end {a : Acc} {p : List Int} {l : List Arr} {i : Nat} {b : Int} (h : l.length ≤ i) : cellG a p (l.drop i) b = -1 := by rw [List.drop_of_length_le h]; rfl
def accG (ar : List Arr) (p : List Int) (a : Acc) : Bool := decide (0 ≤ cellG a p ar 0)
def stmG (ar : List Arr) (s : Stm) (p : List Int) : Bool := accG ar p s.1 && (rdE s.2).all (accG ar p)
def ptG' (ar : List Arr) (b : List Stm) (p : List Int) : Bool := isPt p && b.all fun s => stmG ar s p
def prtV (ar : List Arr) (q : Prt) : Bool := okP q.1 && (decide (1 ≤ q.2.length ∧ q.2.length ≤ 4) && (q.2.all (stmtV (q.1.length : Nat)) && (npR q.1).all (ptG' ar q.2)))
theorem prtV_eq {ar : List Arr} {q : Prt} (h1 : okP q.1 = true) (h2 : 1 ≤ q.2.length ∧ q.2.length ≤ 4) (h3 : q.2.all (stmtV (q.1.length : Nat)) = true) : prtV ar q = (npR q.1).all (ptG' ar q.2) := by
  rw [prtV, h1, decide_eq_true h2, h3]; rfl
theorem prtV_iff {ar : List Arr} {q : Prt} : prtV ar q = true ↔ okP q.1 = true ∧ (1 ≤ q.2.length ∧ q.2.length ≤ 4) ∧ (∀ s ∈ q.2, stmtV (q.1.length : Nat) s = true) ∧ ∀ p ∈ npR q.1, isPt p = true ∧ ∀ s ∈ q.2, stmG ar s p = true := by
  simp only [prtV, ptG', Bool.and_eq_true, decide_eq_true_eq, List.all_eq_true]
theorem prtV_f1 {ar : List Arr} {q : Prt} (h : okP q.1 = false) : prtV ar q = false := by rw [prtV, h]; rfl
theorem prtV_f2 {ar : List Arr} {q : Prt} (h : ¬ (1 ≤ q.2.length ∧ q.2.length ≤ 4)) : prtV ar q = false := Bool.eq_false_iff.2 fun h2 => h (prtV_iff.1 h2).2.1
theorem prtV_f3 {ar : List Arr} {q : Prt} {s : Stm} (hs : s ∈ q.2) (h : stmtV (q.1.length : Nat) s = false) : prtV ar q = false := Bool.eq_false_iff.2 fun h2 => by
  have := (prtV_iff.1 h2).2.2.1 s hs; rw [h] at this; cases this
theorem prtV_f4 {ar : List Arr} {q : Prt} {p : List Int} (hp : p ∈ npR q.1) (h : isPt p = false) : prtV ar q = false := Bool.eq_false_iff.2 fun h2 => by
  have := ((prtV_iff.1 h2).2.2.2 p hp).1; rw [h] at this; cases this
theorem prtV_f5 {ar : List Arr} {q : Prt} {p : List Int} {s : Stm} (hp : p ∈ npR q.1) (hs : s ∈ q.2) (h : stmG ar s p = false) : prtV ar q = false := Bool.eq_false_iff.2 fun h2 => by
  have := ((prtV_iff.1 h2).2.2.2 p hp).2 s hs; rw [h] at this; cases this
/-- The instances. -/
def rowI (k m : Nat) (p : List Int) : List Ins := (List.range m).map fun (i : Nat) => ((k : Int), (i : Int), p)
def insT (k m : Nat) (l : Pts) : List Ins := l.flatMap (rowI k m)
def insP (k : Nat) (q : Prt) : List Ins := insT k q.2.length (npR q.1)
def insG : Nat → List Prt → List Ins
  | _, [] => []
  | k, q :: l => insP k q ++ insG (k + 1) l
theorem rowI_len {k m : Nat} {p : List Int} : (rowI k m p).length = m := by simp [rowI]
theorem rowI_snoc {k m : Nat} {p : List Int} : rowI k (m + 1) p = rowI k m p ++ [((k : Int), (m : Int), p)] := by rw [rowI, List.range_succ, List.map_append]; rfl
theorem rowI_zero {k : Nat} {p : List Int} : rowI k 0 p = [] := rfl
theorem insT_len {k m : Nat} : ∀ {l : Pts}, (insT k m l).length = l.length * m
  | [] => by simp [insT]
  | p :: l => by
    have := insT_len (k := k) (m := m) (l := l)
    rw [insT] at this ⊢
    rw [List.flatMap_cons, List.length_append, this, rowI_len, List.length_cons, Nat.add_mul, Nat.one_mul, Nat.add_comm]
theorem insT_take {k m : Nat} {l : Pts} {i : Nat} {p : List Int} (h : l[i]? = some p) : insT k m (l.take (i + 1)) = insT k m (l.take i) ++ rowI k m p := by
  rw [List.take_add_one, h, insT, List.flatMap_append]; simp [insT]
theorem insG_app : ∀ (l : List Prt) (n : Nat) (q : Prt), insG n (l ++ [q]) = insG n l ++ insP (n + l.length) q
  | [], n, q => by simp [insG]
  | x :: l, n, q => by
    rw [List.cons_append, insG, insG, insG_app l (n + 1) q, List.append_assoc, List.length_cons, show n + 1 + l.length = n + (l.length + 1) by omega]
theorem insG_take {l : List Prt} {i : Nat} {q : Prt} (h : l[i]? = some q) : insG 0 (l.take (i + 1)) = insG 0 (l.take i) ++ insP i q := by
  have hi := (List.getElem?_eq_some_iff.1 h).1
  rw [List.take_add_one, h, Option.toList_some, insG_app, List.length_take, Nat.min_eq_left (by omega), Nat.zero_add]
theorem insP_len {k : Nat} {q : Prt} (h : q.2.length ≤ 4) : (insP k q).length = (npR q.1).length * q.2.length ∧ (insP k q).length ≤ 480 := by
  rw [insP, insT_len]
  exact ⟨rfl, Nat.le_trans (Nat.mul_le_mul (npR_len q.1) h) (by omega)⟩
def prgS (g : Prg) : Bool := arrsV g.1 && (decide (g.2.length ≤ 4) && g.2.all (prtV g.1))
def insV (g : Prg) : List Ins := if prgS g = true then insG 0 g.2 else []
def prgV (g : Prg) : Bool := prgS g && decide ((insG 0 g.2).length ≤ 120)
theorem prgS_f1 {g : Prg} (h : arrsV g.1 = false) : prgS g = false := by rw [prgS, h]; rfl
theorem prgS_f2 {g : Prg} (h : ¬ g.2.length ≤ 4) : prgS g = false := by rw [prgS, decide_eq_false h]; cases arrsV g.1 <;> rfl
theorem prgS_f3 {g : Prg} {q : Prt} (hq : q ∈ g.2) (h : prtV g.1 q = false) : prgS g = false := Bool.eq_false_iff.2 fun h2 => by
  rw [prgS, Bool.and_eq_true, Bool.and_eq_true] at h2
  have := List.all_eq_true.1 h2.2.2 q hq; rw [h] at this; cases this
theorem prgS_eq {g : Prg} (h1 : arrsV g.1 = true) (h2 : g.2.length ≤ 4) (h3 : ∀ j q, j < g.2.length → g.2[j]? = some q → prtV g.1 q = true) : prgS g = true := by
  rw [prgS, h1, decide_eq_true h2, List.all_eq_true.2]; · rfl
  intro q hq
  obtain ⟨j, hj⟩ := List.mem_iff_getElem?.1 hq
  exact h3 j q (List.getElem?_eq_some_iff.1 hj).1 hj
theorem prgS_iff {g : Prg} : prgS g = true ↔ arrsV g.1 = true ∧ g.2.length ≤ 4 ∧ ∀ q ∈ g.2, prtV g.1 q = true := by
  simp only [prgS, Bool.and_eq_true, decide_eq_true_eq, List.all_eq_true]
theorem prgV_f {g : Prg} (h : prgS g = false) : prgV g = false ∧ insV g = [] := ⟨by rw [prgV, h]; rfl, if_neg (by rw [h]; simp)⟩
theorem prgV_t {g : Prg} (h : prgS g = true) : prgV g = decide ((insG 0 g.2).length ≤ 120) ∧ insV g = insG 0 g.2 := ⟨by rw [prgV, h]; rfl, if_pos h⟩
theorem prgV_s {g : Prg} (h : prgV g = true) : prgS g = true ∧ insV g = insG 0 g.2 ∧ (insG 0 g.2).length ≤ 120 := by
  rw [prgV, Bool.and_eq_true] at h
  exact ⟨h.1, (prgV_t h.1).2, of_decide_eq_true h.2⟩
theorem insG_mem {x : Ins} : ∀ {l : List Prt} {n : Nat}, x ∈ insG n l → ∃ k q i, l[k]? = some q ∧ x.1 = ((n + k : Nat) : Int) ∧ x.2.1 = ((i : Nat) : Int) ∧ i < q.2.length ∧ x.2.2 ∈ npR q.1
  | [], n, h => by cases h
  | q :: l, n, h => by
    rw [insG, List.mem_append] at h
    rcases h with h | h
    · rw [insP, insT, List.mem_flatMap] at h
      obtain ⟨p, hp, h⟩ := h
      rw [rowI, List.mem_map] at h
      obtain ⟨i, hi, rfl⟩ := h
      exact ⟨0, q, i, rfl, rfl, rfl, List.mem_range.1 hi, hp⟩
    · obtain ⟨k, q', i, h1, h2, h3, h4, h5⟩ := insG_mem h
      exact ⟨k + 1, q', i, h1, by rw [h2]; congr 1; omega, h3, h4, h5⟩
end Go.Proofs.YtongpceopgkhnaaGreat
namespace Go.Proofs.YtongpceopgkhnaaGreat
set_option linter.unusedVariables false
set_option linter.unusedSimpArgs false
open Go.ChangeShapes Go.WideShapes Go.ChangeAt Go.RowKit
def okArr (a : Arr) : Prop := a.1.size ≤ 140737488351232 ∧ a.2.length ≤ 17592186044416
def okArrs (l : List Arr) : Prop := l.length ≤ 17592186044416 ∧ ∀ x ∈ l, okArr x
def okStms (l : List Stm) : Prop := l.length ≤ 17592186044416 ∧ ∀ x ∈ l, okS x
def okPrt (p : Prt) : Prop := okLps p.1 ∧ okStms p.2
def okPrts (l : List Prt) : Prop := l.length ≤ 17592186044416 ∧ ∀ x ∈ l, okPrt x
def okPrg (g : Prg) : Prop := okArrs g.1 ∧ okPrts g.2
section
variable {H : Type} {enc : TypeId × Value → H} {w : World} {spare : Nat → Bool} {held : Bool}
theorem opArr (n : Nat) : OpF enc Tryz.prog w spare held n 107 rR okArr :=
  OpF.mono (f := rR) (n := n + 1) (opStruct2 (enc := enc) (w := w) (spare := spare) (held := held) (t := 107) Tryz.underlying107 (by kernel_rfl) (opStr Tryz.underlying9) (opSlice (n := n) 1 8 Tryz.underlying27 (by kernel_rfl) (by kernel_rfl) (by rfl) (opInt Tryz.underlying3))) (by omega) fun a h => ⟨h.1, h.2.1⟩
theorem opArrs (n : Nat) : OpF enc Tryz.prog w spare held n 22 (fun l : List Arr => [dRs l]) okArrs :=
  OpF.mono (f := fun l : List Arr => [dRs l]) (n := n + 1) (opSlice (enc := enc) (w := w) (spare := spare) (held := held) (n := n) (t := 22) 2 40 Tryz.underlying22 (by kernel_rfl) (by kernel_rfl) (by rfl) (opArr n)) (by omega) fun a h => h
theorem opStms (n : Nat) : OpF enc Tryz.prog w spare held n 110 (fun l : List Stm => [dMs l]) okStms :=
  OpF.mono (f := fun l : List Stm => [dMs l]) (n := n + 1) (opSlice (enc := enc) (w := w) (spare := spare) (held := held) (n := n) (t := 110) 9 152 Tryz.underlying110 (by kernel_rfl) (by kernel_rfl) (by rfl) (opStm n)) (by omega) fun a h => h
theorem opPrt (n : Nat) : OpF enc Tryz.prog w spare held n 112 rP okPrt :=
  OpF.mono (f := rP) (n := n) (opStruct2 (enc := enc) (w := w) (spare := spare) (held := held) (n := n) (t := 112) Tryz.underlying112 (by kernel_rfl) (opLoops n) (opStms n)) (by omega) fun a h => h
theorem opPrts (n : Nat) : OpF enc Tryz.prog w spare held n 23 (fun l : List Prt => [dPts l]) okPrts :=
  OpF.mono (f := fun l : List Prt => [dPts l]) (n := n + 1) (opSlice (enc := enc) (w := w) (spare := spare) (held := held) (n := n) (t := 23) 2 48 Tryz.underlying23 (by kernel_rfl) (by kernel_rfl) (by rfl) (opPrt n)) (by omega) fun a h => h
theorem opPrg (n : Nat) : OpF enc Tryz.prog w spare held n 25 rG okPrg :=
  OpF.mono (f := rG) (n := n) (opStruct2 (enc := enc) (w := w) (spare := spare) (held := held) (n := n) (t := 25) Tryz.underlying25 (by kernel_rfl) (opArrs n) (opPrts n)) (by omega) fun a h => h
end
end Go.Proofs.YtongpceopgkhnaaGreat
namespace Go.Proofs.YtongpceopgkhnaaGreat
set_option linter.unusedVariables false
set_option linter.unusedSimpArgs false
open Go.RowKit
/-- What is left of l behind n, or -1. -/
def subZ (l : Int) (n : Nat) : Int := if (n : Int) ≤ l then l - n else -1
theorem subZ_yes {l : Int} {n : Nat} (h : (n : Int) ≤ l) : subZ l n = l - n := if_pos h
theorem subZ_no {l : Int} {n : Nat} (h : ¬ (n : Int) ≤ l) : subZ l n = -1 := if_neg h
theorem subZ_neg {l : Int} {n : Nat} (h : subZ l n < 0) (hl : 0 ≤ l) : ¬ (n : Int) ≤ l := fun h2 => by rw [subZ_yes h2] at h; omega
theorem subZ_pos {l : Int} {n : Nat} (h : ¬ subZ l n < 0) : (n : Int) ≤ l := Classical.byContradiction fun h2 => by rw [subZ_no h2] at h; omega
theorem subZ_bd {l : Int} {n : Nat} (hl : 0 ≤ l ∧ l ≤ 1048576) : -1 ≤ subZ l n ∧ subZ l n ≤ 1048576 := by
  unfold subZ; split <;> omega
theorem sum_take {α : Type} (f : α → Nat) {l : List α} {i : Nat} {x : α} (h : l[i]? = some x) : ((l.take (i + 1)).map f).sum = ((l.take i).map f).sum + f x := by
  rw [List.take_add_one, h, List.map_append, List.sum_append]; simp
theorem sum_take_le {α : Type} (f : α → Nat) : ∀ {l : List α} {i : Nat}, ((l.take i).map f).sum ≤ (l.map f).sum
  | [], i => by simp
  | y :: l, 0 => by simp
  | y :: l, i + 1 => by rw [List.take_succ_cons, List.map_cons, List.map_cons, List.sum_cons, List.sum_cons]; have := sum_take_le f (l := l) (i := i); omega

set_option maxRecDepth 100000 in
set_option maxHeartbeats 1600000 in
theorem szInts_fn (xs : List Int) {l : Int} (hl : 0 ≤ l ∧ l ≤ 1048576) (hx : xs.length ≤ 17592186044416) : Fn Tryz.prog 107 [] [vD (dIs xs), nat1 l] (.o (nat1 (subZ l xs.length))) [] := by
 refine Fn.code0 Tryz.func107 rfl rfl rfl rfl ?_
 refine ACode.seq ?_
 refine ACode.region ?_
 refine .cons (.asg rfl rfl) ?_
 refine .nil ?_
 refine ks_n ?_
 refine ACode.seq ?_
 refine ACode.region ?_
 refine .cons (.mv rfl rfl) ?_
 refine .cons (.mv rfl rfl) ?_
 refine .cons (.ln 3 1 8 rfl rfl rfl) ?_
 refine .cons (.sb rfl rfl rfl) ?_
 refine .cons (.asg rfl rfl) ?_
 refine .nil ?_
 refine ks_n ?_
 refine ACode.seq ?_
 refine ACode.seq ?_
 refine ACode.region ?_
 refine .cons (.mv rfl rfl) ?_
 refine .cons (.ls rfl rfl rfl) ?_
 refine .nil ?_
 refine ks_n ?_
 refine .cD rfl (fun h10 => ?_) (fun h10 => ?_)
 ·skip
  refine ACode.seq ?_
  refine ACode.region ?_
  refine .cons (.asg rfl rfl) ?_
  refine .nil ?_
  refine ks_n ?_
  refine ACode.ret ?_
  refine ks_r ?_
  refine kf_ret rfl ?_ nobox
  exact leafI (by first | (rw [subZ_yes (by omega)]; done) | (rw [subZ_no (by omega)]) | (rw [subZ_yes (by omega)]; omega))
 ·skip
  refine ACode.skip ?_
  refine ks_n ?_
  refine ACode.seq ?_
  refine ACode.region ?_
  refine .cons (.mv rfl rfl) ?_
  refine .cons (.asg rfl rfl) ?_
  refine .nil ?_
  refine ks_n ?_
  refine ACode.ret ?_
  refine kf_ret rfl ?_ nobox
  exact leafI (by first | (rw [subZ_yes (by omega)]; done) | (rw [subZ_no (by omega)]) | (rw [subZ_yes (by omega)]; omega))

set_option maxRecDepth 100000 in
set_option maxHeartbeats 1600000 in
theorem szAff_fn {x : Aff} {l : Int} (hl : 0 ≤ l ∧ l ≤ 1048576) (hx : x.1.length ≤ 17592186044416) : Fn Tryz.prog 217 [] [ad (rA x), nat1 l] (.o (nat1 (subZ l x.1.length))) [] := by
 have hb := subZ_bd (n := x.1.length) hl
 refine Fn.code0 Tryz.func217 rfl rfl rfl rfl ?_
 refine ACode.seq ?_
 refine ACode.region ?_
 refine .cons (St1.boxP rfl rfl rfl rfl rfl rfl) ?_
 refine .cons (.asg rfl rfl) ?_
 refine .nil ?_
 refine ks_n ?_
 refine ACode.seq ?_
 refine ACode.region ?_
 refine .cons (.fP 0 0 false rfl rfl) ?_
 refine .cons (.l1 1 rfl rfl) ?_
 refine .cons (.mv rfl rfl) ?_
 refine .cons (.cP [.tmp 6, .tmp 7] rfl rfl rfl rfl (szInts_fn x.1 hl hx) rfl) ?_
 refine .cons (.asg rfl rfl) ?_
 refine .nil ?_
 refine ks_n ?_
 refine ACode.seq ?_
 refine ACode.seq ?_
 refine ACode.region ?_
 refine .cons (.mv rfl rfl) ?_
 refine .cons (.ls rfl rfl rfl) ?_
 refine .nil ?_
 refine ks_n ?_
 refine .cD rfl (fun h10 => ?_) (fun h10 => ?_)
 ·skip
  refine ACode.seq ?_
  refine ACode.region ?_
  refine .cons (.asg rfl rfl) ?_
  refine .nil ?_
  refine ks_n ?_
  refine ACode.ret ?_
  refine ks_r ?_
  refine kf_ret rfl ?_ nobox
  exact leafI (subZ_no (subZ_neg h10 hl.1)).symm
 ·skip
  refine ACode.skip ?_
  refine ks_n ?_
  refine ACode.seq ?_
  refine ACode.region ?_
  refine .cons (.mv rfl rfl) ?_
  refine .cons (.asg rfl rfl) ?_
  refine .nil ?_
  refine ks_n ?_
  refine ACode.ret ?_
  refine kf_ret rfl ?_ nobox
  rfl

set_option maxRecDepth 100000 in
set_option maxHeartbeats 1600000 in
theorem szAffs_fn (xs : List Aff) {l : Int} (hl : 0 ≤ l ∧ l ≤ 1048576) (hx : xs.length ≤ 17592186044416) (hq : ∀ x ∈ xs, x.1.length ≤ 17592186044416) : Fn Tryz.prog 180 [] [vD (dAs xs), nat1 l] (.o (nat1 (subZ l (szAs xs)))) [] := by
 refine Fn.code0 Tryz.func180 rfl rfl rfl rfl ?_
 refine ACode.seq ?_
 refine ACode.region ?_
 refine .cons (.asg rfl rfl) ?_
 refine .nil ?_
 refine ks_n ?_
 refine ACode.seq ?_
 refine ACode.region ?_
 refine .cons (.mv rfl rfl) ?_
 refine .cons (.mv rfl rfl) ?_
 refine .cons (.ln 187 2 32 rfl rfl rfl) ?_
 refine .cons (.sb rfl rfl rfl) ?_
 refine .cons (.asg rfl rfl) ?_
 refine .nil ?_
 refine ks_n ?_
 refine ACode.seq ?_
 refine ACode.seq ?_
 refine ACode.region ?_
 refine .cons (.mv rfl rfl) ?_
 refine .cons (.ls rfl rfl rfl) ?_
 refine .nil ?_
 refine ks_n ?_
 refine .cD rfl (fun h11 => ?_) (fun h11 => ?_)
 ·skip
  refine ACode.seq ?_
  refine ACode.region ?_
  refine .cons (.asg rfl rfl) ?_
  refine .nil ?_
  refine ks_n ?_
  refine ACode.ret ?_
  refine ks_r ?_
  refine kf_ret rfl ?_ nobox
  exact leafI (subZ_no (by rw [szAs]; omega)).symm
 ·skip
  refine ACode.skip ?_
  refine ks_n ?_
  refine ACode.seq ?_
  refine ACode.seq ?_
  refine ACode.region ?_
  refine .cons (.asg rfl rfl) ?_
  refine .nil ?_
  refine ks_n ?_
  refine ACode.block ?_
  refine .loopK (fun m σ => (∃ i : Nat, m = xs.length - i ∧ (i ≤ xs.length) ∧ (((xs.length + ((xs.take i).map fun a => a.1.length).sum : Nat) : Int) ≤ l) ∧ σ = [(.t 0, .v (.o (vD (dAs xs)))), (.t 1, .v (.o (nat1 (l - (xs.length + ((xs.take i).map fun a => a.1.length).sum : Nat))))), (.t 4, .v (.o (nat1 0))), (.t 5, .v (.o (nat1 (i : Nat))))])) [] ⟨0, rfl, by omega, by simp; omega, rfl⟩ ⟨ks rfl .dt, ks rfl (.dt (vI (by first | (simp; done) | (rw [hT, subZ_yes (by omega)]; omega)))), ks rfl .dt, ks rfl .dt, trivial⟩ ?_
  rintro m σ ⟨i, hm0, hi, hF, rfl⟩
  refine ACode.seq ?_
  refine ACode.seq ?_
  refine ACode.region ?_
  refine .cons (.mv rfl rfl) ?_
  refine .cons (.mv rfl rfl) ?_
  refine .cons (.ln 187 2 32 rfl rfl rfl) ?_
  refine .cons (.ls rfl rfl rfl) ?_
  refine .nil ?_
  refine ks_n ?_
  refine .cD rfl (fun h15 => ?_) (fun h15 => ?_)
  ·skip
   obtain ⟨x, hx1⟩ : ∃ x, xs[i]? = some x := ⟨_, List.getElem?_eq_getElem (by omega)⟩
   have hT := sum_take (fun a : Aff => a.1.length) hx1
   refine ACode.skip ?_
   refine ks_n ?_
   refine ACode.seq ?_
   refine ACode.block ?_
   refine ACode.seq ?_
   refine ACode.region ?_
   refine .cons (.mv rfl rfl) ?_
   refine .cons (.mv rfl rfl) ?_
   refine .cons (.xL 187 2 32 rfl rfl rfl rfl rfl) ?_
   refine .cons (.lN 2 rfl rfl rfl) ?_
   refine .cons (.mv rfl rfl) ?_
   refine .cons (.cP [.tmp 21, .tmp 22] rfl rfl rfl rfl (szAff_fn (l := l - (xs.length + ((xs.take i).map fun a => a.1.length).sum : Nat)) (by omega) (hq x (List.mem_of_getElem? hx1))) rfl) ?_
   refine .cons (.asg rfl rfl) ?_
   refine .nil ?_
   refine ks_n ?_
   refine ACode.seq ?_
   refine ACode.region ?_
   refine .cons (.mv rfl rfl) ?_
   refine .cons (.ls rfl rfl rfl) ?_
   refine .nil ?_
   refine ks_n ?_
   refine .cD rfl (fun h25 => ?_) (fun h25 => ?_)
   ·skip
    refine ACode.seq ?_
    refine ACode.region ?_
    refine .cons (.asg rfl rfl) ?_
    refine .nil ?_
    refine ks_n ?_
    refine ACode.ret ?_
    refine kb_r ?_
    refine ks_r ?_
    refine kl_r ?_
    refine kb_r ?_
    refine ks_r ?_
    refine kf_ret rfl ?_ nobox
    exact leafI (subZ_no (by have h1 := subZ_neg h25 (by omega); have h2 := sum_take_le (fun a : Aff => a.1.length) (l := xs) (i := i + 1); rw [szAs]; omega)).symm
   ·skip
    have hP := subZ_pos h25
    refine ACode.skip ?_
    refine kb_n ?_
    refine ks_n ?_
    refine ACode.region ?_
    refine .cons (.mv rfl rfl) ?_
    refine .cons (.pl rfl rfl rfl) ?_
    refine .cons (.asg rfl rfl) ?_
    refine .nil ?_
    refine kl_k [] ⟨i + 1, rfl, by omega, by rw [hT]; have := subZ_pos h25; omega, rfl⟩ ⟨ks rfl .dt, ks rfl (.dt (vI (by first | (simp; done) | (rw [hT, subZ_yes (by omega)]; omega)))), ks rfl .dt, ks rfl .dt, trivial⟩
  ·skip
   have hall : xs.take i = xs := List.take_of_length_le (by omega)
   refine ACode.exit ?_
   refine ks_e ?_
   refine kl_e ?_
   refine kb_hit ?_
   refine ks_n ?_
   refine ACode.seq ?_
   refine ACode.region ?_
   refine .cons (.mv rfl rfl) ?_
   refine .cons (.asg rfl rfl) ?_
   refine .nil ?_
   refine ks_n ?_
   refine ACode.ret ?_
   refine kf_ret rfl ?_ nobox
   exact leafI (by rw [subZ_yes (by rw [szAs, ← hall]; rw [hall]; rw [hall] at hF; omega), szAs, hall])
theorem szEs_take {l : List Ex} {i : Nat} {x : Ex} (h : l[i]? = some x) : szEs (l.take (i + 1)) = szEs (l.take i) + szE x := by
  have key : ∀ (a : List Ex) (x : Ex), szEs (a ++ [x]) = szEs a + szE x := by
    intro a x
    induction a with
    | nil => simp [szEs]
    | cons y a ih => rw [List.cons_append, szEs, szEs, ih]; omega
  rw [List.take_add_one, h]
  exact key _ _
theorem szEs_le : ∀ {l : List Ex} {i : Nat}, szEs (l.take i) ≤ szEs l
  | [], i => by simp
  | y :: l, 0 => by simp [szEs]
  | y :: l, i + 1 => by rw [List.take_succ_cons, szEs, szEs]; have := szEs_le (l := l) (i := i); omega

set_option maxRecDepth 100000 in
set_option maxHeartbeats 1600000 in
theorem szAcc_fn {a : Acc} {l : Int} (hl : 0 ≤ l ∧ l ≤ 1048576) (h1 : a.1.size ≤ 140737488351232) (h2 : a.2.length ≤ 17592186044416) (h3 : ∀ x ∈ a.2, x.1.length ≤ 17592186044416) : Fn Tryz.prog 181 [] [ad (rC a), nat1 l] (.o (nat1 (subZ l (szC a)))) [] := by
 have hsz : szC a = a.1.size + szAs a.2 := rfl
 refine Fn.code0 Tryz.func181 rfl rfl rfl rfl ?_
 refine ACode.seq ?_
 refine ACode.region ?_
 refine .cons (St1.boxP rfl rfl rfl rfl rfl rfl) ?_
 refine .cons (.asg rfl rfl) ?_
 refine .nil ?_
 refine ks_n ?_
 refine ACode.seq ?_
 refine ACode.region ?_
 refine .cons (.mv rfl rfl) ?_
 refine .cons (.fP 0 0 false rfl rfl) ?_
 refine .cons (.l1 1 rfl rfl) ?_
 refine .cons (St1.lenS rfl rfl rfl rfl rfl (by kernel_rfl) rfl) ?_
 refine .cons (.sb rfl rfl rfl) ?_
 refine .cons (.asg rfl rfl) ?_
 refine .nil ?_
 refine ks_n ?_
 refine ACode.seq ?_
 refine ACode.seq ?_
 refine ACode.region ?_
 refine .cons (.mv rfl rfl) ?_
 refine .cons (.ls rfl rfl rfl) ?_
 refine .nil ?_
 refine ks_n ?_
 refine .cD rfl (fun h11 => ?_) (fun h11 => ?_)
 ·skip
  refine ACode.seq ?_
  refine ACode.region ?_
  refine .cons (.asg rfl rfl) ?_
  refine .nil ?_
  refine ks_n ?_
  refine ACode.ret ?_
  refine ks_r ?_
  refine kf_ret rfl ?_ nobox
  exact leafI (subZ_no (by omega)).symm
 ·skip
  refine ACode.skip ?_
  refine ks_n ?_
  refine ACode.seq ?_
  have hb := subZ_bd (n := szAs a.2) (l := l - (a.1.size : Nat)) (by omega)
  refine ACode.region ?_
  refine .cons (.fP 1 0 false rfl rfl) ?_
  refine .cons (.l1 1 rfl rfl) ?_
  refine .cons (.mv rfl rfl) ?_
  refine .cons (.cP [.tmp 13, .tmp 14] rfl rfl rfl rfl (szAffs_fn a.2 (l := l - (a.1.size : Nat)) (by omega) h2 h3) rfl) ?_
  refine .cons (.asg rfl rfl) ?_
  refine .nil ?_
  refine ks_n ?_
  refine ACode.seq ?_
  refine ACode.seq ?_
  refine ACode.region ?_
  refine .cons (.mv rfl rfl) ?_
  refine .cons (.ls rfl rfl rfl) ?_
  refine .nil ?_
  refine ks_n ?_
  refine .cD rfl (fun h17 => ?_) (fun h17 => ?_)
  ·skip
   refine ACode.seq ?_
   refine ACode.region ?_
   refine .cons (.asg rfl rfl) ?_
   refine .nil ?_
   refine ks_n ?_
   refine ACode.ret ?_
   refine ks_r ?_
   refine kf_ret rfl ?_ nobox
   exact leafI (subZ_no (by have := subZ_neg h17 (by omega); omega)).symm
  ·skip
   refine ACode.skip ?_
   refine ks_n ?_
   refine ACode.seq ?_
   refine ACode.region ?_
   refine .cons (.mv rfl rfl) ?_
   refine .cons (.asg rfl rfl) ?_
   refine .nil ?_
   refine ks_n ?_
   refine ACode.ret ?_
   refine kf_ret rfl ?_ nobox
   exact leafI (by have := subZ_pos h17; rw [subZ_yes this, subZ_yes (by omega)]; omega)

set_option maxRecDepth 100000 in
set_option maxHeartbeats 1600000 in
theorem szExs_one (es : List Ex) {l : Int} (hl : 0 ≤ l ∧ l ≤ 1048576) (hx : es.length ≤ 17592186044416) (ih : ∀ x ∈ es, ∀ l : Int, 0 ≤ l ∧ l ≤ 1048576 → Fn Tryz.prog 182 [] [ad (rX x), nat1 l] (.o (nat1 (subZ l (szE x)))) []) : Fn Tryz.prog 218 [] [vD (dEs es), nat1 l] (.o (nat1 (subZ l (es.length + szEs es)))) [] := by
 refine Fn.code0 Tryz.func218 rfl rfl rfl rfl ?_
 refine ACode.seq ?_
 refine ACode.region ?_
 refine .cons (.asg rfl rfl) ?_
 refine .nil ?_
 refine ks_n ?_
 refine ACode.seq ?_
 refine ACode.region ?_
 refine .cons (.mv rfl rfl) ?_
 refine .cons (.mv rfl rfl) ?_
 refine .cons (.ln 190 7 112 rfl rfl rfl) ?_
 refine .cons (.sb rfl rfl rfl) ?_
 refine .cons (.asg rfl rfl) ?_
 refine .nil ?_
 refine ks_n ?_
 refine ACode.seq ?_
 refine ACode.seq ?_
 refine ACode.region ?_
 refine .cons (.mv rfl rfl) ?_
 refine .cons (.ls rfl rfl rfl) ?_
 refine .nil ?_
 refine ks_n ?_
 refine .cD rfl (fun h11 => ?_) (fun h11 => ?_)
 ·skip
  refine ACode.seq ?_
  refine ACode.region ?_
  refine .cons (.asg rfl rfl) ?_
  refine .nil ?_
  refine ks_n ?_
  refine ACode.ret ?_
  refine ks_r ?_
  refine kf_ret rfl ?_ nobox
  exact leafI (subZ_no (by omega)).symm
 ·skip
  refine ACode.skip ?_
  refine ks_n ?_
  refine ACode.seq ?_
  refine ACode.seq ?_
  refine ACode.region ?_
  refine .cons (.asg rfl rfl) ?_
  refine .nil ?_
  refine ks_n ?_
  refine ACode.block ?_
  refine .loopK (fun m σ => (∃ i : Nat, m = es.length - i ∧ (i ≤ es.length) ∧ (((es.length + szEs (es.take i) : Nat) : Int) ≤ l) ∧ σ = [(.t 0, .v (.o (vD (dEs es)))), (.t 1, .v (.o (nat1 (l - (es.length + szEs (es.take i) : Nat))))), (.t 4, .v (.o (nat1 0))), (.t 5, .v (.o (nat1 (i : Nat))))])) [] ⟨0, rfl, by omega, by simp [szEs]; omega, rfl⟩ ⟨ks rfl .dt, ks rfl (.dt (vI (by first | (simp [szEs]; done) | (rw [hT, subZ_yes (by omega)]; omega)))), ks rfl .dt, ks rfl .dt, trivial⟩ ?_
  rintro m σ ⟨i, hm0, hi, hF, rfl⟩
  refine ACode.seq ?_
  refine ACode.seq ?_
  refine ACode.region ?_
  refine .cons (.mv rfl rfl) ?_
  refine .cons (.mv rfl rfl) ?_
  refine .cons (.ln 190 7 112 rfl rfl rfl) ?_
  refine .cons (.ls rfl rfl rfl) ?_
  refine .nil ?_
  refine ks_n ?_
  refine .cD rfl (fun h15 => ?_) (fun h15 => ?_)
  ·skip
   obtain ⟨x, hx1⟩ : ∃ x, es[i]? = some x := ⟨_, List.getElem?_eq_getElem (by omega)⟩
   have hT := szEs_take hx1
   refine ACode.skip ?_
   refine ks_n ?_
   refine ACode.seq ?_
   refine ACode.block ?_
   refine ACode.seq ?_
   refine ACode.region ?_
   refine .cons (.mv rfl rfl) ?_
   refine .cons (.mv rfl rfl) ?_
   refine .cons (.xL 190 7 112 rfl rfl rfl rfl rfl (rE_at hx1)) ?_
   refine .cons (.lN 7 rfl rfl rfl) ?_
   refine .cons (.mv rfl rfl) ?_
   refine .cons (.cP [.tmp 21, .tmp 22] rfl rfl rfl rfl (ih x (List.mem_of_getElem? hx1) (l - (es.length + szEs (es.take i) : Nat)) (by omega)) rfl) ?_
   refine .cons (.asg rfl rfl) ?_
   refine .nil ?_
   refine ks_n ?_
   refine ACode.seq ?_
   refine ACode.region ?_
   refine .cons (.mv rfl rfl) ?_
   refine .cons (.ls rfl rfl rfl) ?_
   refine .nil ?_
   refine ks_n ?_
   refine .cD rfl (fun h25 => ?_) (fun h25 => ?_)
   ·skip
    refine ACode.seq ?_
    refine ACode.region ?_
    refine .cons (.asg rfl rfl) ?_
    refine .nil ?_
    refine ks_n ?_
    refine ACode.ret ?_
    refine kb_r ?_
    refine ks_r ?_
    refine kl_r ?_
    refine kb_r ?_
    refine ks_r ?_
    refine kf_ret rfl ?_ nobox
    exact leafI (subZ_no (by have h1 := subZ_neg h25 (by omega); have h2 := szEs_le (l := es) (i := i + 1); omega)).symm
   ·skip
    have hP := subZ_pos h25
    refine ACode.skip ?_
    refine kb_n ?_
    refine ks_n ?_
    refine ACode.region ?_
    refine .cons (.mv rfl rfl) ?_
    refine .cons (.pl rfl rfl rfl) ?_
    refine .cons (.asg rfl rfl) ?_
    refine .nil ?_
    refine kl_k [] ⟨i + 1, rfl, by omega, by rw [hT]; have := subZ_pos h25; omega, rfl⟩ ⟨ks rfl .dt, ks rfl (.dt (vI (by first | (simp [szEs]; done) | (rw [hT, subZ_yes (by omega)]; omega)))), ks rfl .dt, ks rfl .dt, trivial⟩
  ·skip
   have hall : es.take i = es := List.take_of_length_le (by omega)
   refine ACode.exit ?_
   refine ks_e ?_
   refine kl_e ?_
   refine kb_hit ?_
   refine ks_n ?_
   refine ACode.seq ?_
   refine ACode.region ?_
   refine .cons (.mv rfl rfl) ?_
   refine .cons (.asg rfl rfl) ?_
   refine .nil ?_
   refine ks_n ?_
   refine ACode.ret ?_
   refine kf_ret rfl ?_ nobox
   exact leafI (by rw [hall] at hF ⊢; rw [subZ_yes hF])

set_option maxRecDepth 100000 in
set_option maxHeartbeats 1600000 in
theorem szEx_one (e : Ex) {l : Int} (hl : 0 ≤ l ∧ l ≤ 1048576) (h0 : e.i.1.length ≤ 17592186044416) (h1 : e.r.1.size ≤ 140737488351232) (h2 : e.r.2.length ≤ 17592186044416) (h3 : ∀ x ∈ e.r.2, x.1.length ≤ 17592186044416) (h4 : e.ks.length ≤ 17592186044416) (ih : ∀ x ∈ e.ks, ∀ l : Int, 0 ≤ l ∧ l ≤ 1048576 → Fn Tryz.prog 182 [] [ad (rX x), nat1 l] (.o (nat1 (subZ l (szE x)))) []) : Fn Tryz.prog 182 [] [ad (rX e), nat1 l] (.o (nat1 (subZ l (szE e)))) [] := by
 have hsz := szE_eq e
 have hb1 := subZ_bd (n := e.i.1.length) hl
 refine Fn.code0 Tryz.func182 rfl rfl rfl rfl ?_
 refine ACode.seq ?_
 refine ACode.region ?_
 refine .cons (St1.boxP rfl rfl rfl rfl rfl rfl) ?_
 refine .cons (.asg rfl rfl) ?_
 refine .nil ?_
 refine ks_n ?_
 refine ACode.seq ?_
 refine ACode.region ?_
 refine .cons (.fP 2 1 true rfl rfl) ?_
 refine .cons (.lN 2 rfl rfl rfl) ?_
 refine .cons (.mv rfl rfl) ?_
 refine .cons (.cP [.tmp 6, .tmp 7] rfl rfl rfl rfl (szAff_fn hl h0) rfl) ?_
 refine .cons (.asg rfl rfl) ?_
 refine .nil ?_
 refine ks_n ?_
 refine ACode.seq ?_
 refine ACode.seq ?_
 refine ACode.region ?_
 refine .cons (.mv rfl rfl) ?_
 refine .cons (.ls rfl rfl rfl) ?_
 refine .nil ?_
 refine ks_n ?_
 refine .cD rfl (fun h10 => ?_) (fun h10 => ?_)
 ·skip
  refine ACode.seq ?_
  refine ACode.region ?_
  refine .cons (.asg rfl rfl) ?_
  refine .nil ?_
  refine ks_n ?_
  refine ACode.ret ?_
  refine ks_r ?_
  refine kf_ret rfl ?_ nobox
  exact leafI (subZ_no (by have := subZ_neg h10 hl.1; omega)).symm
 ·skip
  refine ACode.skip ?_
  refine ks_n ?_
  refine ACode.seq ?_
  have hp1 := subZ_pos h10
  have hb2 := subZ_bd (n := szC e.r) (l := subZ l e.i.1.length) (by omega)
  refine ACode.region ?_
  refine .cons (.fP 4 1 true rfl rfl) ?_
  refine .cons (.lN 2 rfl rfl rfl) ?_
  refine .cons (.mv rfl rfl) ?_
  refine .cons (.cP [.tmp 12, .tmp 13] rfl rfl rfl rfl (szAcc_fn (a := e.r) (l := subZ l e.i.1.length) (by omega) h1 h2 h3) rfl) ?_
  refine .cons (.asg rfl rfl) ?_
  refine .nil ?_
  refine ks_n ?_
  refine ACode.seq ?_
  refine ACode.seq ?_
  refine ACode.region ?_
  refine .cons (.mv rfl rfl) ?_
  refine .cons (.ls rfl rfl rfl) ?_
  refine .nil ?_
  refine ks_n ?_
  refine .cD rfl (fun h16 => ?_) (fun h16 => ?_)
  ·skip
   refine ACode.seq ?_
   refine ACode.region ?_
   refine .cons (.asg rfl rfl) ?_
   refine .nil ?_
   refine ks_n ?_
   refine ACode.ret ?_
   refine ks_r ?_
   refine kf_ret rfl ?_ nobox
   exact leafI (subZ_no (by have h6 := subZ_neg h16 (by omega); rw [subZ_yes hp1] at h6; omega)).symm
  ·skip
   refine ACode.skip ?_
   refine ks_n ?_
   refine ACode.seq ?_
   have hp2 := subZ_pos h16
   have hb3 := subZ_bd (n := e.ks.length + szEs e.ks) (l := subZ (subZ l e.i.1.length) (szC e.r)) (by omega)
   have e1 := subZ_yes hp1
   have e2 := subZ_yes hp2
   refine ACode.region ?_
   refine .cons (.fP 6 0 false rfl rfl) ?_
   refine .cons (.l1 1 rfl rfl) ?_
   refine .cons (.mv rfl rfl) ?_
   refine .cons (.cP [.tmp 18, .tmp 19] rfl rfl rfl rfl (szExs_one e.ks (l := subZ (subZ l e.i.1.length) (szC e.r)) (by omega) h4 ih) rfl) ?_
   refine .cons (.asg rfl rfl) ?_
   refine .nil ?_
   refine ks_n ?_
   refine ACode.seq ?_
   refine ACode.seq ?_
   refine ACode.region ?_
   refine .cons (.mv rfl rfl) ?_
   refine .cons (.ls rfl rfl rfl) ?_
   refine .nil ?_
   refine ks_n ?_
   refine .cD rfl (fun h22 => ?_) (fun h22 => ?_)
   ·skip
    refine ACode.seq ?_
    refine ACode.region ?_
    refine .cons (.asg rfl rfl) ?_
    refine .nil ?_
    refine ks_n ?_
    refine ACode.ret ?_
    refine ks_r ?_
    refine kf_ret rfl ?_ nobox
    exact leafI (subZ_no (by have h6 := subZ_neg h22 (by omega); omega)).symm
   ·skip
    refine ACode.skip ?_
    refine ks_n ?_
    refine ACode.seq ?_
    refine ACode.region ?_
    refine .cons (.mv rfl rfl) ?_
    refine .cons (.asg rfl rfl) ?_
    refine .nil ?_
    refine ks_n ?_
    refine ACode.ret ?_
    refine kf_ret rfl ?_ nobox
    exact leafI (by have h6 := subZ_pos h22; rw [subZ_yes h6, e2, e1, subZ_yes (l := l) (n := szE e) (by omega)]; omega)

theorem szEx_fn : ∀ e : Ex, okE e → ∀ l : Int, 0 ≤ l ∧ l ≤ 1048576 → Fn Tryz.prog 182 [] [ad (rX e), nat1 l] (.o (nat1 (subZ l (szE e)))) [] := by
  intro e
  induction e using Ex.rec' with
  | h e ih =>
    intro ho l hl
    obtain ⟨h1, h2, h3, h4⟩ := okE_eq.1 ho
    exact szEx_one e hl h1 h2.1 h2.2.1 h2.2.2 h3 fun x hx l hl => ih x hx (h4 x hx) l hl

set_option maxRecDepth 100000 in
set_option maxHeartbeats 1600000 in
theorem szStm_fn {s : Stm} (ho : okS s) {l : Int} (hl : 0 ≤ l ∧ l ≤ 1048576)  : Fn Tryz.prog 148 [] [ad (rS s), nat1 l] (.o (nat1 (subZ l (szS s)))) [] := by
 have hsz : szS s = szC s.1 + szE s.2 := rfl
 have hb1 := subZ_bd (n := szC s.1) hl
 obtain ⟨⟨ho1, ho2, ho3⟩, ho4⟩ := ho
 refine Fn.code0 Tryz.func148 rfl rfl rfl rfl ?_
 refine ACode.seq ?_
 refine ACode.region ?_
 refine .cons (St1.boxP rfl rfl rfl rfl rfl rfl) ?_
 refine .cons (.asg rfl rfl) ?_
 refine .nil ?_
 refine ks_n ?_
 refine ACode.seq ?_
 refine ACode.region ?_
 refine .cons (.fP 0 1 true rfl rfl) ?_
 refine .cons (.lN 2 rfl rfl rfl) ?_
 refine .cons (.mv rfl rfl) ?_
 refine .cons (.cP [.tmp 6, .tmp 7] rfl rfl rfl rfl (szAcc_fn hl ho1 ho2 ho3) rfl) ?_
 refine .cons (.asg rfl rfl) ?_
 refine .nil ?_
 refine ks_n ?_
 refine ACode.seq ?_
 refine ACode.seq ?_
 refine ACode.region ?_
 refine .cons (.mv rfl rfl) ?_
 refine .cons (.ls rfl rfl rfl) ?_
 refine .nil ?_
 refine ks_n ?_
 refine .cD rfl (fun h10 => ?_) (fun h10 => ?_)
 ·skip
  refine ACode.seq ?_
  refine ACode.region ?_
  refine .cons (.asg rfl rfl) ?_
  refine .nil ?_
  refine ks_n ?_
  refine ACode.ret ?_
  refine ks_r ?_
  refine kf_ret rfl ?_ nobox
  exact leafI (subZ_no (by have := subZ_neg h10 hl.1; omega)).symm
 ·skip
  refine ACode.skip ?_
  refine ks_n ?_
  refine ACode.seq ?_
  have hp1 := subZ_pos h10
  have hb2 := subZ_bd (n := szE s.2) (l := subZ l (szC s.1)) (by omega)
  have e1 := subZ_yes hp1
  refine ACode.region ?_
  refine .cons (.fP 2 6 true rfl rfl) ?_
  refine .cons (.lN 7 rfl rfl rfl) ?_
  refine .cons (.mv rfl rfl) ?_
  refine .cons (.cP [.tmp 12, .tmp 13] rfl rfl rfl rfl (szEx_fn s.2 ho4 (subZ l (szC s.1)) (by omega)) rfl) ?_
  refine .cons (.asg rfl rfl) ?_
  refine .nil ?_
  refine ks_n ?_
  refine ACode.seq ?_
  refine ACode.seq ?_
  refine ACode.region ?_
  refine .cons (.mv rfl rfl) ?_
  refine .cons (.ls rfl rfl rfl) ?_
  refine .nil ?_
  refine ks_n ?_
  refine .cD rfl (fun h16 => ?_) (fun h16 => ?_)
  ·skip
   refine ACode.seq ?_
   refine ACode.region ?_
   refine .cons (.asg rfl rfl) ?_
   refine .nil ?_
   refine ks_n ?_
   refine ACode.ret ?_
   refine ks_r ?_
   refine kf_ret rfl ?_ nobox
   exact leafI (subZ_no (by have h6 := subZ_neg h16 (by omega); omega)).symm
  ·skip
   refine ACode.skip ?_
   refine ks_n ?_
   refine ACode.seq ?_
   refine ACode.region ?_
   refine .cons (.mv rfl rfl) ?_
   refine .cons (.asg rfl rfl) ?_
   refine .nil ?_
   refine ks_n ?_
   refine ACode.ret ?_
   refine kf_ret rfl ?_ nobox
   exact leafI (by have h6 := subZ_pos h16; rw [subZ_yes h6, e1, subZ_yes (l := l) (n := szS s) (by omega)]; omega)
def tyMk (P : Program) (t : TypeId) : Option (TypeId × Nat × Nat × List Value) :=
  match P.underlying t with
  | some (.slice e) => (P.info? e).bind fun i => i.zero.map fun z => (e, i.size, i.bytes, z.cells.toList)
  | _ => none
theorem tyMk_out {P : Program} {t e : TypeId} {sz by' : Nat} {zs : List Value} (h : tyMk P t = some (e, sz, by', zs)) : P.underlying t = some (.slice e) ∧ ∃ i z, P.info? e = some i ∧ i.zero = some z ∧ i.size = sz ∧ i.bytes = by' ∧ z.cells.toList = zs := by
  unfold tyMk at h
  cases hu : P.underlying t with
  | none => simp [hu] at h
  | some d =>
    cases d <;> simp only [hu, reduceCtorEq] at h
    case slice e' =>
      cases hi : P.info? e' with
      | none => rw [hi] at h; cases h
      | some i =>
        cases hz : i.zero with
        | none => rw [hi] at h; simp [hz] at h
        | some z =>
          rw [hi] at h
          simp only [Option.bind_some, hz, Option.map_some, Option.some.injEq, Prod.mk.injEq] at h
          obtain ⟨rfl, h1, h2, h3⟩ := h
          exact ⟨rfl, i, z, hi, hz, h1, h2, h3⟩
theorem made_at {z : Value} {n i j sz : Nat} {u : Value} (hs : z.cells.toList.length = sz) (hi : i < n) (hu : z.cells.toList[j]? = some u) : (madeCells z.cells (n * sz))[i * sz + j]? = some u := by
  have hj : j < sz := by rw [← hs]; exact (List.getElem?_eq_some_iff.1 hu).1
  have hlt : i * sz + j < n * sz := by
    have := Nat.mul_le_mul_right sz (show i + 1 ≤ n by omega)
    rw [Nat.add_mul] at this; omega
  have hz : z.cells.size = sz := by rw [← hs, Array.length_toList]
  have hm : (i * sz + j) % sz = j := by rw [Nat.add_comm, Nat.add_mul_mod_self_right, Nat.mod_eq_of_lt hj]
  rw [Array.getElem?_toList] at hu
  simp [madeCells, hlt, hz, hm, Array.getElem!_eq_getD, hu, Array.getD_eq_getD_getElem?]
section
variable {P : Program} {n : Nat} {ops : Array Oper} {o : Oper} {σ : St} {d : Nat}
theorem St1.mk (k' : Nat) (e : TypeId) (sz by' : Nat) (zs : List Value) {t : TypeId} {x y : Operand} {m : Nat} (h4 : (o.op, o.guard, o.dst, Nat.blt d n) = (Op.makeSlice t x y, none, some d, true)) (hx : ev σ x = some (.o (nat1 (m : Nat)))) (hy : ev σ y = some (.o (nat1 (m : Nat)))) (hm : m ≤ 1073741824) (hz : (Nat.beq zs.length sz && zs.all (·.oneCell') && Nat.ble by' 65536) = true)
    (hf : (lk σ (.u k'), Nat.ble 100 k') = (.no, true)) (ht : tyMk P t = some (e, sz, by', zs) := by kernel_rfl) :
    St1 P n ops o σ (.u k' :: (rd x ++ rd y)) [.t d, .u k', .b k', .b k'] ((.t d, .v (.o (.c (.own k' sz m)))) :: (.u k', .u) :: (.b k', .b e sz (dR (List.replicate m (zs.map D.val)))) :: (.b k', .no) :: σ) := by
  simp only [Prod.mk.injEq] at h4 hf
  obtain ⟨ho, hg, hd, hn⟩ := h4
  simp only [Bool.and_eq_true] at hz
  have hzl : zs.length = sz := Nat.eq_of_beq_eq_true hz.1.1
  have hz1 : ∀ u ∈ zs, u.oneCell' = true := fun u hu => List.all_eq_true.1 hz.1.2 u hu
  have hby := Nat.le_of_ble_eq_true hz.2
  have hrow : ∀ {i : Nat} {r : List C}, (dR (List.replicate m (zs.map D.val)))[i]? = some r → i < m ∧ r = zs.map fun u => C.d (.val u) := fun {i r} h => by
    rw [dR, List.map_replicate, List.map_map] at h
    have hi : i < m := by have := (List.getElem?_eq_some_iff.1 h).1; simpa using this
    rw [List.getElem?_replicate, if_pos hi] at h
    exact ⟨hi, (Option.some.inj h).symm⟩
  refine St1.place hg hd hn hf.1 hf.2 (okk_self hf.2) rfl fun E bx τ a w hR hs => ?_
  obtain ⟨hu, i, z, hi, hzz, hs1, hs2, hs3⟩ := tyMk_out ht
  have hbm : i.bytes * m ≤ 281474976710656 := by
    have := Nat.mul_le_mul (show i.bytes ≤ 65536 by omega) hm; omega
  have hb' : (i.bytes : Int) * (m : Int) ≤ 281474976710656 := by
    have h : ((i.bytes * m : Nat) : Int) ≤ 281474976710656 := by omega
    rwa [Int.natCast_mul] at h
  have hr := run_make (P := P) w t e i z hu hi hzz .i64 .i64 (m : Int) (m : Int) (by omega) (Int.le_refl _) hb' (by omega)
  simp only [Int.toNat_natCast, hs1] at hr
  have hsz : (madeCells z.cells (m * sz)).size = m * sz := size_madeCells _ _
  refine ⟨.slice (some ⟨w.heap.size, 0, none⟩) m m, w.alloc (.cells (madeCells z.cells (m * sz)) e), w.heap.size, w.heap.size, madeCells z.cells (m * sz), ?_, .inr (Nat.le_refl _), World.grownBy_alloc w _ _, .inl rfl, heap_alloc_new w _, ?_, fun i r hi => ?_, fun i r j c hi hj => ?_, fun r hr' c hc l hl => ?_, fun bx' al B w2 hbx => ⟨rfl, fun _ => ⟨m, by rw [hbx], Nat.le_refl _, by unfold maxLen; omega, by rw [hbx, hsz]⟩⟩⟩
  · simp only [execOp, ho, ev_val hx (rd_l hR) hs, ev_val hy (rd_r hR) hs, Sem.run_bind, hr]; rfl
  · rw [hsz, dR, List.length_map, List.length_replicate]; exact Nat.le_refl _
  · rw [(hrow hi).2, List.length_map, hzl]
  · obtain ⟨h1, rfl⟩ := hrow hi
    rw [List.getElem?_map] at hj
    cases hq : zs[j]? with
    | none => rw [hq] at hj; cases hj
    | some u =>
      rw [hq] at hj; cases hj
      exact ⟨u, made_at (by rw [hs3, hzl]) h1 (by rw [hs3]; exact hq), .val _ (hz1 u (List.mem_of_getElem? hq))⟩
  · obtain ⟨i, hi⟩ := List.mem_iff_getElem?.1 hr'
    obtain ⟨_, rfl⟩ := hrow hi
    obtain ⟨u, _, rfl⟩ := List.mem_map.1 hc
    cases hl
end
set_option maxRecDepth 100000 in
set_option maxHeartbeats 1600000 in
theorem eqInts_f (xs ys : List Int) (hx : xs.length ≤ 1099511627776) : Fn Tryz.prog 15 [] [vD (dIs xs), vD (dIs ys)] (.o (bo1 (eqF (fun x y : Int => decide (x = y)) xs ys))) [] := by
 refine Fn.code0 Tryz.func15 rfl rfl rfl rfl ?_
 refine ACode.seq ?_
 refine ACode.region ?_
 refine .cons (.asg rfl rfl) ?_
 refine .nil ?_
 refine ks_n ?_
 refine ACode.seq ?_
 refine ACode.seq ?_
 refine ACode.region ?_
 refine .cons (.mv rfl rfl) ?_
 refine .cons (.ln 3 1 8 rfl rfl rfl) ?_
 refine .cons (.mv rfl rfl) ?_
 refine .cons (.ln 3 1 8 rfl rfl rfl) ?_
 refine .cons (.ne rfl rfl rfl) ?_
 refine .nil ?_
 refine ks_n ?_
 refine .cND rfl (fun h10 => ?_) (fun h10 => ?_)
 ·skip
  refine ACode.seq ?_
  refine ACode.region ?_
  refine .cons (.asg rfl rfl) ?_
  refine .nil ?_
  refine ks_n ?_
  refine ACode.ret ?_
  refine ks_r ?_
  refine kf_ret rfl ?_ nobox
  exact leafB (eqF_len (by omega)).symm
 ·skip
  refine ACode.skip ?_
  refine ks_n ?_
  refine ACode.seq ?_
  refine ACode.seq ?_
  refine ACode.region ?_
  refine .cons (.asg rfl rfl) ?_
  refine .nil ?_
  refine ks_n ?_
  refine ACode.block ?_
  refine .loopK (fun m σ => (∃ i : Nat, m = xs.length - i ∧ (i ≤ xs.length) ∧ (eqF (fun x y : Int => decide (x = y)) xs ys = eqF (fun x y : Int => decide (x = y)) (xs.drop i) (ys.drop i)) ∧ σ = [(.t 0, .v (.o (vD (dIs xs)))), (.t 1, .v (.o (vD (dIs ys)))), (.t 4, .v (.o (bo1 false))), (.t 5, .v (.o (nat1 (i : Nat))))])) [] ⟨0, rfl, by omega, by simp, rfl⟩ ⟨ks rfl .dt, ks rfl .dt, ks rfl .dt, ks rfl .dt, trivial⟩ ?_
  rintro m σ ⟨i, hm0, hi, hF, rfl⟩
  refine ACode.seq ?_
  refine ACode.seq ?_
  refine ACode.region ?_
  refine .cons (.mv rfl rfl) ?_
  refine .cons (.mv rfl rfl) ?_
  refine .cons (.ln 3 1 8 rfl rfl rfl) ?_
  refine .cons (.ls rfl rfl rfl) ?_
  refine .nil ?_
  refine ks_n ?_
  refine .cD rfl (fun h14 => ?_) (fun h14 => ?_)
  ·skip
   obtain ⟨x, hx1⟩ : ∃ x, xs[i]? = some x := ⟨_, List.getElem?_eq_getElem (by omega)⟩
   obtain ⟨y, hy1⟩ : ∃ x, ys[i]? = some x := ⟨_, List.getElem?_eq_getElem (by omega)⟩
   refine ACode.skip ?_
   refine ks_n ?_
   refine ACode.seq ?_
   refine ACode.block ?_
   refine ACode.seq ?_
   refine ACode.drawK (by kernel_rfl) (by kernel_rfl) ?_
   refine .cons (.mv rfl rfl) ?_
   refine .cons (.mv rfl rfl) ?_
   refine .cons (.xL 3 1 8 rfl rfl rfl rfl rfl (map_at hx1)) ?_
   refine .cons (.l1 1 rfl rfl) ?_
   refine .cons (.mv rfl rfl) ?_
   refine .cons (.mv rfl rfl) ?_
   refine .cons (.xL 3 1 8 rfl rfl rfl rfl rfl (map_at hy1)) ?_
   refine .cons (.l1 1 rfl rfl) ?_
   refine .cons (.ne rfl rfl rfl) ?_
   refine .nil ⟨by kernel_rfl, ?_⟩
   refine ks_n ?_
   refine .cND rfl (fun h25 => ?_) (fun h25 => ?_)
   ·skip
    have g : decide (x = y) = false := by first | assumption | exact decide_eq_false (by assumption) | (simp; omega)
    refine ACode.seq ?_
    refine ACode.region ?_
    refine .cons (.asg rfl rfl) ?_
    refine .nil ?_
    refine ks_n ?_
    refine ACode.ret ?_
    refine kb_r ?_
    refine ks_r ?_
    refine kl_r ?_
    refine kb_r ?_
    refine ks_r ?_
    refine kf_ret rfl ?_ nobox
    exact leafB (by rw [hF, eqF_drop hx1 hy1, g]; rfl)
   ·skip
    have g : decide (x = y) = true := by first | assumption | exact decide_eq_true (by assumption) | (simp; omega)
    refine ACode.skip ?_
    refine kb_n ?_
    refine ks_n ?_
    refine ACode.region ?_
    refine .cons (.mv rfl rfl) ?_
    refine .cons (.pl rfl rfl rfl) ?_
    refine .cons (.asg rfl rfl) ?_
    refine .nil ?_
    refine kl_k [] ⟨i + 1, rfl, by omega, by rw [hF, eqF_drop hx1 hy1, g, Bool.true_and], rfl⟩ ⟨ks rfl .dt, ks rfl .dt, ks rfl .dt, ks rfl .dt, trivial⟩
  ·skip
   refine ACode.exit ?_
   refine ks_e ?_
   refine kl_e ?_
   refine kb_hit ?_
   refine ks_n ?_
   refine ACode.seq ?_
   refine ACode.region ?_
   refine .cons (.asg rfl rfl) ?_
   refine .nil ?_
   refine ks_n ?_
   refine ACode.ret ?_
   refine kf_ret rfl ?_ nobox
   exact leafB (by rw [hF, show i = xs.length by omega, eqF_end (by omega)])

theorem eqInts_fn (xs ys : List Int) (hx : xs.length ≤ 1099511627776) : Fn Tryz.prog 15 [] [vD (dIs xs), vD (dIs ys)] (.o (bo1 (decide (xs = ys)))) [] := by
  rw [← eqF_dec]; exact eqInts_f xs ys hx

set_option maxRecDepth 100000 in
set_option maxHeartbeats 1600000 in
theorem eqAff_fn (x y : Aff) (hx : x.1.length ≤ 1099511627776) : Fn Tryz.prog 228 [] [ad (rA x), ad (rA y)] (.o (bo1 (decide (x = y)))) [] := by
 refine Fn.code0 Tryz.func228 rfl rfl rfl rfl ?_
 refine ACode.seq ?_
 refine ACode.region ?_
 refine .cons (St1.boxP rfl rfl rfl rfl rfl rfl) ?_
 refine .cons (St1.boxP rfl rfl rfl rfl rfl rfl) ?_
 refine .cons (.asg rfl rfl) ?_
 refine .nil ?_
 refine ks_n ?_
 refine ACode.seq ?_
 refine ACode.seq ?_
 refine ACode.region ?_
 refine .cons (.fP 0 0 false rfl rfl) ?_
 refine .cons (.l1 1 rfl rfl) ?_
 refine .cons (.fP 0 0 false rfl rfl) ?_
 refine .cons (.l1 1 rfl rfl) ?_
 refine .cons (.cP [.tmp 6, .tmp 8] rfl rfl rfl rfl (eqInts_fn _ _ hx) rfl) ?_
 refine .cons (.nt rfl rfl) ?_
 refine .nil ?_
 refine ks_n ?_
 refine ACode.condT rfl (fun h10 => ?_) (fun h10 => ?_)
 ·try simp only [zs1, zs2, zs3, zs4, zs5, zs6, zs7] at h10
  refine ACode.seq ?_
  refine ACode.region ?_
  refine .cons (.asg rfl rfl) ?_
  refine .nil ?_
  refine ks_n ?_
  refine ACode.ret ?_
  refine ks_r ?_
  refine kf_ret rfl ?_ nobox
  exact leafB (by rw [Bool.eq_iff_iff]; simp [Prod.ext_iff, *])
 ·try simp only [zs1, zs2, zs3, zs4, zs5, zs6, zs7] at h10
  refine ACode.skip ?_
  refine ks_n ?_
  refine ACode.seq ?_
  refine ACode.seq ?_
  refine ACode.region ?_
  refine .cons (.fP 1 0 false rfl rfl) ?_
  refine .cons (.l1 1 rfl rfl) ?_
  refine .cons (.fP 1 0 false rfl rfl) ?_
  refine .cons (.l1 1 rfl rfl) ?_
  refine .cons (.ne rfl rfl rfl) ?_
  refine .nil ?_
  refine ks_n ?_
  refine .cND rfl (fun h15 => ?_) (fun h15 => ?_)
  ·skip
   refine ACode.seq ?_
   refine ACode.region ?_
   refine .cons (.asg rfl rfl) ?_
   refine .nil ?_
   refine ks_n ?_
   refine ACode.ret ?_
   refine ks_r ?_
   refine kf_ret rfl ?_ nobox
   exact leafB (by rw [Bool.eq_iff_iff]; simp [Prod.ext_iff, *])
  ·skip
   refine ACode.skip ?_
   refine ks_n ?_
   refine ACode.seq ?_
   refine ACode.region ?_
   refine .cons (.asg rfl rfl) ?_
   refine .nil ?_
   refine ks_n ?_
   refine ACode.ret ?_
   refine kf_ret rfl ?_ nobox
   exact leafB (by rw [Bool.eq_iff_iff]; simp [Prod.ext_iff, *])

set_option maxRecDepth 100000 in
set_option maxHeartbeats 1600000 in
theorem eqAffs_f (xs ys : List Aff) (hx : xs.length ≤ 1099511627776) (hq : ∀ x ∈ xs, x.1.length ≤ 1099511627776) : Fn Tryz.prog 202 [] [vD (dAs xs), vD (dAs ys)] (.o (bo1 (eqF (fun x y : Aff => decide (x = y)) xs ys))) [] := by
 refine Fn.code0 Tryz.func202 rfl rfl rfl rfl ?_
 refine ACode.seq ?_
 refine ACode.region ?_
 refine .cons (.asg rfl rfl) ?_
 refine .nil ?_
 refine ks_n ?_
 refine ACode.seq ?_
 refine ACode.seq ?_
 refine ACode.region ?_
 refine .cons (.mv rfl rfl) ?_
 refine .cons (.ln 86 2 32 rfl rfl rfl) ?_
 refine .cons (.mv rfl rfl) ?_
 refine .cons (.ln 86 2 32 rfl rfl rfl) ?_
 refine .cons (.ne rfl rfl rfl) ?_
 refine .nil ?_
 refine ks_n ?_
 refine .cND rfl (fun h10 => ?_) (fun h10 => ?_)
 ·skip
  refine ACode.seq ?_
  refine ACode.region ?_
  refine .cons (.asg rfl rfl) ?_
  refine .nil ?_
  refine ks_n ?_
  refine ACode.ret ?_
  refine ks_r ?_
  refine kf_ret rfl ?_ nobox
  exact leafB (eqF_len (by omega)).symm
 ·skip
  refine ACode.skip ?_
  refine ks_n ?_
  refine ACode.seq ?_
  refine ACode.seq ?_
  refine ACode.region ?_
  refine .cons (.asg rfl rfl) ?_
  refine .nil ?_
  refine ks_n ?_
  refine ACode.block ?_
  refine .loopK (fun m σ => (∃ i : Nat, m = xs.length - i ∧ (i ≤ xs.length) ∧ (eqF (fun x y : Aff => decide (x = y)) xs ys = eqF (fun x y : Aff => decide (x = y)) (xs.drop i) (ys.drop i)) ∧ σ = [(.t 0, .v (.o (vD (dAs xs)))), (.t 1, .v (.o (vD (dAs ys)))), (.t 4, .v (.o (bo1 false))), (.t 5, .v (.o (nat1 (i : Nat))))])) [] ⟨0, rfl, by omega, by simp, rfl⟩ ⟨ks rfl .dt, ks rfl .dt, ks rfl .dt, ks rfl .dt, trivial⟩ ?_
  rintro m σ ⟨i, hm0, hi, hF, rfl⟩
  refine ACode.seq ?_
  refine ACode.seq ?_
  refine ACode.region ?_
  refine .cons (.mv rfl rfl) ?_
  refine .cons (.mv rfl rfl) ?_
  refine .cons (.ln 86 2 32 rfl rfl rfl) ?_
  refine .cons (.ls rfl rfl rfl) ?_
  refine .nil ?_
  refine ks_n ?_
  refine .cD rfl (fun h14 => ?_) (fun h14 => ?_)
  ·skip
   obtain ⟨x, hx1⟩ : ∃ x, xs[i]? = some x := ⟨_, List.getElem?_eq_getElem (by omega)⟩
   obtain ⟨y, hy1⟩ : ∃ x, ys[i]? = some x := ⟨_, List.getElem?_eq_getElem (by omega)⟩
   refine ACode.skip ?_
   refine ks_n ?_
   refine ACode.seq ?_
   refine ACode.block ?_
   refine ACode.seq ?_
   refine ACode.drawK (by kernel_rfl) (by kernel_rfl) ?_
   refine .cons (.mv rfl rfl) ?_
   refine .cons (.mv rfl rfl) ?_
   refine .cons (.xL 86 2 32 rfl rfl rfl rfl rfl (map_at hx1)) ?_
   refine .cons (.lN 2 rfl rfl rfl) ?_
   refine .cons (.mv rfl rfl) ?_
   refine .cons (.mv rfl rfl) ?_
   refine .cons (.xL 86 2 32 rfl rfl rfl rfl rfl (map_at hy1)) ?_
   refine .cons (.lN 2 rfl rfl rfl) ?_
   refine .cons (.cP [.tmp 20, .tmp 24] rfl rfl rfl rfl (eqAff_fn x y (hq x (List.mem_of_getElem? hx1))) rfl) ?_
   refine .cons (.nt rfl rfl) ?_
   refine .nil ⟨by kernel_rfl, ?_⟩
   refine ks_n ?_
   refine ACode.condT rfl (fun h26 => ?_) (fun h26 => ?_)
   ·try simp only [zs1, zs2, zs3, zs4, zs5, zs6, zs7] at h26
    have g : decide (x = y) = false := by first | assumption | exact decide_eq_false (by assumption) | (simp; omega)
    refine ACode.seq ?_
    refine ACode.region ?_
    refine .cons (.asg rfl rfl) ?_
    refine .nil ?_
    refine ks_n ?_
    refine ACode.ret ?_
    refine kb_r ?_
    refine ks_r ?_
    refine kl_r ?_
    refine kb_r ?_
    refine ks_r ?_
    refine kf_ret rfl ?_ nobox
    exact leafB (by rw [hF, eqF_drop hx1 hy1, g]; rfl)
   ·try simp only [zs1, zs2, zs3, zs4, zs5, zs6, zs7] at h26
    have g : decide (x = y) = true := by first | assumption | exact decide_eq_true (by assumption) | (simp; omega)
    refine ACode.skip ?_
    refine kb_n ?_
    refine ks_n ?_
    refine ACode.region ?_
    refine .cons (.mv rfl rfl) ?_
    refine .cons (.pl rfl rfl rfl) ?_
    refine .cons (.asg rfl rfl) ?_
    refine .nil ?_
    refine kl_k [] ⟨i + 1, rfl, by omega, by rw [hF, eqF_drop hx1 hy1, g, Bool.true_and], rfl⟩ ⟨ks rfl .dt, ks rfl .dt, ks rfl .dt, ks rfl .dt, trivial⟩
  ·skip
   refine ACode.exit ?_
   refine ks_e ?_
   refine kl_e ?_
   refine kb_hit ?_
   refine ks_n ?_
   refine ACode.seq ?_
   refine ACode.region ?_
   refine .cons (.asg rfl rfl) ?_
   refine .nil ?_
   refine ks_n ?_
   refine ACode.ret ?_
   refine kf_ret rfl ?_ nobox
   exact leafB (by rw [hF, show i = xs.length by omega, eqF_end (by omega)])

theorem eqAffs_fn (xs ys : List Aff) (hx : xs.length ≤ 1099511627776) (hq : ∀ x ∈ xs, x.1.length ≤ 1099511627776) : Fn Tryz.prog 202 [] [vD (dAs xs), vD (dAs ys)] (.o (bo1 (decide (xs = ys)))) [] := by
  rw [← eqF_dec]; exact eqAffs_f xs ys hx hq
set_option maxRecDepth 100000 in
set_option maxHeartbeats 1600000 in
theorem eqAcc_fn (a b : Acc) (h : szC a ≤ 1073741824) : Fn Tryz.prog 203 [] [ad (rC a), ad (rC b)] (.o (bo1 (sameC a b))) [] := by
 rw [szC] at h
 have h2 := szAs_len a.2
 refine Fn.code0 Tryz.func203 rfl rfl rfl rfl ?_
 refine ACode.seq ?_
 refine ACode.region ?_
 refine .cons (St1.boxP rfl rfl rfl rfl rfl rfl) ?_
 refine .cons (St1.boxP rfl rfl rfl rfl rfl rfl) ?_
 refine .cons (.asg rfl rfl) ?_
 refine .nil ?_
 refine ks_n ?_
 refine ACode.seq ?_
 refine ACode.seq ?_
 refine ACode.region ?_
 refine .cons (.fP 0 0 false rfl rfl) ?_
 refine .cons (.l1 1 rfl rfl) ?_
 refine .cons (.fP 0 0 false rfl rfl) ?_
 refine .cons (.l1 1 rfl rfl) ?_
 refine .cons (St1.neS rfl rfl rfl) ?_
 refine .nil ?_
 refine ks_n ?_
 refine ACode.condT rfl (fun h9 => ?_) (fun h9 => ?_)
 ·try simp only [zs1, zs2, zs3, zs4, zs5, zs6, zs7] at h9
  refine ACode.seq ?_
  refine ACode.region ?_
  refine .cons (.asg rfl rfl) ?_
  refine .nil ?_
  refine ks_n ?_
  refine ACode.ret ?_
  refine ks_r ?_
  refine kf_ret rfl ?_ nobox
  exact leafB (by rw [sameC]; first | (simp [*]; done) | grind)
 ·try simp only [zs1, zs2, zs3, zs4, zs5, zs6, zs7] at h9
  refine ACode.skip ?_
  refine ks_n ?_
  refine ACode.seq ?_
  refine ACode.seq ?_
  refine ACode.region ?_
  refine .cons (.fP 1 0 false rfl rfl) ?_
  refine .cons (.l1 1 rfl rfl) ?_
  refine .cons (.fP 1 0 false rfl rfl) ?_
  refine .cons (.l1 1 rfl rfl) ?_
  refine .cons (.cP [.tmp 11, .tmp 13] rfl rfl rfl rfl (eqAffs_fn _ _ (by omega) (fun x hx => by have := szAs_mem hx; omega)) rfl) ?_
  refine .cons (.nt rfl rfl) ?_
  refine .nil ?_
  refine ks_n ?_
  refine ACode.condT rfl (fun h15 => ?_) (fun h15 => ?_)
  ·try simp only [zs1, zs2, zs3, zs4, zs5, zs6, zs7] at h15
   refine ACode.seq ?_
   refine ACode.region ?_
   refine .cons (.asg rfl rfl) ?_
   refine .nil ?_
   refine ks_n ?_
   refine ACode.ret ?_
   refine ks_r ?_
   refine kf_ret rfl ?_ nobox
   exact leafB (by rw [sameC]; first | (simp [*]; done) | grind)
  ·try simp only [zs1, zs2, zs3, zs4, zs5, zs6, zs7] at h15
   refine ACode.skip ?_
   refine ks_n ?_
   refine ACode.seq ?_
   refine ACode.region ?_
   refine .cons (.asg rfl rfl) ?_
   refine .nil ?_
   refine ks_n ?_
   refine ACode.ret ?_
   refine kf_ret rfl ?_ nobox
   exact leafB (by rw [sameC]; first | (simp [*]; done) | grind)

set_option maxRecDepth 100000 in
set_option maxHeartbeats 1600000 in
theorem eqExs_one (xs ys : List Ex) (hx : xs.length ≤ 1099511627776) (ih : ∀ x ∈ xs, ∀ y, Fn Tryz.prog 204 [] [ad (rX x), ad (rX y)] (.o (bo1 (sameE x y))) []) : Fn Tryz.prog 229 [] [vD (dEs xs), vD (dEs ys)] (.o (bo1 (eqF sameE xs ys))) [] := by
 refine Fn.code0 Tryz.func229 rfl rfl rfl rfl ?_
 refine ACode.seq ?_
 refine ACode.region ?_
 refine .cons (.asg rfl rfl) ?_
 refine .nil ?_
 refine ks_n ?_
 refine ACode.seq ?_
 refine ACode.seq ?_
 refine ACode.region ?_
 refine .cons (.mv rfl rfl) ?_
 refine .cons (.ln 89 7 112 rfl rfl rfl) ?_
 refine .cons (.mv rfl rfl) ?_
 refine .cons (.ln 89 7 112 rfl rfl rfl) ?_
 refine .cons (.ne rfl rfl rfl) ?_
 refine .nil ?_
 refine ks_n ?_
 refine .cND rfl (fun h10 => ?_) (fun h10 => ?_)
 ·skip
  refine ACode.seq ?_
  refine ACode.region ?_
  refine .cons (.asg rfl rfl) ?_
  refine .nil ?_
  refine ks_n ?_
  refine ACode.ret ?_
  refine ks_r ?_
  refine kf_ret rfl ?_ nobox
  exact leafB (eqF_len (by omega)).symm
 ·skip
  refine ACode.skip ?_
  refine ks_n ?_
  refine ACode.seq ?_
  refine ACode.seq ?_
  refine ACode.region ?_
  refine .cons (.asg rfl rfl) ?_
  refine .nil ?_
  refine ks_n ?_
  refine ACode.block ?_
  refine .loopK (fun m σ => (∃ i : Nat, m = xs.length - i ∧ (i ≤ xs.length) ∧ (eqF sameE xs ys = eqF sameE (xs.drop i) (ys.drop i)) ∧ σ = [(.t 0, .v (.o (vD (dEs xs)))), (.t 1, .v (.o (vD (dEs ys)))), (.t 4, .v (.o (bo1 false))), (.t 5, .v (.o (nat1 (i : Nat))))])) [] ⟨0, rfl, by omega, by simp, rfl⟩ ⟨ks rfl .dt, ks rfl .dt, ks rfl .dt, ks rfl .dt, trivial⟩ ?_
  rintro m σ ⟨i, hm0, hi, hF, rfl⟩
  refine ACode.seq ?_
  refine ACode.seq ?_
  refine ACode.region ?_
  refine .cons (.mv rfl rfl) ?_
  refine .cons (.mv rfl rfl) ?_
  refine .cons (.ln 89 7 112 rfl rfl rfl) ?_
  refine .cons (.ls rfl rfl rfl) ?_
  refine .nil ?_
  refine ks_n ?_
  refine .cD rfl (fun h14 => ?_) (fun h14 => ?_)
  ·skip
   obtain ⟨x, hx1⟩ : ∃ x, xs[i]? = some x := ⟨_, List.getElem?_eq_getElem (by omega)⟩
   obtain ⟨y, hy1⟩ : ∃ x, ys[i]? = some x := ⟨_, List.getElem?_eq_getElem (by omega)⟩
   refine ACode.skip ?_
   refine ks_n ?_
   refine ACode.seq ?_
   refine ACode.block ?_
   refine ACode.seq ?_
   refine ACode.drawK (by kernel_rfl) (by kernel_rfl) ?_
   refine .cons (.mv rfl rfl) ?_
   refine .cons (.mv rfl rfl) ?_
   refine .cons (.xL 89 7 112 rfl rfl rfl rfl rfl (rE_at hx1)) ?_
   refine .cons (.lN 7 rfl rfl rfl) ?_
   refine .cons (.mv rfl rfl) ?_
   refine .cons (.mv rfl rfl) ?_
   refine .cons (.xL 89 7 112 rfl rfl rfl rfl rfl (rE_at hy1)) ?_
   refine .cons (.lN 7 rfl rfl rfl) ?_
   refine .cons (.cP [.tmp 20, .tmp 24] rfl rfl rfl rfl (ih x (List.mem_of_getElem? hx1) y) rfl) ?_
   refine .cons (.nt rfl rfl) ?_
   refine .nil ⟨by kernel_rfl, ?_⟩
   refine ks_n ?_
   refine ACode.condT rfl (fun h26 => ?_) (fun h26 => ?_)
   ·try simp only [zs1, zs2, zs3, zs4, zs5, zs6, zs7] at h26
    have g : sameE x y = false := by first | assumption | exact decide_eq_false (by assumption) | (simp; omega)
    refine ACode.seq ?_
    refine ACode.region ?_
    refine .cons (.asg rfl rfl) ?_
    refine .nil ?_
    refine ks_n ?_
    refine ACode.ret ?_
    refine kb_r ?_
    refine ks_r ?_
    refine kl_r ?_
    refine kb_r ?_
    refine ks_r ?_
    refine kf_ret rfl ?_ nobox
    exact leafB (by rw [hF, eqF_drop hx1 hy1, g]; rfl)
   ·try simp only [zs1, zs2, zs3, zs4, zs5, zs6, zs7] at h26
    have g : sameE x y = true := by first | assumption | exact decide_eq_true (by assumption) | (simp; omega)
    refine ACode.skip ?_
    refine kb_n ?_
    refine ks_n ?_
    refine ACode.region ?_
    refine .cons (.mv rfl rfl) ?_
    refine .cons (.pl rfl rfl rfl) ?_
    refine .cons (.asg rfl rfl) ?_
    refine .nil ?_
    refine kl_k [] ⟨i + 1, rfl, by omega, by rw [hF, eqF_drop hx1 hy1, g, Bool.true_and], rfl⟩ ⟨ks rfl .dt, ks rfl .dt, ks rfl .dt, ks rfl .dt, trivial⟩
  ·skip
   refine ACode.exit ?_
   refine ks_e ?_
   refine kl_e ?_
   refine kb_hit ?_
   refine ks_n ?_
   refine ACode.seq ?_
   refine ACode.region ?_
   refine .cons (.asg rfl rfl) ?_
   refine .nil ?_
   refine ks_n ?_
   refine ACode.ret ?_
   refine kf_ret rfl ?_ nobox
   exact leafB (by rw [hF, show i = xs.length by omega, eqF_end (by omega)])

set_option maxRecDepth 100000 in
set_option maxHeartbeats 1600000 in
theorem eqEx_one (x y : Ex) (h0 : x.i.1.length ≤ 1073741824) (h1 : szC x.r ≤ 1073741824) (h2 : x.ks.length ≤ 1099511627776) (ih : ∀ a ∈ x.ks, ∀ b, Fn Tryz.prog 204 [] [ad (rX a), ad (rX b)] (.o (bo1 (sameE a b))) []) : Fn Tryz.prog 204 [] [ad (rX x), ad (rX y)] (.o (bo1 (sameE x y))) [] := by
 refine Fn.code0 Tryz.func204 rfl rfl rfl rfl ?_
 refine ACode.seq ?_
 refine ACode.region ?_
 refine .cons (St1.boxP rfl rfl rfl rfl rfl rfl) ?_
 refine .cons (St1.boxP rfl rfl rfl rfl rfl rfl) ?_
 refine .cons (.asg rfl rfl) ?_
 refine .nil ?_
 refine ks_n ?_
 refine ACode.seq ?_
 refine ACode.seq ?_
 refine ACode.region ?_
 refine .cons (.fP 0 0 false rfl rfl) ?_
 refine .cons (.l1 1 rfl rfl) ?_
 refine .cons (.fP 0 0 false rfl rfl) ?_
 refine .cons (.l1 1 rfl rfl) ?_
 refine .cons (.ne rfl rfl rfl) ?_
 refine .nil ?_
 refine ks_n ?_
 refine .cND rfl (fun h9 => ?_) (fun h9 => ?_)
 ·skip
  refine ACode.seq ?_
  refine ACode.region ?_
  refine .cons (.asg rfl rfl) ?_
  refine .nil ?_
  refine ks_n ?_
  refine ACode.ret ?_
  refine ks_r ?_
  refine kf_ret rfl ?_ nobox
  exact leafB (by rw [sameE_eq, ← eqF_sameE]; first | (simp [*]; done) | grind)
 ·skip
  refine ACode.skip ?_
  refine ks_n ?_
  refine ACode.seq ?_
  refine ACode.seq ?_
  refine ACode.region ?_
  refine .cons (.fP 1 0 false rfl rfl) ?_
  refine .cons (.l1 1 rfl rfl) ?_
  refine .cons (.fP 1 0 false rfl rfl) ?_
  refine .cons (.l1 1 rfl rfl) ?_
  refine .cons (.ne rfl rfl rfl) ?_
  refine .nil ?_
  refine ks_n ?_
  refine .cND rfl (fun h14 => ?_) (fun h14 => ?_)
  ·skip
   refine ACode.seq ?_
   refine ACode.region ?_
   refine .cons (.asg rfl rfl) ?_
   refine .nil ?_
   refine ks_n ?_
   refine ACode.ret ?_
   refine ks_r ?_
   refine kf_ret rfl ?_ nobox
   exact leafB (by rw [sameE_eq, ← eqF_sameE]; first | (simp [*]; done) | grind)
  ·skip
   refine ACode.skip ?_
   refine ks_n ?_
   refine ACode.seq ?_
   refine ACode.seq ?_
   refine ACode.region ?_
   refine .cons (.fP 2 1 true rfl rfl) ?_
   refine .cons (.lN 2 rfl rfl rfl) ?_
   refine .cons (.fP 2 1 true rfl rfl) ?_
   refine .cons (.lN 2 rfl rfl rfl) ?_
   refine .cons (.cP [.tmp 16, .tmp 18] rfl rfl rfl rfl (eqAff_fn _ _ (by omega)) rfl) ?_
   refine .cons (.nt rfl rfl) ?_
   refine .nil ?_
   refine ks_n ?_
   refine ACode.condT rfl (fun h20 => ?_) (fun h20 => ?_)
   ·try simp only [zs1, zs2, zs3, zs4, zs5, zs6, zs7] at h20
    refine ACode.seq ?_
    refine ACode.region ?_
    refine .cons (.asg rfl rfl) ?_
    refine .nil ?_
    refine ks_n ?_
    refine ACode.ret ?_
    refine ks_r ?_
    refine kf_ret rfl ?_ nobox
    exact leafB (by rw [sameE_eq, ← eqF_sameE]; first | (simp [*]; done) | grind)
   ·try simp only [zs1, zs2, zs3, zs4, zs5, zs6, zs7] at h20
    refine ACode.skip ?_
    refine ks_n ?_
    refine ACode.seq ?_
    refine ACode.seq ?_
    refine ACode.region ?_
    refine .cons (.fP 4 1 true rfl rfl) ?_
    refine .cons (.lN 2 rfl rfl rfl) ?_
    refine .cons (.fP 4 1 true rfl rfl) ?_
    refine .cons (.lN 2 rfl rfl rfl) ?_
    refine .cons (.cP [.tmp 22, .tmp 24] rfl rfl rfl rfl (eqAcc_fn _ _ h1) rfl) ?_
    refine .cons (.nt rfl rfl) ?_
    refine .nil ?_
    refine ks_n ?_
    refine ACode.condT rfl (fun h26 => ?_) (fun h26 => ?_)
    ·try simp only [zs1, zs2, zs3, zs4, zs5, zs6, zs7] at h26
     refine ACode.seq ?_
     refine ACode.region ?_
     refine .cons (.asg rfl rfl) ?_
     refine .nil ?_
     refine ks_n ?_
     refine ACode.ret ?_
     refine ks_r ?_
     refine kf_ret rfl ?_ nobox
     exact leafB (by rw [sameE_eq, ← eqF_sameE]; first | (simp [*]; done) | grind)
    ·try simp only [zs1, zs2, zs3, zs4, zs5, zs6, zs7] at h26
     refine ACode.skip ?_
     refine ks_n ?_
     refine ACode.seq ?_
     refine ACode.seq ?_
     refine ACode.region ?_
     refine .cons (.fP 6 0 false rfl rfl) ?_
     refine .cons (.l1 1 rfl rfl) ?_
     refine .cons (.fP 6 0 false rfl rfl) ?_
     refine .cons (.l1 1 rfl rfl) ?_
     refine .cons (.cP [.tmp 28, .tmp 30] rfl rfl rfl rfl (eqExs_one x.ks y.ks h2 ih) rfl) ?_
     refine .cons (.nt rfl rfl) ?_
     refine .nil ?_
     refine ks_n ?_
     refine ACode.condT rfl (fun h32 => ?_) (fun h32 => ?_)
     ·try simp only [zs1, zs2, zs3, zs4, zs5, zs6, zs7] at h32
      refine ACode.seq ?_
      refine ACode.region ?_
      refine .cons (.asg rfl rfl) ?_
      refine .nil ?_
      refine ks_n ?_
      refine ACode.ret ?_
      refine ks_r ?_
      refine kf_ret rfl ?_ nobox
      exact leafB (by rw [sameE_eq, ← eqF_sameE]; first | (simp [*]; done) | grind)
     ·try simp only [zs1, zs2, zs3, zs4, zs5, zs6, zs7] at h32
      refine ACode.skip ?_
      refine ks_n ?_
      refine ACode.seq ?_
      refine ACode.region ?_
      refine .cons (.asg rfl rfl) ?_
      refine .nil ?_
      refine ks_n ?_
      refine ACode.ret ?_
      refine kf_ret rfl ?_ nobox
      exact leafB (by rw [sameE_eq, ← eqF_sameE]; first | (simp [*]; done) | grind)

theorem eqEx_fn : ∀ x y : Ex, szE x ≤ 1073741824 → Fn Tryz.prog 204 [] [ad (rX x), ad (rX y)] (.o (bo1 (sameE x y))) [] := by
  intro x
  induction x using Ex.rec' with
  | h x ih =>
    intro y hs
    rw [szE_eq] at hs
    exact eqEx_one x y (by omega) (by omega) (by omega) fun a ha b => ih a ha b (by have := szEs_mem ha; omega)

set_option maxRecDepth 100000 in
set_option maxHeartbeats 1600000 in
theorem eqStm_fn (s t : Stm) (h : szS s ≤ 1073741824) : Fn Tryz.prog 172 [] [ad (rS s), ad (rS t)] (.o (bo1 (sameS s t))) [] := by
 rw [szS] at h
 refine Fn.code0 Tryz.func172 rfl rfl rfl rfl ?_
 refine ACode.seq ?_
 refine ACode.region ?_
 refine .cons (St1.boxP rfl rfl rfl rfl rfl rfl) ?_
 refine .cons (St1.boxP rfl rfl rfl rfl rfl rfl) ?_
 refine .cons (.asg rfl rfl) ?_
 refine .nil ?_
 refine ks_n ?_
 refine ACode.seq ?_
 refine ACode.seq ?_
 refine ACode.region ?_
 refine .cons (.fP 0 1 true rfl rfl) ?_
 refine .cons (.lN 2 rfl rfl rfl) ?_
 refine .cons (.fP 0 1 true rfl rfl) ?_
 refine .cons (.lN 2 rfl rfl rfl) ?_
 refine .cons (.cP [.tmp 6, .tmp 8] rfl rfl rfl rfl (eqAcc_fn _ _ (by omega)) rfl) ?_
 refine .cons (.nt rfl rfl) ?_
 refine .nil ?_
 refine ks_n ?_
 refine ACode.condT rfl (fun h10 => ?_) (fun h10 => ?_)
 ·try simp only [zs1, zs2, zs3, zs4, zs5, zs6, zs7] at h10
  refine ACode.seq ?_
  refine ACode.region ?_
  refine .cons (.asg rfl rfl) ?_
  refine .nil ?_
  refine ks_n ?_
  refine ACode.ret ?_
  refine ks_r ?_
  refine kf_ret rfl ?_ nobox
  exact leafB (by rw [sameS]; first | (simp [*]; done) | grind)
 ·try simp only [zs1, zs2, zs3, zs4, zs5, zs6, zs7] at h10
  refine ACode.skip ?_
  refine ks_n ?_
  refine ACode.seq ?_
  refine ACode.seq ?_
  refine ACode.region ?_
  refine .cons (.fP 2 6 true rfl rfl) ?_
  refine .cons (.lN 7 rfl rfl rfl) ?_
  refine .cons (.fP 2 6 true rfl rfl) ?_
  refine .cons (.lN 7 rfl rfl rfl) ?_
  refine .cons (.cP [.tmp 12, .tmp 14] rfl rfl rfl rfl (eqEx_fn _ _ (by omega)) rfl) ?_
  refine .cons (.nt rfl rfl) ?_
  refine .nil ?_
  refine ks_n ?_
  refine ACode.condT rfl (fun h16 => ?_) (fun h16 => ?_)
  ·try simp only [zs1, zs2, zs3, zs4, zs5, zs6, zs7] at h16
   refine ACode.seq ?_
   refine ACode.region ?_
   refine .cons (.asg rfl rfl) ?_
   refine .nil ?_
   refine ks_n ?_
   refine ACode.ret ?_
   refine ks_r ?_
   refine kf_ret rfl ?_ nobox
   exact leafB (by rw [sameS]; first | (simp [*]; done) | grind)
  ·try simp only [zs1, zs2, zs3, zs4, zs5, zs6, zs7] at h16
   refine ACode.skip ?_
   refine ks_n ?_
   refine ACode.seq ?_
   refine ACode.region ?_
   refine .cons (.asg rfl rfl) ?_
   refine .nil ?_
   refine ks_n ?_
   refine ACode.ret ?_
   refine kf_ret rfl ?_ nobox
   exact leafB (by rw [sameS]; first | (simp [*]; done) | grind)
/-- Sizes of loops. -/
def szL (l : Lp) : Nat := szAs l.1 + szAs l.2
def szLs (l : List Lp) : Nat := l.length + (l.map szL).sum
theorem szLs_mem {l : List Lp} {a : Lp} (h : a ∈ l) : l.length + szL a ≤ szLs l := by
  rw [szLs]
  have : ∀ (l : List Nat) (n : Nat), n ∈ l → n ≤ l.sum := by
    intro l
    induction l with
    | nil => intro n h; cases h
    | cons m l ih =>
      intro n h
      rw [List.sum_cons]
      rcases List.mem_cons.1 h with rfl | h
      · omega
      · have := ih n h; omega
  have := this _ _ (List.mem_map_of_mem (f := szL) h)
  omega
theorem szLs_len (l : List Lp) : l.length ≤ szLs l := Nat.le_add_right _ _

set_option maxRecDepth 100000 in
set_option maxHeartbeats 1600000 in
theorem szLoop_fn {x : Lp} {l : Int} (hl : 0 ≤ l ∧ l ≤ 1048576) (ho : okAs x.1 ∧ okAs x.2) : Fn Tryz.prog 147 [] [ad (rL x), nat1 l] (.o (nat1 (subZ l (szL x)))) [] := by
 have hsz : szL x = szAs x.1 + szAs x.2 := rfl
 have hb1 := subZ_bd (n := szAs x.1) hl
 obtain ⟨⟨o1, o2⟩, o3, o4⟩ := ho
 refine Fn.code0 Tryz.func147 rfl rfl rfl rfl ?_
 refine ACode.seq ?_
 refine ACode.region ?_
 refine .cons (St1.boxP rfl rfl rfl rfl rfl rfl) ?_
 refine .cons (.asg rfl rfl) ?_
 refine .nil ?_
 refine ks_n ?_
 refine ACode.seq ?_
 refine ACode.region ?_
 refine .cons (.fP 0 0 false rfl rfl) ?_
 refine .cons (.l1 1 rfl rfl) ?_
 refine .cons (.mv rfl rfl) ?_
 refine .cons (.cP [.tmp 6, .tmp 7] rfl rfl rfl rfl (szAffs_fn x.1 hl o1 o2) rfl) ?_
 refine .cons (.asg rfl rfl) ?_
 refine .nil ?_
 refine ks_n ?_
 refine ACode.seq ?_
 refine ACode.seq ?_
 refine ACode.region ?_
 refine .cons (.mv rfl rfl) ?_
 refine .cons (.ls rfl rfl rfl) ?_
 refine .nil ?_
 refine ks_n ?_
 refine .cD rfl (fun h10 => ?_) (fun h10 => ?_)
 ·skip
  refine ACode.seq ?_
  refine ACode.region ?_
  refine .cons (.asg rfl rfl) ?_
  refine .nil ?_
  refine ks_n ?_
  refine ACode.ret ?_
  refine ks_r ?_
  refine kf_ret rfl ?_ nobox
  exact leafI (subZ_no (by have := subZ_neg h10 hl.1; omega)).symm
 ·skip
  refine ACode.skip ?_
  refine ks_n ?_
  refine ACode.seq ?_
  have hp1 := subZ_pos h10
  have hb2 := subZ_bd (n := szAs x.2) (l := subZ l (szAs x.1)) (by omega)
  have e1 := subZ_yes hp1
  refine ACode.region ?_
  refine .cons (.fP 1 0 false rfl rfl) ?_
  refine .cons (.l1 1 rfl rfl) ?_
  refine .cons (.mv rfl rfl) ?_
  refine .cons (.cP [.tmp 12, .tmp 13] rfl rfl rfl rfl (szAffs_fn x.2 (l := subZ l (szAs x.1)) (by omega) o3 o4) rfl) ?_
  refine .cons (.asg rfl rfl) ?_
  refine .nil ?_
  refine ks_n ?_
  refine ACode.seq ?_
  refine ACode.seq ?_
  refine ACode.region ?_
  refine .cons (.mv rfl rfl) ?_
  refine .cons (.ls rfl rfl rfl) ?_
  refine .nil ?_
  refine ks_n ?_
  refine .cD rfl (fun h16 => ?_) (fun h16 => ?_)
  ·skip
   refine ACode.seq ?_
   refine ACode.region ?_
   refine .cons (.asg rfl rfl) ?_
   refine .nil ?_
   refine ks_n ?_
   refine ACode.ret ?_
   refine ks_r ?_
   refine kf_ret rfl ?_ nobox
   exact leafI (subZ_no (by have h6 := subZ_neg h16 (by omega); omega)).symm
  ·skip
   refine ACode.skip ?_
   refine ks_n ?_
   refine ACode.seq ?_
   refine ACode.region ?_
   refine .cons (.mv rfl rfl) ?_
   refine .cons (.asg rfl rfl) ?_
   refine .nil ?_
   refine ks_n ?_
   refine ACode.ret ?_
   refine kf_ret rfl ?_ nobox
   exact leafI (by have h6 := subZ_pos h16; rw [subZ_yes h6, e1, subZ_yes (l := l) (n := szL x) (by omega)]; omega)

set_option maxRecDepth 100000 in
set_option maxHeartbeats 1600000 in
theorem szLoops_fn (xs : List Lp) {l : Int} (hl : 0 ≤ l ∧ l ≤ 1048576) (hx : xs.length ≤ 17592186044416) (hq : ∀ x ∈ xs, okAs x.1 ∧ okAs x.2) : Fn Tryz.prog 108 [] [vD (dLs xs), nat1 l] (.o (nat1 (subZ l (szLs xs)))) [] := by
 refine Fn.code0 Tryz.func108 rfl rfl rfl rfl ?_
 refine ACode.seq ?_
 refine ACode.region ?_
 refine .cons (.asg rfl rfl) ?_
 refine .nil ?_
 refine ks_n ?_
 refine ACode.seq ?_
 refine ACode.region ?_
 refine .cons (.mv rfl rfl) ?_
 refine .cons (.mv rfl rfl) ?_
 refine .cons (.ln 183 2 48 rfl rfl rfl) ?_
 refine .cons (.sb rfl rfl rfl) ?_
 refine .cons (.asg rfl rfl) ?_
 refine .nil ?_
 refine ks_n ?_
 refine ACode.seq ?_
 refine ACode.seq ?_
 refine ACode.region ?_
 refine .cons (.mv rfl rfl) ?_
 refine .cons (.ls rfl rfl rfl) ?_
 refine .nil ?_
 refine ks_n ?_
 refine .cD rfl (fun h11 => ?_) (fun h11 => ?_)
 ·skip
  refine ACode.seq ?_
  refine ACode.region ?_
  refine .cons (.asg rfl rfl) ?_
  refine .nil ?_
  refine ks_n ?_
  refine ACode.ret ?_
  refine ks_r ?_
  refine kf_ret rfl ?_ nobox
  exact leafI (subZ_no (by rw [szLs]; omega)).symm
 ·skip
  refine ACode.skip ?_
  refine ks_n ?_
  refine ACode.seq ?_
  refine ACode.seq ?_
  refine ACode.region ?_
  refine .cons (.asg rfl rfl) ?_
  refine .nil ?_
  refine ks_n ?_
  refine ACode.block ?_
  refine .loopK (fun m σ => (∃ i : Nat, m = xs.length - i ∧ (i ≤ xs.length) ∧ (((xs.length + ((xs.take i).map szL).sum : Nat) : Int) ≤ l) ∧ σ = [(.t 0, .v (.o (vD (dLs xs)))), (.t 1, .v (.o (nat1 (l - (xs.length + ((xs.take i).map szL).sum : Nat))))), (.t 4, .v (.o (nat1 0))), (.t 5, .v (.o (nat1 (i : Nat))))])) [] ⟨0, rfl, by omega, by simp; omega, rfl⟩ ⟨ks rfl .dt, ks rfl (.dt (vI (by first | (simp; done) | (rw [hT, subZ_yes (by omega)]; omega)))), ks rfl .dt, ks rfl .dt, trivial⟩ ?_
  rintro m σ ⟨i, hm0, hi, hF, rfl⟩
  refine ACode.seq ?_
  refine ACode.seq ?_
  refine ACode.region ?_
  refine .cons (.mv rfl rfl) ?_
  refine .cons (.mv rfl rfl) ?_
  refine .cons (.ln 183 2 48 rfl rfl rfl) ?_
  refine .cons (.ls rfl rfl rfl) ?_
  refine .nil ?_
  refine ks_n ?_
  refine .cD rfl (fun h15 => ?_) (fun h15 => ?_)
  ·skip
   obtain ⟨x, hx1⟩ : ∃ x, xs[i]? = some x := ⟨_, List.getElem?_eq_getElem (by omega)⟩
   have hT := sum_take szL hx1
   refine ACode.skip ?_
   refine ks_n ?_
   refine ACode.seq ?_
   refine ACode.block ?_
   refine ACode.seq ?_
   refine ACode.region ?_
   refine .cons (.mv rfl rfl) ?_
   refine .cons (.mv rfl rfl) ?_
   refine .cons (.xL 183 2 48 rfl rfl rfl rfl rfl) ?_
   refine .cons (.lN 2 rfl rfl rfl) ?_
   refine .cons (.mv rfl rfl) ?_
   refine .cons (.cP [.tmp 21, .tmp 22] rfl rfl rfl rfl (szLoop_fn (l := l - (xs.length + ((xs.take i).map szL).sum : Nat)) (by omega) (hq x (List.mem_of_getElem? hx1))) rfl) ?_
   refine .cons (.asg rfl rfl) ?_
   refine .nil ?_
   refine ks_n ?_
   refine ACode.seq ?_
   refine ACode.region ?_
   refine .cons (.mv rfl rfl) ?_
   refine .cons (.ls rfl rfl rfl) ?_
   refine .nil ?_
   refine ks_n ?_
   refine .cD rfl (fun h25 => ?_) (fun h25 => ?_)
   ·skip
    refine ACode.seq ?_
    refine ACode.region ?_
    refine .cons (.asg rfl rfl) ?_
    refine .nil ?_
    refine ks_n ?_
    refine ACode.ret ?_
    refine kb_r ?_
    refine ks_r ?_
    refine kl_r ?_
    refine kb_r ?_
    refine ks_r ?_
    refine kf_ret rfl ?_ nobox
    exact leafI (subZ_no (by have h1 := subZ_neg h25 (by omega); have h2 := sum_take_le szL (l := xs) (i := i + 1); rw [szLs]; omega)).symm
   ·skip
    have hP := subZ_pos h25
    refine ACode.skip ?_
    refine kb_n ?_
    refine ks_n ?_
    refine ACode.region ?_
    refine .cons (.mv rfl rfl) ?_
    refine .cons (.pl rfl rfl rfl) ?_
    refine .cons (.asg rfl rfl) ?_
    refine .nil ?_
    refine kl_k [] ⟨i + 1, rfl, by omega, by rw [hT]; have := subZ_pos h25; omega, rfl⟩ ⟨ks rfl .dt, ks rfl (.dt (vI (by first | (simp; done) | (rw [hT, subZ_yes (by omega)]; omega)))), ks rfl .dt, ks rfl .dt, trivial⟩
  ·skip
   have hall : xs.take i = xs := List.take_of_length_le (by omega)
   refine ACode.exit ?_
   refine ks_e ?_
   refine kl_e ?_
   refine kb_hit ?_
   refine ks_n ?_
   refine ACode.seq ?_
   refine ACode.region ?_
   refine .cons (.mv rfl rfl) ?_
   refine .cons (.asg rfl rfl) ?_
   refine .nil ?_
   refine ks_n ?_
   refine ACode.ret ?_
   refine kf_ret rfl ?_ nobox
   exact leafI (by rw [subZ_yes (by rw [szLs, ← hall]; rw [hall]; rw [hall] at hF; omega), szLs, hall])

set_option maxRecDepth 100000 in
set_option maxHeartbeats 1600000 in
theorem eqLoop_fn (x y : Lp) (h : szL x ≤ 1073741824) : Fn Tryz.prog 171 [] [ad (rL x), ad (rL y)] (.o (bo1 (decide (x = y)))) [] := by
 have hsz : szL x = szAs x.1 + szAs x.2 := rfl
 have h1 := szAs_len x.1
 have h2 := szAs_len x.2
 refine Fn.code0 Tryz.func171 rfl rfl rfl rfl ?_
 refine ACode.seq ?_
 refine ACode.region ?_
 refine .cons (St1.boxP rfl rfl rfl rfl rfl rfl) ?_
 refine .cons (St1.boxP rfl rfl rfl rfl rfl rfl) ?_
 refine .cons (.asg rfl rfl) ?_
 refine .nil ?_
 refine ks_n ?_
 refine ACode.seq ?_
 refine ACode.seq ?_
 refine ACode.region ?_
 refine .cons (.fP 0 0 false rfl rfl) ?_
 refine .cons (.l1 1 rfl rfl) ?_
 refine .cons (.fP 0 0 false rfl rfl) ?_
 refine .cons (.l1 1 rfl rfl) ?_
 refine .cons (.cP [.tmp 6, .tmp 8] rfl rfl rfl rfl (eqAffs_fn _ _ (by omega) (fun a ha => by have := szAs_mem ha; omega)) rfl) ?_
 refine .cons (.nt rfl rfl) ?_
 refine .nil ?_
 refine ks_n ?_
 refine ACode.condT rfl (fun h10 => ?_) (fun h10 => ?_)
 ·try simp only [zs1, zs2, zs3, zs4, zs5, zs6, zs7] at h10
  refine ACode.seq ?_
  refine ACode.region ?_
  refine .cons (.asg rfl rfl) ?_
  refine .nil ?_
  refine ks_n ?_
  refine ACode.ret ?_
  refine ks_r ?_
  refine kf_ret rfl ?_ nobox
  exact leafB (by rw [Bool.eq_iff_iff]; simp [Prod.ext_iff, *])
 ·try simp only [zs1, zs2, zs3, zs4, zs5, zs6, zs7] at h10
  refine ACode.skip ?_
  refine ks_n ?_
  refine ACode.seq ?_
  refine ACode.seq ?_
  refine ACode.region ?_
  refine .cons (.fP 1 0 false rfl rfl) ?_
  refine .cons (.l1 1 rfl rfl) ?_
  refine .cons (.fP 1 0 false rfl rfl) ?_
  refine .cons (.l1 1 rfl rfl) ?_
  refine .cons (.cP [.tmp 12, .tmp 14] rfl rfl rfl rfl (eqAffs_fn _ _ (by omega) (fun a ha => by have := szAs_mem ha; omega)) rfl) ?_
  refine .cons (.nt rfl rfl) ?_
  refine .nil ?_
  refine ks_n ?_
  refine ACode.condT rfl (fun h16 => ?_) (fun h16 => ?_)
  ·try simp only [zs1, zs2, zs3, zs4, zs5, zs6, zs7] at h16
   refine ACode.seq ?_
   refine ACode.region ?_
   refine .cons (.asg rfl rfl) ?_
   refine .nil ?_
   refine ks_n ?_
   refine ACode.ret ?_
   refine ks_r ?_
   refine kf_ret rfl ?_ nobox
   exact leafB (by rw [Bool.eq_iff_iff]; simp [Prod.ext_iff, *])
  ·try simp only [zs1, zs2, zs3, zs4, zs5, zs6, zs7] at h16
   refine ACode.skip ?_
   refine ks_n ?_
   refine ACode.seq ?_
   refine ACode.region ?_
   refine .cons (.asg rfl rfl) ?_
   refine .nil ?_
   refine ks_n ?_
   refine ACode.ret ?_
   refine kf_ret rfl ?_ nobox
   exact leafB (by rw [Bool.eq_iff_iff]; simp [Prod.ext_iff, *])

set_option maxRecDepth 100000 in
set_option maxHeartbeats 1600000 in
theorem eqLoops_f (xs ys : List Lp) (hx : xs.length ≤ 1099511627776) (hq : ∀ x ∈ xs, szL x ≤ 1073741824) : Fn Tryz.prog 127 [] [vD (dLs xs), vD (dLs ys)] (.o (bo1 (eqF (fun x y : Lp => decide (x = y)) xs ys))) [] := by
 refine Fn.code0 Tryz.func127 rfl rfl rfl rfl ?_
 refine ACode.seq ?_
 refine ACode.region ?_
 refine .cons (.asg rfl rfl) ?_
 refine .nil ?_
 refine ks_n ?_
 refine ACode.seq ?_
 refine ACode.seq ?_
 refine ACode.region ?_
 refine .cons (.mv rfl rfl) ?_
 refine .cons (.ln 167 2 48 rfl rfl rfl) ?_
 refine .cons (.mv rfl rfl) ?_
 refine .cons (.ln 167 2 48 rfl rfl rfl) ?_
 refine .cons (.ne rfl rfl rfl) ?_
 refine .nil ?_
 refine ks_n ?_
 refine .cND rfl (fun h10 => ?_) (fun h10 => ?_)
 ·skip
  refine ACode.seq ?_
  refine ACode.region ?_
  refine .cons (.asg rfl rfl) ?_
  refine .nil ?_
  refine ks_n ?_
  refine ACode.ret ?_
  refine ks_r ?_
  refine kf_ret rfl ?_ nobox
  exact leafB (eqF_len (by omega)).symm
 ·skip
  refine ACode.skip ?_
  refine ks_n ?_
  refine ACode.seq ?_
  refine ACode.seq ?_
  refine ACode.region ?_
  refine .cons (.asg rfl rfl) ?_
  refine .nil ?_
  refine ks_n ?_
  refine ACode.block ?_
  refine .loopK (fun m σ => (∃ i : Nat, m = xs.length - i ∧ (i ≤ xs.length) ∧ (eqF (fun x y : Lp => decide (x = y)) xs ys = eqF (fun x y : Lp => decide (x = y)) (xs.drop i) (ys.drop i)) ∧ σ = [(.t 0, .v (.o (vD (dLs xs)))), (.t 1, .v (.o (vD (dLs ys)))), (.t 4, .v (.o (bo1 false))), (.t 5, .v (.o (nat1 (i : Nat))))])) [] ⟨0, rfl, by omega, by simp, rfl⟩ ⟨ks rfl .dt, ks rfl .dt, ks rfl .dt, ks rfl .dt, trivial⟩ ?_
  rintro m σ ⟨i, hm0, hi, hF, rfl⟩
  refine ACode.seq ?_
  refine ACode.seq ?_
  refine ACode.region ?_
  refine .cons (.mv rfl rfl) ?_
  refine .cons (.mv rfl rfl) ?_
  refine .cons (.ln 167 2 48 rfl rfl rfl) ?_
  refine .cons (.ls rfl rfl rfl) ?_
  refine .nil ?_
  refine ks_n ?_
  refine .cD rfl (fun h14 => ?_) (fun h14 => ?_)
  ·skip
   obtain ⟨x, hx1⟩ : ∃ x, xs[i]? = some x := ⟨_, List.getElem?_eq_getElem (by omega)⟩
   obtain ⟨y, hy1⟩ : ∃ x, ys[i]? = some x := ⟨_, List.getElem?_eq_getElem (by omega)⟩
   refine ACode.skip ?_
   refine ks_n ?_
   refine ACode.seq ?_
   refine ACode.block ?_
   refine ACode.seq ?_
   refine ACode.drawK (by kernel_rfl) (by kernel_rfl) ?_
   refine .cons (.mv rfl rfl) ?_
   refine .cons (.mv rfl rfl) ?_
   refine .cons (.xL 167 2 48 rfl rfl rfl rfl rfl (map_at hx1)) ?_
   refine .cons (.lN 2 rfl rfl rfl) ?_
   refine .cons (.mv rfl rfl) ?_
   refine .cons (.mv rfl rfl) ?_
   refine .cons (.xL 167 2 48 rfl rfl rfl rfl rfl (map_at hy1)) ?_
   refine .cons (.lN 2 rfl rfl rfl) ?_
   refine .cons (.cP [.tmp 20, .tmp 24] rfl rfl rfl rfl (eqLoop_fn x y (hq x (List.mem_of_getElem? hx1))) rfl) ?_
   refine .cons (.nt rfl rfl) ?_
   refine .nil ⟨by kernel_rfl, ?_⟩
   refine ks_n ?_
   refine ACode.condT rfl (fun h26 => ?_) (fun h26 => ?_)
   ·try simp only [zs1, zs2, zs3, zs4, zs5, zs6, zs7] at h26
    have g : decide (x = y) = false := by first | assumption | exact decide_eq_false (by assumption) | (simp; omega)
    refine ACode.seq ?_
    refine ACode.region ?_
    refine .cons (.asg rfl rfl) ?_
    refine .nil ?_
    refine ks_n ?_
    refine ACode.ret ?_
    refine kb_r ?_
    refine ks_r ?_
    refine kl_r ?_
    refine kb_r ?_
    refine ks_r ?_
    refine kf_ret rfl ?_ nobox
    exact leafB (by rw [hF, eqF_drop hx1 hy1, g]; rfl)
   ·try simp only [zs1, zs2, zs3, zs4, zs5, zs6, zs7] at h26
    have g : decide (x = y) = true := by first | assumption | exact decide_eq_true (by assumption) | (simp; omega)
    refine ACode.skip ?_
    refine kb_n ?_
    refine ks_n ?_
    refine ACode.region ?_
    refine .cons (.mv rfl rfl) ?_
    refine .cons (.pl rfl rfl rfl) ?_
    refine .cons (.asg rfl rfl) ?_
    refine .nil ?_
    refine kl_k [] ⟨i + 1, rfl, by omega, by rw [hF, eqF_drop hx1 hy1, g, Bool.true_and], rfl⟩ ⟨ks rfl .dt, ks rfl .dt, ks rfl .dt, ks rfl .dt, trivial⟩
  ·skip
   refine ACode.exit ?_
   refine ks_e ?_
   refine kl_e ?_
   refine kb_hit ?_
   refine ks_n ?_
   refine ACode.seq ?_
   refine ACode.region ?_
   refine .cons (.asg rfl rfl) ?_
   refine .nil ?_
   refine ks_n ?_
   refine ACode.ret ?_
   refine kf_ret rfl ?_ nobox
   exact leafB (by rw [hF, show i = xs.length by omega, eqF_end (by omega)])

theorem eqLoops_fn (xs ys : List Lp) (h : szLs xs ≤ 1073741824) : Fn Tryz.prog 127 [] [vD (dLs xs), vD (dLs ys)] (.o (bo1 (decide (xs = ys)))) [] := by
  have hl := szLs_len xs
  rw [← eqF_dec]; exact eqLoops_f xs ys (by omega) fun x hx => by have := szLs_mem hx; omega
end Go.Proofs.YtongpceopgkhnaaGreat
