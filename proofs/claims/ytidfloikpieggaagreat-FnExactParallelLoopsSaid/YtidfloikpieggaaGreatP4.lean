/- Part 4 of 6 of the proof: laws on memory and data, then what the functions compute, in the order in which they build on each other; conditions: those that each theorem names. -/
import Derived.Laws.MakeOwn
import Derived.Test.YtidfloikpieggaaGreatP3
set_option maxRecDepth 100000
set_option maxHeartbeats 1600000

namespace Go.Proofs.YtidfloikpieggaaGreat
set_option linter.unusedVariables false
set_option linter.unusedSimpArgs false
open Go.RowKit
/-- A box with one number, handed to a function. -/
def hbI (c : Int) : St := [(.b 0, .b 3 1 (dR [rI c])), (.u 0, .u)]
theorem hbI_HB (c : Int) : HB (hbI c) := HB.nil.data
theorem hbI_flat (c : Int) : flatS (hbI c) := flatS.nil.cons rfl
theorem hbI_num (c d : Int) : ∀ k, k < 100 → Al (lk (hbI d)) k → Al (lk (hbI c)) k := fun k _ ⟨e, sz, rows, h⟩ => by
  by_cases hk : k = 0
  · subst hk; exact ⟨_, _, _, rfl⟩
  · rw [hbI, lk_other _ _ _ _ (by simpa using fun e => hk e.symm), lk_other _ _ _ _ (by simp)] at h; cases h
theorem hbI_box {σ : St} {c : Int} (h : lk σ (.b 0) = .b 3 1 (dR [rI c])) : ∀ k e sz rows, lk (hbI c) (.b k) = .b e sz rows → lk σ (.b k) = .b e sz rows := one_box h

theorem acc_len {d : Nat} {xs : List Aff} (h : inB (xs.length : Nat) 1 2 = false) : false = sideV d xs := by
  rw [Bool.eq_iff_iff]
  simp only [inB, Bool.and_eq_false_iff, decide_eq_false_iff_not, sideV, Bool.and_eq_true, decide_eq_true_eq, Bool.false_eq_true, false_iff] at h ⊢
  omega
theorem acc_any {d : Nat} {xs : List Aff} (h : inB (xs.length : Nat) 1 2 = true) : (!xs.any fun x => !bndV d x) = sideV d xs := by
  simp only [inB, Bool.and_eq_true, decide_eq_true_eq] at h
  rw [nany, sideV, decide_eq_true (show 1 ≤ xs.length by omega), decide_eq_true (show xs.length ≤ 2 by omega), Bool.and_true, Bool.and_true]

theorem implNoA_fn (x : Aff) : Fn Tryz.prog 192 [] [ad (rA x)] (.o (bo1 (nonA x))) [] := by
  refine Fn.code0 Tryz.func192 rfl rfl rfl rfl ?_
  refine .seq <| .region <| .cons (St1.boxP rfl rfl rfl rfl rfl rfl) <| .cons (.asg rfl rfl) <| .nil <| ks_n <| .seq <| .region <| .cons (.fP 0 0 false rfl rfl) <| .cons (.l1 1 rfl rfl) <| .cons (.ln 3 1 8 rfl rfl rfl) <| .cons (.eq rfl rfl rfl) <| .cons (.mv rfl rfl) ?_
  refine .cD 7 rfl (fun g7 => ?_) (fun g7 => ?_)
  · skip
    refine .cons (.gT rfl rfl rfl (.fP 1 0 false rfl rfl)) <| .cons (.gT rfl rfl rfl (.l1 1 rfl rfl)) <| .cons (.gT rfl rfl rfl (.eq rfl rfl rfl)) <| .cons (.pT rfl rfl rfl) <| .cons (.asg rfl rfl) <| .nil <| ks_n <| .ret ?_
    refine kf_ret rfl ?_ nobox
    exact leafB (by rw [nonA]; first | rfl | grind)
  · skip
    refine .cons (.gF rfl rfl rfl) <| .cons (.gF rfl rfl rfl) <| .cons (.gF rfl rfl rfl) <| .cons (.pF rfl rfl rfl) <| .cons (.asg rfl rfl) <| .nil <| ks_n <| .ret ?_
    refine kf_ret rfl ?_ nobox
    exact leafB (by rw [nonA]; first | rfl | grind)

theorem l3None_fn (x : Aff) : Fn Tryz.prog 245 [] [ad (rA x)] (.o (bo1 (nonA x))) [] := by
  refine Fn.code0 Tryz.func245 rfl rfl rfl rfl ?_
  refine .seq <| .region <| .cons (St1.boxP rfl rfl rfl rfl rfl rfl) <| .cons (.asg rfl rfl) <| .nil <| ks_n <| .seq <| .region <| .cons (.fP 0 0 false rfl rfl) <| .cons (.l1 1 rfl rfl) <| .cons (.ln 3 1 8 rfl rfl rfl) <| .cons (.eq rfl rfl rfl) <| .cons (.mv rfl rfl) ?_
  refine .cD 7 rfl (fun g7 => ?_) (fun g7 => ?_)
  · skip
    refine .cons (.gT rfl rfl rfl (.fP 1 0 false rfl rfl)) <| .cons (.gT rfl rfl rfl (.l1 1 rfl rfl)) <| .cons (.gT rfl rfl rfl (.eq rfl rfl rfl)) <| .cons (.pT rfl rfl rfl) <| .cons (.asg rfl rfl) <| .nil <| ks_n <| .ret ?_
    refine kf_ret rfl ?_ nobox
    exact leafB (by rw [nonA]; first | rfl | grind)
  · skip
    refine .cons (.gF rfl rfl rfl) <| .cons (.gF rfl rfl rfl) <| .cons (.gF rfl rfl rfl) <| .cons (.pF rfl rfl rfl) <| .cons (.asg rfl rfl) <| .nil <| ks_n <| .ret ?_
    refine kf_ret rfl ?_ nobox
    exact leafB (by rw [nonA]; first | rfl | grind)

theorem implNoC_fn (a : Acc) : Fn Tryz.prog 193 [] [ad (rC a)] (.o (bo1 (nonC a))) [] := by
  refine Fn.code0 Tryz.func193 rfl rfl rfl rfl ?_
  refine .seq <| .region <| .cons (St1.boxP rfl rfl rfl rfl rfl rfl) <| .cons (.asg rfl rfl) <| .nil <| ks_n <| .seq <| .region <| .cons (.fP 0 0 false rfl rfl) <| .cons (.l1 1 rfl rfl) <| .cons (St1.eqS rfl rfl rfl) <| .cons (.mv rfl rfl) ?_
  refine AOps.cases 6 _ rfl (fun g6 => ?_) (fun g6 => ?_)
  · try simp only [zs1, zs2, zs3, zs4, zs5, zs6, zs7] at g6
    have g := g6
    refine .cons (.gT rfl rfl rfl (.fP 1 0 false rfl rfl)) <| .cons (.gT rfl rfl rfl (.l1 1 rfl rfl)) <| .cons (.gT rfl rfl rfl (.ln 91 2 32 rfl rfl rfl)) <| .cons (.gT rfl rfl rfl (.eq rfl rfl rfl)) <| .cons (.pT rfl rfl rfl) <| .cons (.asg rfl rfl) <| .nil <| ks_n <| .ret ?_
    refine kf_ret rfl ?_ nobox
    exact leafB (by rw [nonC, show sEq a.1 ByteArray.empty = _ from g]; first | rfl | (rw [Bool.eq_iff_iff]; simp only [Bool.and_eq_true, Bool.or_eq_true, Bool.not_eq_true', Bool.and_eq_false_iff, Bool.or_eq_false_iff, decide_eq_true_eq, decide_eq_false_iff_not, Bool.false_eq_true, Bool.true_eq_false, false_iff, true_iff, iff_false, iff_true, false_and, and_false, true_and, and_true, not_false_eq_true, not_true_eq_false, ne_eq]; omega))
  · try simp only [zs1, zs2, zs3, zs4, zs5, zs6, zs7] at g6
    have g := g6
    refine .cons (.gF rfl rfl rfl) <| .cons (.gF rfl rfl rfl) <| .cons (.gF rfl rfl rfl) <| .cons (.gF rfl rfl rfl) <| .cons (.pF rfl rfl rfl) <| .cons (.asg rfl rfl) <| .nil <| ks_n <| .ret ?_
    refine kf_ret rfl ?_ nobox
    exact leafB (by rw [nonC, show sEq a.1 ByteArray.empty = _ from g]; first | rfl | (rw [Bool.eq_iff_iff]; simp only [Bool.and_eq_true, Bool.or_eq_true, Bool.not_eq_true', Bool.and_eq_false_iff, Bool.or_eq_false_iff, decide_eq_true_eq, decide_eq_false_iff_not, Bool.false_eq_true, Bool.true_eq_false, false_iff, true_iff, iff_false, iff_true, false_and, and_false, true_and, and_true, not_false_eq_true, not_true_eq_false, ne_eq]; omega))

theorem l3Empty_fn (a : Acc) : Fn Tryz.prog 244 [] [ad (rC a)] (.o (bo1 (nonC a))) [] := by
  refine Fn.code0 Tryz.func244 rfl rfl rfl rfl ?_
  refine .seq <| .region <| .cons (St1.boxP rfl rfl rfl rfl rfl rfl) <| .cons (.asg rfl rfl) <| .nil <| ks_n <| .seq <| .region <| .cons (.fP 0 0 false rfl rfl) <| .cons (.l1 1 rfl rfl) <| .cons (St1.eqS rfl rfl rfl) <| .cons (.mv rfl rfl) ?_
  refine AOps.cases 6 _ rfl (fun g6 => ?_) (fun g6 => ?_)
  · try simp only [zs1, zs2, zs3, zs4, zs5, zs6, zs7] at g6
    have g := g6
    refine .cons (.gT rfl rfl rfl (.fP 1 0 false rfl rfl)) <| .cons (.gT rfl rfl rfl (.l1 1 rfl rfl)) <| .cons (.gT rfl rfl rfl (.ln 91 2 32 rfl rfl rfl)) <| .cons (.gT rfl rfl rfl (.eq rfl rfl rfl)) <| .cons (.pT rfl rfl rfl) <| .cons (.asg rfl rfl) <| .nil <| ks_n <| .ret ?_
    refine kf_ret rfl ?_ nobox
    exact leafB (by rw [nonC, show sEq a.1 ByteArray.empty = _ from g]; first | rfl | (rw [Bool.eq_iff_iff]; simp only [Bool.and_eq_true, Bool.or_eq_true, Bool.not_eq_true', Bool.and_eq_false_iff, Bool.or_eq_false_iff, decide_eq_true_eq, decide_eq_false_iff_not, Bool.false_eq_true, Bool.true_eq_false, false_iff, true_iff, iff_false, iff_true, false_and, and_false, true_and, and_true, not_false_eq_true, not_true_eq_false, ne_eq]; omega))
  · try simp only [zs1, zs2, zs3, zs4, zs5, zs6, zs7] at g6
    have g := g6
    refine .cons (.gF rfl rfl rfl) <| .cons (.gF rfl rfl rfl) <| .cons (.gF rfl rfl rfl) <| .cons (.gF rfl rfl rfl) <| .cons (.pF rfl rfl rfl) <| .cons (.asg rfl rfl) <| .nil <| ks_n <| .ret ?_
    refine kf_ret rfl ?_ nobox
    exact leafB (by rw [nonC, show sEq a.1 ByteArray.empty = _ from g]; first | rfl | (rw [Bool.eq_iff_iff]; simp only [Bool.and_eq_true, Bool.or_eq_true, Bool.not_eq_true', Bool.and_eq_false_iff, Bool.or_eq_false_iff, decide_eq_true_eq, decide_eq_false_iff_not, Bool.false_eq_true, Bool.true_eq_false, false_iff, true_iff, iff_false, iff_true, false_and, and_false, true_and, and_true, not_false_eq_true, not_true_eq_false, ne_eq]; omega))

theorem isArray_fn (s : ByteArray) : Fn Tryz.prog 142 [] [st1 s] (.o (bo1 (arrV s))) [] := by
  refine Fn.code0 Tryz.func142 rfl rfl rfl rfl ?_
  refine .seq <| .region <| .cons (.asg rfl rfl) <| .nil <| ks_n <| .seq <| .region <| .cons (.mv rfl rfl) <| .cons (St1.lenS rfl rfl rfl rfl rfl (by kernel_rfl) rfl) ?_
  refine .cons (.eq rfl rfl rfl) <| .cons (.mv rfl rfl) ?_
  refine .cD 6 rfl (fun g6 => ?_) (fun g6 => ?_)
  · skip
    refine .cons (.gT rfl rfl rfl (.mv rfl rfl)) <| .cons (.gT rfl rfl rfl (.cP [.const (.string ⟨#[65, 66, 67, 68]⟩), .tmp 7] rfl rfl rfl rfl (contains1_fn s (by omega)) rfl)) ?_
    refine .cons (.pT rfl rfl rfl) <| .cons (.asg rfl rfl) <| .nil <| ks_n <| .ret ?_
    refine kf_ret rfl ?_ nobox
    first | rfl | exact leafB (arrV_size (by omega)).symm
  · skip
    refine .cons (.gF rfl rfl rfl) <| .cons (.gF rfl rfl rfl) <| .cons (.pF rfl rfl rfl) <| .cons (.asg rfl rfl) <| .nil <| ks_n <| .ret ?_
    refine kf_ret rfl ?_ nobox
    first | rfl | exact leafB (arrV_size (by omega)).symm

theorem isOp_fn (k : Int) : Fn Tryz.prog 194 [] [nat1 k] (.o (bo1 (inB k 4 6))) [] := by
  refine Fn.code0 Tryz.func194 rfl rfl rfl rfl ?_
  refine .seq <| .region <| .cons (.asg rfl rfl) <| .nil <| ks_n <| .seq <| .region <| .cons (.mv rfl rfl) <| .cons (.cP [.tmp 3, .const (.int .i64 (4)), .const (.int .i64 (6))] rfl rfl rfl rfl (within_fn _ 4 6) rfl) ?_
  refine .cons (.asg rfl rfl) <| .nil <| ks_n <| .ret ?_
  refine kf_ret rfl ?_ nobox
  rfl

theorem accOk1_fn (d : Nat) (x : Aff) : Fn Tryz.prog 189 [] [ad (rA x), .c (.ptr [dI (d : Nat)])] (.o (bo1 (!bndV d x))) [] := by
 refine Fn.code0 Tryz.func189 rfl rfl rfl rfl ?_
 refine .seq <| .region <| .cons (St1.boxP rfl rfl rfl rfl rfl rfl) <| .cons (.asg rfl rfl) <| .nil <| ks_n <| .seq ?_
 refine ACode.drawK (by kernel_rfl) (by kernel_rfl) ?_
 refine .cons (.lN 2 rfl rfl rfl) <| .cons (.cP [.tmp 4] rfl rfl rfl rfl (implAffV_fn x) rfl) ?_
 refine .cons (.nt rfl rfl) <| .cons (.mv rfl rfl) ?_
 refine RunK.cases 7 _ rfl (fun g7 => ?_) (fun g7 => ?_)
 ·try simp only [zs1, zs2, zs3, zs4, zs5, zs6, zs7] at g7
  refine .cons (.gF rfl rfl rfl) <| .cons (.gF rfl rfl rfl) <| .cons (.gF rfl rfl rfl) <| .cons (.gF rfl rfl rfl) <| .cons (.pT rfl rfl rfl) <| .cons (.asg rfl rfl) ?_
  refine .nil ⟨by kernel_rfl, ?_⟩
  refine ks_n <| .ret ?_
  refine kf_ret rfl ?_ nobox
  first | exact leafB (by rw [bnd_no (.inl (by simpa using g7))]; rfl) | exact leafB (by rw [bndV, show affV x = true by simpa using g7, Bool.true_and, Bool.eq_iff_iff]; simp)
 ·try simp only [zs1, zs2, zs3, zs4, zs5, zs6, zs7] at g7
  refine .cons (.gT rfl rfl rfl (.lN 2 rfl rfl rfl)) <| .cons (.gT rfl rfl rfl (.cP [.tmp 8] rfl rfl rfl rfl (depth_fn x) rfl)) ?_
  refine .cons (.gT rfl rfl rfl (.l1 1 rfl rfl)) <| .cons (.gT rfl rfl rfl (.gt rfl rfl rfl)) <| .cons (.pF rfl rfl rfl) <| .cons (.asg rfl rfl) ?_
  refine .nil ⟨by kernel_rfl, ?_⟩
  refine ks_n <| .ret ?_
  refine kf_ret rfl ?_ nobox
  first | exact leafB (by rw [bnd_no (.inl (by simpa using g7))]; rfl) | exact leafB (by rw [bndV, show affV x = true by simpa using g7, Bool.true_and, Bool.eq_iff_iff]; simp)

theorem accOk_fn (d : Nat) (a : Acc) (ha : a.2.length ≤ 1099511627776) : Fn Tryz.prog 148 [] [ad (rC a), nat1 (d : Nat)] (.o (bo1 (accV d a))) [] := by
  refine Fn.code0 Tryz.func148 rfl rfl rfl rfl ?_
  refine .seq <| .region <| .cons (St1.boxP rfl rfl rfl rfl rfl rfl) <| .cons (St1.boxP rfl rfl rfl rfl rfl rfl) <| .cons (.asg rfl rfl) <| .nil <| ks_n <| .seq <| .region <| .cons (.fP 0 0 false rfl rfl) <| .cons (.l1 1 rfl rfl) <| .cons (.cP [.tmp 6] rfl rfl rfl rfl (isArray_fn _) rfl) ?_
  refine .cons (.mv rfl rfl) ?_
  refine AOps.cases 8 _ rfl (fun g8 => ?_) (fun g8 => ?_)
  · try simp only [zs1, zs2, zs3, zs4, zs5, zs6, zs7] at g8
    refine .cons (.gT rfl rfl rfl (.fP 1 0 false rfl rfl)) <| .cons (.gT rfl rfl rfl (.l1 1 rfl rfl)) <| .cons (.gT rfl rfl rfl (.ln 91 2 32 rfl rfl rfl)) <| .cons (.gT rfl rfl rfl (.cP [.tmp 11, .const (.int .i64 (1)), .const (.int .i64 (2))] rfl rfl rfl rfl (within_fn _ 1 2) rfl)) ?_
    refine .cons (.pT rfl rfl rfl) <| .cons (.mv rfl rfl) ?_
    refine AOps.cases 14 _ rfl (fun g14 => ?_) (fun g14 => ?_)
    · try simp only [zs1, zs2, zs3, zs4, zs5, zs6, zs7] at g14
      refine .cons (.gT rfl rfl rfl (.fP 1 0 false rfl rfl)) <| .cons (.gT rfl rfl rfl (.l1 1 rfl rfl)) <| .cons (.gT rfl rfl rfl (St1.makeFunc (xs := [.tmp 3]) rfl rfl rfl rfl rfl rfl rfl)) <| .cons (.gT rfl rfl rfl (.cP [.tmp 16, .tmp 17] rfl rfl rfl rfl (cnt_aff (f := 189) (cap := [[dI (d : Nat)]]) (by kernel_rfl) (fun x => !bndV d x) a.2 ha (fun x _ => accOk1_fn d x)) rfl)) ?_
      refine .cons (.gT rfl rfl rfl (.nt rfl rfl)) <| .cons (.pT rfl rfl rfl) <| .cons (.asg rfl rfl) <| .nil <| ks_n <| .ret ?_
      refine kf_ret rfl ?_ nobox
      first | exact leafB (by rw [accV, g8]; rfl) | exact leafB (by rw [accV, g8, Bool.true_and]; exact acc_len g14) | exact leafB (by rw [accV, g8, Bool.true_and]; exact acc_any g14)
    · try simp only [zs1, zs2, zs3, zs4, zs5, zs6, zs7] at g14
      refine .cons (.gF rfl rfl rfl) <| .cons (.gF rfl rfl rfl) <| .cons (.gF rfl rfl rfl) <| .cons (.gF rfl rfl rfl) <| .cons (.gF rfl rfl rfl) <| .cons (.pF rfl rfl rfl) <| .cons (.asg rfl rfl) <| .nil <| ks_n <| .ret ?_
      refine kf_ret rfl ?_ nobox
      first | exact leafB (by rw [accV, g8]; rfl) | exact leafB (by rw [accV, g8, Bool.true_and]; exact acc_len g14) | exact leafB (by rw [accV, g8, Bool.true_and]; exact acc_any g14)
  · try simp only [zs1, zs2, zs3, zs4, zs5, zs6, zs7] at g8
    refine .cons (.gF rfl rfl rfl) <| .cons (.gF rfl rfl rfl) <| .cons (.gF rfl rfl rfl) <| .cons (.gF rfl rfl rfl) <| .cons (.pF rfl rfl rfl) <| .cons (.mv rfl rfl) <| .cons (.gF rfl rfl rfl) <| .cons (.gF rfl rfl rfl) <| .cons (.gF rfl rfl rfl) <| .cons (.gF rfl rfl rfl) <| .cons (.gF rfl rfl rfl) <| .cons (.pF rfl rfl rfl) <| .cons (.asg rfl rfl) <| .nil <| ks_n <| .ret ?_
    refine kf_ret rfl ?_ nobox
    first | exact leafB (by rw [accV, g8]; rfl) | exact leafB (by rw [accV, g8, Bool.true_and]; exact acc_len g14) | exact leafB (by rw [accV, g8, Bool.true_and]; exact acc_any g14)
/-- What the program asks of the fields that a kind does not use. -/
def hdV (e : Ex) : Bool := (decide (e.k = 1) || decide (e.n = 0)) && (decide (e.k = 2) || nonA e.i) && (decide (e.k = 3) || nonC e.r)
theorem scan_z (d c : Nat) (e : Ex) : scanV d 0 c e = (false, c + 1) := rfl
theorem scan_many {d L c : Nat} {e : Ex} (h : 12 < c + 1) : scanV d (L + 1) c e = (false, c + 1) := by rw [scanV, if_pos h]
theorem scan_hd {d L c : Nat} {e : Ex} (h : hdV e = false) : scanV d (L + 1) c e = (false, c + 1) := by
  rw [scanV]
  split
  · rfl
  · rw [if_neg]
    intro h2
    have h3 := (Bool.and_eq_true_iff.1 h2).2
    unfold fldV at h3
    unfold hdV at h
    cases hA : nonA e.i <;> cases hC : nonC e.r <;> simp only [hA, hC] at h h3 <;> (split at h3 <;> first | (split at h3 <;> first | (split at h3 <;> simp_all; done) | (simp_all; done)) | (simp_all; done))
theorem hd_rest {e : Ex} (h : hdV e = true) : (e.k = 1 ∨ e.n = 0) ∧ (e.k = 2 ∨ nonA e.i = true) ∧ (e.k = 3 ∨ nonC e.r = true) := by
  simp only [hdV, Bool.and_eq_true, Bool.or_eq_true, decide_eq_true_eq] at h
  exact ⟨h.1.1, h.1.2, h.2⟩
theorem scan_leaf {d L c : Nat} {e : Ex} (hk : 1 ≤ e.k ∧ e.k ≤ 3) (hc : ¬ 12 < c + 1) : scanV d (L + 1) c e = (decide (e.ks.length = 0) && fldV d e.k e.n e.i e.r, c + 1) := by
  rw [scanV, if_neg hc, kidV, if_pos hk]
  split
  · rename_i h
    rw [h]
    have := of_decide_eq_true (Bool.and_eq_true_iff.1 h).1
    rw [List.eq_nil_of_length_eq_zero this]; rfl
  · rename_i h
    rw [Bool.eq_false_iff.2 h]
theorem scan1 {d L c : Nat} {e : Ex} (hk : e.k = 1) (hh : hdV e = true) (hc : ¬ 12 < c + 1) : scanV d (L + 1) c e = (inB e.n 0 99 && decide (e.ks.length = 0), c + 1) := by
  obtain ⟨h1, h2, h3⟩ := hd_rest hh
  rw [scan_leaf (by omega) hc, fldV, if_pos hk, h2.resolve_left (by omega), h3.resolve_left (by omega), Bool.and_true, Bool.and_true, Bool.and_comm]
theorem scan2 {d L c : Nat} {e : Ex} (hk : e.k = 2) (hh : hdV e = true) (hc : ¬ 12 < c + 1) : scanV d (L + 1) c e = (affV e.i && decide (affDepth e.i ≤ d) && decide (e.ks.length = 0), c + 1) := by
  obtain ⟨h1, h2, h3⟩ := hd_rest hh
  rw [scan_leaf (by omega) hc, fldV, if_neg (by omega), if_pos hk, h3.resolve_left (by omega), decide_eq_true (h1.resolve_left (by omega)), Bool.and_true, Bool.true_and, Bool.and_comm]
theorem scan3 {d L c : Nat} {e : Ex} (hk : e.k = 3) (hh : hdV e = true) (hc : ¬ 12 < c + 1) : scanV d (L + 1) c e = (accV d e.r && decide (e.ks.length = 0), c + 1) := by
  obtain ⟨h1, h2, h3⟩ := hd_rest hh
  rw [scan_leaf (by omega) hc, fldV, if_neg (by omega), if_neg (by omega), if_pos hk, h2.resolve_left (by omega), decide_eq_true (h1.resolve_left (by omega)), Bool.and_true, Bool.true_and, Bool.and_comm]
theorem scan_bad {d L c : Nat} {e : Ex} (hk : ¬ e.k = 1 ∧ ¬ e.k = 2 ∧ ¬ e.k = 3) (hb : inB e.k 4 6 = false ∨ ¬ e.ks.length = 2) : scanV d (L + 1) c e = (false, c + 1) := by
  rw [scanV]
  split
  · rfl
  · rw [if_neg]
    intro h2
    have h3 := (Bool.and_eq_true_iff.1 h2).1
    unfold kidV at h3
    rw [if_neg (by omega)] at h3
    split at h3
    · rename_i h4
      have h5 := of_decide_eq_true h3
      rcases hb with h | h
      · rw [inB, decide_eq_true h4] at h; cases h
      · exact h h5
    · cases h3
theorem scan_op {d L c : Nat} {e : Ex} {x y : Ex} (hk : inB e.k 4 6 = true) (hh : hdV e = true) (hc : ¬ 12 < c + 1) (hks : e.ks = [x, y]) : scanV d (L + 1) c e = if (scanV d L (c + 1) x).1 = true then scanV d L (scanV d L (c + 1) x).2 y else (false, (scanV d L (c + 1) x).2) := by
  obtain ⟨h1, h2, h3⟩ := hd_rest hh
  simp only [inB, Bool.and_eq_true, decide_eq_true_eq] at hk
  rw [scanV, if_neg hc, if_pos, hks, scanK]
  · split
    · rename_i h
      rw [scanK]
      split
      · rename_i h4; rw [scanK, ← h4]
      · rename_i h4; rw [← Bool.eq_false_iff.2 h4]
    · rfl
  · rw [kidV, if_neg (by omega), if_pos hk, hks, fldV, if_neg (by omega), if_neg (by omega), if_neg (by omega), h2.resolve_left (by omega), h3.resolve_left (by omega), decide_eq_true (h1.resolve_left (by omega))]; rfl
theorem two_of {α : Type} {l : List α} (h : l.length = 2) : ∃ x y, l = [x, y] := by
  match l, h with
  | [x, y], _ => exact ⟨x, y, rfl⟩

theorem scan_zero (d : Nat) {deep : Int} {c : Nat} {e : Ex} (hc : c ≤ 12) (hd8 : -100 ≤ deep ∧ deep ≤ 100) (hrl : e.r.2.length ≤ 1099511627776) (hd5 : 5 < deep) : Fn Tryz.prog 149 (hbI (c : Nat)) [ad (rX e), nat1 (d : Nat), nat1 deep, .c (.box 0 1 0 0)] (.o (bo1 (scanV d 0 c e).1)) (hbI ((scanV d 0 c e).2 : Nat)) := by
 refine Fn.of_code Tryz.func149 rfl rfl (hbI_HB _) rfl rfl (hbI_HB _) rfl (hbI_num _ _) ?_
 refine .seq <| .region <| .cons (St1.boxP rfl rfl rfl rfl rfl rfl) <| .cons (.asg rfl rfl) <| .nil <| ks_n <| .seq <| .region <| .cons (.mv rfl rfl) <| .cons (.nB rfl rfl rfl) <| .cons (.b1 1 rfl rfl rfl rfl rfl rfl) <| .cons (.pl rfl rfl rfl) <| .cons (.nB rfl rfl rfl) <| .cons (.sT 1 false rfl rfl rfl rfl rfl rfl rfl) <| .nil <| ks_n <| .seq <| .seq ?_
 refine ACode.cut [(.t 1, .v (.o (nat1 (d : Nat)))), (.t 2, .v (.o (nat1 deep))), (.t 3, .v (.o (.c (.box 0 1 0 0)))), (.t 4, .v (.o (.c (.ptr (rX e))))), (.t 8, .v (.o (bo1 false))), (.t 21, .v (.o (bo1 (decide (12 < c + 1 ∨ 5 < deep))))), (.b 0, .b 3 1 (dR ([rI ((c : Int) + 1)]))), (.u 0, .u)] ?_ ?_
 ·skip
  refine .region <| .cons (.mv rfl rfl) <| .cons (.nB rfl rfl rfl) <| .cons (.b1 1 rfl rfl rfl rfl rfl rfl) <| .cons (.gt rfl rfl rfl) <| .cons (.mv rfl rfl) ?_
  refine .cD 18 rfl (fun g18 => ?_) (fun g18 => ?_)
  ·skip
   refine .cons (.gF rfl rfl rfl) <| .cons (.gF rfl rfl rfl) <| .cons (.pT rfl rfl rfl) <| .nil ?_
   exact kc_n (Wk.keep [(0, 0)] rfl rfl ⟨ks rfl .dt, ks rfl .dt, ks rfl (.c .bx), ks rfl .dt, ks rfl .dt, ks rfl (.dt (vB (by first | rfl | grind))), kb 0 rfl (.dt rfl), trivial⟩)
  ·skip
   refine .cons (.gT rfl rfl rfl (.mv rfl rfl)) <| .cons (.gT rfl rfl rfl (.gt rfl rfl rfl)) <| .cons (.pF rfl rfl rfl) <| .nil ?_
   exact kc_n (Wk.keep [(0, 0)] rfl rfl ⟨ks rfl .dt, ks rfl .dt, ks rfl (.c .bx), ks rfl .dt, ks rfl .dt, ks rfl (.dt (vB (by first | rfl | grind))), kb 0 rfl (.dt rfl), trivial⟩)
 refine ks_n ?_
 refine ACode.condT rfl (fun h21 => ?_) (fun h21 => ?_)
 ·try simp only [zs1, zs2, zs3, zs4, zs5, zs6, zs7] at h21
  refine .seq ?_
  have hR := scan_z d c e
  refine .region <| .cons (.asg rfl rfl) <| .nil <| ks_n <| .ret <| ks_r ?_
  obtain ⟨r, hr⟩ : ∃ r, r = (scanV d 0 c e) := ⟨_, rfl⟩
  rw [← hr]
  rw [← hr] at hR
  refine kf_wret [(.t 3, .v (.o (.c (.box 0 1 0 0)))), (.t 8, .v (.o (bo1 r.1))), (.b 0, .b 3 1 (dR ([rI (r.2 : Nat)]))), (.u 0, .u)] (Wk.keep [(0, 0)] rfl rfl ⟨ks rfl (.c .bx), ks rfl (.dt (vB (by rw [hR] <;> first | rfl | grind))), kb 0 rfl (.dt rfl (by rw [hR] <;> rfl)), trivial⟩) rfl ?_ (hbI_box rfl)
  rfl
 ·try simp only [zs1, zs2, zs3, zs4, zs5, zs6, zs7] at h21
  exact absurd (Or.inr hd5) h21

theorem scan_succ (d : Nat) {deep : Int} {c : Nat} {e : Ex} (hc : c ≤ 12) (hd8 : -100 ≤ deep ∧ deep ≤ 100) (hrl : e.r.2.length ≤ 1099511627776) (hd5 : ¬ 5 < deep) {L : Nat} (ih : ∀ x ∈ e.ks, ∀ c : Nat, c ≤ 12 → Fn Tryz.prog 149 (hbI (c : Nat)) [ad (rX x), nat1 (d : Nat), nat1 (deep + 1), .c (.box 0 1 0 0)] (.o (bo1 (scanV d L c x).1)) (hbI ((scanV d L c x).2 : Nat))) : Fn Tryz.prog 149 (hbI (c : Nat)) [ad (rX e), nat1 (d : Nat), nat1 deep, .c (.box 0 1 0 0)] (.o (bo1 (scanV d (L + 1) c e).1)) (hbI ((scanV d (L + 1) c e).2 : Nat)) := by
 refine Fn.of_code Tryz.func149 rfl rfl (hbI_HB _) rfl rfl (hbI_HB _) rfl (hbI_num _ _) ?_
 refine .seq <| .region <| .cons (St1.boxP rfl rfl rfl rfl rfl rfl) <| .cons (.asg rfl rfl) <| .nil <| ks_n <| .seq <| .region <| .cons (.mv rfl rfl) <| .cons (.nB rfl rfl rfl) <| .cons (.b1 1 rfl rfl rfl rfl rfl rfl) <| .cons (.pl rfl rfl rfl) <| .cons (.nB rfl rfl rfl) <| .cons (.sT 1 false rfl rfl rfl rfl rfl rfl rfl) <| .nil <| ks_n <| .seq <| .seq ?_
 refine ACode.cut [(.t 1, .v (.o (nat1 (d : Nat)))), (.t 2, .v (.o (nat1 deep))), (.t 3, .v (.o (.c (.box 0 1 0 0)))), (.t 4, .v (.o (.c (.ptr (rX e))))), (.t 8, .v (.o (bo1 false))), (.t 21, .v (.o (bo1 (decide (12 < c + 1 ∨ 5 < deep))))), (.b 0, .b 3 1 (dR ([rI ((c : Int) + 1)]))), (.u 0, .u)] ?_ ?_
 ·skip
  refine .region <| .cons (.mv rfl rfl) <| .cons (.nB rfl rfl rfl) <| .cons (.b1 1 rfl rfl rfl rfl rfl rfl) <| .cons (.gt rfl rfl rfl) <| .cons (.mv rfl rfl) ?_
  refine .cD 18 rfl (fun g18 => ?_) (fun g18 => ?_)
  ·skip
   refine .cons (.gF rfl rfl rfl) <| .cons (.gF rfl rfl rfl) <| .cons (.pT rfl rfl rfl) <| .nil ?_
   exact kc_n (Wk.keep [(0, 0)] rfl rfl ⟨ks rfl .dt, ks rfl .dt, ks rfl (.c .bx), ks rfl .dt, ks rfl .dt, ks rfl (.dt (vB (by first | rfl | grind))), kb 0 rfl (.dt rfl), trivial⟩)
  ·skip
   refine .cons (.gT rfl rfl rfl (.mv rfl rfl)) <| .cons (.gT rfl rfl rfl (.gt rfl rfl rfl)) <| .cons (.pF rfl rfl rfl) <| .nil ?_
   exact kc_n (Wk.keep [(0, 0)] rfl rfl ⟨ks rfl .dt, ks rfl .dt, ks rfl (.c .bx), ks rfl .dt, ks rfl .dt, ks rfl (.dt (vB (by first | rfl | grind))), kb 0 rfl (.dt rfl), trivial⟩)
 refine ks_n ?_
 refine ACode.condT rfl (fun h21 => ?_) (fun h21 => ?_)
 ·try simp only [zs1, zs2, zs3, zs4, zs5, zs6, zs7] at h21
  refine .seq ?_
  have hR := scan_many (d := d) (L := L) (e := e) (show 12 < c + 1 by omega)
  refine .region <| .cons (.asg rfl rfl) <| .nil <| ks_n <| .ret <| ks_r ?_
  obtain ⟨r, hr⟩ : ∃ r, r = (scanV d (L + 1) c e) := ⟨_, rfl⟩
  rw [← hr]
  rw [← hr] at hR
  refine kf_wret [(.t 3, .v (.o (.c (.box 0 1 0 0)))), (.t 8, .v (.o (bo1 r.1))), (.b 0, .b 3 1 (dR ([rI (r.2 : Nat)]))), (.u 0, .u)] (Wk.keep [(0, 0)] rfl rfl ⟨ks rfl (.c .bx), ks rfl (.dt (vB (by rw [hR] <;> first | rfl | grind))), kb 0 rfl (.dt rfl (by rw [hR] <;> rfl)), trivial⟩) rfl ?_ (hbI_box rfl)
  rfl
 ·try simp only [zs1, zs2, zs3, zs4, zs5, zs6, zs7] at h21
  have hc1 : ¬ 12 < c + 1 := by omega
  refine .skip <| ks_n <| .seq <| .seq ?_
  refine ACode.cut [(.t 1, .v (.o (nat1 (d : Nat)))), (.t 2, .v (.o (nat1 deep))), (.t 3, .v (.o (.c (.box 0 1 0 0)))), (.t 4, .v (.o (.c (.ptr (rX e))))), (.t 8, .v (.o (bo1 false))), (.t 51, .v (.o (bo1 (!hdV e)))), (.b 0, .b 3 1 (dR ([rI ((c : Int) + 1)]))), (.u 0, .u)] ?_ ?_
  ·skip
   refine .region <| .cons (.fP 0 0 false rfl rfl) <| .cons (.l1 1 rfl rfl) <| .cons (.ne rfl rfl rfl) <| .cons (.mv rfl rfl) ?_
   refine .cND 25 rfl (fun g25 => ?_) (fun g25 => ?_)
   ·skip
    refine .cons (.gT rfl rfl rfl (.fP 1 0 false rfl rfl)) <| .cons (.gT rfl rfl rfl (.l1 1 rfl rfl)) <| .cons (.gT rfl rfl rfl (.ne rfl rfl rfl)) <| .cons (.pT rfl rfl rfl) <| .cons (.mv rfl rfl) ?_
    refine AOps.cases 30 _ rfl (fun g30 => ?_) (fun g30 => ?_)
    ·try simp only [zs1, zs2, zs3, zs4, zs5, zs6, zs7] at g30
     refine .cons (.gF rfl rfl rfl) <| .cons (.gF rfl rfl rfl) <| .cons (.gF rfl rfl rfl) <| .cons (.gF rfl rfl rfl) <| .cons (.gU rfl rfl) <| .cons (.gU rfl rfl) <| .cons (.gU rfl rfl) <| .cons (.gU rfl rfl) <| .cons (.gF rfl rfl rfl) <| .cons (.pT rfl rfl rfl) <| .cons (.mv rfl rfl) <| .cons (.gF rfl rfl rfl) <| .cons (.gF rfl rfl rfl) <| .cons (.gF rfl rfl rfl) <| .cons (.gF rfl rfl rfl) <| .cons (.gU rfl rfl) <| .cons (.gU rfl rfl) <| .cons (.gU rfl rfl) <| .cons (.gU rfl rfl) <| .cons (.gF rfl rfl rfl) <| .cons (.pT rfl rfl rfl) <| .nil ?_
     exact kc_n (Wk.keep [(0, 0)] rfl rfl ⟨ks rfl .dt, ks rfl .dt, ks rfl (.c .bx), ks rfl .dt, ks rfl .dt, ks rfl (.dt (vB (by first | (exfalso; omega) | (rw [hdV]; simp [*]; done) | (rw [hdV]; cases hA : nonA e.i <;> cases hC : nonC e.r <;> simp_all; done)))), kb 0 rfl (.dt rfl), trivial⟩)
    ·try simp only [zs1, zs2, zs3, zs4, zs5, zs6, zs7] at g30
     refine .cons (.gT rfl rfl rfl (.fP 0 0 false rfl rfl)) <| .cons (.gT rfl rfl rfl (.l1 1 rfl rfl)) <| .cons (.gT rfl rfl rfl (.ne rfl rfl rfl)) <| .cons (.gT rfl rfl rfl (.mv rfl rfl)) ?_
     refine .cND 34 rfl (fun g34 => ?_) (fun g34 => ?_)
     ·skip
      refine .cons (.gT rfl rfl rfl (.fP 2 1 true rfl rfl)) <| .cons (.gT rfl rfl rfl (.lN 2 rfl rfl rfl)) <| .cons (.gT rfl rfl rfl (.cP [.tmp 36] rfl rfl rfl rfl (implNoA_fn _) rfl)) ?_
      refine .cons (.gT rfl rfl rfl (.nt rfl rfl)) <| .cons (.gT rfl rfl rfl (.pT rfl rfl rfl)) <| .cons (.pF rfl rfl rfl) <| .cons (.mv rfl rfl) ?_
      refine AOps.cases 41 _ rfl (fun g41 => ?_) (fun g41 => ?_)
      ·try simp only [zs1, zs2, zs3, zs4, zs5, zs6, zs7] at g41
       refine .cons (.gF rfl rfl rfl) <| .cons (.gF rfl rfl rfl) <| .cons (.gF rfl rfl rfl) <| .cons (.gF rfl rfl rfl) <| .cons (.gU rfl rfl) <| .cons (.gU rfl rfl) <| .cons (.gU rfl rfl) <| .cons (.gU rfl rfl) <| .cons (.gF rfl rfl rfl) <| .cons (.pT rfl rfl rfl) <| .nil ?_
       exact kc_n (Wk.keep [(0, 0)] rfl rfl ⟨ks rfl .dt, ks rfl .dt, ks rfl (.c .bx), ks rfl .dt, ks rfl .dt, ks rfl (.dt (vB (by first | (exfalso; omega) | (rw [hdV]; simp [*]; done) | (rw [hdV]; cases hA : nonA e.i <;> cases hC : nonC e.r <;> simp_all; done)))), kb 0 rfl (.dt rfl), trivial⟩)
      ·try simp only [zs1, zs2, zs3, zs4, zs5, zs6, zs7] at g41
       refine .cons (.gT rfl rfl rfl (.fP 0 0 false rfl rfl)) <| .cons (.gT rfl rfl rfl (.l1 1 rfl rfl)) <| .cons (.gT rfl rfl rfl (.ne rfl rfl rfl)) <| .cons (.gT rfl rfl rfl (.mv rfl rfl)) ?_
       refine .cND 45 rfl (fun g45 => ?_) (fun g45 => ?_)
       ·skip
        refine .cons (.gT rfl rfl rfl (.fP 4 1 true rfl rfl)) <| .cons (.gT rfl rfl rfl (.lN 2 rfl rfl rfl)) <| .cons (.gT rfl rfl rfl (.cP [.tmp 47] rfl rfl rfl rfl (implNoC_fn _) rfl)) ?_
        refine .cons (.gT rfl rfl rfl (.nt rfl rfl)) <| .cons (.gT rfl rfl rfl (.pT rfl rfl rfl)) <| .cons (.pF rfl rfl rfl) <| .nil ?_
        exact kc_n (Wk.keep [(0, 0)] rfl rfl ⟨ks rfl .dt, ks rfl .dt, ks rfl (.c .bx), ks rfl .dt, ks rfl .dt, ks rfl (.dt (vB (by first | (exfalso; omega) | (rw [hdV]; simp [*]; done) | (rw [hdV]; cases hA : nonA e.i <;> cases hC : nonC e.r <;> simp_all; done)))), kb 0 rfl (.dt rfl), trivial⟩)
       ·skip
        refine .cons (.gF rfl rfl rfl) <| .cons (.gF rfl rfl rfl) <| .cons (.gF rfl rfl rfl) <| .cons (.gF rfl rfl rfl) <| .cons (.gT rfl rfl rfl (.pF rfl rfl rfl)) <| .cons (.pF rfl rfl rfl) <| .nil ?_
        exact kc_n (Wk.keep [(0, 0)] rfl rfl ⟨ks rfl .dt, ks rfl .dt, ks rfl (.c .bx), ks rfl .dt, ks rfl .dt, ks rfl (.dt (vB (by first | (exfalso; omega) | (rw [hdV]; simp [*]; done) | (rw [hdV]; cases hA : nonA e.i <;> cases hC : nonC e.r <;> simp_all; done)))), kb 0 rfl (.dt rfl), trivial⟩)
     ·skip
      refine .cons (.gF rfl rfl rfl) <| .cons (.gF rfl rfl rfl) <| .cons (.gF rfl rfl rfl) <| .cons (.gF rfl rfl rfl) <| .cons (.gT rfl rfl rfl (.pF rfl rfl rfl)) <| .cons (.pF rfl rfl rfl) <| .cons (.mv rfl rfl) <| .cons (.gT rfl rfl rfl (.fP 0 0 false rfl rfl)) <| .cons (.gT rfl rfl rfl (.l1 1 rfl rfl)) <| .cons (.gT rfl rfl rfl (.ne rfl rfl rfl)) <| .cons (.gT rfl rfl rfl (.mv rfl rfl)) ?_
      refine .cND 45 rfl (fun g45 => ?_) (fun g45 => ?_)
      ·skip
       refine .cons (.gT rfl rfl rfl (.fP 4 1 true rfl rfl)) <| .cons (.gT rfl rfl rfl (.lN 2 rfl rfl rfl)) <| .cons (.gT rfl rfl rfl (.cP [.tmp 47] rfl rfl rfl rfl (implNoC_fn _) rfl)) ?_
       refine .cons (.gT rfl rfl rfl (.nt rfl rfl)) <| .cons (.gT rfl rfl rfl (.pT rfl rfl rfl)) <| .cons (.pF rfl rfl rfl) <| .nil ?_
       exact kc_n (Wk.keep [(0, 0)] rfl rfl ⟨ks rfl .dt, ks rfl .dt, ks rfl (.c .bx), ks rfl .dt, ks rfl .dt, ks rfl (.dt (vB (by first | (exfalso; omega) | (rw [hdV]; simp [*]; done) | (rw [hdV]; cases hA : nonA e.i <;> cases hC : nonC e.r <;> simp_all; done)))), kb 0 rfl (.dt rfl), trivial⟩)
      ·skip
       refine .cons (.gF rfl rfl rfl) <| .cons (.gF rfl rfl rfl) <| .cons (.gF rfl rfl rfl) <| .cons (.gF rfl rfl rfl) <| .cons (.gT rfl rfl rfl (.pF rfl rfl rfl)) <| .cons (.pF rfl rfl rfl) <| .nil ?_
       exact kc_n (Wk.keep [(0, 0)] rfl rfl ⟨ks rfl .dt, ks rfl .dt, ks rfl (.c .bx), ks rfl .dt, ks rfl .dt, ks rfl (.dt (vB (by first | (exfalso; omega) | (rw [hdV]; simp [*]; done) | (rw [hdV]; cases hA : nonA e.i <;> cases hC : nonC e.r <;> simp_all; done)))), kb 0 rfl (.dt rfl), trivial⟩)
   ·skip
    refine .cons (.gF rfl rfl rfl) <| .cons (.gF rfl rfl rfl) <| .cons (.gF rfl rfl rfl) <| .cons (.pF rfl rfl rfl) <| .cons (.mv rfl rfl) <| .cons (.gT rfl rfl rfl (.fP 0 0 false rfl rfl)) <| .cons (.gT rfl rfl rfl (.l1 1 rfl rfl)) <| .cons (.gT rfl rfl rfl (.ne rfl rfl rfl)) <| .cons (.gT rfl rfl rfl (.mv rfl rfl)) ?_
    refine .cND 34 rfl (fun g34 => ?_) (fun g34 => ?_)
    ·skip
     refine .cons (.gT rfl rfl rfl (.fP 2 1 true rfl rfl)) <| .cons (.gT rfl rfl rfl (.lN 2 rfl rfl rfl)) <| .cons (.gT rfl rfl rfl (.cP [.tmp 36] rfl rfl rfl rfl (implNoA_fn _) rfl)) ?_
     refine .cons (.gT rfl rfl rfl (.nt rfl rfl)) <| .cons (.gT rfl rfl rfl (.pT rfl rfl rfl)) <| .cons (.pF rfl rfl rfl) <| .cons (.mv rfl rfl) ?_
     refine AOps.cases 41 _ rfl (fun g41 => ?_) (fun g41 => ?_)
     ·try simp only [zs1, zs2, zs3, zs4, zs5, zs6, zs7] at g41
      refine .cons (.gF rfl rfl rfl) <| .cons (.gF rfl rfl rfl) <| .cons (.gF rfl rfl rfl) <| .cons (.gF rfl rfl rfl) <| .cons (.gU rfl rfl) <| .cons (.gU rfl rfl) <| .cons (.gU rfl rfl) <| .cons (.gU rfl rfl) <| .cons (.gF rfl rfl rfl) <| .cons (.pT rfl rfl rfl) <| .nil ?_
      exact kc_n (Wk.keep [(0, 0)] rfl rfl ⟨ks rfl .dt, ks rfl .dt, ks rfl (.c .bx), ks rfl .dt, ks rfl .dt, ks rfl (.dt (vB (by first | (exfalso; omega) | (rw [hdV]; simp [*]; done) | (rw [hdV]; cases hA : nonA e.i <;> cases hC : nonC e.r <;> simp_all; done)))), kb 0 rfl (.dt rfl), trivial⟩)
     ·try simp only [zs1, zs2, zs3, zs4, zs5, zs6, zs7] at g41
      refine .cons (.gT rfl rfl rfl (.fP 0 0 false rfl rfl)) <| .cons (.gT rfl rfl rfl (.l1 1 rfl rfl)) <| .cons (.gT rfl rfl rfl (.ne rfl rfl rfl)) <| .cons (.gT rfl rfl rfl (.mv rfl rfl)) ?_
      refine .cND 45 rfl (fun g45 => ?_) (fun g45 => ?_)
      ·skip
       refine .cons (.gT rfl rfl rfl (.fP 4 1 true rfl rfl)) <| .cons (.gT rfl rfl rfl (.lN 2 rfl rfl rfl)) <| .cons (.gT rfl rfl rfl (.cP [.tmp 47] rfl rfl rfl rfl (implNoC_fn _) rfl)) ?_
       refine .cons (.gT rfl rfl rfl (.nt rfl rfl)) <| .cons (.gT rfl rfl rfl (.pT rfl rfl rfl)) <| .cons (.pF rfl rfl rfl) <| .nil ?_
       exact kc_n (Wk.keep [(0, 0)] rfl rfl ⟨ks rfl .dt, ks rfl .dt, ks rfl (.c .bx), ks rfl .dt, ks rfl .dt, ks rfl (.dt (vB (by first | (exfalso; omega) | (rw [hdV]; simp [*]; done) | (rw [hdV]; cases hA : nonA e.i <;> cases hC : nonC e.r <;> simp_all; done)))), kb 0 rfl (.dt rfl), trivial⟩)
      ·skip
       refine .cons (.gF rfl rfl rfl) <| .cons (.gF rfl rfl rfl) <| .cons (.gF rfl rfl rfl) <| .cons (.gF rfl rfl rfl) <| .cons (.gT rfl rfl rfl (.pF rfl rfl rfl)) <| .cons (.pF rfl rfl rfl) <| .nil ?_
       exact kc_n (Wk.keep [(0, 0)] rfl rfl ⟨ks rfl .dt, ks rfl .dt, ks rfl (.c .bx), ks rfl .dt, ks rfl .dt, ks rfl (.dt (vB (by first | (exfalso; omega) | (rw [hdV]; simp [*]; done) | (rw [hdV]; cases hA : nonA e.i <;> cases hC : nonC e.r <;> simp_all; done)))), kb 0 rfl (.dt rfl), trivial⟩)
    ·skip
     refine .cons (.gF rfl rfl rfl) <| .cons (.gF rfl rfl rfl) <| .cons (.gF rfl rfl rfl) <| .cons (.gF rfl rfl rfl) <| .cons (.gT rfl rfl rfl (.pF rfl rfl rfl)) <| .cons (.pF rfl rfl rfl) <| .cons (.mv rfl rfl) <| .cons (.gT rfl rfl rfl (.fP 0 0 false rfl rfl)) <| .cons (.gT rfl rfl rfl (.l1 1 rfl rfl)) <| .cons (.gT rfl rfl rfl (.ne rfl rfl rfl)) <| .cons (.gT rfl rfl rfl (.mv rfl rfl)) ?_
     refine .cND 45 rfl (fun g45 => ?_) (fun g45 => ?_)
     ·skip
      refine .cons (.gT rfl rfl rfl (.fP 4 1 true rfl rfl)) <| .cons (.gT rfl rfl rfl (.lN 2 rfl rfl rfl)) <| .cons (.gT rfl rfl rfl (.cP [.tmp 47] rfl rfl rfl rfl (implNoC_fn _) rfl)) ?_
      refine .cons (.gT rfl rfl rfl (.nt rfl rfl)) <| .cons (.gT rfl rfl rfl (.pT rfl rfl rfl)) <| .cons (.pF rfl rfl rfl) <| .nil ?_
      exact kc_n (Wk.keep [(0, 0)] rfl rfl ⟨ks rfl .dt, ks rfl .dt, ks rfl (.c .bx), ks rfl .dt, ks rfl .dt, ks rfl (.dt (vB (by first | (exfalso; omega) | (rw [hdV]; simp [*]; done) | (rw [hdV]; cases hA : nonA e.i <;> cases hC : nonC e.r <;> simp_all; done)))), kb 0 rfl (.dt rfl), trivial⟩)
     ·skip
      refine .cons (.gF rfl rfl rfl) <| .cons (.gF rfl rfl rfl) <| .cons (.gF rfl rfl rfl) <| .cons (.gF rfl rfl rfl) <| .cons (.gT rfl rfl rfl (.pF rfl rfl rfl)) <| .cons (.pF rfl rfl rfl) <| .nil ?_
      exact kc_n (Wk.keep [(0, 0)] rfl rfl ⟨ks rfl .dt, ks rfl .dt, ks rfl (.c .bx), ks rfl .dt, ks rfl .dt, ks rfl (.dt (vB (by first | (exfalso; omega) | (rw [hdV]; simp [*]; done) | (rw [hdV]; cases hA : nonA e.i <;> cases hC : nonC e.r <;> simp_all; done)))), kb 0 rfl (.dt rfl), trivial⟩)
  refine ks_n ?_
  refine ACode.condT rfl (fun h51 => ?_) (fun h51 => ?_)
  ·try simp only [zs1, zs2, zs3, zs4, zs5, zs6, zs7] at h51
   refine .seq ?_
   have hR := scan_hd (d := d) (L := L) (c := c) h51
   refine .region <| .cons (.asg rfl rfl) <| .nil <| ks_n <| .ret <| ks_r ?_
   obtain ⟨r, hr⟩ : ∃ r, r = (scanV d (L + 1) c e) := ⟨_, rfl⟩
   rw [← hr]
   rw [← hr] at hR
   refine kf_wret [(.t 3, .v (.o (.c (.box 0 1 0 0)))), (.t 8, .v (.o (bo1 r.1))), (.b 0, .b 3 1 (dR ([rI (r.2 : Nat)]))), (.u 0, .u)] (Wk.keep [(0, 0)] rfl rfl ⟨ks rfl (.c .bx), ks rfl (.dt (vB (by rw [hR] <;> first | rfl | grind))), kb 0 rfl (.dt rfl (by rw [hR] <;> rfl)), trivial⟩) rfl ?_ (hbI_box rfl)
   rfl
  ·try simp only [zs1, zs2, zs3, zs4, zs5, zs6, zs7] at h51
   refine .skip <| ks_n <| .seq <| .block <| .seq <| .region <| .cons (.fP 0 0 false rfl rfl) <| .cons (.l1 1 rfl rfl) <| .cons (.eq rfl rfl rfl) <| .cons (.asg rfl rfl) <| .nil <| ks_n ?_
   refine .cD rfl (fun h52 => ?_) (fun h52 => ?_)
   ·skip
    refine .seq ?_
    have hR := scan1 (d := d) (L := L) h52 h51 hc1
    refine .region <| .cons (.fP 1 0 false rfl rfl) <| .cons (.l1 1 rfl rfl) <| .cons (.cP [.tmp 57, .const (.int .i64 (0)), .const (.int .i64 (99))] rfl rfl rfl rfl (within_fn _ 0 99) rfl) ?_
    refine .cons (.mv rfl rfl) ?_
    refine AOps.cases 59 _ rfl (fun g59 => ?_) (fun g59 => ?_)
    ·try simp only [zs1, zs2, zs3, zs4, zs5, zs6, zs7] at g59
     refine .cons (.gT rfl rfl rfl (.fP 6 0 false rfl rfl)) <| .cons (.gT rfl rfl rfl (.l1 1 rfl rfl)) <| .cons (.gT rfl rfl rfl (.ln 94 7 112 rfl rfl rfl)) <| .cons (.gT rfl rfl rfl (.eq rfl rfl rfl)) <| .cons (.pT rfl rfl rfl) <| .cons (.asg rfl rfl) <| .nil <| ks_n <| .ret <| kb_r <| ks_r ?_
     obtain ⟨r, hr⟩ : ∃ r, r = (scanV d (L + 1) c e) := ⟨_, rfl⟩
     rw [← hr]
     rw [← hr] at hR
     refine kf_wret [(.t 3, .v (.o (.c (.box 0 1 0 0)))), (.t 8, .v (.o (bo1 r.1))), (.b 0, .b 3 1 (dR ([rI (r.2 : Nat)]))), (.u 0, .u)] (Wk.keep [(0, 0)] rfl rfl ⟨ks rfl (.c .bx), ks rfl (.dt (vB (by rw [hR] <;> first | rfl | grind))), kb 0 rfl (.dt rfl (by rw [hR] <;> rfl)), trivial⟩) rfl ?_ (hbI_box rfl)
     rfl
    ·try simp only [zs1, zs2, zs3, zs4, zs5, zs6, zs7] at g59
     refine .cons (.gF rfl rfl rfl) <| .cons (.gF rfl rfl rfl) <| .cons (.gF rfl rfl rfl) <| .cons (.gF rfl rfl rfl) <| .cons (.pF rfl rfl rfl) <| .cons (.asg rfl rfl) <| .nil <| ks_n <| .ret <| kb_r <| ks_r ?_
     obtain ⟨r, hr⟩ : ∃ r, r = (scanV d (L + 1) c e) := ⟨_, rfl⟩
     rw [← hr]
     rw [← hr] at hR
     refine kf_wret [(.t 3, .v (.o (.c (.box 0 1 0 0)))), (.t 8, .v (.o (bo1 r.1))), (.b 0, .b 3 1 (dR ([rI (r.2 : Nat)]))), (.u 0, .u)] (Wk.keep [(0, 0)] rfl rfl ⟨ks rfl (.c .bx), ks rfl (.dt (vB (by rw [hR] <;> first | rfl | grind))), kb 0 rfl (.dt rfl (by rw [hR] <;> rfl)), trivial⟩) rfl ?_ (hbI_box rfl)
     rfl
   ·skip
    refine .seq <| .region <| .cons (.fP 0 0 false rfl rfl) <| .cons (.l1 1 rfl rfl) <| .cons (.eq rfl rfl rfl) <| .cons (.asg rfl rfl) <| .nil <| ks_n ?_
    refine .cD rfl (fun h65 => ?_) (fun h65 => ?_)
    ·skip
     refine .seq ?_
     have hR := scan2 (d := d) (L := L) h65 h51 hc1
     refine .region <| .cons (.fP 2 1 true rfl rfl) <| .cons (.lN 2 rfl rfl rfl) <| .cons (.cP [.tmp 70] rfl rfl rfl rfl (implAffV_fn _) rfl) ?_
     refine .cons (.mv rfl rfl) ?_
     refine AOps.cases 72 _ rfl (fun g72 => ?_) (fun g72 => ?_)
     ·try simp only [zs1, zs2, zs3, zs4, zs5, zs6, zs7] at g72
      refine .cons (.gT rfl rfl rfl (.fP 2 1 true rfl rfl)) <| .cons (.gT rfl rfl rfl (.lN 2 rfl rfl rfl)) <| .cons (.gT rfl rfl rfl (.cP [.tmp 74] rfl rfl rfl rfl (depth_fn _) rfl)) ?_
      refine .cons (.gT rfl rfl rfl (.mv rfl rfl)) <| .cons (.gT rfl rfl rfl (.le rfl rfl rfl)) <| .cons (.pT rfl rfl rfl) <| .cons (.mv rfl rfl) ?_
      refine AOps.cases 79 _ rfl (fun g79 => ?_) (fun g79 => ?_)
      ·try simp only [zs1, zs2, zs3, zs4, zs5, zs6, zs7] at g79
       refine .cons (.gT rfl rfl rfl (.fP 6 0 false rfl rfl)) <| .cons (.gT rfl rfl rfl (.l1 1 rfl rfl)) <| .cons (.gT rfl rfl rfl (.ln 94 7 112 rfl rfl rfl)) <| .cons (.gT rfl rfl rfl (.eq rfl rfl rfl)) <| .cons (.pT rfl rfl rfl) <| .cons (.asg rfl rfl) <| .nil <| ks_n <| .ret <| kb_r <| ks_r ?_
       obtain ⟨r, hr⟩ : ∃ r, r = (scanV d (L + 1) c e) := ⟨_, rfl⟩
       rw [← hr]
       rw [← hr] at hR
       refine kf_wret [(.t 3, .v (.o (.c (.box 0 1 0 0)))), (.t 8, .v (.o (bo1 r.1))), (.b 0, .b 3 1 (dR ([rI (r.2 : Nat)]))), (.u 0, .u)] (Wk.keep [(0, 0)] rfl rfl ⟨ks rfl (.c .bx), ks rfl (.dt (vB (by rw [hR] <;> first | rfl | grind))), kb 0 rfl (.dt rfl (by rw [hR] <;> rfl)), trivial⟩) rfl ?_ (hbI_box rfl)
       rfl
      ·try simp only [zs1, zs2, zs3, zs4, zs5, zs6, zs7] at g79
       refine .cons (.gF rfl rfl rfl) <| .cons (.gF rfl rfl rfl) <| .cons (.gF rfl rfl rfl) <| .cons (.gF rfl rfl rfl) <| .cons (.pF rfl rfl rfl) <| .cons (.asg rfl rfl) <| .nil <| ks_n <| .ret <| kb_r <| ks_r ?_
       obtain ⟨r, hr⟩ : ∃ r, r = (scanV d (L + 1) c e) := ⟨_, rfl⟩
       rw [← hr]
       rw [← hr] at hR
       refine kf_wret [(.t 3, .v (.o (.c (.box 0 1 0 0)))), (.t 8, .v (.o (bo1 r.1))), (.b 0, .b 3 1 (dR ([rI (r.2 : Nat)]))), (.u 0, .u)] (Wk.keep [(0, 0)] rfl rfl ⟨ks rfl (.c .bx), ks rfl (.dt (vB (by rw [hR] <;> first | rfl | grind))), kb 0 rfl (.dt rfl (by rw [hR] <;> rfl)), trivial⟩) rfl ?_ (hbI_box rfl)
       rfl
     ·try simp only [zs1, zs2, zs3, zs4, zs5, zs6, zs7] at g72
      refine .cons (.gF rfl rfl rfl) <| .cons (.gF rfl rfl rfl) <| .cons (.gF rfl rfl rfl) <| .cons (.gF rfl rfl rfl) <| .cons (.gF rfl rfl rfl) <| .cons (.pF rfl rfl rfl) <| .cons (.mv rfl rfl) <| .cons (.gF rfl rfl rfl) <| .cons (.gF rfl rfl rfl) <| .cons (.gF rfl rfl rfl) <| .cons (.gF rfl rfl rfl) <| .cons (.pF rfl rfl rfl) <| .cons (.asg rfl rfl) <| .nil <| ks_n <| .ret <| kb_r <| ks_r ?_
      obtain ⟨r, hr⟩ : ∃ r, r = (scanV d (L + 1) c e) := ⟨_, rfl⟩
      rw [← hr]
      rw [← hr] at hR
      refine kf_wret [(.t 3, .v (.o (.c (.box 0 1 0 0)))), (.t 8, .v (.o (bo1 r.1))), (.b 0, .b 3 1 (dR ([rI (r.2 : Nat)]))), (.u 0, .u)] (Wk.keep [(0, 0)] rfl rfl ⟨ks rfl (.c .bx), ks rfl (.dt (vB (by rw [hR] <;> first | rfl | grind))), kb 0 rfl (.dt rfl (by rw [hR] <;> rfl)), trivial⟩) rfl ?_ (hbI_box rfl)
      rfl
    ·skip
     refine .seq <| .region <| .cons (.fP 0 0 false rfl rfl) <| .cons (.l1 1 rfl rfl) <| .cons (.eq rfl rfl rfl) <| .cons (.asg rfl rfl) <| .nil <| ks_n ?_
     refine .cD rfl (fun h85 => ?_) (fun h85 => ?_)
     ·skip
      refine .seq ?_
      have hR := scan3 (d := d) (L := L) h85 h51 hc1
      refine .region <| .cons (.fP 4 1 true rfl rfl) <| .cons (.lN 2 rfl rfl rfl) <| .cons (.mv rfl rfl) <| .cons (.cP [.tmp 90, .tmp 91] rfl rfl rfl rfl (accOk_fn d _ hrl) rfl) ?_
      refine .cons (.mv rfl rfl) ?_
      refine AOps.cases 93 _ rfl (fun g93 => ?_) (fun g93 => ?_)
      ·try simp only [zs1, zs2, zs3, zs4, zs5, zs6, zs7] at g93
       refine .cons (.gT rfl rfl rfl (.fP 6 0 false rfl rfl)) <| .cons (.gT rfl rfl rfl (.l1 1 rfl rfl)) <| .cons (.gT rfl rfl rfl (.ln 94 7 112 rfl rfl rfl)) <| .cons (.gT rfl rfl rfl (.eq rfl rfl rfl)) <| .cons (.pT rfl rfl rfl) <| .cons (.asg rfl rfl) <| .nil <| ks_n <| .ret <| kb_r <| ks_r ?_
       obtain ⟨r, hr⟩ : ∃ r, r = (scanV d (L + 1) c e) := ⟨_, rfl⟩
       rw [← hr]
       rw [← hr] at hR
       refine kf_wret [(.t 3, .v (.o (.c (.box 0 1 0 0)))), (.t 8, .v (.o (bo1 r.1))), (.b 0, .b 3 1 (dR ([rI (r.2 : Nat)]))), (.u 0, .u)] (Wk.keep [(0, 0)] rfl rfl ⟨ks rfl (.c .bx), ks rfl (.dt (vB (by rw [hR] <;> first | rfl | grind))), kb 0 rfl (.dt rfl (by rw [hR] <;> rfl)), trivial⟩) rfl ?_ (hbI_box rfl)
       rfl
      ·try simp only [zs1, zs2, zs3, zs4, zs5, zs6, zs7] at g93
       refine .cons (.gF rfl rfl rfl) <| .cons (.gF rfl rfl rfl) <| .cons (.gF rfl rfl rfl) <| .cons (.gF rfl rfl rfl) <| .cons (.pF rfl rfl rfl) <| .cons (.asg rfl rfl) <| .nil <| ks_n <| .ret <| kb_r <| ks_r ?_
       obtain ⟨r, hr⟩ : ∃ r, r = (scanV d (L + 1) c e) := ⟨_, rfl⟩
       rw [← hr]
       rw [← hr] at hR
       refine kf_wret [(.t 3, .v (.o (.c (.box 0 1 0 0)))), (.t 8, .v (.o (bo1 r.1))), (.b 0, .b 3 1 (dR ([rI (r.2 : Nat)]))), (.u 0, .u)] (Wk.keep [(0, 0)] rfl rfl ⟨ks rfl (.c .bx), ks rfl (.dt (vB (by rw [hR] <;> first | rfl | grind))), kb 0 rfl (.dt rfl (by rw [hR] <;> rfl)), trivial⟩) rfl ?_ (hbI_box rfl)
       rfl
     ·skip
      refine .seq <| .region <| .cons (.fP 0 0 false rfl rfl) <| .cons (.l1 1 rfl rfl) <| .cons (.cP [.tmp 101] rfl rfl rfl rfl (isOp_fn _) rfl) ?_
      refine .cons (.nt rfl rfl) <| .cons (.mv rfl rfl) ?_
      refine AOps.cases 104 _ rfl (fun g104 => ?_) (fun g104 => ?_)
      ·try simp only [zs1, zs2, zs3, zs4, zs5, zs6, zs7] at g104
       refine .cons (.gF rfl rfl rfl) <| .cons (.gF rfl rfl rfl) <| .cons (.gF rfl rfl rfl) <| .cons (.gF rfl rfl rfl) <| .cons (.pT rfl rfl rfl) <| .cons (.asg rfl rfl) <| .nil <| ks_n ?_
       refine ACode.condT rfl (fun _ => ?_) (fun h => by first | (cases h; done) | (simp [*] at h; done) | (exfalso; simp_all; done))
       refine .seq ?_
       have hR := scan_bad (d := d) (L := L) (c := c) ⟨h52, h65, h85⟩ (by first | exact .inl (by assumption) | exact .inr (by omega))
       refine .region <| .cons (.asg rfl rfl) <| .nil <| ks_n <| .ret <| kb_r <| ks_r ?_
       obtain ⟨r, hr⟩ : ∃ r, r = (scanV d (L + 1) c e) := ⟨_, rfl⟩
       rw [← hr]
       rw [← hr] at hR
       refine kf_wret [(.t 3, .v (.o (.c (.box 0 1 0 0)))), (.t 8, .v (.o (bo1 r.1))), (.b 0, .b 3 1 (dR ([rI (r.2 : Nat)]))), (.u 0, .u)] (Wk.keep [(0, 0)] rfl rfl ⟨ks rfl (.c .bx), ks rfl (.dt (vB (by rw [hR] <;> first | rfl | grind))), kb 0 rfl (.dt rfl (by rw [hR] <;> rfl)), trivial⟩) rfl ?_ (hbI_box rfl)
       rfl
      ·try simp only [zs1, zs2, zs3, zs4, zs5, zs6, zs7] at g104
       refine .cons (.gT rfl rfl rfl (.fP 6 0 false rfl rfl)) <| .cons (.gT rfl rfl rfl (.l1 1 rfl rfl)) <| .cons (.gT rfl rfl rfl (.ln 94 7 112 rfl rfl rfl)) <| .cons (.gT rfl rfl rfl (.ne rfl rfl rfl)) <| .cons (.pF rfl rfl rfl) <| .cons (.asg rfl rfl) <| .nil <| ks_n ?_
       refine ACode.condT rfl (fun h99 => ?_) (fun h99 => ?_)
       ·try simp only [zs1, zs2, zs3, zs4, zs5, zs6, zs7] at h99
        refine .seq ?_
        have hR := scan_bad (d := d) (L := L) (c := c) ⟨h52, h65, h85⟩ (by first | exact .inl (by assumption) | exact .inr (by omega))
        refine .region <| .cons (.asg rfl rfl) <| .nil <| ks_n <| .ret <| kb_r <| ks_r ?_
        obtain ⟨r, hr⟩ : ∃ r, r = (scanV d (L + 1) c e) := ⟨_, rfl⟩
        rw [← hr]
        rw [← hr] at hR
        refine kf_wret [(.t 3, .v (.o (.c (.box 0 1 0 0)))), (.t 8, .v (.o (bo1 r.1))), (.b 0, .b 3 1 (dR ([rI (r.2 : Nat)]))), (.u 0, .u)] (Wk.keep [(0, 0)] rfl rfl ⟨ks rfl (.c .bx), ks rfl (.dt (vB (by rw [hR] <;> first | rfl | grind))), kb 0 rfl (.dt rfl (by rw [hR] <;> rfl)), trivial⟩) rfl ?_ (hbI_box rfl)
        rfl
       ·try simp only [zs1, zs2, zs3, zs4, zs5, zs6, zs7] at h99
        refine .skip <| kb_n <| ks_n <| .seq ?_
        obtain ⟨x, y, hks⟩ := two_of (l := e.ks) (by omega)
        have hR := scan_op (d := d) (L := L) (by assumption) h51 hc1 hks
        obtain ⟨_, hx2, _, _⟩ := scanV_iff d L (c + 1) x
        refine .region <| .cons (.fP 6 0 false rfl rfl) <| .cons (.l1 1 rfl rfl) <| .cons (.xL 94 7 112 (i := 0) rfl rfl rfl rfl rfl (by rw [hks]; exact rE_at rfl)) ?_
        refine .cons (.lN 7 rfl rfl rfl) <| .cons (.mv rfl rfl) <| .cons (.mv rfl rfl) <| .cons (.pl rfl rfl rfl) <| .cons (.mv rfl rfl) <| .cons (.cO [.tmp 113, .tmp 114, .tmp 116, .tmp 117] [(0, 0)] rfl rfl rfl rfl (ih x (by rw [hks]; simp) (c + 1) (by omega)) rfl ⟨rfl, trivial⟩ (hbI_flat _) (hbI_flat _) (hbI_HB _) outS_one) ?_
        refine .cons (.mv rfl rfl) ?_
        refine AOps.cases 119 _ rfl (fun g119 => ?_) (fun g119 => ?_)
        ·try simp only [zs1, zs2, zs3, zs4, zs5, zs6, zs7] at g119
         have hc2 : (scanV d L (c + 1) x).2 ≤ 12 := by have h1 := hx2 g119; have h2 := ((scanV_iff d L (c + 1) x).1.1 g119).2; omega
         rw [if_pos g119] at hR
         refine .cons (.gT rfl rfl rfl (.fP 6 0 false rfl rfl)) <| .cons (.gT rfl rfl rfl (.l1 1 rfl rfl)) <| .cons (.gT rfl rfl rfl (.xL 94 7 112 (i := 1) rfl rfl rfl rfl rfl (by rw [hks]; exact rE_at rfl))) ?_
         refine .cons (.gT rfl rfl rfl (.lN 7 rfl rfl rfl)) <| .cons (.gT rfl rfl rfl (.mv rfl rfl)) <| .cons (.gT rfl rfl rfl (.mv rfl rfl)) <| .cons (.gT rfl rfl rfl (.pl rfl rfl rfl)) <| .cons (.gT rfl rfl rfl (.mv rfl rfl)) <| .cons (.gT rfl rfl rfl (.cO [.tmp 123, .tmp 124, .tmp 126, .tmp 127] [(0, 0)] rfl rfl rfl rfl (ih y (by rw [hks]; simp) (scanV d L (c + 1) x).2 hc2) rfl ⟨rfl, trivial⟩ (hbI_flat _) (hbI_flat _) (hbI_HB _) outS_one)) ?_
         refine .cons (.pT rfl rfl rfl) <| .cons (.asg rfl rfl) <| .nil <| ks_n <| .ret ?_
         obtain ⟨r, hr⟩ : ∃ r, r = (scanV d (L + 1) c e) := ⟨_, rfl⟩
         rw [← hr]
         rw [← hr] at hR
         refine kf_wret [(.t 3, .v (.o (.c (.box 0 1 0 0)))), (.t 8, .v (.o (bo1 r.1))), (.b 0, .b 3 1 (dR ([rI (r.2 : Nat)]))), (.u 0, .u)] (Wk.keep [(0, 0)] rfl rfl ⟨ks rfl (.c .bx), ks rfl (.dt (vB (by rw [hR] <;> first | rfl | grind))), kb 0 rfl (.dt rfl (by rw [hR] <;> rfl)), trivial⟩) rfl ?_ (hbI_box rfl)
         rfl
        ·try simp only [zs1, zs2, zs3, zs4, zs5, zs6, zs7] at g119
         rw [if_neg (by rw [g119]; simp)] at hR
         refine .cons (.gF rfl rfl rfl) <| .cons (.gF rfl rfl rfl) <| .cons (.gF rfl rfl rfl) <| .cons (.gF rfl rfl rfl) <| .cons (.gF rfl rfl rfl) <| .cons (.gF rfl rfl rfl) <| .cons (.gF rfl rfl rfl) <| .cons (.gF rfl rfl rfl) <| .cons (.gF rfl rfl rfl) <| .cons (.pF rfl rfl rfl) <| .cons (.asg rfl rfl) <| .nil <| ks_n <| .ret ?_
         obtain ⟨r, hr⟩ : ∃ r, r = (scanV d (L + 1) c e) := ⟨_, rfl⟩
         rw [← hr]
         rw [← hr] at hR
         refine kf_wret [(.t 3, .v (.o (.c (.box 0 1 0 0)))), (.t 8, .v (.o (bo1 r.1))), (.b 0, .b 3 1 (dR ([rI (r.2 : Nat)]))), (.u 0, .u)] (Wk.keep [(0, 0)] rfl rfl ⟨ks rfl (.c .bx), ks rfl (.dt (vB (by rw [hR] <;> first | rfl | grind))), kb 0 rfl (.dt rfl (by rw [hR] <;> rfl)), trivial⟩) rfl ?_ (hbI_box rfl)
         rfl

theorem szE_eq (e : Ex) : szE e = e.i.1.length + szC e.r + e.ks.length + szEs e.ks := by cases e; rw [szE]; rfl
theorem exprScan_fn (d : Nat) : ∀ (L : Nat) (deep : Int) (c : Nat) (e : Ex), deep = 6 - (L : Int) → L ≤ 5 → c ≤ 12 → szE e ≤ 1099511627776 →
    Fn Tryz.prog 149 (hbI (c : Nat)) [ad (rX e), nat1 (d : Nat), nat1 deep, .c (.box 0 1 0 0)] (.o (bo1 (scanV d L c e).1)) (hbI ((scanV d L c e).2 : Nat))
  | 0, deep, c, e, hd, hL, hc, hs => scan_zero d hc (by omega) (by rw [szE_eq, szC] at hs; have := szAs_len e.r.2; omega) (by omega)
  | L + 1, deep, c, e, hd, hL, hc, hs => scan_succ d hc (by omega) (by rw [szE_eq, szC] at hs; have := szAs_len e.r.2; omega) (by omega) fun x hx c hc =>
      exprScan_fn d L (deep + 1) c x (by omega) (by omega) hc (by have := szEs_mem hx; rw [szE_eq] at hs; omega)
theorem szS_parts {s : Stm} (hs : szS s ≤ 1099511627776) : s.1.2.length ≤ 1099511627776 ∧ szE s.2 ≤ 1099511627776 := by
  rw [szS, szC] at hs
  have := szAs_len s.1.2
  exact ⟨by omega, by omega⟩
theorem stmtV_no {d : Int} {s : Stm} (h : inB d 0 4 = false) : stmtV d s = false := by rw [stmtV, h]; rfl
theorem stmtV_w {d : Int} {s : Stm} (h : inB d 0 4 = true) : stmtV d s = (accV d.toNat s.1 && (scanV d.toNat 5 0 s.2).1) := by
  rw [stmtV, h, Bool.true_and, Bool.and_assoc]
  congr 1
  rw [Bool.eq_iff_iff, Bool.and_eq_true, decide_eq_true_eq, (scanV_iff d.toNat 5 0 s.2).1, Nat.zero_add]

theorem accOk_fi {d : Int} (h : ((d.toNat : Nat) : Int) = d) (a : Acc) (ha : a.2.length ≤ 1099511627776) : Fn Tryz.prog 148 [] [ad (rC a), nat1 d] (.o (bo1 (accV d.toNat a))) [] := by
  have h2 := accOk_fn d.toNat a ha
  rw [h] at h2; exact h2
theorem exprScan_fi {d : Int} (h : ((d.toNat : Nat) : Int) = d) (e : Ex) (hs : szE e ≤ 1099511627776) : Fn Tryz.prog 149 (hbI 0) [ad (rX e), nat1 d, nat1 1, .c (.box 0 1 0 0)] (.o (bo1 (scanV d.toNat 5 0 e).1)) (hbI ((scanV d.toNat 5 0 e).2 : Nat)) := by
  have h2 := exprScan_fn d.toNat 5 1 0 e (by omega) (by omega) (by omega) hs
  rw [h] at h2; exact h2

theorem implStmtV_fn (d : Int) (s : Stm) (hs : szS s ≤ 1099511627776) : Fn Tryz.prog 99 [] [ad (rS s), nat1 d] (.o (bo1 (stmtV d s))) [] := by
  obtain ⟨hs1, hs2⟩ := szS_parts hs
  refine Fn.code0 Tryz.func99 rfl rfl rfl rfl ?_
  refine .seq <| .region <| .cons (St1.boxP rfl rfl rfl rfl rfl rfl) <| .cons (.asg rfl rfl) <| .nil <| ks_n <| .seq <| .region <| .cons (.al 105 [.int .i64 0] rfl rfl rfl) <| .cons (.sT 1 false rfl rfl rfl rfl rfl rfl rfl) <| .nil <| ks_n <| .seq <| .region <| .cons (.mv rfl rfl) <| .cons (.cP [.tmp 6, .const (.int .i64 (0)), .const (.int .i64 (4))] rfl rfl rfl rfl (within_fn _ 0 4) rfl) ?_
  refine .cons (.mv rfl rfl) ?_
  refine AOps.cases 8 _ rfl (fun g8 => ?_) (fun g8 => ?_)
  · try simp only [zs1, zs2, zs3, zs4, zs5, zs6, zs7] at g8
    have hD : ((d.toNat : Nat) : Int) = d := by simp only [inB, decide_eq_true_eq] at g8; omega
    refine .cons (.gT rfl rfl rfl (.fP 0 1 true rfl rfl)) <| .cons (.gT rfl rfl rfl (.lN 2 rfl rfl rfl)) <| .cons (.gT rfl rfl rfl (.mv rfl rfl)) <| .cons (.gT rfl rfl rfl (.cP [.tmp 10, .tmp 11] rfl rfl rfl rfl (accOk_fi hD s.1 hs1) rfl)) ?_
    refine .cons (.pT rfl rfl rfl) <| .cons (.mv rfl rfl) ?_
    refine AOps.cases 14 _ rfl (fun g14 => ?_) (fun g14 => ?_)
    · try simp only [zs1, zs2, zs3, zs4, zs5, zs6, zs7] at g14
      refine .cons (.gT rfl rfl rfl (.fP 2 6 true rfl rfl)) <| .cons (.gT rfl rfl rfl (.lN 7 rfl rfl rfl)) <| .cons (.gT rfl rfl rfl (.mv rfl rfl)) <| .cons (.gT rfl rfl rfl (.cO [.tmp 16, .tmp 17, .const (.int .i64 (1)), .tmp 5] [(0, 105)] rfl rfl rfl rfl (exprScan_fi hD s.2 hs2) rfl ⟨rfl, trivial⟩ (hbI_flat _) (hbI_flat _) (hbI_HB _) outS_one)) ?_
      refine .cons (.pT rfl rfl rfl) <| .cons (.asg rfl rfl) <| .nil <| ks_n <| .ret ?_
      refine kf_ret rfl ?_ nobox
      first | exact leafB (stmtV_no g8).symm | exact leafB (by rw [stmtV_w g8, g14]; first | rfl | simp)
    · try simp only [zs1, zs2, zs3, zs4, zs5, zs6, zs7] at g14
      refine .cons (.gF rfl rfl rfl) <| .cons (.gF rfl rfl rfl) <| .cons (.gF rfl rfl rfl) <| .cons (.gF rfl rfl rfl) <| .cons (.pF rfl rfl rfl) <| .cons (.asg rfl rfl) <| .nil <| ks_n <| .ret ?_
      refine kf_ret rfl ?_ nobox
      first | exact leafB (stmtV_no g8).symm | exact leafB (by rw [stmtV_w g8, g14]; first | rfl | simp)
  · try simp only [zs1, zs2, zs3, zs4, zs5, zs6, zs7] at g8
    refine .cons (.gF rfl rfl rfl) <| .cons (.gF rfl rfl rfl) <| .cons (.gF rfl rfl rfl) <| .cons (.gF rfl rfl rfl) <| .cons (.pF rfl rfl rfl) <| .cons (.mv rfl rfl) <| .cons (.gF rfl rfl rfl) <| .cons (.gF rfl rfl rfl) <| .cons (.gF rfl rfl rfl) <| .cons (.gF rfl rfl rfl) <| .cons (.pF rfl rfl rfl) <| .cons (.asg rfl rfl) <| .nil <| ks_n <| .ret ?_
    refine kf_ret rfl ?_ nobox
    first | exact leafB (stmtV_no g8).symm | exact leafB (by rw [stmtV_w g8, g14]; first | rfl | simp)


theorem kids_eq (k : Int) (n : Nat) : kidV k n = decide ((if 1 ≤ k ∧ k ≤ 3 then (0 : Int) else if 4 ≤ k ∧ k ≤ 6 then 2 else -1) = (n : Nat)) := by
  rw [kidV]
  split
  · rw [decide_eq_decide]; omega
  · split
    · rw [decide_eq_decide]; omega
    · rw [decide_eq_false]; omega
theorem arr_leaf {s : ByteArray} (h : s.size = 1) : arrV s = (!sLt s ⟨#[65]⟩ && (sLt s ⟨#[68]⟩ || sEq s ⟨#[68]⟩)) := by
  have hsz : s.size = s.data.toList.length := Lib.size_eq s
  obtain ⟨b, hb⟩ : ∃ b, s.data.toList = [b] := List.length_eq_one_iff.1 (by omega)
  obtain rfl : s = ⟨#[b]⟩ := by
    cases s with
    | mk data => exact congrArg ByteArray.mk (Array.toList_inj.1 (by rw [hb]))
  have key : ∀ n : Fin 256, arrV ⟨#[UInt8.ofNat n.val]⟩ = (!sLt ⟨#[UInt8.ofNat n.val]⟩ ⟨#[65]⟩ && (sLt ⟨#[UInt8.ofNat n.val]⟩ ⟨#[68]⟩ || sEq ⟨#[UInt8.ofNat n.val]⟩ ⟨#[68]⟩)) := by decide +kernel
  have := key ⟨b.toNat, b.toNat_lt⟩
  simpa using this

theorem l3Kids_fn (k : Int) : Fn Tryz.prog 222 [] [nat1 k] (.o (nat1 (if 1 ≤ k ∧ k ≤ 3 then 0 else if 4 ≤ k ∧ k ≤ 6 then 2 else -1))) [] := by
 refine Fn.code0 Tryz.func222 rfl rfl rfl rfl ?_
 refine .seq <| .region <| .cons (.asg rfl rfl) <| .nil <| ks_n <| .seq <| .seq <| .region <| .cons (.mv rfl rfl) <| .nil <| ks_n <| .block <| .seq ?_
 refine ACode.cut [(.t 2, .v (.o (nat1 0))), (.t 3, .v (.o (nat1 k))), (.t 4, .v (.o (bo1 (decide (1 ≤ k ∧ k ≤ 3)))))] ?_ ?_
 ·skip
  refine .seq <| .region <| .cons (.eq rfl rfl rfl) <| .cons (.asg rfl rfl) <| .nil <| ks_n ?_
  refine .cD rfl (fun h4 => ?_) (fun h4 => ?_)
  ·skip
   refine .skip ?_
   exact kc_n (Wk.keep [] rfl rfl ⟨ks rfl .dt, ks rfl .dt, ks rfl (.dt (vB (by first | rfl | grind))), trivial⟩)
  ·skip
   refine .seq <| .region <| .cons (.eq rfl rfl rfl) <| .cons (.asg rfl rfl) <| .nil <| ks_n ?_
   refine .cD rfl (fun h4 => ?_) (fun h4 => ?_)
   ·skip
    refine .skip ?_
    exact kc_n (Wk.keep [] rfl rfl ⟨ks rfl .dt, ks rfl .dt, ks rfl (.dt (vB (by first | rfl | grind))), trivial⟩)
   ·skip
    refine .region <| .cons (.eq rfl rfl rfl) <| .cons (.asg rfl rfl) <| .nil ?_
    exact kc_n (Wk.keep [] rfl rfl ⟨ks rfl .dt, ks rfl .dt, ks rfl (.dt (vB (by first | rfl | grind))), trivial⟩)
 refine ks_n ?_
 refine ACode.condT rfl (fun h4 => ?_) (fun h4 => ?_)
 ·try simp only [zs1, zs2, zs3, zs4, zs5, zs6, zs7] at h4
  refine .seq <| .region <| .cons (.asg rfl rfl) <| .nil <| ks_n <| .ret <| kb_r <| ks_r ?_
  refine kf_ret rfl ?_ nobox
  first | exact leafI (by rw [if_pos h4]) | exact leafI (by rw [if_neg h4, if_pos h8]) | exact leafI (by rw [if_neg h4, if_neg h8])
 ·try simp only [zs1, zs2, zs3, zs4, zs5, zs6, zs7] at h4
  refine .seq ?_
  refine ACode.cut [(.t 2, .v (.o (nat1 0))), (.t 3, .v (.o (nat1 k))), (.t 8, .v (.o (bo1 (decide (4 ≤ k ∧ k ≤ 6)))))] ?_ ?_
  ·skip
   refine .seq <| .region <| .cons (.eq rfl rfl rfl) <| .cons (.asg rfl rfl) <| .nil <| ks_n ?_
   refine .cD rfl (fun h8 => ?_) (fun h8 => ?_)
   ·skip
    refine .skip ?_
    exact kc_n (Wk.keep [] rfl rfl ⟨ks rfl .dt, ks rfl .dt, ks rfl (.dt (vB (by first | rfl | grind))), trivial⟩)
   ·skip
    refine .seq <| .region <| .cons (.eq rfl rfl rfl) <| .cons (.asg rfl rfl) <| .nil <| ks_n ?_
    refine .cD rfl (fun h8 => ?_) (fun h8 => ?_)
    ·skip
     refine .skip ?_
     exact kc_n (Wk.keep [] rfl rfl ⟨ks rfl .dt, ks rfl .dt, ks rfl (.dt (vB (by first | rfl | grind))), trivial⟩)
    ·skip
     refine .region <| .cons (.eq rfl rfl rfl) <| .cons (.asg rfl rfl) <| .nil ?_
     exact kc_n (Wk.keep [] rfl rfl ⟨ks rfl .dt, ks rfl .dt, ks rfl (.dt (vB (by first | rfl | grind))), trivial⟩)
  refine ks_n ?_
  refine ACode.condT rfl (fun h8 => ?_) (fun h8 => ?_)
  ·try simp only [zs1, zs2, zs3, zs4, zs5, zs6, zs7] at h8
   refine .seq <| .region <| .cons (.asg rfl rfl) <| .nil <| ks_n <| .ret <| kb_r <| ks_r ?_
   refine kf_ret rfl ?_ nobox
   first | exact leafI (by rw [if_pos h4]) | exact leafI (by rw [if_neg h4, if_pos h8]) | exact leafI (by rw [if_neg h4, if_neg h8])
  ·try simp only [zs1, zs2, zs3, zs4, zs5, zs6, zs7] at h8
   refine .skip <| kb_n <| ks_n <| .seq <| .region <| .cons (.asg rfl rfl) <| .nil <| ks_n <| .ret ?_
   refine kf_ret rfl ?_ nobox
   first | exact leafI (by rw [if_pos h4]) | exact leafI (by rw [if_neg h4, if_pos h8]) | exact leafI (by rw [if_neg h4, if_neg h8])

theorem l3Access_fn (d : Nat) (a : Acc) (ha : a.2.length ≤ 1099511627776) : Fn Tryz.prog 177 [] [ad (rC a), nat1 (d : Nat)] (.o (bo1 (accV d a))) [] := by
 refine Fn.code0 Tryz.func177 rfl rfl rfl rfl ?_
 refine .seq <| .region <| .cons (St1.boxP rfl rfl rfl rfl rfl rfl) <| .cons (.asg rfl rfl) <| .nil <| ks_n <| .seq <| .seq <| .region <| .cons (.asg rfl rfl) <| .nil <| ks_n <| .block ?_
 refine .loopK (fun m σ => (∃ i : Nat, m = a.2.length - i ∧ (i ≤ a.2.length) ∧ (a.2.all (bndV d) = (a.2.drop i).all (bndV d)) ∧ σ = [(.t 1, .v (.o (nat1 (d : Nat)))), (.t 2, .v (.o (.c (.ptr (rC a))))), (.t 4, .v (.o (bo1 false))), (.t 5, .v (.o (nat1 (i : Nat))))])) [] ⟨0, rfl, by omega, by simp, rfl⟩ ⟨ks rfl .dt, ks rfl .dt, ks rfl .dt, ks rfl .dt, trivial⟩ ?_
 rintro m σ ⟨i, hm0, hi, hF, rfl⟩
 refine .seq <| .seq <| .region <| .cons (.mv rfl rfl) <| .cons (.fP 1 0 false rfl rfl) <| .cons (.l1 1 rfl rfl) <| .cons (.ln 91 2 32 rfl rfl rfl) <| .cons (.ls rfl rfl rfl) <| .nil <| ks_n ?_
 refine .cD rfl (fun h10 => ?_) (fun h10 => ?_)
 ·skip
  obtain ⟨x, hx1⟩ : ∃ x, a.2[i]? = some x := ⟨_, List.getElem?_eq_getElem (by omega)⟩
  refine .skip <| ks_n <| .seq <| .block <| .seq <| .region <| .cons (.fP 1 0 false rfl rfl) <| .cons (.l1 1 rfl rfl) <| .cons (.mv rfl rfl) <| .cons (.xL 91 2 32 rfl rfl rfl rfl rfl) ?_
  refine .cons (.lN 2 rfl rfl rfl) <| .cons (.cP [.tmp 17] rfl rfl rfl rfl (specAffV_fn x) rfl) ?_
  refine .cons (.nt rfl rfl) <| .cons (.mv rfl rfl) ?_
  refine AOps.cases 20 _ rfl (fun g20 => ?_) (fun g20 => ?_)
  ·try simp only [zs1, zs2, zs3, zs4, zs5, zs6, zs7] at g20
   refine .cons (.gF rfl rfl rfl) <| .cons (.gF rfl rfl rfl) <| .cons (.gF rfl rfl rfl) <| .cons (.gF rfl rfl rfl) <| .cons (.gF rfl rfl rfl) <| .cons (.gF rfl rfl rfl) <| .cons (.gF rfl rfl rfl) <| .cons (.gF rfl rfl rfl) <| .cons (.pT rfl rfl rfl) <| .nil <| ks_n ?_
   refine ACode.condT rfl (fun _ => ?_) (fun h => by first | (cases h; done) | (simp [*] at h; done) | (exfalso; simp_all; done))
   refine .seq ?_
   have g : bndV d x = false := bnd_no (by first | exact .inl (by assumption) | exact .inr (by omega))
   refine .region <| .cons (.asg rfl rfl) <| .nil <| ks_n <| .ret <| kb_r <| ks_r <| kl_r <| kb_r <| ks_r ?_
   refine kf_ret rfl ?_ nobox
   exact leafB (by rw [accV, sideV, hF, all_drop hx1, g, Bool.false_and, Bool.false_and, Bool.false_and, Bool.and_false])
  ·try simp only [zs1, zs2, zs3, zs4, zs5, zs6, zs7] at g20
   have g20 := g20
   refine .cons (.gT rfl rfl rfl (.fP 1 0 false rfl rfl)) <| .cons (.gT rfl rfl rfl (.l1 1 rfl rfl)) <| .cons (.gT rfl rfl rfl (.mv rfl rfl)) <| .cons (.gT rfl rfl rfl (.xL 91 2 32 rfl rfl rfl rfl rfl)) ?_
   refine .cons (.gT rfl rfl rfl (.lN 2 rfl rfl rfl)) <| .cons (.gT rfl rfl rfl (.cP [.tmp 25] rfl rfl rfl rfl (l1Depth_fn x) rfl)) ?_
   refine .cons (.gT rfl rfl rfl (.mv rfl rfl)) <| .cons (.gT rfl rfl rfl (.gt rfl rfl rfl)) <| .cons (.pF rfl rfl rfl) <| .nil <| ks_n ?_
   refine ACode.condT rfl (fun h29 => ?_) (fun h29 => ?_)
   ·try simp only [zs1, zs2, zs3, zs4, zs5, zs6, zs7] at h29
    refine .seq ?_
    have g : bndV d x = false := bnd_no (by first | exact .inl (by assumption) | exact .inr (by omega))
    refine .region <| .cons (.asg rfl rfl) <| .nil <| ks_n <| .ret <| kb_r <| ks_r <| kl_r <| kb_r <| ks_r ?_
    refine kf_ret rfl ?_ nobox
    exact leafB (by rw [accV, sideV, hF, all_drop hx1, g, Bool.false_and, Bool.false_and, Bool.false_and, Bool.and_false])
   ·try simp only [zs1, zs2, zs3, zs4, zs5, zs6, zs7] at h29
    replace h29 : ¬ d < affDepth x := by omega
    refine .skip <| kb_n <| ks_n <| .region <| .cons (.mv rfl rfl) <| .cons (.pl rfl rfl rfl) <| .cons (.asg rfl rfl) <| .nil ?_
    refine kl_k [] ⟨i + 1, rfl, by omega, by rw [hF, all_drop hx1, bnd_yes g20 h29, Bool.true_and], rfl⟩ ⟨ks rfl .dt, ks rfl .dt, ks rfl .dt, ks rfl .dt, trivial⟩
 ·skip
  have hA : a.2.all (bndV d) = true := by rw [hF, List.drop_of_length_le (by omega)]; rfl
  refine .exit <| ks_e <| kl_e <| kb_hit <| ks_n <| .seq <| .region <| .cons (.fP 0 0 false rfl rfl) <| .cons (.l1 1 rfl rfl) <| .cons (St1.lenS rfl rfl rfl rfl rfl (by kernel_rfl) rfl) ?_
  refine .cons (.eq rfl rfl rfl) <| .cons (.mv rfl rfl) ?_
  refine .cD 34 rfl (fun g34 => ?_) (fun g34 => ?_)
  ·skip
   have h1s : a.1.size = 1 := by omega
   have hAr := arr_leaf h1s
   refine .cons (.gT rfl rfl rfl (.fP 0 0 false rfl rfl)) <| .cons (.gT rfl rfl rfl (.l1 1 rfl rfl)) <| .cons (.gT rfl rfl rfl (St1.geS rfl rfl rfl)) <| .cons (.pT rfl rfl rfl) <| .cons (.mv rfl rfl) ?_
   refine AOps.cases 39 _ rfl (fun g39 => ?_) (fun g39 => ?_)
   ·try simp only [zs1, zs2, zs3, zs4, zs5, zs6, zs7] at g39
    refine .cons (.gT rfl rfl rfl (.fP 0 0 false rfl rfl)) <| .cons (.gT rfl rfl rfl (.l1 1 rfl rfl)) <| .cons (.gT rfl rfl rfl (St1.leS rfl rfl rfl)) <| .cons (.pT rfl rfl rfl) <| .cons (.mv rfl rfl) ?_
    refine AOps.cases 44 _ rfl (fun g44 => ?_) (fun g44 => ?_)
    ·try simp only [zs1, zs2, zs3, zs4, zs5, zs6, zs7] at g44
     refine .cons (.gT rfl rfl rfl (.fP 1 0 false rfl rfl)) <| .cons (.gT rfl rfl rfl (.l1 1 rfl rfl)) <| .cons (.gT rfl rfl rfl (.ln 91 2 32 rfl rfl rfl)) <| .cons (.gT rfl rfl rfl (.ge rfl rfl rfl)) <| .cons (.pT rfl rfl rfl) <| .cons (.mv rfl rfl) ?_
     refine AOps.cases 50 _ rfl (fun g50 => ?_) (fun g50 => ?_)
     ·try simp only [zs1, zs2, zs3, zs4, zs5, zs6, zs7] at g50
      refine .cons (.gT rfl rfl rfl (.fP 1 0 false rfl rfl)) <| .cons (.gT rfl rfl rfl (.l1 1 rfl rfl)) <| .cons (.gT rfl rfl rfl (.ln 91 2 32 rfl rfl rfl)) <| .cons (.gT rfl rfl rfl (.le rfl rfl rfl)) <| .cons (.pT rfl rfl rfl) <| .cons (.asg rfl rfl) <| .nil <| ks_n <| .ret ?_
      refine kf_ret rfl ?_ nobox
      exact leafB (by rw [accV, hAr, sideV, hA]; first | rfl | grind)
     ·try simp only [zs1, zs2, zs3, zs4, zs5, zs6, zs7] at g50
      refine .cons (.gF rfl rfl rfl) <| .cons (.gF rfl rfl rfl) <| .cons (.gF rfl rfl rfl) <| .cons (.gF rfl rfl rfl) <| .cons (.pF rfl rfl rfl) <| .cons (.asg rfl rfl) <| .nil <| ks_n <| .ret ?_
      refine kf_ret rfl ?_ nobox
      exact leafB (by rw [accV, hAr, sideV, hA]; first | rfl | grind)
    ·try simp only [zs1, zs2, zs3, zs4, zs5, zs6, zs7] at g44
     refine .cons (.gF rfl rfl rfl) <| .cons (.gF rfl rfl rfl) <| .cons (.gF rfl rfl rfl) <| .cons (.gF rfl rfl rfl) <| .cons (.pF rfl rfl rfl) <| .cons (.mv rfl rfl) <| .cons (.gF rfl rfl rfl) <| .cons (.gF rfl rfl rfl) <| .cons (.gF rfl rfl rfl) <| .cons (.gF rfl rfl rfl) <| .cons (.pF rfl rfl rfl) <| .cons (.asg rfl rfl) <| .nil <| ks_n <| .ret ?_
     refine kf_ret rfl ?_ nobox
     exact leafB (by rw [accV, hAr, sideV, hA]; first | rfl | grind)
   ·try simp only [zs1, zs2, zs3, zs4, zs5, zs6, zs7] at g39
    refine .cons (.gF rfl rfl rfl) <| .cons (.gF rfl rfl rfl) <| .cons (.gF rfl rfl rfl) <| .cons (.pF rfl rfl rfl) <| .cons (.mv rfl rfl) <| .cons (.gF rfl rfl rfl) <| .cons (.gF rfl rfl rfl) <| .cons (.gF rfl rfl rfl) <| .cons (.gF rfl rfl rfl) <| .cons (.pF rfl rfl rfl) <| .cons (.mv rfl rfl) <| .cons (.gF rfl rfl rfl) <| .cons (.gF rfl rfl rfl) <| .cons (.gF rfl rfl rfl) <| .cons (.gF rfl rfl rfl) <| .cons (.pF rfl rfl rfl) <| .cons (.asg rfl rfl) <| .nil <| ks_n <| .ret ?_
    refine kf_ret rfl ?_ nobox
    exact leafB (by rw [accV, hAr, sideV, hA]; first | rfl | grind)
  ·skip
   have hAr := arrV_size (s := a.1) (by omega)
   refine .cons (.gF rfl rfl rfl) <| .cons (.gF rfl rfl rfl) <| .cons (.gF rfl rfl rfl) <| .cons (.pF rfl rfl rfl) <| .cons (.mv rfl rfl) <| .cons (.gF rfl rfl rfl) <| .cons (.gF rfl rfl rfl) <| .cons (.gF rfl rfl rfl) <| .cons (.pF rfl rfl rfl) <| .cons (.mv rfl rfl) <| .cons (.gF rfl rfl rfl) <| .cons (.gF rfl rfl rfl) <| .cons (.gF rfl rfl rfl) <| .cons (.gF rfl rfl rfl) <| .cons (.pF rfl rfl rfl) <| .cons (.mv rfl rfl) <| .cons (.gF rfl rfl rfl) <| .cons (.gF rfl rfl rfl) <| .cons (.gF rfl rfl rfl) <| .cons (.gF rfl rfl rfl) <| .cons (.pF rfl rfl rfl) <| .cons (.asg rfl rfl) <| .nil <| ks_n <| .ret ?_
   refine kf_ret rfl ?_ nobox
   exact leafB (by rw [accV, hAr, sideV, hA]; first | rfl | grind)

theorem l3Own_fn (d : Nat) (e : Ex) (hr : e.r.2.length ≤ 1099511627776) : Fn Tryz.prog 223 [] [ad (rX e), nat1 (d : Nat)] (.o (bo1 (fldV d e.k e.n e.i e.r))) [] := by
  refine Fn.code0 Tryz.func223 rfl rfl rfl rfl ?_
  refine .seq <| .region <| .cons (St1.boxP rfl rfl rfl rfl rfl rfl) <| .cons (.asg rfl rfl) <| .nil <| ks_n <| .seq <| .seq <| .region <| .cons (.fP 0 0 false rfl rfl) <| .cons (.l1 1 rfl rfl) <| .cons (.eq rfl rfl rfl) <| .nil <| ks_n ?_
  refine .cD rfl (fun h7 => ?_) (fun h7 => ?_)
  · skip
    refine .seq <| .region <| .cons (.fP 1 0 false rfl rfl) <| .cons (.l1 1 rfl rfl) <| .cons (.eq rfl rfl rfl) <| .cons (.mv rfl rfl) ?_
    refine .cD 11 rfl (fun g11 => ?_) (fun g11 => ?_)
    · skip
      refine .cons (.gT rfl rfl rfl (.fP 4 1 true rfl rfl)) <| .cons (.gT rfl rfl rfl (.lN 2 rfl rfl rfl)) <| .cons (.gT rfl rfl rfl (.cP [.tmp 13] rfl rfl rfl rfl (l3Empty_fn _) rfl)) ?_
      refine .cons (.pT rfl rfl rfl) <| .cons (.mv rfl rfl) ?_
      refine AOps.cases 16 _ rfl (fun g16 => ?_) (fun g16 => ?_)
      · try simp only [zs1, zs2, zs3, zs4, zs5, zs6, zs7] at g16
        refine .cons (.gT rfl rfl rfl (.fP 2 1 true rfl rfl)) <| .cons (.gT rfl rfl rfl (.lN 2 rfl rfl rfl)) <| .cons (.gT rfl rfl rfl (.cP [.tmp 18] rfl rfl rfl rfl (specAffV_fn _) rfl)) ?_
        refine .cons (.pT rfl rfl rfl) <| .cons (.mv rfl rfl) ?_
        refine AOps.cases 21 _ rfl (fun g21 => ?_) (fun g21 => ?_)
        · try simp only [zs1, zs2, zs3, zs4, zs5, zs6, zs7] at g21
          refine .cons (.gT rfl rfl rfl (.fP 2 1 true rfl rfl)) <| .cons (.gT rfl rfl rfl (.lN 2 rfl rfl rfl)) <| .cons (.gT rfl rfl rfl (.cP [.tmp 23] rfl rfl rfl rfl (l1Depth_fn _) rfl)) ?_
          refine .cons (.gT rfl rfl rfl (.mv rfl rfl)) <| .cons (.gT rfl rfl rfl (.le rfl rfl rfl)) <| .cons (.pT rfl rfl rfl) <| .cons (.asg rfl rfl) <| .nil <| ks_n <| .ret <| ks_r ?_
          refine kf_ret rfl ?_ nobox
          exact leafB (by rw [fldV, if_neg (show ¬ e.k = 1 by omega), if_pos h7]; cases hA : affV e.i <;> cases hC : nonC e.r <;> first | rfl | grind)
        · try simp only [zs1, zs2, zs3, zs4, zs5, zs6, zs7] at g21
          refine .cons (.gF rfl rfl rfl) <| .cons (.gF rfl rfl rfl) <| .cons (.gF rfl rfl rfl) <| .cons (.gF rfl rfl rfl) <| .cons (.gF rfl rfl rfl) <| .cons (.pF rfl rfl rfl) <| .cons (.asg rfl rfl) <| .nil <| ks_n <| .ret <| ks_r ?_
          refine kf_ret rfl ?_ nobox
          exact leafB (by rw [fldV, if_neg (show ¬ e.k = 1 by omega), if_pos h7]; cases hA : affV e.i <;> cases hC : nonC e.r <;> first | rfl | grind)
      · try simp only [zs1, zs2, zs3, zs4, zs5, zs6, zs7] at g16
        refine .cons (.gF rfl rfl rfl) <| .cons (.gF rfl rfl rfl) <| .cons (.gF rfl rfl rfl) <| .cons (.pF rfl rfl rfl) <| .cons (.mv rfl rfl) <| .cons (.gF rfl rfl rfl) <| .cons (.gF rfl rfl rfl) <| .cons (.gF rfl rfl rfl) <| .cons (.gF rfl rfl rfl) <| .cons (.gF rfl rfl rfl) <| .cons (.pF rfl rfl rfl) <| .cons (.asg rfl rfl) <| .nil <| ks_n <| .ret <| ks_r ?_
        refine kf_ret rfl ?_ nobox
        exact leafB (by rw [fldV, if_neg (show ¬ e.k = 1 by omega), if_pos h7]; cases hA : affV e.i <;> cases hC : nonC e.r <;> first | rfl | grind)
    · skip
      refine .cons (.gF rfl rfl rfl) <| .cons (.gF rfl rfl rfl) <| .cons (.gF rfl rfl rfl) <| .cons (.pF rfl rfl rfl) <| .cons (.mv rfl rfl) <| .cons (.gF rfl rfl rfl) <| .cons (.gF rfl rfl rfl) <| .cons (.gF rfl rfl rfl) <| .cons (.pF rfl rfl rfl) <| .cons (.mv rfl rfl) <| .cons (.gF rfl rfl rfl) <| .cons (.gF rfl rfl rfl) <| .cons (.gF rfl rfl rfl) <| .cons (.gF rfl rfl rfl) <| .cons (.gF rfl rfl rfl) <| .cons (.pF rfl rfl rfl) <| .cons (.asg rfl rfl) <| .nil <| ks_n <| .ret <| ks_r ?_
      refine kf_ret rfl ?_ nobox
      exact leafB (by rw [fldV, if_neg (show ¬ e.k = 1 by omega), if_pos h7]; cases hA : affV e.i <;> cases hC : nonC e.r <;> first | rfl | grind)
  · skip
    refine .skip <| ks_n <| .seq <| .seq <| .region <| .cons (.fP 0 0 false rfl rfl) <| .cons (.l1 1 rfl rfl) <| .cons (.eq rfl rfl rfl) <| .nil <| ks_n ?_
    refine .cD rfl (fun h30 => ?_) (fun h30 => ?_)
    · skip
      refine .seq <| .region <| .cons (.fP 1 0 false rfl rfl) <| .cons (.l1 1 rfl rfl) <| .cons (.eq rfl rfl rfl) <| .cons (.mv rfl rfl) ?_
      refine .cD 34 rfl (fun g34 => ?_) (fun g34 => ?_)
      · skip
        refine .cons (.gT rfl rfl rfl (.fP 2 1 true rfl rfl)) <| .cons (.gT rfl rfl rfl (.lN 2 rfl rfl rfl)) <| .cons (.gT rfl rfl rfl (.cP [.tmp 36] rfl rfl rfl rfl (l3None_fn _) rfl)) ?_
        refine .cons (.pT rfl rfl rfl) <| .cons (.mv rfl rfl) ?_
        refine AOps.cases 39 _ rfl (fun g39 => ?_) (fun g39 => ?_)
        · try simp only [zs1, zs2, zs3, zs4, zs5, zs6, zs7] at g39
          refine .cons (.gT rfl rfl rfl (.fP 4 1 true rfl rfl)) <| .cons (.gT rfl rfl rfl (.lN 2 rfl rfl rfl)) <| .cons (.gT rfl rfl rfl (.mv rfl rfl)) <| .cons (.gT rfl rfl rfl (.cP [.tmp 41, .tmp 42] rfl rfl rfl rfl (l3Access_fn d _ hr) rfl)) ?_
          refine .cons (.pT rfl rfl rfl) <| .cons (.asg rfl rfl) <| .nil <| ks_n <| .ret <| ks_r ?_
          refine kf_ret rfl ?_ nobox
          exact leafB (by rw [fldV, if_neg (show ¬ e.k = 1 by omega), if_neg h7, if_pos h30]; cases hA : nonA e.i <;> cases hC : accV d e.r <;> first | rfl | grind)
        · try simp only [zs1, zs2, zs3, zs4, zs5, zs6, zs7] at g39
          refine .cons (.gF rfl rfl rfl) <| .cons (.gF rfl rfl rfl) <| .cons (.gF rfl rfl rfl) <| .cons (.gF rfl rfl rfl) <| .cons (.pF rfl rfl rfl) <| .cons (.asg rfl rfl) <| .nil <| ks_n <| .ret <| ks_r ?_
          refine kf_ret rfl ?_ nobox
          exact leafB (by rw [fldV, if_neg (show ¬ e.k = 1 by omega), if_neg h7, if_pos h30]; cases hA : nonA e.i <;> cases hC : accV d e.r <;> first | rfl | grind)
      · skip
        refine .cons (.gF rfl rfl rfl) <| .cons (.gF rfl rfl rfl) <| .cons (.gF rfl rfl rfl) <| .cons (.pF rfl rfl rfl) <| .cons (.mv rfl rfl) <| .cons (.gF rfl rfl rfl) <| .cons (.gF rfl rfl rfl) <| .cons (.gF rfl rfl rfl) <| .cons (.gF rfl rfl rfl) <| .cons (.pF rfl rfl rfl) <| .cons (.asg rfl rfl) <| .nil <| ks_n <| .ret <| ks_r ?_
        refine kf_ret rfl ?_ nobox
        exact leafB (by rw [fldV, if_neg (show ¬ e.k = 1 by omega), if_neg h7, if_pos h30]; cases hA : nonA e.i <;> cases hC : accV d e.r <;> first | rfl | grind)
    · skip
      refine .skip <| ks_n <| .seq <| .seq <| .region <| .cons (.fP 0 0 false rfl rfl) <| .cons (.l1 1 rfl rfl) <| .cons (.eq rfl rfl rfl) <| .nil <| ks_n ?_
      refine .cD rfl (fun h47 => ?_) (fun h47 => ?_)
      · skip
        refine .seq <| .region <| .cons (.fP 1 0 false rfl rfl) <| .cons (.l1 1 rfl rfl) <| .cons (.ge rfl rfl rfl) <| .cons (.mv rfl rfl) ?_
        refine .cD 51 rfl (fun g51 => ?_) (fun g51 => ?_)
        · skip
          refine .cons (.gT rfl rfl rfl (.fP 1 0 false rfl rfl)) <| .cons (.gT rfl rfl rfl (.l1 1 rfl rfl)) <| .cons (.gT rfl rfl rfl (.le rfl rfl rfl)) <| .cons (.pT rfl rfl rfl) <| .cons (.mv rfl rfl) ?_
          refine AOps.cases 56 _ rfl (fun g56 => ?_) (fun g56 => ?_)
          · try simp only [zs1, zs2, zs3, zs4, zs5, zs6, zs7] at g56
            refine .cons (.gT rfl rfl rfl (.fP 2 1 true rfl rfl)) <| .cons (.gT rfl rfl rfl (.lN 2 rfl rfl rfl)) <| .cons (.gT rfl rfl rfl (.cP [.tmp 58] rfl rfl rfl rfl (l3None_fn _) rfl)) ?_
            refine .cons (.pT rfl rfl rfl) <| .cons (.mv rfl rfl) ?_
            refine AOps.cases 61 _ rfl (fun g61 => ?_) (fun g61 => ?_)
            · try simp only [zs1, zs2, zs3, zs4, zs5, zs6, zs7] at g61
              refine .cons (.gT rfl rfl rfl (.fP 4 1 true rfl rfl)) <| .cons (.gT rfl rfl rfl (.lN 2 rfl rfl rfl)) <| .cons (.gT rfl rfl rfl (.cP [.tmp 63] rfl rfl rfl rfl (l3Empty_fn _) rfl)) ?_
              refine .cons (.pT rfl rfl rfl) <| .cons (.asg rfl rfl) <| .nil <| ks_n <| .ret <| ks_r ?_
              refine kf_ret rfl ?_ nobox
              exact leafB (by rw [fldV, if_pos h47, inB]; cases hA : nonA e.i <;> cases hC : nonC e.r <;> first | rfl | grind)
            · try simp only [zs1, zs2, zs3, zs4, zs5, zs6, zs7] at g61
              refine .cons (.gF rfl rfl rfl) <| .cons (.gF rfl rfl rfl) <| .cons (.gF rfl rfl rfl) <| .cons (.pF rfl rfl rfl) <| .cons (.asg rfl rfl) <| .nil <| ks_n <| .ret <| ks_r ?_
              refine kf_ret rfl ?_ nobox
              exact leafB (by rw [fldV, if_pos h47, inB]; cases hA : nonA e.i <;> cases hC : nonC e.r <;> first | rfl | grind)
          · try simp only [zs1, zs2, zs3, zs4, zs5, zs6, zs7] at g56
            refine .cons (.gF rfl rfl rfl) <| .cons (.gF rfl rfl rfl) <| .cons (.gF rfl rfl rfl) <| .cons (.pF rfl rfl rfl) <| .cons (.mv rfl rfl) <| .cons (.gF rfl rfl rfl) <| .cons (.gF rfl rfl rfl) <| .cons (.gF rfl rfl rfl) <| .cons (.pF rfl rfl rfl) <| .cons (.asg rfl rfl) <| .nil <| ks_n <| .ret <| ks_r ?_
            refine kf_ret rfl ?_ nobox
            exact leafB (by rw [fldV, if_pos h47, inB]; cases hA : nonA e.i <;> cases hC : nonC e.r <;> first | rfl | grind)
        · skip
          refine .cons (.gF rfl rfl rfl) <| .cons (.gF rfl rfl rfl) <| .cons (.gF rfl rfl rfl) <| .cons (.pF rfl rfl rfl) <| .cons (.mv rfl rfl) <| .cons (.gF rfl rfl rfl) <| .cons (.gF rfl rfl rfl) <| .cons (.gF rfl rfl rfl) <| .cons (.pF rfl rfl rfl) <| .cons (.mv rfl rfl) <| .cons (.gF rfl rfl rfl) <| .cons (.gF rfl rfl rfl) <| .cons (.gF rfl rfl rfl) <| .cons (.pF rfl rfl rfl) <| .cons (.asg rfl rfl) <| .nil <| ks_n <| .ret <| ks_r ?_
          refine kf_ret rfl ?_ nobox
          exact leafB (by rw [fldV, if_pos h47, inB]; cases hA : nonA e.i <;> cases hC : nonC e.r <;> first | rfl | grind)
      · skip
        refine .skip <| ks_n <| .seq <| .region <| .cons (.fP 1 0 false rfl rfl) <| .cons (.l1 1 rfl rfl) <| .cons (.eq rfl rfl rfl) <| .cons (.mv rfl rfl) ?_
        refine .cD 69 rfl (fun g69 => ?_) (fun g69 => ?_)
        · skip
          refine .cons (.gT rfl rfl rfl (.fP 2 1 true rfl rfl)) <| .cons (.gT rfl rfl rfl (.lN 2 rfl rfl rfl)) <| .cons (.gT rfl rfl rfl (.cP [.tmp 71] rfl rfl rfl rfl (l3None_fn _) rfl)) ?_
          refine .cons (.pT rfl rfl rfl) <| .cons (.mv rfl rfl) ?_
          refine AOps.cases 74 _ rfl (fun g74 => ?_) (fun g74 => ?_)
          · try simp only [zs1, zs2, zs3, zs4, zs5, zs6, zs7] at g74
            refine .cons (.gT rfl rfl rfl (.fP 4 1 true rfl rfl)) <| .cons (.gT rfl rfl rfl (.lN 2 rfl rfl rfl)) <| .cons (.gT rfl rfl rfl (.cP [.tmp 76] rfl rfl rfl rfl (l3Empty_fn _) rfl)) ?_
            refine .cons (.pT rfl rfl rfl) <| .cons (.asg rfl rfl) <| .nil <| ks_n <| .ret ?_
            refine kf_ret rfl ?_ nobox
            exact leafB (by rw [fldV, if_neg h47, if_neg h7, if_neg h30]; cases hA : nonA e.i <;> cases hC : nonC e.r <;> first | rfl | grind)
          · try simp only [zs1, zs2, zs3, zs4, zs5, zs6, zs7] at g74
            refine .cons (.gF rfl rfl rfl) <| .cons (.gF rfl rfl rfl) <| .cons (.gF rfl rfl rfl) <| .cons (.pF rfl rfl rfl) <| .cons (.asg rfl rfl) <| .nil <| ks_n <| .ret ?_
            refine kf_ret rfl ?_ nobox
            exact leafB (by rw [fldV, if_neg h47, if_neg h7, if_neg h30]; cases hA : nonA e.i <;> cases hC : nonC e.r <;> first | rfl | grind)
        · skip
          refine .cons (.gF rfl rfl rfl) <| .cons (.gF rfl rfl rfl) <| .cons (.gF rfl rfl rfl) <| .cons (.pF rfl rfl rfl) <| .cons (.mv rfl rfl) <| .cons (.gF rfl rfl rfl) <| .cons (.gF rfl rfl rfl) <| .cons (.gF rfl rfl rfl) <| .cons (.pF rfl rfl rfl) <| .cons (.asg rfl rfl) <| .nil <| ks_n <| .ret ?_
          refine kf_ret rfl ?_ nobox
          exact leafB (by rw [fldV, if_neg h47, if_neg h7, if_neg h30]; cases hA : nonA e.i <;> cases hC : nonC e.r <;> first | rfl | grind)

theorem shape_zero (d : Nat) (lv : Int) (hl : lv < 1) (e : Ex) (hr : e.r.2.length ≤ 1099511627776) (hkl : e.ks.length ≤ 1099511627776) : Fn Tryz.prog 178 [] [ad (rX e), nat1 (d : Nat), nat1 lv] (.o (bo1 false)) [] := by
 refine Fn.code0 Tryz.func178 rfl rfl rfl rfl ?_
 refine .seq <| .region <| .cons (St1.boxP rfl rfl rfl rfl rfl rfl) <| .cons (.asg rfl rfl) <| .nil <| ks_n <| .seq <| .seq ?_
 refine ACode.drawK (by kernel_rfl) (by kernel_rfl) ?_
 refine .cons (.mv rfl rfl) <| .cons (.ls rfl rfl rfl) <| .cons (.mv rfl rfl) ?_
 refine .cD 10 rfl (fun g10 => ?_) (fun g10 => ?_)
 ·skip
  refine .cons (.gF rfl rfl rfl) <| .cons (.gF rfl rfl rfl) <| .cons (.gF rfl rfl rfl) <| .cons (.gF rfl rfl rfl) <| .cons (.gF rfl rfl rfl) <| .cons (.gF rfl rfl rfl) <| .cons (.gF rfl rfl rfl) <| .cons (.pT rfl rfl rfl) <| .cons (.mv rfl rfl) <| .cons (.gF rfl rfl rfl) <| .cons (.gF rfl rfl rfl) <| .cons (.gF rfl rfl rfl) <| .cons (.gF rfl rfl rfl) <| .cons (.pT rfl rfl rfl) ?_
  refine .nil ⟨by kernel_rfl, ?_⟩
  refine ks_n ?_
  refine ACode.condT rfl (fun _ => ?_) (fun h => by first | (cases h; done) | (simp [*] at h; done) | (exfalso; simp_all; done))
  refine .seq <| .region <| .cons (.asg rfl rfl) <| .nil <| ks_n <| .ret <| ks_r ?_
  refine kf_ret rfl ?_ nobox
  rfl
 ·skip
  exact absurd hl g10

theorem shape_succ (d L : Nat) (lv : Int) (hl : ¬ lv < 1) (hl2 : lv ≤ 100) (e : Ex) (hr : e.r.2.length ≤ 1099511627776) (hkl : e.ks.length ≤ 1099511627776) (ih : ∀ x ∈ e.ks, Fn Tryz.prog 178 [] [ad (rX x), nat1 (d : Nat), nat1 (lv - 1)] (.o (bo1 (exV d L x))) []) : Fn Tryz.prog 178 [] [ad (rX e), nat1 (d : Nat), nat1 lv] (.o (bo1 (exV d (L + 1) e))) [] := by
 refine Fn.code0 Tryz.func178 rfl rfl rfl rfl ?_
 refine .seq <| .region <| .cons (St1.boxP rfl rfl rfl rfl rfl rfl) <| .cons (.asg rfl rfl) <| .nil <| ks_n <| .seq <| .seq ?_
 refine ACode.cut [(.t 1, .v (.o (nat1 (d : Nat)))), (.t 2, .v (.o (nat1 lv))), (.t 3, .v (.o (.c (.ptr (rX e))))), (.t 6, .v (.o (bo1 false))), (.t 24, .v (.o (bo1 (!(kidV e.k e.ks.length && fldV d e.k e.n e.i e.r)))))] ?_ ?_
 ·skip
  refine ACode.drawK (by kernel_rfl) (by kernel_rfl) ?_
  refine .cons (.mv rfl rfl) <| .cons (.ls rfl rfl rfl) <| .cons (.mv rfl rfl) ?_
  refine .cD 10 rfl (fun g10 => ?_) (fun g10 => ?_)
  ·skip
   exact absurd g10 hl
  ·skip
   refine .cons (.gT rfl rfl rfl (.fP 0 0 false rfl rfl)) <| .cons (.gT rfl rfl rfl (.l1 1 rfl rfl)) <| .cons (.gT rfl rfl rfl (.cP [.tmp 12] rfl rfl rfl rfl (l3Kids_fn _) rfl)) ?_
   refine .cons (.gT rfl rfl rfl (.fP 6 0 false rfl rfl)) <| .cons (.gT rfl rfl rfl (.l1 1 rfl rfl)) <| .cons (.gT rfl rfl rfl (.ln 94 7 112 rfl rfl rfl)) <| .cons (.gT rfl rfl rfl (.ne rfl rfl rfl)) <| .cons (.pF rfl rfl rfl) <| .cons (.mv rfl rfl) ?_
   refine RunK.cases 19 _ rfl (fun g19 => ?_) (fun g19 => ?_)
   ·try simp only [zs1, zs2, zs3, zs4, zs5, zs6, zs7] at g19
    refine .cons (.gF rfl rfl rfl) <| .cons (.gF rfl rfl rfl) <| .cons (.gF rfl rfl rfl) <| .cons (.gF rfl rfl rfl) <| .cons (.pT rfl rfl rfl) ?_
    refine .nil ⟨by kernel_rfl, ?_⟩
    exact kc_n (Wk.keep [] rfl rfl ⟨ks rfl .dt, ks rfl .dt, ks rfl .dt, ks rfl .dt, ks rfl (.dt (vB (by rw [kids_eq]; first | rfl | grind))), trivial⟩)
   ·try simp only [zs1, zs2, zs3, zs4, zs5, zs6, zs7] at g19
    refine .cons (.gT rfl rfl rfl (.lN 7 rfl rfl rfl)) <| .cons (.gT rfl rfl rfl (.mv rfl rfl)) <| .cons (.gT rfl rfl rfl (.cP [.tmp 20, .tmp 21] rfl rfl rfl rfl (l3Own_fn d e hr) rfl)) ?_
    refine .cons (.gT rfl rfl rfl (.nt rfl rfl)) <| .cons (.pF rfl rfl rfl) ?_
    refine .nil ⟨by kernel_rfl, ?_⟩
    exact kc_n (Wk.keep [] rfl rfl ⟨ks rfl .dt, ks rfl .dt, ks rfl .dt, ks rfl .dt, ks rfl (.dt (vB (by rw [kids_eq]; first | rfl | grind))), trivial⟩)
 refine ks_n ?_
 refine ACode.condT rfl (fun h24 => ?_) (fun h24 => ?_)
 ·try simp only [zs1, zs2, zs3, zs4, zs5, zs6, zs7] at h24
  refine .seq <| .region <| .cons (.asg rfl rfl) <| .nil <| ks_n <| .ret <| ks_r ?_
  refine kf_ret rfl ?_ nobox
  exact leafB (by rw [exV, h24]; rfl)
 ·try simp only [zs1, zs2, zs3, zs4, zs5, zs6, zs7] at h24
  refine .skip <| ks_n <| .seq <| .seq <| .region <| .cons (.asg rfl rfl) <| .nil <| ks_n <| .block ?_
  refine .loopK (fun m σ => (∃ i : Nat, m = e.ks.length - i ∧ (i ≤ e.ks.length) ∧ (e.ks.all (exV d L) = (e.ks.drop i).all (exV d L)) ∧ σ = [(.t 1, .v (.o (nat1 (d : Nat)))), (.t 2, .v (.o (nat1 lv))), (.t 3, .v (.o (.c (.ptr (rX e))))), (.t 6, .v (.o (bo1 false))), (.t 7, .v (.o (nat1 (i : Nat))))])) [] ⟨0, rfl, by omega, by simp, rfl⟩ ⟨ks rfl .dt, ks rfl .dt, ks rfl .dt, ks rfl .dt, ks rfl .dt, trivial⟩ ?_
  rintro m σ ⟨i, hm0, hi, hF, rfl⟩
  refine .seq <| .seq <| .region <| .cons (.mv rfl rfl) <| .cons (.fP 6 0 false rfl rfl) <| .cons (.l1 1 rfl rfl) <| .cons (.ln 94 7 112 rfl rfl rfl) <| .cons (.ls rfl rfl rfl) <| .nil <| ks_n ?_
  refine .cD rfl (fun h29 => ?_) (fun h29 => ?_)
  ·skip
   obtain ⟨x, hx1⟩ : ∃ x, e.ks[i]? = some x := ⟨_, List.getElem?_eq_getElem (by omega)⟩
   refine .skip <| ks_n <| .seq <| .block <| .seq <| .region <| .cons (.fP 6 0 false rfl rfl) <| .cons (.l1 1 rfl rfl) <| .cons (.mv rfl rfl) <| .cons (.xL 94 7 112 rfl rfl rfl rfl rfl (rE_at hx1)) ?_
   refine .cons (.lN 7 rfl rfl rfl) <| .cons (.mv rfl rfl) <| .cons (.mv rfl rfl) <| .cons (.sb rfl rfl rfl) <| .cons (.cP [.tmp 36, .tmp 37, .tmp 39] rfl rfl rfl rfl (ih x (List.mem_of_getElem? hx1)) rfl) ?_
   refine .cons (.nt rfl rfl) <| .nil <| ks_n ?_
   refine ACode.condT rfl (fun h41 => ?_) (fun h41 => ?_)
   ·try simp only [zs1, zs2, zs3, zs4, zs5, zs6, zs7] at h41
    refine .seq <| .region <| .cons (.asg rfl rfl) <| .nil <| ks_n <| .ret <| kb_r <| ks_r <| kl_r <| kb_r <| ks_r ?_
    refine kf_ret rfl ?_ nobox
    exact leafB (by rw [exV, h24, hF, all_drop hx1, h41]; rfl)
   ·try simp only [zs1, zs2, zs3, zs4, zs5, zs6, zs7] at h41
    refine .skip <| kb_n <| ks_n <| .region <| .cons (.mv rfl rfl) <| .cons (.pl rfl rfl rfl) <| .cons (.asg rfl rfl) <| .nil ?_
    refine kl_k [] ⟨i + 1, rfl, by omega, by rw [hF, all_drop hx1, h41, Bool.true_and], rfl⟩ ⟨ks rfl .dt, ks rfl .dt, ks rfl .dt, ks rfl .dt, ks rfl .dt, trivial⟩
  ·skip
   refine .exit <| ks_e <| kl_e <| kb_hit <| ks_n <| .seq <| .region <| .cons (.asg rfl rfl) <| .nil <| ks_n <| .ret ?_
   refine kf_ret rfl ?_ nobox
   exact leafB (by rw [exV, h24, hF, List.drop_of_length_le (by omega)]; rfl)

theorem szE_parts {e : Ex} (hs : szE e ≤ 1099511627776) : e.i.1.length ≤ 1099511627776 ∧ e.r.2.length ≤ 1099511627776 ∧ e.ks.length ≤ 1099511627776 ∧ ∀ x ∈ e.ks, szE x ≤ 1099511627776 := by
  rw [szE_eq, szC] at hs
  have := szAs_len e.r.2
  exact ⟨by omega, by omega, by omega, fun x hx => by have := szEs_mem hx; omega⟩
theorem l3Shape_fn (d : Nat) : ∀ (L : Nat) (lv : Int) (e : Ex), lv = (L : Int) → L ≤ 100 → szE e ≤ 1099511627776 → Fn Tryz.prog 178 [] [ad (rX e), nat1 (d : Nat), nat1 lv] (.o (bo1 (exV d L e))) []
  | 0, lv, e, hd, hL, hs => shape_zero d lv (by omega) e (szE_parts hs).2.1 (szE_parts hs).2.2.1
  | L + 1, lv, e, hd, hL, hs => shape_succ d L lv (by omega) (by omega) e (szE_parts hs).2.1 (szE_parts hs).2.2.1 fun x hx => l3Shape_fn d L (lv - 1) x (by omega) (by omega) ((szE_parts hs).2.2.2 x hx)
theorem cntEs_take {l : List Ex} {i : Nat} {x : Ex} (h : l[i]? = some x) : cntEs (l.take (i + 1)) = cntEs (l.take i) + cntE x := by
  have key : ∀ (a : List Ex) (x : Ex), cntEs (a ++ [x]) = cntEs a + cntE x := by
    intro a x
    induction a with
    | nil => simp [cntEs]
    | cons y a ih => rw [List.cons_append, cntEs, cntEs, ih]; omega
  rw [List.take_add_one, h]
  exact key _ _
theorem cnt_bd {d : Nat} : ∀ {L : Nat} {e : Ex}, exV d L e = true → cntE e + 1 ≤ 2 ^ L
  | 0, e, h => by cases h
  | L + 1, e, h => by
    rw [exV, Bool.and_eq_true, Bool.and_eq_true] at h
    rw [cntE_eq]
    have hp : 1 ≤ 2 ^ L := Nat.one_le_two_pow
    rcases kidV_len h.1.1 with h1 | h1
    · rw [List.eq_nil_of_length_eq_zero h1, cntEs, Nat.pow_succ]; omega
    · obtain ⟨x, y, h2⟩ := two_of h1
      have h3 := h.2
      rw [h2, List.all_cons, List.all_cons, Bool.and_eq_true, Bool.and_eq_true] at h3
      have := cnt_bd h3.1
      have := cnt_bd h3.2.1
      rw [h2, cntEs, cntEs, cntEs, Nat.pow_succ]; omega
theorem exV_kids {d L : Nat} {e : Ex} (h : exV d L e = true) : e.ks.length ≤ 2 ∧ ∀ x ∈ e.ks, exV d (L - 1) x = true := by
  cases L with
  | zero => cases h
  | succ L =>
    rw [exV, Bool.and_eq_true, Bool.and_eq_true] at h
    exact ⟨by have := kidV_len h.1.1; omega, fun x hx => List.all_eq_true.1 h.2 x hx⟩

theorem l3Count_one (d L : Nat) (lv : Int) (hl : 0 < lv) (hl2 : lv ≤ 100) (e : Ex) (hk2 : e.ks.length ≤ 2) (hb : ∀ x ∈ e.ks, cntE x ≤ 1000) (ih : ∀ x ∈ e.ks, Fn Tryz.prog 179 [] [ad (rX x), nat1 (lv - 1)] (.o (nat1 (cntE x : Nat))) []) : Fn Tryz.prog 179 [] [ad (rX e), nat1 lv] (.o (nat1 (cntE e : Nat))) [] := by
 refine Fn.code0 Tryz.func179 rfl rfl rfl rfl ?_
 refine .seq <| .region <| .cons (St1.boxP rfl rfl rfl rfl rfl rfl) <| .cons (.asg rfl rfl) <| .nil <| ks_n <| .seq <| .region <| .cons (.asg rfl rfl) <| .nil <| ks_n <| .seq <| .seq <| .region <| .cons (.asg rfl rfl) <| .nil <| ks_n <| .block ?_
 refine .loopK (fun m σ => (∃ i : Nat, m = e.ks.length - i ∧ (i ≤ e.ks.length) ∧ (cntEs (e.ks.take i) ≤ 1000 * i) ∧ σ = [(.t 1, .v (.o (nat1 lv))), (.t 2, .v (.o (.c (.ptr (rX e))))), (.t 5, .v (.o (nat1 ((1 + cntEs (e.ks.take i) : Nat))))), (.t 6, .v (.o (nat1 (i : Nat))))])) [] ⟨0, rfl, by omega, by simp [cntEs], rfl⟩ ⟨ks rfl .dt, ks rfl .dt, ks rfl (.dt (vI (by first | (simp [cntEs]; done) | (rw [cntEs_take hx1]; omega)))), ks rfl .dt, trivial⟩ ?_
 rintro m σ ⟨i, hm0, hi, hF, rfl⟩
 refine .seq <| .seq <| .region <| .cons (.mv rfl rfl) <| .cons (.fP 6 0 false rfl rfl) <| .cons (.l1 1 rfl rfl) <| .cons (.ln 94 7 112 rfl rfl rfl) <| .cons (.ls rfl rfl rfl) <| .cons (.mv rfl rfl) ?_
 refine .cD 12 rfl (fun g12 => ?_) (fun g12 => ?_)
 ·skip
  obtain ⟨x, hx1⟩ : ∃ x, e.ks[i]? = some x := ⟨_, List.getElem?_eq_getElem (by omega)⟩
  have hbx := hb x (List.mem_of_getElem? hx1)
  refine .cons (.gT rfl rfl rfl (.mv rfl rfl)) <| .cons (.gT rfl rfl rfl (.gt rfl rfl rfl)) <| .cons (.pT rfl rfl rfl) <| .nil <| ks_n ?_
  refine ACode.condT rfl (fun h15 => ?_) (fun h15 => ?_)
  ·try simp only [zs1, zs2, zs3, zs4, zs5, zs6, zs7] at h15
   refine .skip <| ks_n <| .seq <| .block <| .region <| .cons (.mv rfl rfl) <| .cons (.fP 6 0 false rfl rfl) <| .cons (.l1 1 rfl rfl) <| .cons (.mv rfl rfl) <| .cons (.xL 94 7 112 rfl rfl rfl rfl rfl (rE_at hx1)) ?_
   refine .cons (.lN 7 rfl rfl rfl) <| .cons (.mv rfl rfl) <| .cons (.sb rfl rfl rfl) <| .cons (.cP [.tmp 23, .tmp 25] rfl rfl rfl rfl (ih x (List.mem_of_getElem? hx1)) rfl) ?_
   refine .cons (.pl rfl rfl rfl) <| .cons (.asg rfl rfl) <| .nil <| kb_n <| ks_n <| .region <| .cons (.mv rfl rfl) <| .cons (.pl rfl rfl rfl) <| .cons (.asg rfl rfl) <| .nil ?_
   refine kl_k [] ⟨i + 1, rfl, by omega, by rw [cntEs_take hx1]; omega, rfl⟩ ⟨ks rfl .dt, ks rfl .dt, ks rfl (.dt (vI (by first | (simp [cntEs]; done) | (rw [cntEs_take hx1]; omega)))), ks rfl .dt, trivial⟩
  ·try simp only [zs1, zs2, zs3, zs4, zs5, zs6, zs7] at h15
   exact absurd hl h15
 ·skip
  have hall : e.ks.take i = e.ks := List.take_of_length_le (by omega)
  refine .cons (.gF rfl rfl rfl) <| .cons (.gF rfl rfl rfl) <| .cons (.pF rfl rfl rfl) <| .nil <| ks_n ?_
  refine ACode.condT rfl (fun h => by first | (cases h; done) | (simp [*] at h; done) | (exfalso; simp_all; done)) (fun _ => ?_)
  refine .exit <| ks_e <| kl_e <| kb_hit <| ks_n <| .seq <| .region <| .cons (.mv rfl rfl) <| .cons (.asg rfl rfl) <| .nil <| ks_n <| .ret ?_
  refine kf_ret rfl ?_ nobox
  exact leafI (by rw [cntE_eq, hall])

theorem l3Count_fn (d : Nat) : ∀ (L : Nat) (lv : Int) (e : Ex), lv = (L : Int) → L ≤ 6 → exV d L e = true → Fn Tryz.prog 179 [] [ad (rX e), nat1 lv] (.o (nat1 (cntE e : Nat))) []
  | 0, lv, e, hd, hL, h => by cases h
  | L + 1, lv, e, hd, hL, h => l3Count_one d L lv (by omega) (by omega) e (exV_kids h).1 (fun x hx => by
      have h1 := cnt_bd ((exV_kids h).2 x hx)
      have h2 : 2 ^ (L + 1 - 1) ≤ 2 ^ 6 := Nat.pow_le_pow_right (by omega) (by omega)
      omega) fun x hx => l3Count_fn d L (lv - 1) x (by omega) (by omega) ((exV_kids h).2 x hx)
theorem l3Access_fi {d : Int} (h : ((d.toNat : Nat) : Int) = d) (a : Acc) (ha : a.2.length ≤ 1099511627776) : Fn Tryz.prog 177 [] [ad (rC a), nat1 d] (.o (bo1 (accV d.toNat a))) [] := by
  have h2 := l3Access_fn d.toNat a ha
  rw [h] at h2; exact h2
theorem l3Shape_fi {d : Int} (h : ((d.toNat : Nat) : Int) = d) (e : Ex) (hs : szE e ≤ 1099511627776) : Fn Tryz.prog 178 [] [ad (rX e), nat1 d, nat1 5] (.o (bo1 (exV d.toNat 5 e))) [] := by
  have h2 := l3Shape_fn d.toNat 5 5 e rfl (by omega) hs
  rw [h] at h2; exact h2

theorem specStmtV_fn (d : Int) (s : Stm) (hs : szS s ≤ 1099511627776) : Fn Tryz.prog 135 [] [ad (rS s), nat1 d] (.o (bo1 (stmtV d s))) [] := by
 obtain ⟨hs1, hs2⟩ := szS_parts hs
 refine Fn.code0 Tryz.func135 rfl rfl rfl rfl ?_
 refine .seq <| .region <| .cons (St1.boxP rfl rfl rfl rfl rfl rfl) <| .cons (.asg rfl rfl) <| .nil <| ks_n <| .seq <| .seq ?_
 refine ACode.cut [(.t 2, .v (.o (.c (.ptr (rS s))))), (.t 4, .v (.o (bo1 false))), (.t 24, .v (.o (bo1 (!(inB d 0 4 && (accV d.toNat s.1 && exV d.toNat 5 s.2))))))] ?_ ?_
 ·skip
  refine .region <| .cons (.mv rfl rfl) <| .cons (.ls rfl rfl rfl) <| .cons (.mv rfl rfl) ?_
  refine .cD 7 rfl (fun g7 => ?_) (fun g7 => ?_)
  ·skip
   refine .cons (.gF rfl rfl rfl) <| .cons (.gF rfl rfl rfl) <| .cons (.pT rfl rfl rfl) <| .cons (.mv rfl rfl) <| .cons (.gF rfl rfl rfl) <| .cons (.gF rfl rfl rfl) <| .cons (.gF rfl rfl rfl) <| .cons (.gF rfl rfl rfl) <| .cons (.gF rfl rfl rfl) <| .cons (.pT rfl rfl rfl) <| .cons (.mv rfl rfl) <| .cons (.gF rfl rfl rfl) <| .cons (.gF rfl rfl rfl) <| .cons (.gF rfl rfl rfl) <| .cons (.gF rfl rfl rfl) <| .cons (.gF rfl rfl rfl) <| .cons (.pT rfl rfl rfl) <| .nil ?_
   exact kc_n (Wk.keep [] rfl rfl ⟨ks rfl .dt, ks rfl .dt, ks rfl (.dt (vB (by rw [inB]; cases hq1 : accV d.toNat s.1 <;> cases hq2 : exV d.toNat 5 s.2 <;> first | rfl | grind))), trivial⟩)
  ·skip
   refine .cons (.gT rfl rfl rfl (.mv rfl rfl)) <| .cons (.gT rfl rfl rfl (.gt rfl rfl rfl)) <| .cons (.pF rfl rfl rfl) <| .cons (.mv rfl rfl) ?_
   refine AOps.cases 11 _ rfl (fun g11 => ?_) (fun g11 => ?_)
   ·try simp only [zs1, zs2, zs3, zs4, zs5, zs6, zs7] at g11
    refine .cons (.gF rfl rfl rfl) <| .cons (.gF rfl rfl rfl) <| .cons (.gF rfl rfl rfl) <| .cons (.gF rfl rfl rfl) <| .cons (.gF rfl rfl rfl) <| .cons (.pT rfl rfl rfl) <| .cons (.mv rfl rfl) <| .cons (.gF rfl rfl rfl) <| .cons (.gF rfl rfl rfl) <| .cons (.gF rfl rfl rfl) <| .cons (.gF rfl rfl rfl) <| .cons (.gF rfl rfl rfl) <| .cons (.pT rfl rfl rfl) <| .nil ?_
    exact kc_n (Wk.keep [] rfl rfl ⟨ks rfl .dt, ks rfl .dt, ks rfl (.dt (vB (by rw [inB]; cases hq1 : accV d.toNat s.1 <;> cases hq2 : exV d.toNat 5 s.2 <;> first | rfl | grind))), trivial⟩)
   ·try simp only [zs1, zs2, zs3, zs4, zs5, zs6, zs7] at g11
    have hD : ((d.toNat : Nat) : Int) = d := by omega
    refine .cons (.gT rfl rfl rfl (.fP 0 1 true rfl rfl)) <| .cons (.gT rfl rfl rfl (.lN 2 rfl rfl rfl)) <| .cons (.gT rfl rfl rfl (.mv rfl rfl)) <| .cons (.gT rfl rfl rfl (.cP [.tmp 13, .tmp 14] rfl rfl rfl rfl (l3Access_fi hD s.1 hs1) rfl)) ?_
    refine .cons (.gT rfl rfl rfl (.nt rfl rfl)) <| .cons (.pF rfl rfl rfl) <| .cons (.mv rfl rfl) ?_
    refine AOps.cases 18 _ rfl (fun g18 => ?_) (fun g18 => ?_)
    ·try simp only [zs1, zs2, zs3, zs4, zs5, zs6, zs7] at g18
     refine .cons (.gF rfl rfl rfl) <| .cons (.gF rfl rfl rfl) <| .cons (.gF rfl rfl rfl) <| .cons (.gF rfl rfl rfl) <| .cons (.gF rfl rfl rfl) <| .cons (.pT rfl rfl rfl) <| .nil ?_
     exact kc_n (Wk.keep [] rfl rfl ⟨ks rfl .dt, ks rfl .dt, ks rfl (.dt (vB (by rw [inB]; cases hq1 : accV d.toNat s.1 <;> cases hq2 : exV d.toNat 5 s.2 <;> first | rfl | grind))), trivial⟩)
    ·try simp only [zs1, zs2, zs3, zs4, zs5, zs6, zs7] at g18
     refine .cons (.gT rfl rfl rfl (.fP 2 6 true rfl rfl)) <| .cons (.gT rfl rfl rfl (.lN 7 rfl rfl rfl)) <| .cons (.gT rfl rfl rfl (.mv rfl rfl)) <| .cons (.gT rfl rfl rfl (.cP [.tmp 20, .tmp 21, .const (.int .i64 (5))] rfl rfl rfl rfl (l3Shape_fi hD s.2 hs2) rfl)) ?_
     refine .cons (.gT rfl rfl rfl (.nt rfl rfl)) <| .cons (.pF rfl rfl rfl) <| .nil ?_
     exact kc_n (Wk.keep [] rfl rfl ⟨ks rfl .dt, ks rfl .dt, ks rfl (.dt (vB (by rw [inB]; cases hq1 : accV d.toNat s.1 <;> cases hq2 : exV d.toNat 5 s.2 <;> first | rfl | grind))), trivial⟩)
 refine ks_n ?_
 refine ACode.condT rfl (fun h24 => ?_) (fun h24 => ?_)
 ·try simp only [zs1, zs2, zs3, zs4, zs5, zs6, zs7] at h24
  refine .seq <| .region <| .cons (.asg rfl rfl) <| .nil <| ks_n <| .ret <| ks_r ?_
  refine kf_ret rfl ?_ nobox
  exact leafB (by rw [stmtV, ← Bool.and_assoc, h24]; rfl)
 ·try simp only [zs1, zs2, zs3, zs4, zs5, zs6, zs7] at h24
  have hX : exV d.toNat 5 s.2 = true := by simp only [Bool.and_eq_true] at h24; exact h24.2.2
  have hI : inB d 0 4 = true := by simp only [Bool.and_eq_true] at h24; exact h24.1
  have hA : accV d.toNat s.1 = true := by simp only [Bool.and_eq_true] at h24; exact h24.2.1
  refine .skip <| ks_n <| .seq <| .region <| .cons (.fP 2 6 true rfl rfl) <| .cons (.lN 7 rfl rfl rfl) <| .cons (.cP [.tmp 26, .const (.int .i64 (5))] rfl rfl rfl rfl (l3Count_fn d.toNat 5 5 s.2 rfl (by omega) hX) rfl) ?_
  refine .cons (.le rfl rfl rfl) <| .cons (.asg rfl rfl) <| .nil <| ks_n <| .ret ?_
  refine kf_ret rfl ?_ nobox
  exact leafB (by rw [stmtV, hI, hA, hX]; simp; omega)
theorem RetA2.mono {P Q : Nat → Prop} {x : Aff} {ok : Bool} {w : World} {e : Ending} {w' : World} (hp : ∀ b, P b → Q b) (h : RetA2 P x ok w e w') : RetA2 Q x ok w e w' := by
  obtain ⟨v, e, ha, hb⟩ := h
  exact ⟨v, e, ha.mono fun b hb _ => hp b hb, hb⟩
theorem dR_af (f : Aff → Aff) (l : List Aff) : dR ((l.take l.length).map fun x => rA (f x)) = dR ((l.map f).map rA) := by
  rw [List.take_length, List.map_map]; rfl

theorem l3CopyAff_fn {x : Aff} (hx : x.1.length ≤ 1073741824) : Fn Tryz.prog 184 [] [ad (rA x)] (.o (ad (rA x))) [] := by
 refine Fn.code0 Tryz.func184 rfl rfl rfl rfl ?_
 refine .seq <| .region <| .cons (St1.boxP rfl rfl rfl rfl rfl rfl) <| .cons (.al 102 [.slice none 0 0, .int .i64 0] rfl rfl rfl) <| .nil <| ks_n <| .seq <| .seq <| .region <| .cons (.fP 0 0 false rfl rfl) <| .cons (.l1 1 rfl rfl) <| .cons (.ln 3 1 8 rfl rfl rfl) <| .cons (.eq rfl rfl rfl) <| .nil <| ks_n ?_
 refine .cD rfl (fun h6 => ?_) (fun h6 => ?_)
 ·skip
  have hn : x.1 = [] := List.eq_nil_of_length_eq_zero (by omega)
  refine .seq <| .region <| .cons (.fP 1 0 false rfl rfl) <| .cons (.l1 1 rfl rfl) <| .cons (.bu [(1, .tmp 8)] [(0, 1), (1, 1)] [.slice none 0 0, .int .i64 0] rfl rfl rfl rfl rfl) <| .cons (.sT 2 true rfl rfl rfl rfl rfl rfl rfl) <| .nil <| ks_n <| .ret <| ks_r ?_
  refine kf_wret [(.t 2, .v (.o (.c (.box 100 2 0 0)))), (.b 100, .b 91 2 [[.d (dIs x.1), .d (dI x.2)]]), (.u 100, .u)] (Wk.keep [(100, 102)] rfl rfl ⟨ks rfl (.c .bx), kb 102 rfl (.cons (.cons (Cto.nilE 1 (by rw [hn]; rfl)) (.cons .dt Ctos.nil)) .nil), trivial⟩) rfl ?_ nobox
  rfl
 ·skip
  refine .skip <| ks_n <| .seq ?_
  refine ACode.drawK (by kernel_rfl) (by kernel_rfl) ?_
  refine .cons (St1.lit0 (k' := 110) (e := 3) (sz := 1) (b := true) rfl rfl rfl rfl (by kernel_rfl) rfl rfl) ?_
  refine .cons (.fP 0 0 false rfl rfl) <| .cons (.l1 1 rfl rfl) <| .cons (St1.appD (rows := []) (e := 3) (sz := 0) (by' := 8) rfl rfl rfl rfl rfl (by kernel_rfl) rfl rfl rfl rfl rfl (by simp; omega) rfl) ?_
  refine .cons (.fP 1 0 false rfl rfl) <| .cons (.l1 1 rfl rfl) <| .cons (.bu [(0, .tmp 13), (1, .tmp 15)] [(0, 1), (1, 1)] [.slice none 0 0, .int .i64 0] rfl rfl rfl rfl rfl) <| .cons (.sT 2 true rfl rfl rfl rfl rfl rfl rfl) ?_
  refine .nil ⟨by kernel_rfl, ?_⟩
  refine ks_n <| .ret ?_
  refine kf_wret [(.t 2, .v (.o (.c (.box 100 2 0 0)))), (.b 100, .b 91 2 [[.d (dIs x.1), .d (dI x.2)]]), (.u 100, .u)] (Wk.keep [(100, 102)] rfl rfl ⟨ks rfl (.c .bx), kb 102 rfl (.cons (.cons (.dt) (.cons .dt Ctos.nil)) .nil), trivial⟩) rfl ?_ nobox
  rfl

theorem l3CopyAcc_fn (a : Acc) (ha : a.2.length ≤ 1073741824) (hq : ∀ x ∈ a.2, x.1.length ≤ 1073741824) : Fn Tryz.prog 140 [] [ad (rC a)] (.o (ad (rC a))) [] := by
 refine Fn.code0 Tryz.func140 rfl rfl rfl rfl ?_
 refine .seq <| .region <| .cons (St1.boxP rfl rfl rfl rfl rfl rfl) <| .cons (.al 102 [.string ByteArray.empty, .slice none 0 0] rfl rfl rfl) <| .nil <| ks_n <| .seq <| .region <| .cons (.fP 0 0 false rfl rfl) <| .cons (.l1 1 rfl rfl) <| .cons (.bu [(0, .tmp 6)] [(0, 1), (1, 1)] [.string ByteArray.empty, .slice none 0 0] rfl rfl rfl rfl rfl) <| .cons (.al 103 [.string ByteArray.empty, .slice none 0 0] rfl rfl rfl) <| .cons (.sT 2 true rfl rfl rfl rfl rfl rfl rfl) <| .nil <| ks_n <| .seq <| .seq <| .region <| .cons (.asg rfl rfl) <| .nil <| ks_n <| .block ?_
 refine .loopK (fun m σ => (∃ i : Nat, m = a.2.length - i ∧ (i = 0) ∧ σ = [(.t 1, .v (.o (.c (.ptr (rC a))))), (.t 2, .v (.o (.c (.box 110 2 0 0)))), (.t 3, .v (.o (.c (.box 111 2 0 0)))), (.t 4, .v (.o (nat1 (i : Nat)))), (.b 110, .b 89 2 [[.d (dS ByteArray.empty), .d (.val (.slice none 0 0))]]), (.u 110, .u), (.b 111, .b 89 2 [[.d (dS a.1), .d (.val (.slice none 0 0))]]), (.u 111, .u)]) ∨ (∃ i : Nat, m = a.2.length - i ∧ (1 ≤ i) ∧ (i ≤ a.2.length) ∧ σ = [(.t 1, .v (.o (.c (.ptr (rC a))))), (.t 2, .v (.o (.c (.box 110 2 0 0)))), (.t 3, .v (.o (.c (.box 111 2 0 0)))), (.t 4, .v (.o (nat1 (i : Nat)))), (.b 110, .b 89 2 [[.d (dS ByteArray.empty), .d (.val (.slice none 0 0))]]), (.u 110, .u), (.b 112, .b 91 2 (dR ((a.2.take i).map rA))), (.u 112, .u), (.b 111, .b 89 2 [[.d (dS a.1), .own 112 2 (i)]]), (.u 111, .u)])) [(110, 102), (111, 103)] (.inl ⟨0, rfl, rfl, rfl⟩) ⟨ks rfl .dt, ks rfl (.c .bx), ks rfl (.c .bx), ks rfl .dt, kb 102 rfl (.cons (.cons .dt (.cons .dt Ctos.nil)) .nil), kb 103 rfl (.cons (.cons .dt (.cons .dt Ctos.nil)) .nil), trivial⟩ ?_
 rintro m σ (⟨i, hm0, rfl, rfl⟩ | ⟨i, hm0, hi1, hi2, rfl⟩)
 ·skip
  refine .seq <| .seq <| .region <| .cons (.mv rfl rfl) <| .cons (.fP 1 0 false rfl rfl) <| .cons (.l1 1 rfl rfl) <| .cons (.ln 91 2 32 rfl rfl rfl) <| .cons (.ls rfl rfl rfl) <| .nil <| ks_n ?_
  refine .cD rfl (fun h12 => ?_) (fun h12 => ?_)
  ·skip
   obtain ⟨x, hx1⟩ : ∃ x, a.2[0]? = some x := ⟨_, List.getElem?_eq_getElem (by omega)⟩
   refine .skip <| ks_n <| .seq <| .block ?_
   refine ACode.drawK (by kernel_rfl) (by kernel_rfl) ?_
   refine .cons (.fB 1 0 false rfl rfl rfl) <| .cons (.b1 1 rfl rfl rfl rfl rfl rfl) <| .cons (.fP 1 0 false rfl rfl) <| .cons (.l1 1 rfl rfl) <| .cons (.mv rfl rfl) <| .cons (.xL 91 2 32 rfl rfl rfl rfl rfl) ?_
   refine .cons (.lN 2 rfl rfl rfl) <| .cons (.cP [.tmp 21] rfl rfl rfl rfl (l3CopyAff_fn (hq x (List.mem_of_getElem? hx1))) rfl) ?_
   refine .cons (.li 91 1 0 [.tmp 22] rfl rfl rfl rfl rfl rfl) <| .cons (St1.appN (k' := 124) (e := 91) (sz := 1) (by' := 32) rfl rfl rfl rfl rfl (by kernel_rfl) rfl rfl rfl (by simp) (by first | (simp [dR]; done) | (simp [dR]; omega)) rfl rfl) ?_
   refine .cons (.fB 1 0 false rfl rfl rfl) <| .cons (.sT 1 false rfl rfl rfl rfl rfl rfl rfl) ?_
   refine .nil ⟨by kernel_rfl, ?_⟩
   refine kb_n <| ks_n <| .region <| .cons (.mv rfl rfl) <| .cons (.pl rfl rfl rfl) <| .cons (.asg rfl rfl) <| .nil ?_
   refine kl_k [(110, 110), (111, 111), (112, 124)] (.inr ⟨1, rfl, by omega, by omega, rfl⟩) ⟨ks rfl .dt, ks rfl (.c .bx), ks rfl (.c .bx), ks rfl .dt, kb 110 rfl (.cons (.cons .dt (.cons .dt Ctos.nil)) .nil), kb 124 rfl (.dt rfl (by first | exact dR_take (rA) hx1 | exact dR_take1 (rA) hx1 | rfl | (simp [dR]; done))), kb 111 rfl (.cons (.cons .dt (.cons .ow Ctos.nil)) .nil), trivial⟩
  ·skip
   have hn : a.2 = [] := List.eq_nil_of_length_eq_zero (by omega)
   refine .exit <| ks_e <| kl_e <| kb_hit <| ks_n <| .seq <| .region <| .cons (.bN 2 rfl rfl rfl rfl rfl rfl) <| .cons (.sT 2 true rfl rfl rfl rfl rfl rfl rfl) <| .nil <| ks_n <| .ret ?_
   refine kf_wret [(.t 2, .v (.o (.c (.box 100 2 0 0)))), (.b 100, .b 89 2 [[.d (dS a.1), .d (dAs a.2)]]), (.u 100, .u)] (Wk.keep [(100, 110)] rfl rfl ⟨ks rfl (.c .bx), kb 110 rfl (.cons (.cons .dt (.cons (Cto.nilE 2 (by rw [hn]; rfl)) Ctos.nil)) .nil), trivial⟩) rfl ?_ nobox
   rfl
 ·skip
  refine .seq <| .seq <| .region <| .cons (.mv rfl rfl) <| .cons (.fP 1 0 false rfl rfl) <| .cons (.l1 1 rfl rfl) <| .cons (.ln 91 2 32 rfl rfl rfl) <| .cons (.ls rfl rfl rfl) <| .nil <| ks_n ?_
  refine .cD rfl (fun h12 => ?_) (fun h12 => ?_)
  ·skip
   obtain ⟨x, hx1⟩ : ∃ x, a.2[i]? = some x := ⟨_, List.getElem?_eq_getElem (by omega)⟩
   refine .skip <| ks_n <| .seq <| .block ?_
   refine ACode.drawK (by kernel_rfl) (by kernel_rfl) ?_
   refine .cons (.fB 1 0 false rfl rfl rfl) <| .cons (.b1 1 rfl rfl rfl rfl rfl rfl) <| .cons (.fP 1 0 false rfl rfl) <| .cons (.l1 1 rfl rfl) <| .cons (.mv rfl rfl) <| .cons (.xL 91 2 32 rfl rfl rfl rfl rfl) ?_
   refine .cons (.lN 2 rfl rfl rfl) <| .cons (.cP [.tmp 21] rfl rfl rfl rfl (l3CopyAff_fn (hq x (List.mem_of_getElem? hx1))) rfl) ?_
   refine .cons (.li 91 1 0 [.tmp 22] rfl rfl rfl rfl rfl rfl) <| .cons (St1.appB (k' := 124) (e := 91) (sz := 1) (by' := 32) rfl rfl rfl rfl rfl (by kernel_rfl) rfl rfl rfl rfl (by first | (simp [dR]; done) | (simp [dR]; omega)) (by first | (simp [dR]; done) | (simp [dR]; omega)) rfl rfl rfl) ?_
   refine .cons (.fB 1 0 false rfl rfl rfl) <| .cons (.sT 1 false rfl rfl rfl rfl rfl rfl rfl) ?_
   refine .nil ⟨by kernel_rfl, ?_⟩
   refine kb_n <| ks_n <| .region <| .cons (.mv rfl rfl) <| .cons (.pl rfl rfl rfl) <| .cons (.asg rfl rfl) <| .nil ?_
   refine kl_k [(110, 110), (111, 111), (112, 124)] (.inr ⟨i + 1, rfl, by omega, by omega, rfl⟩) ⟨ks rfl .dt, ks rfl (.c .bx), ks rfl (.c .bx), ks rfl .dt, kb 110 rfl (.cons (.cons .dt (.cons .dt Ctos.nil)) .nil), kb 124 rfl (.dt rfl (by first | exact dR_take (rA) hx1 | exact dR_take1 (rA) hx1 | rfl | (simp [dR]; done))), kb 111 rfl (.cons (.cons .dt (.cons .ow Ctos.nil)) .nil), trivial⟩
  ·skip
   obtain rfl : i = a.2.length := by omega
   refine .exit <| ks_e <| kl_e <| kb_hit <| ks_n <| .seq <| .region <| .cons (.bN 2 rfl rfl rfl rfl rfl rfl) <| .cons (.sT 2 true rfl rfl rfl rfl rfl rfl rfl) <| .nil <| ks_n <| .ret ?_
   refine kf_wret [(.t 2, .v (.o (.c (.box 100 2 0 0)))), (.b 100, .b 89 2 [[.d (dS a.1), .d (dAs a.2)]]), (.u 100, .u)] (Wk.keep [(100, 110)] rfl rfl ⟨ks rfl (.c .bx), kb 110 rfl (.cons (.cons .dt (.cons (.fz rfl (by first | rfl | exact dR_af _ _ | (rw [List.take_length]; done)) (by first | rfl | (simp; done) | (simp; omega)) (by omega)) Ctos.nil)) .nil), trivial⟩) rfl ?_ nobox
   rfl
theorem rdE_eq (e : Ex) : rdE e = (if e.k = 3 then [e.r] else []) ++ rdEs e.ks := by cases e; rw [rdE]; rfl
theorem rdEs_take {l : List Ex} {i : Nat} {x : Ex} (h : l[i]? = some x) : rdEs (l.take (i + 1)) = rdEs (l.take i) ++ rdE x := by
  have key : ∀ (a : List Ex) (x : Ex), rdEs (a ++ [x]) = rdEs a ++ rdE x := by
    intro a x
    induction a with
    | nil => simp [rdEs]
    | cons y a ih => rw [List.cons_append, rdEs, rdEs, ih, List.append_assoc]
  rw [List.take_add_one, h]
  exact key _ _
mutual
theorem rdE_len : ∀ e : Ex, (rdE e).length ≤ cntE e
  | .mk k n i r ks => by
    rw [rdE, cntE, List.length_append]
    have := rdEs_len ks
    split
    · simp; omega
    · simp; omega
theorem rdEs_len : ∀ l : List Ex, (rdEs l).length ≤ cntEs l
  | [] => by simp [rdEs]
  | e :: l => by
    rw [rdEs, cntEs, List.length_append]
    have := rdE_len e
    have := rdEs_len l
    omega
end
theorem cntEs_le {l : List Ex} {i : Nat} : cntEs (l.take i) ≤ cntEs l := by
  induction l generalizing i with
  | nil => simp [cntEs]
  | cons y l ih =>
    cases i with
    | zero => simp [cntEs]
    | succ i => rw [List.take_succ_cons, cntEs, cntEs]; have := ih (i := i); omega
theorem cnt64 {d L : Nat} {e : Ex} (h : exV d L e = true) (hL : L ≤ 6) : cntE e ≤ 64 := by
  have h1 := cnt_bd h
  have : 2 ^ L ≤ 2 ^ 6 := Nat.pow_le_pow_right (by omega) hL
  omega
theorem kids64 {e : Ex} {i : Nat} (h : cntE e ≤ 64) : (rdEs (e.ks.take i)).length ≤ 64 := by
  have h1 := rdEs_len (e.ks.take i)
  have h2 := cntEs_le (l := e.ks) (i := i)
  rw [cntE_eq] at h
  omega
theorem leaf_nil {d L : Nat} {e : Ex} (h : exV d L e = true) (hk : 1 ≤ e.k ∧ e.k ≤ 3) : e.ks = [] := by
  cases L with
  | zero => cases h
  | succ L =>
    rw [exV, Bool.and_eq_true, Bool.and_eq_true] at h
    have h1 := h.1.1
    rw [kidV, if_pos hk] at h1
    exact List.eq_nil_of_length_eq_zero (of_decide_eq_true h1)
theorem dR_apC (a b : List Acc) : dR (a.map rC) ++ (b.map rC).map (·.map C.d) = dR ((a ++ b).map rC) := by rw [dR_app, List.map_append]

theorem reads_one (e : Ex) {d L : Nat} (hv : exV d L e = true) (hcn : cntE e ≤ 64) (ih : ∀ x ∈ e.ks, Fn Tryz.prog 61 [] [ad (rX x)] (.o (vD (dCs (rdE x)))) []) : Fn Tryz.prog 61 [] [ad (rX e)] (.o (vD (dCs (rdE e)))) [] := by
  have hkl := (exV_kids hv).1
  refine Fn.code0 Tryz.func61 rfl rfl rfl rfl ?_
  refine .seq <| .region <| .cons (St1.boxP rfl rfl rfl rfl rfl rfl) <| .cons (.asg rfl rfl) <| .nil <| ks_n <| .seq <| .seq <| .region <| .cons (.fP 0 0 false rfl rfl) <| .cons (.l1 1 rfl rfl) <| .cons (.eq rfl rfl rfl) <| .nil <| ks_n ?_
  refine .cD rfl (fun h8 => ?_) (fun h8 => ?_)
  · skip
    refine .seq <| .region <| .cons (.fP 4 1 true rfl rfl) <| .cons (.lN 2 rfl rfl rfl) <| .cons (.li 89 1 0 [.tmp 10] rfl rfl rfl rfl rfl rfl) <| .cons (.asg rfl rfl) <| .nil <| ks_n <| .ret <| ks_r ?_
    refine kf_wret [(.t 2, .v (.o (vD (dCs (rdE e)))))] (Wk.keep [] rfl rfl ⟨ks rfl (.dt (by rw [rdE_eq, if_pos h8, leaf_nil hv (by omega)]; rfl)), trivial⟩) rfl ?_ nobox
    rfl
  · skip
    refine .skip <| ks_n <| .seq <| .region <| .cons (.asg rfl rfl) <| .nil <| ks_n <| .seq <| .seq <| .region <| .cons (.fP 6 0 false rfl rfl) <| .cons (.l1 1 rfl rfl) <| .cons (.ln 94 7 112 rfl rfl rfl) <| .cons (.mv rfl rfl) <| .nil <| ks_n <| .block ?_
    refine .loopK (fun m σ => (∃ i : Nat, m = e.ks.length - i ∧ (i ≤ e.ks.length) ∧ (rdEs (e.ks.take i) = []) ∧ σ = [(.t 1, .v (.o (.c (.ptr (rX e))))), (.t 2, .v (.o (.c (.d (.val (.slice none 0 0)))))), (.t 3, .v (.o (.c (.d (.val (.slice none 0 0)))))), (.t 13, .v (.o (vD (dEs e.ks)))), (.t 14, .v (.o (nat1 (e.ks.length : Nat)))), (.t 15, .v (.o (nat1 (i : Nat))))]) ∨ (∃ i : Nat, m = e.ks.length - i ∧ (i ≤ e.ks.length) ∧ (0 < (rdEs (e.ks.take i)).length) ∧ σ = [(.t 1, .v (.o (.c (.ptr (rX e))))), (.t 2, .v (.o (.c (.d (.val (.slice none 0 0)))))), (.t 3, .v (.o (.c (.own 110 2 ((rdEs (e.ks.take i)).length))))), (.t 13, .v (.o (vD (dEs e.ks)))), (.t 14, .v (.o (nat1 (e.ks.length : Nat)))), (.t 15, .v (.o (nat1 (i : Nat)))), (.b 110, .b 89 2 (dR ((rdEs (e.ks.take i)).map rC))), (.u 110, .u)])) [] (.inl ⟨0, rfl, by omega, by simp [rdEs], rfl⟩) ⟨ks rfl .dt, ks rfl .dt, ks rfl .dt, ks rfl .dt, ks rfl .dt, ks rfl .dt, trivial⟩ ?_
    rintro m σ (⟨i, hm0, hi, h0, rfl⟩ | ⟨i, hm0, hi, h0, rfl⟩)
    · skip
      refine .seq <| .region <| .cons (.ls rfl rfl rfl) <| .nil <| ks_n <| .seq ?_
      refine .cD rfl (fun h16 => ?_) (fun h16 => ?_)
      · skip
        obtain ⟨x, hx1⟩ : ∃ x, e.ks[i]? = some x := ⟨_, List.getElem?_eq_getElem (by omega)⟩
        have hmx := List.mem_of_getElem? hx1
        have hT := rdEs_take hx1
        have h64 := kids64 (i := i + 1) hcn
        refine .skip <| ks_n <| .seq <| .block <| .seq <| .region <| .cons (.xL 94 7 112 rfl rfl rfl rfl rfl (rE_at hx1)) ?_
        refine .cons (.lN 7 rfl rfl rfl) <| .cons (.al 105 [.int .i64 0, .int .i64 0, .slice none 0 0, .int .i64 0, .string ByteArray.empty, .slice none 0 0, .slice none 0 0] rfl rfl rfl) <| .cons (.sT 7 true rfl rfl rfl rfl rfl rfl rfl) <| .nil <| ks_n ?_
        by_cases hsp : rdE x = []
        · skip
          refine .region <| .cons (.mv rfl rfl) <| .cons (.bN 7 rfl rfl rfl rfl rfl rfl) <| .cons (.cP [.tmp 20] rfl rfl rfl rfl (ih x hmx) rfl) ?_
          refine .cons (St1.appNE (e := 89) (sz := 1) (by' := 40) rfl rfl rfl rfl rfl (by kernel_rfl) rfl (congrArg (fun l => some (V.o (vD (dCs l)))) hsp)) ?_
          refine .cons (.asg rfl rfl) <| .nil <| kb_n <| ks_n <| .region <| .cons (.pl rfl rfl rfl) <| .cons (.mv rfl rfl) <| .nil ?_
          refine kl_k [] (.inl ⟨i + 1, rfl, by omega, by rw [hT, h0, hsp]; rfl, rfl⟩) ⟨ks rfl .dt, ks rfl .dt, ks rfl .dt, ks rfl .dt, ks rfl .dt, ks rfl .dt, trivial⟩
        · skip
          refine .region <| .cons (.mv rfl rfl) <| .cons (.bN 7 rfl rfl rfl rfl rfl rfl) <| .cons (.cP [.tmp 20] rfl rfl rfl rfl (ih x hmx) rfl) ?_
          refine .cons (St1.appN (k' := 122) (e := 89) (sz := 1) (by' := 40) rfl rfl rfl rfl rfl (by kernel_rfl) rfl rfl rfl (by rw [List.length_map]; exact List.length_pos_iff.2 hsp) (by rw [hT, List.length_append] at h64; simp [dR]; omega) rfl rfl) ?_
          refine .cons (.asg rfl rfl) <| .nil <| kb_n <| ks_n <| .region <| .cons (.pl rfl rfl rfl) <| .cons (.mv rfl rfl) <| .nil ?_
          refine kl_k [(110, 122)] (.inr ⟨i + 1, rfl, by omega, by rw [hT, List.length_append]; have := List.length_pos_iff.2 hsp; omega, rfl⟩) ⟨ks rfl .dt, ks rfl .dt, ks rfl (.c (.ow (by first | (simp [rdEs]; done) | (rw [hT, List.length_append, List.length_map]; done) | (rw [hT, h0, List.length_map]; rfl) | (simp [hT, h0]; done)))), ks rfl .dt, ks rfl .dt, ks rfl .dt, kb 122 rfl (.dt rfl (by first | (rw [hT, ← dR_apC]; done) | (rw [hT, h0]; rfl) | (rw [hT, dR_apC]; done) | (simp [dR, hT, h0]; done))), trivial⟩
      · skip
        have hR : rdEs (e.ks.take i) = rdE e := by rw [List.take_of_length_le (by omega), rdE_eq, if_neg h8]; rfl
        refine .exit <| ks_e <| kl_e <| kb_hit <| ks_n <| .seq <| .region <| .cons (.mv rfl rfl) <| .cons (.asg rfl rfl) <| .nil <| ks_n <| .ret ?_
        refine kf_wret [(.t 2, .v (.o (vD (dCs (rdE e)))))] (Wk.keep [] rfl rfl ⟨ks rfl (.c (Cto.nilE 2 (by rw [← hR, h0]; rfl))), trivial⟩) rfl ?_ nobox
        rfl
    · skip
      refine .seq <| .region <| .cons (.ls rfl rfl rfl) <| .nil <| ks_n <| .seq ?_
      refine .cD rfl (fun h16 => ?_) (fun h16 => ?_)
      · skip
        obtain ⟨x, hx1⟩ : ∃ x, e.ks[i]? = some x := ⟨_, List.getElem?_eq_getElem (by omega)⟩
        have hmx := List.mem_of_getElem? hx1
        have hT := rdEs_take hx1
        have h64 := kids64 (i := i + 1) hcn
        refine .skip <| ks_n <| .seq <| .block <| .seq <| .region <| .cons (.xL 94 7 112 rfl rfl rfl rfl rfl (rE_at hx1)) ?_
        refine .cons (.lN 7 rfl rfl rfl) <| .cons (.al 105 [.int .i64 0, .int .i64 0, .slice none 0 0, .int .i64 0, .string ByteArray.empty, .slice none 0 0, .slice none 0 0] rfl rfl rfl) <| .cons (.sT 7 true rfl rfl rfl rfl rfl rfl rfl) <| .nil <| ks_n <| .region <| .cons (.mv rfl rfl) <| .cons (.bN 7 rfl rfl rfl rfl rfl rfl) <| .cons (.cP [.tmp 20] rfl rfl rfl rfl (ih x hmx) rfl) ?_
        refine .cons (St1.appB (k' := 122) (e := 89) (sz := 1) (by' := 40) rfl rfl rfl rfl rfl (by kernel_rfl) rfl rfl rfl rfl (by simp [dR]) (by rw [hT, List.length_append] at h64; simp [dR]; omega) rfl rfl rfl) ?_
        refine .cons (.asg rfl rfl) <| .nil <| kb_n <| ks_n <| .region <| .cons (.pl rfl rfl rfl) <| .cons (.mv rfl rfl) <| .nil ?_
        refine kl_k [(110, 122)] (.inr ⟨i + 1, rfl, by omega, by rw [hT, List.length_append]; omega, rfl⟩) ⟨ks rfl .dt, ks rfl .dt, ks rfl (.c (.ow (by first | (simp [rdEs]; done) | (rw [hT, List.length_append, List.length_map]; done) | (rw [hT, h0, List.length_map]; rfl) | (simp [hT, h0]; done)))), ks rfl .dt, ks rfl .dt, ks rfl .dt, kb 122 rfl (.dt rfl (by first | (rw [hT, ← dR_apC]; done) | (rw [hT, h0]; rfl) | (rw [hT, dR_apC]; done) | (simp [dR, hT, h0]; done))), trivial⟩
      · skip
        have hR : rdEs (e.ks.take i) = rdE e := by rw [List.take_of_length_le (by omega), rdE_eq, if_neg h8]; rfl
        refine .exit <| ks_e <| kl_e <| kb_hit <| ks_n <| .seq <| .region <| .cons (.mv rfl rfl) <| .cons (.asg rfl rfl) <| .nil <| ks_n <| .ret ?_
        refine kf_wret [(.t 2, .v (.o (vD (dCs (rdE e)))))] (Wk.keep [] rfl rfl ⟨ks rfl (.c (.fz rfl (by rw [hR]) (by rw [hR, List.length_map]) (by have := rdE_len e; first | omega | (rw [hR]; omega)))), trivial⟩) rfl ?_ nobox
        rfl

theorem reads_fn {d : Nat} : ∀ {L : Nat} (e : Ex), L ≤ 6 → exV d L e = true → Fn Tryz.prog 61 [] [ad (rX e)] (.o (vD (dCs (rdE e)))) []
  | 0, e, hL, h => by cases h
  | L + 1, e, hL, h => reads_one e h (cnt64 h hL) fun x hx => reads_fn (L := L) x (by omega) ((exV_kids h).2 x hx)
/-- A statement that is valid somewhere. -/
theorem stmtV_ex {d : Int} {s : Stm} (h : stmtV d s = true) : exV d.toNat 5 s.2 = true ∧ accV d.toNat s.1 = true ∧ cntE s.2 ≤ 12 ∧ 0 ≤ d ∧ d ≤ 4 := by
  rw [stmtV, Bool.and_eq_true, Bool.and_eq_true, Bool.and_eq_true, decide_eq_true_eq, inB, decide_eq_true_eq] at h
  exact ⟨h.2.1.2, h.2.1.1, h.2.2, h.1⟩
theorem sameE_eq (x y : Ex) : sameE x y = (decide (x.k = y.k) && decide (x.n = y.n) && decide (x.i = y.i) && sameC x.r y.r && sameEs x.ks y.ks) := by
  cases x; cases y
  rw [sameE, sameC]
  simp only [Ex.k, Ex.n, Ex.i, Ex.r, Ex.ks, Bool.and_assoc]
  congr 3
  rw [← Bool.and_assoc, ← Bool.and_assoc]
  congr 1
  exact Bool.and_comm _ _
theorem eqF_sameE : ∀ a b : List Ex, eqF sameE a b = sameEs a b
  | [], [] => rfl
  | [], _ :: _ => rfl
  | _ :: _, [] => rfl
  | x :: a, y :: b => by rw [eqF, sameEs, eqF_sameE a b]







theorem idx_acc {f : FuncId} {cap : List (List D)} (hc : callable Tryz.prog f = true) (p : Acc → Bool) (xs : List Acc) (hx : xs.length ≤ 1099511627776) (hf : ∀ x ∈ xs, Fn Tryz.prog f [] (ad (rC x) :: cap.map fun c => .c (.ptr c)) (.o (bo1 (p x))) []) : Fn Tryz.prog 195 [] [vD (dCs xs), .c (.fn f cap)] (.o (nat1 (idxF p xs))) [] := by
 refine Fn.code0 Tryz.func195 rfl rfl rfl rfl ?_
 refine .seq <| .region <| .cons (.asg rfl rfl) <| .nil <| ks_n <| .seq <| .seq <| .region <| .cons (.mv rfl rfl) <| .cons (.ln 89 2 40 rfl rfl rfl) <| .cons (.mv rfl rfl) <| .nil <| ks_n <| .block ?_
 refine .loopK (fun m σ => (∃ i : Nat, m = xs.length - i ∧ (i ≤ xs.length) ∧ (idxF p xs = idxG p i (xs.drop i)) ∧ σ = [(.t 0, .v (.o (vD (dCs xs)))), (.t 1, .v (.o (.c (.fn f cap)))), (.t 7, .v (.o (nat1 (xs.length : Nat)))), (.t 8, .v (.o (nat1 (i : Nat))))])) [] ⟨0, rfl, by omega, rfl, rfl⟩ ⟨ks rfl .dt, ks rfl .dt, ks rfl .dt, ks rfl .dt, trivial⟩ ?_
 rintro m σ ⟨i, hm0, hi, hF, rfl⟩
 refine .seq <| .region <| .cons (.ls rfl rfl rfl) <| .nil <| ks_n <| .seq ?_
 refine .cD rfl (fun h9 => ?_) (fun h9 => ?_)
 ·skip
  obtain ⟨x, hx1⟩ : ∃ x, xs[i]? = some x := ⟨_, List.getElem?_eq_getElem (by omega)⟩
  refine .skip <| ks_n <| .seq <| .block <| .seq <| .region <| .cons (.mv rfl rfl) <| .cons (.asg rfl rfl) <| .nil <| ks_n <| .seq <| .region <| .cons (.mv rfl rfl) <| .cons (.mv rfl rfl) <| .cons (.mv rfl rfl) <| .cons (.xL 89 2 40 rfl rfl rfl rfl rfl) ?_
  refine .cons (.lN 2 rfl rfl rfl) <| .cons (.cP [.tmp 15] rfl rfl rfl rfl (hf x (List.mem_of_getElem? hx1)) rfl hc) ?_
  refine .nil <| ks_n ?_
  refine ACode.condT rfl (fun h16 => ?_) (fun h16 => ?_)
  ·try simp only [zs1, zs2, zs3, zs4, zs5, zs6, zs7] at h16
   refine .seq <| .region <| .cons (.mv rfl rfl) <| .cons (.asg rfl rfl) <| .nil <| ks_n <| .ret <| kb_r <| ks_r <| kl_r <| kb_r <| ks_r ?_
   refine kf_ret rfl ?_ nobox
   exact leafI (by rw [hF, idxG_drop hx1, h16]; rfl)
  ·try simp only [zs1, zs2, zs3, zs4, zs5, zs6, zs7] at h16
   refine .skip <| kb_n <| ks_n <| .region <| .cons (.pl rfl rfl rfl) <| .cons (.mv rfl rfl) <| .nil ?_
   refine kl_k [] ⟨i + 1, rfl, by omega, by rw [hF, idxG_drop hx1, h16]; rfl, rfl⟩ ⟨ks rfl .dt, ks rfl .dt, ks rfl .dt, ks rfl .dt, trivial⟩
 ·skip
  refine .exit <| ks_e <| kl_e <| kb_hit <| ks_n <| .seq <| .region <| .cons (.asg rfl rfl) <| .nil <| ks_n <| .ret ?_
  refine kf_ret rfl ?_ nobox
  exact leafI (by rw [hF, List.drop_of_length_le (by omega)]; rfl)

theorem cnt_acc {f : FuncId} {cap : List (List D)} (hc : callable Tryz.prog f = true) (p : Acc → Bool) (xs : List Acc) (hx : xs.length ≤ 1099511627776) (hf : ∀ x ∈ xs, Fn Tryz.prog f [] (ad (rC x) :: cap.map fun c => .c (.ptr c)) (.o (bo1 (p x))) []) : Fn Tryz.prog 151 [] [vD (dCs xs), .c (.fn f cap)] (.o (bo1 (xs.any p))) [] := by
  refine Fn.code0 Tryz.func151 rfl rfl rfl rfl ?_
  refine .seq <| .region <| .cons (.asg rfl rfl) <| .nil <| ks_n <| .seq <| .region <| .cons (.mv rfl rfl) <| .cons (.mv rfl rfl) <| .cons (.cP [.tmp 5, .tmp 6] rfl rfl rfl rfl (idx_acc hc p xs hx hf) rfl) ?_
  refine .cons (.ge rfl rfl rfl) <| .cons (.asg rfl rfl) <| .nil <| ks_n <| .ret ?_
  refine kf_ret rfl ?_ nobox
  exact leafB idxG_any
def hbL (k : Nat) (l : List Acc) : St := [(.b k, .b 89 2 (dR (l.map rC))), (.u k, .u)]
theorem rdEs_le : ∀ {l : List Ex} {i : Nat}, (rdEs (l.take i)).length ≤ (rdEs l).length
  | [], i => by simp [rdEs]
  | y :: l, 0 => by simp [rdEs]
  | y :: l, i + 1 => by
    rw [List.take_succ_cons, rdEs, rdEs, List.length_append, List.length_append]
    have := rdEs_le (l := l) (i := i)
    omega
theorem hbL_HB (k : Nat) (l : List Acc) : HB (hbL k l) := HB.nil.data
theorem hbL_flat (k : Nat) (l : List Acc) : flatS (hbL k l) := flatS.nil.cons rfl

theorem l3Reads_one (l : List Acc) (e : Ex) (hi3 : e.r.2.length ≤ 1073741824) (hq3 : ∀ x ∈ e.r.2, x.1.length ≤ 1073741824) (hkl : e.ks.length ≤ 1099511627776) (hln : l.length + (rdE e).length ≤ 1073741824) (ih : ∀ x ∈ e.ks, ∀ l : List Acc, l.length + (rdE x).length ≤ 1073741824 → Fn Tryz.prog 93 (hbL 0 l) [.c (.own 0 2 l.length), ad (rX x)] (.o (.c (.own 1000 2 (l ++ rdE x).length))) (hbL 1000 (l ++ rdE x))) : Fn Tryz.prog 93 (hbL 0 l) [.c (.own 0 2 l.length), ad (rX e)] (.o (.c (.own 1000 2 (l ++ rdE e).length))) (hbL 1000 (l ++ rdE e)) := by
 have hrd := rdE_eq e
 have hbl : (rdE e).length = (if e.k = 3 then [e.r] else []).length + (rdEs e.ks).length := by rw [hrd, List.length_append]
 refine Fn.of_code Tryz.func93 rfl rfl (hbL_HB _ _) rfl rfl (hbL_HB _ _) rfl (one_num rfl) ?_
 refine .seq <| .region <| .cons (St1.boxP rfl rfl rfl rfl rfl rfl) <| .cons (.asg rfl rfl) <| .nil <| ks_n <| .seq ?_
 refine ACode.cut [(.t 0, .v (.o (.c (.own 1710 2 ((l ++ (if e.k = 3 then [e.r] else [])).length))))), (.t 3, .v (.o (.c (.ptr (rX e))))), (.t 4, .v (.o (.c (.d (.val (.slice none 0 0)))))), (.b 1710, .b 89 2 (dR ((l ++ (if e.k = 3 then [e.r] else [])).map rC))), (.u 1710, .u)] ?_ ?_
 ·skip
  refine .seq <| .region <| .cons (.fP 0 0 false rfl rfl) <| .cons (.l1 1 rfl rfl) <| .cons (.eq rfl rfl rfl) <| .nil <| ks_n ?_
  refine .cD rfl (fun h8 => ?_) (fun h8 => ?_)
  ·skip
   refine .region <| .cons (.mv rfl rfl) <| .cons (.fP 4 1 true rfl rfl) <| .cons (.lN 2 rfl rfl rfl) <| .cons (.cP [.tmp 11] rfl rfl rfl rfl (l3CopyAcc_fn _ hi3 hq3) rfl) ?_
   refine .cons (.li 89 1 0 [.tmp 12] rfl rfl rfl rfl rfl rfl) <| .cons (St1.appB (k' := 1014) (e := 89) (sz := 1) (by' := 40) rfl rfl rfl rfl rfl (by kernel_rfl) rfl rfl rfl rfl (by simp [dR]) (by rw [if_pos h8] at hbl; simp [dR] at hbl ⊢; omega) rfl rfl rfl) ?_
   refine .cons (.asg rfl rfl) <| .nil ?_
   exact kc_n (Wk.keep [(1710, 1014)] rfl rfl ⟨ks rfl (.c (.ow (by first | rfl | omega | (simp; done) | (simp; omega) | (simp [*]; done) | (simp [*]; omega) | (simp [rdEs]; done) | (rw [hT]; simp; omega) | (rw [hT]; simp [Nat.add_assoc]; done)))), ks rfl .dt, ks rfl .dt, kb 1014 rfl (.dt rfl (by first | rfl | (rw [if_pos h8, ← dR_apC]; rfl) | (rw [if_neg h8, List.append_nil]; done) | (simp only [dR_apC]; simp [hT, List.append_assoc]; done) | (rw [hT, ← List.append_assoc]; done) | (simp [rdEs]; done))), trivial⟩)
  ·skip
   refine .skip ?_
   exact kc_n (Wk.keep [(1710, 0)] rfl rfl ⟨ks rfl (.c (.ow (by first | rfl | omega | (simp; done) | (simp; omega) | (simp [*]; done) | (simp [*]; omega) | (simp [rdEs]; done) | (rw [hT]; simp; omega) | (rw [hT]; simp [Nat.add_assoc]; done)))), ks rfl .dt, ks rfl .dt, kb 0 rfl (.dt rfl (by first | rfl | (rw [if_pos h8, ← dR_apC]; rfl) | (rw [if_neg h8, List.append_nil]; done) | (simp only [dR_apC]; simp [hT, List.append_assoc]; done) | (rw [hT, ← List.append_assoc]; done) | (simp [rdEs]; done))), trivial⟩)
 refine ks_n <| .seq <| .seq <| .region <| .cons (.asg rfl rfl) <| .nil <| ks_n <| .block ?_
 refine .loopK (fun m σ => (∃ i : Nat, m = e.ks.length - i ∧ (i ≤ e.ks.length) ∧ (True) ∧ σ = [(.t 0, .v (.o (.c (.own 1010 2 ((l ++ (if e.k = 3 then [e.r] else []) ++ rdEs (e.ks.take i)).length))))), (.t 3, .v (.o (.c (.ptr (rX e))))), (.t 4, .v (.o (.c (.d (.val (.slice none 0 0)))))), (.t 5, .v (.o (nat1 (i : Nat)))), (.b 1010, .b 89 2 (dR ((l ++ (if e.k = 3 then [e.r] else []) ++ rdEs (e.ks.take i)).map rC))), (.u 1010, .u)])) [(1010, 1710)] ⟨0, rfl, by omega, trivial, rfl⟩ ⟨ks rfl (.c (.ow (by first | rfl | omega | (simp; done) | (simp; omega) | (simp [*]; done) | (simp [*]; omega) | (simp [rdEs]; done) | (rw [hT]; simp; omega) | (rw [hT]; simp [Nat.add_assoc]; done)))), ks rfl .dt, ks rfl .dt, ks rfl .dt, kb 1710 rfl (.dt rfl (by first | rfl | (rw [if_pos h8, ← dR_apC]; rfl) | (rw [if_neg h8, List.append_nil]; done) | (simp only [dR_apC]; simp [hT, List.append_assoc]; done) | (rw [hT, ← List.append_assoc]; done) | (simp [rdEs]; done))), trivial⟩ ?_
 rintro m σ ⟨i, hm0, hi, hF, rfl⟩
 refine .seq <| .seq <| .region <| .cons (.mv rfl rfl) <| .cons (.fP 6 0 false rfl rfl) <| .cons (.l1 1 rfl rfl) <| .cons (.ln 94 7 112 rfl rfl rfl) <| .cons (.ls rfl rfl rfl) <| .nil <| ks_n ?_
 refine .cD rfl (fun h19 => ?_) (fun h19 => ?_)
 ·skip
  obtain ⟨x, hx1⟩ : ∃ x, e.ks[i]? = some x := ⟨_, List.getElem?_eq_getElem (by omega)⟩
  have hT := rdEs_take hx1
  have hle := rdEs_le (l := e.ks) (i := i + 1)
  have hnx : (l ++ (if e.k = 3 then [e.r] else []) ++ rdEs (e.ks.take i)).length + (rdE x).length ≤ 1073741824 := by rw [hT, List.length_append] at hle; simp only [List.length_append]; omega
  refine .skip <| ks_n <| .seq <| .block <| .region <| .cons (.mv rfl rfl) <| .cons (.fP 6 0 false rfl rfl) <| .cons (.l1 1 rfl rfl) <| .cons (.mv rfl rfl) <| .cons (.xL 94 7 112 rfl rfl rfl rfl rfl (rE_at hx1)) ?_
  refine .cons (.lN 7 rfl rfl rfl) <| .cons (.cO [.tmp 22, .tmp 27] [(0, 1010), (1000, 1028)] rfl rfl rfl rfl (ih x (List.mem_of_getElem? hx1) (l ++ (if e.k = 3 then [e.r] else []) ++ rdEs (e.ks.take i)) hnx) rfl ⟨(by rw [renR_dR]; rfl), trivial⟩ (hbL_flat _ _) (hbL_flat _ _) (hbL_HB _ _) outS_one) ?_
  refine .cons (.asg rfl rfl) <| .nil <| kb_n <| ks_n <| .region <| .cons (.mv rfl rfl) <| .cons (.pl rfl rfl rfl) <| .cons (.asg rfl rfl) <| .nil ?_
  refine kl_k [(1010, 1028)] ⟨i + 1, rfl, by omega, trivial, rfl⟩ ⟨ks rfl (.c (.ow (by first | rfl | omega | (simp; done) | (simp; omega) | (simp [*]; done) | (simp [*]; omega) | (simp [rdEs]; done) | (rw [hT]; simp; omega) | (rw [hT]; simp [Nat.add_assoc]; done)))), ks rfl .dt, ks rfl .dt, ks rfl .dt, kb 1028 rfl (.dt rfl (by first | rfl | (rw [if_pos h8, ← dR_apC]; rfl) | (rw [if_neg h8, List.append_nil]; done) | (simp only [dR_apC]; simp [hT, List.append_assoc]; done) | (rw [hT, ← List.append_assoc]; done) | (simp [rdEs]; done))), trivial⟩
 ·skip
  have hall : l ++ (if e.k = 3 then [e.r] else []) ++ rdEs (e.ks.take i) = l ++ rdE e := by rw [List.take_of_length_le (by omega), hrd, List.append_assoc]
  refine .exit <| ks_e <| kl_e <| kb_hit <| ks_n <| .seq <| .region <| .cons (.mv rfl rfl) <| .cons (.asg rfl rfl) <| .nil <| ks_n <| .ret ?_
  refine kf_wret [(.t 4, .v (.o (.c (.own 1000 2 ((l ++ rdE e).length))))), (.b 1000, .b 89 2 (dR ((l ++ rdE e).map rC))), (.u 1000, .u)] (Wk.keep [(1000, 1010)] rfl rfl ⟨ks rfl (.c (.ow (by rw [hall]))), kb 1010 rfl (.dt rfl (by rw [hall])), trivial⟩) rfl ?_ (one_box rfl)
  rfl

theorem l3Reads_fn : ∀ e : Ex, szE e ≤ 1073741824 → ∀ l : List Acc, l.length + (rdE e).length ≤ 1073741824 → Fn Tryz.prog 93 (hbL 0 l) [.c (.own 0 2 l.length), ad (rX e)] (.o (.c (.own 1000 2 (l ++ rdE e).length))) (hbL 1000 (l ++ rdE e)) := by
  intro e
  induction e using Ex.rec' with
  | h e ih =>
    intro hs l hl
    have h1 := hs
    rw [szE_eq, szC] at h1
    have := szAs_len e.r.2
    exact l3Reads_one l e (by omega) (fun x hx => by have := szAs_mem hx; omega) (by omega) hl fun x hx l hl => ih x hx (by have := szEs_mem hx; omega) l hl




/-- An array, a part, a program, an instance. -/
abbrev Arr := ByteArray × List Int
def rR (a : Arr) : List D := [dS a.1, dIs a.2]
def dRs (l : List Arr) : D := .list 2 (l.map rR)
def dMs (l : List Stm) : D := .list 9 (l.map rS)
abbrev Prt := List Lp × List Stm
def rP (p : Prt) : List D := [dLs p.1, dMs p.2]
def dPts (l : List Prt) : D := .list 2 (l.map rP)
abbrev Prg := List Arr × List Prt
def rG (g : Prg) : List D := [dRs g.1, dPts g.2]
abbrev Ins := Int × Int × List Int
def rN (x : Ins) : List D := [dI x.1, dI x.2.1, dIs x.2.2]
def dNs (l : List Ins) : D := .list 3 (l.map rN)

/-- Arrays: names in order, dimensions within the limits. -/
def dimV (n : Int) : Bool := inB n 1 6
def arrOk (a : Arr) : Bool := arrV a.1 && (decide (1 ≤ a.2.length ∧ a.2.length ≤ 2) && a.2.all dimV)
def lastV (l : List Arr) (i : Nat) (a : Arr) : Bool := match l[i]? with | some b => sLt b.1 a.1 | none => true
def arrAt (l : List Arr) (i : Nat) : Bool := match l[i]? with
  | none => true
  | some a => arrOk a && (decide (i = 0) || lastV l (i - 1) a)
def arrsV (l : List Arr) : Bool := (List.range l.length).all (arrAt l) && decide (l.length ≤ 4)
theorem arrAt_eq {l : List Arr} {i : Nat} {a : Arr} (h : l[i]? = some a) : arrAt l i = (arrOk a && (decide (i = 0) || lastV l (i - 1) a)) := by rw [arrAt, h]
theorem lastV_eq {l : List Arr} {i : Nat} {a b : Arr} (h : l[i]? = some b) : lastV l i a = sLt b.1 a.1 := by rw [lastV, h]
theorem arrsV_bad {l : List Arr} {i : Nat} (hi : i < l.length) (h : arrAt l i = false) : arrsV l = false := by
  rw [arrsV, Bool.and_eq_false_iff]
  refine .inl (Bool.eq_false_iff.2 fun h2 => ?_)
  have := List.all_eq_true.1 h2 i (List.mem_range.2 hi)
  rw [h] at this; cases this
theorem arrsV_end {l : List Arr} (h : ∀ j, j < l.length → arrAt l j = true) : arrsV l = decide (l.length ≤ 4) := by
  rw [arrsV, show (List.range l.length).all (arrAt l) = true from List.all_eq_true.2 fun j hj => h j (List.mem_range.1 hj), Bool.true_and]
theorem arrsV_at {l : List Arr} (h : arrsV l = true) {a : Arr} (ha : a ∈ l) : arrOk a = true := by
  obtain ⟨i, hi⟩ := List.mem_iff_getElem?.1 ha
  rw [arrsV, Bool.and_eq_true] at h
  have := List.all_eq_true.1 h.1 i (List.mem_range.2 (List.getElem?_eq_some_iff.1 hi).1)
  rw [arrAt_eq hi, Bool.and_eq_true] at this
  exact this.1
theorem arrsV_len {l : List Arr} (h : arrsV l = true) : l.length ≤ 4 := by
  rw [arrsV, Bool.and_eq_true] at h; exact of_decide_eq_true h.2
theorem arrOk_at {a : Arr} (h : arrOk a = true) : (1 ≤ a.2.length ∧ a.2.length ≤ 2) ∧ ∀ d ∈ a.2, 1 ≤ d ∧ d ≤ 6 := by
  rw [arrOk, Bool.and_eq_true, Bool.and_eq_true] at h
  exact ⟨of_decide_eq_true h.2.1, fun d hd => of_decide_eq_true (List.all_eq_true.1 h.2.2 d hd)⟩
/-- A product of k numbers from 1 to 6 at the most. -/
def B6 (k : Nat) (n : Int) : Prop := 0 ≤ n ∧ ((k = 0 ∧ n ≤ 1) ∨ (k = 1 ∧ n ≤ 6) ∨ (k = 2 ∧ n ≤ 36))
theorem B6.bd {k : Nat} {n : Int} (h : B6 k n) : 0 ≤ n ∧ n ≤ 36 := by unfold B6 at h; omega
theorem mul_b6 {n d A : Int} (h0 : 0 ≤ n) (h1 : n ≤ A) (h2 : 0 ≤ d) (h3 : d ≤ 6) : 0 ≤ n * d ∧ n * d ≤ A * 6 :=
  ⟨Int.mul_nonneg h0 h2, Int.le_trans (Int.mul_le_mul_of_nonneg_right h1 h2) (Int.mul_le_mul_of_nonneg_left h3 (Int.le_trans h0 h1))⟩
theorem B6.mul {k : Nat} {n d : Int} (h : B6 k n) (hd : 1 ≤ d ∧ d ≤ 6) (hk : k < 2) : B6 (k + 1) (n * d) := by
  obtain ⟨h0, h | h | h⟩ := h
  · have := mul_b6 h0 h.2 (by omega) hd.2; unfold B6; omega
  · have := mul_b6 h0 h.2 (by omega) hd.2; unfold B6; omega
  · omega
theorem B6.at {k : Nat} {n d v : Int} (h0 : 0 ≤ n) (h : B6 k (n + 1)) (hd : 1 ≤ d ∧ d ≤ 6) (hk : k < 2) (hv : 0 ≤ v ∧ v ≤ d - 1) : 0 ≤ n * d ∧ n * d + v + 1 ≤ 36 ∧ 0 ≤ n * d + v ∧ B6 (k + 1) (n * d + v + 1) := by
  have h1 := h.mul hd hk
  have e : (n + 1) * d = n * d + d := by rw [Int.add_mul, Int.one_mul]
  rw [e] at h1
  have h2 := Int.mul_nonneg h0 (show 0 ≤ d by omega)
  have h3 := h1.bd
  refine ⟨h2, by omega, by omega, ?_⟩
  unfold B6 at h1 ⊢; omega
def sizeF (n : Int) (l : List Int) : Int := l.foldl (· * ·) n
def sizeA (l : List Int) : Int := sizeF 1 l
theorem sizeF_drop {l : List Int} {i : Nat} {d : Int} {n : Int} (h : l[i]? = some d) : sizeF n (l.drop i) = sizeF (n * d) (l.drop (i + 1)) := by
  obtain ⟨hi, rfl⟩ := List.getElem?_eq_some_iff.1 h
  rw [List.drop_eq_getElem_cons hi]; rfl
theorem sizeF_end {l : List Int} {i : Nat} {n : Int} (h : l.length ≤ i) : sizeF n (l.drop i) = n := by rw [List.drop_of_length_le h]; rfl
theorem sizeA_bd {a : Arr} (h : arrOk a = true) : 0 ≤ sizeA a.2 ∧ sizeA a.2 ≤ 36 := by
  obtain ⟨h1, h2⟩ := arrOk_at h
  have key : ∀ (l : List Int) (k : Nat) (n : Int), B6 k n → k + l.length ≤ 2 → (∀ d ∈ l, 1 ≤ d ∧ d ≤ 6) → 0 ≤ sizeF n l ∧ sizeF n l ≤ 36 := by
    intro l
    induction l with
    | nil => intro k n hb _ _; exact hb.bd
    | cons d l ih =>
      intro k n hb hk hd
      rw [List.length_cons] at hk
      exact ih (k + 1) (n * d) (hb.mul (hd d (by simp)) (by omega)) (by omega) fun d hd' => hd d (by simp [hd'])
  exact key a.2 0 1 (by unfold B6; omega) (by omega) h2
/-- The place of an element within its array, or -1. -/
def atG (p : List Int) : List Int → List Aff → Int → Int
  | d :: ds, s :: ss, n => if inB (affEval s p) 0 (d - 1) = true then atG p ds ss (n * d + affEval s p) else -1
  | _, _, n => n
theorem atG_yes {p : List Int} {ds : List Int} {ss : List Aff} {i : Nat} {d : Int} {s : Aff} {n : Int} (hd : ds[i]? = some d) (hs : ss[i]? = some s) (h : inB (affEval s p) 0 (d - 1) = true) : atG p (ds.drop i) (ss.drop i) n = atG p (ds.drop (i + 1)) (ss.drop (i + 1)) (n * d + affEval s p) := by
  obtain ⟨hi, rfl⟩ := List.getElem?_eq_some_iff.1 hd
  obtain ⟨hj, rfl⟩ := List.getElem?_eq_some_iff.1 hs
  rw [List.drop_eq_getElem_cons hi, List.drop_eq_getElem_cons hj, atG, if_pos h]
theorem atG_no {p : List Int} {ds : List Int} {ss : List Aff} {i : Nat} {d : Int} {s : Aff} {n : Int} (hd : ds[i]? = some d) (hs : ss[i]? = some s) (h : ¬ inB (affEval s p) 0 (d - 1) = true) : atG p (ds.drop i) (ss.drop i) n = -1 := by
  obtain ⟨hi, rfl⟩ := List.getElem?_eq_some_iff.1 hd
  obtain ⟨hj, rfl⟩ := List.getElem?_eq_some_iff.1 hs
  rw [List.drop_eq_getElem_cons hi, List.drop_eq_getElem_cons hj, atG, if_neg h]
theorem atG_end {p : List Int} {ds : List Int} {ss : List Aff} {i : Nat} {n : Int} (h : ss.length ≤ i) : atG p (ds.drop i) (ss.drop i) n = n := by
  rw [List.drop_of_length_le h, atG]; intros; contradiction
def cellG (a : Acc) (p : List Int) : List Arr → Int → Int
  | [], _ => -1
  | x :: l, base => if sEq x.1 a.1 = true then (if a.2.length = x.2.length then (if atG p x.2 a.2 0 = -1 then -1 else base + atG p x.2 a.2 0) else -1) else cellG a p l (base + sizeA x.2)
theorem cellG_next {a : Acc} {p : List Int} {l : List Arr} {i : Nat} {x : Arr} {b : Int} (hx : l[i]? = some x) (h : sEq x.1 a.1 = false) : cellG a p (l.drop i) b = cellG a p (l.drop (i + 1)) (b + sizeA x.2) := by
  obtain ⟨hi, rfl⟩ := List.getElem?_eq_some_iff.1 hx
  rw [List.drop_eq_getElem_cons hi, cellG, if_neg (by rw [h]; simp)]
theorem cellG_len {a : Acc} {p : List Int} {l : List Arr} {i : Nat} {x : Arr} {b : Int} (hx : l[i]? = some x) (h : sEq x.1 a.1 = true) (hl : ¬ a.2.length = x.2.length) : cellG a p (l.drop i) b = -1 := by
  obtain ⟨hi, rfl⟩ := List.getElem?_eq_some_iff.1 hx
  rw [List.drop_eq_getElem_cons hi, cellG, if_pos h, if_neg hl]
theorem cellG_at {a : Acc} {p : List Int} {l : List Arr} {i : Nat} {x : Arr} {b : Int} (hx : l[i]? = some x) (h : sEq x.1 a.1 = true) (hl : a.2.length = x.2.length) : cellG a p (l.drop i) b = if atG p x.2 a.2 0 = -1 then -1 else b + atG p x.2 a.2 0 := by
  obtain ⟨hi, rfl⟩ := List.getElem?_eq_some_iff.1 hx
  rw [List.drop_eq_getElem_cons hi, cellG, if_pos h, if_pos hl]
theorem cellG_end {a : Acc} {p : List Int} {l : List Arr} {i : Nat} {b : Int} (h : l.length ≤ i) : cellG a p (l.drop i) b = -1 := by rw [List.drop_of_length_le h]; rfl
def accG (ar : List Arr) (p : List Int) (a : Acc) : Bool := decide (0 ≤ cellG a p ar 0)
def stmG (ar : List Arr) (s : Stm) (p : List Int) : Bool := accG ar p s.1 && (rdE s.2).all (accG ar p)
def ptG' (ar : List Arr) (b : List Stm) (p : List Int) : Bool := isPt p && b.all fun s => stmG ar s p
def prtV (ar : List Arr) (q : Prt) : Bool := okP q.1 && (decide (1 ≤ q.2.length ∧ q.2.length ≤ 4) && (q.2.all (stmtV (q.1.length : Nat)) && (npR q.1).all (ptG' ar q.2)))
theorem prtV_eq {ar : List Arr} {q : Prt} (h1 : okP q.1 = true) (h2 : 1 ≤ q.2.length ∧ q.2.length ≤ 4) (h3 : q.2.all (stmtV (q.1.length : Nat)) = true) : prtV ar q = (npR q.1).all (ptG' ar q.2) := by
  rw [prtV, h1, decide_eq_true h2, h3]; rfl
theorem prtV_iff {ar : List Arr} {q : Prt} : prtV ar q = true ↔ okP q.1 = true ∧ (1 ≤ q.2.length ∧ q.2.length ≤ 4) ∧ (∀ s ∈ q.2, stmtV (q.1.length : Nat) s = true) ∧ ∀ p ∈ npR q.1, isPt p = true ∧ ∀ s ∈ q.2, stmG ar s p = true := by
  simp only [prtV, ptG', Bool.and_eq_true, decide_eq_true_eq, List.all_eq_true]
theorem prtV_f1 {ar : List Arr} {q : Prt} (h : okP q.1 = false) : prtV ar q = false := by rw [prtV, h]; rfl
theorem prtV_f2 {ar : List Arr} {q : Prt} (h : ¬ (1 ≤ q.2.length ∧ q.2.length ≤ 4)) : prtV ar q = false := Bool.eq_false_iff.2 fun h2 => h (prtV_iff.1 h2).2.1
theorem prtV_f3 {ar : List Arr} {q : Prt} {s : Stm} (hs : s ∈ q.2) (h : stmtV (q.1.length : Nat) s = false) : prtV ar q = false := Bool.eq_false_iff.2 fun h2 => by
  have := (prtV_iff.1 h2).2.2.1 s hs; rw [h] at this; cases this
theorem prtV_f4 {ar : List Arr} {q : Prt} {p : List Int} (hp : p ∈ npR q.1) (h : isPt p = false) : prtV ar q = false := Bool.eq_false_iff.2 fun h2 => by
  have := ((prtV_iff.1 h2).2.2.2 p hp).1; rw [h] at this; cases this
theorem prtV_f5 {ar : List Arr} {q : Prt} {p : List Int} {s : Stm} (hp : p ∈ npR q.1) (hs : s ∈ q.2) (h : stmG ar s p = false) : prtV ar q = false := Bool.eq_false_iff.2 fun h2 => by
  have := ((prtV_iff.1 h2).2.2.2 p hp).2 s hs; rw [h] at this; cases this
/-- The instances. -/
def rowI (k m : Nat) (p : List Int) : List Ins := (List.range m).map fun (i : Nat) => ((k : Int), (i : Int), p)
def insT (k m : Nat) (l : Pts) : List Ins := l.flatMap (rowI k m)
def insP (k : Nat) (q : Prt) : List Ins := insT k q.2.length (npR q.1)
def insG : Nat → List Prt → List Ins
  | _, [] => []
  | k, q :: l => insP k q ++ insG (k + 1) l
theorem rowI_len {k m : Nat} {p : List Int} : (rowI k m p).length = m := by simp [rowI]
theorem rowI_snoc {k m : Nat} {p : List Int} : rowI k (m + 1) p = rowI k m p ++ [((k : Int), (m : Int), p)] := by rw [rowI, List.range_succ, List.map_append]; rfl
theorem rowI_zero {k : Nat} {p : List Int} : rowI k 0 p = [] := rfl
theorem insT_len {k m : Nat} : ∀ {l : Pts}, (insT k m l).length = l.length * m
  | [] => by simp [insT]
  | p :: l => by
    have := insT_len (k := k) (m := m) (l := l)
    rw [insT] at this ⊢
    rw [List.flatMap_cons, List.length_append, this, rowI_len, List.length_cons, Nat.add_mul, Nat.one_mul, Nat.add_comm]
theorem insT_take {k m : Nat} {l : Pts} {i : Nat} {p : List Int} (h : l[i]? = some p) : insT k m (l.take (i + 1)) = insT k m (l.take i) ++ rowI k m p := by
  rw [List.take_add_one, h, insT, List.flatMap_append]; simp [insT]
theorem insG_app : ∀ (l : List Prt) (n : Nat) (q : Prt), insG n (l ++ [q]) = insG n l ++ insP (n + l.length) q
  | [], n, q => by simp [insG]
  | x :: l, n, q => by
    rw [List.cons_append, insG, insG, insG_app l (n + 1) q, List.append_assoc, List.length_cons, show n + 1 + l.length = n + (l.length + 1) by omega]
theorem insG_take {l : List Prt} {i : Nat} {q : Prt} (h : l[i]? = some q) : insG 0 (l.take (i + 1)) = insG 0 (l.take i) ++ insP i q := by
  have hi := (List.getElem?_eq_some_iff.1 h).1
  rw [List.take_add_one, h, Option.toList_some, insG_app, List.length_take, Nat.min_eq_left (by omega), Nat.zero_add]
theorem insP_len {k : Nat} {q : Prt} (h : q.2.length ≤ 4) : (insP k q).length = (npR q.1).length * q.2.length ∧ (insP k q).length ≤ 480 := by
  rw [insP, insT_len]
  exact ⟨rfl, Nat.le_trans (Nat.mul_le_mul (npR_len q.1) h) (by omega)⟩
def prgS (g : Prg) : Bool := arrsV g.1 && (decide (g.2.length ≤ 4) && g.2.all (prtV g.1))
def insV (g : Prg) : List Ins := if prgS g = true then insG 0 g.2 else []
def prgV (g : Prg) : Bool := prgS g && decide ((insG 0 g.2).length ≤ 120)
theorem prgS_f1 {g : Prg} (h : arrsV g.1 = false) : prgS g = false := by rw [prgS, h]; rfl
theorem prgS_f2 {g : Prg} (h : ¬ g.2.length ≤ 4) : prgS g = false := by rw [prgS, decide_eq_false h]; cases arrsV g.1 <;> rfl
theorem prgS_f3 {g : Prg} {q : Prt} (hq : q ∈ g.2) (h : prtV g.1 q = false) : prgS g = false := Bool.eq_false_iff.2 fun h2 => by
  rw [prgS, Bool.and_eq_true, Bool.and_eq_true] at h2
  have := List.all_eq_true.1 h2.2.2 q hq; rw [h] at this; cases this
theorem prgS_eq {g : Prg} (h1 : arrsV g.1 = true) (h2 : g.2.length ≤ 4) (h3 : ∀ j q, j < g.2.length → g.2[j]? = some q → prtV g.1 q = true) : prgS g = true := by
  rw [prgS, h1, decide_eq_true h2, List.all_eq_true.2]; · rfl
  intro q hq
  obtain ⟨j, hj⟩ := List.mem_iff_getElem?.1 hq
  exact h3 j q (List.getElem?_eq_some_iff.1 hj).1 hj
theorem prgS_iff {g : Prg} : prgS g = true ↔ arrsV g.1 = true ∧ g.2.length ≤ 4 ∧ ∀ q ∈ g.2, prtV g.1 q = true := by
  simp only [prgS, Bool.and_eq_true, decide_eq_true_eq, List.all_eq_true]
theorem prgV_f {g : Prg} (h : prgS g = false) : prgV g = false ∧ insV g = [] := ⟨by rw [prgV, h]; rfl, if_neg (by rw [h]; simp)⟩
theorem prgV_t {g : Prg} (h : prgS g = true) : prgV g = decide ((insG 0 g.2).length ≤ 120) ∧ insV g = insG 0 g.2 := ⟨by rw [prgV, h]; rfl, if_pos h⟩
theorem prgV_s {g : Prg} (h : prgV g = true) : prgS g = true ∧ insV g = insG 0 g.2 ∧ (insG 0 g.2).length ≤ 120 := by
  rw [prgV, Bool.and_eq_true] at h
  exact ⟨h.1, (prgV_t h.1).2, of_decide_eq_true h.2⟩
theorem insG_mem {x : Ins} : ∀ {l : List Prt} {n : Nat}, x ∈ insG n l → ∃ k q i, l[k]? = some q ∧ x.1 = ((n + k : Nat) : Int) ∧ x.2.1 = ((i : Nat) : Int) ∧ i < q.2.length ∧ x.2.2 ∈ npR q.1
  | [], n, h => by cases h
  | q :: l, n, h => by
    rw [insG, List.mem_append] at h
    rcases h with h | h
    · rw [insP, insT, List.mem_flatMap] at h
      obtain ⟨p, hp, h⟩ := h
      rw [rowI, List.mem_map] at h
      obtain ⟨i, hi, rfl⟩ := h
      exact ⟨0, q, i, rfl, rfl, rfl, List.mem_range.1 hi, hp⟩
    · obtain ⟨k, q', i, h1, h2, h3, h4, h5⟩ := insG_mem h
      exact ⟨k + 1, q', i, h1, by rw [h2]; congr 1; omega, h3, h4, h5⟩
end Go.Proofs.YtidfloikpieggaaGreat
namespace Go.Proofs.YtidfloikpieggaaGreat
set_option linter.unusedVariables false
set_option linter.unusedSimpArgs false
open Go.ChangeShapes Go.WideShapes Go.ChangeAt Go.RowKit
def okArr (a : Arr) : Prop := a.1.size ≤ 140737488351232 ∧ a.2.length ≤ 17592186044416
def okArrs (l : List Arr) : Prop := l.length ≤ 17592186044416 ∧ ∀ x ∈ l, okArr x
def okStms (l : List Stm) : Prop := l.length ≤ 17592186044416 ∧ ∀ x ∈ l, okS x
def okPrt (p : Prt) : Prop := okLps p.1 ∧ okStms p.2
def okPrts (l : List Prt) : Prop := l.length ≤ 17592186044416 ∧ ∀ x ∈ l, okPrt x
def okPrg (g : Prg) : Prop := okArrs g.1 ∧ okPrts g.2
section
variable {H : Type} {enc : TypeId × Value → H} {w : World} {spare : Nat → Bool} {held : Bool}
theorem opArr (n : Nat) : OpF enc Tryz.prog w spare held n 109 rR okArr :=
  OpF.mono (f := rR) (n := n + 1) (opStruct2 (enc := enc) (w := w) (spare := spare) (held := held) (t := 109) Tryz.underlying109 (by kernel_rfl) (opStr Tryz.underlying9) (opSlice (n := n) 1 8 Tryz.underlying35 (by kernel_rfl) (by kernel_rfl) (by rfl) (opInt Tryz.underlying3))) (by omega) fun a h => ⟨h.1, h.2.1⟩
theorem opArrs (n : Nat) : OpF enc Tryz.prog w spare held n 22 (fun l : List Arr => [dRs l]) okArrs :=
  OpF.mono (f := fun l : List Arr => [dRs l]) (n := n + 1) (opSlice (enc := enc) (w := w) (spare := spare) (held := held) (n := n) (t := 22) 2 40 Tryz.underlying22 (by kernel_rfl) (by kernel_rfl) (by rfl) (opArr n)) (by omega) fun a h => h
theorem opStms (n : Nat) : OpF enc Tryz.prog w spare held n 112 (fun l : List Stm => [dMs l]) okStms :=
  OpF.mono (f := fun l : List Stm => [dMs l]) (n := n + 1) (opSlice (enc := enc) (w := w) (spare := spare) (held := held) (n := n) (t := 112) 9 152 Tryz.underlying112 (by kernel_rfl) (by kernel_rfl) (by rfl) (opStm n)) (by omega) fun a h => h
theorem opPrt (n : Nat) : OpF enc Tryz.prog w spare held n 114 rP okPrt :=
  OpF.mono (f := rP) (n := n) (opStruct2 (enc := enc) (w := w) (spare := spare) (held := held) (n := n) (t := 114) Tryz.underlying114 (by kernel_rfl) (opLoops n) (opStms n)) (by omega) fun a h => h
theorem opPrts (n : Nat) : OpF enc Tryz.prog w spare held n 23 (fun l : List Prt => [dPts l]) okPrts :=
  OpF.mono (f := fun l : List Prt => [dPts l]) (n := n + 1) (opSlice (enc := enc) (w := w) (spare := spare) (held := held) (n := n) (t := 23) 2 48 Tryz.underlying23 (by kernel_rfl) (by kernel_rfl) (by rfl) (opPrt n)) (by omega) fun a h => h
theorem opPrg (n : Nat) : OpF enc Tryz.prog w spare held n 25 rG okPrg :=
  OpF.mono (f := rG) (n := n) (opStruct2 (enc := enc) (w := w) (spare := spare) (held := held) (n := n) (t := 25) Tryz.underlying25 (by kernel_rfl) (opArrs n) (opPrts n)) (by omega) fun a h => h
end
end Go.Proofs.YtidfloikpieggaaGreat
namespace Go.Proofs.YtidfloikpieggaaGreat
set_option linter.unusedVariables false
set_option linter.unusedSimpArgs false
open Go.RowKit
/-- What is left of l behind n, or -1. -/
def subZ (l : Int) (n : Nat) : Int := if (n : Int) ≤ l then l - n else -1
theorem subZ_yes {l : Int} {n : Nat} (h : (n : Int) ≤ l) : subZ l n = l - n := if_pos h
theorem subZ_no {l : Int} {n : Nat} (h : ¬ (n : Int) ≤ l) : subZ l n = -1 := if_neg h
theorem subZ_neg {l : Int} {n : Nat} (h : subZ l n < 0) (hl : 0 ≤ l) : ¬ (n : Int) ≤ l := fun h2 => by rw [subZ_yes h2] at h; omega
theorem subZ_pos {l : Int} {n : Nat} (h : ¬ subZ l n < 0) : (n : Int) ≤ l := Classical.byContradiction fun h2 => by rw [subZ_no h2] at h; omega
theorem subZ_bd {l : Int} {n : Nat} (hl : 0 ≤ l ∧ l ≤ 1048576) : -1 ≤ subZ l n ∧ subZ l n ≤ 1048576 := by
  unfold subZ; split <;> omega
theorem sum_take {α : Type} (f : α → Nat) {l : List α} {i : Nat} {x : α} (h : l[i]? = some x) : ((l.take (i + 1)).map f).sum = ((l.take i).map f).sum + f x := by
  rw [List.take_add_one, h, List.map_append, List.sum_append]; simp
theorem sum_take_le {α : Type} (f : α → Nat) : ∀ {l : List α} {i : Nat}, ((l.take i).map f).sum ≤ (l.map f).sum
  | [], i => by simp
  | y :: l, 0 => by simp
  | y :: l, i + 1 => by rw [List.take_succ_cons, List.map_cons, List.map_cons, List.sum_cons, List.sum_cons]; have := sum_take_le f (l := l) (i := i); omega

theorem szInts_fn (xs : List Int) {l : Int} (hl : 0 ≤ l ∧ l ≤ 1048576) (hx : xs.length ≤ 17592186044416) : Fn Tryz.prog 113 [] [vD (dIs xs), nat1 l] (.o (nat1 (subZ l xs.length))) [] := by
  refine Fn.code0 Tryz.func113 rfl rfl rfl rfl ?_
  refine .seq <| .region <| .cons (.asg rfl rfl) <| .nil <| ks_n <| .seq <| .region <| .cons (.mv rfl rfl) <| .cons (.mv rfl rfl) <| .cons (.ln 3 1 8 rfl rfl rfl) <| .cons (.sb rfl rfl rfl) <| .cons (.asg rfl rfl) <| .nil <| ks_n <| .seq <| .seq <| .region <| .cons (.mv rfl rfl) <| .cons (.ls rfl rfl rfl) <| .nil <| ks_n ?_
  refine .cD rfl (fun h10 => ?_) (fun h10 => ?_)
  · skip
    refine .seq <| .region <| .cons (.asg rfl rfl) <| .nil <| ks_n <| .ret <| ks_r ?_
    refine kf_ret rfl ?_ nobox
    exact leafI (by first | (rw [subZ_yes (by omega)]; done) | (rw [subZ_no (by omega)]) | (rw [subZ_yes (by omega)]; omega))
  · skip
    refine .skip <| ks_n <| .seq <| .region <| .cons (.mv rfl rfl) <| .cons (.asg rfl rfl) <| .nil <| ks_n <| .ret ?_
    refine kf_ret rfl ?_ nobox
    exact leafI (by first | (rw [subZ_yes (by omega)]; done) | (rw [subZ_no (by omega)]) | (rw [subZ_yes (by omega)]; omega))

theorem szAff_fn {x : Aff} {l : Int} (hl : 0 ≤ l ∧ l ≤ 1048576) (hx : x.1.length ≤ 17592186044416) : Fn Tryz.prog 233 [] [ad (rA x), nat1 l] (.o (nat1 (subZ l x.1.length))) [] := by
  have hb := subZ_bd (n := x.1.length) hl
  refine Fn.code0 Tryz.func233 rfl rfl rfl rfl ?_
  refine .seq <| .region <| .cons (St1.boxP rfl rfl rfl rfl rfl rfl) <| .cons (.asg rfl rfl) <| .nil <| ks_n <| .seq <| .region <| .cons (.fP 0 0 false rfl rfl) <| .cons (.l1 1 rfl rfl) <| .cons (.mv rfl rfl) <| .cons (.cP [.tmp 6, .tmp 7] rfl rfl rfl rfl (szInts_fn x.1 hl hx) rfl) ?_
  refine .cons (.asg rfl rfl) <| .nil <| ks_n <| .seq <| .seq <| .region <| .cons (.mv rfl rfl) <| .cons (.ls rfl rfl rfl) <| .nil <| ks_n ?_
  refine .cD rfl (fun h10 => ?_) (fun h10 => ?_)
  · skip
    refine .seq <| .region <| .cons (.asg rfl rfl) <| .nil <| ks_n <| .ret <| ks_r ?_
    refine kf_ret rfl ?_ nobox
    exact leafI (subZ_no (subZ_neg h10 hl.1)).symm
  · skip
    refine .skip <| ks_n <| .seq <| .region <| .cons (.mv rfl rfl) <| .cons (.asg rfl rfl) <| .nil <| ks_n <| .ret ?_
    refine kf_ret rfl ?_ nobox
    rfl

theorem szAffs_fn (xs : List Aff) {l : Int} (hl : 0 ≤ l ∧ l ≤ 1048576) (hx : xs.length ≤ 17592186044416) (hq : ∀ x ∈ xs, x.1.length ≤ 17592186044416) : Fn Tryz.prog 199 [] [vD (dAs xs), nat1 l] (.o (nat1 (subZ l (szAs xs)))) [] := by
  refine Fn.code0 Tryz.func199 rfl rfl rfl rfl ?_
  refine .seq <| .region <| .cons (.asg rfl rfl) <| .nil <| ks_n <| .seq <| .region <| .cons (.mv rfl rfl) <| .cons (.mv rfl rfl) <| .cons (.ln 201 2 32 rfl rfl rfl) <| .cons (.sb rfl rfl rfl) <| .cons (.asg rfl rfl) <| .nil <| ks_n <| .seq <| .seq <| .region <| .cons (.mv rfl rfl) <| .cons (.ls rfl rfl rfl) <| .nil <| ks_n ?_
  refine .cD rfl (fun h11 => ?_) (fun h11 => ?_)
  · skip
    refine .seq <| .region <| .cons (.asg rfl rfl) <| .nil <| ks_n <| .ret <| ks_r ?_
    refine kf_ret rfl ?_ nobox
    exact leafI (subZ_no (by rw [szAs]; omega)).symm
  · skip
    refine .skip <| ks_n <| .seq <| .seq <| .region <| .cons (.asg rfl rfl) <| .nil <| ks_n <| .block ?_
    refine .loopK (fun m σ => (∃ i : Nat, m = xs.length - i ∧ (i ≤ xs.length) ∧ (((xs.length + ((xs.take i).map fun a => a.1.length).sum : Nat) : Int) ≤ l) ∧ σ = [(.t 0, .v (.o (vD (dAs xs)))), (.t 1, .v (.o (nat1 (l - (xs.length + ((xs.take i).map fun a => a.1.length).sum : Nat))))), (.t 4, .v (.o (nat1 0))), (.t 5, .v (.o (nat1 (i : Nat))))])) [] ⟨0, rfl, by omega, by simp; omega, rfl⟩ ⟨ks rfl .dt, ks rfl (.dt (vI (by first | (simp; done) | (rw [hT, subZ_yes (by omega)]; omega)))), ks rfl .dt, ks rfl .dt, trivial⟩ ?_
    rintro m σ ⟨i, hm0, hi, hF, rfl⟩
    refine .seq <| .seq <| .region <| .cons (.mv rfl rfl) <| .cons (.mv rfl rfl) <| .cons (.ln 201 2 32 rfl rfl rfl) <| .cons (.ls rfl rfl rfl) <| .nil <| ks_n ?_
    refine .cD rfl (fun h15 => ?_) (fun h15 => ?_)
    · skip
      obtain ⟨x, hx1⟩ : ∃ x, xs[i]? = some x := ⟨_, List.getElem?_eq_getElem (by omega)⟩
      have hT := sum_take (fun a : Aff => a.1.length) hx1
      refine .skip <| ks_n <| .seq <| .block <| .seq <| .region <| .cons (.mv rfl rfl) <| .cons (.mv rfl rfl) <| .cons (.xL 201 2 32 rfl rfl rfl rfl rfl) ?_
      refine .cons (.lN 2 rfl rfl rfl) <| .cons (.mv rfl rfl) <| .cons (.cP [.tmp 21, .tmp 22] rfl rfl rfl rfl (szAff_fn (l := l - (xs.length + ((xs.take i).map fun a => a.1.length).sum : Nat)) (by omega) (hq x (List.mem_of_getElem? hx1))) rfl) ?_
      refine .cons (.asg rfl rfl) <| .nil <| ks_n <| .seq <| .region <| .cons (.mv rfl rfl) <| .cons (.ls rfl rfl rfl) <| .nil <| ks_n ?_
      refine .cD rfl (fun h25 => ?_) (fun h25 => ?_)
      · skip
        refine .seq <| .region <| .cons (.asg rfl rfl) <| .nil <| ks_n <| .ret <| kb_r <| ks_r <| kl_r <| kb_r <| ks_r ?_
        refine kf_ret rfl ?_ nobox
        exact leafI (subZ_no (by have h1 := subZ_neg h25 (by omega); have h2 := sum_take_le (fun a : Aff => a.1.length) (l := xs) (i := i + 1); rw [szAs]; omega)).symm
      · skip
        have hP := subZ_pos h25
        refine .skip <| kb_n <| ks_n <| .region <| .cons (.mv rfl rfl) <| .cons (.pl rfl rfl rfl) <| .cons (.asg rfl rfl) <| .nil ?_
        refine kl_k [] ⟨i + 1, rfl, by omega, by rw [hT]; have := subZ_pos h25; omega, rfl⟩ ⟨ks rfl .dt, ks rfl (.dt (vI (by first | (simp; done) | (rw [hT, subZ_yes (by omega)]; omega)))), ks rfl .dt, ks rfl .dt, trivial⟩
    · skip
      have hall : xs.take i = xs := List.take_of_length_le (by omega)
      refine .exit <| ks_e <| kl_e <| kb_hit <| ks_n <| .seq <| .region <| .cons (.mv rfl rfl) <| .cons (.asg rfl rfl) <| .nil <| ks_n <| .ret ?_
      refine kf_ret rfl ?_ nobox
      exact leafI (by rw [subZ_yes (by rw [szAs, ← hall]; rw [hall]; rw [hall] at hF; omega), szAs, hall])
theorem szEs_take {l : List Ex} {i : Nat} {x : Ex} (h : l[i]? = some x) : szEs (l.take (i + 1)) = szEs (l.take i) + szE x := by
  have key : ∀ (a : List Ex) (x : Ex), szEs (a ++ [x]) = szEs a + szE x := by
    intro a x
    induction a with
    | nil => simp [szEs]
    | cons y a ih => rw [List.cons_append, szEs, szEs, ih]; omega
  rw [List.take_add_one, h]
  exact key _ _
theorem szEs_le : ∀ {l : List Ex} {i : Nat}, szEs (l.take i) ≤ szEs l
  | [], i => by simp
  | y :: l, 0 => by simp [szEs]
  | y :: l, i + 1 => by rw [List.take_succ_cons, szEs, szEs]; have := szEs_le (l := l) (i := i); omega

theorem szAcc_fn {a : Acc} {l : Int} (hl : 0 ≤ l ∧ l ≤ 1048576) (h1 : a.1.size ≤ 140737488351232) (h2 : a.2.length ≤ 17592186044416) (h3 : ∀ x ∈ a.2, x.1.length ≤ 17592186044416) : Fn Tryz.prog 200 [] [ad (rC a), nat1 l] (.o (nat1 (subZ l (szC a)))) [] := by
  have hsz : szC a = a.1.size + szAs a.2 := rfl
  refine Fn.code0 Tryz.func200 rfl rfl rfl rfl ?_
  refine .seq <| .region <| .cons (St1.boxP rfl rfl rfl rfl rfl rfl) <| .cons (.asg rfl rfl) <| .nil <| ks_n <| .seq <| .region <| .cons (.mv rfl rfl) <| .cons (.fP 0 0 false rfl rfl) <| .cons (.l1 1 rfl rfl) <| .cons (St1.lenS rfl rfl rfl rfl rfl (by kernel_rfl) rfl) ?_
  refine .cons (.sb rfl rfl rfl) <| .cons (.asg rfl rfl) <| .nil <| ks_n <| .seq <| .seq <| .region <| .cons (.mv rfl rfl) <| .cons (.ls rfl rfl rfl) <| .nil <| ks_n ?_
  refine .cD rfl (fun h11 => ?_) (fun h11 => ?_)
  · skip
    refine .seq <| .region <| .cons (.asg rfl rfl) <| .nil <| ks_n <| .ret <| ks_r ?_
    refine kf_ret rfl ?_ nobox
    exact leafI (subZ_no (by omega)).symm
  · skip
    refine .skip <| ks_n <| .seq ?_
    have hb := subZ_bd (n := szAs a.2) (l := l - (a.1.size : Nat)) (by omega)
    refine .region <| .cons (.fP 1 0 false rfl rfl) <| .cons (.l1 1 rfl rfl) <| .cons (.mv rfl rfl) <| .cons (.cP [.tmp 13, .tmp 14] rfl rfl rfl rfl (szAffs_fn a.2 (l := l - (a.1.size : Nat)) (by omega) h2 h3) rfl) ?_
    refine .cons (.asg rfl rfl) <| .nil <| ks_n <| .seq <| .seq <| .region <| .cons (.mv rfl rfl) <| .cons (.ls rfl rfl rfl) <| .nil <| ks_n ?_
    refine .cD rfl (fun h17 => ?_) (fun h17 => ?_)
    · skip
      refine .seq <| .region <| .cons (.asg rfl rfl) <| .nil <| ks_n <| .ret <| ks_r ?_
      refine kf_ret rfl ?_ nobox
      exact leafI (subZ_no (by have := subZ_neg h17 (by omega); omega)).symm
    · skip
      refine .skip <| ks_n <| .seq <| .region <| .cons (.mv rfl rfl) <| .cons (.asg rfl rfl) <| .nil <| ks_n <| .ret ?_
      refine kf_ret rfl ?_ nobox
      exact leafI (by have := subZ_pos h17; rw [subZ_yes this, subZ_yes (by omega)]; omega)

theorem szExs_one (es : List Ex) {l : Int} (hl : 0 ≤ l ∧ l ≤ 1048576) (hx : es.length ≤ 17592186044416) (ih : ∀ x ∈ es, ∀ l : Int, 0 ≤ l ∧ l ≤ 1048576 → Fn Tryz.prog 201 [] [ad (rX x), nat1 l] (.o (nat1 (subZ l (szE x)))) []) : Fn Tryz.prog 234 [] [vD (dEs es), nat1 l] (.o (nat1 (subZ l (es.length + szEs es)))) [] := by
  refine Fn.code0 Tryz.func234 rfl rfl rfl rfl ?_
  refine .seq <| .region <| .cons (.asg rfl rfl) <| .nil <| ks_n <| .seq <| .region <| .cons (.mv rfl rfl) <| .cons (.mv rfl rfl) <| .cons (.ln 204 7 112 rfl rfl rfl) <| .cons (.sb rfl rfl rfl) <| .cons (.asg rfl rfl) <| .nil <| ks_n <| .seq <| .seq <| .region <| .cons (.mv rfl rfl) <| .cons (.ls rfl rfl rfl) <| .nil <| ks_n ?_
  refine .cD rfl (fun h11 => ?_) (fun h11 => ?_)
  · skip
    refine .seq <| .region <| .cons (.asg rfl rfl) <| .nil <| ks_n <| .ret <| ks_r ?_
    refine kf_ret rfl ?_ nobox
    exact leafI (subZ_no (by omega)).symm
  · skip
    refine .skip <| ks_n <| .seq <| .seq <| .region <| .cons (.asg rfl rfl) <| .nil <| ks_n <| .block ?_
    refine .loopK (fun m σ => (∃ i : Nat, m = es.length - i ∧ (i ≤ es.length) ∧ (((es.length + szEs (es.take i) : Nat) : Int) ≤ l) ∧ σ = [(.t 0, .v (.o (vD (dEs es)))), (.t 1, .v (.o (nat1 (l - (es.length + szEs (es.take i) : Nat))))), (.t 4, .v (.o (nat1 0))), (.t 5, .v (.o (nat1 (i : Nat))))])) [] ⟨0, rfl, by omega, by simp [szEs]; omega, rfl⟩ ⟨ks rfl .dt, ks rfl (.dt (vI (by first | (simp [szEs]; done) | (rw [hT, subZ_yes (by omega)]; omega)))), ks rfl .dt, ks rfl .dt, trivial⟩ ?_
    rintro m σ ⟨i, hm0, hi, hF, rfl⟩
    refine .seq <| .seq <| .region <| .cons (.mv rfl rfl) <| .cons (.mv rfl rfl) <| .cons (.ln 204 7 112 rfl rfl rfl) <| .cons (.ls rfl rfl rfl) <| .nil <| ks_n ?_
    refine .cD rfl (fun h15 => ?_) (fun h15 => ?_)
    · skip
      obtain ⟨x, hx1⟩ : ∃ x, es[i]? = some x := ⟨_, List.getElem?_eq_getElem (by omega)⟩
      have hT := szEs_take hx1
      refine .skip <| ks_n <| .seq <| .block <| .seq <| .region <| .cons (.mv rfl rfl) <| .cons (.mv rfl rfl) <| .cons (.xL 204 7 112 rfl rfl rfl rfl rfl (rE_at hx1)) ?_
      refine .cons (.lN 7 rfl rfl rfl) <| .cons (.mv rfl rfl) <| .cons (.cP [.tmp 21, .tmp 22] rfl rfl rfl rfl (ih x (List.mem_of_getElem? hx1) (l - (es.length + szEs (es.take i) : Nat)) (by omega)) rfl) ?_
      refine .cons (.asg rfl rfl) <| .nil <| ks_n <| .seq <| .region <| .cons (.mv rfl rfl) <| .cons (.ls rfl rfl rfl) <| .nil <| ks_n ?_
      refine .cD rfl (fun h25 => ?_) (fun h25 => ?_)
      · skip
        refine .seq <| .region <| .cons (.asg rfl rfl) <| .nil <| ks_n <| .ret <| kb_r <| ks_r <| kl_r <| kb_r <| ks_r ?_
        refine kf_ret rfl ?_ nobox
        exact leafI (subZ_no (by have h1 := subZ_neg h25 (by omega); have h2 := szEs_le (l := es) (i := i + 1); omega)).symm
      · skip
        have hP := subZ_pos h25
        refine .skip <| kb_n <| ks_n <| .region <| .cons (.mv rfl rfl) <| .cons (.pl rfl rfl rfl) <| .cons (.asg rfl rfl) <| .nil ?_
        refine kl_k [] ⟨i + 1, rfl, by omega, by rw [hT]; have := subZ_pos h25; omega, rfl⟩ ⟨ks rfl .dt, ks rfl (.dt (vI (by first | (simp [szEs]; done) | (rw [hT, subZ_yes (by omega)]; omega)))), ks rfl .dt, ks rfl .dt, trivial⟩
    · skip
      have hall : es.take i = es := List.take_of_length_le (by omega)
      refine .exit <| ks_e <| kl_e <| kb_hit <| ks_n <| .seq <| .region <| .cons (.mv rfl rfl) <| .cons (.asg rfl rfl) <| .nil <| ks_n <| .ret ?_
      refine kf_ret rfl ?_ nobox
      exact leafI (by rw [hall] at hF ⊢; rw [subZ_yes hF])

theorem szEx_one (e : Ex) {l : Int} (hl : 0 ≤ l ∧ l ≤ 1048576) (h0 : e.i.1.length ≤ 17592186044416) (h1 : e.r.1.size ≤ 140737488351232) (h2 : e.r.2.length ≤ 17592186044416) (h3 : ∀ x ∈ e.r.2, x.1.length ≤ 17592186044416) (h4 : e.ks.length ≤ 17592186044416) (ih : ∀ x ∈ e.ks, ∀ l : Int, 0 ≤ l ∧ l ≤ 1048576 → Fn Tryz.prog 201 [] [ad (rX x), nat1 l] (.o (nat1 (subZ l (szE x)))) []) : Fn Tryz.prog 201 [] [ad (rX e), nat1 l] (.o (nat1 (subZ l (szE e)))) [] := by
  have hsz := szE_eq e
  have hb1 := subZ_bd (n := e.i.1.length) hl
  refine Fn.code0 Tryz.func201 rfl rfl rfl rfl ?_
  refine .seq <| .region <| .cons (St1.boxP rfl rfl rfl rfl rfl rfl) <| .cons (.asg rfl rfl) <| .nil <| ks_n <| .seq <| .region <| .cons (.fP 2 1 true rfl rfl) <| .cons (.lN 2 rfl rfl rfl) <| .cons (.mv rfl rfl) <| .cons (.cP [.tmp 6, .tmp 7] rfl rfl rfl rfl (szAff_fn hl h0) rfl) ?_
  refine .cons (.asg rfl rfl) <| .nil <| ks_n <| .seq <| .seq <| .region <| .cons (.mv rfl rfl) <| .cons (.ls rfl rfl rfl) <| .nil <| ks_n ?_
  refine .cD rfl (fun h10 => ?_) (fun h10 => ?_)
  · skip
    refine .seq <| .region <| .cons (.asg rfl rfl) <| .nil <| ks_n <| .ret <| ks_r ?_
    refine kf_ret rfl ?_ nobox
    exact leafI (subZ_no (by have := subZ_neg h10 hl.1; omega)).symm
  · skip
    refine .skip <| ks_n <| .seq ?_
    have hp1 := subZ_pos h10
    have hb2 := subZ_bd (n := szC e.r) (l := subZ l e.i.1.length) (by omega)
    refine .region <| .cons (.fP 4 1 true rfl rfl) <| .cons (.lN 2 rfl rfl rfl) <| .cons (.mv rfl rfl) <| .cons (.cP [.tmp 12, .tmp 13] rfl rfl rfl rfl (szAcc_fn (a := e.r) (l := subZ l e.i.1.length) (by omega) h1 h2 h3) rfl) ?_
    refine .cons (.asg rfl rfl) <| .nil <| ks_n <| .seq <| .seq <| .region <| .cons (.mv rfl rfl) <| .cons (.ls rfl rfl rfl) <| .nil <| ks_n ?_
    refine .cD rfl (fun h16 => ?_) (fun h16 => ?_)
    · skip
      refine .seq <| .region <| .cons (.asg rfl rfl) <| .nil <| ks_n <| .ret <| ks_r ?_
      refine kf_ret rfl ?_ nobox
      exact leafI (subZ_no (by have h6 := subZ_neg h16 (by omega); rw [subZ_yes hp1] at h6; omega)).symm
    · skip
      refine .skip <| ks_n <| .seq ?_
      have hp2 := subZ_pos h16
      have hb3 := subZ_bd (n := e.ks.length + szEs e.ks) (l := subZ (subZ l e.i.1.length) (szC e.r)) (by omega)
      have e1 := subZ_yes hp1
      have e2 := subZ_yes hp2
      refine .region <| .cons (.fP 6 0 false rfl rfl) <| .cons (.l1 1 rfl rfl) <| .cons (.mv rfl rfl) <| .cons (.cP [.tmp 18, .tmp 19] rfl rfl rfl rfl (szExs_one e.ks (l := subZ (subZ l e.i.1.length) (szC e.r)) (by omega) h4 ih) rfl) ?_
      refine .cons (.asg rfl rfl) <| .nil <| ks_n <| .seq <| .seq <| .region <| .cons (.mv rfl rfl) <| .cons (.ls rfl rfl rfl) <| .nil <| ks_n ?_
      refine .cD rfl (fun h22 => ?_) (fun h22 => ?_)
      · skip
        refine .seq <| .region <| .cons (.asg rfl rfl) <| .nil <| ks_n <| .ret <| ks_r ?_
        refine kf_ret rfl ?_ nobox
        exact leafI (subZ_no (by have h6 := subZ_neg h22 (by omega); omega)).symm
      · skip
        refine .skip <| ks_n <| .seq <| .region <| .cons (.mv rfl rfl) <| .cons (.asg rfl rfl) <| .nil <| ks_n <| .ret ?_
        refine kf_ret rfl ?_ nobox
        exact leafI (by have h6 := subZ_pos h22; rw [subZ_yes h6, e2, e1, subZ_yes (l := l) (n := szE e) (by omega)]; omega)

theorem szEx_fn : ∀ e : Ex, okE e → ∀ l : Int, 0 ≤ l ∧ l ≤ 1048576 → Fn Tryz.prog 201 [] [ad (rX e), nat1 l] (.o (nat1 (subZ l (szE e)))) [] := by
  intro e
  induction e using Ex.rec' with
  | h e ih =>
    intro ho l hl
    obtain ⟨h1, h2, h3, h4⟩ := okE_eq.1 ho
    exact szEx_one e hl h1 h2.1 h2.2.1 h2.2.2 h3 fun x hx l hl => ih x hx (h4 x hx) l hl

theorem szStm_fn {s : Stm} (ho : okS s) {l : Int} (hl : 0 ≤ l ∧ l ≤ 1048576)  : Fn Tryz.prog 162 [] [ad (rS s), nat1 l] (.o (nat1 (subZ l (szS s)))) [] := by
  have hsz : szS s = szC s.1 + szE s.2 := rfl
  have hb1 := subZ_bd (n := szC s.1) hl
  obtain ⟨⟨ho1, ho2, ho3⟩, ho4⟩ := ho
  refine Fn.code0 Tryz.func162 rfl rfl rfl rfl ?_
  refine .seq <| .region <| .cons (St1.boxP rfl rfl rfl rfl rfl rfl) <| .cons (.asg rfl rfl) <| .nil <| ks_n <| .seq <| .region <| .cons (.fP 0 1 true rfl rfl) <| .cons (.lN 2 rfl rfl rfl) <| .cons (.mv rfl rfl) <| .cons (.cP [.tmp 6, .tmp 7] rfl rfl rfl rfl (szAcc_fn hl ho1 ho2 ho3) rfl) ?_
  refine .cons (.asg rfl rfl) <| .nil <| ks_n <| .seq <| .seq <| .region <| .cons (.mv rfl rfl) <| .cons (.ls rfl rfl rfl) <| .nil <| ks_n ?_
  refine .cD rfl (fun h10 => ?_) (fun h10 => ?_)
  · skip
    refine .seq <| .region <| .cons (.asg rfl rfl) <| .nil <| ks_n <| .ret <| ks_r ?_
    refine kf_ret rfl ?_ nobox
    exact leafI (subZ_no (by have := subZ_neg h10 hl.1; omega)).symm
  · skip
    refine .skip <| ks_n <| .seq ?_
    have hp1 := subZ_pos h10
    have hb2 := subZ_bd (n := szE s.2) (l := subZ l (szC s.1)) (by omega)
    have e1 := subZ_yes hp1
    refine .region <| .cons (.fP 2 6 true rfl rfl) <| .cons (.lN 7 rfl rfl rfl) <| .cons (.mv rfl rfl) <| .cons (.cP [.tmp 12, .tmp 13] rfl rfl rfl rfl (szEx_fn s.2 ho4 (subZ l (szC s.1)) (by omega)) rfl) ?_
    refine .cons (.asg rfl rfl) <| .nil <| ks_n <| .seq <| .seq <| .region <| .cons (.mv rfl rfl) <| .cons (.ls rfl rfl rfl) <| .nil <| ks_n ?_
    refine .cD rfl (fun h16 => ?_) (fun h16 => ?_)
    · skip
      refine .seq <| .region <| .cons (.asg rfl rfl) <| .nil <| ks_n <| .ret <| ks_r ?_
      refine kf_ret rfl ?_ nobox
      exact leafI (subZ_no (by have h6 := subZ_neg h16 (by omega); omega)).symm
    · skip
      refine .skip <| ks_n <| .seq <| .region <| .cons (.mv rfl rfl) <| .cons (.asg rfl rfl) <| .nil <| ks_n <| .ret ?_
      refine kf_ret rfl ?_ nobox
      exact leafI (by have h6 := subZ_pos h16; rw [subZ_yes h6, e1, subZ_yes (l := l) (n := szS s) (by omega)]; omega)
def tyMk (P : Program) (t : TypeId) : Option (TypeId × Nat × Nat × List Value) :=
  match P.underlying t with
  | some (.slice e) => (P.info? e).bind fun i => i.zero.map fun z => (e, i.size, i.bytes, z.cells.toList)
  | _ => none
theorem tyMk_out {P : Program} {t e : TypeId} {sz by' : Nat} {zs : List Value} (h : tyMk P t = some (e, sz, by', zs)) : P.underlying t = some (.slice e) ∧ ∃ i z, P.info? e = some i ∧ i.zero = some z ∧ i.size = sz ∧ i.bytes = by' ∧ z.cells.toList = zs := by
  unfold tyMk at h
  cases hu : P.underlying t with
  | none => simp [hu] at h
  | some d =>
    cases d <;> simp only [hu, reduceCtorEq] at h
    case slice e' =>
      cases hi : P.info? e' with
      | none => rw [hi] at h; cases h
      | some i =>
        cases hz : i.zero with
        | none => rw [hi] at h; simp [hz] at h
        | some z =>
          rw [hi] at h
          simp only [Option.bind_some, hz, Option.map_some, Option.some.injEq, Prod.mk.injEq] at h
          obtain ⟨rfl, h1, h2, h3⟩ := h
          exact ⟨rfl, i, z, hi, hz, h1, h2, h3⟩
theorem made_at {z : Value} {n i j sz : Nat} {u : Value} (hs : z.cells.toList.length = sz) (hi : i < n) (hu : z.cells.toList[j]? = some u) : (madeCells z.cells (n * sz))[i * sz + j]? = some u := by
  have hj : j < sz := by rw [← hs]; exact (List.getElem?_eq_some_iff.1 hu).1
  have hlt : i * sz + j < n * sz := by
    have := Nat.mul_le_mul_right sz (show i + 1 ≤ n by omega)
    rw [Nat.add_mul] at this; omega
  have hz : z.cells.size = sz := by rw [← hs, Array.length_toList]
  have hm : (i * sz + j) % sz = j := by rw [Nat.add_comm, Nat.add_mul_mod_self_right, Nat.mod_eq_of_lt hj]
  rw [Array.getElem?_toList] at hu
  simp [madeCells, hlt, hz, hm, Array.getElem!_eq_getD, hu, Array.getD_eq_getD_getElem?]
section
variable {P : Program} {n : Nat} {ops : Array Oper} {o : Oper} {σ : St} {d : Nat}
theorem St1.mk (k' : Nat) (e : TypeId) (sz by' : Nat) (zs : List Value) {t : TypeId} {x y : Operand} {m : Nat} (h4 : (o.op, o.guard, o.dst, Nat.blt d n) = (Op.makeSlice t x y, none, some d, true)) (hx : ev σ x = some (.o (nat1 (m : Nat)))) (hy : ev σ y = some (.o (nat1 (m : Nat)))) (hm : m ≤ 1073741824) (hz : (Nat.beq zs.length sz && zs.all (·.oneCell') && Nat.ble by' 65536) = true)
    (hf : (lk σ (.u k'), Nat.ble 100 k') = (.no, true)) (ht : tyMk P t = some (e, sz, by', zs) := by kernel_rfl) :
    St1 P n ops o σ (.u k' :: (rd x ++ rd y)) [.t d, .u k', .b k', .b k'] ((.t d, .v (.o (.c (.own k' sz m)))) :: (.u k', .u) :: (.b k', .b e sz (dR (List.replicate m (zs.map D.val)))) :: (.b k', .no) :: σ) := by
  simp only [Prod.mk.injEq] at h4 hf
  obtain ⟨ho, hg, hd, hn⟩ := h4
  simp only [Bool.and_eq_true] at hz
  have hzl : zs.length = sz := Nat.eq_of_beq_eq_true hz.1.1
  have hz1 : ∀ u ∈ zs, u.oneCell' = true := fun u hu => List.all_eq_true.1 hz.1.2 u hu
  have hby := Nat.le_of_ble_eq_true hz.2
  have hrow : ∀ {i : Nat} {r : List C}, (dR (List.replicate m (zs.map D.val)))[i]? = some r → i < m ∧ r = zs.map fun u => C.d (.val u) := fun {i r} h => by
    rw [dR, List.map_replicate, List.map_map] at h
    have hi : i < m := by have := (List.getElem?_eq_some_iff.1 h).1; simpa using this
    rw [List.getElem?_replicate, if_pos hi] at h
    exact ⟨hi, (Option.some.inj h).symm⟩
  refine St1.place hg hd hn hf.1 hf.2 (okk_self hf.2) rfl fun E bx τ a w hR hs => ?_
  obtain ⟨hu, i, z, hi, hzz, hs1, hs2, hs3⟩ := tyMk_out ht
  have hbm : i.bytes * m ≤ 281474976710656 := by
    have := Nat.mul_le_mul (show i.bytes ≤ 65536 by omega) hm; omega
  have hb' : (i.bytes : Int) * (m : Int) ≤ 281474976710656 := by
    have h : ((i.bytes * m : Nat) : Int) ≤ 281474976710656 := by omega
    rwa [Int.natCast_mul] at h
  have hr := run_make (P := P) w t e i z hu hi hzz .i64 .i64 (m : Int) (m : Int) (by omega) (Int.le_refl _) hb' (by omega)
  simp only [Int.toNat_natCast, hs1] at hr
  have hsz : (madeCells z.cells (m * sz)).size = m * sz := size_madeCells _ _
  refine ⟨.slice (some ⟨w.heap.size, 0, none⟩) m m, w.alloc (.cells (madeCells z.cells (m * sz)) e), w.heap.size, w.heap.size, madeCells z.cells (m * sz), ?_, .inr (Nat.le_refl _), World.grownBy_alloc w _ _, .inl rfl, heap_alloc_new w _, ?_, fun i r hi => ?_, fun i r j c hi hj => ?_, fun r hr' c hc l hl => ?_, fun bx' al B w2 hbx => ⟨rfl, fun _ => ⟨m, by rw [hbx], Nat.le_refl _, by unfold maxLen; omega, by rw [hbx, hsz]⟩⟩⟩
  · simp only [execOp, ho, ev_val hx (rd_l hR) hs, ev_val hy (rd_r hR) hs, Sem.run_bind, hr]; rfl
  · rw [hsz, dR, List.length_map, List.length_replicate]; exact Nat.le_refl _
  · rw [(hrow hi).2, List.length_map, hzl]
  · obtain ⟨h1, rfl⟩ := hrow hi
    rw [List.getElem?_map] at hj
    cases hq : zs[j]? with
    | none => rw [hq] at hj; cases hj
    | some u =>
      rw [hq] at hj; cases hj
      exact ⟨u, made_at (by rw [hs3, hzl]) h1 (by rw [hs3]; exact hq), .val _ (hz1 u (List.mem_of_getElem? hq))⟩
  · obtain ⟨i, hi⟩ := List.mem_iff_getElem?.1 hr'
    obtain ⟨_, rfl⟩ := hrow hi
    obtain ⟨u, _, rfl⟩ := List.mem_map.1 hc
    cases hl
end
theorem eqInts_f (xs ys : List Int) (hx : xs.length ≤ 1099511627776) : Fn Tryz.prog 17 [] [vD (dIs xs), vD (dIs ys)] (.o (bo1 (eqF (fun x y : Int => decide (x = y)) xs ys))) [] := by
 refine Fn.code0 Tryz.func17 rfl rfl rfl rfl ?_
 refine .seq <| .region <| .cons (.asg rfl rfl) <| .nil <| ks_n <| .seq <| .seq <| .region <| .cons (.mv rfl rfl) <| .cons (.ln 3 1 8 rfl rfl rfl) <| .cons (.mv rfl rfl) <| .cons (.ln 3 1 8 rfl rfl rfl) <| .cons (.ne rfl rfl rfl) <| .nil <| ks_n ?_
 refine .cND rfl (fun h10 => ?_) (fun h10 => ?_)
 ·skip
  refine .seq <| .region <| .cons (.asg rfl rfl) <| .nil <| ks_n <| .ret <| ks_r ?_
  refine kf_ret rfl ?_ nobox
  exact leafB (eqF_len (by omega)).symm
 ·skip
  refine .skip <| ks_n <| .seq <| .seq <| .region <| .cons (.asg rfl rfl) <| .nil <| ks_n <| .block ?_
  refine .loopK (fun m σ => (∃ i : Nat, m = xs.length - i ∧ (i ≤ xs.length) ∧ (eqF (fun x y : Int => decide (x = y)) xs ys = eqF (fun x y : Int => decide (x = y)) (xs.drop i) (ys.drop i)) ∧ σ = [(.t 0, .v (.o (vD (dIs xs)))), (.t 1, .v (.o (vD (dIs ys)))), (.t 4, .v (.o (bo1 false))), (.t 5, .v (.o (nat1 (i : Nat))))])) [] ⟨0, rfl, by omega, by simp, rfl⟩ ⟨ks rfl .dt, ks rfl .dt, ks rfl .dt, ks rfl .dt, trivial⟩ ?_
  rintro m σ ⟨i, hm0, hi, hF, rfl⟩
  refine .seq <| .seq <| .region <| .cons (.mv rfl rfl) <| .cons (.mv rfl rfl) <| .cons (.ln 3 1 8 rfl rfl rfl) <| .cons (.ls rfl rfl rfl) <| .nil <| ks_n ?_
  refine .cD rfl (fun h14 => ?_) (fun h14 => ?_)
  ·skip
   obtain ⟨x, hx1⟩ : ∃ x, xs[i]? = some x := ⟨_, List.getElem?_eq_getElem (by omega)⟩
   obtain ⟨y, hy1⟩ : ∃ x, ys[i]? = some x := ⟨_, List.getElem?_eq_getElem (by omega)⟩
   refine .skip <| ks_n <| .seq <| .block <| .seq ?_
   refine ACode.drawK (by kernel_rfl) (by kernel_rfl) ?_
   refine .cons (.mv rfl rfl) <| .cons (.mv rfl rfl) <| .cons (.xL 3 1 8 rfl rfl rfl rfl rfl (map_at hx1)) ?_
   refine .cons (.l1 1 rfl rfl) <| .cons (.mv rfl rfl) <| .cons (.mv rfl rfl) <| .cons (.xL 3 1 8 rfl rfl rfl rfl rfl (map_at hy1)) ?_
   refine .cons (.l1 1 rfl rfl) <| .cons (.ne rfl rfl rfl) ?_
   refine .nil ⟨by kernel_rfl, ?_⟩
   refine ks_n ?_
   refine .cND rfl (fun h25 => ?_) (fun h25 => ?_)
   ·skip
    have g : decide (x = y) = false := by first | assumption | exact decide_eq_false (by assumption) | (simp; omega)
    refine .seq <| .region <| .cons (.asg rfl rfl) <| .nil <| ks_n <| .ret <| kb_r <| ks_r <| kl_r <| kb_r <| ks_r ?_
    refine kf_ret rfl ?_ nobox
    exact leafB (by rw [hF, eqF_drop hx1 hy1, g]; rfl)
   ·skip
    have g : decide (x = y) = true := by first | assumption | exact decide_eq_true (by assumption) | (simp; omega)
    refine .skip <| kb_n <| ks_n <| .region <| .cons (.mv rfl rfl) <| .cons (.pl rfl rfl rfl) <| .cons (.asg rfl rfl) <| .nil ?_
    refine kl_k [] ⟨i + 1, rfl, by omega, by rw [hF, eqF_drop hx1 hy1, g, Bool.true_and], rfl⟩ ⟨ks rfl .dt, ks rfl .dt, ks rfl .dt, ks rfl .dt, trivial⟩
  ·skip
   refine .exit <| ks_e <| kl_e <| kb_hit <| ks_n <| .seq <| .region <| .cons (.asg rfl rfl) <| .nil <| ks_n <| .ret ?_
   refine kf_ret rfl ?_ nobox
   exact leafB (by rw [hF, show i = xs.length by omega, eqF_end (by omega)])

theorem eqInts_fn (xs ys : List Int) (hx : xs.length ≤ 1099511627776) : Fn Tryz.prog 17 [] [vD (dIs xs), vD (dIs ys)] (.o (bo1 (decide (xs = ys)))) [] := by
  rw [← eqF_dec]; exact eqInts_f xs ys hx

theorem eqAff_fn (x y : Aff) (hx : x.1.length ≤ 1099511627776) : Fn Tryz.prog 242 [] [ad (rA x), ad (rA y)] (.o (bo1 (decide (x = y)))) [] := by
 refine Fn.code0 Tryz.func242 rfl rfl rfl rfl ?_
 refine .seq <| .region <| .cons (St1.boxP rfl rfl rfl rfl rfl rfl) <| .cons (St1.boxP rfl rfl rfl rfl rfl rfl) <| .cons (.asg rfl rfl) <| .nil <| ks_n <| .seq <| .seq <| .region <| .cons (.fP 0 0 false rfl rfl) <| .cons (.l1 1 rfl rfl) <| .cons (.fP 0 0 false rfl rfl) <| .cons (.l1 1 rfl rfl) <| .cons (.cP [.tmp 6, .tmp 8] rfl rfl rfl rfl (eqInts_fn _ _ hx) rfl) ?_
 refine .cons (.nt rfl rfl) <| .nil <| ks_n ?_
 refine ACode.condT rfl (fun h10 => ?_) (fun h10 => ?_)
 ·try simp only [zs1, zs2, zs3, zs4, zs5, zs6, zs7] at h10
  refine .seq <| .region <| .cons (.asg rfl rfl) <| .nil <| ks_n <| .ret <| ks_r ?_
  refine kf_ret rfl ?_ nobox
  exact leafB (by rw [Bool.eq_iff_iff]; simp [Prod.ext_iff, *])
 ·try simp only [zs1, zs2, zs3, zs4, zs5, zs6, zs7] at h10
  refine .skip <| ks_n <| .seq <| .seq <| .region <| .cons (.fP 1 0 false rfl rfl) <| .cons (.l1 1 rfl rfl) <| .cons (.fP 1 0 false rfl rfl) <| .cons (.l1 1 rfl rfl) <| .cons (.ne rfl rfl rfl) <| .nil <| ks_n ?_
  refine .cND rfl (fun h15 => ?_) (fun h15 => ?_)
  ·skip
   refine .seq <| .region <| .cons (.asg rfl rfl) <| .nil <| ks_n <| .ret <| ks_r ?_
   refine kf_ret rfl ?_ nobox
   exact leafB (by rw [Bool.eq_iff_iff]; simp [Prod.ext_iff, *])
  ·skip
   refine .skip <| ks_n <| .seq <| .region <| .cons (.asg rfl rfl) <| .nil <| ks_n <| .ret ?_
   refine kf_ret rfl ?_ nobox
   exact leafB (by rw [Bool.eq_iff_iff]; simp [Prod.ext_iff, *])

theorem eqAffs_f (xs ys : List Aff) (hx : xs.length ≤ 1099511627776) (hq : ∀ x ∈ xs, x.1.length ≤ 1099511627776) : Fn Tryz.prog 216 [] [vD (dAs xs), vD (dAs ys)] (.o (bo1 (eqF (fun x y : Aff => decide (x = y)) xs ys))) [] := by
 refine Fn.code0 Tryz.func216 rfl rfl rfl rfl ?_
 refine .seq <| .region <| .cons (.asg rfl rfl) <| .nil <| ks_n <| .seq <| .seq <| .region <| .cons (.mv rfl rfl) <| .cons (.ln 91 2 32 rfl rfl rfl) <| .cons (.mv rfl rfl) <| .cons (.ln 91 2 32 rfl rfl rfl) <| .cons (.ne rfl rfl rfl) <| .nil <| ks_n ?_
 refine .cND rfl (fun h10 => ?_) (fun h10 => ?_)
 ·skip
  refine .seq <| .region <| .cons (.asg rfl rfl) <| .nil <| ks_n <| .ret <| ks_r ?_
  refine kf_ret rfl ?_ nobox
  exact leafB (eqF_len (by omega)).symm
 ·skip
  refine .skip <| ks_n <| .seq <| .seq <| .region <| .cons (.asg rfl rfl) <| .nil <| ks_n <| .block ?_
  refine .loopK (fun m σ => (∃ i : Nat, m = xs.length - i ∧ (i ≤ xs.length) ∧ (eqF (fun x y : Aff => decide (x = y)) xs ys = eqF (fun x y : Aff => decide (x = y)) (xs.drop i) (ys.drop i)) ∧ σ = [(.t 0, .v (.o (vD (dAs xs)))), (.t 1, .v (.o (vD (dAs ys)))), (.t 4, .v (.o (bo1 false))), (.t 5, .v (.o (nat1 (i : Nat))))])) [] ⟨0, rfl, by omega, by simp, rfl⟩ ⟨ks rfl .dt, ks rfl .dt, ks rfl .dt, ks rfl .dt, trivial⟩ ?_
  rintro m σ ⟨i, hm0, hi, hF, rfl⟩
  refine .seq <| .seq <| .region <| .cons (.mv rfl rfl) <| .cons (.mv rfl rfl) <| .cons (.ln 91 2 32 rfl rfl rfl) <| .cons (.ls rfl rfl rfl) <| .nil <| ks_n ?_
  refine .cD rfl (fun h14 => ?_) (fun h14 => ?_)
  ·skip
   obtain ⟨x, hx1⟩ : ∃ x, xs[i]? = some x := ⟨_, List.getElem?_eq_getElem (by omega)⟩
   obtain ⟨y, hy1⟩ : ∃ x, ys[i]? = some x := ⟨_, List.getElem?_eq_getElem (by omega)⟩
   refine .skip <| ks_n <| .seq <| .block <| .seq ?_
   refine ACode.drawK (by kernel_rfl) (by kernel_rfl) ?_
   refine .cons (.mv rfl rfl) <| .cons (.mv rfl rfl) <| .cons (.xL 91 2 32 rfl rfl rfl rfl rfl (map_at hx1)) ?_
   refine .cons (.lN 2 rfl rfl rfl) <| .cons (.mv rfl rfl) <| .cons (.mv rfl rfl) <| .cons (.xL 91 2 32 rfl rfl rfl rfl rfl (map_at hy1)) ?_
   refine .cons (.lN 2 rfl rfl rfl) <| .cons (.cP [.tmp 20, .tmp 24] rfl rfl rfl rfl (eqAff_fn x y (hq x (List.mem_of_getElem? hx1))) rfl) ?_
   refine .cons (.nt rfl rfl) ?_
   refine .nil ⟨by kernel_rfl, ?_⟩
   refine ks_n ?_
   refine ACode.condT rfl (fun h26 => ?_) (fun h26 => ?_)
   ·try simp only [zs1, zs2, zs3, zs4, zs5, zs6, zs7] at h26
    have g : decide (x = y) = false := by first | assumption | exact decide_eq_false (by assumption) | (simp; omega)
    refine .seq <| .region <| .cons (.asg rfl rfl) <| .nil <| ks_n <| .ret <| kb_r <| ks_r <| kl_r <| kb_r <| ks_r ?_
    refine kf_ret rfl ?_ nobox
    exact leafB (by rw [hF, eqF_drop hx1 hy1, g]; rfl)
   ·try simp only [zs1, zs2, zs3, zs4, zs5, zs6, zs7] at h26
    have g : decide (x = y) = true := by first | assumption | exact decide_eq_true (by assumption) | (simp; omega)
    refine .skip <| kb_n <| ks_n <| .region <| .cons (.mv rfl rfl) <| .cons (.pl rfl rfl rfl) <| .cons (.asg rfl rfl) <| .nil ?_
    refine kl_k [] ⟨i + 1, rfl, by omega, by rw [hF, eqF_drop hx1 hy1, g, Bool.true_and], rfl⟩ ⟨ks rfl .dt, ks rfl .dt, ks rfl .dt, ks rfl .dt, trivial⟩
  ·skip
   refine .exit <| ks_e <| kl_e <| kb_hit <| ks_n <| .seq <| .region <| .cons (.asg rfl rfl) <| .nil <| ks_n <| .ret ?_
   refine kf_ret rfl ?_ nobox
   exact leafB (by rw [hF, show i = xs.length by omega, eqF_end (by omega)])

theorem eqAffs_fn (xs ys : List Aff) (hx : xs.length ≤ 1099511627776) (hq : ∀ x ∈ xs, x.1.length ≤ 1099511627776) : Fn Tryz.prog 216 [] [vD (dAs xs), vD (dAs ys)] (.o (bo1 (decide (xs = ys)))) [] := by
  rw [← eqF_dec]; exact eqAffs_f xs ys hx hq
theorem eqAcc_fn (a b : Acc) (h : szC a ≤ 1073741824) : Fn Tryz.prog 217 [] [ad (rC a), ad (rC b)] (.o (bo1 (sameC a b))) [] := by
 rw [szC] at h
 have h2 := szAs_len a.2
 refine Fn.code0 Tryz.func217 rfl rfl rfl rfl ?_
 refine .seq <| .region <| .cons (St1.boxP rfl rfl rfl rfl rfl rfl) <| .cons (St1.boxP rfl rfl rfl rfl rfl rfl) <| .cons (.asg rfl rfl) <| .nil <| ks_n <| .seq <| .seq <| .region <| .cons (.fP 0 0 false rfl rfl) <| .cons (.l1 1 rfl rfl) <| .cons (.fP 0 0 false rfl rfl) <| .cons (.l1 1 rfl rfl) <| .cons (St1.neS rfl rfl rfl) <| .nil <| ks_n ?_
 refine ACode.condT rfl (fun h9 => ?_) (fun h9 => ?_)
 ·try simp only [zs1, zs2, zs3, zs4, zs5, zs6, zs7] at h9
  refine .seq <| .region <| .cons (.asg rfl rfl) <| .nil <| ks_n <| .ret <| ks_r ?_
  refine kf_ret rfl ?_ nobox
  exact leafB (by rw [sameC]; first | (simp [*]; done) | grind)
 ·try simp only [zs1, zs2, zs3, zs4, zs5, zs6, zs7] at h9
  refine .skip <| ks_n <| .seq <| .seq <| .region <| .cons (.fP 1 0 false rfl rfl) <| .cons (.l1 1 rfl rfl) <| .cons (.fP 1 0 false rfl rfl) <| .cons (.l1 1 rfl rfl) <| .cons (.cP [.tmp 11, .tmp 13] rfl rfl rfl rfl (eqAffs_fn _ _ (by omega) (fun x hx => by have := szAs_mem hx; omega)) rfl) ?_
  refine .cons (.nt rfl rfl) <| .nil <| ks_n ?_
  refine ACode.condT rfl (fun h15 => ?_) (fun h15 => ?_)
  ·try simp only [zs1, zs2, zs3, zs4, zs5, zs6, zs7] at h15
   refine .seq <| .region <| .cons (.asg rfl rfl) <| .nil <| ks_n <| .ret <| ks_r ?_
   refine kf_ret rfl ?_ nobox
   exact leafB (by rw [sameC]; first | (simp [*]; done) | grind)
  ·try simp only [zs1, zs2, zs3, zs4, zs5, zs6, zs7] at h15
   refine .skip <| ks_n <| .seq <| .region <| .cons (.asg rfl rfl) <| .nil <| ks_n <| .ret ?_
   refine kf_ret rfl ?_ nobox
   exact leafB (by rw [sameC]; first | (simp [*]; done) | grind)

theorem eqExs_one (xs ys : List Ex) (hx : xs.length ≤ 1099511627776) (ih : ∀ x ∈ xs, ∀ y, Fn Tryz.prog 218 [] [ad (rX x), ad (rX y)] (.o (bo1 (sameE x y))) []) : Fn Tryz.prog 243 [] [vD (dEs xs), vD (dEs ys)] (.o (bo1 (eqF sameE xs ys))) [] := by
 refine Fn.code0 Tryz.func243 rfl rfl rfl rfl ?_
 refine .seq <| .region <| .cons (.asg rfl rfl) <| .nil <| ks_n <| .seq <| .seq <| .region <| .cons (.mv rfl rfl) <| .cons (.ln 94 7 112 rfl rfl rfl) <| .cons (.mv rfl rfl) <| .cons (.ln 94 7 112 rfl rfl rfl) <| .cons (.ne rfl rfl rfl) <| .nil <| ks_n ?_
 refine .cND rfl (fun h10 => ?_) (fun h10 => ?_)
 ·skip
  refine .seq <| .region <| .cons (.asg rfl rfl) <| .nil <| ks_n <| .ret <| ks_r ?_
  refine kf_ret rfl ?_ nobox
  exact leafB (eqF_len (by omega)).symm
 ·skip
  refine .skip <| ks_n <| .seq <| .seq <| .region <| .cons (.asg rfl rfl) <| .nil <| ks_n <| .block ?_
  refine .loopK (fun m σ => (∃ i : Nat, m = xs.length - i ∧ (i ≤ xs.length) ∧ (eqF sameE xs ys = eqF sameE (xs.drop i) (ys.drop i)) ∧ σ = [(.t 0, .v (.o (vD (dEs xs)))), (.t 1, .v (.o (vD (dEs ys)))), (.t 4, .v (.o (bo1 false))), (.t 5, .v (.o (nat1 (i : Nat))))])) [] ⟨0, rfl, by omega, by simp, rfl⟩ ⟨ks rfl .dt, ks rfl .dt, ks rfl .dt, ks rfl .dt, trivial⟩ ?_
  rintro m σ ⟨i, hm0, hi, hF, rfl⟩
  refine .seq <| .seq <| .region <| .cons (.mv rfl rfl) <| .cons (.mv rfl rfl) <| .cons (.ln 94 7 112 rfl rfl rfl) <| .cons (.ls rfl rfl rfl) <| .nil <| ks_n ?_
  refine .cD rfl (fun h14 => ?_) (fun h14 => ?_)
  ·skip
   obtain ⟨x, hx1⟩ : ∃ x, xs[i]? = some x := ⟨_, List.getElem?_eq_getElem (by omega)⟩
   obtain ⟨y, hy1⟩ : ∃ x, ys[i]? = some x := ⟨_, List.getElem?_eq_getElem (by omega)⟩
   refine .skip <| ks_n <| .seq <| .block <| .seq ?_
   refine ACode.drawK (by kernel_rfl) (by kernel_rfl) ?_
   refine .cons (.mv rfl rfl) <| .cons (.mv rfl rfl) <| .cons (.xL 94 7 112 rfl rfl rfl rfl rfl (rE_at hx1)) ?_
   refine .cons (.lN 7 rfl rfl rfl) <| .cons (.mv rfl rfl) <| .cons (.mv rfl rfl) <| .cons (.xL 94 7 112 rfl rfl rfl rfl rfl (rE_at hy1)) ?_
   refine .cons (.lN 7 rfl rfl rfl) <| .cons (.cP [.tmp 20, .tmp 24] rfl rfl rfl rfl (ih x (List.mem_of_getElem? hx1) y) rfl) ?_
   refine .cons (.nt rfl rfl) ?_
   refine .nil ⟨by kernel_rfl, ?_⟩
   refine ks_n ?_
   refine ACode.condT rfl (fun h26 => ?_) (fun h26 => ?_)
   ·try simp only [zs1, zs2, zs3, zs4, zs5, zs6, zs7] at h26
    have g : sameE x y = false := by first | assumption | exact decide_eq_false (by assumption) | (simp; omega)
    refine .seq <| .region <| .cons (.asg rfl rfl) <| .nil <| ks_n <| .ret <| kb_r <| ks_r <| kl_r <| kb_r <| ks_r ?_
    refine kf_ret rfl ?_ nobox
    exact leafB (by rw [hF, eqF_drop hx1 hy1, g]; rfl)
   ·try simp only [zs1, zs2, zs3, zs4, zs5, zs6, zs7] at h26
    have g : sameE x y = true := by first | assumption | exact decide_eq_true (by assumption) | (simp; omega)
    refine .skip <| kb_n <| ks_n <| .region <| .cons (.mv rfl rfl) <| .cons (.pl rfl rfl rfl) <| .cons (.asg rfl rfl) <| .nil ?_
    refine kl_k [] ⟨i + 1, rfl, by omega, by rw [hF, eqF_drop hx1 hy1, g, Bool.true_and], rfl⟩ ⟨ks rfl .dt, ks rfl .dt, ks rfl .dt, ks rfl .dt, trivial⟩
  ·skip
   refine .exit <| ks_e <| kl_e <| kb_hit <| ks_n <| .seq <| .region <| .cons (.asg rfl rfl) <| .nil <| ks_n <| .ret ?_
   refine kf_ret rfl ?_ nobox
   exact leafB (by rw [hF, show i = xs.length by omega, eqF_end (by omega)])

theorem eqEx_one (x y : Ex) (h0 : x.i.1.length ≤ 1073741824) (h1 : szC x.r ≤ 1073741824) (h2 : x.ks.length ≤ 1099511627776) (ih : ∀ a ∈ x.ks, ∀ b, Fn Tryz.prog 218 [] [ad (rX a), ad (rX b)] (.o (bo1 (sameE a b))) []) : Fn Tryz.prog 218 [] [ad (rX x), ad (rX y)] (.o (bo1 (sameE x y))) [] := by
 refine Fn.code0 Tryz.func218 rfl rfl rfl rfl ?_
 refine .seq <| .region <| .cons (St1.boxP rfl rfl rfl rfl rfl rfl) <| .cons (St1.boxP rfl rfl rfl rfl rfl rfl) <| .cons (.asg rfl rfl) <| .nil <| ks_n <| .seq <| .seq <| .region <| .cons (.fP 0 0 false rfl rfl) <| .cons (.l1 1 rfl rfl) <| .cons (.fP 0 0 false rfl rfl) <| .cons (.l1 1 rfl rfl) <| .cons (.ne rfl rfl rfl) <| .nil <| ks_n ?_
 refine .cND rfl (fun h9 => ?_) (fun h9 => ?_)
 ·skip
  refine .seq <| .region <| .cons (.asg rfl rfl) <| .nil <| ks_n <| .ret <| ks_r ?_
  refine kf_ret rfl ?_ nobox
  exact leafB (by rw [sameE_eq, ← eqF_sameE]; first | (simp [*]; done) | grind)
 ·skip
  refine .skip <| ks_n <| .seq <| .seq <| .region <| .cons (.fP 1 0 false rfl rfl) <| .cons (.l1 1 rfl rfl) <| .cons (.fP 1 0 false rfl rfl) <| .cons (.l1 1 rfl rfl) <| .cons (.ne rfl rfl rfl) <| .nil <| ks_n ?_
  refine .cND rfl (fun h14 => ?_) (fun h14 => ?_)
  ·skip
   refine .seq <| .region <| .cons (.asg rfl rfl) <| .nil <| ks_n <| .ret <| ks_r ?_
   refine kf_ret rfl ?_ nobox
   exact leafB (by rw [sameE_eq, ← eqF_sameE]; first | (simp [*]; done) | grind)
  ·skip
   refine .skip <| ks_n <| .seq <| .seq <| .region <| .cons (.fP 2 1 true rfl rfl) <| .cons (.lN 2 rfl rfl rfl) <| .cons (.fP 2 1 true rfl rfl) <| .cons (.lN 2 rfl rfl rfl) <| .cons (.cP [.tmp 16, .tmp 18] rfl rfl rfl rfl (eqAff_fn _ _ (by omega)) rfl) ?_
   refine .cons (.nt rfl rfl) <| .nil <| ks_n ?_
   refine ACode.condT rfl (fun h20 => ?_) (fun h20 => ?_)
   ·try simp only [zs1, zs2, zs3, zs4, zs5, zs6, zs7] at h20
    refine .seq <| .region <| .cons (.asg rfl rfl) <| .nil <| ks_n <| .ret <| ks_r ?_
    refine kf_ret rfl ?_ nobox
    exact leafB (by rw [sameE_eq, ← eqF_sameE]; first | (simp [*]; done) | grind)
   ·try simp only [zs1, zs2, zs3, zs4, zs5, zs6, zs7] at h20
    refine .skip <| ks_n <| .seq <| .seq <| .region <| .cons (.fP 4 1 true rfl rfl) <| .cons (.lN 2 rfl rfl rfl) <| .cons (.fP 4 1 true rfl rfl) <| .cons (.lN 2 rfl rfl rfl) <| .cons (.cP [.tmp 22, .tmp 24] rfl rfl rfl rfl (eqAcc_fn _ _ h1) rfl) ?_
    refine .cons (.nt rfl rfl) <| .nil <| ks_n ?_
    refine ACode.condT rfl (fun h26 => ?_) (fun h26 => ?_)
    ·try simp only [zs1, zs2, zs3, zs4, zs5, zs6, zs7] at h26
     refine .seq <| .region <| .cons (.asg rfl rfl) <| .nil <| ks_n <| .ret <| ks_r ?_
     refine kf_ret rfl ?_ nobox
     exact leafB (by rw [sameE_eq, ← eqF_sameE]; first | (simp [*]; done) | grind)
    ·try simp only [zs1, zs2, zs3, zs4, zs5, zs6, zs7] at h26
     refine .skip <| ks_n <| .seq <| .seq <| .region <| .cons (.fP 6 0 false rfl rfl) <| .cons (.l1 1 rfl rfl) <| .cons (.fP 6 0 false rfl rfl) <| .cons (.l1 1 rfl rfl) <| .cons (.cP [.tmp 28, .tmp 30] rfl rfl rfl rfl (eqExs_one x.ks y.ks h2 ih) rfl) ?_
     refine .cons (.nt rfl rfl) <| .nil <| ks_n ?_
     refine ACode.condT rfl (fun h32 => ?_) (fun h32 => ?_)
     ·try simp only [zs1, zs2, zs3, zs4, zs5, zs6, zs7] at h32
      refine .seq <| .region <| .cons (.asg rfl rfl) <| .nil <| ks_n <| .ret <| ks_r ?_
      refine kf_ret rfl ?_ nobox
      exact leafB (by rw [sameE_eq, ← eqF_sameE]; first | (simp [*]; done) | grind)
     ·try simp only [zs1, zs2, zs3, zs4, zs5, zs6, zs7] at h32
      refine .skip <| ks_n <| .seq <| .region <| .cons (.asg rfl rfl) <| .nil <| ks_n <| .ret ?_
      refine kf_ret rfl ?_ nobox
      exact leafB (by rw [sameE_eq, ← eqF_sameE]; first | (simp [*]; done) | grind)

theorem eqEx_fn : ∀ x y : Ex, szE x ≤ 1073741824 → Fn Tryz.prog 218 [] [ad (rX x), ad (rX y)] (.o (bo1 (sameE x y))) [] := by
  intro x
  induction x using Ex.rec' with
  | h x ih =>
    intro y hs
    rw [szE_eq] at hs
    exact eqEx_one x y (by omega) (by omega) (by omega) fun a ha b => ih a ha b (by have := szEs_mem ha; omega)

theorem eqStm_fn (s t : Stm) (h : szS s ≤ 1073741824) : Fn Tryz.prog 171 [] [ad (rS s), ad (rS t)] (.o (bo1 (sameS s t))) [] := by
 rw [szS] at h
 refine Fn.code0 Tryz.func171 rfl rfl rfl rfl ?_
 refine .seq <| .region <| .cons (St1.boxP rfl rfl rfl rfl rfl rfl) <| .cons (St1.boxP rfl rfl rfl rfl rfl rfl) <| .cons (.asg rfl rfl) <| .nil <| ks_n <| .seq <| .seq <| .region <| .cons (.fP 0 1 true rfl rfl) <| .cons (.lN 2 rfl rfl rfl) <| .cons (.fP 0 1 true rfl rfl) <| .cons (.lN 2 rfl rfl rfl) <| .cons (.cP [.tmp 6, .tmp 8] rfl rfl rfl rfl (eqAcc_fn _ _ (by omega)) rfl) ?_
 refine .cons (.nt rfl rfl) <| .nil <| ks_n ?_
 refine ACode.condT rfl (fun h10 => ?_) (fun h10 => ?_)
 ·try simp only [zs1, zs2, zs3, zs4, zs5, zs6, zs7] at h10
  refine .seq <| .region <| .cons (.asg rfl rfl) <| .nil <| ks_n <| .ret <| ks_r ?_
  refine kf_ret rfl ?_ nobox
  exact leafB (by rw [sameS]; first | (simp [*]; done) | grind)
 ·try simp only [zs1, zs2, zs3, zs4, zs5, zs6, zs7] at h10
  refine .skip <| ks_n <| .seq <| .seq <| .region <| .cons (.fP 2 6 true rfl rfl) <| .cons (.lN 7 rfl rfl rfl) <| .cons (.fP 2 6 true rfl rfl) <| .cons (.lN 7 rfl rfl rfl) <| .cons (.cP [.tmp 12, .tmp 14] rfl rfl rfl rfl (eqEx_fn _ _ (by omega)) rfl) ?_
  refine .cons (.nt rfl rfl) <| .nil <| ks_n ?_
  refine ACode.condT rfl (fun h16 => ?_) (fun h16 => ?_)
  ·try simp only [zs1, zs2, zs3, zs4, zs5, zs6, zs7] at h16
   refine .seq <| .region <| .cons (.asg rfl rfl) <| .nil <| ks_n <| .ret <| ks_r ?_
   refine kf_ret rfl ?_ nobox
   exact leafB (by rw [sameS]; first | (simp [*]; done) | grind)
  ·try simp only [zs1, zs2, zs3, zs4, zs5, zs6, zs7] at h16
   refine .skip <| ks_n <| .seq <| .region <| .cons (.asg rfl rfl) <| .nil <| ks_n <| .ret ?_
   refine kf_ret rfl ?_ nobox
   exact leafB (by rw [sameS]; first | (simp [*]; done) | grind)
/-- Sizes of loops. -/
def szL (l : Lp) : Nat := szAs l.1 + szAs l.2
def szLs (l : List Lp) : Nat := l.length + (l.map szL).sum
theorem szLs_mem {l : List Lp} {a : Lp} (h : a ∈ l) : l.length + szL a ≤ szLs l := by
  rw [szLs]
  have : ∀ (l : List Nat) (n : Nat), n ∈ l → n ≤ l.sum := by
    intro l
    induction l with
    | nil => intro n h; cases h
    | cons m l ih =>
      intro n h
      rw [List.sum_cons]
      rcases List.mem_cons.1 h with rfl | h
      · omega
      · have := ih n h; omega
  have := this _ _ (List.mem_map_of_mem (f := szL) h)
  omega
theorem szLs_len (l : List Lp) : l.length ≤ szLs l := Nat.le_add_right _ _

theorem szLoop_fn {x : Lp} {l : Int} (hl : 0 ≤ l ∧ l ≤ 1048576) (ho : okAs x.1 ∧ okAs x.2) : Fn Tryz.prog 161 [] [ad (rL x), nat1 l] (.o (nat1 (subZ l (szL x)))) [] := by
  have hsz : szL x = szAs x.1 + szAs x.2 := rfl
  have hb1 := subZ_bd (n := szAs x.1) hl
  obtain ⟨⟨o1, o2⟩, o3, o4⟩ := ho
  refine Fn.code0 Tryz.func161 rfl rfl rfl rfl ?_
  refine .seq <| .region <| .cons (St1.boxP rfl rfl rfl rfl rfl rfl) <| .cons (.asg rfl rfl) <| .nil <| ks_n <| .seq <| .region <| .cons (.fP 0 0 false rfl rfl) <| .cons (.l1 1 rfl rfl) <| .cons (.mv rfl rfl) <| .cons (.cP [.tmp 6, .tmp 7] rfl rfl rfl rfl (szAffs_fn x.1 hl o1 o2) rfl) ?_
  refine .cons (.asg rfl rfl) <| .nil <| ks_n <| .seq <| .seq <| .region <| .cons (.mv rfl rfl) <| .cons (.ls rfl rfl rfl) <| .nil <| ks_n ?_
  refine .cD rfl (fun h10 => ?_) (fun h10 => ?_)
  · skip
    refine .seq <| .region <| .cons (.asg rfl rfl) <| .nil <| ks_n <| .ret <| ks_r ?_
    refine kf_ret rfl ?_ nobox
    exact leafI (subZ_no (by have := subZ_neg h10 hl.1; omega)).symm
  · skip
    refine .skip <| ks_n <| .seq ?_
    have hp1 := subZ_pos h10
    have hb2 := subZ_bd (n := szAs x.2) (l := subZ l (szAs x.1)) (by omega)
    have e1 := subZ_yes hp1
    refine .region <| .cons (.fP 1 0 false rfl rfl) <| .cons (.l1 1 rfl rfl) <| .cons (.mv rfl rfl) <| .cons (.cP [.tmp 12, .tmp 13] rfl rfl rfl rfl (szAffs_fn x.2 (l := subZ l (szAs x.1)) (by omega) o3 o4) rfl) ?_
    refine .cons (.asg rfl rfl) <| .nil <| ks_n <| .seq <| .seq <| .region <| .cons (.mv rfl rfl) <| .cons (.ls rfl rfl rfl) <| .nil <| ks_n ?_
    refine .cD rfl (fun h16 => ?_) (fun h16 => ?_)
    · skip
      refine .seq <| .region <| .cons (.asg rfl rfl) <| .nil <| ks_n <| .ret <| ks_r ?_
      refine kf_ret rfl ?_ nobox
      exact leafI (subZ_no (by have h6 := subZ_neg h16 (by omega); omega)).symm
    · skip
      refine .skip <| ks_n <| .seq <| .region <| .cons (.mv rfl rfl) <| .cons (.asg rfl rfl) <| .nil <| ks_n <| .ret ?_
      refine kf_ret rfl ?_ nobox
      exact leafI (by have h6 := subZ_pos h16; rw [subZ_yes h6, e1, subZ_yes (l := l) (n := szL x) (by omega)]; omega)

theorem szLoops_fn (xs : List Lp) {l : Int} (hl : 0 ≤ l ∧ l ≤ 1048576) (hx : xs.length ≤ 17592186044416) (hq : ∀ x ∈ xs, okAs x.1 ∧ okAs x.2) : Fn Tryz.prog 114 [] [vD (dLs xs), nat1 l] (.o (nat1 (subZ l (szLs xs)))) [] := by
  refine Fn.code0 Tryz.func114 rfl rfl rfl rfl ?_
  refine .seq <| .region <| .cons (.asg rfl rfl) <| .nil <| ks_n <| .seq <| .region <| .cons (.mv rfl rfl) <| .cons (.mv rfl rfl) <| .cons (.ln 197 2 48 rfl rfl rfl) <| .cons (.sb rfl rfl rfl) <| .cons (.asg rfl rfl) <| .nil <| ks_n <| .seq <| .seq <| .region <| .cons (.mv rfl rfl) <| .cons (.ls rfl rfl rfl) <| .nil <| ks_n ?_
  refine .cD rfl (fun h11 => ?_) (fun h11 => ?_)
  · skip
    refine .seq <| .region <| .cons (.asg rfl rfl) <| .nil <| ks_n <| .ret <| ks_r ?_
    refine kf_ret rfl ?_ nobox
    exact leafI (subZ_no (by rw [szLs]; omega)).symm
  · skip
    refine .skip <| ks_n <| .seq <| .seq <| .region <| .cons (.asg rfl rfl) <| .nil <| ks_n <| .block ?_
    refine .loopK (fun m σ => (∃ i : Nat, m = xs.length - i ∧ (i ≤ xs.length) ∧ (((xs.length + ((xs.take i).map szL).sum : Nat) : Int) ≤ l) ∧ σ = [(.t 0, .v (.o (vD (dLs xs)))), (.t 1, .v (.o (nat1 (l - (xs.length + ((xs.take i).map szL).sum : Nat))))), (.t 4, .v (.o (nat1 0))), (.t 5, .v (.o (nat1 (i : Nat))))])) [] ⟨0, rfl, by omega, by simp; omega, rfl⟩ ⟨ks rfl .dt, ks rfl (.dt (vI (by first | (simp; done) | (rw [hT, subZ_yes (by omega)]; omega)))), ks rfl .dt, ks rfl .dt, trivial⟩ ?_
    rintro m σ ⟨i, hm0, hi, hF, rfl⟩
    refine .seq <| .seq <| .region <| .cons (.mv rfl rfl) <| .cons (.mv rfl rfl) <| .cons (.ln 197 2 48 rfl rfl rfl) <| .cons (.ls rfl rfl rfl) <| .nil <| ks_n ?_
    refine .cD rfl (fun h15 => ?_) (fun h15 => ?_)
    · skip
      obtain ⟨x, hx1⟩ : ∃ x, xs[i]? = some x := ⟨_, List.getElem?_eq_getElem (by omega)⟩
      have hT := sum_take szL hx1
      refine .skip <| ks_n <| .seq <| .block <| .seq <| .region <| .cons (.mv rfl rfl) <| .cons (.mv rfl rfl) <| .cons (.xL 197 2 48 rfl rfl rfl rfl rfl) ?_
      refine .cons (.lN 2 rfl rfl rfl) <| .cons (.mv rfl rfl) <| .cons (.cP [.tmp 21, .tmp 22] rfl rfl rfl rfl (szLoop_fn (l := l - (xs.length + ((xs.take i).map szL).sum : Nat)) (by omega) (hq x (List.mem_of_getElem? hx1))) rfl) ?_
      refine .cons (.asg rfl rfl) <| .nil <| ks_n <| .seq <| .region <| .cons (.mv rfl rfl) <| .cons (.ls rfl rfl rfl) <| .nil <| ks_n ?_
      refine .cD rfl (fun h25 => ?_) (fun h25 => ?_)
      · skip
        refine .seq <| .region <| .cons (.asg rfl rfl) <| .nil <| ks_n <| .ret <| kb_r <| ks_r <| kl_r <| kb_r <| ks_r ?_
        refine kf_ret rfl ?_ nobox
        exact leafI (subZ_no (by have h1 := subZ_neg h25 (by omega); have h2 := sum_take_le szL (l := xs) (i := i + 1); rw [szLs]; omega)).symm
      · skip
        have hP := subZ_pos h25
        refine .skip <| kb_n <| ks_n <| .region <| .cons (.mv rfl rfl) <| .cons (.pl rfl rfl rfl) <| .cons (.asg rfl rfl) <| .nil ?_
        refine kl_k [] ⟨i + 1, rfl, by omega, by rw [hT]; have := subZ_pos h25; omega, rfl⟩ ⟨ks rfl .dt, ks rfl (.dt (vI (by first | (simp; done) | (rw [hT, subZ_yes (by omega)]; omega)))), ks rfl .dt, ks rfl .dt, trivial⟩
    · skip
      have hall : xs.take i = xs := List.take_of_length_le (by omega)
      refine .exit <| ks_e <| kl_e <| kb_hit <| ks_n <| .seq <| .region <| .cons (.mv rfl rfl) <| .cons (.asg rfl rfl) <| .nil <| ks_n <| .ret ?_
      refine kf_ret rfl ?_ nobox
      exact leafI (by rw [subZ_yes (by rw [szLs, ← hall]; rw [hall]; rw [hall] at hF; omega), szLs, hall])

theorem eqLoop_fn (x y : Lp) (h : szL x ≤ 1073741824) : Fn Tryz.prog 170 [] [ad (rL x), ad (rL y)] (.o (bo1 (decide (x = y)))) [] := by
 have hsz : szL x = szAs x.1 + szAs x.2 := rfl
 have h1 := szAs_len x.1
 have h2 := szAs_len x.2
 refine Fn.code0 Tryz.func170 rfl rfl rfl rfl ?_
 refine .seq <| .region <| .cons (St1.boxP rfl rfl rfl rfl rfl rfl) <| .cons (St1.boxP rfl rfl rfl rfl rfl rfl) <| .cons (.asg rfl rfl) <| .nil <| ks_n <| .seq <| .seq <| .region <| .cons (.fP 0 0 false rfl rfl) <| .cons (.l1 1 rfl rfl) <| .cons (.fP 0 0 false rfl rfl) <| .cons (.l1 1 rfl rfl) <| .cons (.cP [.tmp 6, .tmp 8] rfl rfl rfl rfl (eqAffs_fn _ _ (by omega) (fun a ha => by have := szAs_mem ha; omega)) rfl) ?_
 refine .cons (.nt rfl rfl) <| .nil <| ks_n ?_
 refine ACode.condT rfl (fun h10 => ?_) (fun h10 => ?_)
 ·try simp only [zs1, zs2, zs3, zs4, zs5, zs6, zs7] at h10
  refine .seq <| .region <| .cons (.asg rfl rfl) <| .nil <| ks_n <| .ret <| ks_r ?_
  refine kf_ret rfl ?_ nobox
  exact leafB (by rw [Bool.eq_iff_iff]; simp [Prod.ext_iff, *])
 ·try simp only [zs1, zs2, zs3, zs4, zs5, zs6, zs7] at h10
  refine .skip <| ks_n <| .seq <| .seq <| .region <| .cons (.fP 1 0 false rfl rfl) <| .cons (.l1 1 rfl rfl) <| .cons (.fP 1 0 false rfl rfl) <| .cons (.l1 1 rfl rfl) <| .cons (.cP [.tmp 12, .tmp 14] rfl rfl rfl rfl (eqAffs_fn _ _ (by omega) (fun a ha => by have := szAs_mem ha; omega)) rfl) ?_
  refine .cons (.nt rfl rfl) <| .nil <| ks_n ?_
  refine ACode.condT rfl (fun h16 => ?_) (fun h16 => ?_)
  ·try simp only [zs1, zs2, zs3, zs4, zs5, zs6, zs7] at h16
   refine .seq <| .region <| .cons (.asg rfl rfl) <| .nil <| ks_n <| .ret <| ks_r ?_
   refine kf_ret rfl ?_ nobox
   exact leafB (by rw [Bool.eq_iff_iff]; simp [Prod.ext_iff, *])
  ·try simp only [zs1, zs2, zs3, zs4, zs5, zs6, zs7] at h16
   refine .skip <| ks_n <| .seq <| .region <| .cons (.asg rfl rfl) <| .nil <| ks_n <| .ret ?_
   refine kf_ret rfl ?_ nobox
   exact leafB (by rw [Bool.eq_iff_iff]; simp [Prod.ext_iff, *])

theorem eqLoops_f (xs ys : List Lp) (hx : xs.length ≤ 1099511627776) (hq : ∀ x ∈ xs, szL x ≤ 1073741824) : Fn Tryz.prog 127 [] [vD (dLs xs), vD (dLs ys)] (.o (bo1 (eqF (fun x y : Lp => decide (x = y)) xs ys))) [] := by
 refine Fn.code0 Tryz.func127 rfl rfl rfl rfl ?_
 refine .seq <| .region <| .cons (.asg rfl rfl) <| .nil <| ks_n <| .seq <| .seq <| .region <| .cons (.mv rfl rfl) <| .cons (.ln 172 2 48 rfl rfl rfl) <| .cons (.mv rfl rfl) <| .cons (.ln 172 2 48 rfl rfl rfl) <| .cons (.ne rfl rfl rfl) <| .nil <| ks_n ?_
 refine .cND rfl (fun h10 => ?_) (fun h10 => ?_)
 ·skip
  refine .seq <| .region <| .cons (.asg rfl rfl) <| .nil <| ks_n <| .ret <| ks_r ?_
  refine kf_ret rfl ?_ nobox
  exact leafB (eqF_len (by omega)).symm
 ·skip
  refine .skip <| ks_n <| .seq <| .seq <| .region <| .cons (.asg rfl rfl) <| .nil <| ks_n <| .block ?_
  refine .loopK (fun m σ => (∃ i : Nat, m = xs.length - i ∧ (i ≤ xs.length) ∧ (eqF (fun x y : Lp => decide (x = y)) xs ys = eqF (fun x y : Lp => decide (x = y)) (xs.drop i) (ys.drop i)) ∧ σ = [(.t 0, .v (.o (vD (dLs xs)))), (.t 1, .v (.o (vD (dLs ys)))), (.t 4, .v (.o (bo1 false))), (.t 5, .v (.o (nat1 (i : Nat))))])) [] ⟨0, rfl, by omega, by simp, rfl⟩ ⟨ks rfl .dt, ks rfl .dt, ks rfl .dt, ks rfl .dt, trivial⟩ ?_
  rintro m σ ⟨i, hm0, hi, hF, rfl⟩
  refine .seq <| .seq <| .region <| .cons (.mv rfl rfl) <| .cons (.mv rfl rfl) <| .cons (.ln 172 2 48 rfl rfl rfl) <| .cons (.ls rfl rfl rfl) <| .nil <| ks_n ?_
  refine .cD rfl (fun h14 => ?_) (fun h14 => ?_)
  ·skip
   obtain ⟨x, hx1⟩ : ∃ x, xs[i]? = some x := ⟨_, List.getElem?_eq_getElem (by omega)⟩
   obtain ⟨y, hy1⟩ : ∃ x, ys[i]? = some x := ⟨_, List.getElem?_eq_getElem (by omega)⟩
   refine .skip <| ks_n <| .seq <| .block <| .seq ?_
   refine ACode.drawK (by kernel_rfl) (by kernel_rfl) ?_
   refine .cons (.mv rfl rfl) <| .cons (.mv rfl rfl) <| .cons (.xL 172 2 48 rfl rfl rfl rfl rfl (map_at hx1)) ?_
   refine .cons (.lN 2 rfl rfl rfl) <| .cons (.mv rfl rfl) <| .cons (.mv rfl rfl) <| .cons (.xL 172 2 48 rfl rfl rfl rfl rfl (map_at hy1)) ?_
   refine .cons (.lN 2 rfl rfl rfl) <| .cons (.cP [.tmp 20, .tmp 24] rfl rfl rfl rfl (eqLoop_fn x y (hq x (List.mem_of_getElem? hx1))) rfl) ?_
   refine .cons (.nt rfl rfl) ?_
   refine .nil ⟨by kernel_rfl, ?_⟩
   refine ks_n ?_
   refine ACode.condT rfl (fun h26 => ?_) (fun h26 => ?_)
   ·try simp only [zs1, zs2, zs3, zs4, zs5, zs6, zs7] at h26
    have g : decide (x = y) = false := by first | assumption | exact decide_eq_false (by assumption) | (simp; omega)
    refine .seq <| .region <| .cons (.asg rfl rfl) <| .nil <| ks_n <| .ret <| kb_r <| ks_r <| kl_r <| kb_r <| ks_r ?_
    refine kf_ret rfl ?_ nobox
    exact leafB (by rw [hF, eqF_drop hx1 hy1, g]; rfl)
   ·try simp only [zs1, zs2, zs3, zs4, zs5, zs6, zs7] at h26
    have g : decide (x = y) = true := by first | assumption | exact decide_eq_true (by assumption) | (simp; omega)
    refine .skip <| kb_n <| ks_n <| .region <| .cons (.mv rfl rfl) <| .cons (.pl rfl rfl rfl) <| .cons (.asg rfl rfl) <| .nil ?_
    refine kl_k [] ⟨i + 1, rfl, by omega, by rw [hF, eqF_drop hx1 hy1, g, Bool.true_and], rfl⟩ ⟨ks rfl .dt, ks rfl .dt, ks rfl .dt, ks rfl .dt, trivial⟩
  ·skip
   refine .exit <| ks_e <| kl_e <| kb_hit <| ks_n <| .seq <| .region <| .cons (.asg rfl rfl) <| .nil <| ks_n <| .ret ?_
   refine kf_ret rfl ?_ nobox
   exact leafB (by rw [hF, show i = xs.length by omega, eqF_end (by omega)])

theorem eqLoops_fn (xs ys : List Lp) (h : szLs xs ≤ 1073741824) : Fn Tryz.prog 127 [] [vD (dLs xs), vD (dLs ys)] (.o (bo1 (decide (xs = ys)))) [] := by
  have hl := szLs_len xs
  rw [← eqF_dec]; exact eqLoops_f xs ys (by omega) fun x hx => by have := szLs_mem hx; omega
/-- Sizes of lists of data, of programs. -/
def szO {α : Type} (f : α → Nat) (l : List α) : Nat := l.length + (l.map f).sum
theorem mem_sum : ∀ (l : List Nat) (n : Nat), n ∈ l → n ≤ l.sum := by
  intro l
  induction l with
  | nil => intro n h; cases h
  | cons m l ih =>
    intro n h
    rw [List.sum_cons]
    rcases List.mem_cons.1 h with rfl | h
    · omega
    · have := ih n h; omega
theorem szO_mem {α : Type} {f : α → Nat} {l : List α} {a : α} (h : a ∈ l) : l.length + f a ≤ szO f l := by
  rw [szO]
  have := mem_sum _ _ (List.mem_map_of_mem (f := f) h)
  omega
theorem szO_len {α : Type} {f : α → Nat} (l : List α) : l.length ≤ szO f l := Nat.le_add_right _ _
def szR (a : Arr) : Nat := a.1.size + a.2.length
def szPt (p : Prt) : Nat := szLs p.1 + szO szS p.2
def szG (g : Prg) : Nat := szO szR g.1 + szO szPt g.2
def sameP (x y : Prt) : Bool := decide (x.1 = y.1) && eqF sameS x.2 y.2
def sameG (x y : Prg) : Bool := decide (x.1 = y.1) && eqF sameP x.2 y.2
theorem eqF_refl {α : Type} {p : α → α → Bool} (hp : ∀ x, p x x = true) : ∀ l : List α, eqF p l l = true
  | [] => rfl
  | x :: l => by rw [eqF, hp x, eqF_refl hp l]; rfl
theorem sameP_refl (x : Prt) : sameP x x = true := by rw [sameP, eqF_refl (fun s => sameS_iff.2 rfl)]; simp
theorem sameG_refl (x : Prg) : sameG x x = true := by rw [sameG, eqF_refl sameP_refl]; simp

theorem szArr_fn {x : Arr} {l : Int} (hl : 0 ≤ l ∧ l ≤ 1048576) (ho : okArr x) : Fn Tryz.prog 72 [] [ad (rR x), nat1 l] (.o (nat1 (subZ l (szR x)))) [] := by
  have hsz : szR x = x.1.size + x.2.length := rfl
  have ho1 := ho.1
  have ho2 := ho.2
  refine Fn.code0 Tryz.func72 rfl rfl rfl rfl ?_
  refine .seq <| .region <| .cons (St1.boxP rfl rfl rfl rfl rfl rfl) <| .cons (.asg rfl rfl) <| .nil <| ks_n <| .seq <| .region <| .cons (.mv rfl rfl) <| .cons (.fP 0 0 false rfl rfl) <| .cons (.l1 1 rfl rfl) <| .cons (St1.lenS rfl rfl rfl rfl rfl (by kernel_rfl) rfl) ?_
  refine .cons (.sb rfl rfl rfl) <| .cons (.asg rfl rfl) <| .nil <| ks_n <| .seq <| .seq <| .region <| .cons (.mv rfl rfl) <| .cons (.ls rfl rfl rfl) <| .nil <| ks_n ?_
  refine .cD rfl (fun h11 => ?_) (fun h11 => ?_)
  · skip
    refine .seq <| .region <| .cons (.asg rfl rfl) <| .nil <| ks_n <| .ret <| ks_r ?_
    refine kf_ret rfl ?_ nobox
    exact leafI (subZ_no (by omega)).symm
  · skip
    refine .skip <| ks_n <| .seq ?_
    have hb := subZ_bd (n := x.2.length) (l := l - (x.1.size : Nat)) (by omega)
    refine .region <| .cons (.fP 1 0 false rfl rfl) <| .cons (.l1 1 rfl rfl) <| .cons (.mv rfl rfl) <| .cons (.cP [.tmp 13, .tmp 14] rfl rfl rfl rfl (szInts_fn x.2 (l := l - (x.1.size : Nat)) (by omega) ho.2) rfl) ?_
    refine .cons (.asg rfl rfl) <| .nil <| ks_n <| .seq <| .seq <| .region <| .cons (.mv rfl rfl) <| .cons (.ls rfl rfl rfl) <| .nil <| ks_n ?_
    refine .cD rfl (fun h17 => ?_) (fun h17 => ?_)
    · skip
      refine .seq <| .region <| .cons (.asg rfl rfl) <| .nil <| ks_n <| .ret <| ks_r ?_
      refine kf_ret rfl ?_ nobox
      exact leafI (subZ_no (by have := subZ_neg h17 (by omega); omega)).symm
    · skip
      refine .skip <| ks_n <| .seq <| .region <| .cons (.mv rfl rfl) <| .cons (.asg rfl rfl) <| .nil <| ks_n <| .ret ?_
      refine kf_ret rfl ?_ nobox
      exact leafI (by have := subZ_pos h17; rw [subZ_yes this, subZ_yes (by omega)]; omega)

theorem szArrs_fn (xs : List Arr) {l : Int} (hl : 0 ≤ l ∧ l ≤ 1048576) (hx : xs.length ≤ 17592186044416) (hq : ∀ x ∈ xs, okArr x) : Fn Tryz.prog 32 [] [vD (dRs xs), nat1 l] (.o (nat1 (subZ l (szO szR xs)))) [] := by
  refine Fn.code0 Tryz.func32 rfl rfl rfl rfl ?_
  refine .seq <| .region <| .cons (.asg rfl rfl) <| .nil <| ks_n <| .seq <| .region <| .cons (.mv rfl rfl) <| .cons (.mv rfl rfl) <| .cons (.ln 109 2 40 rfl rfl rfl) <| .cons (.sb rfl rfl rfl) <| .cons (.asg rfl rfl) <| .nil <| ks_n <| .seq <| .seq <| .region <| .cons (.mv rfl rfl) <| .cons (.ls rfl rfl rfl) <| .nil <| ks_n ?_
  refine .cD rfl (fun h11 => ?_) (fun h11 => ?_)
  · skip
    refine .seq <| .region <| .cons (.asg rfl rfl) <| .nil <| ks_n <| .ret <| ks_r ?_
    refine kf_ret rfl ?_ nobox
    exact leafI (subZ_no (by rw [szO]; omega)).symm
  · skip
    refine .skip <| ks_n <| .seq <| .seq <| .region <| .cons (.asg rfl rfl) <| .nil <| ks_n <| .block ?_
    refine .loopK (fun m σ => (∃ i : Nat, m = xs.length - i ∧ (i ≤ xs.length) ∧ (((xs.length + ((xs.take i).map szR).sum : Nat) : Int) ≤ l) ∧ σ = [(.t 0, .v (.o (vD (dRs xs)))), (.t 1, .v (.o (nat1 (l - (xs.length + ((xs.take i).map szR).sum : Nat))))), (.t 4, .v (.o (nat1 0))), (.t 5, .v (.o (nat1 (i : Nat))))])) [] ⟨0, rfl, by omega, by simp; omega, rfl⟩ ⟨ks rfl .dt, ks rfl (.dt (vI (by first | (simp; done) | (rw [hT, subZ_yes (by omega)]; omega)))), ks rfl .dt, ks rfl .dt, trivial⟩ ?_
    rintro m σ ⟨i, hm0, hi, hF, rfl⟩
    refine .seq <| .seq <| .region <| .cons (.mv rfl rfl) <| .cons (.mv rfl rfl) <| .cons (.ln 109 2 40 rfl rfl rfl) <| .cons (.ls rfl rfl rfl) <| .nil <| ks_n ?_
    refine .cD rfl (fun h15 => ?_) (fun h15 => ?_)
    · skip
      obtain ⟨x, hx1⟩ : ∃ x, xs[i]? = some x := ⟨_, List.getElem?_eq_getElem (by omega)⟩
      have hT := sum_take szR hx1
      refine .skip <| ks_n <| .seq <| .block <| .seq <| .region <| .cons (.mv rfl rfl) <| .cons (.mv rfl rfl) <| .cons (.xL 109 2 40 rfl rfl rfl rfl rfl) ?_
      refine .cons (.lN 2 rfl rfl rfl) <| .cons (.mv rfl rfl) <| .cons (.cP [.tmp 21, .tmp 22] rfl rfl rfl rfl (szArr_fn (l := (l - (xs.length + ((xs.take i).map szR).sum : Nat))) (by omega) (hq x (List.mem_of_getElem? hx1))) rfl) ?_
      refine .cons (.asg rfl rfl) <| .nil <| ks_n <| .seq <| .region <| .cons (.mv rfl rfl) <| .cons (.ls rfl rfl rfl) <| .nil <| ks_n ?_
      refine .cD rfl (fun h25 => ?_) (fun h25 => ?_)
      · skip
        refine .seq <| .region <| .cons (.asg rfl rfl) <| .nil <| ks_n <| .ret <| kb_r <| ks_r <| kl_r <| kb_r <| ks_r ?_
        refine kf_ret rfl ?_ nobox
        exact leafI (subZ_no (by have h1 := subZ_neg h25 (by omega); have h2 := sum_take_le szR (l := xs) (i := i + 1); rw [szO]; omega)).symm
      · skip
        have hP := subZ_pos h25
        refine .skip <| kb_n <| ks_n <| .region <| .cons (.mv rfl rfl) <| .cons (.pl rfl rfl rfl) <| .cons (.asg rfl rfl) <| .nil ?_
        refine kl_k [] ⟨i + 1, rfl, by omega, by rw [hT]; have := subZ_pos h25; omega, rfl⟩ ⟨ks rfl .dt, ks rfl (.dt (vI (by first | (simp; done) | (rw [hT, subZ_yes (by omega)]; omega)))), ks rfl .dt, ks rfl .dt, trivial⟩
    · skip
      have hall : xs.take i = xs := List.take_of_length_le (by omega)
      refine .exit <| ks_e <| kl_e <| kb_hit <| ks_n <| .seq <| .region <| .cons (.mv rfl rfl) <| .cons (.asg rfl rfl) <| .nil <| ks_n <| .ret ?_
      refine kf_ret rfl ?_ nobox
      exact leafI (by rw [subZ_yes (by rw [szO, ← hall]; rw [hall]; rw [hall] at hF; omega), szO, hall])

theorem szStms_fn (xs : List Stm) {l : Int} (hl : 0 ≤ l ∧ l ≤ 1048576) (hx : xs.length ≤ 17592186044416) (hq : ∀ x ∈ xs, okS x) : Fn Tryz.prog 115 [] [vD (dMs xs), nat1 l] (.o (nat1 (subZ l (szO szS xs)))) [] := by
  refine Fn.code0 Tryz.func115 rfl rfl rfl rfl ?_
  refine .seq <| .region <| .cons (.asg rfl rfl) <| .nil <| ks_n <| .seq <| .region <| .cons (.mv rfl rfl) <| .cons (.mv rfl rfl) <| .cons (.ln 206 9 152 rfl rfl rfl) <| .cons (.sb rfl rfl rfl) <| .cons (.asg rfl rfl) <| .nil <| ks_n <| .seq <| .seq <| .region <| .cons (.mv rfl rfl) <| .cons (.ls rfl rfl rfl) <| .nil <| ks_n ?_
  refine .cD rfl (fun h11 => ?_) (fun h11 => ?_)
  · skip
    refine .seq <| .region <| .cons (.asg rfl rfl) <| .nil <| ks_n <| .ret <| ks_r ?_
    refine kf_ret rfl ?_ nobox
    exact leafI (subZ_no (by rw [szO]; omega)).symm
  · skip
    refine .skip <| ks_n <| .seq <| .seq <| .region <| .cons (.asg rfl rfl) <| .nil <| ks_n <| .block ?_
    refine .loopK (fun m σ => (∃ i : Nat, m = xs.length - i ∧ (i ≤ xs.length) ∧ (((xs.length + ((xs.take i).map szS).sum : Nat) : Int) ≤ l) ∧ σ = [(.t 0, .v (.o (vD (dMs xs)))), (.t 1, .v (.o (nat1 (l - (xs.length + ((xs.take i).map szS).sum : Nat))))), (.t 4, .v (.o (nat1 0))), (.t 5, .v (.o (nat1 (i : Nat))))])) [] ⟨0, rfl, by omega, by simp; omega, rfl⟩ ⟨ks rfl .dt, ks rfl (.dt (vI (by first | (simp; done) | (rw [hT, subZ_yes (by omega)]; omega)))), ks rfl .dt, ks rfl .dt, trivial⟩ ?_
    rintro m σ ⟨i, hm0, hi, hF, rfl⟩
    refine .seq <| .seq <| .region <| .cons (.mv rfl rfl) <| .cons (.mv rfl rfl) <| .cons (.ln 206 9 152 rfl rfl rfl) <| .cons (.ls rfl rfl rfl) <| .nil <| ks_n ?_
    refine .cD rfl (fun h15 => ?_) (fun h15 => ?_)
    · skip
      obtain ⟨x, hx1⟩ : ∃ x, xs[i]? = some x := ⟨_, List.getElem?_eq_getElem (by omega)⟩
      have hT := sum_take szS hx1
      refine .skip <| ks_n <| .seq <| .block <| .seq <| .region <| .cons (.mv rfl rfl) <| .cons (.mv rfl rfl) <| .cons (.xL 206 9 152 rfl rfl rfl rfl rfl) ?_
      refine .cons (.lN 9 rfl rfl rfl) <| .cons (.mv rfl rfl) <| .cons (.cP [.tmp 21, .tmp 22] rfl rfl rfl rfl (szStm_fn (l := (l - (xs.length + ((xs.take i).map szS).sum : Nat))) (hq x (List.mem_of_getElem? hx1)) (by omega)) rfl) ?_
      refine .cons (.asg rfl rfl) <| .nil <| ks_n <| .seq <| .region <| .cons (.mv rfl rfl) <| .cons (.ls rfl rfl rfl) <| .nil <| ks_n ?_
      refine .cD rfl (fun h25 => ?_) (fun h25 => ?_)
      · skip
        refine .seq <| .region <| .cons (.asg rfl rfl) <| .nil <| ks_n <| .ret <| kb_r <| ks_r <| kl_r <| kb_r <| ks_r ?_
        refine kf_ret rfl ?_ nobox
        exact leafI (subZ_no (by have h1 := subZ_neg h25 (by omega); have h2 := sum_take_le szS (l := xs) (i := i + 1); rw [szO]; omega)).symm
      · skip
        have hP := subZ_pos h25
        refine .skip <| kb_n <| ks_n <| .region <| .cons (.mv rfl rfl) <| .cons (.pl rfl rfl rfl) <| .cons (.asg rfl rfl) <| .nil ?_
        refine kl_k [] ⟨i + 1, rfl, by omega, by rw [hT]; have := subZ_pos h25; omega, rfl⟩ ⟨ks rfl .dt, ks rfl (.dt (vI (by first | (simp; done) | (rw [hT, subZ_yes (by omega)]; omega)))), ks rfl .dt, ks rfl .dt, trivial⟩
    · skip
      have hall : xs.take i = xs := List.take_of_length_le (by omega)
      refine .exit <| ks_e <| kl_e <| kb_hit <| ks_n <| .seq <| .region <| .cons (.mv rfl rfl) <| .cons (.asg rfl rfl) <| .nil <| ks_n <| .ret ?_
      refine kf_ret rfl ?_ nobox
      exact leafI (by rw [subZ_yes (by rw [szO, ← hall]; rw [hall]; rw [hall] at hF; omega), szO, hall])

theorem szPt_fn {x : Prt} {l : Int} (hl : 0 ≤ l ∧ l ≤ 1048576) (ho : okPrt x) : Fn Tryz.prog 73 [] [ad (rP x), nat1 l] (.o (nat1 (subZ l (szPt x)))) [] := by
  have hsz : szPt x = szLs x.1 + szO szS x.2 := rfl
  have hb1 := subZ_bd (n := szLs x.1) hl
  obtain ⟨⟨o1, o2⟩, o3, o4⟩ := ho
  refine Fn.code0 Tryz.func73 rfl rfl rfl rfl ?_
  refine .seq <| .region <| .cons (St1.boxP rfl rfl rfl rfl rfl rfl) <| .cons (.asg rfl rfl) <| .nil <| ks_n <| .seq <| .region <| .cons (.fP 0 0 false rfl rfl) <| .cons (.l1 1 rfl rfl) <| .cons (.mv rfl rfl) <| .cons (.cP [.tmp 6, .tmp 7] rfl rfl rfl rfl (szLoops_fn x.1 hl o1 o2) rfl) ?_
  refine .cons (.asg rfl rfl) <| .nil <| ks_n <| .seq <| .seq <| .region <| .cons (.mv rfl rfl) <| .cons (.ls rfl rfl rfl) <| .nil <| ks_n ?_
  refine .cD rfl (fun h10 => ?_) (fun h10 => ?_)
  · skip
    refine .seq <| .region <| .cons (.asg rfl rfl) <| .nil <| ks_n <| .ret <| ks_r ?_
    refine kf_ret rfl ?_ nobox
    exact leafI (subZ_no (by have := subZ_neg h10 hl.1; omega)).symm
  · skip
    refine .skip <| ks_n <| .seq ?_
    have hp1 := subZ_pos h10
    have hb2 := subZ_bd (n := szO szS x.2) (l := subZ l (szLs x.1)) (by omega)
    have e1 := subZ_yes hp1
    refine .region <| .cons (.fP 1 0 false rfl rfl) <| .cons (.l1 1 rfl rfl) <| .cons (.mv rfl rfl) <| .cons (.cP [.tmp 12, .tmp 13] rfl rfl rfl rfl (szStms_fn x.2 (l := subZ l (szLs x.1)) (by omega) o3 o4) rfl) ?_
    refine .cons (.asg rfl rfl) <| .nil <| ks_n <| .seq <| .seq <| .region <| .cons (.mv rfl rfl) <| .cons (.ls rfl rfl rfl) <| .nil <| ks_n ?_
    refine .cD rfl (fun h16 => ?_) (fun h16 => ?_)
    · skip
      refine .seq <| .region <| .cons (.asg rfl rfl) <| .nil <| ks_n <| .ret <| ks_r ?_
      refine kf_ret rfl ?_ nobox
      exact leafI (subZ_no (by have h6 := subZ_neg h16 (by omega); omega)).symm
    · skip
      refine .skip <| ks_n <| .seq <| .region <| .cons (.mv rfl rfl) <| .cons (.asg rfl rfl) <| .nil <| ks_n <| .ret ?_
      refine kf_ret rfl ?_ nobox
      exact leafI (by have h6 := subZ_pos h16; rw [subZ_yes h6, e1, subZ_yes (l := l) (n := szPt x) (by omega)]; omega)

theorem szPts_fn (xs : List Prt) {l : Int} (hl : 0 ≤ l ∧ l ≤ 1048576) (hx : xs.length ≤ 17592186044416) (hq : ∀ x ∈ xs, okPrt x) : Fn Tryz.prog 33 [] [vD (dPts xs), nat1 l] (.o (nat1 (subZ l (szO szPt xs)))) [] := by
  refine Fn.code0 Tryz.func33 rfl rfl rfl rfl ?_
  refine .seq <| .region <| .cons (.asg rfl rfl) <| .nil <| ks_n <| .seq <| .region <| .cons (.mv rfl rfl) <| .cons (.mv rfl rfl) <| .cons (.ln 114 2 48 rfl rfl rfl) <| .cons (.sb rfl rfl rfl) <| .cons (.asg rfl rfl) <| .nil <| ks_n <| .seq <| .seq <| .region <| .cons (.mv rfl rfl) <| .cons (.ls rfl rfl rfl) <| .nil <| ks_n ?_
  refine .cD rfl (fun h11 => ?_) (fun h11 => ?_)
  · skip
    refine .seq <| .region <| .cons (.asg rfl rfl) <| .nil <| ks_n <| .ret <| ks_r ?_
    refine kf_ret rfl ?_ nobox
    exact leafI (subZ_no (by rw [szO]; omega)).symm
  · skip
    refine .skip <| ks_n <| .seq <| .seq <| .region <| .cons (.asg rfl rfl) <| .nil <| ks_n <| .block ?_
    refine .loopK (fun m σ => (∃ i : Nat, m = xs.length - i ∧ (i ≤ xs.length) ∧ (((xs.length + ((xs.take i).map szPt).sum : Nat) : Int) ≤ l) ∧ σ = [(.t 0, .v (.o (vD (dPts xs)))), (.t 1, .v (.o (nat1 (l - (xs.length + ((xs.take i).map szPt).sum : Nat))))), (.t 4, .v (.o (nat1 0))), (.t 5, .v (.o (nat1 (i : Nat))))])) [] ⟨0, rfl, by omega, by simp; omega, rfl⟩ ⟨ks rfl .dt, ks rfl (.dt (vI (by first | (simp; done) | (rw [hT, subZ_yes (by omega)]; omega)))), ks rfl .dt, ks rfl .dt, trivial⟩ ?_
    rintro m σ ⟨i, hm0, hi, hF, rfl⟩
    refine .seq <| .seq <| .region <| .cons (.mv rfl rfl) <| .cons (.mv rfl rfl) <| .cons (.ln 114 2 48 rfl rfl rfl) <| .cons (.ls rfl rfl rfl) <| .nil <| ks_n ?_
    refine .cD rfl (fun h15 => ?_) (fun h15 => ?_)
    · skip
      obtain ⟨x, hx1⟩ : ∃ x, xs[i]? = some x := ⟨_, List.getElem?_eq_getElem (by omega)⟩
      have hT := sum_take szPt hx1
      refine .skip <| ks_n <| .seq <| .block <| .seq <| .region <| .cons (.mv rfl rfl) <| .cons (.mv rfl rfl) <| .cons (.xL 114 2 48 rfl rfl rfl rfl rfl) ?_
      refine .cons (.lN 2 rfl rfl rfl) <| .cons (.mv rfl rfl) <| .cons (.cP [.tmp 21, .tmp 22] rfl rfl rfl rfl (szPt_fn (l := (l - (xs.length + ((xs.take i).map szPt).sum : Nat))) (by omega) (hq x (List.mem_of_getElem? hx1))) rfl) ?_
      refine .cons (.asg rfl rfl) <| .nil <| ks_n <| .seq <| .region <| .cons (.mv rfl rfl) <| .cons (.ls rfl rfl rfl) <| .nil <| ks_n ?_
      refine .cD rfl (fun h25 => ?_) (fun h25 => ?_)
      · skip
        refine .seq <| .region <| .cons (.asg rfl rfl) <| .nil <| ks_n <| .ret <| kb_r <| ks_r <| kl_r <| kb_r <| ks_r ?_
        refine kf_ret rfl ?_ nobox
        exact leafI (subZ_no (by have h1 := subZ_neg h25 (by omega); have h2 := sum_take_le szPt (l := xs) (i := i + 1); rw [szO]; omega)).symm
      · skip
        have hP := subZ_pos h25
        refine .skip <| kb_n <| ks_n <| .region <| .cons (.mv rfl rfl) <| .cons (.pl rfl rfl rfl) <| .cons (.asg rfl rfl) <| .nil ?_
        refine kl_k [] ⟨i + 1, rfl, by omega, by rw [hT]; have := subZ_pos h25; omega, rfl⟩ ⟨ks rfl .dt, ks rfl (.dt (vI (by first | (simp; done) | (rw [hT, subZ_yes (by omega)]; omega)))), ks rfl .dt, ks rfl .dt, trivial⟩
    · skip
      have hall : xs.take i = xs := List.take_of_length_le (by omega)
      refine .exit <| ks_e <| kl_e <| kb_hit <| ks_n <| .seq <| .region <| .cons (.mv rfl rfl) <| .cons (.asg rfl rfl) <| .nil <| ks_n <| .ret ?_
      refine kf_ret rfl ?_ nobox
      exact leafI (by rw [subZ_yes (by rw [szO, ← hall]; rw [hall]; rw [hall] at hF; omega), szO, hall])

theorem szPrg_fn {x : Prg} {l : Int} (hl : 0 ≤ l ∧ l ≤ 1048576) (ho : okPrg x) : Fn Tryz.prog 10 [] [ad (rG x), nat1 l] (.o (nat1 (subZ l (szG x)))) [] := by
  have hsz : szG x = szO szR x.1 + szO szPt x.2 := rfl
  have hb1 := subZ_bd (n := szO szR x.1) hl
  obtain ⟨⟨o1, o2⟩, o3, o4⟩ := ho
  refine Fn.code0 Tryz.func10 rfl rfl rfl rfl ?_
  refine .seq <| .region <| .cons (St1.boxP rfl rfl rfl rfl rfl rfl) <| .cons (.asg rfl rfl) <| .nil <| ks_n <| .seq <| .region <| .cons (.fP 0 0 false rfl rfl) <| .cons (.l1 1 rfl rfl) <| .cons (.mv rfl rfl) <| .cons (.cP [.tmp 6, .tmp 7] rfl rfl rfl rfl (szArrs_fn x.1 hl o1 o2) rfl) ?_
  refine .cons (.asg rfl rfl) <| .nil <| ks_n <| .seq <| .seq <| .region <| .cons (.mv rfl rfl) <| .cons (.ls rfl rfl rfl) <| .nil <| ks_n ?_
  refine .cD rfl (fun h10 => ?_) (fun h10 => ?_)
  · skip
    refine .seq <| .region <| .cons (.asg rfl rfl) <| .nil <| ks_n <| .ret <| ks_r ?_
    refine kf_ret rfl ?_ nobox
    exact leafI (subZ_no (by have := subZ_neg h10 hl.1; omega)).symm
  · skip
    refine .skip <| ks_n <| .seq ?_
    have hp1 := subZ_pos h10
    have hb2 := subZ_bd (n := szO szPt x.2) (l := subZ l (szO szR x.1)) (by omega)
    have e1 := subZ_yes hp1
    refine .region <| .cons (.fP 1 0 false rfl rfl) <| .cons (.l1 1 rfl rfl) <| .cons (.mv rfl rfl) <| .cons (.cP [.tmp 12, .tmp 13] rfl rfl rfl rfl (szPts_fn x.2 (l := subZ l (szO szR x.1)) (by omega) o3 o4) rfl) ?_
    refine .cons (.asg rfl rfl) <| .nil <| ks_n <| .seq <| .seq <| .region <| .cons (.mv rfl rfl) <| .cons (.ls rfl rfl rfl) <| .nil <| ks_n ?_
    refine .cD rfl (fun h16 => ?_) (fun h16 => ?_)
    · skip
      refine .seq <| .region <| .cons (.asg rfl rfl) <| .nil <| ks_n <| .ret <| ks_r ?_
      refine kf_ret rfl ?_ nobox
      exact leafI (subZ_no (by have h6 := subZ_neg h16 (by omega); omega)).symm
    · skip
      refine .skip <| ks_n <| .seq <| .region <| .cons (.mv rfl rfl) <| .cons (.asg rfl rfl) <| .nil <| ks_n <| .ret ?_
      refine kf_ret rfl ?_ nobox
      exact leafI (by have h6 := subZ_pos h16; rw [subZ_yes h6, e1, subZ_yes (l := l) (n := szG x) (by omega)]; omega)

theorem eqArr_fn (x y : Arr) (h : szR x ≤ 1073741824) : Fn Tryz.prog 80 [] [ad (rR x), ad (rR y)] (.o (bo1 (decide (x = y)))) [] := by
 rw [szR] at h
 refine Fn.code0 Tryz.func80 rfl rfl rfl rfl ?_
 refine .seq <| .region <| .cons (St1.boxP rfl rfl rfl rfl rfl rfl) <| .cons (St1.boxP rfl rfl rfl rfl rfl rfl) <| .cons (.asg rfl rfl) <| .nil <| ks_n <| .seq <| .seq <| .region <| .cons (.fP 0 0 false rfl rfl) <| .cons (.l1 1 rfl rfl) <| .cons (.fP 0 0 false rfl rfl) <| .cons (.l1 1 rfl rfl) <| .cons (St1.neS rfl rfl rfl) <| .nil <| ks_n ?_
 refine ACode.condT rfl (fun h9 => ?_) (fun h9 => ?_)
 ·try simp only [zs1, zs2, zs3, zs4, zs5, zs6, zs7] at h9
  refine .seq <| .region <| .cons (.asg rfl rfl) <| .nil <| ks_n <| .ret <| ks_r ?_
  refine kf_ret rfl ?_ nobox
  exact leafB (by rw [Bool.eq_iff_iff]; simp only [decide_eq_true_eq, Prod.ext_iff, ← sEq_iff]; first | (simp [*]; done) | (simp_all; done))
 ·try simp only [zs1, zs2, zs3, zs4, zs5, zs6, zs7] at h9
  refine .skip <| ks_n <| .seq <| .seq <| .region <| .cons (.fP 1 0 false rfl rfl) <| .cons (.l1 1 rfl rfl) <| .cons (.fP 1 0 false rfl rfl) <| .cons (.l1 1 rfl rfl) <| .cons (.cP [.tmp 11, .tmp 13] rfl rfl rfl rfl (eqInts_fn _ _ (by omega)) rfl) ?_
  refine .cons (.nt rfl rfl) <| .nil <| ks_n ?_
  refine ACode.condT rfl (fun h15 => ?_) (fun h15 => ?_)
  ·try simp only [zs1, zs2, zs3, zs4, zs5, zs6, zs7] at h15
   refine .seq <| .region <| .cons (.asg rfl rfl) <| .nil <| ks_n <| .ret <| ks_r ?_
   refine kf_ret rfl ?_ nobox
   exact leafB (by rw [Bool.eq_iff_iff]; simp only [decide_eq_true_eq, Prod.ext_iff, ← sEq_iff]; first | (simp [*]; done) | (simp_all; done))
  ·try simp only [zs1, zs2, zs3, zs4, zs5, zs6, zs7] at h15
   refine .skip <| ks_n <| .seq <| .region <| .cons (.asg rfl rfl) <| .nil <| ks_n <| .ret ?_
   refine kf_ret rfl ?_ nobox
   exact leafB (by rw [Bool.eq_iff_iff]; simp only [decide_eq_true_eq, Prod.ext_iff, ← sEq_iff]; first | (simp [*]; done) | (simp_all; done))

theorem eqArrs_f (xs ys : List Arr) (hx : xs.length ≤ 1099511627776) (hq : ∀ x ∈ xs, szR x ≤ 1073741824) : Fn Tryz.prog 41 [] [vD (dRs xs), vD (dRs ys)] (.o (bo1 (eqF (fun x y : Arr => decide (x = y)) xs ys))) [] := by
 refine Fn.code0 Tryz.func41 rfl rfl rfl rfl ?_
 refine .seq <| .region <| .cons (.asg rfl rfl) <| .nil <| ks_n <| .seq <| .seq <| .region <| .cons (.mv rfl rfl) <| .cons (.ln 78 2 40 rfl rfl rfl) <| .cons (.mv rfl rfl) <| .cons (.ln 78 2 40 rfl rfl rfl) <| .cons (.ne rfl rfl rfl) <| .nil <| ks_n ?_
 refine .cND rfl (fun h10 => ?_) (fun h10 => ?_)
 ·skip
  refine .seq <| .region <| .cons (.asg rfl rfl) <| .nil <| ks_n <| .ret <| ks_r ?_
  refine kf_ret rfl ?_ nobox
  exact leafB (eqF_len (by omega)).symm
 ·skip
  refine .skip <| ks_n <| .seq <| .seq <| .region <| .cons (.asg rfl rfl) <| .nil <| ks_n <| .block ?_
  refine .loopK (fun m σ => (∃ i : Nat, m = xs.length - i ∧ (i ≤ xs.length) ∧ (eqF (fun x y : Arr => decide (x = y)) xs ys = eqF (fun x y : Arr => decide (x = y)) (xs.drop i) (ys.drop i)) ∧ σ = [(.t 0, .v (.o (vD (dRs xs)))), (.t 1, .v (.o (vD (dRs ys)))), (.t 4, .v (.o (bo1 false))), (.t 5, .v (.o (nat1 (i : Nat))))])) [] ⟨0, rfl, by omega, by simp, rfl⟩ ⟨ks rfl .dt, ks rfl .dt, ks rfl .dt, ks rfl .dt, trivial⟩ ?_
  rintro m σ ⟨i, hm0, hi, hF, rfl⟩
  refine .seq <| .seq <| .region <| .cons (.mv rfl rfl) <| .cons (.mv rfl rfl) <| .cons (.ln 78 2 40 rfl rfl rfl) <| .cons (.ls rfl rfl rfl) <| .nil <| ks_n ?_
  refine .cD rfl (fun h14 => ?_) (fun h14 => ?_)
  ·skip
   obtain ⟨x, hx1⟩ : ∃ x, xs[i]? = some x := ⟨_, List.getElem?_eq_getElem (by omega)⟩
   obtain ⟨y, hy1⟩ : ∃ x, ys[i]? = some x := ⟨_, List.getElem?_eq_getElem (by omega)⟩
   refine .skip <| ks_n <| .seq <| .block <| .seq ?_
   refine ACode.drawK (by kernel_rfl) (by kernel_rfl) ?_
   refine .cons (.mv rfl rfl) <| .cons (.mv rfl rfl) <| .cons (.xL 78 2 40 rfl rfl rfl rfl rfl (map_at hx1)) ?_
   refine .cons (.lN 2 rfl rfl rfl) <| .cons (.mv rfl rfl) <| .cons (.mv rfl rfl) <| .cons (.xL 78 2 40 rfl rfl rfl rfl rfl (map_at hy1)) ?_
   refine .cons (.lN 2 rfl rfl rfl) <| .cons (.cP [.tmp 20, .tmp 24] rfl rfl rfl rfl (eqArr_fn x y (hq x (List.mem_of_getElem? hx1))) rfl) ?_
   refine .cons (.nt rfl rfl) ?_
   refine .nil ⟨by kernel_rfl, ?_⟩
   refine ks_n ?_
   refine ACode.condT rfl (fun h26 => ?_) (fun h26 => ?_)
   ·try simp only [zs1, zs2, zs3, zs4, zs5, zs6, zs7] at h26
    have g : decide (x = y) = false := by first | assumption | exact decide_eq_false (by assumption) | (simp; omega)
    refine .seq <| .region <| .cons (.asg rfl rfl) <| .nil <| ks_n <| .ret <| kb_r <| ks_r <| kl_r <| kb_r <| ks_r ?_
    refine kf_ret rfl ?_ nobox
    exact leafB (by rw [hF, eqF_drop hx1 hy1, g]; rfl)
   ·try simp only [zs1, zs2, zs3, zs4, zs5, zs6, zs7] at h26
    have g : decide (x = y) = true := by first | assumption | exact decide_eq_true (by assumption) | (simp; omega)
    refine .skip <| kb_n <| ks_n <| .region <| .cons (.mv rfl rfl) <| .cons (.pl rfl rfl rfl) <| .cons (.asg rfl rfl) <| .nil ?_
    refine kl_k [] ⟨i + 1, rfl, by omega, by rw [hF, eqF_drop hx1 hy1, g, Bool.true_and], rfl⟩ ⟨ks rfl .dt, ks rfl .dt, ks rfl .dt, ks rfl .dt, trivial⟩
  ·skip
   refine .exit <| ks_e <| kl_e <| kb_hit <| ks_n <| .seq <| .region <| .cons (.asg rfl rfl) <| .nil <| ks_n <| .ret ?_
   refine kf_ret rfl ?_ nobox
   exact leafB (by rw [hF, show i = xs.length by omega, eqF_end (by omega)])

theorem eqArrs_fn (xs ys : List Arr) (h : szO szR xs ≤ 1073741824) : Fn Tryz.prog 41 [] [vD (dRs xs), vD (dRs ys)] (.o (bo1 (decide (xs = ys)))) [] := by
  have hl := szO_len (f := szR) xs
  rw [← eqF_dec]; exact eqArrs_f xs ys (by omega) fun x hx => by have := szO_mem (f := szR) hx; omega

theorem eqStms_fn (xs ys : List Stm) (hx : xs.length ≤ 1099511627776) (hq : ∀ x ∈ xs, szS x ≤ 1073741824) : Fn Tryz.prog 128 [] [vD (dMs xs), vD (dMs ys)] (.o (bo1 (eqF sameS xs ys))) [] := by
 refine Fn.code0 Tryz.func128 rfl rfl rfl rfl ?_
 refine .seq <| .region <| .cons (.asg rfl rfl) <| .nil <| ks_n <| .seq <| .seq <| .region <| .cons (.mv rfl rfl) <| .cons (.ln 96 9 152 rfl rfl rfl) <| .cons (.mv rfl rfl) <| .cons (.ln 96 9 152 rfl rfl rfl) <| .cons (.ne rfl rfl rfl) <| .nil <| ks_n ?_
 refine .cND rfl (fun h10 => ?_) (fun h10 => ?_)
 ·skip
  refine .seq <| .region <| .cons (.asg rfl rfl) <| .nil <| ks_n <| .ret <| ks_r ?_
  refine kf_ret rfl ?_ nobox
  exact leafB (eqF_len (by omega)).symm
 ·skip
  refine .skip <| ks_n <| .seq <| .seq <| .region <| .cons (.asg rfl rfl) <| .nil <| ks_n <| .block ?_
  refine .loopK (fun m σ => (∃ i : Nat, m = xs.length - i ∧ (i ≤ xs.length) ∧ (eqF sameS xs ys = eqF sameS (xs.drop i) (ys.drop i)) ∧ σ = [(.t 0, .v (.o (vD (dMs xs)))), (.t 1, .v (.o (vD (dMs ys)))), (.t 4, .v (.o (bo1 false))), (.t 5, .v (.o (nat1 (i : Nat))))])) [] ⟨0, rfl, by omega, by simp, rfl⟩ ⟨ks rfl .dt, ks rfl .dt, ks rfl .dt, ks rfl .dt, trivial⟩ ?_
  rintro m σ ⟨i, hm0, hi, hF, rfl⟩
  refine .seq <| .seq <| .region <| .cons (.mv rfl rfl) <| .cons (.mv rfl rfl) <| .cons (.ln 96 9 152 rfl rfl rfl) <| .cons (.ls rfl rfl rfl) <| .nil <| ks_n ?_
  refine .cD rfl (fun h14 => ?_) (fun h14 => ?_)
  ·skip
   obtain ⟨x, hx1⟩ : ∃ x, xs[i]? = some x := ⟨_, List.getElem?_eq_getElem (by omega)⟩
   obtain ⟨y, hy1⟩ : ∃ x, ys[i]? = some x := ⟨_, List.getElem?_eq_getElem (by omega)⟩
   refine .skip <| ks_n <| .seq <| .block <| .seq ?_
   refine ACode.drawK (by kernel_rfl) (by kernel_rfl) ?_
   refine .cons (.mv rfl rfl) <| .cons (.mv rfl rfl) <| .cons (.xL 96 9 152 rfl rfl rfl rfl rfl (map_at hx1)) ?_
   refine .cons (.lN 9 rfl rfl rfl) <| .cons (.mv rfl rfl) <| .cons (.mv rfl rfl) <| .cons (.xL 96 9 152 rfl rfl rfl rfl rfl (map_at hy1)) ?_
   refine .cons (.lN 9 rfl rfl rfl) <| .cons (.cP [.tmp 20, .tmp 24] rfl rfl rfl rfl (eqStm_fn x y (hq x (List.mem_of_getElem? hx1))) rfl) ?_
   refine .cons (.nt rfl rfl) ?_
   refine .nil ⟨by kernel_rfl, ?_⟩
   refine ks_n ?_
   refine ACode.condT rfl (fun h26 => ?_) (fun h26 => ?_)
   ·try simp only [zs1, zs2, zs3, zs4, zs5, zs6, zs7] at h26
    have g : sameS x y = false := by first | assumption | exact decide_eq_false (by assumption) | (simp; omega)
    refine .seq <| .region <| .cons (.asg rfl rfl) <| .nil <| ks_n <| .ret <| kb_r <| ks_r <| kl_r <| kb_r <| ks_r ?_
    refine kf_ret rfl ?_ nobox
    exact leafB (by rw [hF, eqF_drop hx1 hy1, g]; rfl)
   ·try simp only [zs1, zs2, zs3, zs4, zs5, zs6, zs7] at h26
    have g : sameS x y = true := by first | assumption | exact decide_eq_true (by assumption) | (simp; omega)
    refine .skip <| kb_n <| ks_n <| .region <| .cons (.mv rfl rfl) <| .cons (.pl rfl rfl rfl) <| .cons (.asg rfl rfl) <| .nil ?_
    refine kl_k [] ⟨i + 1, rfl, by omega, by rw [hF, eqF_drop hx1 hy1, g, Bool.true_and], rfl⟩ ⟨ks rfl .dt, ks rfl .dt, ks rfl .dt, ks rfl .dt, trivial⟩
  ·skip
   refine .exit <| ks_e <| kl_e <| kb_hit <| ks_n <| .seq <| .region <| .cons (.asg rfl rfl) <| .nil <| ks_n <| .ret ?_
   refine kf_ret rfl ?_ nobox
   exact leafB (by rw [hF, show i = xs.length by omega, eqF_end (by omega)])

theorem eqPt_fn (x y : Prt) (h : szPt x ≤ 1073741824) : Fn Tryz.prog 81 [] [ad (rP x), ad (rP y)] (.o (bo1 (sameP x y))) [] := by
 have hsz : szPt x = szLs x.1 + szO szS x.2 := rfl
 have h1 := szLs_len x.1
 have h2 := szO_len (f := szS) x.2
 refine Fn.code0 Tryz.func81 rfl rfl rfl rfl ?_
 refine .seq <| .region <| .cons (St1.boxP rfl rfl rfl rfl rfl rfl) <| .cons (St1.boxP rfl rfl rfl rfl rfl rfl) <| .cons (.asg rfl rfl) <| .nil <| ks_n <| .seq <| .seq <| .region <| .cons (.fP 0 0 false rfl rfl) <| .cons (.l1 1 rfl rfl) <| .cons (.fP 0 0 false rfl rfl) <| .cons (.l1 1 rfl rfl) <| .cons (.cP [.tmp 6, .tmp 8] rfl rfl rfl rfl (eqLoops_fn _ _ (by omega)) rfl) ?_
 refine .cons (.nt rfl rfl) <| .nil <| ks_n ?_
 refine ACode.condT rfl (fun h10 => ?_) (fun h10 => ?_)
 ·try simp only [zs1, zs2, zs3, zs4, zs5, zs6, zs7] at h10
  refine .seq <| .region <| .cons (.asg rfl rfl) <| .nil <| ks_n <| .ret <| ks_r ?_
  refine kf_ret rfl ?_ nobox
  exact leafB (by rw [sameP]; first | (simp [*]; done) | grind)
 ·try simp only [zs1, zs2, zs3, zs4, zs5, zs6, zs7] at h10
  refine .skip <| ks_n <| .seq <| .seq <| .region <| .cons (.fP 1 0 false rfl rfl) <| .cons (.l1 1 rfl rfl) <| .cons (.fP 1 0 false rfl rfl) <| .cons (.l1 1 rfl rfl) <| .cons (.cP [.tmp 12, .tmp 14] rfl rfl rfl rfl (eqStms_fn _ _ (by omega) (fun s hs => by have := szO_mem (f := szS) hs; omega)) rfl) ?_
  refine .cons (.nt rfl rfl) <| .nil <| ks_n ?_
  refine ACode.condT rfl (fun h16 => ?_) (fun h16 => ?_)
  ·try simp only [zs1, zs2, zs3, zs4, zs5, zs6, zs7] at h16
   refine .seq <| .region <| .cons (.asg rfl rfl) <| .nil <| ks_n <| .ret <| ks_r ?_
   refine kf_ret rfl ?_ nobox
   exact leafB (by rw [sameP]; first | (simp [*]; done) | grind)
  ·try simp only [zs1, zs2, zs3, zs4, zs5, zs6, zs7] at h16
   refine .skip <| ks_n <| .seq <| .region <| .cons (.asg rfl rfl) <| .nil <| ks_n <| .ret ?_
   refine kf_ret rfl ?_ nobox
   exact leafB (by rw [sameP]; first | (simp [*]; done) | grind)

theorem eqPts_fn (xs ys : List Prt) (hx : xs.length ≤ 1099511627776) (hq : ∀ x ∈ xs, szPt x ≤ 1073741824) : Fn Tryz.prog 42 [] [vD (dPts xs), vD (dPts ys)] (.o (bo1 (eqF sameP xs ys))) [] := by
 refine Fn.code0 Tryz.func42 rfl rfl rfl rfl ?_
 refine .seq <| .region <| .cons (.asg rfl rfl) <| .nil <| ks_n <| .seq <| .seq <| .region <| .cons (.mv rfl rfl) <| .cons (.ln 104 2 48 rfl rfl rfl) <| .cons (.mv rfl rfl) <| .cons (.ln 104 2 48 rfl rfl rfl) <| .cons (.ne rfl rfl rfl) <| .nil <| ks_n ?_
 refine .cND rfl (fun h10 => ?_) (fun h10 => ?_)
 ·skip
  refine .seq <| .region <| .cons (.asg rfl rfl) <| .nil <| ks_n <| .ret <| ks_r ?_
  refine kf_ret rfl ?_ nobox
  exact leafB (eqF_len (by omega)).symm
 ·skip
  refine .skip <| ks_n <| .seq <| .seq <| .region <| .cons (.asg rfl rfl) <| .nil <| ks_n <| .block ?_
  refine .loopK (fun m σ => (∃ i : Nat, m = xs.length - i ∧ (i ≤ xs.length) ∧ (eqF sameP xs ys = eqF sameP (xs.drop i) (ys.drop i)) ∧ σ = [(.t 0, .v (.o (vD (dPts xs)))), (.t 1, .v (.o (vD (dPts ys)))), (.t 4, .v (.o (bo1 false))), (.t 5, .v (.o (nat1 (i : Nat))))])) [] ⟨0, rfl, by omega, by simp, rfl⟩ ⟨ks rfl .dt, ks rfl .dt, ks rfl .dt, ks rfl .dt, trivial⟩ ?_
  rintro m σ ⟨i, hm0, hi, hF, rfl⟩
  refine .seq <| .seq <| .region <| .cons (.mv rfl rfl) <| .cons (.mv rfl rfl) <| .cons (.ln 104 2 48 rfl rfl rfl) <| .cons (.ls rfl rfl rfl) <| .nil <| ks_n ?_
  refine .cD rfl (fun h14 => ?_) (fun h14 => ?_)
  ·skip
   obtain ⟨x, hx1⟩ : ∃ x, xs[i]? = some x := ⟨_, List.getElem?_eq_getElem (by omega)⟩
   obtain ⟨y, hy1⟩ : ∃ x, ys[i]? = some x := ⟨_, List.getElem?_eq_getElem (by omega)⟩
   refine .skip <| ks_n <| .seq <| .block <| .seq ?_
   refine ACode.drawK (by kernel_rfl) (by kernel_rfl) ?_
   refine .cons (.mv rfl rfl) <| .cons (.mv rfl rfl) <| .cons (.xL 104 2 48 rfl rfl rfl rfl rfl (map_at hx1)) ?_
   refine .cons (.lN 2 rfl rfl rfl) <| .cons (.mv rfl rfl) <| .cons (.mv rfl rfl) <| .cons (.xL 104 2 48 rfl rfl rfl rfl rfl (map_at hy1)) ?_
   refine .cons (.lN 2 rfl rfl rfl) <| .cons (.cP [.tmp 20, .tmp 24] rfl rfl rfl rfl (eqPt_fn x y (hq x (List.mem_of_getElem? hx1))) rfl) ?_
   refine .cons (.nt rfl rfl) ?_
   refine .nil ⟨by kernel_rfl, ?_⟩
   refine ks_n ?_
   refine ACode.condT rfl (fun h26 => ?_) (fun h26 => ?_)
   ·try simp only [zs1, zs2, zs3, zs4, zs5, zs6, zs7] at h26
    have g : sameP x y = false := by first | assumption | exact decide_eq_false (by assumption) | (simp; omega)
    refine .seq <| .region <| .cons (.asg rfl rfl) <| .nil <| ks_n <| .ret <| kb_r <| ks_r <| kl_r <| kb_r <| ks_r ?_
    refine kf_ret rfl ?_ nobox
    exact leafB (by rw [hF, eqF_drop hx1 hy1, g]; rfl)
   ·try simp only [zs1, zs2, zs3, zs4, zs5, zs6, zs7] at h26
    have g : sameP x y = true := by first | assumption | exact decide_eq_true (by assumption) | (simp; omega)
    refine .skip <| kb_n <| ks_n <| .region <| .cons (.mv rfl rfl) <| .cons (.pl rfl rfl rfl) <| .cons (.asg rfl rfl) <| .nil ?_
    refine kl_k [] ⟨i + 1, rfl, by omega, by rw [hF, eqF_drop hx1 hy1, g, Bool.true_and], rfl⟩ ⟨ks rfl .dt, ks rfl .dt, ks rfl .dt, ks rfl .dt, trivial⟩
  ·skip
   refine .exit <| ks_e <| kl_e <| kb_hit <| ks_n <| .seq <| .region <| .cons (.asg rfl rfl) <| .nil <| ks_n <| .ret ?_
   refine kf_ret rfl ?_ nobox
   exact leafB (by rw [hF, show i = xs.length by omega, eqF_end (by omega)])

theorem eqPrg_fn (x y : Prg) (h : szG x ≤ 1073741824) : Fn Tryz.prog 14 [] [ad (rG x), ad (rG y)] (.o (bo1 (sameG x y))) [] := by
 have hsz : szG x = szO szR x.1 + szO szPt x.2 := rfl
 have h1 := szO_len (f := szR) x.1
 have h2 := szO_len (f := szPt) x.2
 refine Fn.code0 Tryz.func14 rfl rfl rfl rfl ?_
 refine .seq <| .region <| .cons (St1.boxP rfl rfl rfl rfl rfl rfl) <| .cons (St1.boxP rfl rfl rfl rfl rfl rfl) <| .cons (.asg rfl rfl) <| .nil <| ks_n <| .seq <| .seq <| .region <| .cons (.fP 0 0 false rfl rfl) <| .cons (.l1 1 rfl rfl) <| .cons (.fP 0 0 false rfl rfl) <| .cons (.l1 1 rfl rfl) <| .cons (.cP [.tmp 6, .tmp 8] rfl rfl rfl rfl (eqArrs_fn _ _ (by omega)) rfl) ?_
 refine .cons (.nt rfl rfl) <| .nil <| ks_n ?_
 refine ACode.condT rfl (fun h10 => ?_) (fun h10 => ?_)
 ·try simp only [zs1, zs2, zs3, zs4, zs5, zs6, zs7] at h10
  refine .seq <| .region <| .cons (.asg rfl rfl) <| .nil <| ks_n <| .ret <| ks_r ?_
  refine kf_ret rfl ?_ nobox
  exact leafB (by rw [sameG]; first | (simp [*]; done) | grind)
 ·try simp only [zs1, zs2, zs3, zs4, zs5, zs6, zs7] at h10
  refine .skip <| ks_n <| .seq <| .seq <| .region <| .cons (.fP 1 0 false rfl rfl) <| .cons (.l1 1 rfl rfl) <| .cons (.fP 1 0 false rfl rfl) <| .cons (.l1 1 rfl rfl) <| .cons (.cP [.tmp 12, .tmp 14] rfl rfl rfl rfl (eqPts_fn _ _ (by omega) (fun s hs => by have := szO_mem (f := szPt) hs; omega)) rfl) ?_
  refine .cons (.nt rfl rfl) <| .nil <| ks_n ?_
  refine ACode.condT rfl (fun h16 => ?_) (fun h16 => ?_)
  ·try simp only [zs1, zs2, zs3, zs4, zs5, zs6, zs7] at h16
   refine .seq <| .region <| .cons (.asg rfl rfl) <| .nil <| ks_n <| .ret <| ks_r ?_
   refine kf_ret rfl ?_ nobox
   exact leafB (by rw [sameG]; first | (simp [*]; done) | grind)
  ·try simp only [zs1, zs2, zs3, zs4, zs5, zs6, zs7] at h16
   refine .skip <| ks_n <| .seq <| .region <| .cons (.asg rfl rfl) <| .nil <| ks_n <| .ret ?_
   refine kf_ret rfl ?_ nobox
   exact leafB (by rw [sameG]; first | (simp [*]; done) | grind)
theorem wgtR_map {α : Type} {f : α → List D} {s : α → Nat} {c : Nat} : ∀ {l : List α}, (∀ x ∈ l, wgtL (f x) ≤ c * (1 + s x)) → wgtR (l.map f) ≤ c * (l.length + (l.map s).sum)
  | [], _ => by simp [wgtR]
  | x :: l, h => by
    have h1 := h x (by simp)
    have h2 := wgtR_map (f := f) (s := s) (c := c) (l := l) fun y hy => h y (by simp [hy])
    rw [List.map_cons, wgtR, List.map_cons, List.sum_cons, List.length_cons]
    have e : c * (l.length + 1 + (s x + (l.map s).sum)) = c * (1 + s x) + c * (l.length + (l.map s).sum) := by rw [← Nat.mul_add]; congr 1; omega
    omega
theorem wgt_ints (xs : List Int) : wgt (dIs xs) = xs.length := by
  rw [dIs, wgt, wgtR_leafs (by intro r hr; obtain ⟨z, _, rfl⟩ := List.mem_map.1 hr; exact ⟨_, rfl⟩), List.length_map]
theorem wgt_affs (l : List Aff) : wgt (dAs l) ≤ szAs l := by
  rw [dAs, wgt, szAs]
  have := wgtR_map (f := rA) (s := fun a => a.1.length) (c := 1) (l := l) fun x _ => by simp only [rA, wgtL, wgt_ints]; simp [dI, wgt]; omega
  rwa [Nat.one_mul] at this
theorem wgt_lps (l : List Lp) : wgt (dLs l) ≤ szLs l := by
  rw [dLs, wgt, szLs]
  have := wgtR_map (f := rL) (s := szL) (c := 1) (l := l) fun x _ => by
    have h1 := wgt_affs x.1
    have h2 := wgt_affs x.2
    simp only [rL, wgtL, szL]; omega
  rwa [Nat.one_mul] at this
theorem szEs_sum : ∀ l : List Ex, szEs l = (l.map szE).sum
  | [] => rfl
  | e :: l => by rw [szEs, szEs_sum l]; simp
theorem wgt_ex (e : Ex) : wgtL (rX e) ≤ 4 * (1 + szE e) := by
  induction e using Ex.rec' with
  | h e ih =>
    rw [szE_eq, szEs_sum]
    have h1 := wgt_affs e.r.2
    have h2 := wgtR_map (f := rX) (s := szE) (c := 4) (l := e.ks) fun x hx => ih x hx
    have h3 : wgt (dEs e.ks) = wgtR (e.ks.map rX) := by
      rw [dEs, wgt, show rE = rX from funext fun e => rE_eq e]
    simp only [rX, wgtL, wgt_ints, h3, szC]
    simp only [dI, dS, wgt]
    omega
theorem wgt_exs (l : List Ex) : wgt (dEs l) ≤ 4 * (l.length + szEs l) := by
  rw [dEs, wgt, szEs_sum, show rE = rX from funext fun e => rE_eq e]
  exact wgtR_map fun x _ => wgt_ex x
theorem wgt_stm (s : Stm) : wgtL (rS s) ≤ 5 * (1 + szS s) := by
  have h1 := wgt_affs s.1.2
  have h2 := wgt_affs s.2.r.2
  have h3 := wgt_exs s.2.ks
  have h4 := szE_eq s.2
  simp only [rS, wgtL, wgt_ints, szS, szC] at *
  simp only [dI, dS, wgt]
  omega
theorem wgt_stms (l : List Stm) : wgt (dMs l) ≤ 5 * szO szS l := by
  rw [dMs, wgt, szO]
  exact wgtR_map fun x _ => wgt_stm x
theorem wgt_prts (l : List Prt) : wgt (dPts l) ≤ 5 * szO szPt l := by
  rw [dPts, wgt, szO]
  refine wgtR_map fun x _ => ?_
  have h1 := wgt_lps x.1
  have h2 := wgt_stms x.2
  simp only [rP, wgtL, szPt]; omega
theorem wgt_arrs (l : List Arr) : wgt (dRs l) ≤ szO szR l := by
  rw [dRs, wgt, szO]
  have := wgtR_map (f := rR) (s := szR) (c := 1) (l := l) fun x _ => by simp only [rR, wgtL, wgt_ints, szR]; simp only [dS, wgt]; omega
  rwa [Nat.one_mul] at this
theorem wgt_prg (g : Prg) : wgt (dRs g.1) + wgt (dPts g.2) ≤ 5 * szG g := by
  have h1 := wgt_arrs g.1
  have h2 := wgt_prts g.2
  rw [szG]; omega

/-! ### Marks -/
theorem markInts_k (xs : List Int) : MarkC Tryz.prog 19 (dIs xs) := markIntS_k (rows := xs.map rI) fun r hr => by obtain ⟨z, _, rfl⟩ := List.mem_map.1 hr; exact ⟨_, rfl⟩
theorem markAffs_k (l : List Aff) : MarkC Tryz.prog 132 (dAs l) := markAffineS_k (rows := l.map rA) fun r hr => by obtain ⟨a, _, rfl⟩ := List.mem_map.1 hr; exact ⟨_, _, rfl, markInts_k _⟩
theorem markLps_k (l : List Lp) : MarkC Tryz.prog 84 (dLs l) := markLoopS_k (rows := l.map rL) fun r hr => by obtain ⟨a, _, rfl⟩ := List.mem_map.1 hr; exact ⟨_, _, rfl, markAffs_k _, markAffs_k _⟩
theorem markExs_k : ∀ (m : Nat) (l : List Ex), (∀ e ∈ l, szE e < m) → MarkC Tryz.prog 133 (dEs l)
  | 0, l, h => markExprS_k (rows := l.map rE) fun r hr => by obtain ⟨e, he, rfl⟩ := List.mem_map.1 hr; exact absurd (h e he) (by omega)
  | m + 1, l, h => markExprS_k (rows := l.map rE) fun r hr => by
    obtain ⟨e, he, rfl⟩ := List.mem_map.1 hr
    have h1 := h e he
    rw [szE_eq] at h1
    rw [rE_eq]
    exact ⟨_, _, _, _, _, _, _, rfl, markInts_k _, markAffs_k _, markExs_k m e.ks fun x hx => by have := szEs_mem hx; have := List.length_pos_of_mem hx; omega⟩
theorem markExs_all (l : List Ex) : MarkC Tryz.prog 133 (dEs l) := markExs_k (szEs l + 1) l fun e he => by have := szEs_mem he; omega
theorem markStms_k (l : List Stm) : MarkC Tryz.prog 85 (dMs l) := markStmtS_k (rows := l.map rS) fun r hr => by
  obtain ⟨s, _, rfl⟩ := List.mem_map.1 hr
  exact ⟨_, _, _, _, _, _, _, _, _, rfl, markAffs_k _, markInts_k _, markAffs_k _, markExs_all _⟩
theorem markPts_k (l : List Prt) : MarkC Tryz.prog 49 (dPts l) := markPartS_k (rows := l.map rP) fun r hr => by obtain ⟨a, _, rfl⟩ := List.mem_map.1 hr; exact ⟨_, _, rfl, markLps_k _, markStms_k _⟩
theorem markArrs_k (l : List Arr) : MarkC Tryz.prog 48 (dRs l) := markArrayS_k (rows := l.map rR) fun r hr => by obtain ⟨a, _, rfl⟩ := List.mem_map.1 hr; exact ⟨_, _, rfl, markInts_k _⟩
set_option maxHeartbeats 3200000 in
theorem markPrg_k {g : Prg} (hg : szG g ≤ 1048576) {S : Nat → Prop} {w : World} {u0 u1 : Value} (d0 : DrK S w (dRs g.1) u0) (d1 : DrK S w (dPts g.2) u1) (hS : ∀ b, S b → b < w.heap.size) :
    Calls Tryz.prog 18 #[.agg #[u0, u1], .int .i64 1] w fun e w' => (∃ k : Int, 0 ≤ k ∧ k ≤ 1152921504606846976 ∧ e = .returned (.int .i64 k)) ∧ Marked S w w' := by
  have hw := wgt_prg g
  obtain ⟨c0, hc0, q0⟩ : ∃ c, wgt (dRs g.1) = c ∧ MarkN Tryz.prog 48 (dRs g.1) c := ⟨_, rfl, markArrs_k g.1⟩
  obtain ⟨c1, hc1, q1⟩ : ∃ c, wgt (dPts g.2) = c ∧ MarkN Tryz.prog 49 (dPts g.2) c := ⟨_, rfl, markPts_k g.2⟩
  rw [hc0, hc1] at hw
  have hk : c0 + c1 ≤ 5242880 := by omega
  have M0 := marked_of ((Below.refl w.heap.size w).alloc (Nat.le_refl _) (.cells #[u0, u1] 31)) S
  have hbox := heap_alloc_new w (.cells #[u0, u1] 31)
  have D0 := hid (d0.mark M0); have D1 := hid (d1.mark M0); have HM := hid M0; have HB := hid hbox
  clear hw hc0 hc1 d0 d1 M0 hbox hg
  go_enter Tryz.func18, Tryz.ntmps18
  go_wp2_with fail
  refine (q0 S _ _ 1 D0.out (by omega) (by omega)).mono ?_
  rintro e w1 ⟨rfl, m1⟩
  have hb : w1.heap[w.heap.size]? = _ := (m1.old w.heap.size (by simp) (fun h => absurd (hS _ h) (by omega))).trans HB.out
  have c10 : w1.cell? ⟨w.heap.size, 0, none⟩ = some u0 := by rw [cell_of_row w1 _ _ _ _ _ hb]; rfl
  have c11 : w1.cell? ⟨w.heap.size, 1, none⟩ = some u1 := by rw [cell_of_row w1 _ _ _ _ _ hb]; rfl
  clear hb
  go_wp2_with fail
  refine (q1 S _ _ _ (D1.out.mark m1) (by omega) (by omega)).mono ?_
  rintro e w2 ⟨rfl, m2⟩
  go_wp2_with fail
  go_ret
  exact ⟨⟨_, by omega, by omega, rfl⟩, (HM.out.trans m1).trans m2⟩

/-! ### Copies -/
theorem copyInts {xs : List Int} (h : xs.length ≤ 1048576) : CopyC Tryz.prog 116 (dIs xs) := toIntS_c (rows := xs.map rI) (fun r hr => by obtain ⟨z, _, rfl⟩ := List.mem_map.1 hr; exact ⟨_, rfl⟩) (by simpa using h)
theorem copyAff {a : Aff} (h : a.1.length ≤ 1048576) : CopyS Tryz.prog 235 (rA a) := toAffine_c (copyInts h)
theorem copyAffs {l : List Aff} (h : szAs l ≤ 1048576) : CopyC Tryz.prog 202 (dAs l) := toAffineS_c (rows := l.map rA) (fun r hr => by
  obtain ⟨a, ha, rfl⟩ := List.mem_map.1 hr
  exact ⟨_, _, rfl, copyAff (by have := szAs_mem ha; omega)⟩) (by rw [List.length_map]; rw [szAs] at h; omega)
theorem copyLps {l : List Lp} (h : szLs l ≤ 1048576) : CopyC Tryz.prog 117 (dLs l) := toLoopS_c (rows := l.map rL) (fun r hr => by
  obtain ⟨a, ha, rfl⟩ := List.mem_map.1 hr
  have h1 := szLs_mem ha
  rw [szL] at h1
  exact ⟨_, _, rfl, toLoop_c (copyAffs (by omega)) (copyAffs (by omega))⟩) (by rw [List.length_map]; rw [szLs] at h; omega)
theorem copyAcc {a : Acc} (h : szC a ≤ 1048576) : CopyS Tryz.prog 203 (rC a) := toAccess_c (copyAffs (by rw [szC] at h; omega))
theorem copyEx : ∀ e : Ex, szE e ≤ 1048576 → CopyS Tryz.prog 204 (rX e) := by
  intro e
  induction e using Ex.rec' with
  | h e ih =>
    intro hs
    rw [szE_eq] at hs
    refine toExpr_c (copyAff (a := e.i) (by omega)) (copyAcc (a := e.r) (by omega)) (toExprS_c (rows := e.ks.map rE) (fun r hr => ?_) (by rw [List.length_map]; omega))
    obtain ⟨x, hx, rfl⟩ := List.mem_map.1 hr
    rw [rE_eq]
    exact ⟨_, _, _, _, _, _, _, rfl, ih x hx (by have := szEs_mem hx; omega)⟩
theorem copyStms {l : List Stm} (h : szO szS l ≤ 1048576) : CopyC Tryz.prog 118 (dMs l) := toStmtS_c (rows := l.map rS) (fun r hr => by
  obtain ⟨s, hs, rfl⟩ := List.mem_map.1 hr
  have h1 := szO_mem (f := szS) hs
  have h2 : szS s = szC s.1 + szE s.2 := rfl
  exact ⟨_, _, _, _, _, _, _, _, _, rfl, toStmt_c (copyAcc (a := s.1) (by omega)) (copyEx s.2 (by omega))⟩) (by rw [List.length_map]; rw [szO] at h; omega)
theorem copyPts {l : List Prt} (h : szO szPt l ≤ 1048576) : CopyC Tryz.prog 37 (dPts l) := toPartS_c (rows := l.map rP) (fun r hr => by
  obtain ⟨a, ha, rfl⟩ := List.mem_map.1 hr
  have h1 := szO_mem (f := szPt) ha
  have h2 : szPt a = szLs a.1 + szO szS a.2 := rfl
  exact ⟨_, _, rfl, toPart_c (copyLps (by omega)) (copyStms (by omega))⟩) (by rw [List.length_map]; rw [szO] at h; omega)
theorem copyArrs {l : List Arr} (h : szO szR l ≤ 1048576) : CopyC Tryz.prog 36 (dRs l) := toArrayS_c (rows := l.map rR) (fun r hr => by
  obtain ⟨a, ha, rfl⟩ := List.mem_map.1 hr
  have h1 := szO_mem (f := szR) ha
  have h2 : szR a = a.1.size + a.2.length := rfl
  exact ⟨_, _, rfl, toArray_c (copyInts (by omega))⟩) (by rw [List.length_map]; rw [szO] at h; omega)
theorem copyPrg {g : Prg} (h : szG g ≤ 1048576) : CopyS Tryz.prog 12 (rG g) := toProgram_c (copyArrs (by rw [szG] at h; omega)) (copyPts (by rw [szG] at h; omega))
theorem take_eq_step {xs ys : List Int} {k : Nat} (hk : xs.take k = ys.take k) (h1 : k < xs.length) (h2 : k < ys.length) (h : xs.getD k 0 = ys.getD k 0) : xs.take (k+1) = ys.take (k+1) := by
  rw [List.take_succ_eq_append_getElem h1, List.take_succ_eq_append_getElem h2, hk]
  simp only [List.getD, List.getElem?_eq_getElem h1, List.getElem?_eq_getElem h2, Option.getD_some] at h
  rw [h]
theorem ne_of_getD {xs ys : List Int} {k : Nat} (h : ¬ xs.getD k 0 = ys.getD k 0) : xs ≠ ys := fun e => h (by rw [e])

set_option maxHeartbeats 400000 in
theorem eqIntS_len (a b : Option Addr) (m c1 n c2 : Nat) (w : World) (h : m ≠ n) :
    Calls Tryz.prog 17 #[.slice a m c1, .slice b n c2] w fun e w' => e = .returned (.bool false) ∧ w = w' := by
  have hne : (((m : Int) != (n : Int)) = true) := by simp; omega
  go_enter Tryz.func17, Tryz.ntmps17
  go_wp2
  go_ret
  exact ⟨rfl, rfl⟩

set_option maxHeartbeats 400000 in
theorem eqIntS_same (a b : Option Addr) (n c1 c2 : Nat) (xs ys : List Int) (w : World) (hx : IntsA w a n c1 xs) (hy : IntsA w b n c2 ys) :
    Calls Tryz.prog 17 #[.slice a n c1, .slice b n c2] w fun e w' => e = .returned (.bool (decide (xs = ys))) ∧ Quiet w w' := by
  have hle := hx.le
  go_enter Tryz.func17, Tryz.ntmps17
  go_wp2
  go_loopw [5] (fun i wr => ∃ k : Nat, k ≤ n ∧ i = .int .i64 k ∧ xs.take k = ys.take k ∧ Quiet w wr) (fun i _ => n - (intOf i).toNat)
  case atStart => exact ⟨0, Nat.zero_le _, rfl, by simp, Quiet.refl w⟩
  case round =>
    obtain ⟨k, hk, rfl, ht, hq⟩ := hrel
    have Ht := hid ht; clear ht
    by_cases hlt : k < n
    · obtain ⟨ba, oa, ha, _, hca⟩ := hx.at (by omega)
      obtain ⟨bb, ob, hb, _, hcb⟩ := hy.at (by omega)
      rw [ha, hb]
      have h1 : wr.cell? _ = _ := (hq.cell _).trans (hca k hlt)
      have h2 : wr.cell? _ = _ := (hq.cell _).trans (hcb k hlt)
      clear hca hcb ha hb
      go_wp2
      go_quiet (fail)
      go_wp2
      · have hne := ‹(xs[k]?.getD 0 != ys[k]?.getD 0) = true›
        go_ret
        exact ⟨ret_bool (by rw [bne_iff_ne] at hne; exact (decide_eq_false (ne_of_getD hne)).symm), hq.drewN⟩
      · have he := ‹(xs[k]?.getD 0 != ys[k]?.getD 0) = false›
        exact ⟨⟨k + 1, by omega, rfl, take_eq_step Ht.out (by rw [hx.1]; omega) (by rw [hy.1]; omega) (by simpa [bne_eq_false_iff_eq] using he), hq.drewN⟩, by simp [intOf]; omega⟩
    · have : k = n := by omega
      subst this
      go_wp2
      go_ret
      exact ⟨ret_bool (by have h := Ht.out; rw [List.take_of_length_le (by rw [hx.1]; omega), List.take_of_length_le (by rw [hy.1]; omega)] at h; exact (decide_eq_true h).symm), hq⟩

/-- Whatever the lengths. -/
theorem eqIntS_any (a b : Option Addr) (m n c1 c2 : Nat) (xs ys : List Int) (w : World) (hx : IntsA w a m c1 xs) (hy : IntsA w b n c2 ys) :
    Calls Tryz.prog 17 #[.slice a m c1, .slice b n c2] w fun e w' => e = .returned (.bool (decide (xs = ys))) ∧ Quiet w w' := by
  by_cases h : m = n
  · subst h; exact eqIntS_same a b m c1 c2 xs ys w hx hy
  · refine (eqIntS_len a b m c1 n c2 w h).mono ?_
    rintro e w' ⟨rfl, rfl⟩
    exact ⟨ret_bool (decide_eq_false (fun e => h (by rw [← hx.1, ← hy.1, e]))).symm, Quiet.refl _⟩
theorem grownBy_trans {w w' w'' : World} {r : Option Nat} (h : w.grownBy w' r) (h' : w'.grownBy w'' r) : w.grownBy w'' r :=
  ⟨h'.os.trans h.os, h'.tape.trans h.tape, h'.output.trans h.output, Nat.le_trans h.size h'.size, fun k hk hr => (h'.block k (Nat.lt_of_lt_of_le hk h.size) hr).trans (h.block k hk hr)⟩
theorem OwnS.set {w : World} {B g n c : Nat} {xs : List Int} (h : OwnS w B (.slice (some ⟨g, 0, none⟩) n c) xs) (j : Nat) (x : Int) :
    OwnS (w.setCell ⟨g, j, none⟩ (.int .i64 x)) B (.slice (some ⟨g, 0, none⟩) n c) (xs.set j x) ∧ w.grownBy (w.setCell ⟨g, j, none⟩ (.int .i64 x)) (some g) := by
  have hn : xs.length = n := by
    rcases h.2 with ⟨e, _⟩ | ⟨_, _, _, e, _⟩
    · simp at e
    · simp at e; exact e.2.1.symm
  subst hn
  have := World.ownsRow.stored h j (.int .i64 x)
  refine ⟨?_, this.2⟩
  unfold OwnS
  rw [List.length_set, List.map_set]
  exact this.1
theorem OwnS.len {w : World} {B n c : Nat} {a : Option Addr} {xs : List Int} (h : OwnS w B (.slice a n c) xs) : xs.length = n := by
  rcases h.2 with ⟨e, h0⟩ | ⟨_, _, _, e, _⟩
  · simp at e; omega
  · simp at e; exact e.2.1.symm
theorem OwnS.at {w : World} {B n c : Nat} {a : Option Addr} {xs : List Int} (h : OwnS w B (.slice a n c) xs) (hn : 0 < n) :
    ∃ g, a = some ⟨g, 0, none⟩ ∧ B ≤ g ∧ g < w.heap.size ∧ n ≤ c ∧ (∀ j, j < n → w.cell? ⟨g, j, none⟩ = some (.int .i64 (xs.getD j 0))) ∧ ∀ j, w.frozen? ⟨g, j, none⟩ = false := by
  have hl := h.len
  have h0 := h
  rcases h.2 with ⟨e, h1⟩ | ⟨g, cap, cur, e, hB, hg, hnc, _⟩
  · simp at e; omega
  · have ha : a = some ⟨g, 0, none⟩ := by simp at e; exact e.1
    have hc : c = cap := by simp at e; exact e.2.2
    subst ha hc
    unfold OwnS at h0
    rw [hl] at h0
    exact ⟨g, rfl, hB, (Array.getElem?_eq_some_iff.1 hg).1, by omega, fun j hj => by rw [World.ownsRow.cellAt h0 j (by omega), List.getElem?_map, List.getD, List.getElem?_eq_getElem (by omega)]; rfl, fun j => World.ownsRow.frozenAt h0 j⟩

theorem OwnS.empty (w : World) {B : Nat} (hB : B ≤ w.heap.size) : OwnS (w.alloc (.cells #[] 3)) B (.slice (some ⟨w.heap.size, 0, none⟩) 0 0) [] :=
  World.ownsRow_made w #[] 0 hB (by unfold maxLen; omega) rfl
theorem OwnS.one (w : World) {B : Nat} (hB : B ≤ w.heap.size) (x : Int) : OwnS (w.alloc (.cells #[.int .i64 x] 3)) B (.slice (some ⟨w.heap.size, 0, none⟩) 1 1) [x] :=
  ⟨rfl, .inr ⟨w.heap.size, 1, _, rfl, hB, heap_alloc_new w _, Nat.le_refl _, by unfold maxLen; omega, rfl, rfl⟩⟩
theorem Dis.new {w : World} {B : Nat} {u : Value} {xs : List Int} (h : OwnS w B u xs) (n c : Nat) : Dis u (.slice (some ⟨w.heap.size, 0, none⟩) n c) := by
  intro k hk e
  have := (h.lt k hk).2
  simp [Value.ownBlock] at e
  omega

theorem OwnS.below' {w w' : World} {B : Nat} {v : Value} {xs : List Int} (h : OwnS w B v xs) (hb : Below w.heap.size w w') : OwnS w' B v xs := h.below hb (fun k hk => (h.lt k hk).2)

theorem OwnS.intsA {w : World} {B n c : Nat} {a : Option Addr} {xs : List Int} (h : OwnS w B (.slice a n c) xs) (hn : n ≤ 17592186044416) : IntsA w a n c xs := by
  obtain ⟨a', c', e, hi, _⟩ := h.form (by rw [h.len]; exact hn)
  simp only [Value.slice.injEq] at e
  obtain ⟨rfl, e2, rfl⟩ := e
  rw [e2]
  exact hi
def marks (k : Int) (n : Nat) : List Int := (List.range n).map fun i : Nat => k + (i : Int)
theorem marks_zero (k : Int) : marks k 0 = [] := rfl
theorem marks_succ (k : Int) (n : Nat) : marks k (n + 1) = marks k n ++ [k + n] := by simp [marks, List.range_succ]
theorem marks_length (k : Int) (n : Nat) : (marks k n).length = n := by simp [marks]
theorem marks_at (k : Int) (n j : Nat) (h : j < n) : (marks k n)[j]?.getD 0 = k + j := by simp [marks, h]
theorem marks_step {k : Int} {j : Nat} {xs : List Int} (h : j < xs.length) : (marks k j ++ xs.drop j).set j (k + j) = marks k (j + 1) ++ xs.drop (j + 1) := by
  rw [List.set_append, if_neg (by rw [marks_length]; omega), marks_length, Nat.sub_self, marks_succ, List.drop_eq_getElem_cons h, List.set_cons_zero, List.append_assoc]
  rfl

set_option maxHeartbeats 800000 in
theorem markIntS_any (a : Option Addr) (n c B : Nat) (k : Int) (xs : List Int) (w : World) (hx : OwnS w B (.slice a n c) xs) (hn : n ≤ 17592186044416) (hk0 : 0 ≤ k) (hk1 : k ≤ 1125899906842624) :
    Calls Tryz.prog 19 #[.slice a n c, .int .i64 k] w fun e w' => e = .returned (.int .i64 (k + n)) ∧ OwnS w' B (.slice a n c) (marks k n) ∧ w.grownBy w' (Value.slice a n c).ownBlock := by
  go_enter Tryz.func19, Tryz.ntmps19
  go_wp2
  go_loopw [1, 5] (fun q i wr => ∃ j : Nat, j ≤ n ∧ i = .int .i64 j ∧ q = .int .i64 (k + j) ∧ OwnS wr B (.slice a n c) (marks k j ++ xs.drop j) ∧ w.grownBy wr (Value.slice a n c).ownBlock) (fun _ i _ => n - (intOf i).toNat)
  case atStart => exact ⟨0, Nat.zero_le _, rfl, by simp, by simpa [marks_zero] using hx, World.grownBy.refl _ _⟩
  case round =>
    obtain ⟨j, hj, rfl, rfl, ho, hg⟩ := hrel
    have hlen := hx.len
    by_cases hlt : j < n
    · obtain ⟨g, ha, hB, hgl, hnc, hcell, hfr⟩ := ho.at (by omega)
      have h3 := hcell j hlt
      have h4 := hfr j
      subst ha
      clear hcell hfr
      have hs := ho.set j (k + j)
      rw [marks_step (by omega)] at hs
      have Hs := hid hs
      clear hs
      have Hl := hid hlen; clear hlen
      go_wp2
      exact ⟨⟨j + 1, by omega, rfl, int_i64 (by omega), Hs.out.1, grownBy_trans hg Hs.out.2⟩, by simp [intOf]; omega⟩
    · have : j = n := by omega
      subst this
      go_wp2
      go_ret
      exact ⟨rfl, by rw [List.drop_of_length_le (by omega), List.append_nil] at ho; exact ho, hg⟩

set_option maxHeartbeats 800000 in
theorem heldIntS_any (a : Option Addr) (n c : Nat) (k : Int) (w : World) (hx : IntsA w a n c (marks k n)) (hk0 : 0 ≤ k) (hk1 : k ≤ 1125899906842624) :
    Calls Tryz.prog 20 #[.slice a n c, .int .i64 k] w fun e w' => e = .returned (.int .i64 (k + n)) ∧ Quiet w w' := by
  have hle := hx.le
  go_enter Tryz.func20, Tryz.ntmps20
  go_wp2
  go_loopw [1, 5] (fun q i wr => ∃ j : Nat, j ≤ n ∧ i = .int .i64 j ∧ q = .int .i64 (k + j) ∧ Quiet w wr) (fun _ i _ => n - (intOf i).toNat)
  case atStart => exact ⟨0, Nat.zero_le _, rfl, by simp, Quiet.refl w⟩
  case round =>
    obtain ⟨j, hj, rfl, rfl, hq⟩ := hrel
    by_cases hlt : j < n
    · obtain ⟨ba, oa, ha, _, hca⟩ := hx.at (by omega)
      have h2 : wr.cell? _ = _ := (hq.cell _).trans (hca j hlt)
      rw [show (marks k n).getD j 0 = k + j from marks_at k n j hlt] at h2
      subst ha
      clear hca
      go_wp2
      exact ⟨⟨j + 1, by omega, rfl, int_i64 (by omega), hq⟩, by simp [intOf]; omega⟩
    · have : j = n := by omega
      subst this
      go_wp2
      go_ret
      exact ⟨rfl, hq⟩
end Go.Proofs.YtidfloikpieggaaGreat
namespace Go.Proofs.YtidfloikpieggaaGreat
set_option linter.unusedVariables false
set_option linter.unusedSimpArgs false
open Go.ChangeShapes Go.WideShapes Go.ChangeAt Go.RowKit
section
variable {H : Type} {enc : TypeId × Value → H} {P : Program} {w : World} {spare : Nat → Bool} {held : Bool} {t : TypeId} {α : Type} {f : α → List D} {ok : α → Prop} {v : Value} {dd : DataW H} {ps : List MemPlace}
theorem op_agg (hop : ∀ n, OpF enc P w spare held n t f ok) (h : DataW.Trod enc P w 0 spare held t v dd ps) (hw : ∀ m ∈ dd.weights P t, m ≤ reachBytes) (hv : ∃ cs, v = .agg cs) : ∃ a, ok a ∧ V1r (fun _ => (0, 0)) (Al (lk [])) (fun b => b < w.heap.size) w (ad (f a)) v := by
  obtain ⟨fuel, hf⟩ := h
  obtain ⟨cs, rfl⟩ := hv
  obtain ⟨a, h1, h2, h3⟩ := hop fuel fuel (Nat.le_refl _) _ _ hf hw
  refine ⟨a, h1, cs.toList, by simp, by rw [List.length_map]; exact h2, fun i c u hc hu => ?_⟩
  rw [List.getElem?_map] at hc
  cases hq : (f a)[i]? with
  | none => rw [hq] at hc; cases hc
  | some d => rw [hq] at hc; cases hc; exact h3 i d u hq hu
theorem okWide_agg {r : Reach} {b0 : Nat} {fs : Array Field} (ht : P.underlying t = some (.struct fs)) (h : Value.okWide P w r b0 t v) : ∃ cs, v = .agg cs := by
  unfold Value.okWide at h
  rw [ht] at h
  obtain ⟨cs, e, _⟩ := h
  exact ⟨cs, e⟩
theorem vals1_mk {R : V1 → Value → Prop} {x : V1} {u : Value} (h : R x u) : Vals R [x] [u] := ⟨rfl, fun i y v hy hv => by
  match i, hy, hv with
  | 0, hy, hv => cases hy; cases hv; exact h⟩
theorem vals2_mk {R : V1 → Value → Prop} {x y : V1} {u v : Value} (h : R x u) (h2 : R y v) : Vals R [x, y] [u, v] := .cons h (vals1_mk h2)
end
end Go.Proofs.YtidfloikpieggaaGreat
namespace Go.Proofs.YtidfloikpieggaaGreat
set_option linter.unusedVariables false
set_option linter.unusedSimpArgs false
open Go.RowKit
abbrev bx0 : Nat → Nat × Nat := fun _ => (0, 0)
abbrev al0 : Nat → Prop := Al (lk [])
theorem no_al0 : ∀ k, ¬ al0 k := fun k ⟨e, sz, rows, h⟩ => by cases h
/-- What a call does that answers y and turns nothing. -/
theorem Fn.calls {P : Program} {f : FuncId} {args : List V1} {y : V} {vs : List Value} {w : World} {B : Nat → Prop} (h : Fn P f [] args y []) (hv : Vals (V1r bx0 al0 B w) args vs) :
    Calls P f vs.toArray w fun e w' => (∃ v B', e = .returned v ∧ Vr bx0 al0 B' w' y v) ∧ Below w.heap.size w w' := by
  refine (h B bx0 w vs ⟨fun k e sz rows h => (by cases h), fun k l hk => (no_al0 k hk).elim, fun k hk => (no_al0 k hk).elim⟩ hv).mono ?_
  rintro e w' ⟨v, bx', rfl, hp⟩
  refine ⟨⟨v, Baft bx' B w (lk []), rfl, hp.val.to (Same.refl _ _) (fun b hb _ => hb) (fun k _ hk => (no_al0 k hk).elim)⟩, hp.os, hp.tape, hp.output, hp.size, fun b hb => hp.old b hb fun k hk => (no_al0 k hk).elim⟩
theorem Fn.callsI {P : Program} {f : FuncId} {args : List V1} {z : Int} {vs : List Value} {w : World} {B : Nat → Prop} (h : Fn P f [] args (.o (nat1 z)) []) (hv : Vals (V1r bx0 al0 B w) args vs) :
    Calls P f vs.toArray w fun e w' => e = .returned (.int .i64 z) ∧ Below w.heap.size w w' := by
  refine (h.calls hv).mono ?_
  rintro e w' ⟨⟨v, B', rfl, hv⟩, hb⟩
  have hv : Dr _ w' (.val (.int .i64 z)) v := hv
  cases hv
  exact ⟨rfl, hb⟩
theorem Fn.callsB {P : Program} {f : FuncId} {args : List V1} {z : Bool} {vs : List Value} {w : World} {B : Nat → Prop} (h : Fn P f [] args (.o (bo1 z)) []) (hv : Vals (V1r bx0 al0 B w) args vs) :
    Calls P f vs.toArray w fun e w' => e = .returned (.bool z) ∧ Below w.heap.size w w' := by
  refine (h.calls hv).mono ?_
  rintro e w' ⟨⟨v, B', rfl, hv⟩, hb⟩
  have hv : Dr _ w' (.val (.bool z)) v := hv
  cases hv
  exact ⟨rfl, hb⟩
theorem Dr.ints {B : Nat → Prop} {w : World} {xs : List Int} {v : Value} (h : Dr B w (dIs xs) v) : ∃ a n c, v = .slice a n c ∧ n = xs.length ∧ IntsA w a n c xs := by
  have hat := @Dr.row B w
  rw [dIs] at h
  obtain ⟨ad, cap, rfl, h1, h2, _⟩ := h.slice
  rw [List.length_map] at h1 h2 h ⊢
  refine ⟨ad, _, cap, rfl, rfl, rfl, h1, h2, fun i hi => ?_⟩
  have hr : (xs.map rI)[i]? = some (rI xs[i]) := by rw [List.getElem?_map, List.getElem?_eq_getElem hi]; rfl
  obtain ⟨b, off, rfl⟩ := h.ba hr
  obtain ⟨u, hc, hd⟩ := h.row hr 0 (x := dI xs[i]) rfl (o := off + i) (by omega)
  refine ⟨b, off, rfl, ?_⟩
  cases hd
  rw [hc, List.getD, List.getElem?_eq_getElem hi]; rfl
/-- A function that answers a list of numbers; where it lies is not told. -/
def PureC (f : FuncId) (args : List V1) (xs : List Int) : Prop := ∀ (B : Nat → Prop) (w : World) (vs : List Value), Vals (V1r bx0 al0 B w) args vs →
  Calls Tryz.prog f vs.toArray w fun e w' => (∃ a c, e = .returned (.slice a xs.length c) ∧ IntsA w' a xs.length c xs) ∧ Below w.heap.size w w'
/-- A function that answers a list of numbers in memory of its own. -/
def OwnC (f : FuncId) (args : List V1) (xs : List Int) : Prop := ∀ (B : Nat → Prop) (w : World) (vs : List Value), Vals (V1r bx0 al0 B w) args vs →
  Calls Tryz.prog f vs.toArray w fun e w' => (∃ a c, e = .returned (.slice a xs.length c) ∧ OwnS w' w.heap.size (.slice a xs.length c) xs) ∧ Below w.heap.size w w'
theorem Fn.pureC {f : FuncId} {args : List V1} {xs : List Int} (h : Fn Tryz.prog f [] args (.o (vD (dIs xs))) []) : PureC f args xs := fun B w vs hv => by
  refine (h.calls hv).mono ?_
  rintro e w' ⟨⟨v, B', rfl, hv⟩, hb⟩
  have hv : Dr _ w' (dIs xs) v := hv
  obtain ⟨a, n, c, rfl, rfl, hi⟩ := hv.ints
  exact ⟨⟨a, c, rfl, hi⟩, hb⟩
theorem Fn.nilC {f : FuncId} {args : List V1} (h : Fn Tryz.prog f [] args (.o (vD (.val (.slice none 0 0)))) []) : OwnC f args [] := fun B w vs hv => by
  refine (h.calls hv).mono ?_
  rintro e w' ⟨⟨v, B', rfl, hv⟩, hb⟩
  have hv : Dr _ w' (.val (.slice none 0 0)) v := hv
  cases hv
  exact ⟨⟨none, 0, rfl, OwnS.nil _ _⟩, hb⟩
theorem toList_take_map {cur : Array Value} {xs : List Int} (hl : xs.length ≤ cur.size) (h : ∀ (i : Nat) (hi : i < xs.length), cur[i]? = some (.int .i64 xs[i])) : cur.toList.take xs.length = xs.map (Value.int .i64) := by
  apply List.ext_getElem?
  intro i
  rw [List.getElem?_take, List.getElem?_map]
  by_cases hi : i < xs.length
  · rw [if_pos hi, Array.getElem?_toList, h i hi, List.getElem?_eq_getElem hi]; rfl
  · rw [if_neg hi, List.getElem?_eq_none (by omega)]; rfl
theorem Fn.ownC {f : FuncId} {args : List V1} {xs : List Int} (h : Fn Tryz.prog f [] args (.o (.c (.own 100 1 xs.length))) [(.b 100, .b 3 1 (dR (xs.map rI))), (.u 100, .u)]) : OwnC f args xs := fun B w vs hv => by
  refine (h B bx0 w vs ⟨fun k e sz rows h => (by cases h), fun k l hk => (no_al0 k hk).elim, fun k hk => (no_al0 k hk).elim⟩ hv).mono ?_
  rintro e w' ⟨v, bx', rfl, hp⟩
  have ha : Al (lk [(.b 100, .b 3 1 (dR (xs.map rI))), (.u 100, .u)]) 100 := ⟨_, _, _, rfl⟩
  obtain ⟨_, h2⟩ := (show Cr bx' _ (Baft bx' B w (lk [(.b 100, .b 3 1 (dR (xs.map rI))), (.u 100, .u)])) w' (.own 100 1 xs.length) v from hp.val)
  obtain ⟨cap, rfl, h3, h4, h5⟩ := h2 ha
  obtain ⟨cur, h6, h7, h8, h9, h10⟩ := hp.ok.1 100 _ _ _ rfl
  have hn : w.heap.size ≤ (bx' 100).1 := (hp.new 100 ha).elim id fun ⟨l, hl, _⟩ => (no_al0 l hl).elim
  refine ⟨⟨_, cap, rfl, by simp, .inr ⟨(bx' 100).1, cap, cur, rfl, hn, h6, h3, h4, by omega, ?_⟩⟩, hp.os, hp.tape, hp.output, hp.size, fun b hb => hp.old b hb fun k hk => (no_al0 k hk).elim⟩
  rw [Nat.mul_one]
  refine toList_take_map (cur := cur) (xs := xs) (by omega) fun i hi => ?_
  obtain ⟨u, h11, h12⟩ := h10 i [.d (dI xs[i])] 0 (.d (dI xs[i])) (by rw [dR, List.getElem?_map, List.getElem?_map, List.getElem?_eq_getElem hi]; rfl) rfl
  have h12 : Dr _ w' (dI xs[i]) u := h12
  cases h12
  rw [Nat.mul_one, Nat.add_zero] at h11
  exact h11
theorem ad2_v {B : Nat → Prop} {w : World} {d0 d1 : D} {u0 u1 : Value} (h0 : Dr B w d0 u0) (h1 : Dr B w d1 u1) : V1r bx0 al0 B w (ad [d0, d1]) (.agg #[u0, u1]) :=
  ⟨[u0, u1], rfl, rfl, fun i c u hc hu => by
    match i, hc, hu with
    | 0, hc, hu => cases hc; cases hu; exact h0
    | 1, hc, hu => cases hc; cases hu; exact h1⟩
/-- What the law took, behind its first box. -/
structure LawS (w w' : World) (us : List Value) : Prop where
  below : Below w.heap.size w w'
  box : w'.heap[w.heap.size]? = some (.cells us.toArray 25 (0, 0))
theorem LawS.start (w : World) (us : List Value) : LawS w (w.alloc (.cells us.toArray 25)) us := ⟨(Below.refl _ _).alloc (Nat.le_refl _) _, heap_alloc_new w _⟩
theorem LawS.lt {w w' : World} {us : List Value} (h : LawS w w' us) : w.heap.size < w'.heap.size := (Array.getElem?_eq_some_iff.1 h.box).1
theorem LawS.fwd {w w' w'' : World} {us : List Value} {n : Nat} (h : LawS w w' us) (hb : Below n w' w'') (hn : w.heap.size < n) : LawS w w'' us := ⟨h.below.trans (hb.mono (by omega)), (hb.block _ hn).trans h.box⟩
theorem LawS.c {w w' : World} {us : List Value} (h : LawS w w' us) (j : Nat) {v : Value} (hv : us[j]? = some v) : w'.cell? ⟨w.heap.size, j, none⟩ = some v := by
  rw [cell_of_row w' _ _ _ _ _ h.box, List.getElem?_toArray]; exact hv
theorem Marked.below {S : Nat → Prop} {w w' : World} {n : Nat} (h : Marked S w w') (hS : ∀ b, S b → n ≤ b) (hn : n ≤ w.heap.size) : Below n w w' :=
  ⟨h.os, h.tape, h.output, h.size, fun b hb => h.old b (by omega) fun hs => by have := hS b hs; omega⟩
theorem OwnS.marked {S : Nat → Prop} {w w' : World} {B : Nat} {v : Value} {xs : List Int} (h : OwnS w B v xs) (hm : Marked S w w') (hS : ∀ b, S b → b < B) : OwnS w' B v xs := by
  obtain ⟨h1, h2 | ⟨g, cap, cur, e, hB, hg, r⟩⟩ := h
  · exact ⟨h1, .inl h2⟩
  · exact ⟨h1, .inr ⟨g, cap, cur, e, hB, (hm.old g (Array.getElem?_eq_some_iff.1 hg).1 fun hs => by have := hS g hs; omega).trans hg, r⟩⟩
theorem dec_self (xs : List Int) : decide (xs = xs) = true := by simp
end Go.Proofs.YtidfloikpieggaaGreat
