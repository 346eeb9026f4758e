/- Part 4 of 5 of the proof: laws on memory and data, then what the functions compute, in the order in which they build on each other; conditions: those that each theorem names. -/
import Derived.Test.YtollooimmfngjaaP3
set_option maxRecDepth 100000
set_option maxHeartbeats 1600000

namespace Go.Proofs.Ytollooimmfngjaa
set_option linter.unusedVariables false
set_option linter.unusedSimpArgs false
open Go.RowKit
/-- A part of a struct, several columns, is turned. -/
theorem DrUs.span {S : Nat → Prop} {w : World} {a m c : List D} {va vm vc : List Value} (h : DrUs w S (a ++ (m ++ c)) (va ++ (vm ++ vc))) (ha : va.length = a.length) (hm : vm.length = m.length) :
    ∃ T, DrUs w T m vm ∧ (∀ b, T b → S b) ∧ ∀ w' m', m'.length = m.length → Marked T w w' → DrUs w' T m' vm → DrUs w' S (a ++ (m' ++ c)) (va ++ (vm ++ vc)) := by
  obtain ⟨h1, T0, h2, h3, h4⟩ := h
  refine ⟨fun b => ∃ j, a.length ≤ j ∧ j < a.length + m.length ∧ T0 j b, ⟨hm, fun j b => j < m.length ∧ T0 (a.length + j) b, fun j b hb => ⟨a.length + j, by omega, by omega, hb.2⟩, fun j j' b hb hb' => by have := h3 _ _ b hb.2 hb'.2; omega, fun j d u hd hu => ?_⟩, fun b ⟨j, _, _, hj⟩ => h2 j b hj, fun w' m' hl hM ⟨g1, T1, g2, g3, g4⟩ => ?_⟩
  · have hj := (List.getElem?_eq_some_iff.1 hd).1
    refine (h4 (a.length + j) d u ?_ ?_).subS fun b hb => ⟨hj, hb⟩
    · rw [List.getElem?_append_right (by omega), show a.length + j - a.length = j by omega, List.getElem?_append_left hj]; exact hd
    · rw [List.getElem?_append_right (by omega), show a.length + j - va.length = j by omega, List.getElem?_append_left (by omega)]; exact hu
  · refine ⟨by simp only [List.length_append] at h1 ⊢; omega, fun j b => if a.length ≤ j ∧ j < a.length + m.length then T1 (j - a.length) b else T0 j b, fun j b hb => ?_, fun j j' b hb hb' => ?_, fun j d u hd hu => ?_⟩
    · dsimp only at hb
      split at hb
      · obtain ⟨q, _, _, hq⟩ := g2 _ _ hb; exact h2 q b hq
      · exact h2 j b hb
    · dsimp only at hb hb'
      split at hb
      · split at hb'
        · have := g3 _ _ b hb hb'; omega
        · rename_i e1 e2
          obtain ⟨q, q1, q2, hq⟩ := g2 _ _ hb
          have := h3 _ _ b hq hb'
          subst this; exact absurd ⟨q1, q2⟩ e2
      · split at hb'
        · rename_i e1 e2
          obtain ⟨q, q1, q2, hq⟩ := g2 _ _ hb'
          have := h3 _ _ b hq hb
          subst this; exact absurd ⟨q1, q2⟩ e1
        · exact h3 _ _ b hb hb'
    · have keep : ∀ {j d u}, ¬ (a.length ≤ j ∧ j < a.length + m.length) → DrU w (T0 j) d u → DrU w' (T0 j) d u := fun hj hu => hu.frame fun b hb hl => hM.old b hl fun ⟨q, q1, q2, hq⟩ => by
        have := h3 _ _ b hq hb
        subst this; exact hj ⟨q1, q2⟩
      by_cases hj : a.length ≤ j ∧ j < a.length + m.length
      · rw [List.getElem?_append_right (by omega), List.getElem?_append_left (by omega)] at hd
        rw [List.getElem?_append_right (by omega), List.getElem?_append_left (by omega), show j - va.length = j - a.length by omega] at hu
        show DrU w' (fun b => if a.length ≤ j ∧ j < a.length + m.length then T1 (j - a.length) b else T0 j b) d u
        simp only [if_pos hj]
        exact g4 _ d u hd hu
      · show DrU w' (fun b => if a.length ≤ j ∧ j < a.length + m.length then T1 (j - a.length) b else T0 j b) d u
        simp only [if_neg hj]
        refine keep hj (h4 j d u ?_ hu)
        rw [← hd]
        by_cases e : j < a.length
        · rw [List.getElem?_append_left e, List.getElem?_append_left e]
        · rw [List.getElem?_append_right (by omega), List.getElem?_append_right (by omega), List.getElem?_append_right (by omega), List.getElem?_append_right (by omega), hl]
def MarkVU (P : Program) (f : FuncId) (ds : List D) : Prop := ∀ (S : Nat → Prop) (w : World) (vs : List Value) (k : Int), DrUs w S ds vs → (∀ b, S b → b < w.heap.size) → 0 ≤ k → k + (wgtV ds : Nat) ≤ 4611686018427387904 →
  Calls P f #[.agg vs.toArray, .int .i64 k] w fun e w' => e = .returned (.int .i64 (k + (wgtV ds : Nat))) ∧ Marked S w w' ∧ DrUs w' S (mkV mTx k ds) vs
def DrKs (w : World) (S : Nat → Prop) (ds : List D) (vs : List Value) : Prop := vs.length = ds.length ∧ ∀ (i : Nat) d u, ds[i]? = some d → vs[i]? = some u → DrK S w d u
theorem DrKs.span {S : Nat → Prop} {w : World} {a m c : List D} {va vm vc : List Value} (h : DrKs w S (a ++ (m ++ c)) (va ++ (vm ++ vc))) (ha : va.length = a.length) (hm : vm.length = m.length) : DrKs w S m vm :=
  ⟨hm, fun j d u hd hu => h.2 (a.length + j) d u (by rw [List.getElem?_append_right (by omega), show a.length + j - a.length = j by omega, List.getElem?_append_left (List.getElem?_eq_some_iff.1 hd).1]; exact hd)
    (by rw [List.getElem?_append_right (by omega), show a.length + j - va.length = j by omega, List.getElem?_append_left (List.getElem?_eq_some_iff.1 hu).1]; exact hu)⟩
theorem DrKs.mark {S : Nat → Prop} {w w' : World} {ds : List D} {vs : List Value} (h : DrKs w S ds vs) (hM : Marked S w w') : DrKs w' S ds vs := ⟨h.1, fun i d u hd hu => (h.2 i d u hd hu).mark hM⟩
def MarkVK (P : Program) (f : FuncId) (ds : List D) : Prop := ∀ (S : Nat → Prop) (w : World) (vs : List Value) (k : Int), DrKs w S ds vs → (∀ b, S b → b < w.heap.size) → 0 ≤ k → k + (wgtV ds : Nat) ≤ 4611686018427387904 →
  Calls P f #[.agg vs.toArray, .int .i64 k] w fun e w' => e = .returned (.int .i64 (k + (wgtV ds : Nat))) ∧ Marked S w w'
set_option maxHeartbeats 3200000 in
theorem markAff_u (x : Aff) : MarkVU Try.prog 68 (rA x) := by
  intro S w vs k h hS hk0 hw
  obtain ⟨u0, l0, rfl, hl0⟩ := len_cons h.1
  obtain ⟨u1, l1, rfl, hl1⟩ := len_cons hl0
  obtain rfl := len_zero hl1
  clear hl0 hl1
  have ew : wgtV (rA x) = wgt (dIs x.1) := rfl
  have em : mkV mTx k (rA x) = [mkD mTx (k) (dIs x.1)] ++ ([dI x.2]) := rfl
  rw [ew] at hw ⊢
  rw [em]
  obtain ⟨c0, hc0, q0⟩ : ∃ c, wgt (dIs x.1) = c ∧ MarkU Try.prog mTx 13 (dIs x.1) c := ⟨_, rfl, markInts_u x.1⟩
  have M0 := marked_of ((Below.refl w.heap.size w).alloc (Nat.le_refl _) (.cells #[u0, u1] 37)) S
  have HM0 := hid M0; have HB := hid (heap_alloc_new w (.cells #[u0, u1] 37))
  have HS := hid hS
  have HU0 := hid (h.fwd ((Below.refl w.heap.size w).alloc (Nat.le_refl _) (.cells #[u0, u1] 37)))
  have HW := hid hw; clear hw
  clear h hS M0 ew em
  go_enter Try.func68, Try.ntmps68
  go_wp2_with fail
  obtain ⟨T0, d0, s0, p0⟩ := HU0.out.part (j := 0) rfl rfl
  refine (q0 T0 _ _ _ d0 (by have := HW.out; omega) (by have := HW.out; omega)).mono ?_
  rintro e w1 ⟨rfl, m0, y0⟩
  have HU1 := hid (p0 _ _ m0 y0)
  have HM1 := hid (HM0.out.trans (m0.sub s0))
  clear m0 y0 p0 d0
  go_wp2_with fail
  go_ret
  have hw := HW.out
  exact ⟨ret_int (by omega), HM1.out, HU1.out⟩
set_option maxHeartbeats 3200000 in
theorem markAff_k (x : Aff) : MarkVK Try.prog 68 (rA x) := by
  intro S w vs k h hS hk0 hw
  obtain ⟨u0, l0, rfl, hl0⟩ := len_cons h.1
  obtain ⟨u1, l1, rfl, hl1⟩ := len_cons hl0
  obtain rfl := len_zero hl1
  clear hl0 hl1
  have ew : wgtV (rA x) = wgt (dIs x.1) := rfl
  rw [ew] at hw ⊢
  obtain ⟨c0, hc0, q0⟩ : ∃ c, wgt (dIs x.1) = c ∧ MarkN Try.prog 13 (dIs x.1) c := ⟨_, rfl, markInts_k x.1⟩
  have M0 := marked_of ((Below.refl w.heap.size w).alloc (Nat.le_refl _) (.cells #[u0, u1] 37)) S
  have HM0 := hid M0; have HB := hid (heap_alloc_new w (.cells #[u0, u1] 37))
  have HS := hid hS
  have HU0 := hid (DrKs.mark h M0)
  have HW := hid hw; clear hw
  clear h hS M0 ew
  go_enter Try.func68, Try.ntmps68
  go_wp2_with fail
  refine (q0 S _ _ _ (HU0.out.2 0 _ _ rfl rfl) (by have := HW.out; omega) (by have := HW.out; omega)).mono ?_
  rintro e w1 ⟨rfl, m0⟩
  have HU1 := hid (DrKs.mark HU0.out m0)
  have HM1 := hid (HM0.out.trans m0)
  clear m0
  go_wp2_with fail
  go_ret
  have hw := HW.out
  exact ⟨ret_int (by omega), HM1.out⟩
set_option maxHeartbeats 3200000 in
theorem markAcc_u (x : Acc) : MarkVU Try.prog 37 (rC x) := by
  intro S w vs k h hS hk0 hw
  obtain ⟨u0, l0, rfl, hl0⟩ := len_cons h.1
  obtain ⟨u1, l1, rfl, hl1⟩ := len_cons hl0
  obtain rfl := len_zero hl1
  clear hl0 hl1
  have ew : wgtV (rC x) = wgt (dAs x.2) := rfl
  have em : mkV mTx k (rC x) = [dS x.1] ++ ([mkD mTx (k) (dAs x.2)]) := rfl
  rw [ew] at hw ⊢
  rw [em]
  obtain ⟨c0, hc0, q0⟩ : ∃ c, wgt (dAs x.2) = c ∧ MarkU Try.prog mTx 67 (dAs x.2) c := ⟨_, rfl, markAffs_u x.2⟩
  have M0 := marked_of ((Below.refl w.heap.size w).alloc (Nat.le_refl _) (.cells #[u0, u1] 36)) S
  have HM0 := hid M0; have HB := hid (heap_alloc_new w (.cells #[u0, u1] 36))
  have HS := hid hS
  have HU0 := hid (h.fwd ((Below.refl w.heap.size w).alloc (Nat.le_refl _) (.cells #[u0, u1] 36)))
  have HW := hid hw; clear hw
  clear h hS M0 ew em
  go_enter Try.func37, Try.ntmps37
  go_wp2_with fail
  obtain ⟨T0, d0, s0, p0⟩ := HU0.out.part (j := 1) rfl rfl
  refine (q0 T0 _ _ _ d0 (by have := HW.out; omega) (by have := HW.out; omega)).mono ?_
  rintro e w1 ⟨rfl, m0, y0⟩
  have HU1 := hid (p0 _ _ m0 y0)
  have HM1 := hid (HM0.out.trans (m0.sub s0))
  clear m0 y0 p0 d0
  go_wp2_with fail
  go_ret
  have hw := HW.out
  exact ⟨ret_int (by omega), HM1.out, HU1.out⟩
set_option maxHeartbeats 3200000 in
theorem markAcc_k (x : Acc) : MarkVK Try.prog 37 (rC x) := by
  intro S w vs k h hS hk0 hw
  obtain ⟨u0, l0, rfl, hl0⟩ := len_cons h.1
  obtain ⟨u1, l1, rfl, hl1⟩ := len_cons hl0
  obtain rfl := len_zero hl1
  clear hl0 hl1
  have ew : wgtV (rC x) = wgt (dAs x.2) := rfl
  rw [ew] at hw ⊢
  obtain ⟨c0, hc0, q0⟩ : ∃ c, wgt (dAs x.2) = c ∧ MarkN Try.prog 67 (dAs x.2) c := ⟨_, rfl, markAffs_k x.2⟩
  have M0 := marked_of ((Below.refl w.heap.size w).alloc (Nat.le_refl _) (.cells #[u0, u1] 36)) S
  have HM0 := hid M0; have HB := hid (heap_alloc_new w (.cells #[u0, u1] 36))
  have HS := hid hS
  have HU0 := hid (DrKs.mark h M0)
  have HW := hid hw; clear hw
  clear h hS M0 ew
  go_enter Try.func37, Try.ntmps37
  go_wp2_with fail
  refine (q0 S _ _ _ (HU0.out.2 1 _ _ rfl rfl) (by have := HW.out; omega) (by have := HW.out; omega)).mono ?_
  rintro e w1 ⟨rfl, m0⟩
  have HU1 := hid (DrKs.mark HU0.out m0)
  have HM1 := hid (HM0.out.trans m0)
  clear m0
  go_wp2_with fail
  go_ret
  have hw := HW.out
  exact ⟨ret_int (by omega), HM1.out⟩
set_option maxHeartbeats 3200000 in
theorem markEx_u (x : Ex) : MarkVU Try.prog 38 (rX x) := by
  intro S w vs k h hS hk0 hw
  obtain ⟨u0, l0, rfl, hl0⟩ := len_cons h.1
  obtain ⟨u1, l1, rfl, hl1⟩ := len_cons hl0
  obtain ⟨u2, l2, rfl, hl2⟩ := len_cons hl1
  obtain ⟨u3, l3, rfl, hl3⟩ := len_cons hl2
  obtain ⟨u4, l4, rfl, hl4⟩ := len_cons hl3
  obtain ⟨u5, l5, rfl, hl5⟩ := len_cons hl4
  obtain ⟨u6, l6, rfl, hl6⟩ := len_cons hl5
  obtain rfl := len_zero hl6
  clear hl0 hl1 hl2 hl3 hl4 hl5 hl6
  have ew : wgtV (rX x) = wgtV (rA x.i) + (wgtV (rC x.r) + (wgt (dEs x.ks))) := rfl
  have em : mkV mTx k (rX x) = [dI x.k, dI x.n] ++ (mkV mTx (k) (rA x.i) ++ (mkV mTx (k + (wgtV (rA x.i) : Nat)) (rC x.r) ++ ([mkD mTx (k + (wgtV (rA x.i) : Nat) + (wgtV (rC x.r) : Nat)) (dEs x.ks)]))) := rfl
  rw [ew] at hw ⊢
  rw [em]
  have q0 := hid (markAff_u x.i)
  have q1 := hid (markAcc_u x.r)
  obtain ⟨c2, hc2, q2⟩ : ∃ c, wgt (dEs x.ks) = c ∧ MarkU Try.prog mTx 69 (dEs x.ks) c := ⟨_, rfl, markExs_uall x.ks⟩
  have M0 := marked_of ((Below.refl w.heap.size w).alloc (Nat.le_refl _) (.cells #[u0, u1, u2, u3, u4, u5, u6] 40)) S
  have HM0 := hid M0; have HB := hid (heap_alloc_new w (.cells #[u0, u1, u2, u3, u4, u5, u6] 40))
  have HS := hid hS
  have HU0 := hid (h.fwd ((Below.refl w.heap.size w).alloc (Nat.le_refl _) (.cells #[u0, u1, u2, u3, u4, u5, u6] 40)))
  have HW := hid hw; clear hw
  clear h hS M0 ew em
  go_enter Try.func38, Try.ntmps38
  go_wp2_with fail
  obtain ⟨T0, d0, s0, p0⟩ := DrUs.span (a := [dI x.k, dI x.n]) (m := [dIs x.i.1, dI x.i.2]) (c := [dS x.r.1, dAs x.r.2, dEs x.ks]) (va := [u0, u1]) (vm := [u2, u3]) (vc := [u4, u5, u6]) HU0.out rfl rfl
  refine (q0.out T0 _ [u2, u3] _ d0 (fun b hb => Nat.lt_of_lt_of_le (HS.out b (s0 b hb)) HM0.out.size) (by have := HW.out; omega) (by have := HW.out; omega)).mono ?_
  rintro e w1 ⟨rfl, m0, y0⟩
  have HU1 := hid (p0 _ (mkV mTx (k) (rA x.i)) rfl m0 y0)
  have HM1 := hid (HM0.out.trans (m0.sub s0))
  have HB1 := hid ((m0.old w.heap.size (by simp) (fun h => absurd (HS.out _ (s0 _ h)) (by omega))).trans HB.out)
  have e0 : w1.cell? ⟨w.heap.size, 0, none⟩ = some u0 := by rw [cell_of_row w1 _ _ _ _ _ HB1.out]; rfl
  have e1 : w1.cell? ⟨w.heap.size, 1, none⟩ = some u1 := by rw [cell_of_row w1 _ _ _ _ _ HB1.out]; rfl
  have e2 : w1.cell? ⟨w.heap.size, 2, none⟩ = some u2 := by rw [cell_of_row w1 _ _ _ _ _ HB1.out]; rfl
  have e3 : w1.cell? ⟨w.heap.size, 3, none⟩ = some u3 := by rw [cell_of_row w1 _ _ _ _ _ HB1.out]; rfl
  have e4 : w1.cell? ⟨w.heap.size, 4, none⟩ = some u4 := by rw [cell_of_row w1 _ _ _ _ _ HB1.out]; rfl
  have e5 : w1.cell? ⟨w.heap.size, 5, none⟩ = some u5 := by rw [cell_of_row w1 _ _ _ _ _ HB1.out]; rfl
  have e6 : w1.cell? ⟨w.heap.size, 6, none⟩ = some u6 := by rw [cell_of_row w1 _ _ _ _ _ HB1.out]; rfl
  clear m0 y0 p0 d0
  go_wp2_with fail
  clear e0 e1 e2 e3 e4 e5 e6
  obtain ⟨T1, d1, s1, p1⟩ := DrUs.span (a := [dI x.k, dI x.n, mkD mTx (k) (dIs x.i.1), dI x.i.2]) (m := [dS x.r.1, dAs x.r.2]) (c := [dEs x.ks]) (va := [u0, u1, u2, u3]) (vm := [u4, u5]) (vc := [u6]) HU1.out rfl rfl
  refine (q1.out T1 _ [u4, u5] _ d1 (fun b hb => Nat.lt_of_lt_of_le (HS.out b (s1 b hb)) HM1.out.size) (by have := HW.out; omega) (by have := HW.out; omega)).mono ?_
  rintro e w2 ⟨rfl, m1, y1⟩
  have HU2 := hid (p1 _ (mkV mTx (k + (wgtV (rA x.i) : Nat)) (rC x.r)) rfl m1 y1)
  have HM2 := hid (HM1.out.trans (m1.sub s1))
  have HB2 := hid ((m1.old w.heap.size (blk_lt HB1.out) (fun h => absurd (HS.out _ (s1 _ h)) (by omega))).trans HB1.out)
  have e0 : w2.cell? ⟨w.heap.size, 0, none⟩ = some u0 := by rw [cell_of_row w2 _ _ _ _ _ HB2.out]; rfl
  have e1 : w2.cell? ⟨w.heap.size, 1, none⟩ = some u1 := by rw [cell_of_row w2 _ _ _ _ _ HB2.out]; rfl
  have e2 : w2.cell? ⟨w.heap.size, 2, none⟩ = some u2 := by rw [cell_of_row w2 _ _ _ _ _ HB2.out]; rfl
  have e3 : w2.cell? ⟨w.heap.size, 3, none⟩ = some u3 := by rw [cell_of_row w2 _ _ _ _ _ HB2.out]; rfl
  have e4 : w2.cell? ⟨w.heap.size, 4, none⟩ = some u4 := by rw [cell_of_row w2 _ _ _ _ _ HB2.out]; rfl
  have e5 : w2.cell? ⟨w.heap.size, 5, none⟩ = some u5 := by rw [cell_of_row w2 _ _ _ _ _ HB2.out]; rfl
  have e6 : w2.cell? ⟨w.heap.size, 6, none⟩ = some u6 := by rw [cell_of_row w2 _ _ _ _ _ HB2.out]; rfl
  clear m1 y1 p1 d1
  go_wp2_with fail
  clear e0 e1 e2 e3 e4 e5 e6
  obtain ⟨T2, d2, s2, p2⟩ := HU2.out.part (j := 6) rfl rfl
  refine (q2 T2 _ _ _ d2 (by have := HW.out; omega) (by have := HW.out; omega)).mono ?_
  rintro e w3 ⟨rfl, m2, y2⟩
  have HU3 := hid (p2 _ _ m2 y2)
  have HM3 := hid (HM2.out.trans (m2.sub s2))
  clear m2 y2 p2 d2
  go_wp2_with fail
  go_ret
  have hw := HW.out
  exact ⟨ret_int (by omega), HM3.out, HU3.out⟩
set_option maxHeartbeats 3200000 in
theorem markEx_k (x : Ex) : MarkVK Try.prog 38 (rX x) := by
  intro S w vs k h hS hk0 hw
  obtain ⟨u0, l0, rfl, hl0⟩ := len_cons h.1
  obtain ⟨u1, l1, rfl, hl1⟩ := len_cons hl0
  obtain ⟨u2, l2, rfl, hl2⟩ := len_cons hl1
  obtain ⟨u3, l3, rfl, hl3⟩ := len_cons hl2
  obtain ⟨u4, l4, rfl, hl4⟩ := len_cons hl3
  obtain ⟨u5, l5, rfl, hl5⟩ := len_cons hl4
  obtain ⟨u6, l6, rfl, hl6⟩ := len_cons hl5
  obtain rfl := len_zero hl6
  clear hl0 hl1 hl2 hl3 hl4 hl5 hl6
  have ew : wgtV (rX x) = wgtV (rA x.i) + (wgtV (rC x.r) + (wgt (dEs x.ks))) := rfl
  rw [ew] at hw ⊢
  have q0 := hid (markAff_k x.i)
  have q1 := hid (markAcc_k x.r)
  obtain ⟨c2, hc2, q2⟩ : ∃ c, wgt (dEs x.ks) = c ∧ MarkN Try.prog 69 (dEs x.ks) c := ⟨_, rfl, markExs_all x.ks⟩
  have M0 := marked_of ((Below.refl w.heap.size w).alloc (Nat.le_refl _) (.cells #[u0, u1, u2, u3, u4, u5, u6] 40)) S
  have HM0 := hid M0; have HB := hid (heap_alloc_new w (.cells #[u0, u1, u2, u3, u4, u5, u6] 40))
  have HS := hid hS
  have HU0 := hid (DrKs.mark h M0)
  have HW := hid hw; clear hw
  clear h hS M0 ew
  go_enter Try.func38, Try.ntmps38
  go_wp2_with fail
  refine (q0.out S _ [u2, u3] _ (DrKs.span (a := [dI x.k, dI x.n]) (m := [dIs x.i.1, dI x.i.2]) (c := [dS x.r.1, dAs x.r.2, dEs x.ks]) (va := [u0, u1]) (vm := [u2, u3]) (vc := [u4, u5, u6]) HU0.out rfl rfl) (fun b hb => Nat.lt_of_lt_of_le (HS.out b hb) HM0.out.size) (by have := HW.out; omega) (by have := HW.out; omega)).mono ?_
  rintro e w1 ⟨rfl, m0⟩
  have HU1 := hid (DrKs.mark HU0.out m0)
  have HM1 := hid (HM0.out.trans m0)
  have HB1 := hid ((m0.old w.heap.size (by simp) (fun h => absurd (HS.out _ h) (by omega))).trans HB.out)
  have e0 : w1.cell? ⟨w.heap.size, 0, none⟩ = some u0 := by rw [cell_of_row w1 _ _ _ _ _ HB1.out]; rfl
  have e1 : w1.cell? ⟨w.heap.size, 1, none⟩ = some u1 := by rw [cell_of_row w1 _ _ _ _ _ HB1.out]; rfl
  have e2 : w1.cell? ⟨w.heap.size, 2, none⟩ = some u2 := by rw [cell_of_row w1 _ _ _ _ _ HB1.out]; rfl
  have e3 : w1.cell? ⟨w.heap.size, 3, none⟩ = some u3 := by rw [cell_of_row w1 _ _ _ _ _ HB1.out]; rfl
  have e4 : w1.cell? ⟨w.heap.size, 4, none⟩ = some u4 := by rw [cell_of_row w1 _ _ _ _ _ HB1.out]; rfl
  have e5 : w1.cell? ⟨w.heap.size, 5, none⟩ = some u5 := by rw [cell_of_row w1 _ _ _ _ _ HB1.out]; rfl
  have e6 : w1.cell? ⟨w.heap.size, 6, none⟩ = some u6 := by rw [cell_of_row w1 _ _ _ _ _ HB1.out]; rfl
  clear m0
  go_wp2_with fail
  clear e0 e1 e2 e3 e4 e5 e6
  refine (q1.out S _ [u4, u5] _ (DrKs.span (a := [dI x.k, dI x.n, dIs x.i.1, dI x.i.2]) (m := [dS x.r.1, dAs x.r.2]) (c := [dEs x.ks]) (va := [u0, u1, u2, u3]) (vm := [u4, u5]) (vc := [u6]) HU1.out rfl rfl) (fun b hb => Nat.lt_of_lt_of_le (HS.out b hb) HM1.out.size) (by have := HW.out; omega) (by have := HW.out; omega)).mono ?_
  rintro e w2 ⟨rfl, m1⟩
  have HU2 := hid (DrKs.mark HU1.out m1)
  have HM2 := hid (HM1.out.trans m1)
  have HB2 := hid ((m1.old w.heap.size (blk_lt HB1.out) (fun h => absurd (HS.out _ h) (by omega))).trans HB1.out)
  have e0 : w2.cell? ⟨w.heap.size, 0, none⟩ = some u0 := by rw [cell_of_row w2 _ _ _ _ _ HB2.out]; rfl
  have e1 : w2.cell? ⟨w.heap.size, 1, none⟩ = some u1 := by rw [cell_of_row w2 _ _ _ _ _ HB2.out]; rfl
  have e2 : w2.cell? ⟨w.heap.size, 2, none⟩ = some u2 := by rw [cell_of_row w2 _ _ _ _ _ HB2.out]; rfl
  have e3 : w2.cell? ⟨w.heap.size, 3, none⟩ = some u3 := by rw [cell_of_row w2 _ _ _ _ _ HB2.out]; rfl
  have e4 : w2.cell? ⟨w.heap.size, 4, none⟩ = some u4 := by rw [cell_of_row w2 _ _ _ _ _ HB2.out]; rfl
  have e5 : w2.cell? ⟨w.heap.size, 5, none⟩ = some u5 := by rw [cell_of_row w2 _ _ _ _ _ HB2.out]; rfl
  have e6 : w2.cell? ⟨w.heap.size, 6, none⟩ = some u6 := by rw [cell_of_row w2 _ _ _ _ _ HB2.out]; rfl
  clear m1
  go_wp2_with fail
  clear e0 e1 e2 e3 e4 e5 e6
  refine (q2 S _ _ _ (HU2.out.2 6 _ _ rfl rfl) (by have := HW.out; omega) (by have := HW.out; omega)).mono ?_
  rintro e w3 ⟨rfl, m2⟩
  have HU3 := hid (DrKs.mark HU2.out m2)
  have HM3 := hid (HM2.out.trans m2)
  clear m2
  go_wp2_with fail
  go_ret
  have hw := HW.out
  exact ⟨ret_int (by omega), HM3.out⟩
set_option maxHeartbeats 3200000 in
theorem markStm_u (x : Stm) : MarkVU Try.prog 12 (rS x) := by
  intro S w vs k h hS hk0 hw
  obtain ⟨u0, l0, rfl, hl0⟩ := len_cons h.1
  obtain ⟨u1, l1, rfl, hl1⟩ := len_cons hl0
  obtain ⟨u2, l2, rfl, hl2⟩ := len_cons hl1
  obtain ⟨u3, l3, rfl, hl3⟩ := len_cons hl2
  obtain ⟨u4, l4, rfl, hl4⟩ := len_cons hl3
  obtain ⟨u5, l5, rfl, hl5⟩ := len_cons hl4
  obtain ⟨u6, l6, rfl, hl6⟩ := len_cons hl5
  obtain ⟨u7, l7, rfl, hl7⟩ := len_cons hl6
  obtain ⟨u8, l8, rfl, hl8⟩ := len_cons hl7
  obtain rfl := len_zero hl8
  clear hl0 hl1 hl2 hl3 hl4 hl5 hl6 hl7 hl8
  have ew : wgtV (rS x) = wgtV (rC x.1) + (wgtV (rX x.2)) := rfl
  have em : mkV mTx k (rS x) = mkV mTx (k) (rC x.1) ++ (mkV mTx (k + (wgtV (rC x.1) : Nat)) (rX x.2)) := rfl
  rw [ew] at hw ⊢
  rw [em]
  have q0 := hid (markAcc_u x.1)
  have q1 := hid (markEx_u x.2)
  have M0 := marked_of ((Below.refl w.heap.size w).alloc (Nat.le_refl _) (.cells #[u0, u1, u2, u3, u4, u5, u6, u7, u8] 42)) S
  have HM0 := hid M0; have HB := hid (heap_alloc_new w (.cells #[u0, u1, u2, u3, u4, u5, u6, u7, u8] 42))
  have HS := hid hS
  have HU0 := hid (h.fwd ((Below.refl w.heap.size w).alloc (Nat.le_refl _) (.cells #[u0, u1, u2, u3, u4, u5, u6, u7, u8] 42)))
  have HW := hid hw; clear hw
  clear h hS M0 ew em
  go_enter Try.func12, Try.ntmps12
  go_wp2_with fail
  obtain ⟨T0, d0, s0, p0⟩ := DrUs.span (a := []) (m := [dS x.1.1, dAs x.1.2]) (c := [dI x.2.k, dI x.2.n, dIs x.2.i.1, dI x.2.i.2, dS x.2.r.1, dAs x.2.r.2, dEs x.2.ks]) (va := []) (vm := [u0, u1]) (vc := [u2, u3, u4, u5, u6, u7, u8]) HU0.out rfl rfl
  refine (q0.out T0 _ [u0, u1] _ d0 (fun b hb => Nat.lt_of_lt_of_le (HS.out b (s0 b hb)) HM0.out.size) (by have := HW.out; omega) (by have := HW.out; omega)).mono ?_
  rintro e w1 ⟨rfl, m0, y0⟩
  have HU1 := hid (p0 _ (mkV mTx (k) (rC x.1)) rfl m0 y0)
  have HM1 := hid (HM0.out.trans (m0.sub s0))
  have HB1 := hid ((m0.old w.heap.size (by simp) (fun h => absurd (HS.out _ (s0 _ h)) (by omega))).trans HB.out)
  have e0 : w1.cell? ⟨w.heap.size, 0, none⟩ = some u0 := by rw [cell_of_row w1 _ _ _ _ _ HB1.out]; rfl
  have e1 : w1.cell? ⟨w.heap.size, 1, none⟩ = some u1 := by rw [cell_of_row w1 _ _ _ _ _ HB1.out]; rfl
  have e2 : w1.cell? ⟨w.heap.size, 2, none⟩ = some u2 := by rw [cell_of_row w1 _ _ _ _ _ HB1.out]; rfl
  have e3 : w1.cell? ⟨w.heap.size, 3, none⟩ = some u3 := by rw [cell_of_row w1 _ _ _ _ _ HB1.out]; rfl
  have e4 : w1.cell? ⟨w.heap.size, 4, none⟩ = some u4 := by rw [cell_of_row w1 _ _ _ _ _ HB1.out]; rfl
  have e5 : w1.cell? ⟨w.heap.size, 5, none⟩ = some u5 := by rw [cell_of_row w1 _ _ _ _ _ HB1.out]; rfl
  have e6 : w1.cell? ⟨w.heap.size, 6, none⟩ = some u6 := by rw [cell_of_row w1 _ _ _ _ _ HB1.out]; rfl
  have e7 : w1.cell? ⟨w.heap.size, 7, none⟩ = some u7 := by rw [cell_of_row w1 _ _ _ _ _ HB1.out]; rfl
  have e8 : w1.cell? ⟨w.heap.size, 8, none⟩ = some u8 := by rw [cell_of_row w1 _ _ _ _ _ HB1.out]; rfl
  clear m0 y0 p0 d0
  go_wp2_with fail
  clear e0 e1 e2 e3 e4 e5 e6 e7 e8
  obtain ⟨T1, d1, s1, p1⟩ := DrUs.span (a := [dS x.1.1, mkD mTx (k) (dAs x.1.2)]) (m := [dI x.2.k, dI x.2.n, dIs x.2.i.1, dI x.2.i.2, dS x.2.r.1, dAs x.2.r.2, dEs x.2.ks]) (c := []) (va := [u0, u1]) (vm := [u2, u3, u4, u5, u6, u7, u8]) (vc := []) HU1.out rfl rfl
  refine (q1.out T1 _ [u2, u3, u4, u5, u6, u7, u8] _ d1 (fun b hb => Nat.lt_of_lt_of_le (HS.out b (s1 b hb)) HM1.out.size) (by have := HW.out; omega) (by have := HW.out; omega)).mono ?_
  rintro e w2 ⟨rfl, m1, y1⟩
  have HU2 := hid (p1 _ (mkV mTx (k + (wgtV (rC x.1) : Nat)) (rX x.2)) rfl m1 y1)
  have HM2 := hid (HM1.out.trans (m1.sub s1))
  clear m1 y1 p1 d1
  go_wp2_with fail
  go_ret
  have hw := HW.out
  exact ⟨ret_int (by omega), HM2.out, HU2.out⟩
set_option maxHeartbeats 3200000 in
theorem markStm_k (x : Stm) : MarkVK Try.prog 12 (rS x) := by
  intro S w vs k h hS hk0 hw
  obtain ⟨u0, l0, rfl, hl0⟩ := len_cons h.1
  obtain ⟨u1, l1, rfl, hl1⟩ := len_cons hl0
  obtain ⟨u2, l2, rfl, hl2⟩ := len_cons hl1
  obtain ⟨u3, l3, rfl, hl3⟩ := len_cons hl2
  obtain ⟨u4, l4, rfl, hl4⟩ := len_cons hl3
  obtain ⟨u5, l5, rfl, hl5⟩ := len_cons hl4
  obtain ⟨u6, l6, rfl, hl6⟩ := len_cons hl5
  obtain ⟨u7, l7, rfl, hl7⟩ := len_cons hl6
  obtain ⟨u8, l8, rfl, hl8⟩ := len_cons hl7
  obtain rfl := len_zero hl8
  clear hl0 hl1 hl2 hl3 hl4 hl5 hl6 hl7 hl8
  have ew : wgtV (rS x) = wgtV (rC x.1) + (wgtV (rX x.2)) := rfl
  rw [ew] at hw ⊢
  have q0 := hid (markAcc_k x.1)
  have q1 := hid (markEx_k x.2)
  have M0 := marked_of ((Below.refl w.heap.size w).alloc (Nat.le_refl _) (.cells #[u0, u1, u2, u3, u4, u5, u6, u7, u8] 42)) S
  have HM0 := hid M0; have HB := hid (heap_alloc_new w (.cells #[u0, u1, u2, u3, u4, u5, u6, u7, u8] 42))
  have HS := hid hS
  have HU0 := hid (DrKs.mark h M0)
  have HW := hid hw; clear hw
  clear h hS M0 ew
  go_enter Try.func12, Try.ntmps12
  go_wp2_with fail
  refine (q0.out S _ [u0, u1] _ (DrKs.span (a := []) (m := [dS x.1.1, dAs x.1.2]) (c := [dI x.2.k, dI x.2.n, dIs x.2.i.1, dI x.2.i.2, dS x.2.r.1, dAs x.2.r.2, dEs x.2.ks]) (va := []) (vm := [u0, u1]) (vc := [u2, u3, u4, u5, u6, u7, u8]) HU0.out rfl rfl) (fun b hb => Nat.lt_of_lt_of_le (HS.out b hb) HM0.out.size) (by have := HW.out; omega) (by have := HW.out; omega)).mono ?_
  rintro e w1 ⟨rfl, m0⟩
  have HU1 := hid (DrKs.mark HU0.out m0)
  have HM1 := hid (HM0.out.trans m0)
  have HB1 := hid ((m0.old w.heap.size (by simp) (fun h => absurd (HS.out _ h) (by omega))).trans HB.out)
  have e0 : w1.cell? ⟨w.heap.size, 0, none⟩ = some u0 := by rw [cell_of_row w1 _ _ _ _ _ HB1.out]; rfl
  have e1 : w1.cell? ⟨w.heap.size, 1, none⟩ = some u1 := by rw [cell_of_row w1 _ _ _ _ _ HB1.out]; rfl
  have e2 : w1.cell? ⟨w.heap.size, 2, none⟩ = some u2 := by rw [cell_of_row w1 _ _ _ _ _ HB1.out]; rfl
  have e3 : w1.cell? ⟨w.heap.size, 3, none⟩ = some u3 := by rw [cell_of_row w1 _ _ _ _ _ HB1.out]; rfl
  have e4 : w1.cell? ⟨w.heap.size, 4, none⟩ = some u4 := by rw [cell_of_row w1 _ _ _ _ _ HB1.out]; rfl
  have e5 : w1.cell? ⟨w.heap.size, 5, none⟩ = some u5 := by rw [cell_of_row w1 _ _ _ _ _ HB1.out]; rfl
  have e6 : w1.cell? ⟨w.heap.size, 6, none⟩ = some u6 := by rw [cell_of_row w1 _ _ _ _ _ HB1.out]; rfl
  have e7 : w1.cell? ⟨w.heap.size, 7, none⟩ = some u7 := by rw [cell_of_row w1 _ _ _ _ _ HB1.out]; rfl
  have e8 : w1.cell? ⟨w.heap.size, 8, none⟩ = some u8 := by rw [cell_of_row w1 _ _ _ _ _ HB1.out]; rfl
  clear m0
  go_wp2_with fail
  clear e0 e1 e2 e3 e4 e5 e6 e7 e8
  refine (q1.out S _ [u2, u3, u4, u5, u6, u7, u8] _ (DrKs.span (a := [dS x.1.1, dAs x.1.2]) (m := [dI x.2.k, dI x.2.n, dIs x.2.i.1, dI x.2.i.2, dS x.2.r.1, dAs x.2.r.2, dEs x.2.ks]) (c := []) (va := [u0, u1]) (vm := [u2, u3, u4, u5, u6, u7, u8]) (vc := []) HU1.out rfl rfl) (fun b hb => Nat.lt_of_lt_of_le (HS.out b hb) HM1.out.size) (by have := HW.out; omega) (by have := HW.out; omega)).mono ?_
  rintro e w2 ⟨rfl, m1⟩
  have HU2 := hid (DrKs.mark HU1.out m1)
  have HM2 := hid (HM1.out.trans m1)
  clear m1
  go_wp2_with fail
  go_ret
  have hw := HW.out
  exact ⟨ret_int (by omega), HM2.out⟩
theorem heldInts {xs : List Int} (h : xs.length ≤ 17592186044416) : HeldF Try.prog 92 (dIs xs) := fun k h0 h1 => heldIntS_u (xs.map rI) (fun r hr => by obtain ⟨z, _, rfl⟩ := List.mem_map.1 hr; exact ⟨z, rfl⟩) h0 h1 (by rw [List.length_map]; exact h)
theorem heldAffs {l : List Aff} (h : szAs l ≤ 1073741824) : HeldF Try.prog 70 (dAs l) := fun k h0 h1 => heldAffineS_u (l.map rA) (fun r hr => by obtain ⟨a, ha, rfl⟩ := List.mem_map.1 hr; exact ⟨_, _, rfl, heldInts (by have := szAs_mem ha; omega)⟩) h0 h1 (by rw [List.length_map]; have := szAs_len l; omega)
theorem heldExs : ∀ (m : Nat) {l : List Ex}, (∀ e ∈ l, szE e < m) → l.length ≤ 1073741824 → szEs l ≤ 1073741824 → HeldF Try.prog 72 (dEs l)
  | 0, l, h, hl, hz => fun k h0 h1 => heldExprS_u (l.map rE) (fun r hr => by obtain ⟨e, he, rfl⟩ := List.mem_map.1 hr; exact absurd (h e he) (by omega)) h0 h1 (by rw [List.length_map]; omega)
  | m + 1, l, h, hl, hz => fun k h0 h1 => heldExprS_u (l.map rE) (fun r hr => by
    obtain ⟨e, he, rfl⟩ := List.mem_map.1 hr
    have h1 := h e he
    have h2 := szEs_mem he
    rw [szE_eq] at h1 h2
    have h3 : szAs e.r.2 ≤ szC e.r := by rw [szC]; omega
    rw [rE_eq]
    exact ⟨_, _, _, _, _, _, _, rfl, heldInts (by omega), heldAffs (by omega), heldExs m (fun x hx => by have := szEs_mem hx; have := List.length_pos_of_mem hx; omega) (by omega) (by omega)⟩) h0 h1 (by rw [List.length_map]; omega)

theorem heldAff_fn (x : Aff) (hl : x.1.length ≤ 17592186044416) {k : Int} (hk0 : 0 ≤ k) (hk1 : k + ((wgt (dIs x.1) : Nat)) ≤ 4611686018427387904) : Fn Try.prog 71 [] [ad [mkD mTx k (dIs x.1), dI x.2], nat1 k] (.o (nat1 (k + (wgt (dIs x.1) : Nat)))) [] := by
  refine Fn.code0 Try.func71 rfl rfl rfl rfl ?_
  refine .seq <| .region <| .cons (St1.boxP rfl rfl rfl rfl rfl rfl) <| .cons (.asg rfl rfl) <| .nil <| ks_n <| .seq <| .region <| .cons (.fP 0 0 false rfl rfl) <| .cons (.l1 1 rfl rfl) <| .cons (.mv rfl rfl) <| .cons (.cP [.tmp 6, .tmp 7] rfl rfl rfl rfl (heldInts hl k hk0 hk1) rfl) ?_
  refine .cons (.asg rfl rfl) <| .nil <| ks_n <| .seq <| .seq <| .region <| .cons (.mv rfl rfl) <| .cons (.ls rfl rfl rfl) <| .nil <| ks_n ?_
  refine .cD rfl (fun h10 => ?_) (fun h10 => ?_)
  · skip
    omega
  · skip
    refine .skip <| ks_n <| .seq <| .region <| .cons (.mv rfl rfl) <| .cons (.asg rfl rfl) <| .nil <| ks_n <| .ret ?_
    refine kf_ret rfl ?_ nobox
    rfl

theorem heldAcc_fn (x : Acc) (hl : szAs x.2 ≤ 1073741824) {k : Int} (hk0 : 0 ≤ k) (hk1 : k + ((wgt (dAs x.2) : Nat)) ≤ 4611686018427387904) : Fn Try.prog 39 [] [ad [dS x.1, mkD mTx k (dAs x.2)], nat1 k] (.o (nat1 (k + (wgt (dAs x.2) : Nat)))) [] := by
  refine Fn.code0 Try.func39 rfl rfl rfl rfl ?_
  refine .seq <| .region <| .cons (St1.boxP rfl rfl rfl rfl rfl rfl) <| .cons (.asg rfl rfl) <| .nil <| ks_n <| .seq <| .region <| .cons (.fP 1 0 false rfl rfl) <| .cons (.l1 1 rfl rfl) <| .cons (.mv rfl rfl) <| .cons (.cP [.tmp 6, .tmp 7] rfl rfl rfl rfl (heldAffs hl k hk0 hk1) rfl) ?_
  refine .cons (.asg rfl rfl) <| .nil <| ks_n <| .seq <| .seq <| .region <| .cons (.mv rfl rfl) <| .cons (.ls rfl rfl rfl) <| .nil <| ks_n ?_
  refine .cD rfl (fun h10 => ?_) (fun h10 => ?_)
  · skip
    omega
  · skip
    refine .skip <| ks_n <| .seq <| .region <| .cons (.mv rfl rfl) <| .cons (.asg rfl rfl) <| .nil <| ks_n <| .ret ?_
    refine kf_ret rfl ?_ nobox
    rfl

theorem heldEx_fn (x : Ex) (hl : szE x ≤ 1073741824) {k : Int} (hk0 : 0 ≤ k) (hk1 : k + ((wgt (dIs x.i.1) : Nat) + (wgt (dAs x.r.2) : Nat) + (wgt (dEs x.ks) : Nat)) ≤ 4611686018427387904) : Fn Try.prog 40 [] [ad [dI x.k, dI x.n, mkD mTx (k) (dIs x.i.1), dI x.i.2, dS x.r.1, mkD mTx (k + (wgt (dIs x.i.1) : Nat)) (dAs x.r.2), mkD mTx (k + (wgt (dIs x.i.1) : Nat) + (wgt (dAs x.r.2) : Nat)) (dEs x.ks)], nat1 k] (.o (nat1 (k + (wgt (dIs x.i.1) : Nat) + (wgt (dAs x.r.2) : Nat) + (wgt (dEs x.ks) : Nat)))) [] := by
  have hz := szE_eq x
  have hz2 : szAs x.r.2 ≤ szC x.r := by rw [szC]; omega
  refine Fn.code0 Try.func40 rfl rfl rfl rfl ?_
  refine .seq <| .region <| .cons (St1.boxP rfl rfl rfl rfl rfl rfl) <| .cons (.asg rfl rfl) <| .nil <| ks_n <| .seq <| .region <| .cons (.fP 2 1 true rfl rfl) <| .cons (.lN 2 rfl rfl rfl) <| .cons (.mv rfl rfl) <| .cons (.cP [.tmp 6, .tmp 7] rfl rfl rfl rfl (heldAff_fn x.i (by omega) hk0 (by omega)) rfl) ?_
  refine .cons (.asg rfl rfl) <| .nil <| ks_n <| .seq <| .seq <| .region <| .cons (.mv rfl rfl) <| .cons (.ls rfl rfl rfl) <| .nil <| ks_n ?_
  refine .cD rfl (fun h10 => ?_) (fun h10 => ?_)
  · skip
    omega
  · skip
    refine .skip <| ks_n <| .seq <| .region <| .cons (.fP 4 1 true rfl rfl) <| .cons (.lN 2 rfl rfl rfl) <| .cons (.mv rfl rfl) <| .cons (.cP [.tmp 12, .tmp 13] rfl rfl rfl rfl (heldAcc_fn x.r (by omega) (by omega) (by omega)) rfl) ?_
    refine .cons (.asg rfl rfl) <| .nil <| ks_n <| .seq <| .seq <| .region <| .cons (.mv rfl rfl) <| .cons (.ls rfl rfl rfl) <| .nil <| ks_n ?_
    refine .cD rfl (fun h16 => ?_) (fun h16 => ?_)
    · skip
      omega
    · skip
      refine .skip <| ks_n <| .seq <| .region <| .cons (.fP 6 0 false rfl rfl) <| .cons (.l1 1 rfl rfl) <| .cons (.mv rfl rfl) <| .cons (.cP [.tmp 18, .tmp 19] rfl rfl rfl rfl (heldExs (szE x) (fun e he => by have := szEs_mem he; have := List.length_pos_of_mem he; omega) (by omega) (by omega) _ (by omega) (by omega)) rfl) ?_
      refine .cons (.asg rfl rfl) <| .nil <| ks_n <| .seq <| .seq <| .region <| .cons (.mv rfl rfl) <| .cons (.ls rfl rfl rfl) <| .nil <| ks_n ?_
      refine .cD rfl (fun h22 => ?_) (fun h22 => ?_)
      · skip
        omega
      · skip
        refine .skip <| ks_n <| .seq <| .region <| .cons (.mv rfl rfl) <| .cons (.asg rfl rfl) <| .nil <| ks_n <| .ret ?_
        refine kf_ret rfl ?_ nobox
        rfl

theorem heldStm_fn (x : Stm) (hl : szS x ≤ 1073741824) {k : Int} (hk0 : 0 ≤ k) (hk1 : k + ((wgt (dAs x.1.2) : Nat) + ((wgt (dIs x.2.i.1) : Nat) + (wgt (dAs x.2.r.2) : Nat) + (wgt (dEs x.2.ks) : Nat))) ≤ 4611686018427387904) : Fn Try.prog 14 [] [ad [dS x.1.1, mkD mTx k (dAs x.1.2), dI x.2.k, dI x.2.n, mkD mTx (k + (wgt (dAs x.1.2) : Nat)) (dIs x.2.i.1), dI x.2.i.2, dS x.2.r.1, mkD mTx (k + (wgt (dAs x.1.2) : Nat) + (wgt (dIs x.2.i.1) : Nat)) (dAs x.2.r.2), mkD mTx (k + (wgt (dAs x.1.2) : Nat) + (wgt (dIs x.2.i.1) : Nat) + (wgt (dAs x.2.r.2) : Nat)) (dEs x.2.ks)], nat1 k] (.o (nat1 (k + (wgt (dAs x.1.2) : Nat) + ((wgt (dIs x.2.i.1) : Nat)) + ((wgt (dAs x.2.r.2) : Nat)) + ((wgt (dEs x.2.ks) : Nat))))) [] := by
  have hz : szS x = szC x.1 + szE x.2 := by rw [szS]
  have hz2 : szAs x.1.2 ≤ szC x.1 := by rw [szC]; omega
  refine Fn.code0 Try.func14 rfl rfl rfl rfl ?_
  refine .seq <| .region <| .cons (St1.boxP rfl rfl rfl rfl rfl rfl) <| .cons (.asg rfl rfl) <| .nil <| ks_n <| .seq <| .region <| .cons (.fP 0 1 true rfl rfl) <| .cons (.lN 2 rfl rfl rfl) <| .cons (.mv rfl rfl) <| .cons (.cP [.tmp 6, .tmp 7] rfl rfl rfl rfl (heldAcc_fn x.1 (by omega) hk0 (by omega)) rfl) ?_
  refine .cons (.asg rfl rfl) <| .nil <| ks_n <| .seq <| .seq <| .region <| .cons (.mv rfl rfl) <| .cons (.ls rfl rfl rfl) <| .nil <| ks_n ?_
  refine .cD rfl (fun h10 => ?_) (fun h10 => ?_)
  · skip
    omega
  · skip
    refine .skip <| ks_n <| .seq <| .region <| .cons (.fP 2 6 true rfl rfl) <| .cons (.lN 7 rfl rfl rfl) <| .cons (.mv rfl rfl) <| .cons (.cP [.tmp 12, .tmp 13] rfl rfl rfl rfl (heldEx_fn x.2 (by omega) (by omega) (by omega)) rfl) ?_
    refine .cons (.asg rfl rfl) <| .nil <| ks_n <| .seq <| .seq <| .region <| .cons (.mv rfl rfl) <| .cons (.ls rfl rfl rfl) <| .nil <| ks_n ?_
    refine .cD rfl (fun h16 => ?_) (fun h16 => ?_)
    · skip
      omega
    · skip
      refine .skip <| ks_n <| .seq <| .region <| .cons (.mv rfl rfl) <| .cons (.asg rfl rfl) <| .nil <| ks_n <| .ret ?_
      refine kf_ret rfl ?_ nobox
      rfl

theorem wgtV_S (x : Stm) : wgtV (rS x) = wgt (dAs x.1.2) + (wgt (dIs x.2.i.1) + (wgt (dAs x.2.r.2) + wgt (dEs x.2.ks))) := rfl
/-- What is held of a marked statement. -/
theorem heldS_fn (x : Stm) (hl : szS x ≤ 1073741824) (hk : wgtV (rS x) ≤ 4611686018427387000) : Fn Try.prog 14 [] [ad (mkV mTx 1 (rS x)), nat1 1] (.o (nat1 (1 + (wgtV (rS x) : Nat)))) [] := by
  have e := wgtV_S x
  have h := heldStm_fn x hl (k := 1) (by omega) (by omega)
  have e2 : (1 : Int) + (wgtV (rS x) : Nat) = 1 + (wgt (dAs x.1.2) : Nat) + (wgt (dIs x.2.i.1) : Nat) + (wgt (dAs x.2.r.2) : Nat) + (wgt (dEs x.2.ks) : Nat) := by rw [e]; omega
  rw [e2]
  exact h
theorem take_eq_step {xs ys : List Int} {k : Nat} (hk : xs.take k = ys.take k) (h1 : k < xs.length) (h2 : k < ys.length) (h : xs.getD k 0 = ys.getD k 0) : xs.take (k+1) = ys.take (k+1) := by
  rw [List.take_succ_eq_append_getElem h1, List.take_succ_eq_append_getElem h2, hk]
  simp only [List.getD, List.getElem?_eq_getElem h1, List.getElem?_eq_getElem h2, Option.getD_some] at h
  rw [h]
theorem ne_of_getD {xs ys : List Int} {k : Nat} (h : ¬ xs.getD k 0 = ys.getD k 0) : xs ≠ ys := fun e => h (by rw [e])

set_option maxHeartbeats 400000 in
theorem eqIntS_len (a b : Option Addr) (m c1 n c2 : Nat) (w : World) (h : m ≠ n) :
    Calls Try.prog 11 #[.slice a m c1, .slice b n c2] w fun e w' => e = .returned (.bool false) ∧ w = w' := by
  have hne : (((m : Int) != (n : Int)) = true) := by simp; omega
  go_enter Try.func11, Try.ntmps11
  go_wp2
  go_ret
  exact ⟨rfl, rfl⟩

set_option maxHeartbeats 400000 in
theorem eqIntS_same (a b : Option Addr) (n c1 c2 : Nat) (xs ys : List Int) (w : World) (hx : IntsA w a n c1 xs) (hy : IntsA w b n c2 ys) :
    Calls Try.prog 11 #[.slice a n c1, .slice b n c2] w fun e w' => e = .returned (.bool (decide (xs = ys))) ∧ Quiet w w' := by
  have hle := hx.le
  go_enter Try.func11, Try.ntmps11
  go_wp2
  go_loopw [5] (fun i wr => ∃ k : Nat, k ≤ n ∧ i = .int .i64 k ∧ xs.take k = ys.take k ∧ Quiet w wr) (fun i _ => n - (intOf i).toNat)
  case atStart => exact ⟨0, Nat.zero_le _, rfl, by simp, Quiet.refl w⟩
  case round =>
    obtain ⟨k, hk, rfl, ht, hq⟩ := hrel
    have Ht := hid ht; clear ht
    by_cases hlt : k < n
    · obtain ⟨ba, oa, ha, _, hca⟩ := hx.at (by omega)
      obtain ⟨bb, ob, hb, _, hcb⟩ := hy.at (by omega)
      rw [ha, hb]
      have h1 : wr.cell? _ = _ := (hq.cell _).trans (hca k hlt)
      have h2 : wr.cell? _ = _ := (hq.cell _).trans (hcb k hlt)
      clear hca hcb ha hb
      go_wp2
      go_quiet (fail)
      go_wp2
      · have hne := ‹(xs[k]?.getD 0 != ys[k]?.getD 0) = true›
        go_ret
        exact ⟨ret_bool (by rw [bne_iff_ne] at hne; exact (decide_eq_false (ne_of_getD hne)).symm), hq.drewN⟩
      · have he := ‹(xs[k]?.getD 0 != ys[k]?.getD 0) = false›
        exact ⟨⟨k + 1, by omega, rfl, take_eq_step Ht.out (by rw [hx.1]; omega) (by rw [hy.1]; omega) (by simpa [bne_eq_false_iff_eq] using he), hq.drewN⟩, by simp [intOf]; omega⟩
    · have : k = n := by omega
      subst this
      go_wp2
      go_ret
      exact ⟨ret_bool (by have h := Ht.out; rw [List.take_of_length_le (by rw [hx.1]; omega), List.take_of_length_le (by rw [hy.1]; omega)] at h; exact (decide_eq_true h).symm), hq⟩

/-- Whatever the lengths. -/
theorem eqIntS_any (a b : Option Addr) (m n c1 c2 : Nat) (xs ys : List Int) (w : World) (hx : IntsA w a m c1 xs) (hy : IntsA w b n c2 ys) :
    Calls Try.prog 11 #[.slice a m c1, .slice b n c2] w fun e w' => e = .returned (.bool (decide (xs = ys))) ∧ Quiet w w' := by
  by_cases h : m = n
  · subst h; exact eqIntS_same a b m c1 c2 xs ys w hx hy
  · refine (eqIntS_len a b m c1 n c2 w h).mono ?_
    rintro e w' ⟨rfl, rfl⟩
    exact ⟨ret_bool (decide_eq_false (fun e => h (by rw [← hx.1, ← hy.1, e]))).symm, Quiet.refl _⟩
theorem OwnS.set {w : World} {B g n c : Nat} {xs : List Int} (h : OwnS w B (.slice (some ⟨g, 0, none⟩) n c) xs) (j : Nat) (x : Int) :
    OwnS (w.setCell ⟨g, j, none⟩ (.int .i64 x)) B (.slice (some ⟨g, 0, none⟩) n c) (xs.set j x) ∧ w.grownBy (w.setCell ⟨g, j, none⟩ (.int .i64 x)) (some g) := by
  have hn : xs.length = n := by
    rcases h.2 with ⟨e, _⟩ | ⟨_, _, _, e, _⟩
    · simp at e
    · simp at e; exact e.2.1.symm
  subst hn
  have := World.ownsRow.stored h j (.int .i64 x)
  refine ⟨?_, this.2⟩
  unfold OwnS
  rw [List.length_set, List.map_set]
  exact this.1
theorem OwnS.len {w : World} {B n c : Nat} {a : Option Addr} {xs : List Int} (h : OwnS w B (.slice a n c) xs) : xs.length = n := by
  rcases h.2 with ⟨e, h0⟩ | ⟨_, _, _, e, _⟩
  · simp at e; omega
  · simp at e; exact e.2.1.symm
theorem OwnS.at {w : World} {B n c : Nat} {a : Option Addr} {xs : List Int} (h : OwnS w B (.slice a n c) xs) (hn : 0 < n) :
    ∃ g, a = some ⟨g, 0, none⟩ ∧ B ≤ g ∧ g < w.heap.size ∧ n ≤ c ∧ (∀ j, j < n → w.cell? ⟨g, j, none⟩ = some (.int .i64 (xs.getD j 0))) ∧ ∀ j, w.frozen? ⟨g, j, none⟩ = false := by
  have hl := h.len
  have h0 := h
  rcases h.2 with ⟨e, h1⟩ | ⟨g, cap, cur, e, hB, hg, hnc, _⟩
  · simp at e; omega
  · have ha : a = some ⟨g, 0, none⟩ := by simp at e; exact e.1
    have hc : c = cap := by simp at e; exact e.2.2
    subst ha hc
    unfold OwnS at h0
    rw [hl] at h0
    exact ⟨g, rfl, hB, (Array.getElem?_eq_some_iff.1 hg).1, by omega, fun j hj => by rw [World.ownsRow.cellAt h0 j (by omega), List.getElem?_map, List.getD, List.getElem?_eq_getElem (by omega)]; rfl, fun j => World.ownsRow.frozenAt h0 j⟩

theorem OwnS.empty (w : World) {B : Nat} (hB : B ≤ w.heap.size) : OwnS (w.alloc (.cells #[] 3)) B (.slice (some ⟨w.heap.size, 0, none⟩) 0 0) [] :=
  World.ownsRow_made w #[] 0 hB (by unfold maxLen; omega) rfl
theorem OwnS.one (w : World) {B : Nat} (hB : B ≤ w.heap.size) (x : Int) : OwnS (w.alloc (.cells #[.int .i64 x] 3)) B (.slice (some ⟨w.heap.size, 0, none⟩) 1 1) [x] :=
  ⟨rfl, .inr ⟨w.heap.size, 1, _, rfl, hB, heap_alloc_new w _, Nat.le_refl _, by unfold maxLen; omega, rfl, rfl⟩⟩
end Go.Proofs.Ytollooimmfngjaa
namespace Go.Proofs.Ytollooimmfngjaa
set_option linter.unusedVariables false
set_option linter.unusedSimpArgs false
open Go.ChangeShapes Go.WideShapes Go.ChangeAt Go.RowKit
section
variable {H : Type} {enc : TypeId × Value → H} {P : Program} {w : World} {spare : Nat → Bool} {held : Bool} {t : TypeId} {α : Type} {f : α → List D} {ok : α → Prop} {v : Value} {dd : DataW H} {ps : List MemPlace}
theorem op_agg (hop : ∀ n, OpF enc P w spare held n t f ok) (h : DataW.Trod enc P w 0 spare held t v dd ps) (hw : ∀ m ∈ dd.weights P t, m ≤ reachBytes) (hv : ∃ cs, v = .agg cs) : ∃ a, ok a ∧ V1r (fun _ => (0, 0)) (Al (lk [])) (fun b => b < w.heap.size) w (ad (f a)) v := by
  obtain ⟨fuel, hf⟩ := h
  obtain ⟨cs, rfl⟩ := hv
  obtain ⟨a, h1, h2, h3⟩ := hop fuel fuel (Nat.le_refl _) _ _ hf hw
  refine ⟨a, h1, cs.toList, by simp, by rw [List.length_map]; exact h2, fun i c u hc hu => ?_⟩
  rw [List.getElem?_map] at hc
  cases hq : (f a)[i]? with
  | none => rw [hq] at hc; cases hc
  | some d => rw [hq] at hc; cases hc; exact h3 i d u hq hu
theorem op_one {d : α → D} (hop : ∀ n, OpF enc P w spare held n t (fun a => [d a]) ok) (h : DataW.Trod enc P w 0 spare held t v dd ps) (hw : ∀ m ∈ dd.weights P t, m ≤ reachBytes) (hv : v.cells = #[v]) : ∃ a, ok a ∧ V1r (fun _ => (0, 0)) (Al (lk [])) (fun b => b < w.heap.size) w (vD (d a)) v := by
  obtain ⟨fuel, hf⟩ := h
  obtain ⟨a, h1, h2, h3⟩ := hop fuel fuel (Nat.le_refl _) _ _ hf hw
  exact ⟨a, h1, h3 0 _ v rfl (by rw [hv]; rfl)⟩
theorem okWide_agg {r : Reach} {b0 : Nat} {fs : Array Field} (ht : P.underlying t = some (.struct fs)) (h : Value.okWide P w r b0 t v) : ∃ cs, v = .agg cs := by
  unfold Value.okWide at h
  rw [ht] at h
  obtain ⟨cs, e, _⟩ := h
  exact ⟨cs, e⟩
theorem vals1_mk {R : V1 → Value → Prop} {x : V1} {u : Value} (h : R x u) : Vals R [x] [u] := ⟨rfl, fun i y v hy hv => by
  match i, hy, hv with
  | 0, hy, hv => cases hy; cases hv; exact h⟩
theorem vals2_mk {R : V1 → Value → Prop} {x y : V1} {u v : Value} (h : R x u) (h2 : R y v) : Vals R [x, y] [u, v] := .cons h (vals1_mk h2)
end
end Go.Proofs.Ytollooimmfngjaa
namespace Go.Proofs.Ytollooimmfngjaa
set_option linter.unusedVariables false
set_option linter.unusedSimpArgs false
open Go.RowKit
abbrev bx0 : Nat → Nat × Nat := fun _ => (0, 0)
abbrev al0 : Nat → Prop := Al (lk [])
theorem no_al0 : ∀ k, ¬ al0 k := fun k ⟨e, sz, rows, h⟩ => by cases h
/-- What a call does that answers y and turns nothing. -/
theorem Fn.calls {P : Program} {f : FuncId} {args : List V1} {y : V} {vs : List Value} {w : World} {B : Nat → Prop} (h : Fn P f [] args y []) (hv : Vals (V1r bx0 al0 B w) args vs) :
    Calls P f vs.toArray w fun e w' => (∃ v B', e = .returned v ∧ Vr bx0 al0 B' w' y v) ∧ Below w.heap.size w w' := by
  refine (h B bx0 w vs ⟨fun k e sz rows h => (by cases h), fun k l hk => (no_al0 k hk).elim, fun k hk => (no_al0 k hk).elim⟩ hv).mono ?_
  rintro e w' ⟨v, bx', rfl, hp⟩
  refine ⟨⟨v, Baft bx' B w (lk []), rfl, hp.val.to (Same.refl _ _) (fun b hb _ => hb) (fun k _ hk => (no_al0 k hk).elim)⟩, hp.os, hp.tape, hp.output, hp.size, fun b hb => hp.old b hb fun k hk => (no_al0 k hk).elim⟩
theorem Fn.callsI {P : Program} {f : FuncId} {args : List V1} {z : Int} {vs : List Value} {w : World} {B : Nat → Prop} (h : Fn P f [] args (.o (nat1 z)) []) (hv : Vals (V1r bx0 al0 B w) args vs) :
    Calls P f vs.toArray w fun e w' => e = .returned (.int .i64 z) ∧ Below w.heap.size w w' := by
  refine (h.calls hv).mono ?_
  rintro e w' ⟨⟨v, B', rfl, hv⟩, hb⟩
  have hv : Dr _ w' (.val (.int .i64 z)) v := hv
  cases hv
  exact ⟨rfl, hb⟩
theorem Fn.callsB {P : Program} {f : FuncId} {args : List V1} {z : Bool} {vs : List Value} {w : World} {B : Nat → Prop} (h : Fn P f [] args (.o (bo1 z)) []) (hv : Vals (V1r bx0 al0 B w) args vs) :
    Calls P f vs.toArray w fun e w' => e = .returned (.bool z) ∧ Below w.heap.size w w' := by
  refine (h.calls hv).mono ?_
  rintro e w' ⟨⟨v, B', rfl, hv⟩, hb⟩
  have hv : Dr _ w' (.val (.bool z)) v := hv
  cases hv
  exact ⟨rfl, hb⟩
theorem Dr.ints {B : Nat → Prop} {w : World} {xs : List Int} {v : Value} (h : Dr B w (dIs xs) v) : ∃ a n c, v = .slice a n c ∧ n = xs.length ∧ IntsA w a n c xs := by
  have hat := @Dr.row B w
  rw [dIs] at h
  obtain ⟨ad, cap, rfl, h1, h2, _⟩ := h.slice
  rw [List.length_map] at h1 h2 h ⊢
  refine ⟨ad, _, cap, rfl, rfl, rfl, h1, h2, fun i hi => ?_⟩
  have hr : (xs.map rI)[i]? = some (rI xs[i]) := by rw [List.getElem?_map, List.getElem?_eq_getElem hi]; rfl
  obtain ⟨b, off, rfl⟩ := h.ba hr
  obtain ⟨u, hc, hd⟩ := h.row hr 0 (x := dI xs[i]) rfl (o := off + i) (by omega)
  refine ⟨b, off, rfl, ?_⟩
  cases hd
  rw [hc, List.getD, List.getElem?_eq_getElem hi]; rfl
theorem Marked.below {S : Nat → Prop} {w w' : World} {n : Nat} (h : Marked S w w') (hS : ∀ b, S b → n ≤ b) (hn : n ≤ w.heap.size) : Below n w w' :=
  ⟨h.os, h.tape, h.output, h.size, fun b hb => h.old b (by omega) fun hs => by have := hS b hs; omega⟩
theorem dec_self (xs : List Int) : decide (xs = xs) = true := by simp
section
variable {E : Env} {bx : Nat → Nat × Nat} {τ : Res → RC} {a : Act} {w : World}
/-- Of a slot something else is told. -/
theorem SR.tell (h : SR E bx τ a w) {t : Nat} {x : V} (hv : Vr bx (Al τ) (Bf E bx τ) w x (a.tmps.getD t undef)) (hr : ∀ k ∈ x.refs, τ (.u k) ≠ .no) : SR E bx (upd τ (.t t) (.v x)) a w := by
  have hbf := Bf_upd_t (E := E) (bx := bx) τ t (.v x)
  have hal := Al_upd_t τ t (.v x)
  refine ⟨fun s y ht => ?_, fun k e sz rows hk => ?_, by rw [hal]; exact h.inj, fun k hk => ?_, h.size, h.defers, by rw [hal]; exact h.own, h.mtl, by rw [hal]; exact h.ent, h.os, h.tape, h.output, h.hsize, h.old⟩
  · rw [hal, hbf]
    by_cases e : s = t
    · subst e
      rw [upd_same] at ht
      cases ht
      exact hv
    · rw [upd_other _ _ (by simpa using e)] at ht
      exact h.slot s y ht
  · rw [upd_other _ _ (by simp)] at hk
    rw [hal, hbf]
    exact h.box k e sz rows hk
  · rw [upd_other _ _ (by simp)] at hk
    obtain ⟨h1, h2, h3⟩ := h.unused k hk
    refine ⟨by rw [hal]; exact h1, fun s y ht => ?_, fun l e sz rows hl => ?_⟩
    · by_cases e : s = t
      · subst e
        rw [upd_same] at ht
        cases ht
        exact fun hm => hr k hm hk
      · rw [upd_other _ _ (by simpa using e)] at ht
        exact h2 s y ht
    · rw [upd_other _ _ (by simp)] at hl
      exact h3 l e sz rows hl
/-- Of one cell of a box something else is told. -/
theorem SR.tellB (h : SR E bx τ a w) {k0 : Nat} {e0 : TypeId} {sz0 : Nat} {rows0 : List (List C)} {i j : Nat} {r : List C} {d : D} (hk : τ (.b k0) = .b e0 sz0 rows0) (hi : rows0[i]? = some r) (hj : j < r.length)
    (hu : ∀ (cur : Array Value) u, w.heap[(bx k0).1]? = some (.cells cur e0 (0, 0)) → cur[i * sz0 + j]? = some u → Dr (Bf E bx τ) w d u) : SR E bx (upd τ (.b k0) (.b e0 sz0 (rows0.set i (r.set j (.d d))))) a w := by
  have hal : Al (upd τ (.b k0) (.b e0 sz0 (rows0.set i (r.set j (.d d))))) = Al τ := Al_upd_b ⟨e0, sz0, rows0, hk⟩
  have hbf : Bf E bx (upd τ (.b k0) (.b e0 sz0 (rows0.set i (r.set j (.d d))))) = Bf E bx τ := by funext b; simp only [Bf, hal]
  have hil := (List.getElem?_eq_some_iff.1 hi).1
  refine ⟨fun s y ht => ?_, fun k e sz rows hk' => ?_, by rw [hal]; exact h.inj, fun k hk' => ?_, h.size, h.defers, by rw [hal]; exact h.own, h.mtl, by rw [hal]; exact h.ent, h.os, h.tape, h.output, h.hsize, h.old⟩
  · rw [upd_other _ _ (by simp)] at ht
    rw [hal, hbf]; exact h.slot s y ht
  · rw [hal, hbf]
    by_cases e1 : k = k0
    · subst e1
      rw [upd_same] at hk'
      cases hk'
      obtain ⟨cur, h1, h2, h3, h4, h5⟩ := h.box k e0 sz0 rows0 hk
      refine ⟨cur, h1, h2, by rw [List.length_set]; exact h3, fun i' r' hi' => ?_, fun i' r' j' c hi' hj' => ?_⟩
      · rw [List.getElem?_set] at hi'
        by_cases e2 : i = i'
        · subst e2; rw [if_pos rfl, if_pos hil] at hi'; cases hi'; rw [List.length_set]; exact h4 i r hi
        · rw [if_neg e2] at hi'; exact h4 i' r' hi'
      · rw [List.getElem?_set] at hi'
        by_cases e2 : i = i'
        · subst e2; rw [if_pos rfl, if_pos hil] at hi'; cases hi'
          rw [List.getElem?_set] at hj'
          by_cases e3 : j = j'
          · subst e3; rw [if_pos rfl, if_pos hj] at hj'; cases hj'
            obtain ⟨u, h6, _⟩ := h5 i r j r[j] hi (List.getElem?_eq_getElem hj)
            exact ⟨u, h6, hu cur u h1 h6⟩
          · rw [if_neg e3] at hj'; exact h5 i r j' c hi hj'
        · rw [if_neg e2] at hi'; exact h5 i' r' j' c hi' hj'
    · rw [upd_other _ _ (by simpa using e1)] at hk'
      exact h.box k e sz rows hk'
  · rw [upd_other _ _ (by simp)] at hk'
    obtain ⟨h1, h2, h3⟩ := h.unused k hk'
    refine ⟨by rw [hal]; exact h1, fun s y ht => ?_, fun l e sz rows hl r' hr' c hc => ?_⟩
    · rw [upd_other _ _ (by simp)] at ht; exact h2 s y ht
    · by_cases e1 : l = k0
      · subst e1
        rw [upd_same] at hl
        cases hl
        rcases List.mem_or_eq_of_mem_set hr' with hr' | rfl
        · exact h3 l e0 sz0 rows0 hk r' hr' c hc
        · rcases List.mem_or_eq_of_mem_set hc with hc | rfl
          · exact h3 l e0 sz0 rows0 hk r (List.mem_of_getElem? hi) c hc
          · exact fun hm => by cases hm
      · rw [upd_other _ _ (by simpa using e1)] at hl
        exact h3 l e sz rows hl r' hr' c hc
end
/-- The positions that hold trees. -/
def isPos (rows : List (List D)) (i j : Nat) : Prop := ∃ r m rs, rows[i]? = some r ∧ r[j]? = some (.list m rs)
def plain (rows : List (List D)) : Prop := ∀ r ∈ rows, ∀ x ∈ r, noTree x = true
structure Pk (σ : St) (k : Nat) (F : Nat → Nat → Nat → Prop) (rows : List (List D)) (N : Nat → Prop) : Prop where
  fr : ∀ b, N b → (∃ i j, isPos rows i j ∧ F i j b) ∨ ∀ S, Has σ S → ¬ S b
section
variable {E : Env} {bx : Nat → Nat × Nat} {a : Act} {w : World} {σ : St} {k : Nat} {e : TypeId} {sz : Nat} {rows : List (List D)} {F : Nat → Nat → Nat → Prop}
theorem SR.tree (hs : SR E bx (lk σ) a w) (hb : lk σ (.b k) = .b e sz (dR (tagRs F 0 rows))) (hk : (Nat.ble 100 k && Nat.ble k 999) = true) (hp : plain rows) (hl : rows.length ≤ 17592186044416)
    (hd : ∀ i j i' j' b, isPos rows i j → isPos rows i' j' → F i j b → F i' j' b → i = i' ∧ j = j') :
    ∃ N, Pk σ k F rows N ∧ ∀ v, Cr bx (Al (lk σ)) (Bf E bx (lk σ)) w (.own k sz rows.length) v → Dr (Bf E bx (upd (lk σ) (.b k) .no)) w (.tree N (.list sz rows)) v := by
  rw [Bool.and_eq_true] at hk
  have hk1 := Nat.le_of_ble_eq_true hk.1
  have hk2 := Nat.le_of_ble_eq_true hk.2
  have hal : Al (lk σ) k := ⟨e, sz, _, hb⟩
  have hblk : ∀ S, Has σ S → ¬ S (bx k).1 := fun S hS h => (hs.has hS _ h).1.2 k hal rfl
  have hbf : ∀ b, Bf E bx (lk σ) b → Bf E bx (upd (lk σ) (.b k) .no) b := fun b h => ⟨h.1, fun l ⟨e', sz', rows', hl⟩ => by
    by_cases e1 : l = k
    · subst e1; rw [upd_same] at hl; cases hl
    · rw [upd_other _ _ (by simpa using e1)] at hl; exact h.2 l ⟨e', sz', rows', hl⟩⟩
  have hown : Bf E bx (upd (lk σ) (.b k) .no) (bx k).1 := ⟨.inr ((hs.own k hal).resolve_right fun h => by omega), fun l ⟨e', sz', rows', hl⟩ h => by
    by_cases e1 : l = k
    · subst e1; rw [upd_same] at hl; cases hl
    · rw [upd_other _ _ (by simpa using e1)] at hl
      exact e1 (hs.inj k l hal ⟨e', sz', rows', hl⟩ h).symm⟩
  have hhas : ∀ {i j}, isPos rows i j → Has σ (F i j) := fun {i j} ⟨r, m, rs, hr, hj⟩ => Has.rows hb hr hj
  obtain ⟨cur, c1, c2, c3, c4, c5⟩ := hs.box k e sz _ hb
  have hrow : ∀ {i : Nat} {r : List D}, rows[i]? = some r → r.length = sz := fun {i r} hr => by
    have := c4 i ((tagL (F i) 0 r).map C.d) (by rw [dR, List.getElem?_map, tagRs_at hr, Nat.zero_add]; rfl)
    rwa [List.length_map, tagL_len] at this
  have hcell : ∀ {i j : Nat} {r : List D} {x : D}, rows[i]? = some r → r[j]? = some x → ∃ u, cur[i * sz + j]? = some u ∧ Dr (Bf E bx (lk σ)) w (tg (F i j) x) u := fun {i j r x} hr hx => by
    obtain ⟨u, h1, h2⟩ := c5 i ((tagL (F i) 0 r).map C.d) j (.d (tg (F i j) x)) (by rw [dR, List.getElem?_map, tagRs_at hr, Nat.zero_add]; rfl) (by rw [List.getElem?_map, tagL_at hx, Nat.zero_add]; rfl)
    exact ⟨u, h1, h2⟩
  refine ⟨fun b => b = (bx k).1 ∨ ∃ i j, isPos rows i j ∧ F i j b, ⟨fun b hb => ?_⟩, fun v hv => ?_⟩
  · rcases hb with rfl | h
    · exact .inr hblk
    · exact .inl h
  · obtain ⟨cap, rfl, q1, q2, q3⟩ := hv.2 hal
    refine Dr.tree _ _ _ (fun b hb => ?_) (fun b hb => ?_) (DrU.list _ sz rows _ _ cap (bx k).1 0 (fun i j => cur.getD (i * sz + j) undef) (fun i j b => isPos rows i j ∧ F i j b) rfl q1 hl (fun h => by cases h) (fun _ => rfl) (fun i r hr => hrow hr) (fun i r j x hr hx => ?_) (fun i j c hc => ⟨.inr ⟨i, j, hc⟩, fun h => hblk _ (hhas hc.1) (h ▸ hc.2)⟩) (fun i j i' j' c h1 h2 => hd i j i' j' c h1.1 h2.1 h1.2 h2.2) (fun i r j x hr hx => ?_))
    · rcases hb with rfl | ⟨i, j, h1, h2⟩
      · exact hown
      · exact hbf _ (hs.has (hhas h1) b h2).1
    · rcases hb with rfl | ⟨i, j, h1, h2⟩
      · exact hs.lt hal
      · exact (hs.has (hhas h1) b h2).2
    · obtain ⟨u, h1, _⟩ := hcell hr hx
      refine ⟨.inl rfl, ?_, by simp [World.frozen?, c1]⟩
      rw [cell_of_row w _ _ _ _ _ c1, Nat.zero_add, h1, Array.getD_eq_getD_getElem?, h1]; rfl
    · obtain ⟨u, h1, h2⟩ := hcell hr hx
      rw [Array.getD_eq_getD_getElem?, h1, Option.getD_some]
      have hpx := hp r (List.mem_of_getElem? hr) x (List.mem_of_getElem? hx)
      cases x with
      | val v => cases h2; exact .val _ _ hpx
      | list m rs =>
        cases h2 with
        | tree _ _ _ _ _ h2 => exact h2.subS fun b hb => ⟨⟨r, m, rs, hr, hx⟩, hb⟩
      | tree S y => cases hpx
variable {P : Program} {n : Nat} {c : Code} {K : Exit → St → Prop}
/-- A slice of the own in a cell of a box becomes a tree. -/
theorem ACode.packB (k0 i j k : Nat) {e0 : TypeId} {sz0 : Nat} {rows0 : List (List C)} {r : List C} (h0 : lk σ (.b k0) = .b e0 sz0 rows0) (hne : Nat.beq k0 k = false) (hi : rows0[i]? = some r) (hj : r[j]? = some (.own k sz rows.length)) (hb : lk σ (.b k) = .b e sz (dR (tagRs F 0 rows))) (hp : plain rows) (hd : ∀ i j i' j' b, isPos rows i j → isPos rows i' j' → F i j b → F i' j' b → i = i' ∧ j = j') (hl : rows.length ≤ 17592186044416)
    (h : ∀ N, Pk σ k F rows N → ACode P n c K ((.b k0, .b e0 sz0 (rows0.set i (r.set j (.d (.tree N (.list sz rows)))))) :: (.b k, .no) :: σ)) (hk : (Nat.ble 100 k && Nat.ble k 999) = true := by rfl) : ACode P n c K σ := by
  intro E bx a w hE hs
  obtain ⟨N, h1, h2⟩ := hs.tree hb hk hp hl hd
  have hs1 := hs.kill k
  have hne' : k0 ≠ k := fun e => by subst e; simp at hne
  obtain ⟨cur, c1, _, _, _, c5⟩ := hs.box k0 e0 sz0 rows0 h0
  obtain ⟨u, u1, u2⟩ := c5 i r j _ hi hj
  have hs2 := hs1.tellB (d := .tree N (.list sz rows)) (k0 := k0) (by rw [upd_other _ _ (by simpa using hne')]; exact h0) hi (List.getElem?_eq_some_iff.1 hj).1 (fun cur' u' q1 q2 => by
    rw [c1] at q1
    cases q1
    rw [u1] at q2
    cases q2
    exact h2 u u2)
  rw [← lk_cons, ← lk_cons] at hs2
  exact h N h1 E bx a w hE hs2
end
/-- What the makers of a region made: (operation, column) to a set. -/
abbrev Rho := Nat → Nat → Nat → Prop
def setR (ρ : Rho) (i : Nat) (R : Nat → Nat → Prop) : Rho := fun k => if k = i then R else ρ k
theorem setR_same (ρ : Rho) (i : Nat) (R : Nat → Nat → Prop) : setR ρ i R i = R := if_pos rfl
theorem setR_other (ρ : Rho) {i k : Nat} (R : Nat → Nat → Prop) (h : k ≠ i) : setR ρ i R k = ρ k := if_neg h
/-- The slot that tells what operation i made. -/
abbrev ghR (i : Nat) : Res := .t (20000 + i)
def un (R : Nat → Nat → Prop) (b : Nat) : Prop := ∃ j, R j b
structure TrE where
  R : List Res
  W : List Res
  s : Rho → St
  mkr : Option ((Nat → Prop) × (Nat → Prop))
def trAt (tr : List TrE) (ρ : Rho) : List (List Res × List Res × St) := tr.map fun x => (x.R, x.W, x.s ρ)
def TStep (P : Program) (n : Nat) (ops : Array Oper) (o : Oper) (i : Nat) (σ : Rho → St) (R W : List Res) (σ' : Rho → St) (src : (Nat → Prop) × (Nat → Prop)) : Prop :=
  (∀ ρ r, r ∉ W → lk (σ' ρ) r = lk (σ ρ) r) ∧ ghR i ∈ W ∧ (∀ ρ, lk (σ' ρ) (ghR i) = .v (.gh (un (ρ i)))) ∧
  ∀ (ρ : Rho) (E : Env) (bx : Nat → Nat × Nat) (τ : Res → RC) (a : Act) (w : World), E.n = n → (∀ r ∈ R, τ r = lk (σ ρ) r) → SR E bx τ a w →
    OW P ops o a w fun a' w' => ∃ Rn : Nat → Nat → Prop, (∀ j b, Rn j b → src.1 b ∨ w.heap.size ≤ b) ∧ (∀ j k b, Rn j b → Rn k b → j = k) ∧ (∀ j b, Rn j b → src.2 j) ∧ ∃ bx', SR E bx' (ovr τ W (σ' (setR ρ i Rn))) a' w'
inductive RunR (P : Program) (n : Nat) (ops : Array Oper) : Nat → List Oper → (Rho → St) → List TrE → (Rho → St) → Prop
  | nil (i : Nat) (σ : Rho → St) : RunR P n ops i [] σ [] σ
  | cons {i : Nat} {o : Oper} {l : List Oper} {σ σ' σ'' : Rho → St} {R W : List Res} {tr : List TrE} (h : ∀ ρ, St1 P n ops o (σ ρ) R W (σ' ρ)) (k : RunR P n ops (i + 1) l σ' tr σ'') : RunR P n ops i (o :: l) σ (⟨R, W, σ', none⟩ :: tr) σ''
  | mk {i : Nat} {o : Oper} {l : List Oper} {σ σ' σ'' : Rho → St} {R W : List Res} {tr : List TrE} {src : (Nat → Prop) × (Nat → Prop)} (h : TStep P n ops o i σ R W σ' src) (k : RunR P n ops (i + 1) l σ' tr σ'') : RunR P n ops i (o :: l) σ (⟨R, W, σ', some src⟩ :: tr) σ''
def preR (σ0 : Rho → St) (tr : List TrE) : Nat → Rho → St
  | 0 => σ0
  | i + 1 => match tr[i]? with
    | some x => x.s
    | none => σ0
def StepOk (P : Program) (n : Nat) (ops : Array Oper) (o : Oper) (i : Nat) (σ : Rho → St) (x : TrE) : Prop :=
  match x.mkr with
  | none => ∀ ρ, St1 P n ops o (σ ρ) x.R x.W (x.s ρ)
  | some src => TStep P n ops o i σ x.R x.W x.s src
theorem RunR.at {P : Program} {n : Nat} {ops : Array Oper} {i : Nat} {l : List Oper} {σ0 σ1 : Rho → St} {tr : List TrE} (h : RunR P n ops i l σ0 tr σ1) : tr.length = l.length ∧ preR σ0 tr l.length = σ1 ∧
    ∀ (k : Nat) o, l[k]? = some o → ∃ x, tr[k]? = some x ∧ StepOk P n ops o (i + k) (preR σ0 tr k) x := by
  have hp : ∀ {x : TrE} {tr : List TrE} {σ : Rho → St} (j : Nat), j ≤ tr.length → preR σ (x :: tr) (j + 1) = preR x.s tr j := by
    intro x tr σ j hj
    cases j with
    | zero => rfl
    | succ j =>
      have hj' : j < tr.length := by omega
      simp [preR, hj']
  induction h with
  | nil i σ => exact ⟨rfl, rfl, fun k o h => by simp at h⟩
  | @cons i o l σ σ' σ'' R W tr h k ih =>
    obtain ⟨h1, h2, h3⟩ := ih
    refine ⟨by simp [h1], by rw [List.length_cons, hp _ (by omega)]; exact h2, fun q o' ho => ?_⟩
    cases q with
    | zero => simp only [List.getElem?_cons_zero, Option.some.injEq] at ho; subst ho; exact ⟨_, rfl, h⟩
    | succ q =>
      rw [List.getElem?_cons_succ] at ho
      obtain ⟨x, h4, h5⟩ := h3 q o' ho
      have hi : q < l.length := (List.getElem?_eq_some_iff.1 ho).1
      exact ⟨x, by rw [List.getElem?_cons_succ]; exact h4, by rw [hp _ (by omega), show i + (q + 1) = i + 1 + q by omega]; exact h5⟩
  | @mk i o l σ σ' σ'' R W tr src h k ih =>
    obtain ⟨h1, h2, h3⟩ := ih
    refine ⟨by simp [h1], by rw [List.length_cons, hp _ (by omega)]; exact h2, fun q o' ho => ?_⟩
    cases q with
    | zero => simp only [List.getElem?_cons_zero, Option.some.injEq] at ho; subst ho; exact ⟨_, rfl, h⟩
    | succ q =>
      rw [List.getElem?_cons_succ] at ho
      obtain ⟨x, h4, h5⟩ := h3 q o' ho
      have hi : q < l.length := (List.getElem?_eq_some_iff.1 ho).1
      exact ⟨x, by rw [List.getElem?_cons_succ]; exact h4, by rw [hp _ (by omega), show i + (q + 1) = i + 1 + q by omega]; exact h5⟩
theorem StepOk.same {P : Program} {n : Nat} {ops : Array Oper} {o : Oper} {i : Nat} {σ : Rho → St} {x : TrE} (h : StepOk P n ops o i σ x) (ρ : Rho) {r : Res} (hr : r ∉ x.W) : lk (x.s ρ) r = lk (σ ρ) r := by
  unfold StepOk at h
  split at h
  · exact (h ρ).1 r hr
  · exact h.1 ρ r hr
theorem cur_allR {P : Program} {n : Nat} {ops : Array Oper} {l : List Oper} {σ0 σ1 : Rho → St} {tr : List TrE} (h : RunR P n ops 0 l σ0 tr σ1) (ρ : Rho) {D : Nat → Bool} {i : Nat} (hi : i ≤ l.length) (hD : ∀ j, j < i → D j = true) (r : Res) :
    cur (σ0 ρ) (trAt tr ρ) D i r = lk (preR σ0 tr i ρ) r := by
  obtain ⟨h1, _, h3⟩ := h.at
  induction i with
  | zero => rfl
  | succ i ih =>
    obtain ⟨o, ho⟩ : ∃ o, l[i]? = some o := ⟨_, List.getElem?_eq_getElem (by omega)⟩
    obtain ⟨x, h4, h5⟩ := h3 i o ho
    have h6 : (trAt tr ρ)[i]? = some (x.R, x.W, x.s ρ) := by rw [trAt, List.getElem?_map, h4]; rfl
    simp only [cur, preR, h4, h6, hD i (by omega), true_and]
    split
    · rfl
    · rename_i hr
      rw [ih (by omega) (fun j hj => hD j (by omega))]
      exact (h5.same ρ hr).symm
/-- What a maker made is told by those alone that wait for it. -/
def Ind (ops : Array Oper) (tr : List TrE) : Prop := ∀ k y, tr[k]? = some y → ∀ i x, tr[i]? = some x → x.mkr ≠ none → bef ops ops.size k i = true ∨ k = i ∨ ∀ (ρ : Rho) (R : Nat → Nat → Prop), ∀ r ∈ y.W, lk (y.s (setR ρ i R)) r = lk (y.s ρ) r
/-- No other operation turns the slots that tell. -/
def Gho (tr : List TrE) : Prop := ∀ k y, tr[k]? = some y → (Res.t 9998) ∉ y.W ∧ ∀ i x, tr[i]? = some x → x.mkr ≠ none → k ≠ i → ghR i ∉ y.W
/-- What is known of what was made. -/
def Facts (U : Nat → Prop) (tr : List TrE) (ρ : Rho) (N : Nat → Nat → Prop) (D : Nat → Bool) : Prop := ∀ i x src, tr[i]? = some x → x.mkr = some src → D i = true →
  (∀ j b, ρ i j b → (src.1 b ∨ N i b) ∧ src.2 j) ∧ (∀ j k b, ρ i j b → ρ i k b → j = k) ∧ (∀ b, N i b → un (ρ i) b) ∧ (∀ b, N i b → ¬ U b) ∧ ∀ k y src', tr[k]? = some y → y.mkr = some src' → D k = true → k ≠ i → ∀ b, N i b → ¬ N k b
section
variable {P : Program} {n : Nat} {l : List Oper} {s0 : St} {σ1 : Rho → St} {tr : List TrE} {U : Nat → Prop}
theorem wpAny_runR (h : RunR P n l.toArray 0 l (fun _ => s0) tr σ1) (hc : ∀ ρ, chk l.toArray 0 (trAt tr ρ) = true) (he : edgesOk l.toArray 0 l = true) (hind : Ind l.toArray tr) (hgh : Gho tr) (hU : lk s0 (.t 9998) = .v (.gh U)) {E : Env} (hE : E.n = n) {Q : Exit → Act → World → Prop}
    (hQ : ∀ ρ N bx a w, Facts U tr ρ N (fun _ => true) → SR E bx (lk (σ1 ρ)) a w → Q .normal a w) : ∀ (fuel : Nat) (listed : Array Bool) (a : Act) (w : World), listed.size = l.length → listed.toList.count false = fuel →
    (∀ j o, l.toArray[j]? = some o → listed.getD j false = true → ∀ e ∈ o.after, Region.binds .any e = true → listed.getD e.on false = true) →
    (∃ ρ N bx, Facts U tr ρ N (fun i => listed.getD i false) ∧ SR E bx (cur s0 (trAt tr ρ) (fun i => listed.getD i false) l.length) a w) → wpAny P .any l.toArray Q fuel listed a w := by
  obtain ⟨hlen, hlast, hat⟩ := h.at
  have hat' : ∀ ρ {i : Nat} {x : TrE}, tr[i]? = some x → (trAt tr ρ)[i]? = some (x.R, x.W, x.s ρ) := fun ρ {i x} hx => by rw [trAt, List.getElem?_map, hx]; rfl
  have hof : ∀ ρ {j : Nat} {y : List Res × List Res × St}, (trAt tr ρ)[j]? = some y → ∃ x, tr[j]? = some x ∧ y = (x.R, x.W, x.s ρ) := fun ρ {j y} hy => by
    rw [trAt, List.getElem?_map] at hy
    cases hx : tr[j]? with
    | none => rw [hx] at hy; cases hy
    | some x => rw [hx] at hy; cases hy; exact ⟨x, rfl, rfl⟩
  have hfin : ∀ (listed : Array Bool) a w, listed.size = l.length → (∀ i, i < l.length → listed.getD i false = true) → (∃ ρ N bx, Facts U tr ρ N (fun i => listed.getD i false) ∧ SR E bx (cur s0 (trAt tr ρ) (fun i => listed.getD i false) l.length) a w) → Q .normal a w := by
    intro listed a w hs hall ⟨ρ, N, bx, hF, hsr⟩
    have : cur s0 (trAt tr ρ) (fun i => listed.getD i false) l.length = lk (σ1 ρ) := by
      funext r
      rw [show cur s0 (trAt tr ρ) (fun i => listed.getD i false) l.length r = lk (preR (fun _ => s0) tr l.length ρ) r from cur_allR h ρ (Nat.le_refl _) hall r, hlast]
    rw [this] at hsr
    refine hQ ρ N bx a w (fun i x src hx hm _ => ?_) hsr
    have hil : ∀ {i : Nat} {x : TrE}, tr[i]? = some x → listed.getD i false = true := fun {i x} hx => hall i (by have := (List.getElem?_eq_some_iff.1 hx).1; omega)
    obtain ⟨f1, f2, f3, f4, f5⟩ := hF i x src hx hm (hil hx)
    exact ⟨f1, f2, f3, f4, fun k y src' hy hm' _ => f5 k y src' hy hm' (hil hy)⟩
  intro fuel
  induction fuel with
  | zero =>
    intro listed a w hs hcount hdown hsr
    have hall : ∀ i, i < l.length → listed.getD i false = true := by
      intro i hi
      have hn : false ∉ listed.toList := List.count_eq_zero.1 hcount
      have hi' : i < listed.size := by omega
      cases e : listed[i] with
      | true => simp [hi', e]
      | false => exact absurd (by rw [← e]; exact Array.mem_toList_iff.2 (Array.getElem_mem hi')) hn
    refine ⟨?_, hfin listed a w hs hall hsr⟩
    apply List.eq_nil_iff_forall_not_mem.2
    intro j hj
    obtain ⟨h1, o, ho, _⟩ := mem_ready.1 hj
    have hj' : j < l.length := by have := (Array.getElem?_eq_some_iff.1 ho).1; simpa using this
    have := hall j hj'
    have hj2 : j < listed.size := by omega
    simp [hj2] at this h1
    rw [this] at h1; cases h1
  | succ fuel ih =>
    intro listed a w hs hcount hdown hsr
    refine ⟨fun hnil => ?_, fun i hi => ?_⟩
    · refine hfin listed a w hs ?_ hsr
      intro i
      induction i using Nat.strongRecOn with
      | _ i ih2 =>
        intro hi
        cases hli : listed.getD i false with
        | true => rfl
        | false =>
          exfalso
          obtain ⟨o, ho⟩ : ∃ o, l[i]? = some o := ⟨_, List.getElem?_eq_getElem hi⟩
          have hmem : i ∈ Region.ready .any l.toArray listed := by
            refine mem_ready.2 ⟨?_, o, by simpa using ho, fun e he' hb => ?_⟩
            · have hi2 : i < listed.size := by omega
              simp [hi2] at hli ⊢
              exact hli
            · have := edgesOk_at he i o ho e he' hb
              rw [Nat.zero_add] at this
              exact ih2 e.on this (by omega)
          rw [hnil] at hmem
          cases hmem
    · obtain ⟨hun, o, ho, hall⟩ := mem_ready.1 hi
      have ho' : l[i]? = some o := by simpa using ho
      have hil : i < l.length := (List.getElem?_eq_some_iff.1 ho').1
      have hil2 : i < listed.size := by omega
      have hunf : listed.getD i false = false := by simp [hil2] at hun ⊢; exact hun
      obtain ⟨x, h4, h5⟩ := hat i o ho'
      rw [Nat.zero_add] at h5
      obtain ⟨ρ, N, bx, hF, hsr⟩ := hsr
      have hlater : ∀ (ρ : Rho) j (y : List Res × List Res × St), i ≤ j → j < l.length → (trAt tr ρ)[j]? = some y → (meet x.W y.1 = true ∨ meet x.W y.2.1 = true ∨ meet x.R y.2.1 = true) → listed.getD j false = false := by
        intro ρ j y hij hj hy hm
        by_cases e : j = i
        · subst e; exact hunf
        · cases hl : listed.getD j false with
          | false => rfl
          | true =>
            exfalso
            have hb := chk_at (hc ρ) i j _ y (by omega) (hat' ρ h4) hy hm
            rw [Nat.zero_add, Nat.zero_add] at hb
            obtain ⟨oj, hoj⟩ : ∃ oj, l[j]? = some oj := ⟨_, List.getElem?_eq_getElem hj⟩
            have hoj' : l.toArray[j]? = some oj := by simpa using hoj
            have := bef_listed hdown _ j i oj hoj' (hdown j oj hoj' hl) hb
            rw [hunf] at this; cases this
      have hearlier : ∀ (ρ : Rho) j (y : List Res × List Res × St), j < i → (trAt tr ρ)[j]? = some y → (meet y.2.1 x.R = true ∨ meet y.2.1 x.W = true ∨ meet y.1 x.W = true) → listed.getD j false = true := by
        intro ρ j y hji hy hm
        have hb := chk_at (hc ρ) j i y _ hji hy (hat' ρ h4) hm
        rw [Nat.zero_add, Nat.zero_add] at hb
        exact bef_listed hdown _ i j o ho hall hb
      have hread : ∀ r ∈ x.R, cur s0 (trAt tr ρ) (fun i => listed.getD i false) l.length r = lk (preR (fun _ => s0) tr i ρ) r := by
        intro r hr
        rw [cur_stop (i := i) (by omega) (fun j y h1 h2 hy hrx => hlater ρ j y h1 h2 hy (.inr (.inr (meet_of hr hrx))))]
        rw [cur_same (D' := fun _ => true) (fun j y hj hy hrx => hearlier ρ j y hj hy (.inl (meet_of hrx hr)))]
        exact cur_allR h ρ (by omega) (fun _ _ => rfl) r
      have hset : ∀ j, (listed.setIfInBounds i true).getD j false = if j = i then true else listed.getD j false := by
        intro j
        by_cases e : j = i
        · subst e; simp [hil2]
        · simp only [e, if_false, Array.getD_eq_getD_getElem?]
          rw [Array.getElem?_setIfInBounds_ne (fun e' => e e'.symm)]
      have hnew : ∀ ρ, cur s0 (trAt tr ρ) (fun j => (listed.setIfInBounds i true).getD j false) l.length = ovr (cur s0 (trAt tr ρ) (fun i => listed.getD i false) l.length) x.W (x.s ρ) := by
        intro ρ
        funext r
        unfold ovr
        by_cases hr : r ∈ x.W
        · rw [if_pos hr]
          have h1 : cur s0 (trAt tr ρ) (fun j => (listed.setIfInBounds i true).getD j false) l.length r = cur s0 (trAt tr ρ) (fun j => (listed.setIfInBounds i true).getD j false) (i + 1) r :=
            cur_stop (by omega) (fun j y h1 h2 hy hrx => by
              show (listed.setIfInBounds i true).getD j false = false
              rw [hset, if_neg (by omega)]
              exact hlater ρ j y (by omega) h2 hy (.inr (.inl (meet_of hr hrx))))
          rw [h1]
          show (match (trAt tr ρ)[i]? with | some x => if (listed.setIfInBounds i true).getD i false = true ∧ r ∈ x.2.1 then lk x.2.2 r else _ | none => _) = _
          rw [hat' ρ h4, hset, if_pos rfl]
          simp [hr]
        · rw [if_neg hr]
          refine cur_same (fun j y hj hy hrx => ?_)
          show (listed.setIfInBounds i true).getD j false = listed.getD j false
          rw [hset, if_neg]
          rintro rfl
          rw [hat' ρ h4] at hy
          cases hy
          exact hr hrx
      have hdown' : ∀ j o, l.toArray[j]? = some o → (listed.setIfInBounds i true).getD j false = true → ∀ e ∈ o.after, Region.binds .any e = true → (listed.setIfInBounds i true).getD e.on false = true := by
        intro j oj hoj hl e he' hb
        rw [hset]
        split
        · rfl
        · rw [hset] at hl
          split at hl
          · rename_i e2; subst e2; rw [ho] at hoj; cases hoj; exact hall e he' hb
          · exact hdown j oj hoj hl e he' hb
      have hcount' : (listed.setIfInBounds i true).toList.count false = fuel := by
        have hli : listed.toList[i] = false := by
          simp [hil2] at hunf
          simpa using hunf
        rw [Array.toList_setIfInBounds, List.count_set (by simpa using hil2), hcount, hli]
        simp
      have hK : ∀ a' w', (∃ ρ N bx', Facts U tr ρ N (fun j => (listed.setIfInBounds i true).getD j false) ∧ SR E bx' (cur s0 (trAt tr ρ) (fun j => (listed.setIfInBounds i true).getD j false) l.length) a' w') → wpAny P .any l.toArray Q fuel (listed.setIfInBounds i true) a' w' :=
        fun a' w' h' => ih _ a' w' (by simpa using hs) hcount' hdown' h'
      unfold wpOp
      simp only [ho]
      have hstep : OW P l.toArray o a w fun a' w' => ∃ ρ N bx', Facts U tr ρ N (fun j => (listed.setIfInBounds i true).getD j false) ∧ SR E bx' (cur s0 (trAt tr ρ) (fun j => (listed.setIfInBounds i true).getD j false) l.length) a' w' := by
        unfold StepOk at h5
        cases hmk : x.mkr with
        | none =>
          rw [hmk] at h5
          refine ((h5 ρ).2 E bx _ a w hE hread hsr).mono ?_
          rintro a' w' ⟨bx', h'⟩
          refine ⟨ρ, N, bx', fun k y src hy hm hk => ?_, by rw [hnew]; exact h'⟩
          have hki : ∀ {k : Nat} {y : TrE} {src : (Nat → Prop) × (Nat → Prop)}, tr[k]? = some y → y.mkr = some src → (listed.setIfInBounds i true).getD k false = true → listed.getD k false = true := fun {k y src} hy hm hk => by
            rw [hset] at hk
            by_cases e : k = i
            · subst e; rw [h4] at hy; cases hy; rw [hmk] at hm; cases hm
            · rwa [if_neg e] at hk
          obtain ⟨f1, f2, f3, f4, f5⟩ := hF k y src hy hm (hki hy hm hk)
          exact ⟨f1, f2, f3, f4, fun k' y' src' hy' hm' hk' => f5 k' y' src' hy' hm' (hki hy' hm' hk')⟩
        | some src =>
          rw [hmk] at h5
          obtain ⟨t1, t2, t3, t4⟩ := h5
          refine (t4 ρ E bx _ a w hE hread hsr).mono ?_
          rintro a' w' ⟨Rn, r1, r2, r3, bx', h'⟩
          have hmk' : x.mkr ≠ none := by rw [hmk]; exact fun e => by cases e
          have hsame : cur s0 (trAt tr (setR ρ i Rn)) (fun i => listed.getD i false) l.length = cur s0 (trAt tr ρ) (fun i => listed.getD i false) l.length := by
            funext r
            have key : ∀ m, m ≤ l.length → cur s0 (trAt tr (setR ρ i Rn)) (fun i => listed.getD i false) m r = cur s0 (trAt tr ρ) (fun i => listed.getD i false) m r := by
              intro m
              induction m with
              | zero => intro _; rfl
              | succ m ihm =>
                intro hm
                obtain ⟨om, hom⟩ : ∃ om, l[m]? = some om := ⟨_, List.getElem?_eq_getElem (by omega)⟩
                obtain ⟨y, hy, _⟩ := hat m om hom
                simp only [cur, hat' (setR ρ i Rn) hy, hat' ρ hy, ihm (by omega)]
                by_cases hc2 : listed.getD m false = true ∧ r ∈ y.W
                · rw [if_pos hc2, if_pos hc2]
                  rcases hind m y hy i x h4 hmk' with q | q | q
                  · have hom' : l.toArray[m]? = some om := by simpa using hom
                    have := bef_listed hdown _ m i om hom' (hdown m om hom' hc2.1) q
                    rw [hunf] at this; cases this
                  · subst q; rw [hunf] at hc2; cases hc2.1
                  · exact q ρ Rn r hc2.2
                · rw [if_neg hc2, if_neg hc2]
            exact key _ (Nat.le_refl _)
          -- what is told at this moment
          have htold : ∀ {r : Res} {S : Nat → Prop}, (∃ t, r = .t t) → cur s0 (trAt tr ρ) (fun i => listed.getD i false) l.length r = .v (.gh S) → ∀ b, S b → b < w.heap.size := by
            rintro r S ⟨t, rfl⟩ hr b hb
            exact (hsr.slot t _ hr b hb).2
          have hUt : cur s0 (trAt tr ρ) (fun i => listed.getD i false) l.length (.t 9998) = .v (.gh U) := by
            rw [cur_stop (i := 0) (Nat.zero_le _) (fun j y _ _ hy hrx => by
              obtain ⟨x', hx', rfl⟩ := hof ρ hy
              exact absurd hrx (hgh j x' hx').1)]
            exact hU
          have hgt : ∀ {k : Nat} {y : TrE} {src' : (Nat → Prop) × (Nat → Prop)}, tr[k]? = some y → y.mkr = some src' → listed.getD k false = true → cur s0 (trAt tr ρ) (fun i => listed.getD i false) l.length (ghR k) = .v (.gh (un (ρ k))) := fun {k y src'} hy hm hk => by
            have hkl : k < l.length := by have := (List.getElem?_eq_some_iff.1 hy).1; omega
            have hne : y.mkr ≠ none := by rw [hm]; exact fun e => by cases e
            rw [cur_stop (i := k + 1) (by omega) (fun j z h1 h2 hz hrx => by
              obtain ⟨x', hx', rfl⟩ := hof ρ hz
              exact absurd hrx ((hgh j x' hx').2 k y hy hne (by omega)))]
            obtain ⟨ok, hok⟩ : ∃ ok, l[k]? = some ok := ⟨_, List.getElem?_eq_getElem hkl⟩
            obtain ⟨y', hy', h6⟩ := hat k ok hok
            rw [hy] at hy'; cases hy'
            unfold StepOk at h6
            rw [hm, Nat.zero_add] at h6
            simp only [cur, hat' ρ hy]
            rw [if_pos ⟨hk, h6.2.1⟩]
            exact h6.2.2.1 ρ
          refine ⟨setR ρ i Rn, fun k => if k = i then (fun b => un Rn b ∧ w.heap.size ≤ b) else N k, bx', fun k y srck hy hm hk => ?_, by rw [hnew, hsame]; exact h'⟩
          have hlisted : ∀ {k : Nat}, k ≠ i → (listed.setIfInBounds i true).getD k false = true → listed.getD k false = true := fun {k} e hk => by rw [hset, if_neg e] at hk; exact hk
          by_cases e : k = i
          · subst e
            rw [h4] at hy; cases hy
            rw [hmk] at hm; cases hm
            simp only [setR_same, if_pos]
            refine ⟨fun j b hb => ⟨(r1 j b hb).imp id fun h => ⟨⟨j, hb⟩, h⟩, r3 j b hb⟩, r2, fun b hb => hb.1, fun b hb hUb => by have := htold ⟨_, rfl⟩ hUt b hUb; omega, fun k' y' src' hy' hm' hk' hne b hb hNk => ?_⟩
            rw [if_neg hne] at hNk
            obtain ⟨_, _, f3, _, _⟩ := hF k' y' src' hy' hm' (hlisted hne hk')
            have := htold ⟨_, rfl⟩ (hgt hy' hm' (hlisted hne hk')) b (f3 b hNk)
            omega
          · obtain ⟨f1, f2, f3, f4, f5⟩ := hF k y srck hy hm (hlisted e hk)
            rw [setR_other _ _ e]
            simp only [if_neg e]
            refine ⟨f1, f2, f3, f4, fun k' y' src' hy' hm' hk' hne b hb hNk => ?_⟩
            by_cases e2 : k' = i
            · subst e2
              rw [if_pos rfl] at hNk
              have := htold ⟨_, rfl⟩ (hgt hy hm (hlisted e hk)) b (f3 b hb)
              omega
            · rw [if_neg e2] at hNk
              exact f5 k' y' src' hy' hm' (hlisted e2 hk') hne b hb hNk
      have hq := (hstep.mono hK) Q
      split
      · rename_i hw; rw [if_pos hw] at hq; exact .inl hq
      · rename_i hw; rw [if_neg hw] at hq; exact hq
end
def RunRK (P : Program) (n : Nat) (ops : Array Oper) (i : Nat) (l : List Oper) (σ : Rho → St) (acc : List TrE) (G : List TrE → (Rho → St) → Prop) : Prop := ∃ tr σ', RunR P n ops i l σ tr σ' ∧ G (acc ++ tr) σ'
def IndR (ops : Array Oper) (i : Nat) : Nat → List TrE → Prop
  | _, [] => True
  | k, y :: t => (bef ops ops.size k i = true ∨ k = i ∨ ∀ (ρ : Rho) (R : Nat → Nat → Prop), y.W.map (lk (y.s (setR ρ i R))) = y.W.map (lk (y.s ρ))) ∧ IndR ops i (k + 1) t
def IndA (ops : Array Oper) (tr : List TrE) : Nat → List TrE → Prop
  | _, [] => True
  | i, x :: t => (match x.mkr with | none => True | some _ => IndR ops i 0 tr) ∧ IndA ops tr (i + 1) t
theorem IndR.at {ops : Array Oper} {i : Nat} : ∀ {tr : List TrE} {k0 k : Nat} {y : TrE}, IndR ops i k0 tr → tr[k]? = some y → bef ops ops.size (k0 + k) i = true ∨ k0 + k = i ∨ ∀ (ρ : Rho) (R : Nat → Nat → Prop), ∀ r ∈ y.W, lk (y.s (setR ρ i R)) r = lk (y.s ρ) r
  | [], _, _, _, _, h => by simp at h
  | z :: t, k0, 0, y, h, hy => by
    simp only [List.getElem?_cons_zero, Option.some.injEq] at hy
    subst hy
    refine h.1.imp id fun h => h.imp id fun h ρ R r hr => ?_
    obtain ⟨q, hq⟩ := List.mem_iff_getElem?.1 hr
    have := congrArg (fun l => l[q]?) (h ρ R)
    simp only [List.getElem?_map, hq, Option.map_some, Option.some.injEq] at this
    exact this
  | z :: t, k0, k + 1, y, h, hy => by
    have := IndR.at h.2 (by simpa using hy)
    rwa [show k0 + 1 + k = k0 + (k + 1) by omega] at this
theorem IndA.at {ops : Array Oper} {tr : List TrE} : ∀ {t : List TrE} {i0 i : Nat} {x : TrE}, IndA ops tr i0 t → t[i]? = some x → x.mkr ≠ none → IndR ops (i0 + i) 0 tr
  | [], _, _, _, _, h, _ => by simp at h
  | z :: t, i0, 0, x, h, hx, hm => by
    simp only [List.getElem?_cons_zero, Option.some.injEq] at hx
    subst hx
    have h1 := h.1
    cases hz : z.mkr with
    | none => exact absurd hz hm
    | some s => rw [hz] at h1; exact h1
  | z :: t, i0, i + 1, x, h, hx, hm => by
    have := IndA.at h.2 (by simpa using hx) hm
    rwa [show i0 + 1 + i = i0 + (i + 1) by omega] at this
theorem ind_of {ops : Array Oper} {tr : List TrE} (h : IndA ops tr 0 tr) : Ind ops tr := fun k y hy i x hx hm => by
  have h1 := (h.at hx hm).at hy
  rw [Nat.zero_add, Nat.zero_add] at h1
  exact h1
def ghoB : Nat → List TrE → Bool
  | _, [] => true
  | k, y :: t => y.W.all (fun r => match r with | .t m => !(Nat.beq m 9998) && (Nat.blt m 20000 || Nat.beq m (20000 + k)) | _ => true) && ghoB (k + 1) t
theorem ghoB_at : ∀ {t : List TrE} {k0 k : Nat} {y : TrE}, ghoB k0 t = true → t[k]? = some y → ∀ m, Res.t m ∈ y.W → m ≠ 9998 ∧ (m < 20000 ∨ m = 20000 + (k0 + k))
  | [], _, _, _, _, h, _, _ => by simp at h
  | z :: t, k0, 0, y, h, hy, m, hm => by
    simp only [List.getElem?_cons_zero, Option.some.injEq] at hy
    subst hy
    rw [ghoB, Bool.and_eq_true] at h
    have := List.all_eq_true.1 h.1 _ hm
    simp only [Bool.and_eq_true, Bool.or_eq_true, Bool.not_eq_true'] at this
    exact ⟨fun e => by subst e; simp at this, this.2.imp (fun h => by simpa using h) fun h => by rw [Nat.add_zero]; exact Nat.eq_of_beq_eq_true h⟩
  | z :: t, k0, k + 1, y, h, hy, m, hm => by
    rw [ghoB, Bool.and_eq_true] at h
    have := ghoB_at h.2 (by simpa using hy) m hm
    exact ⟨this.1, this.2.imp id fun h => by omega⟩
theorem gho_of {tr : List TrE} (h : ghoB 0 tr = true) : Gho tr := fun k y hy => by
  refine ⟨fun hm => ((ghoB_at h hy _ hm).1 rfl).elim, fun i x hx hne hki hm => ?_⟩
  have := (ghoB_at h hy _ hm).2
  omega
section
variable {P : Program} {n : Nat} {ops : Array Oper} {l : List Oper} {o : Oper} {i : Nat} {σ σ' : Rho → St} {R W : List Res} {acc : List TrE} {G : List TrE → (Rho → St) → Prop}
theorem RunRK.nil (h : G acc σ) : RunRK P n ops i [] σ acc G := ⟨[], σ, .nil i σ, by rw [List.append_nil]; exact h⟩
theorem RunRK.cons (h : ∀ ρ, St1 P n ops o (σ ρ) R W (σ' ρ)) (k : RunRK P n ops (i + 1) l σ' (acc ++ [⟨R, W, σ', none⟩]) G) : RunRK P n ops i (o :: l) σ acc G := by
  obtain ⟨tr, σ2, h1, h2⟩ := k
  exact ⟨_, σ2, .cons h h1, by simpa using h2⟩
theorem TStep.call {d : Nat} {fo : Operand} {ar : Array Operand} {ts : Array TypeId} (xs : List Operand) {vs : List V1} {f : FuncId} {cap : List (List D)} {src : Nat → Prop} {r : TRes}
    (h4 : (o.op, o.guard, o.dst, Nat.blt d n && Nat.blt d 9000) = (Op.call { callee := .value fo, args := ar, argTypes := ts }, none, some d, true)) (has : ar = xs.toArray) (hfo : ∀ ρ, ev (σ ρ) fo = some (.o (.c (.fn f cap)))) (hx : ∀ ρ, evL (σ ρ) xs = some vs)
    (hF : FnT P f (vs ++ cap.map fun c => .c (.ptr c)) src r) (href : noRefs vs = true) (hok : r.ok = true) (hsrc : ∀ b, src b → ∃ x ∈ vs, ∃ S, HasV S (.o x) ∧ S b) (hcall : callable P f = true) :
    TStep P n ops o i σ (rd fo ++ rdL xs) [.t d, ghR i] (fun ρ => (.t d, .v (vT (ρ i) r)) :: (ghR i, .v (.gh (un (ρ i)))) :: σ ρ) (src, r.pos) := by
  simp only [Prod.mk.injEq, Bool.and_eq_true] at h4
  obtain ⟨ho, hg, hd, hn, hd9⟩ := h4
  have hd9' : d < 9000 := by simpa using hd9
  refine ⟨fun ρ q hq => ?_, by simp, fun ρ => ?_, fun ρ E bx τ a w hE hR hs => OW.plain hg fun Q => ?_⟩
  · rw [List.mem_cons, List.mem_singleton, not_or] at hq
    rw [lk_other _ _ _ _ (fun e => hq.1 e.symm), lk_other _ _ _ _ (fun e => hq.2 e.symm)]
  · rw [lk_other _ _ _ _ (by simp; omega), lk_same]
  · have hR1 : ∀ q ∈ rd fo, τ q = lk (σ ρ) q := rd_l hR
    have hR2 : ∀ q ∈ rdL xs, τ q = lk (σ ρ) q := rd_r hR
    obtain ⟨cvs, hfe, hcl, hcv⟩ := fnx_ok (bx := bx) (al := Al τ) (show fnx (.fn f cap) = some (f, cap.map fun c => .c (.ptr c)) from rfl) (ev_ok (hfo ρ) hR1 hs).1
    obtain ⟨⟨q1, q2⟩, _⟩ := evL_ok (hx ρ) hR2 hs
    subst has
    have hvals : Vals (V1r (fun _ => (0, 0)) (fun _ => False) (fun _ => True) w) (vs ++ cap.map fun c => .c (.ptr c)) (xs.map a.eval ++ cvs) := by
      refine ⟨by rw [List.length_append, q1, hcl, List.length_append], fun i x v hx hv => ?_⟩
      rw [List.getElem?_append] at hx hv
      by_cases hi : i < vs.length
      · rw [if_pos hi] at hx
        rw [if_pos (by rw [q1]; exact hi)] at hv
        exact (q2 i x v hx hv).to (Same.refl _ _) (fun _ _ _ => trivial) (fun k hk => by rw [noRefs_at href (List.mem_of_getElem? hx)] at hk; cases hk)
      · rw [if_neg hi] at hx
        rw [if_neg (by rw [q1]; exact hi), q1] at hv
        refine (hcv _ _ v hx hv).to (Same.refl _ _) (fun _ _ _ => trivial) (fun k hk => ?_)
        obtain ⟨c, _, rfl⟩ := List.mem_map.1 (List.mem_of_getElem? hx)
        cases hk
    unfold Oper.wp
    rw [run_callV hcall ho hfe w, Oper.upon_enter, hd, show xs.toArray.map a.eval ++ cvs.toArray = (xs.map a.eval ++ cvs).toArray by simp]
    refine (hF.full hok w _ hvals).mono ?_
    rintro e w' ⟨v, Rn, rfl, hb, h1, h2, hps, h3⟩
    have hlt : ∀ j b, Rn j b → b < w'.heap.size := fun j b hj => (hps j b hj).1
    have hs' := hs.world hb
    have hbf : ∀ j b, Rn j b → Bf E bx τ b := fun j b hj => by
      rcases h1 j b hj with h | h
      · obtain ⟨x, hx1, S, hS, hSb⟩ := hsrc b h
        obtain ⟨q, hq⟩ := List.mem_iff_getElem?.1 hx1
        have hql := (List.getElem?_eq_some_iff.1 hq).1
        exact (hS.lt (q2 q x _ hq (List.getElem?_eq_getElem (by omega))) b hSb).1
      · exact ⟨.inr (Nat.le_trans hs.hsize h), fun k hk e => by have := hs.lt hk; omega⟩
    have hp0 := hs'.tell (t := 20000 + i) (x := .gh (un Rn)) (fun b ⟨j, hj⟩ => ⟨hbf j b hj, hlt j b hj⟩) (fun k hk => by cases hk)
    have hp := hp0.put (d := d) (by rw [hE]; simpa using hn) (vT_to (bx' := bx) (al' := Al (upd τ (ghR i) (.v (.gh (un Rn))))) (B' := Bf E bx (upd τ (ghR i) (.v (.gh (un Rn))))) hok h3 (fun j b hj => by rw [Bf_upd_t]; exact hbf j b hj)) (fun k hk => by rw [vT_refs] at hk; cases hk)
    refine ⟨Rn, h1, h2, fun j b hj => (hps j b hj).2, bx, ?_⟩
    show SR E bx (ovr τ [.t d, ghR i] ((.t d, .v (vT (setR ρ i Rn i) r)) :: (ghR i, .v (.gh (un (setR ρ i Rn i)))) :: σ (setR ρ i Rn))) (a.put (some d) v) w'
    rw [setR_same]
    have e1 : ovr τ [.t d, ghR i] ((.t d, .v (vT Rn r)) :: (ghR i, .v (.gh (un Rn))) :: σ (setR ρ i Rn)) = upd (upd τ (ghR i) (.v (.gh (un Rn)))) (.t d) (.v (vT Rn r)) := by
      funext q
      unfold ovr
      by_cases e1 : q = .t d
      · subst e1; rw [if_pos (by simp), lk_same, upd_same]
      · rw [upd_other _ _ e1]
        by_cases e2 : q = ghR i
        · subst e2; rw [if_pos (by simp), lk_other _ _ _ _ (fun e => e1 e.symm), lk_same, upd_same]
        · rw [if_neg (by simp [e1, e2]), upd_other _ _ e2]
    rw [e1]
    exact hp
theorem RunRK.cT {d : Nat} {fo : Operand} {ar : Array Operand} {ts : Array TypeId} (xs : List Operand) {vs : List V1} {f : FuncId} {cap : List (List D)} {src : Nat → Prop} {r : TRes}
    (h4 : (o.op, o.guard, o.dst, Nat.blt d n && Nat.blt d 9000) = (Op.call { callee := .value fo, args := ar, argTypes := ts }, none, some d, true)) (has : ar = xs.toArray) (hfo : ∀ ρ, ev (σ ρ) fo = some (.o (.c (.fn f cap)))) (hx : ∀ ρ, evL (σ ρ) xs = some vs)
    (hF : FnT P f (vs ++ cap.map fun c => .c (.ptr c)) src r) (href : noRefs vs = true) (hok : r.ok = true) (hsrc : ∀ b, src b → ∃ x ∈ vs, ∃ S, HasV S (.o x) ∧ S b)
    (k : RunRK P n ops (i + 1) l (fun ρ => (.t d, .v (vT (ρ i) r)) :: (ghR i, .v (.gh (un (ρ i)))) :: σ ρ) (acc ++ [⟨rd fo ++ rdL xs, [.t d, ghR i], fun ρ => (.t d, .v (vT (ρ i) r)) :: (ghR i, .v (.gh (un (ρ i)))) :: σ ρ, some (src, r.pos)⟩]) G) (hcall : callable P f = true := by kernel_rfl) : RunRK P n ops i (o :: l) σ acc G := by
  obtain ⟨tr, σ2, h1, h2⟩ := k
  exact ⟨_, σ2, .mk (TStep.call xs h4 has hfo hx hF href hok hsrc hcall) h1, by simpa using h2⟩
end
theorem nosrcV {vs : List V1} : ∀ b, none' b → ∃ x ∈ vs, ∃ S, HasV S (.o x) ∧ S b := fun _ h => h.elim
theorem ACode.drawT {P : Program} {n : Nat} {K : Exit → St → Prop} {σ : St} {id : Nat} {l : List Oper} (hm : P.follows .mixedOrders = true) (he : edgesOk l.toArray 0 l = true)
    (h : ∀ U : Nat → Prop, RunRK P n l.toArray 0 l (fun _ => (.t 9998, .v (.gh U)) :: σ) [] fun tr σ1 => ((∀ ρ, chk l.toArray 0 (trAt tr ρ) = true) ∧ IndA l.toArray tr 0 tr ∧ ghoB 0 tr = true) ∧ ∀ ρ N, Facts U tr ρ N (fun _ => true) → (∀ S, Has σ S → ∀ b, S b → U b) → K .normal (σ1 ρ)) : ACode P n (.region id l.toArray true) K σ := by
  intro E bx a w hE hs
  refine wp_region_any hm ?_
  obtain ⟨U, hU⟩ : ∃ U : Nat → Prop, U = fun b => Bf E bx (lk σ) b ∧ b < w.heap.size := ⟨_, rfl⟩
  have hs0 : SR E bx (lk ((.t 9998, .v (.gh U)) :: σ)) a { w with drawn := w.drawn + 1 } := by
    rw [lk_cons]
    exact hs.drew.tell (t := 9998) (x := .gh U) (fun b hb => by rw [hU] at hb; exact hb) (fun k hk => by cases hk)
  obtain ⟨tr, σ1, h1, ⟨h2, h3, h4⟩, h5⟩ := h U
  have hcur : ∀ ρ, cur ((.t 9998, .v (.gh U)) :: σ) (trAt tr ρ) (fun i => (Array.replicate l.length false).getD i false) l.length = lk ((.t 9998, .v (.gh U)) :: σ) := by
    intro ρ
    funext r
    refine (cur_stop (i := 0) (Nat.zero_le _) (fun j x _ hj _ _ => ?_)).trans rfl
    simp [hj]
  simp only [List.nil_append] at h2 h3 h4 h5
  refine wpAny_runR h1 h2 he (ind_of h3) (gho_of h4) (by rw [lk_same]) hE (fun ρ N bx' a' w' hF hs' => ⟨σ1 ρ, bx', h5 ρ N hF (fun S hS b hb => by rw [hU]; exact hs.has hS b hb), hs'⟩) _ _ a _ (by simp) (by simp) (fun j o ho hl => ?_) ⟨fun _ _ _ => False, fun _ _ => False, bx, fun i x src hx _ hi => ?_, ?_⟩
  · have hj : j < l.length := by have := (Array.getElem?_eq_some_iff.1 ho).1; simpa using this
    simp [hj] at hl
  · by_cases hil : i < l.length
    · simp [hil] at hi
    · simp [hil] at hi
  · have : (Array.replicate l.toArray.size false) = Array.replicate l.length false := by simp
    rw [this, hcur]
    exact hs0
theorem Facts.hR {U : Nat → Prop} {tr : List TrE} {ρ : Rho} {N : Nat → Nat → Prop} {σ : St} (hF : Facts U tr ρ N fun _ => true) (hU : ∀ S, Has σ S → ∀ b, S b → U b) (i : Nat) {x : TrE} {src : (Nat → Prop) × (Nat → Prop)} (hx : tr[i]? = some x) (hm : x.mkr = some src) :
    (∀ j b, ρ i j b → src.1 b ∨ ∀ S, Has σ S → ¬ S b) ∧ (∀ j k b, ρ i j b → ρ i k b → j = k) ∧ ∀ j b, ρ i j b → src.2 j := by
  obtain ⟨f1, f2, _, f4, _⟩ := hF i x src hx hm rfl
  exact ⟨fun j b hj => (f1 j b hj).1.imp id fun h S hS hb => f4 b h (hU S hS b hb), f2, fun j b hj => (f1 j b hj).2⟩
/-- Two makers: what both hold came to both. -/
theorem Facts.two {U : Nat → Prop} {tr : List TrE} {ρ : Rho} {N : Nat → Nat → Prop} (hF : Facts U tr ρ N fun _ => true) (i k : Nat) {x y : TrE} {src src' : (Nat → Prop) × (Nat → Prop)} (hx : tr[i]? = some x) (hm : x.mkr = some src) (hy : tr[k]? = some y) (hm' : y.mkr = some src') (hne : Nat.beq k i = false)
    (h1 : ∀ b, src.1 b → U b) (h2 : ∀ b, src'.1 b → U b) : ∀ j j' b, ρ i j b → ρ k j' b → src.1 b ∧ src'.1 b := by
  intro j j' b hi hk
  have hne' : k ≠ i := fun e => by subst e; simp at hne
  obtain ⟨f1, _, _, f4, f5⟩ := hF i x src hx hm rfl
  obtain ⟨g1, _, _, g4, _⟩ := hF k y src' hy hm' rfl
  rcases (f1 j b hi).1 with a1 | a1
  · rcases (g1 j' b hk).1 with a2 | a2
    · exact ⟨a1, a2⟩
    · exact absurd (h1 b a1) (g4 b a2)
  · rcases (g1 j' b hk).1 with a2 | a2
    · exact absurd (h2 b a2) (f4 b a1)
    · exact absurd a2 (f5 k y src' hy hm' rfl hne' b a1)
/-- Boxes that stand: block, type, values. -/
def Bxs (w : World) (l : List (Nat × TypeId × List Value)) : Prop := ∀ b ∈ l, w.heap[b.1]? = some (.cells b.2.2.toArray b.2.1 (0, 0))
section
variable {w w' : World} {l : List (Nat × TypeId × List Value)}
theorem Bxs.lt (h : Bxs w l) {b : Nat × TypeId × List Value} (hb : b ∈ l) : b.1 < w.heap.size := (Array.getElem?_eq_some_iff.1 (h b hb)).1
theorem Bxs.fwd (h : Bxs w l) (hb : Below w.heap.size w w') : Bxs w' l := fun b hm => (hb.block _ (h.lt hm)).trans (h b hm)
theorem Bxs.mark {S : Nat → Prop} (h : Bxs w l) (hm : Marked S w w') (hS : ∀ b ∈ l, ¬ S b.1) : Bxs w' l := fun b hb => (hm.old _ (h.lt hb) (hS b hb)).trans (h b hb)
theorem Bxs.add (h : Bxs w l) (us : List Value) (e : TypeId) : Bxs (w.alloc (.cells us.toArray e)) ((w.heap.size, e, us) :: l) := fun b hb => by
  rcases List.mem_cons.1 hb with rfl | hb
  · exact heap_alloc_new w _
  · exact h.fwd ((Below.refl _ _).alloc (Nat.le_refl _) _) b hb
theorem Bxs.c (h : Bxs w l) (i : Nat) {b : Nat × TypeId × List Value} (hb : l[i]? = some b) (j : Nat) {v : Value} (hv : b.2.2[j]? = some v) : w.cell? ⟨b.1, j, none⟩ = some v := by
  rw [cell_of_row w _ _ _ _ _ (h b (List.mem_of_getElem? hb)), List.getElem?_toArray]; exact hv
end
/-- The values vs read as ds, within B. -/
def Drs (B : Nat → Prop) (w : World) (ds : List D) (vs : List Value) : Prop := vs.length = ds.length ∧ ∀ (i : Nat) d u, ds[i]? = some d → vs[i]? = some u → Dr B w d u
section
variable {B B' : Nat → Prop} {w w' : World} {ds : List D} {vs : List Value}
theorem Drs.v {bx : Nat → Nat × Nat} {al : Nat → Prop} (h : Drs B w ds vs) : V1r bx al B w (ad ds) (.agg vs.toArray) := ⟨vs, rfl, by rw [h.1, List.length_map], fun i c u hc hu => by
  rw [List.getElem?_map] at hc
  cases hx : ds[i]? with
  | none => rw [hx] at hc; cases hc
  | some x => rw [hx] at hc; cases hc; exact h.2 i x u hx hu⟩
theorem Drs.same (h : Drs B w ds vs) (hs : Same B w w') : Drs B w' ds vs := ⟨h.1, fun i d u hd hu => (h.2 i d u hd hu).frame hs⟩
theorem Drs.fwd (h : Drs B w ds vs) (hb : Below w.heap.size w w') : Drs B w' ds vs := h.same (below_sameAll hb _)
theorem Drs.lo {n : Nat} (h : Drs (fun b => b < n) w ds vs) (hb : Below n w w') : Drs (fun b => b < n) w' ds vs := h.same fun b hl _ => hb.block b hl
theorem Drs.mono (h : Drs B w ds vs) (hs : ∀ b, B b → b < w.heap.size → B' b) : Drs B' w ds vs := ⟨h.1, fun i d u hd hu => (h.2 i d u hd hu).mono hs⟩
theorem DrNs.drs {lo : Nat} (h : DrNs lo w ds vs) : Drs (fun _ => True) w ds vs := ⟨h.1, fun i d u hd hu => (h.2 i d u hd hu).dr.mono fun _ _ _ => trivial⟩
theorem DrNs.k {lo : Nat} {S : Nat → Prop} (h : DrNs lo w ds vs) (hS : ∀ b, lo ≤ b → b < w.heap.size → S b) : DrKs w S ds vs := ⟨h.1, fun i d u hd hu => (h.2 i d u hd hu).k hS⟩
theorem DrUs.drs {S : Nat → Prop} (h : DrUs w S ds vs) : Drs (fun _ => True) w ds vs := ⟨h.1, fun i d u hd hu => (h.dr hd hu).mono fun _ _ _ => trivial⟩
end
/-- A call that answers a struct and a flag. -/
theorem Fn.callsS {P : Program} {f : FuncId} {args : List V1} {ds : List D} {b : Bool} {vs : List Value} {w : World} {B : Nat → Prop} (h : Fn P f [] args (.tup [ad ds, bo1 b]) []) (hv : Vals (V1r bx0 al0 B w) args vs) :
    Calls P f vs.toArray w fun e w' => ∃ ys : List Value, e = .returned (.tuple #[.agg ys.toArray, .bool b]) ∧ Below w.heap.size w w' ∧ Drs (fun c => c < w'.heap.size) w' ds ys := by
  refine (h.calls hv).mono ?_
  rintro e w' ⟨⟨v, B', rfl, us, rfl, hl, hx⟩, hb⟩
  obtain ⟨u0, l0, rfl, h0⟩ := len_cons (show us.length = 1 + 1 from hl)
  obtain ⟨u1, l1, rfl, h1⟩ := len_cons (show l0.length = 0 + 1 from h0)
  obtain rfl := len_zero h1
  obtain ⟨ys, rfl, hyl, hy⟩ := hx 0 (ad ds) u0 rfl rfl
  have hb1 : Dr _ w' (.val (.bool b)) u1 := hx 1 (bo1 b) u1 rfl rfl
  cases hb1
  refine ⟨ys, rfl, hb, by rw [hyl, List.length_map], fun i d u hd hu => ?_⟩
  exact Dr.mono (fun c _ hc => hc) (hy i (.d d) u (by rw [List.getElem?_map, hd]; rfl) hu)
theorem FnT.callsS {P : Program} {f : FuncId} {args : List V1} {ds : List D} {b : Bool} {vs : List Value} {w : World} (h : FnT P f args none' (.strB ds b)) (hok : ds.all noTree = true) (hn : ∀ v, D.val v ∈ ds → nsl v = true)
    (hv : Vals (V1r (fun _ => (0, 0)) (fun _ => False) (fun _ => True) w) args vs) :
    Calls P f vs.toArray w fun e w' => ∃ (gs : List Value) (S : Nat → Prop), e = .returned (.tuple #[.agg gs.toArray, .bool b]) ∧ Below w.heap.size w w' ∧ (∀ c, S c → w.heap.size ≤ c ∧ c < w'.heap.size) ∧ DrUs w' S ds gs := by
  refine (h.full hok w vs hv).mono ?_
  rintro e w' ⟨v, R, rfl, hb, h1, h2, h3, us, rfl, hl, hx⟩
  obtain ⟨u0, l0, rfl, h0⟩ := len_cons (show us.length = 1 + 1 from hl)
  obtain ⟨u1, l1, rfl, hl1⟩ := len_cons (show l0.length = 0 + 1 from h0)
  obtain rfl := len_zero hl1
  obtain ⟨gs, rfl, hgl, hg⟩ := hx 0 (ad (tagL R 0 ds)) u0 rfl rfl
  have hb1 : Dr _ w' (.val (.bool b)) u1 := hx 1 (bo1 b) u1 rfl rfl
  cases hb1
  refine ⟨gs, un R, rfl, hb, fun c ⟨j, hj⟩ => ⟨(h1 j c hj).resolve_left id, (h3 j c hj).1⟩, by rw [hgl, List.length_map, tagL_len], R, fun j c hc => ⟨j, hc⟩, fun j j' c => h2 j j' c, fun j d u hd hu => ?_⟩
  have h4 : Dr _ w' (tg (R j) d) u := hg j (.d (tg (R j) d)) u (by rw [List.getElem?_map, tagL_at hd, Nat.zero_add]; rfl) hu
  cases d with
  | val v => cases h4; exact .val _ _ (hn _ (List.mem_of_getElem? hd))
  | list sz rows => cases h4 with | tree _ _ _ _ _ h => exact h
  | tree S x => exact absurd (List.all_eq_true.1 hok _ (List.mem_of_getElem? hd)) (by simp [noTree])
theorem rS_plain (s : Stm) : (rS s).all noTree = true := rfl
theorem rS_nsl (s : Stm) : ∀ v, D.val v ∈ rS s → nsl v = true := fun v hv => by
  have : rS s = [dS s.1.1, dAs s.1.2, dI s.2.k, dI s.2.n, dIs s.2.i.1, dI s.2.i.2, dS s.2.r.1, dAs s.2.r.2, dEs s.2.ks] := rfl
  rw [this] at hv
  simp only [List.mem_cons, dS, dI, dAs, dIs, dEs, D.val.injEq, reduceCtorEq, false_or, or_false, List.not_mem_nil] at hv
  rcases hv with rfl | rfl | rfl | rfl | rfl <;> rfl
theorem wgtV_le : ∀ ds : List D, wgtV ds ≤ wgtL ds
  | [] => Nat.le_refl _
  | .val _ :: ds => by rw [wgtV, wgtL]; have := wgtV_le ds; omega
  | .list _ rows :: ds => by rw [wgtV, wgtL, wgt]; have := wgtV_le ds; omega
  | .tree _ _ :: ds => by rw [wgtV, wgtL]; have := wgtV_le ds; omega
theorem copyStm {s : Stm} (h : szS s ≤ 1048576) : CopyS Try.prog 7 (rS s) := toStmt_c (copyAcc (by rw [szS] at h; omega)) (copyEx s.2 (by rw [szS] at h; omega))
theorem e0_drs {w : World} {B : Nat → Prop} {ds : List D} {v : Value} (h : V1r bx0 al0 B w (ad ds) v) : ∃ us, v = .agg us.toArray ∧ Drs B w ds us := by
  obtain ⟨vs, rfl, hl, h⟩ := h
  exact ⟨vs, rfl, by rw [hl, List.length_map], fun i d u hd hu => h i (.d d) u (by rw [List.getElem?_map, hd]; rfl) hu⟩
theorem tm_at {α β : Type} {l : List α} {fn : α → β} {i q : Nat} (hi : i ≤ l.length) (hq : q < i) : ∃ y ∈ l, ((l.take i).map fn)[q]? = some (fn y) := by
  have h : l[q]? = some l[q] := List.getElem?_eq_getElem (by omega)
  exact ⟨l[q], List.getElem_mem _, by rw [List.getElem?_map, List.getElem?_take, if_pos hq, h]; rfl⟩
def noF : Nat → Nat → Nat → Prop := fun _ _ _ => False
section
variable {α : Type} {fn : α → List D} {l : List α} {i : Nat} {x : α} {F : Nat → Nat → Nat → Prop} {R : Nat → Nat → Prop}
theorem dR_tagT (hx : l[i]? = some x) : dR (tagRs F 0 ((l.take i).map fn)) ++ [(tagL R 0 (fn x)).map C.d] = dR (tagRs (nextF F i R) 0 ((l.take (i + 1)).map fn)) := by
  have hil := (List.getElem?_eq_some_iff.1 hx).1
  have hl : ((l.take i).map fn).length = i := by rw [List.length_map, List.length_take]; omega
  rw [List.take_add_one, hx, List.map_append]
  have := tagRs_snoc (F := F) (R := R) (l := (l.take i).map fn) (r := fn x)
  rw [hl] at this
  show _ = dR (tagRs (nextF F i R) 0 ((l.take i).map fn ++ [fn x]))
  rw [this, dR, dR, List.map_append]; rfl
theorem dR_tag0 (hx : l[0]? = some x) : [(tagL R 0 (fn x)).map C.d] = dR (tagRs (nextF F 0 R) 0 ((l.take (0 + 1)).map fn)) := by
  have := dR_tagT (fn := fn) (F := F) (R := R) hx
  rw [← this]; rfl
theorem isPos_lt {rows : List (List D)} {i j : Nat} (h : isPos rows i j) : i < rows.length := by
  obtain ⟨r, m, rs, h1, _⟩ := h
  exact (List.getElem?_eq_some_iff.1 h1).1
theorem isPos_L {L : Nat → Prop} (hL : ∀ (y : α) j m rs, (fn y)[j]? = some (.list m rs) → L j) {i j : Nat} (h : isPos (l.map fn) i j) : L j := by
  obtain ⟨r, m, rs, h1, h2⟩ := h
  rw [List.getElem?_map] at h1
  cases hy : l[i]? with
  | none => rw [hy] at h1; cases h1
  | some y => rw [hy] at h1; cases h1; exact hL y j m rs h2
theorem FD.pos {O L : Nat → Prop} {rows : List (List D)} {n : Nat} (h : FD O L n F) (hn : rows.length = n) (hL : ∀ i j, isPos rows i j → L j) : ∀ i j i' j' b, isPos rows i j → isPos rows i' j' → F i j b → F i' j' b → i = i' ∧ j = j' := fun i j i' j' b h1 h2 h3 h4 =>
  h.dis i j i' j' b (hn ▸ isPos_lt h1) (hn ▸ isPos_lt h2) (hL i j h1) (hL i' j' h2) h3 h4
theorem Pk.out {σ : St} {k : Nat} {rows : List (List D)} {N O : Nat → Prop} (h : Pk σ k F rows N) (hO : Has σ O) (hF : ∀ i j b, isPos rows i j → F i j b → ¬ O b) : ∀ b, N b → ¬ O b := fun b hb =>
  (h.fr b hb).elim (fun ⟨i, j, h1, h2⟩ => hF i j b h1 h2) fun h => h O hO
end
theorem Cto.nilTE {σ : St} {inv : Inv} {x : D} (sz : Nat) (h : x = .list sz []) : Cto σ inv (.d (.val (.slice none 0 0))) (.d (.tree none' x)) := by subst h; exact .nilT sz

/-! ### The columns that hold trees -/
def colA (j : Nat) : Prop := j = 0
def colX (j : Nat) : Prop := j = 2 ∨ j = 5 ∨ j = 6
theorem posI (x : Int) (j m : Nat) (rs : List (List D)) (h : (rI x)[j]? = some (.list m rs)) : none' j := by
  match j, h with
  | 0, h => cases h
theorem posA (x : Aff) (j m : Nat) (rs : List (List D)) (h : (rA x)[j]? = some (.list m rs)) : colA j := by
  match j, h with
  | 0, h => rfl
  | 1, h => cases h
theorem posX (x : Ex) (j m : Nat) (rs : List (List D)) (h : (rX x)[j]? = some (.list m rs)) : colX j := by
  cases x with
  | mk k n i r ks =>
    match j, h with
    | 0, h => cases h
    | 1, h => cases h
    | 2, h => exact .inl rfl
    | 3, h => cases h
    | 4, h => cases h
    | 5, h => exact .inr (.inl rfl)
    | 6, h => exact .inr (.inr rfl)
theorem plain_map {α : Type} {fn : α → List D} {l : List α} (h : ∀ y : α, (fn y).all noTree = true) : plain (l.map fn) := by
  intro r hr x hx
  obtain ⟨y, _, rfl⟩ := List.mem_map.1 hr
  exact List.all_eq_true.1 (h y) x hx
theorem plI : ∀ y : Int, (rI y).all noTree = true := fun _ => rfl
theorem plA : ∀ y : Aff, (rA y).all noTree = true := fun _ => rfl
theorem plX : ∀ y : Ex, (rX y).all noTree = true := fun y => by cases y; rfl
/-- Sets that a state holds. -/
def HasE (σ : St) (U : Nat → Prop) : Prop := ∀ b, U b → ∃ S, Has σ S ∧ S b
theorem HasE.of {σ : St} {S : Nat → Prop} (h : Has σ S) : HasE σ S := fun b hb => ⟨S, h, hb⟩
theorem HasE.no {σ : St} : HasE σ none' := fun _ h => h.elim
theorem HasE.or {σ : St} {S T : Nat → Prop} (h : HasE σ S) (h' : HasE σ T) : HasE σ (fun b => S b ∨ T b) := fun b hb => hb.elim (h b) (h' b)
theorem new_ofE {R : Nat → Nat → Prop} {σ : St} {src U : Nat → Prop} (h : ∀ j b, R j b → src b ∨ ∀ S, Has σ S → ¬ S b) (hU : HasE σ U) : ∀ j b, R j b → src b ∨ ¬ U b := fun j b hj => (h j b hj).imp id fun h hb => by
  obtain ⟨S, h1, h2⟩ := hU b hb
  exact h S h1 h2
theorem new_E {R : Nat → Nat → Prop} {σ : St} {U : Nat → Prop} (h : ∀ j b, R j b → none' b ∨ ∀ S, Has σ S → ¬ S b) (hU : HasE σ U) : ∀ j b, R j b → ¬ U b := fun j b hj => (new_ofE h hU j b hj).resolve_left id
theorem Pk.outE {σ : St} {k n : Nat} {F : Nat → Nat → Nat → Prop} {rows : List (List D)} {N U L : Nat → Prop} (h : Pk σ k F rows N) (hU : HasE σ U) (hF : FD U L n F) (hn : rows.length = n) (hL : ∀ i j, isPos rows i j → L j) : ∀ b, N b → ¬ U b := fun b hb hUb => by
  rcases h.fr b hb with ⟨i, j, h1, h2⟩ | h1
  · exact hF.out i j b (hn ▸ isPos_lt h1) (hL i j h1) h2 hUb
  · obtain ⟨S, h2, h3⟩ := hU b hUb
    exact h1 S h2 h3
abbrev or2 (S T : Nat → Prop) : Nat → Prop := fun b => S b ∨ T b

theorem const_T (n : Int) : FnT Try.prog 33 [nat1 n] (none') (.str (rA (cA n))) := by
 refine FnT.of_code Try.func33 rfl rfl rfl (fun O => ?_)
 refine .seq <| .region <| .cons (.al 102 [.slice none 0 0, .int .i64 0] rfl rfl rfl) <| .nil <| ks_n <| .seq <| .region <| .cons (.mk 103 3 1 8 [.int .i64 0] (m := 4) rfl rfl rfl (by omega) rfl rfl) ?_
 refine .cons (.mv rfl rfl) <| .cons (.bu [(0, .tmp 3), (1, .tmp 4)] [(0, 1), (1, 1)] [.slice none 0 0, .int .i64 0] rfl rfl rfl rfl rfl) <| .cons (.sT 2 true rfl rfl rfl rfl rfl rfl rfl) <| .nil <| ks_n ?_
 refine ACode.packB 102 0 0 103 (rows := ([0, 0, 0, 0] : List Int).map rI) (F := noF) rfl rfl rfl rfl rfl (plain_map plI) (fun i j i' j' b h1 => (isPos_L posI h1).elim) (by decide) (fun N hN => ?_)
 refine .ret ?_
 refine kt_ret (nthS [N]) rfl ?_ ?_ ?_
 ·rfl
 ·exact nthS_dis (by first | (simp only [List.pairwise_cons, List.forall_mem_cons, List.not_mem_nil, false_implies, implies_true, and_true, List.Pairwise.nil]; done) | (simp only [List.pairwise_cons, List.forall_mem_cons, List.not_mem_nil, false_implies, implies_true, and_true, List.Pairwise.nil]; simp [none']; done))
 ·exact nthS_all (by simp only [List.forall_mem_cons, List.not_mem_nil, false_implies, implies_true, and_true]; exact (fun b h => .inr (hN.out (gh_has rfl) (fun _ _ _ _ h => h.elim) b h)))

theorem accMap_T {f : FuncId} {cap : List (List D)} (hc : callable Try.prog f = true) (g : Aff → Aff) (a : Acc) (ha : a.2.length ≤ 1073741824) (hg : ∀ x ∈ a.2, FnT Try.prog f (ad (rA x) :: cap.map fun c => .c (.ptr c)) none' (.str (rA (g x)))) : FnT Try.prog 62 [ad (rC a), .c (.fn f cap)] (none') (.str (rC (mapC g a))) := by
 refine FnT.of_code Try.func62 rfl rfl rfl (fun O => ?_)
 refine .seq <| .region <| .cons (St1.boxP rfl rfl rfl rfl rfl rfl) <| .cons (.al 104 [.string ByteArray.empty, .slice none 0 0] rfl rfl rfl) <| .nil <| ks_n <| .seq <| .region <| .cons (.fP 0 0 false rfl rfl) <| .cons (.l1 1 rfl rfl) <| .cons (.bu [(0, .tmp 9)] [(0, 1), (1, 1)] [.string ByteArray.empty, .slice none 0 0] rfl rfl rfl rfl rfl) <| .cons (.al 105 [.string ByteArray.empty, .slice none 0 0] rfl rfl rfl) <| .cons (.sT 2 true rfl rfl rfl rfl rfl rfl rfl) <| .nil <| ks_n <| .seq <| .seq <| .region <| .cons (.fP 1 0 false rfl rfl) <| .cons (.l1 1 rfl rfl) <| .cons (.ln 37 2 32 rfl rfl rfl) <| .cons (.mv rfl rfl) <| .nil <| ks_n <| .block ?_
 refine .loopK (fun m σ => (∃ i : Nat, m = a.2.length - i ∧ (i = 0) ∧ σ = [(.t 1, .v (.o (.c (.fn f cap)))), (.t 2, .v (.o (.c (.ptr (rC a))))), (.t 4, .v (.o (.c (.box 110 2 0 0)))), (.t 5, .v (.o (.c (.box 111 2 0 0)))), (.t 12, .v (.o (vD (dAs a.2)))), (.t 13, .v (.o (nat1 (a.2.length : Nat)))), (.t 14, .v (.o (nat1 (i : Nat)))), (.t 9999, .v (.gh O)), (.b 110, .b 36 2 [[.d (dS ByteArray.empty), .d (.val (.slice none 0 0))]]), (.u 110, .u), (.b 111, .b 36 2 [[.d (dS a.1), .d (.val (.slice none 0 0))]]), (.u 111, .u)]) ∨ (∃ (i : Nat) (F : Nat → Nat → Nat → Prop), m = a.2.length - i ∧ (1 ≤ i) ∧ (i ≤ a.2.length) ∧ (FD (O) colA i F) ∧ σ = [(.t 1, .v (.o (.c (.fn f cap)))), (.t 2, .v (.o (.c (.ptr (rC a))))), (.t 4, .v (.o (.c (.box 110 2 0 0)))), (.t 5, .v (.o (.c (.box 111 2 0 0)))), (.t 12, .v (.o (vD (dAs a.2)))), (.t 13, .v (.o (nat1 (a.2.length : Nat)))), (.t 14, .v (.o (nat1 (i : Nat)))), (.t 9999, .v (.gh O)), (.b 110, .b 36 2 [[.d (dS ByteArray.empty), .d (.val (.slice none 0 0))]]), (.u 110, .u), (.b 112, .b 37 2 (dR (tagRs F 0 ((a.2.take i).map fun x => rA (g x))))), (.u 112, .u), (.b 111, .b 36 2 [[.d (dS a.1), .own 112 2 (i)]]), (.u 111, .u)])) [(110, 104), (111, 105)] (.inl ⟨0, rfl, rfl, rfl⟩) ⟨ks rfl .dt, ks rfl .dt, ks rfl (.c .bx), ks rfl (.c .bx), ks rfl .dt, ks rfl .dt, ks rfl .dt, ks rfl .dt, kb 104 rfl (.cons (.cons .dt (.cons .dt Ctos.nil)) .nil), kb 105 rfl (.cons (.cons .dt (.cons .dt Ctos.nil)) .nil), trivial⟩ ?_
 rintro m σ (⟨i, hm0, rfl, rfl⟩ | ⟨i, F, hm0, hi1, hi2, hFD, rfl⟩)
 ·skip
  refine .seq <| .region <| .cons (.ls rfl rfl rfl) <| .nil <| ks_n <| .seq ?_
  refine .cD rfl (fun h15 => ?_) (fun h15 => ?_)
  ·skip
   obtain ⟨x, hx1⟩ : ∃ x, a.2[0]? = some x := ⟨_, List.getElem?_eq_getElem (by omega)⟩
   refine .skip <| ks_n <| .seq <| .block <| .seq <| .region <| .cons (.xL 37 2 32 rfl rfl rfl rfl rfl) ?_
   refine .cons (.lN 2 rfl rfl rfl) <| .cons (.al 107 [.slice none 0 0, .int .i64 0] rfl rfl rfl) <| .cons (.sT 2 true rfl rfl rfl rfl rfl rfl rfl) <| .nil <| ks_n ?_
   refine ACode.drawT (by kernel_rfl) (by kernel_rfl) (fun Uq5_0 => ?_)
   refine .cons (fun _ => (.fB 1 0 false rfl rfl rfl)) <| .cons (fun _ => (.b1 1 rfl rfl rfl rfl rfl rfl)) <| .cons (fun _ => (.mv rfl rfl)) <| .cons (fun _ => (.bN 2 rfl rfl rfl rfl rfl rfl)) ?_
   refine .cT [.tmp 21] rfl rfl (fun _ => rfl) (fun _ => rfl) (hg x (List.mem_of_getElem? hx1)) rfl rfl nosrcV ?_ hc
   refine .cons (fun _ => (.li 37 1 0 [.tmp 22] rfl rfl rfl rfl rfl rfl)) <| .cons (fun _ => (St1.appN (k' := 124) (e := 37) (sz := 1) (by' := 32) rfl rfl rfl rfl rfl (by kernel_rfl) rfl rfl rfl (by simp) (by first | (simp [dR, tagRs_len]; done) | (simp [dR, tagRs_len]; omega)) rfl rfl)) ?_
   refine .cons (fun _ => (.fB 1 0 false rfl rfl rfl)) <| .cons (fun _ => (.sT 1 false rfl rfl rfl rfl rfl rfl rfl)) ?_
   refine .nil ⟨⟨fun _ => by kernel_rfl, by repeat' (first | exact trivial | exact .inr (.inl rfl) | exact .inr (.inr fun _ _ => rfl) | refine ⟨?_, ?_⟩ | exact .inl (by kernel_rfl)), rfl⟩, fun ρq5_0 Nq5_0 Fq5_0 Wq5_0 => ?_⟩
   obtain ⟨hR22, dR22, pR22⟩ := Fq5_0.hR Wq5_0 4 rfl rfl
   refine kb_n <| ks_n <| .region <| .cons (.pl rfl rfl rfl) <| .cons (.mv rfl rfl) <| .nil ?_
   refine kl_k [(110, 110), (111, 111), (112, 124)] (.inr ⟨1, nextF noF 0 (ρq5_0 4), rfl, by omega, by omega, (FD.zero (O) colA noF).next (new_E hR22 (.of (gh_has rfl))) dR22 (fun _ _ _ _ h => by omega), rfl⟩) ⟨ks rfl .dt, ks rfl .dt, ks rfl (.c .bx), ks rfl (.c .bx), ks rfl .dt, ks rfl .dt, ks rfl .dt, ks rfl .dt, kb 110 rfl (.cons (.cons .dt (.cons .dt Ctos.nil)) .nil), kb 124 rfl (.dt rfl (by first | rfl | (rw [← dR_tagT hx1]; rfl) | (rw [← dR_tag0 hx1]; rfl))), kb 111 rfl (.cons (.cons .dt (.cons .ow Ctos.nil)) .nil), trivial⟩
  ·skip
   have hn : a.2 = [] := List.eq_nil_of_length_eq_zero (by omega)
   refine .exit <| ks_e <| kl_e <| kb_hit <| ks_n <| .seq <| .region <| .cons (.bN 2 rfl rfl rfl rfl rfl rfl) <| .cons (.sT 2 true rfl rfl rfl rfl rfl rfl rfl) <| .nil <| ks_n <| .ret ?_
   refine kt_wret (nthS [none', none']) [(.t 4, .v (.o (.c (.box 100 2 0 0)))), (.b 100, .b 36 2 [[.d (dS a.1), (.d (.tree none' (dAs (a.2.map g))))]]), (.u 100, .u)] (Wk.keep [(100, 110)] rfl rfl ⟨ks rfl (.c .bx), kb 110 rfl (.cons (.cons .dt (.cons (Cto.nilTE 2 (by rw [hn]; rfl)) Ctos.nil)) .nil), trivial⟩) rfl ?_ ?_ ?_
   ·rfl
   ·exact nthS_dis (by first | (simp only [List.pairwise_cons, List.forall_mem_cons, List.not_mem_nil, false_implies, implies_true, and_true, List.Pairwise.nil]; done) | (simp only [List.pairwise_cons, List.forall_mem_cons, List.not_mem_nil, false_implies, implies_true, and_true, List.Pairwise.nil]; simp [none']; done))
   ·exact nthS_all (by simp only [List.forall_mem_cons, List.not_mem_nil, false_implies, implies_true, and_true]; exact ⟨(fun b h => h.elim), (fun b h => h.elim)⟩)
 ·skip
  refine .seq <| .region <| .cons (.ls rfl rfl rfl) <| .nil <| ks_n <| .seq ?_
  refine .cD rfl (fun h15 => ?_) (fun h15 => ?_)
  ·skip
   obtain ⟨x, hx1⟩ : ∃ x, a.2[i]? = some x := ⟨_, List.getElem?_eq_getElem (by omega)⟩
   refine .skip <| ks_n <| .seq <| .block <| .seq <| .region <| .cons (.xL 37 2 32 rfl rfl rfl rfl rfl) ?_
   refine .cons (.lN 2 rfl rfl rfl) <| .cons (.al 107 [.slice none 0 0, .int .i64 0] rfl rfl rfl) <| .cons (.sT 2 true rfl rfl rfl rfl rfl rfl rfl) <| .nil <| ks_n ?_
   refine ACode.drawT (by kernel_rfl) (by kernel_rfl) (fun Uq5_1 => ?_)
   refine .cons (fun _ => (.fB 1 0 false rfl rfl rfl)) <| .cons (fun _ => (.b1 1 rfl rfl rfl rfl rfl rfl)) <| .cons (fun _ => (.mv rfl rfl)) <| .cons (fun _ => (.bN 2 rfl rfl rfl rfl rfl rfl)) ?_
   refine .cT [.tmp 21] rfl rfl (fun _ => rfl) (fun _ => rfl) (hg x (List.mem_of_getElem? hx1)) rfl rfl nosrcV ?_ hc
   refine .cons (fun _ => (.li 37 1 0 [.tmp 22] rfl rfl rfl rfl rfl rfl)) <| .cons (fun _ => (St1.appB (k' := 124) (e := 37) (sz := 1) (by' := 32) rfl rfl rfl rfl rfl (by kernel_rfl) rfl rfl rfl rfl (by first | (simp [dR, tagRs_len]; done) | (simp [dR, tagRs_len]; omega)) (by first | (simp [dR, tagRs_len]; done) | (simp [dR, tagRs_len]; omega)) rfl rfl rfl)) ?_
   refine .cons (fun _ => (.fB 1 0 false rfl rfl rfl)) <| .cons (fun _ => (.sT 1 false rfl rfl rfl rfl rfl rfl rfl)) ?_
   refine .nil ⟨⟨fun _ => by kernel_rfl, by repeat' (first | exact trivial | exact .inr (.inl rfl) | exact .inr (.inr fun _ _ => rfl) | refine ⟨?_, ?_⟩ | exact .inl (by kernel_rfl)), rfl⟩, fun ρq5_1 Nq5_1 Fq5_1 Wq5_1 => ?_⟩
   obtain ⟨hR22, dR22, pR22⟩ := Fq5_1.hR Wq5_1 4 rfl rfl
   have hRF : ∀ q c c' b, q < i → colA c → F q c b → ¬ (ρq5_1 4) c' b := fun q c c' b hq hc hF hb => by
    obtain ⟨y, _, hy⟩ := tm_at (fn := (fun x => rA (g x))) hi2 hq
    have hc : c = 0 := hc
    subst hc
    exact new_of hR22 (Has.rows (k := 112) rfl hy rfl) c' b hb hF
   refine kb_n <| ks_n <| .region <| .cons (.pl rfl rfl rfl) <| .cons (.mv rfl rfl) <| .nil ?_
   refine kl_k [(110, 110), (111, 111), (112, 124)] (.inr ⟨i + 1, nextF F i (ρq5_1 4), rfl, by omega, by omega, hFD.next (new_E hR22 (.of (gh_has rfl))) dR22 hRF, rfl⟩) ⟨ks rfl .dt, ks rfl .dt, ks rfl (.c .bx), ks rfl (.c .bx), ks rfl .dt, ks rfl .dt, ks rfl .dt, ks rfl .dt, kb 110 rfl (.cons (.cons .dt (.cons .dt Ctos.nil)) .nil), kb 124 rfl (.dt rfl (by first | rfl | (rw [← dR_tagT hx1]; rfl) | (rw [← dR_tag0 hx1]; rfl))), kb 111 rfl (.cons (.cons .dt (.cons .ow Ctos.nil)) .nil), trivial⟩
  ·skip
   obtain rfl : i = a.2.length := by omega
   refine .exit <| ks_e <| kl_e <| kb_hit <| ks_n <| .seq ?_
   refine .keep [(.t 4, .v (.o (.c (.box 570 2 0 0)))), (.t 5, .v (.o (.c (.box 571 2 0 0)))), (.t 9999, .v (.gh O)), (.b 570, .b 36 2 [[.d (dS ByteArray.empty), .d (.val (.slice none 0 0))]]), (.u 570, .u), (.b 572, .b 37 2 (dR (tagRs F 0 ((a.2.map g).map rA)))), (.u 572, .u), (.b 571, .b 36 2 [[.d (dS a.1), .own 572 2 (((a.2.map g).map rA).length)]]), (.u 571, .u)] [(570, 110), (571, 111), (572, 112)] ⟨ks rfl (.c .bx), ks rfl (.c .bx), ks rfl .dt, kb 110 rfl (.cons (.cons .dt (.cons .dt Ctos.nil)) .nil), kb 112 rfl (.dt rfl (by rw [List.take_length, List.map_map]; rfl)), kb 111 rfl (.cons (.cons .dt (.cons .ow Ctos.nil)) .nil), trivial⟩ ?_
   refine ACode.packB 571 0 1 572 (rows := (a.2.map g).map rA) (F := F) rfl rfl rfl rfl rfl (plain_map plA) (hFD.pos (by simp) (fun i j h => isPos_L posA h)) (by simp; omega) (fun N hN => ?_)
   have hNO := hN.outE (.of (gh_has rfl)) hFD (by simp) (fun i j h => isPos_L posA h)
   refine .region <| .cons (.bN 2 rfl rfl rfl rfl rfl rfl) <| .cons (.sT 2 true rfl rfl rfl rfl rfl rfl rfl) <| .nil <| ks_n <| .ret ?_
   refine kt_ret (nthS [none', N]) rfl ?_ ?_ ?_
   ·rfl
   ·exact nthS_dis (by first | (simp only [List.pairwise_cons, List.forall_mem_cons, List.not_mem_nil, false_implies, implies_true, and_true, List.Pairwise.nil]; done) | (simp only [List.pairwise_cons, List.forall_mem_cons, List.not_mem_nil, false_implies, implies_true, and_true, List.Pairwise.nil]; simp [none']; done))
   ·exact nthS_all (by simp only [List.forall_mem_cons, List.not_mem_nil, false_implies, implies_true, and_true]; exact ⟨(fun b h => h.elim), (fun b h => .inr (hNO b h))⟩)

theorem posE (x : Ex) (j m : Nat) (rs : List (List D)) (h : (rE x)[j]? = some (.list m rs)) : colX j := posX x j m rs (by rw [← rE_eq]; exact h)
theorem plE (y : Ex) : (rE y).all noTree = true := by rw [rE_eq]; exact plX y
theorem tag_ex {F : Nat → Nat → Nat → Prop} (f : Ex → Ex) (l : List Ex) : tagRs F 0 ((l.take l.length).map fun x => rX (f x)) = tagRs F 0 ((l.map f).map rE) := by
  rw [List.take_length, List.map_map]
  congr 1
  exact List.map_congr_left fun x _ => (rE_eq _).symm

theorem exprMap_T1 {f : FuncId} {cap : List (List D)} (hc : callable Try.prog f = true) (g : Aff → Aff) (e : Ex) (hr : e.r.2.length ≤ 1073741824) (hk : e.ks.length ≤ 1073741824) (hg : ∀ x ∈ affsE e, FnT Try.prog f (ad (rA x) :: cap.map fun c => .c (.ptr c)) none' (.str (rA (g x)))) (ih : ∀ x ∈ e.ks, FnT Try.prog 63 [ad (rX x), .c (.fn f cap)] none' (.str (rX (mapE g x)))) : FnT Try.prog 63 [ad (rX e), .c (.fn f cap)] (none') (.str (rX (mapE g e))) := by
 refine FnT.of_code Try.func63 rfl rfl rfl (fun O => ?_)
 refine .seq <| .region <| .cons (St1.boxP rfl rfl rfl rfl rfl rfl) <| .cons (.al 104 [.int .i64 0, .int .i64 0, .slice none 0 0, .int .i64 0, .string ByteArray.empty, .slice none 0 0, .slice none 0 0] rfl rfl rfl) <| .nil <| ks_n <| .seq <| .region <| .cons (.fP 0 0 false rfl rfl) <| .cons (.l1 1 rfl rfl) <| .cons (.fP 1 0 false rfl rfl) <| .cons (.l1 1 rfl rfl) <| .cons (.bu [(0, .tmp 9), (1, .tmp 11)] [(0, 1), (1, 1), (2, 2), (4, 2), (6, 1)] [.int .i64 0, .int .i64 0, .slice none 0 0, .int .i64 0, .string ByteArray.empty, .slice none 0 0, .slice none 0 0] rfl rfl rfl rfl rfl) <| .cons (.al 105 [.int .i64 0, .int .i64 0, .slice none 0 0, .int .i64 0, .string ByteArray.empty, .slice none 0 0, .slice none 0 0] rfl rfl rfl) <| .cons (.sT 7 true rfl rfl rfl rfl rfl rfl rfl) <| .nil <| ks_n <| .seq <| .seq <| .region <| .cons (.fP 0 0 false rfl rfl) <| .cons (.l1 1 rfl rfl) <| .nil <| ks_n <| .block <| .seq <| .region <| .cons (.eq rfl rfl rfl) <| .cons (.asg rfl rfl) <| .nil <| ks_n ?_
 refine .cD rfl (fun h15 => ?_) (fun h15 => ?_)
 ·skip
  refine .region <| .cons (.mv rfl rfl) <| .cons (.fP 2 1 true rfl rfl) <| .cons (.lN 2 rfl rfl rfl) ?_
  refine AOps.cT [.tmp 19] rfl rfl rfl rfl (hg _ (affsE_i h15)) rfl rfl nosrc (fun R20 hR20 dR20 pR20 => ?_) hc
  refine .cons (.fB 2 1 true rfl rfl rfl) <| .cons (.sT 2 true rfl rfl rfl rfl rfl rfl rfl) <| .nil <| kb_n <| ks_n <| .seq <| .seq <| .region <| .cons (.fP 6 0 false rfl rfl) <| .cons (.l1 1 rfl rfl) <| .cons (.ln 40 7 112 rfl rfl rfl) <| .cons (.mv rfl rfl) <| .nil <| ks_n <| .block ?_
  refine .loopK (fun m σ => (∃ i : Nat, m = e.ks.length - i ∧ (i = 0) ∧ σ = [(.t 1, .v (.o (.c (.fn f cap)))), (.t 2, .v (.o (.c (.ptr (rX e))))), (.t 4, .v (.o (.c (.box 110 7 0 0)))), (.t 5, .v (.o (.c (.box 111 7 0 0)))), (.t 30, .v (.o (vD (dEs e.ks)))), (.t 31, .v (.o (nat1 (e.ks.length : Nat)))), (.t 32, .v (.o (nat1 (i : Nat)))), (.t 9999, .v (.gh O)), (.b 110, .b 40 7 [[.d (dI 0), .d (dI 0), .d (.val (.slice none 0 0)), .d (dI 0), .d (dS ByteArray.empty), .d (.val (.slice none 0 0)), .d (.val (.slice none 0 0))]]), (.u 110, .u), (.b 111, .b 40 7 [[.d (dI e.k), .d (dI e.n), .d (.tree (R20 0) (dIs (g e.i).1)), .d (dI (g e.i).2), .d (dS ByteArray.empty), .d (.val (.slice none 0 0)), .d (.val (.slice none 0 0))]]), (.u 111, .u)]) ∨ (∃ (i : Nat) (F : Nat → Nat → Nat → Prop), m = e.ks.length - i ∧ (1 ≤ i) ∧ (i ≤ e.ks.length) ∧ (FD (or2 O (R20 0)) colX i F) ∧ σ = [(.t 1, .v (.o (.c (.fn f cap)))), (.t 2, .v (.o (.c (.ptr (rX e))))), (.t 4, .v (.o (.c (.box 110 7 0 0)))), (.t 5, .v (.o (.c (.box 111 7 0 0)))), (.t 30, .v (.o (vD (dEs e.ks)))), (.t 31, .v (.o (nat1 (e.ks.length : Nat)))), (.t 32, .v (.o (nat1 (i : Nat)))), (.t 9999, .v (.gh O)), (.b 110, .b 40 7 [[.d (dI 0), .d (dI 0), .d (.val (.slice none 0 0)), .d (dI 0), .d (dS ByteArray.empty), .d (.val (.slice none 0 0)), .d (.val (.slice none 0 0))]]), (.u 110, .u), (.b 112, .b 40 7 (dR (tagRs F 0 ((e.ks.take i).map fun x => rX (mapE g x))))), (.u 112, .u), (.b 111, .b 40 7 [[.d (dI e.k), .d (dI e.n), .d (.tree (R20 0) (dIs (g e.i).1)), .d (dI (g e.i).2), .d (dS ByteArray.empty), .d (.val (.slice none 0 0)), .own 112 7 (i)]]), (.u 111, .u)])) [(110, 104), (111, 105)] (.inl ⟨0, rfl, rfl, rfl⟩) ⟨ks rfl .dt, ks rfl .dt, ks rfl (.c .bx), ks rfl (.c .bx), ks rfl .dt, ks rfl .dt, ks rfl .dt, ks rfl .dt, kb 104 rfl (.cons (.cons .dt (.cons .dt (.cons .dt (.cons .dt (.cons .dt (.cons .dt (.cons .dt Ctos.nil))))))) .nil), kb 105 rfl (.cons (.cons .dt (.cons .dt (.cons .dt (.cons .dt (.cons .dt (.cons .dt (.cons .dt Ctos.nil))))))) .nil), trivial⟩ ?_
  rintro m σ (⟨i, hm0, rfl, rfl⟩ | ⟨i, F, hm0, hi1, hi2, hFD, rfl⟩)
  ·skip
   refine .seq <| .region <| .cons (.ls rfl rfl rfl) <| .nil <| ks_n <| .seq ?_
   refine .cD rfl (fun h33 => ?_) (fun h33 => ?_)
   ·skip
    obtain ⟨x, hx1⟩ : ∃ x, e.ks[0]? = some x := ⟨_, List.getElem?_eq_getElem (by omega)⟩
    refine .skip <| ks_n <| .seq <| .block <| .seq <| .region <| .cons (.xL 40 7 112 rfl rfl rfl rfl rfl (rE_at hx1)) ?_
    refine .cons (.lN 7 rfl rfl rfl) <| .cons (.al 107 [.int .i64 0, .int .i64 0, .slice none 0 0, .int .i64 0, .string ByteArray.empty, .slice none 0 0, .slice none 0 0] rfl rfl rfl) <| .cons (.sT 7 true rfl rfl rfl rfl rfl rfl rfl) <| .nil <| ks_n ?_
    refine ACode.drawT (by kernel_rfl) (by kernel_rfl) (fun Uq10_0 => ?_)
    refine .cons (fun _ => (.fB 6 0 false rfl rfl rfl)) <| .cons (fun _ => (.b1 1 rfl rfl rfl rfl rfl rfl)) <| .cons (fun _ => (.bN 7 rfl rfl rfl rfl rfl rfl)) <| .cons (fun _ => (.mv rfl rfl)) ?_
    refine .cT [.tmp 38, .tmp 39] rfl rfl (fun _ => rfl) (fun _ => rfl) (ih x (List.mem_of_getElem? hx1)) rfl rfl nosrcV ?_
    refine .cons (fun _ => (.li 40 6 0 [.tmp 40] rfl rfl rfl rfl rfl rfl)) <| .cons (fun _ => (St1.appN (k' := 142) (e := 40) (sz := 6) (by' := 112) rfl rfl rfl rfl rfl (by kernel_rfl) rfl rfl rfl (by simp) (by first | (simp [dR, tagRs_len]; done) | (simp [dR, tagRs_len]; omega)) rfl rfl)) ?_
    refine .cons (fun _ => (.fB 6 0 false rfl rfl rfl)) <| .cons (fun _ => (.sT 1 false rfl rfl rfl rfl rfl rfl rfl)) ?_
    refine .nil ⟨⟨fun _ => by kernel_rfl, by repeat' (first | exact trivial | exact .inr (.inl rfl) | exact .inr (.inr fun _ _ => rfl) | refine ⟨?_, ?_⟩ | exact .inl (by kernel_rfl)), rfl⟩, fun ρq10_0 Nq10_0 Fq10_0 Wq10_0 => ?_⟩
    obtain ⟨hR40, dR40, pR40⟩ := Fq10_0.hR Wq10_0 4 rfl rfl
    refine kb_n <| ks_n <| .region <| .cons (.pl rfl rfl rfl) <| .cons (.mv rfl rfl) <| .nil ?_
    refine kl_k [(110, 110), (111, 111), (112, 142)] (.inr ⟨1, nextF noF 0 (ρq10_0 4), rfl, by omega, by omega, (FD.zero (or2 O (R20 0)) colX noF).next (new_E hR40 ((HasE.of (gh_has rfl)).or (.of (Has.box (i := 0) (j := 2) 111 rfl rfl rfl (.d (.tree _)))))) dR40 (fun _ _ _ _ h => by omega), rfl⟩) ⟨ks rfl .dt, ks rfl .dt, ks rfl (.c .bx), ks rfl (.c .bx), ks rfl .dt, ks rfl .dt, ks rfl .dt, ks rfl .dt, kb 110 rfl (.cons (.cons .dt (.cons .dt (.cons .dt (.cons .dt (.cons .dt (.cons .dt (.cons .dt Ctos.nil))))))) .nil), kb 142 rfl (.dt rfl (by first | rfl | (rw [← dR_tagT hx1]; rfl) | (rw [← dR_tag0 hx1]; rfl))), kb 111 rfl (.cons (.cons .dt (.cons .dt (.cons .dt (.cons .dt (.cons .dt (.cons .dt (.cons .ow Ctos.nil))))))) .nil), trivial⟩
   ·skip
    have hn : e.ks = [] := List.eq_nil_of_length_eq_zero (by omega)
    refine .exit <| ks_e <| kl_e <| kb_hit <| ks_n <| .seq <| .region <| .cons (.bN 7 rfl rfl rfl rfl rfl rfl) <| .cons (.sT 7 true rfl rfl rfl rfl rfl rfl rfl) <| .nil <| ks_n <| .ret ?_
    refine kt_wret (nthS [none', none', R20 0, none', none', none', none']) [(.t 4, .v (.o (.c (.box 100 7 0 0)))), (.b 100, .b 40 7 [[.d (dI e.k), .d (dI e.n), (.d (.tree (R20 0) (dIs (if e.k = 2 then g e.i else ([], 0)).1))), .d (dI (if e.k = 2 then g e.i else ([], 0)).2), .d (dS (if e.k = 3 then mapC g e.r else (ByteArray.empty, [])).1), (.d (.tree none' (dAs (if e.k = 3 then mapC g e.r else (ByteArray.empty, [])).2))), (.d (.tree none' (dEs (e.ks.map (mapE g)))))]]), (.u 100, .u)] (Wk.keep [(100, 110)] rfl rfl ⟨ks rfl (.c .bx), kb 110 rfl (.cons (.cons .dt (.cons .dt (.cons (.dt (by rw [if_pos h15])) (.cons (.dt (by first | (rw [if_pos h15]; done) | (rw [if_pos h22]; done) | (rw [if_neg (show ¬ e.k = 2 by omega)]; done) | (rw [if_neg (show ¬ e.k = 3 by omega)]; done))) (.cons (.dt (by first | (rw [if_pos h15]; done) | (rw [if_pos h22]; done) | (rw [if_neg (show ¬ e.k = 2 by omega)]; done) | (rw [if_neg (show ¬ e.k = 3 by omega)]; done))) (.cons (Cto.nilTE 2 (by rw [if_neg (show ¬ e.k = 3 by first | assumption | omega)]; rfl)) (.cons (Cto.nilTE 7 (by rw [hn]; rfl)) Ctos.nil))))))) .nil), trivial⟩) rfl ?_ ?_ ?_
    ·rw [rX_map]; rfl
    ·exact nthS_dis (by first | (simp only [List.pairwise_cons, List.forall_mem_cons, List.not_mem_nil, false_implies, implies_true, and_true, List.Pairwise.nil]; done) | (simp only [List.pairwise_cons, List.forall_mem_cons, List.not_mem_nil, false_implies, implies_true, and_true, List.Pairwise.nil]; simp [none']; done) | (simp only [List.pairwise_cons, List.forall_mem_cons, List.not_mem_nil, false_implies, implies_true, and_true, List.Pairwise.nil]; simp [none']; exact fun b h1 h2 => hNO b h2 (.inr h1)))
    ·exact nthS_all (by simp only [List.forall_mem_cons, List.not_mem_nil, false_implies, implies_true, and_true]; exact ⟨(fun b h => h.elim), (fun b h => h.elim), (fun b h => .inr ((new_of hR20 (gh_has rfl) 0) b h)), (fun b h => h.elim), (fun b h => h.elim), (fun b h => h.elim), (fun b h => h.elim)⟩)
  ·skip
   refine .seq <| .region <| .cons (.ls rfl rfl rfl) <| .nil <| ks_n <| .seq ?_
   refine .cD rfl (fun h33 => ?_) (fun h33 => ?_)
   ·skip
    obtain ⟨x, hx1⟩ : ∃ x, e.ks[i]? = some x := ⟨_, List.getElem?_eq_getElem (by omega)⟩
    refine .skip <| ks_n <| .seq <| .block <| .seq <| .region <| .cons (.xL 40 7 112 rfl rfl rfl rfl rfl (rE_at hx1)) ?_
    refine .cons (.lN 7 rfl rfl rfl) <| .cons (.al 107 [.int .i64 0, .int .i64 0, .slice none 0 0, .int .i64 0, .string ByteArray.empty, .slice none 0 0, .slice none 0 0] rfl rfl rfl) <| .cons (.sT 7 true rfl rfl rfl rfl rfl rfl rfl) <| .nil <| ks_n ?_
    refine ACode.drawT (by kernel_rfl) (by kernel_rfl) (fun Uq10_1 => ?_)
    refine .cons (fun _ => (.fB 6 0 false rfl rfl rfl)) <| .cons (fun _ => (.b1 1 rfl rfl rfl rfl rfl rfl)) <| .cons (fun _ => (.bN 7 rfl rfl rfl rfl rfl rfl)) <| .cons (fun _ => (.mv rfl rfl)) ?_
    refine .cT [.tmp 38, .tmp 39] rfl rfl (fun _ => rfl) (fun _ => rfl) (ih x (List.mem_of_getElem? hx1)) rfl rfl nosrcV ?_
    refine .cons (fun _ => (.li 40 6 0 [.tmp 40] rfl rfl rfl rfl rfl rfl)) <| .cons (fun _ => (St1.appB (k' := 142) (e := 40) (sz := 6) (by' := 112) rfl rfl rfl rfl rfl (by kernel_rfl) rfl rfl rfl rfl (by first | (simp [dR, tagRs_len]; done) | (simp [dR, tagRs_len]; omega)) (by first | (simp [dR, tagRs_len]; done) | (simp [dR, tagRs_len]; omega)) rfl rfl rfl)) ?_
    refine .cons (fun _ => (.fB 6 0 false rfl rfl rfl)) <| .cons (fun _ => (.sT 1 false rfl rfl rfl rfl rfl rfl rfl)) ?_
    refine .nil ⟨⟨fun _ => by kernel_rfl, by repeat' (first | exact trivial | exact .inr (.inl rfl) | exact .inr (.inr fun _ _ => rfl) | refine ⟨?_, ?_⟩ | exact .inl (by kernel_rfl)), rfl⟩, fun ρq10_1 Nq10_1 Fq10_1 Wq10_1 => ?_⟩
    obtain ⟨hR40, dR40, pR40⟩ := Fq10_1.hR Wq10_1 4 rfl rfl
    have hRF : ∀ q c c' b, q < i → colX c → F q c b → ¬ (ρq10_1 4) c' b := fun q c c' b hq hc hF hb => by
     obtain ⟨y, _, hy⟩ := tm_at (fn := (fun x => rX (mapE g x))) hi2 hq
     rcases hc with rfl | rfl | rfl
     ·exact new_of hR40 (Has.rows (k := 112) rfl hy rfl) c' b hb hF
     ·exact new_of hR40 (Has.rows (k := 112) rfl hy rfl) c' b hb hF
     ·exact new_of hR40 (Has.rows (k := 112) rfl hy rfl) c' b hb hF
    refine kb_n <| ks_n <| .region <| .cons (.pl rfl rfl rfl) <| .cons (.mv rfl rfl) <| .nil ?_
    refine kl_k [(110, 110), (111, 111), (112, 142)] (.inr ⟨i + 1, nextF F i (ρq10_1 4), rfl, by omega, by omega, hFD.next (new_E hR40 ((HasE.of (gh_has rfl)).or (.of (Has.box (i := 0) (j := 2) 111 rfl rfl rfl (.d (.tree _)))))) dR40 hRF, rfl⟩) ⟨ks rfl .dt, ks rfl .dt, ks rfl (.c .bx), ks rfl (.c .bx), ks rfl .dt, ks rfl .dt, ks rfl .dt, ks rfl .dt, kb 110 rfl (.cons (.cons .dt (.cons .dt (.cons .dt (.cons .dt (.cons .dt (.cons .dt (.cons .dt Ctos.nil))))))) .nil), kb 142 rfl (.dt rfl (by first | rfl | (rw [← dR_tagT hx1]; rfl) | (rw [← dR_tag0 hx1]; rfl))), kb 111 rfl (.cons (.cons .dt (.cons .dt (.cons .dt (.cons .dt (.cons .dt (.cons .dt (.cons .ow Ctos.nil))))))) .nil), trivial⟩
   ·skip
    obtain rfl : i = e.ks.length := by omega
    refine .exit <| ks_e <| kl_e <| kb_hit <| ks_n <| .seq ?_
    refine .keep [(.t 4, .v (.o (.c (.box 570 7 0 0)))), (.t 5, .v (.o (.c (.box 571 7 0 0)))), (.t 9999, .v (.gh O)), (.b 570, .b 40 7 [[.d (dI 0), .d (dI 0), .d (.val (.slice none 0 0)), .d (dI 0), .d (dS ByteArray.empty), .d (.val (.slice none 0 0)), .d (.val (.slice none 0 0))]]), (.u 570, .u), (.b 572, .b 40 7 (dR (tagRs F 0 ((e.ks.map (mapE g)).map rE)))), (.u 572, .u), (.b 571, .b 40 7 [[.d (dI e.k), .d (dI e.n), .d (.tree (R20 0) (dIs (g e.i).1)), .d (dI (g e.i).2), .d (dS ByteArray.empty), .d (.val (.slice none 0 0)), .own 572 7 (((e.ks.map (mapE g)).map rE).length)]]), (.u 571, .u)] [(570, 110), (571, 111), (572, 112)] ⟨ks rfl (.c .bx), ks rfl (.c .bx), ks rfl .dt, kb 110 rfl (.cons (.cons .dt (.cons .dt (.cons .dt (.cons .dt (.cons .dt (.cons .dt (.cons .dt Ctos.nil))))))) .nil), kb 112 rfl (.dt rfl (by rw [tag_ex])), kb 111 rfl (.cons (.cons .dt (.cons .dt (.cons .dt (.cons .dt (.cons .dt (.cons .dt (.cons .ow Ctos.nil))))))) .nil), trivial⟩ ?_
    refine ACode.packB 571 0 6 572 (rows := (e.ks.map (mapE g)).map rE) (F := F) rfl rfl rfl rfl rfl (plain_map plE) (hFD.pos (by simp) (fun i j h => isPos_L posE h)) (by simp; omega) (fun N hN => ?_)
    have hNO := hN.outE ((HasE.of (gh_has rfl)).or (.of (Has.box (i := 0) (j := 2) 571 rfl rfl rfl (.d (.tree _))))) hFD (by simp) (fun i j h => isPos_L posE h)
    refine .region <| .cons (.bN 7 rfl rfl rfl rfl rfl rfl) <| .cons (.sT 7 true rfl rfl rfl rfl rfl rfl rfl) <| .nil <| ks_n <| .ret ?_
    refine kt_wret (nthS [none', none', R20 0, none', none', none', N]) [(.t 4, .v (.o (.c (.box 100 7 0 0)))), (.b 100, .b 40 7 [[.d (dI e.k), .d (dI e.n), (.d (.tree (R20 0) (dIs (if e.k = 2 then g e.i else ([], 0)).1))), .d (dI (if e.k = 2 then g e.i else ([], 0)).2), .d (dS (if e.k = 3 then mapC g e.r else (ByteArray.empty, [])).1), (.d (.tree none' (dAs (if e.k = 3 then mapC g e.r else (ByteArray.empty, [])).2))), .d (.tree N (dEs (e.ks.map (mapE g))))]]), (.u 100, .u)] (Wk.keep [(100, 570)] rfl rfl ⟨ks rfl (.c .bx), kb 570 rfl (.cons (.cons .dt (.cons .dt (.cons (.dt (by rw [if_pos h15])) (.cons (.dt (by first | (rw [if_pos h15]; done) | (rw [if_pos h22]; done) | (rw [if_neg (show ¬ e.k = 2 by omega)]; done) | (rw [if_neg (show ¬ e.k = 3 by omega)]; done))) (.cons (.dt (by first | (rw [if_pos h15]; done) | (rw [if_pos h22]; done) | (rw [if_neg (show ¬ e.k = 2 by omega)]; done) | (rw [if_neg (show ¬ e.k = 3 by omega)]; done))) (.cons (Cto.nilTE 2 (by rw [if_neg (show ¬ e.k = 3 by first | assumption | omega)]; rfl)) (.cons .dt Ctos.nil))))))) .nil), trivial⟩) rfl ?_ ?_ ?_
    ·rw [rX_map]; rfl
    ·exact nthS_dis (by first | (simp only [List.pairwise_cons, List.forall_mem_cons, List.not_mem_nil, false_implies, implies_true, and_true, List.Pairwise.nil]; done) | (simp only [List.pairwise_cons, List.forall_mem_cons, List.not_mem_nil, false_implies, implies_true, and_true, List.Pairwise.nil]; simp [none']; done) | (simp only [List.pairwise_cons, List.forall_mem_cons, List.not_mem_nil, false_implies, implies_true, and_true, List.Pairwise.nil]; simp [none']; exact fun b h1 h2 => hNO b h2 (.inr h1)))
    ·exact nthS_all (by simp only [List.forall_mem_cons, List.not_mem_nil, false_implies, implies_true, and_true]; exact ⟨(fun b h => h.elim), (fun b h => h.elim), (fun b h => .inr ((new_of hR20 (gh_has rfl) 0) b h)), (fun b h => h.elim), (fun b h => h.elim), (fun b h => h.elim), (fun b h => .inr (fun hO => hNO b h (.inl hO)))⟩)
 ·skip
  refine .seq <| .region <| .cons (.eq rfl rfl rfl) <| .cons (.asg rfl rfl) <| .nil <| ks_n ?_
  refine .cD rfl (fun h22 => ?_) (fun h22 => ?_)
  ·skip
   refine .region <| .cons (.fP 4 1 true rfl rfl) <| .cons (.lN 2 rfl rfl rfl) <| .cons (.mv rfl rfl) ?_
   refine AOps.cT [.tmp 25, .tmp 26] rfl rfl rfl rfl (accMap_T hc g e.r hr (fun x hx => hg x (affsE_r h22 hx))) rfl rfl nosrc (fun R27 hR27 dR27 pR27 => ?_)
   refine .cons (.fB 4 1 true rfl rfl rfl) <| .cons (.sT 2 true rfl rfl rfl rfl rfl rfl rfl) <| .nil <| kb_n <| ks_n <| .seq <| .seq <| .region <| .cons (.fP 6 0 false rfl rfl) <| .cons (.l1 1 rfl rfl) <| .cons (.ln 40 7 112 rfl rfl rfl) <| .cons (.mv rfl rfl) <| .nil <| ks_n <| .block ?_
   refine .loopK (fun m σ => (∃ i : Nat, m = e.ks.length - i ∧ (i = 0) ∧ σ = [(.t 1, .v (.o (.c (.fn f cap)))), (.t 2, .v (.o (.c (.ptr (rX e))))), (.t 4, .v (.o (.c (.box 110 7 0 0)))), (.t 5, .v (.o (.c (.box 111 7 0 0)))), (.t 30, .v (.o (vD (dEs e.ks)))), (.t 31, .v (.o (nat1 (e.ks.length : Nat)))), (.t 32, .v (.o (nat1 (i : Nat)))), (.t 9999, .v (.gh O)), (.b 110, .b 40 7 [[.d (dI 0), .d (dI 0), .d (.val (.slice none 0 0)), .d (dI 0), .d (dS ByteArray.empty), .d (.val (.slice none 0 0)), .d (.val (.slice none 0 0))]]), (.u 110, .u), (.b 111, .b 40 7 [[.d (dI e.k), .d (dI e.n), .d (.val (.slice none 0 0)), .d (dI 0), .d (dS (mapC g e.r).1), .d (.tree (R27 1) (dAs (mapC g e.r).2)), .d (.val (.slice none 0 0))]]), (.u 111, .u)]) ∨ (∃ (i : Nat) (F : Nat → Nat → Nat → Prop), m = e.ks.length - i ∧ (1 ≤ i) ∧ (i ≤ e.ks.length) ∧ (FD (or2 O (R27 1)) colX i F) ∧ σ = [(.t 1, .v (.o (.c (.fn f cap)))), (.t 2, .v (.o (.c (.ptr (rX e))))), (.t 4, .v (.o (.c (.box 110 7 0 0)))), (.t 5, .v (.o (.c (.box 111 7 0 0)))), (.t 30, .v (.o (vD (dEs e.ks)))), (.t 31, .v (.o (nat1 (e.ks.length : Nat)))), (.t 32, .v (.o (nat1 (i : Nat)))), (.t 9999, .v (.gh O)), (.b 110, .b 40 7 [[.d (dI 0), .d (dI 0), .d (.val (.slice none 0 0)), .d (dI 0), .d (dS ByteArray.empty), .d (.val (.slice none 0 0)), .d (.val (.slice none 0 0))]]), (.u 110, .u), (.b 112, .b 40 7 (dR (tagRs F 0 ((e.ks.take i).map fun x => rX (mapE g x))))), (.u 112, .u), (.b 111, .b 40 7 [[.d (dI e.k), .d (dI e.n), .d (.val (.slice none 0 0)), .d (dI 0), .d (dS (mapC g e.r).1), .d (.tree (R27 1) (dAs (mapC g e.r).2)), .own 112 7 (i)]]), (.u 111, .u)])) [(110, 104), (111, 105)] (.inl ⟨0, rfl, rfl, rfl⟩) ⟨ks rfl .dt, ks rfl .dt, ks rfl (.c .bx), ks rfl (.c .bx), ks rfl .dt, ks rfl .dt, ks rfl .dt, ks rfl .dt, kb 104 rfl (.cons (.cons .dt (.cons .dt (.cons .dt (.cons .dt (.cons .dt (.cons .dt (.cons .dt Ctos.nil))))))) .nil), kb 105 rfl (.cons (.cons .dt (.cons .dt (.cons .dt (.cons .dt (.cons .dt (.cons .dt (.cons .dt Ctos.nil))))))) .nil), trivial⟩ ?_
   rintro m σ (⟨i, hm0, rfl, rfl⟩ | ⟨i, F, hm0, hi1, hi2, hFD, rfl⟩)
   ·skip
    refine .seq <| .region <| .cons (.ls rfl rfl rfl) <| .nil <| ks_n <| .seq ?_
    refine .cD rfl (fun h33 => ?_) (fun h33 => ?_)
    ·skip
     obtain ⟨x, hx1⟩ : ∃ x, e.ks[0]? = some x := ⟨_, List.getElem?_eq_getElem (by omega)⟩
     refine .skip <| ks_n <| .seq <| .block <| .seq <| .region <| .cons (.xL 40 7 112 rfl rfl rfl rfl rfl (rE_at hx1)) ?_
     refine .cons (.lN 7 rfl rfl rfl) <| .cons (.al 107 [.int .i64 0, .int .i64 0, .slice none 0 0, .int .i64 0, .string ByteArray.empty, .slice none 0 0, .slice none 0 0] rfl rfl rfl) <| .cons (.sT 7 true rfl rfl rfl rfl rfl rfl rfl) <| .nil <| ks_n ?_
     refine ACode.drawT (by kernel_rfl) (by kernel_rfl) (fun Uq10_2 => ?_)
     refine .cons (fun _ => (.fB 6 0 false rfl rfl rfl)) <| .cons (fun _ => (.b1 1 rfl rfl rfl rfl rfl rfl)) <| .cons (fun _ => (.bN 7 rfl rfl rfl rfl rfl rfl)) <| .cons (fun _ => (.mv rfl rfl)) ?_
     refine .cT [.tmp 38, .tmp 39] rfl rfl (fun _ => rfl) (fun _ => rfl) (ih x (List.mem_of_getElem? hx1)) rfl rfl nosrcV ?_
     refine .cons (fun _ => (.li 40 6 0 [.tmp 40] rfl rfl rfl rfl rfl rfl)) <| .cons (fun _ => (St1.appN (k' := 142) (e := 40) (sz := 6) (by' := 112) rfl rfl rfl rfl rfl (by kernel_rfl) rfl rfl rfl (by simp) (by first | (simp [dR, tagRs_len]; done) | (simp [dR, tagRs_len]; omega)) rfl rfl)) ?_
     refine .cons (fun _ => (.fB 6 0 false rfl rfl rfl)) <| .cons (fun _ => (.sT 1 false rfl rfl rfl rfl rfl rfl rfl)) ?_
     refine .nil ⟨⟨fun _ => by kernel_rfl, by repeat' (first | exact trivial | exact .inr (.inl rfl) | exact .inr (.inr fun _ _ => rfl) | refine ⟨?_, ?_⟩ | exact .inl (by kernel_rfl)), rfl⟩, fun ρq10_2 Nq10_2 Fq10_2 Wq10_2 => ?_⟩
     obtain ⟨hR40, dR40, pR40⟩ := Fq10_2.hR Wq10_2 4 rfl rfl
     refine kb_n <| ks_n <| .region <| .cons (.pl rfl rfl rfl) <| .cons (.mv rfl rfl) <| .nil ?_
     refine kl_k [(110, 110), (111, 111), (112, 142)] (.inr ⟨1, nextF noF 0 (ρq10_2 4), rfl, by omega, by omega, (FD.zero (or2 O (R27 1)) colX noF).next (new_E hR40 ((HasE.of (gh_has rfl)).or (.of (Has.box (i := 0) (j := 5) 111 rfl rfl rfl (.d (.tree _)))))) dR40 (fun _ _ _ _ h => by omega), rfl⟩) ⟨ks rfl .dt, ks rfl .dt, ks rfl (.c .bx), ks rfl (.c .bx), ks rfl .dt, ks rfl .dt, ks rfl .dt, ks rfl .dt, kb 110 rfl (.cons (.cons .dt (.cons .dt (.cons .dt (.cons .dt (.cons .dt (.cons .dt (.cons .dt Ctos.nil))))))) .nil), kb 142 rfl (.dt rfl (by first | rfl | (rw [← dR_tagT hx1]; rfl) | (rw [← dR_tag0 hx1]; rfl))), kb 111 rfl (.cons (.cons .dt (.cons .dt (.cons .dt (.cons .dt (.cons .dt (.cons .dt (.cons .ow Ctos.nil))))))) .nil), trivial⟩
    ·skip
     have hn : e.ks = [] := List.eq_nil_of_length_eq_zero (by omega)
     refine .exit <| ks_e <| kl_e <| kb_hit <| ks_n <| .seq <| .region <| .cons (.bN 7 rfl rfl rfl rfl rfl rfl) <| .cons (.sT 7 true rfl rfl rfl rfl rfl rfl rfl) <| .nil <| ks_n <| .ret ?_
     refine kt_wret (nthS [none', none', none', none', none', R27 1, none']) [(.t 4, .v (.o (.c (.box 100 7 0 0)))), (.b 100, .b 40 7 [[.d (dI e.k), .d (dI e.n), (.d (.tree none' (dIs (if e.k = 2 then g e.i else ([], 0)).1))), .d (dI (if e.k = 2 then g e.i else ([], 0)).2), .d (dS (if e.k = 3 then mapC g e.r else (ByteArray.empty, [])).1), (.d (.tree (R27 1) (dAs (if e.k = 3 then mapC g e.r else (ByteArray.empty, [])).2))), (.d (.tree none' (dEs (e.ks.map (mapE g)))))]]), (.u 100, .u)] (Wk.keep [(100, 110)] rfl rfl ⟨ks rfl (.c .bx), kb 110 rfl (.cons (.cons .dt (.cons .dt (.cons (Cto.nilTE 1 (by rw [if_neg (show ¬ e.k = 2 by first | assumption | omega)]; rfl)) (.cons (.dt (by first | (rw [if_pos h15]; done) | (rw [if_pos h22]; done) | (rw [if_neg (show ¬ e.k = 2 by omega)]; done) | (rw [if_neg (show ¬ e.k = 3 by omega)]; done))) (.cons (.dt (by first | (rw [if_pos h15]; done) | (rw [if_pos h22]; done) | (rw [if_neg (show ¬ e.k = 2 by omega)]; done) | (rw [if_neg (show ¬ e.k = 3 by omega)]; done))) (.cons (.dt (by rw [if_pos h22])) (.cons (Cto.nilTE 7 (by rw [hn]; rfl)) Ctos.nil))))))) .nil), trivial⟩) rfl ?_ ?_ ?_
     ·rw [rX_map]; rfl
     ·exact nthS_dis (by first | (simp only [List.pairwise_cons, List.forall_mem_cons, List.not_mem_nil, false_implies, implies_true, and_true, List.Pairwise.nil]; done) | (simp only [List.pairwise_cons, List.forall_mem_cons, List.not_mem_nil, false_implies, implies_true, and_true, List.Pairwise.nil]; simp [none']; done) | (simp only [List.pairwise_cons, List.forall_mem_cons, List.not_mem_nil, false_implies, implies_true, and_true, List.Pairwise.nil]; simp [none']; exact fun b h1 h2 => hNO b h2 (.inr h1)))
     ·exact nthS_all (by simp only [List.forall_mem_cons, List.not_mem_nil, false_implies, implies_true, and_true]; exact ⟨(fun b h => h.elim), (fun b h => h.elim), (fun b h => h.elim), (fun b h => h.elim), (fun b h => h.elim), (fun b h => .inr ((new_of hR27 (gh_has rfl) 1) b h)), (fun b h => h.elim)⟩)
   ·skip
    refine .seq <| .region <| .cons (.ls rfl rfl rfl) <| .nil <| ks_n <| .seq ?_
    refine .cD rfl (fun h33 => ?_) (fun h33 => ?_)
    ·skip
     obtain ⟨x, hx1⟩ : ∃ x, e.ks[i]? = some x := ⟨_, List.getElem?_eq_getElem (by omega)⟩
     refine .skip <| ks_n <| .seq <| .block <| .seq <| .region <| .cons (.xL 40 7 112 rfl rfl rfl rfl rfl (rE_at hx1)) ?_
     refine .cons (.lN 7 rfl rfl rfl) <| .cons (.al 107 [.int .i64 0, .int .i64 0, .slice none 0 0, .int .i64 0, .string ByteArray.empty, .slice none 0 0, .slice none 0 0] rfl rfl rfl) <| .cons (.sT 7 true rfl rfl rfl rfl rfl rfl rfl) <| .nil <| ks_n ?_
     refine ACode.drawT (by kernel_rfl) (by kernel_rfl) (fun Uq10_3 => ?_)
     refine .cons (fun _ => (.fB 6 0 false rfl rfl rfl)) <| .cons (fun _ => (.b1 1 rfl rfl rfl rfl rfl rfl)) <| .cons (fun _ => (.bN 7 rfl rfl rfl rfl rfl rfl)) <| .cons (fun _ => (.mv rfl rfl)) ?_
     refine .cT [.tmp 38, .tmp 39] rfl rfl (fun _ => rfl) (fun _ => rfl) (ih x (List.mem_of_getElem? hx1)) rfl rfl nosrcV ?_
     refine .cons (fun _ => (.li 40 6 0 [.tmp 40] rfl rfl rfl rfl rfl rfl)) <| .cons (fun _ => (St1.appB (k' := 142) (e := 40) (sz := 6) (by' := 112) rfl rfl rfl rfl rfl (by kernel_rfl) rfl rfl rfl rfl (by first | (simp [dR, tagRs_len]; done) | (simp [dR, tagRs_len]; omega)) (by first | (simp [dR, tagRs_len]; done) | (simp [dR, tagRs_len]; omega)) rfl rfl rfl)) ?_
     refine .cons (fun _ => (.fB 6 0 false rfl rfl rfl)) <| .cons (fun _ => (.sT 1 false rfl rfl rfl rfl rfl rfl rfl)) ?_
     refine .nil ⟨⟨fun _ => by kernel_rfl, by repeat' (first | exact trivial | exact .inr (.inl rfl) | exact .inr (.inr fun _ _ => rfl) | refine ⟨?_, ?_⟩ | exact .inl (by kernel_rfl)), rfl⟩, fun ρq10_3 Nq10_3 Fq10_3 Wq10_3 => ?_⟩
     obtain ⟨hR40, dR40, pR40⟩ := Fq10_3.hR Wq10_3 4 rfl rfl
     have hRF : ∀ q c c' b, q < i → colX c → F q c b → ¬ (ρq10_3 4) c' b := fun q c c' b hq hc hF hb => by
      obtain ⟨y, _, hy⟩ := tm_at (fn := (fun x => rX (mapE g x))) hi2 hq
      rcases hc with rfl | rfl | rfl
      ·exact new_of hR40 (Has.rows (k := 112) rfl hy rfl) c' b hb hF
      ·exact new_of hR40 (Has.rows (k := 112) rfl hy rfl) c' b hb hF
      ·exact new_of hR40 (Has.rows (k := 112) rfl hy rfl) c' b hb hF
     refine kb_n <| ks_n <| .region <| .cons (.pl rfl rfl rfl) <| .cons (.mv rfl rfl) <| .nil ?_
     refine kl_k [(110, 110), (111, 111), (112, 142)] (.inr ⟨i + 1, nextF F i (ρq10_3 4), rfl, by omega, by omega, hFD.next (new_E hR40 ((HasE.of (gh_has rfl)).or (.of (Has.box (i := 0) (j := 5) 111 rfl rfl rfl (.d (.tree _)))))) dR40 hRF, rfl⟩) ⟨ks rfl .dt, ks rfl .dt, ks rfl (.c .bx), ks rfl (.c .bx), ks rfl .dt, ks rfl .dt, ks rfl .dt, ks rfl .dt, kb 110 rfl (.cons (.cons .dt (.cons .dt (.cons .dt (.cons .dt (.cons .dt (.cons .dt (.cons .dt Ctos.nil))))))) .nil), kb 142 rfl (.dt rfl (by first | rfl | (rw [← dR_tagT hx1]; rfl) | (rw [← dR_tag0 hx1]; rfl))), kb 111 rfl (.cons (.cons .dt (.cons .dt (.cons .dt (.cons .dt (.cons .dt (.cons .dt (.cons .ow Ctos.nil))))))) .nil), trivial⟩
    ·skip
     obtain rfl : i = e.ks.length := by omega
     refine .exit <| ks_e <| kl_e <| kb_hit <| ks_n <| .seq ?_
     refine .keep [(.t 4, .v (.o (.c (.box 570 7 0 0)))), (.t 5, .v (.o (.c (.box 571 7 0 0)))), (.t 9999, .v (.gh O)), (.b 570, .b 40 7 [[.d (dI 0), .d (dI 0), .d (.val (.slice none 0 0)), .d (dI 0), .d (dS ByteArray.empty), .d (.val (.slice none 0 0)), .d (.val (.slice none 0 0))]]), (.u 570, .u), (.b 572, .b 40 7 (dR (tagRs F 0 ((e.ks.map (mapE g)).map rE)))), (.u 572, .u), (.b 571, .b 40 7 [[.d (dI e.k), .d (dI e.n), .d (.val (.slice none 0 0)), .d (dI 0), .d (dS (mapC g e.r).1), .d (.tree (R27 1) (dAs (mapC g e.r).2)), .own 572 7 (((e.ks.map (mapE g)).map rE).length)]]), (.u 571, .u)] [(570, 110), (571, 111), (572, 112)] ⟨ks rfl (.c .bx), ks rfl (.c .bx), ks rfl .dt, kb 110 rfl (.cons (.cons .dt (.cons .dt (.cons .dt (.cons .dt (.cons .dt (.cons .dt (.cons .dt Ctos.nil))))))) .nil), kb 112 rfl (.dt rfl (by rw [tag_ex])), kb 111 rfl (.cons (.cons .dt (.cons .dt (.cons .dt (.cons .dt (.cons .dt (.cons .dt (.cons .ow Ctos.nil))))))) .nil), trivial⟩ ?_
     refine ACode.packB 571 0 6 572 (rows := (e.ks.map (mapE g)).map rE) (F := F) rfl rfl rfl rfl rfl (plain_map plE) (hFD.pos (by simp) (fun i j h => isPos_L posE h)) (by simp; omega) (fun N hN => ?_)
     have hNO := hN.outE ((HasE.of (gh_has rfl)).or (.of (Has.box (i := 0) (j := 5) 571 rfl rfl rfl (.d (.tree _))))) hFD (by simp) (fun i j h => isPos_L posE h)
     refine .region <| .cons (.bN 7 rfl rfl rfl rfl rfl rfl) <| .cons (.sT 7 true rfl rfl rfl rfl rfl rfl rfl) <| .nil <| ks_n <| .ret ?_
     refine kt_wret (nthS [none', none', none', none', none', R27 1, N]) [(.t 4, .v (.o (.c (.box 100 7 0 0)))), (.b 100, .b 40 7 [[.d (dI e.k), .d (dI e.n), (.d (.tree none' (dIs (if e.k = 2 then g e.i else ([], 0)).1))), .d (dI (if e.k = 2 then g e.i else ([], 0)).2), .d (dS (if e.k = 3 then mapC g e.r else (ByteArray.empty, [])).1), (.d (.tree (R27 1) (dAs (if e.k = 3 then mapC g e.r else (ByteArray.empty, [])).2))), .d (.tree N (dEs (e.ks.map (mapE g))))]]), (.u 100, .u)] (Wk.keep [(100, 570)] rfl rfl ⟨ks rfl (.c .bx), kb 570 rfl (.cons (.cons .dt (.cons .dt (.cons (Cto.nilTE 1 (by rw [if_neg (show ¬ e.k = 2 by first | assumption | omega)]; rfl)) (.cons (.dt (by first | (rw [if_pos h15]; done) | (rw [if_pos h22]; done) | (rw [if_neg (show ¬ e.k = 2 by omega)]; done) | (rw [if_neg (show ¬ e.k = 3 by omega)]; done))) (.cons (.dt (by first | (rw [if_pos h15]; done) | (rw [if_pos h22]; done) | (rw [if_neg (show ¬ e.k = 2 by omega)]; done) | (rw [if_neg (show ¬ e.k = 3 by omega)]; done))) (.cons (.dt (by rw [if_pos h22])) (.cons .dt Ctos.nil))))))) .nil), trivial⟩) rfl ?_ ?_ ?_
     ·rw [rX_map]; rfl
     ·exact nthS_dis (by first | (simp only [List.pairwise_cons, List.forall_mem_cons, List.not_mem_nil, false_implies, implies_true, and_true, List.Pairwise.nil]; done) | (simp only [List.pairwise_cons, List.forall_mem_cons, List.not_mem_nil, false_implies, implies_true, and_true, List.Pairwise.nil]; simp [none']; done) | (simp only [List.pairwise_cons, List.forall_mem_cons, List.not_mem_nil, false_implies, implies_true, and_true, List.Pairwise.nil]; simp [none']; exact fun b h1 h2 => hNO b h2 (.inr h1)))
     ·exact nthS_all (by simp only [List.forall_mem_cons, List.not_mem_nil, false_implies, implies_true, and_true]; exact ⟨(fun b h => h.elim), (fun b h => h.elim), (fun b h => h.elim), (fun b h => h.elim), (fun b h => h.elim), (fun b h => .inr ((new_of hR27 (gh_has rfl) 1) b h)), (fun b h => .inr (fun hO => hNO b h (.inl hO)))⟩)
  ·skip
   refine .skip <| kb_n <| ks_n <| .seq <| .seq <| .region <| .cons (.fP 6 0 false rfl rfl) <| .cons (.l1 1 rfl rfl) <| .cons (.ln 40 7 112 rfl rfl rfl) <| .cons (.mv rfl rfl) <| .nil <| ks_n <| .block ?_
   refine .loopK (fun m σ => (∃ i : Nat, m = e.ks.length - i ∧ (i = 0) ∧ σ = [(.t 1, .v (.o (.c (.fn f cap)))), (.t 2, .v (.o (.c (.ptr (rX e))))), (.t 4, .v (.o (.c (.box 110 7 0 0)))), (.t 5, .v (.o (.c (.box 111 7 0 0)))), (.t 30, .v (.o (vD (dEs e.ks)))), (.t 31, .v (.o (nat1 (e.ks.length : Nat)))), (.t 32, .v (.o (nat1 (i : Nat)))), (.t 9999, .v (.gh O)), (.b 110, .b 40 7 [[.d (dI 0), .d (dI 0), .d (.val (.slice none 0 0)), .d (dI 0), .d (dS ByteArray.empty), .d (.val (.slice none 0 0)), .d (.val (.slice none 0 0))]]), (.u 110, .u), (.b 111, .b 40 7 [[.d (dI e.k), .d (dI e.n), .d (.val (.slice none 0 0)), .d (dI 0), .d (dS ByteArray.empty), .d (.val (.slice none 0 0)), .d (.val (.slice none 0 0))]]), (.u 111, .u)]) ∨ (∃ (i : Nat) (F : Nat → Nat → Nat → Prop), m = e.ks.length - i ∧ (1 ≤ i) ∧ (i ≤ e.ks.length) ∧ (FD (O) colX i F) ∧ σ = [(.t 1, .v (.o (.c (.fn f cap)))), (.t 2, .v (.o (.c (.ptr (rX e))))), (.t 4, .v (.o (.c (.box 110 7 0 0)))), (.t 5, .v (.o (.c (.box 111 7 0 0)))), (.t 30, .v (.o (vD (dEs e.ks)))), (.t 31, .v (.o (nat1 (e.ks.length : Nat)))), (.t 32, .v (.o (nat1 (i : Nat)))), (.t 9999, .v (.gh O)), (.b 110, .b 40 7 [[.d (dI 0), .d (dI 0), .d (.val (.slice none 0 0)), .d (dI 0), .d (dS ByteArray.empty), .d (.val (.slice none 0 0)), .d (.val (.slice none 0 0))]]), (.u 110, .u), (.b 112, .b 40 7 (dR (tagRs F 0 ((e.ks.take i).map fun x => rX (mapE g x))))), (.u 112, .u), (.b 111, .b 40 7 [[.d (dI e.k), .d (dI e.n), .d (.val (.slice none 0 0)), .d (dI 0), .d (dS ByteArray.empty), .d (.val (.slice none 0 0)), .own 112 7 (i)]]), (.u 111, .u)])) [(110, 104), (111, 105)] (.inl ⟨0, rfl, rfl, rfl⟩) ⟨ks rfl .dt, ks rfl .dt, ks rfl (.c .bx), ks rfl (.c .bx), ks rfl .dt, ks rfl .dt, ks rfl .dt, ks rfl .dt, kb 104 rfl (.cons (.cons .dt (.cons .dt (.cons .dt (.cons .dt (.cons .dt (.cons .dt (.cons .dt Ctos.nil))))))) .nil), kb 105 rfl (.cons (.cons .dt (.cons .dt (.cons .dt (.cons .dt (.cons .dt (.cons .dt (.cons .dt Ctos.nil))))))) .nil), trivial⟩ ?_
   rintro m σ (⟨i, hm0, rfl, rfl⟩ | ⟨i, F, hm0, hi1, hi2, hFD, rfl⟩)
   ·skip
    refine .seq <| .region <| .cons (.ls rfl rfl rfl) <| .nil <| ks_n <| .seq ?_
    refine .cD rfl (fun h33 => ?_) (fun h33 => ?_)
    ·skip
     obtain ⟨x, hx1⟩ : ∃ x, e.ks[0]? = some x := ⟨_, List.getElem?_eq_getElem (by omega)⟩
     refine .skip <| ks_n <| .seq <| .block <| .seq <| .region <| .cons (.xL 40 7 112 rfl rfl rfl rfl rfl (rE_at hx1)) ?_
     refine .cons (.lN 7 rfl rfl rfl) <| .cons (.al 107 [.int .i64 0, .int .i64 0, .slice none 0 0, .int .i64 0, .string ByteArray.empty, .slice none 0 0, .slice none 0 0] rfl rfl rfl) <| .cons (.sT 7 true rfl rfl rfl rfl rfl rfl rfl) <| .nil <| ks_n ?_
     refine ACode.drawT (by kernel_rfl) (by kernel_rfl) (fun Uq10_4 => ?_)
     refine .cons (fun _ => (.fB 6 0 false rfl rfl rfl)) <| .cons (fun _ => (.b1 1 rfl rfl rfl rfl rfl rfl)) <| .cons (fun _ => (.bN 7 rfl rfl rfl rfl rfl rfl)) <| .cons (fun _ => (.mv rfl rfl)) ?_
     refine .cT [.tmp 38, .tmp 39] rfl rfl (fun _ => rfl) (fun _ => rfl) (ih x (List.mem_of_getElem? hx1)) rfl rfl nosrcV ?_
     refine .cons (fun _ => (.li 40 6 0 [.tmp 40] rfl rfl rfl rfl rfl rfl)) <| .cons (fun _ => (St1.appN (k' := 142) (e := 40) (sz := 6) (by' := 112) rfl rfl rfl rfl rfl (by kernel_rfl) rfl rfl rfl (by simp) (by first | (simp [dR, tagRs_len]; done) | (simp [dR, tagRs_len]; omega)) rfl rfl)) ?_
     refine .cons (fun _ => (.fB 6 0 false rfl rfl rfl)) <| .cons (fun _ => (.sT 1 false rfl rfl rfl rfl rfl rfl rfl)) ?_
     refine .nil ⟨⟨fun _ => by kernel_rfl, by repeat' (first | exact trivial | exact .inr (.inl rfl) | exact .inr (.inr fun _ _ => rfl) | refine ⟨?_, ?_⟩ | exact .inl (by kernel_rfl)), rfl⟩, fun ρq10_4 Nq10_4 Fq10_4 Wq10_4 => ?_⟩
     obtain ⟨hR40, dR40, pR40⟩ := Fq10_4.hR Wq10_4 4 rfl rfl
     refine kb_n <| ks_n <| .region <| .cons (.pl rfl rfl rfl) <| .cons (.mv rfl rfl) <| .nil ?_
     refine kl_k [(110, 110), (111, 111), (112, 142)] (.inr ⟨1, nextF noF 0 (ρq10_4 4), rfl, by omega, by omega, (FD.zero (O) colX noF).next (new_E hR40 (.of (gh_has rfl))) dR40 (fun _ _ _ _ h => by omega), rfl⟩) ⟨ks rfl .dt, ks rfl .dt, ks rfl (.c .bx), ks rfl (.c .bx), ks rfl .dt, ks rfl .dt, ks rfl .dt, ks rfl .dt, kb 110 rfl (.cons (.cons .dt (.cons .dt (.cons .dt (.cons .dt (.cons .dt (.cons .dt (.cons .dt Ctos.nil))))))) .nil), kb 142 rfl (.dt rfl (by first | rfl | (rw [← dR_tagT hx1]; rfl) | (rw [← dR_tag0 hx1]; rfl))), kb 111 rfl (.cons (.cons .dt (.cons .dt (.cons .dt (.cons .dt (.cons .dt (.cons .dt (.cons .ow Ctos.nil))))))) .nil), trivial⟩
    ·skip
     have hn : e.ks = [] := List.eq_nil_of_length_eq_zero (by omega)
     refine .exit <| ks_e <| kl_e <| kb_hit <| ks_n <| .seq <| .region <| .cons (.bN 7 rfl rfl rfl rfl rfl rfl) <| .cons (.sT 7 true rfl rfl rfl rfl rfl rfl rfl) <| .nil <| ks_n <| .ret ?_
     refine kt_wret (nthS [none', none', none', none', none', none', none']) [(.t 4, .v (.o (.c (.box 100 7 0 0)))), (.b 100, .b 40 7 [[.d (dI e.k), .d (dI e.n), (.d (.tree none' (dIs (if e.k = 2 then g e.i else ([], 0)).1))), .d (dI (if e.k = 2 then g e.i else ([], 0)).2), .d (dS (if e.k = 3 then mapC g e.r else (ByteArray.empty, [])).1), (.d (.tree none' (dAs (if e.k = 3 then mapC g e.r else (ByteArray.empty, [])).2))), (.d (.tree none' (dEs (e.ks.map (mapE g)))))]]), (.u 100, .u)] (Wk.keep [(100, 110)] rfl rfl ⟨ks rfl (.c .bx), kb 110 rfl (.cons (.cons .dt (.cons .dt (.cons (Cto.nilTE 1 (by rw [if_neg (show ¬ e.k = 2 by first | assumption | omega)]; rfl)) (.cons (.dt (by first | (rw [if_pos h15]; done) | (rw [if_pos h22]; done) | (rw [if_neg (show ¬ e.k = 2 by omega)]; done) | (rw [if_neg (show ¬ e.k = 3 by omega)]; done))) (.cons (.dt (by first | (rw [if_pos h15]; done) | (rw [if_pos h22]; done) | (rw [if_neg (show ¬ e.k = 2 by omega)]; done) | (rw [if_neg (show ¬ e.k = 3 by omega)]; done))) (.cons (Cto.nilTE 2 (by rw [if_neg (show ¬ e.k = 3 by first | assumption | omega)]; rfl)) (.cons (Cto.nilTE 7 (by rw [hn]; rfl)) Ctos.nil))))))) .nil), trivial⟩) rfl ?_ ?_ ?_
     ·rw [rX_map]; rfl
     ·exact nthS_dis (by first | (simp only [List.pairwise_cons, List.forall_mem_cons, List.not_mem_nil, false_implies, implies_true, and_true, List.Pairwise.nil]; done) | (simp only [List.pairwise_cons, List.forall_mem_cons, List.not_mem_nil, false_implies, implies_true, and_true, List.Pairwise.nil]; simp [none']; done) | (simp only [List.pairwise_cons, List.forall_mem_cons, List.not_mem_nil, false_implies, implies_true, and_true, List.Pairwise.nil]; simp [none']; exact fun b h1 h2 => hNO b h2 (.inr h1)))
     ·exact nthS_all (by simp only [List.forall_mem_cons, List.not_mem_nil, false_implies, implies_true, and_true]; exact ⟨(fun b h => h.elim), (fun b h => h.elim), (fun b h => h.elim), (fun b h => h.elim), (fun b h => h.elim), (fun b h => h.elim), (fun b h => h.elim)⟩)
   ·skip
    refine .seq <| .region <| .cons (.ls rfl rfl rfl) <| .nil <| ks_n <| .seq ?_
    refine .cD rfl (fun h33 => ?_) (fun h33 => ?_)
    ·skip
     obtain ⟨x, hx1⟩ : ∃ x, e.ks[i]? = some x := ⟨_, List.getElem?_eq_getElem (by omega)⟩
     refine .skip <| ks_n <| .seq <| .block <| .seq <| .region <| .cons (.xL 40 7 112 rfl rfl rfl rfl rfl (rE_at hx1)) ?_
     refine .cons (.lN 7 rfl rfl rfl) <| .cons (.al 107 [.int .i64 0, .int .i64 0, .slice none 0 0, .int .i64 0, .string ByteArray.empty, .slice none 0 0, .slice none 0 0] rfl rfl rfl) <| .cons (.sT 7 true rfl rfl rfl rfl rfl rfl rfl) <| .nil <| ks_n ?_
     refine ACode.drawT (by kernel_rfl) (by kernel_rfl) (fun Uq10_5 => ?_)
     refine .cons (fun _ => (.fB 6 0 false rfl rfl rfl)) <| .cons (fun _ => (.b1 1 rfl rfl rfl rfl rfl rfl)) <| .cons (fun _ => (.bN 7 rfl rfl rfl rfl rfl rfl)) <| .cons (fun _ => (.mv rfl rfl)) ?_
     refine .cT [.tmp 38, .tmp 39] rfl rfl (fun _ => rfl) (fun _ => rfl) (ih x (List.mem_of_getElem? hx1)) rfl rfl nosrcV ?_
     refine .cons (fun _ => (.li 40 6 0 [.tmp 40] rfl rfl rfl rfl rfl rfl)) <| .cons (fun _ => (St1.appB (k' := 142) (e := 40) (sz := 6) (by' := 112) rfl rfl rfl rfl rfl (by kernel_rfl) rfl rfl rfl rfl (by first | (simp [dR, tagRs_len]; done) | (simp [dR, tagRs_len]; omega)) (by first | (simp [dR, tagRs_len]; done) | (simp [dR, tagRs_len]; omega)) rfl rfl rfl)) ?_
     refine .cons (fun _ => (.fB 6 0 false rfl rfl rfl)) <| .cons (fun _ => (.sT 1 false rfl rfl rfl rfl rfl rfl rfl)) ?_
     refine .nil ⟨⟨fun _ => by kernel_rfl, by repeat' (first | exact trivial | exact .inr (.inl rfl) | exact .inr (.inr fun _ _ => rfl) | refine ⟨?_, ?_⟩ | exact .inl (by kernel_rfl)), rfl⟩, fun ρq10_5 Nq10_5 Fq10_5 Wq10_5 => ?_⟩
     obtain ⟨hR40, dR40, pR40⟩ := Fq10_5.hR Wq10_5 4 rfl rfl
     have hRF : ∀ q c c' b, q < i → colX c → F q c b → ¬ (ρq10_5 4) c' b := fun q c c' b hq hc hF hb => by
      obtain ⟨y, _, hy⟩ := tm_at (fn := (fun x => rX (mapE g x))) hi2 hq
      rcases hc with rfl | rfl | rfl
      ·exact new_of hR40 (Has.rows (k := 112) rfl hy rfl) c' b hb hF
      ·exact new_of hR40 (Has.rows (k := 112) rfl hy rfl) c' b hb hF
      ·exact new_of hR40 (Has.rows (k := 112) rfl hy rfl) c' b hb hF
     refine kb_n <| ks_n <| .region <| .cons (.pl rfl rfl rfl) <| .cons (.mv rfl rfl) <| .nil ?_
     refine kl_k [(110, 110), (111, 111), (112, 142)] (.inr ⟨i + 1, nextF F i (ρq10_5 4), rfl, by omega, by omega, hFD.next (new_E hR40 (.of (gh_has rfl))) dR40 hRF, rfl⟩) ⟨ks rfl .dt, ks rfl .dt, ks rfl (.c .bx), ks rfl (.c .bx), ks rfl .dt, ks rfl .dt, ks rfl .dt, ks rfl .dt, kb 110 rfl (.cons (.cons .dt (.cons .dt (.cons .dt (.cons .dt (.cons .dt (.cons .dt (.cons .dt Ctos.nil))))))) .nil), kb 142 rfl (.dt rfl (by first | rfl | (rw [← dR_tagT hx1]; rfl) | (rw [← dR_tag0 hx1]; rfl))), kb 111 rfl (.cons (.cons .dt (.cons .dt (.cons .dt (.cons .dt (.cons .dt (.cons .dt (.cons .ow Ctos.nil))))))) .nil), trivial⟩
    ·skip
     obtain rfl : i = e.ks.length := by omega
     refine .exit <| ks_e <| kl_e <| kb_hit <| ks_n <| .seq ?_
     refine .keep [(.t 4, .v (.o (.c (.box 570 7 0 0)))), (.t 5, .v (.o (.c (.box 571 7 0 0)))), (.t 9999, .v (.gh O)), (.b 570, .b 40 7 [[.d (dI 0), .d (dI 0), .d (.val (.slice none 0 0)), .d (dI 0), .d (dS ByteArray.empty), .d (.val (.slice none 0 0)), .d (.val (.slice none 0 0))]]), (.u 570, .u), (.b 572, .b 40 7 (dR (tagRs F 0 ((e.ks.map (mapE g)).map rE)))), (.u 572, .u), (.b 571, .b 40 7 [[.d (dI e.k), .d (dI e.n), .d (.val (.slice none 0 0)), .d (dI 0), .d (dS ByteArray.empty), .d (.val (.slice none 0 0)), .own 572 7 (((e.ks.map (mapE g)).map rE).length)]]), (.u 571, .u)] [(570, 110), (571, 111), (572, 112)] ⟨ks rfl (.c .bx), ks rfl (.c .bx), ks rfl .dt, kb 110 rfl (.cons (.cons .dt (.cons .dt (.cons .dt (.cons .dt (.cons .dt (.cons .dt (.cons .dt Ctos.nil))))))) .nil), kb 112 rfl (.dt rfl (by rw [tag_ex])), kb 111 rfl (.cons (.cons .dt (.cons .dt (.cons .dt (.cons .dt (.cons .dt (.cons .dt (.cons .ow Ctos.nil))))))) .nil), trivial⟩ ?_
     refine ACode.packB 571 0 6 572 (rows := (e.ks.map (mapE g)).map rE) (F := F) rfl rfl rfl rfl rfl (plain_map plE) (hFD.pos (by simp) (fun i j h => isPos_L posE h)) (by simp; omega) (fun N hN => ?_)
     have hNO := hN.outE (.of (gh_has rfl)) hFD (by simp) (fun i j h => isPos_L posE h)
     refine .region <| .cons (.bN 7 rfl rfl rfl rfl rfl rfl) <| .cons (.sT 7 true rfl rfl rfl rfl rfl rfl rfl) <| .nil <| ks_n <| .ret ?_
     refine kt_wret (nthS [none', none', none', none', none', none', N]) [(.t 4, .v (.o (.c (.box 100 7 0 0)))), (.b 100, .b 40 7 [[.d (dI e.k), .d (dI e.n), (.d (.tree none' (dIs (if e.k = 2 then g e.i else ([], 0)).1))), .d (dI (if e.k = 2 then g e.i else ([], 0)).2), .d (dS (if e.k = 3 then mapC g e.r else (ByteArray.empty, [])).1), (.d (.tree none' (dAs (if e.k = 3 then mapC g e.r else (ByteArray.empty, [])).2))), .d (.tree N (dEs (e.ks.map (mapE g))))]]), (.u 100, .u)] (Wk.keep [(100, 570)] rfl rfl ⟨ks rfl (.c .bx), kb 570 rfl (.cons (.cons .dt (.cons .dt (.cons (Cto.nilTE 1 (by rw [if_neg (show ¬ e.k = 2 by first | assumption | omega)]; rfl)) (.cons (.dt (by first | (rw [if_pos h15]; done) | (rw [if_pos h22]; done) | (rw [if_neg (show ¬ e.k = 2 by omega)]; done) | (rw [if_neg (show ¬ e.k = 3 by omega)]; done))) (.cons (.dt (by first | (rw [if_pos h15]; done) | (rw [if_pos h22]; done) | (rw [if_neg (show ¬ e.k = 2 by omega)]; done) | (rw [if_neg (show ¬ e.k = 3 by omega)]; done))) (.cons (Cto.nilTE 2 (by rw [if_neg (show ¬ e.k = 3 by first | assumption | omega)]; rfl)) (.cons .dt Ctos.nil))))))) .nil), trivial⟩) rfl ?_ ?_ ?_
     ·rw [rX_map]; rfl
     ·exact nthS_dis (by first | (simp only [List.pairwise_cons, List.forall_mem_cons, List.not_mem_nil, false_implies, implies_true, and_true, List.Pairwise.nil]; done) | (simp only [List.pairwise_cons, List.forall_mem_cons, List.not_mem_nil, false_implies, implies_true, and_true, List.Pairwise.nil]; simp [none']; done) | (simp only [List.pairwise_cons, List.forall_mem_cons, List.not_mem_nil, false_implies, implies_true, and_true, List.Pairwise.nil]; simp [none']; exact fun b h1 h2 => hNO b h2 (.inr h1)))
     ·exact nthS_all (by simp only [List.forall_mem_cons, List.not_mem_nil, false_implies, implies_true, and_true]; exact ⟨(fun b h => h.elim), (fun b h => h.elim), (fun b h => h.elim), (fun b h => h.elim), (fun b h => h.elim), (fun b h => h.elim), (fun b h => .inr (hNO b h))⟩)

theorem exprMap_T {f : FuncId} {cap : List (List D)} (hc : callable Try.prog f = true) (g : Aff → Aff) : ∀ e : Ex, szE e ≤ 1073741824 → (∀ x ∈ affsE e, FnT Try.prog f (ad (rA x) :: cap.map fun c => .c (.ptr c)) none' (.str (rA (g x)))) → FnT Try.prog 63 [ad (rX e), .c (.fn f cap)] none' (.str (rX (mapE g e))) := by
  intro e
  induction e using Ex.rec' with
  | h e ih =>
    intro hs hg
    rw [szE_eq, szC] at hs
    have := szAs_len e.r.2
    exact exprMap_T1 hc g e (by omega) (by omega) hg fun x hx => ih x hx (by have := szEs_mem hx; omega) fun a ha => hg a (affsE_k hx ha)


/-- An affine expression of middling numbers. -/
def affW (x : Aff) : Prop := x.1.length = 4 ∧ (∀ i, -99 ≤ x.1.getD i 0 ∧ x.1.getD i 0 ≤ 99) ∧ -1000000 ≤ x.2 ∧ x.2 ≤ 1000000
theorem affW_1000 {x : Aff} (h : affW x) : x.1.length = 4 ∧ (-1000000 ≤ x.2 ∧ x.2 ≤ 1000000) ∧ ∀ i, -1000 ≤ x.1.getD i 0 ∧ x.1.getD i 0 ≤ 1000 := ⟨h.1, h.2.2, fun i => by have := h.2.1 i; omega⟩
theorem affW_set {x : Aff} (h : affW x) (v : Nat) : affW (x.1.set v 0, x.2) := by
  refine ⟨by rw [List.length_set]; exact h.1, fun i => ?_, h.2.2⟩
  have := h.2.1 i
  show -99 ≤ (x.1.set v 0).getD i 0 ∧ (x.1.set v 0).getD i 0 ≤ 99
  rw [List.getD_eq_getElem?_getD, List.getElem?_set]
  split
  · split <;> simp
  · rw [← List.getD_eq_getElem?_getD]; exact this
theorem mulbW {x y : Int} (hx : -1000 ≤ x ∧ x ≤ 1000) (hy : -1000000 ≤ y ∧ y ≤ 1000000) : -1000000000 ≤ x * y ∧ x * y ≤ 1000000000 := by
  have h1 : 0 ≤ (1000 - x) * (1000000 + y) := Int.mul_nonneg (by omega) (by omega)
  have h2 : 0 ≤ (1000 + x) * (1000000 - y) := Int.mul_nonneg (by omega) (by omega)
  have h3 : 0 ≤ (1000 - x) * (1000000 - y) := Int.mul_nonneg (by omega) (by omega)
  have h4 : 0 ≤ (1000 + x) * (1000000 + y) := Int.mul_nonneg (by omega) (by omega)
  simp only [Int.sub_mul, Int.add_mul, Int.mul_sub, Int.mul_add] at h1 h2 h3 h4
  omega

theorem l1CombineW_fn (a b : Aff) (x y : Int) (hx : -1000 ≤ x ∧ x ≤ 1000) (hy : -1000 ≤ y ∧ y ≤ 1000) (ha : a.1.length = 4) (hb : b.1.length = 4) (ha2 : -1000000 ≤ a.2 ∧ a.2 ≤ 1000000) (hb2 : -1000 ≤ b.2 ∧ b.2 ≤ 1000) (hac : ∀ i, -1000 ≤ a.1.getD i 0 ∧ a.1.getD i 0 ≤ 1000) (hbc : ∀ i, -1000 ≤ b.1.getD i 0 ∧ b.1.getD i 0 ≤ 1000) : Fn Try.prog 101 [] [ad (rA a), nat1 x, ad (rA b), nat1 y] (.o (ad (rA (cmbA a x b y)))) [] := by
 have hm1 := mulbW hx ha2
 have hm2 := mulb hy hb2
 refine Fn.code0 Try.func101 rfl rfl rfl rfl ?_
 refine .seq <| .region <| .cons (St1.boxP rfl rfl rfl rfl rfl rfl) <| .cons (St1.boxP rfl rfl rfl rfl rfl rfl) <| .cons (.al 108 [.slice none 0 0, .int .i64 0] rfl rfl rfl) <| .nil <| ks_n <| .seq <| .region <| .cons (.mv rfl rfl) <| .cons (.fP 1 0 false rfl rfl) <| .cons (.l1 1 rfl rfl) <| .cons (.ml rfl rfl rfl) <| .cons (.mv rfl rfl) <| .cons (.fP 1 0 false rfl rfl) <| .cons (.l1 1 rfl rfl) <| .cons (.ml rfl rfl rfl) <| .cons (.pl rfl rfl rfl) <| .cons (.bu [(1, .tmp 19)] [(0, 1), (1, 1)] [.slice none 0 0, .int .i64 0] rfl rfl rfl rfl rfl) <| .cons (.al 109 [.slice none 0 0, .int .i64 0] rfl rfl rfl) <| .cons (.sT 2 true rfl rfl rfl rfl rfl rfl rfl) <| .nil <| ks_n <| .seq <| .seq <| .region <| .cons (.asg rfl rfl) <| .nil <| ks_n <| .block ?_
 refine .loopK (fun m σ => (∃ i : Nat, m = 4 - i ∧ (i = 0) ∧ σ = [(.t 1, .v (.o (nat1 x))), (.t 3, .v (.o (nat1 y))), (.t 4, .v (.o (.c (.ptr (rA a))))), (.t 6, .v (.o (.c (.ptr (rA b))))), (.t 8, .v (.o (.c (.box 110 2 0 0)))), (.t 9, .v (.o (.c (.box 111 2 0 0)))), (.t 10, .v (.o (nat1 (i : Nat)))), (.b 110, .b 37 2 [[.d (.val (.slice none 0 0)), .d (dI 0)]]), (.u 110, .u), (.b 111, .b 37 2 [[.d (.val (.slice none 0 0)), .d (dI (x * a.2 + y * b.2))]]), (.u 111, .u)]) ∨ (∃ i : Nat, m = 4 - i ∧ (1 ≤ i) ∧ (i ≤ 4) ∧ σ = [(.t 1, .v (.o (nat1 x))), (.t 3, .v (.o (nat1 y))), (.t 4, .v (.o (.c (.ptr (rA a))))), (.t 6, .v (.o (.c (.ptr (rA b))))), (.t 8, .v (.o (.c (.box 110 2 0 0)))), (.t 9, .v (.o (.c (.box 111 2 0 0)))), (.t 10, .v (.o (nat1 (i : Nat)))), (.b 110, .b 37 2 [[.d (.val (.slice none 0 0)), .d (dI 0)]]), (.u 110, .u), (.b 112, .b 3 1 (dR ((cmbTo a.1 x b.1 y i).map rI))), (.u 112, .u), (.b 111, .b 37 2 [[.own 112 1 (i), .d (dI (x * a.2 + y * b.2))]]), (.u 111, .u)])) [(110, 108), (111, 109)] (.inl ⟨0, rfl, rfl, rfl⟩) ⟨ks rfl .dt, ks rfl .dt, ks rfl .dt, ks rfl .dt, ks rfl (.c .bx), ks rfl (.c .bx), ks rfl .dt, kb 108 rfl (.cons (.cons .dt (.cons .dt Ctos.nil)) .nil), kb 109 rfl (.cons (.cons .dt (.cons .dt Ctos.nil)) .nil), trivial⟩ ?_
 rintro m σ (⟨i, hm0, rfl, rfl⟩ | ⟨i, hm0, hi1, hi4, rfl⟩)
 ·skip
  have hm3 := mulb hx (hac 0)
  have hm4 := mulb hy (hbc 0)
  refine .seq <| .seq <| .region <| .cons (.mv rfl rfl) <| .cons (.ls rfl rfl rfl) <| .nil <| ks_n ?_
  refine .cD rfl (fun h22 => ?_) (fun h22 => ?_)
  ·skip
   refine .skip <| ks_n <| .seq <| .block ?_
   refine ACode.drawK (by kernel_rfl) (by kernel_rfl) ?_
   refine .cons (.fB 0 0 false rfl rfl rfl) <| .cons (.b1 1 rfl rfl rfl rfl rfl rfl) <| .cons (.mv rfl rfl) <| .cons (.fP 0 0 false rfl rfl) <| .cons (.l1 1 rfl rfl) <| .cons (.mv rfl rfl) <| .cons (.xL 3 1 8 rfl rfl rfl rfl rfl (map_at (getD_at (by rw [ha]; omega)))) ?_
   refine .cons (.l1 1 rfl rfl) <| .cons (.ml rfl rfl rfl) <| .cons (.mv rfl rfl) <| .cons (.fP 0 0 false rfl rfl) <| .cons (.l1 1 rfl rfl) <| .cons (.mv rfl rfl) <| .cons (.xL 3 1 8 rfl rfl rfl rfl rfl (map_at (getD_at (by rw [hb]; omega)))) ?_
   refine .cons (.l1 1 rfl rfl) <| .cons (.ml rfl rfl rfl) <| .cons (.pl rfl rfl rfl) <| .cons (.li 3 0 0 [.tmp 41] rfl rfl rfl rfl rfl rfl) <| .cons (St1.appN (k' := 143) (e := 3) (sz := 0) (by' := 8) rfl rfl rfl rfl rfl (by kernel_rfl) rfl rfl rfl (by simp) (by simp [dR, cmbTo] <;> omega) rfl rfl) ?_
   refine .cons (.fB 0 0 false rfl rfl rfl) <| .cons (.sT 1 false rfl rfl rfl rfl rfl rfl rfl) ?_
   refine .nil ⟨by kernel_rfl, ?_⟩
   refine kb_n <| ks_n <| .region <| .cons (.mv rfl rfl) <| .cons (.pl rfl rfl rfl) <| .cons (.asg rfl rfl) <| .nil ?_
   refine kl_k [(110, 110), (111, 111), (112, 143)] (.inr ⟨1, rfl, by omega, by omega, rfl⟩) ⟨ks rfl .dt, ks rfl .dt, ks rfl .dt, ks rfl .dt, ks rfl (.c .bx), ks rfl (.c .bx), ks rfl .dt, kb 110 rfl (.cons (.cons .dt (.cons .dt Ctos.nil)) .nil), kb 143 rfl (.dt rfl (by first | (rw [dR_app]; simp [cmbTo, List.range_succ]; done) | (simp [dR, cmbTo, List.range_succ]; done) | (simp [dR, cmbTo, List.range_succ]; rfl))), kb 111 rfl (.cons (.cons .ow (.cons .dt Ctos.nil)) .nil), trivial⟩
  ·skip
   simp at h22
 ·skip
  have hm3 := mulb hx (hac i)
  have hm4 := mulb hy (hbc i)
  refine .seq <| .seq <| .region <| .cons (.mv rfl rfl) <| .cons (.ls rfl rfl rfl) <| .nil <| ks_n ?_
  refine .cD rfl (fun h22 => ?_) (fun h22 => ?_)
  ·skip
   refine .skip <| ks_n <| .seq <| .block ?_
   refine ACode.drawK (by kernel_rfl) (by kernel_rfl) ?_
   refine .cons (.fB 0 0 false rfl rfl rfl) <| .cons (.b1 1 rfl rfl rfl rfl rfl rfl) <| .cons (.mv rfl rfl) <| .cons (.fP 0 0 false rfl rfl) <| .cons (.l1 1 rfl rfl) <| .cons (.mv rfl rfl) <| .cons (.xL 3 1 8 rfl rfl rfl rfl rfl (map_at (getD_at (by rw [ha]; omega)))) ?_
   refine .cons (.l1 1 rfl rfl) <| .cons (.ml rfl rfl rfl) <| .cons (.mv rfl rfl) <| .cons (.fP 0 0 false rfl rfl) <| .cons (.l1 1 rfl rfl) <| .cons (.mv rfl rfl) <| .cons (.xL 3 1 8 rfl rfl rfl rfl rfl (map_at (getD_at (by rw [hb]; omega)))) ?_
   refine .cons (.l1 1 rfl rfl) <| .cons (.ml rfl rfl rfl) <| .cons (.pl rfl rfl rfl) <| .cons (.li 3 0 0 [.tmp 41] rfl rfl rfl rfl rfl rfl) <| .cons (St1.appB (k' := 143) (e := 3) (sz := 0) (by' := 8) rfl rfl rfl rfl rfl (by kernel_rfl) rfl rfl rfl rfl (by simp [dR, cmbTo]) (by simp [dR, cmbTo] <;> omega) rfl rfl rfl) ?_
   refine .cons (.fB 0 0 false rfl rfl rfl) <| .cons (.sT 1 false rfl rfl rfl rfl rfl rfl rfl) ?_
   refine .nil ⟨by kernel_rfl, ?_⟩
   refine kb_n <| ks_n <| .region <| .cons (.mv rfl rfl) <| .cons (.pl rfl rfl rfl) <| .cons (.asg rfl rfl) <| .nil ?_
   refine kl_k [(110, 110), (111, 111), (112, 143)] (.inr ⟨i + 1, rfl, by omega, by omega, rfl⟩) ⟨ks rfl .dt, ks rfl .dt, ks rfl .dt, ks rfl .dt, ks rfl (.c .bx), ks rfl (.c .bx), ks rfl .dt, kb 110 rfl (.cons (.cons .dt (.cons .dt Ctos.nil)) .nil), kb 143 rfl (.dt rfl (by first | (rw [dR_app]; simp [cmbTo, List.range_succ]; done) | (simp [dR, cmbTo, List.range_succ]; done) | (simp [dR, cmbTo, List.range_succ]; rfl))), kb 111 rfl (.cons (.cons .ow (.cons .dt Ctos.nil)) .nil), trivial⟩
  ·skip
   obtain rfl : i = 4 := by omega
   refine .exit <| ks_e <| kl_e <| kb_hit <| ks_n <| .seq <| .region <| .cons (.bN 2 rfl rfl rfl rfl rfl rfl) <| .cons (.sT 2 true rfl rfl rfl rfl rfl rfl rfl) <| .nil <| ks_n <| .ret ?_
   refine kf_wret [(.t 8, .v (.o (.c (.box 100 2 0 0)))), (.b 100, .b 37 2 [[.d (dIs (cmbTo a.1 x b.1 y 4)), .d (dI (x * a.2 + y * b.2))]]), (.u 100, .u)] (Wk.keep [(100, 110)] rfl rfl ⟨ks rfl (.c .bx), kb 110 rfl (.cons (.cons (.fz rfl rfl (by simp [cmbTo])) (.cons .dt Ctos.nil)) .nil), trivial⟩) rfl ?_ nobox
   rfl

theorem l1SubstW_fn {x y : Aff} {j : Int} (hx : affW x) (hy : affM y) (hj : 0 ≤ j ∧ j < 4) : Fn Try.prog 82 [] [ad (rA x), nat1 j, ad (rA y)] (.o (ad (rA (affSubst x j.toNat y)))) [] := by
 obtain ⟨v, rfl⟩ : ∃ v : Nat, (v : Int) = j := ⟨j.toNat, by omega⟩
 obtain ⟨a1, a2, a3⟩ := affW_1000 hx
 have hx0 := affW_set hx v
 obtain ⟨b1, b2, b3⟩ := affW_1000 hx0
 obtain ⟨c1, c2, c3⟩ := affM_1000 hy
 refine Fn.code0 Try.func82 rfl rfl rfl rfl ?_
 refine .seq <| .region <| .cons (St1.boxP rfl rfl rfl rfl rfl rfl) <| .cons (St1.boxP rfl rfl rfl rfl rfl rfl) <| .cons (.al 106 [.slice none 0 0, .int .i64 0] rfl rfl rfl) <| .nil <| ks_n <| .seq ?_
 refine ACode.drawK (by kernel_rfl) (by kernel_rfl) ?_
 refine .cons (St1.lit0 (k' := 108) (e := 3) (sz := 1) (b := true) rfl rfl rfl rfl (by kernel_rfl) rfl rfl) ?_
 refine .cons (.fP 0 0 false rfl rfl) <| .cons (.l1 1 rfl rfl) <| .cons (St1.appB (k' := 111) (e := 3) (sz := 0) (by' := 8) rfl rfl rfl rfl rfl (by kernel_rfl) rfl rfl rfl rfl rfl (by simp; omega) rfl rfl rfl) ?_
 refine .cons (.fP 1 0 false rfl rfl) <| .cons (.l1 1 rfl rfl) <| .cons (.bu [(0, .tmp 11), (1, .tmp 13)] [(0, 1), (1, 1)] [.slice none 0 0, .int .i64 0] rfl rfl rfl rfl rfl) <| .cons (.al 107 [.slice none 0 0, .int .i64 0] rfl rfl rfl) <| .cons (.sT 2 true rfl rfl rfl rfl rfl rfl rfl) ?_
 refine .nil ⟨by kernel_rfl, ?_⟩
 refine ks_n <| .seq <| .region <| .cons (.fB 0 0 false rfl rfl rfl) <| .cons (.b1 1 rfl rfl rfl rfl rfl rfl) <| .cons (.mv rfl rfl) <| .cons (.xB 3 1 8 rfl rfl rfl rfl rfl rfl (by simp; omega)) ?_
 refine .cons (.sT 1 false rfl rfl rfl rfl (dR_at (map_at (getD_at (by omega)))) rfl rfl) ?_
 refine .nil <| ks_n <| .seq ?_
 refine .keep [(.t 1, .v (.o (nat1 (v : Nat)))), (.t 3, .v (.o (.c (.ptr (rA x))))), (.t 5, .v (.o (.c (.ptr (rA y))))), (.t 6, .v (.o (.c (.box 730 2 0 0)))), (.t 7, .v (.o (.c (.box 731 2 0 0)))), (.b 730, .b 37 2 [[.d (.val (.slice none 0 0)), .d (dI 0)]]), (.u 730, .u), (.b 731, .b 37 2 [[.d (dIs (x.1.set v 0)), .d (dI x.2)]]), (.u 731, .u)] [(730, 106), (731, 107)] ⟨ks rfl .dt, ks rfl .dt, ks rfl .dt, ks rfl (.c .bx), ks rfl (.c .bx), kb 106 rfl (.cons (.cons .dt (.cons .dt Ctos.nil)) .nil), kb 107 rfl (.cons (.cons (.fz rfl (dR_setI _ _ _ _) (by simp) (by simp; omega)) (.cons .dt Ctos.nil)) .nil), trivial⟩ ?_
 refine ACode.drawK (by kernel_rfl) (by kernel_rfl) ?_
 refine .cons (.bN 2 rfl rfl rfl rfl rfl rfl) <| .cons (.lN 2 rfl rfl rfl) <| .cons (.fP 0 0 false rfl rfl) <| .cons (.l1 1 rfl rfl) <| .cons (.mv rfl rfl) <| .cons (.xL 3 1 8 rfl rfl rfl rfl rfl (map_at (getD_at (by omega)))) ?_
 refine .cons (.l1 1 rfl rfl) <| .cons (.cP [.tmp 19, .const (.int .i64 (1)), .tmp 20, .tmp 25] rfl rfl rfl rfl (l1CombineW_fn (x.1.set v 0, x.2) y 1 (x.1.getD v 0) (by omega) (a3 v) b1 c1 b2 c2 b3 c3) rfl) ?_
 refine .cons (.sT 2 true rfl rfl rfl rfl rfl rfl rfl) ?_
 refine .nil ⟨by kernel_rfl, ?_⟩
 refine ks_n <| .ret ?_
 refine kf_ret rfl ?_ nobox
 rw [Int.toNat_natCast, ← cmb_subst]; rfl

theorem l3SubAccW_fn (a : Acc) (ha : a.2.length ≤ 1073741824) {y : Aff} (hy : affM y) {j : Int} (hj : 0 ≤ j ∧ j < 4) (hm : ∀ x ∈ a.2, affW x) : Fn Try.prog 52 [] [ad (rC a), nat1 j, ad (rA y)] (.o (ad (rC (mapC (fun b => affSubst b j.toNat y) a)))) [] := by
 refine Fn.code0 Try.func52 rfl rfl rfl rfl ?_
 refine .seq <| .region <| .cons (St1.boxP rfl rfl rfl rfl rfl rfl) <| .cons (St1.boxP rfl rfl rfl rfl rfl rfl) <| .cons (.al 106 [.string ByteArray.empty, .slice none 0 0] rfl rfl rfl) <| .nil <| ks_n <| .seq <| .region <| .cons (.fP 0 0 false rfl rfl) <| .cons (.l1 1 rfl rfl) <| .cons (.bu [(0, .tmp 10)] [(0, 1), (1, 1)] [.string ByteArray.empty, .slice none 0 0] rfl rfl rfl rfl rfl) <| .cons (.al 107 [.string ByteArray.empty, .slice none 0 0] rfl rfl rfl) <| .cons (.sT 2 true rfl rfl rfl rfl rfl rfl rfl) <| .nil <| ks_n <| .seq <| .seq <| .region <| .cons (.asg rfl rfl) <| .nil <| ks_n <| .block ?_
 refine .loopK (fun m σ => (∃ i : Nat, m = a.2.length - i ∧ (i = 0) ∧ σ = [(.t 1, .v (.o (nat1 j))), (.t 3, .v (.o (.c (.ptr (rC a))))), (.t 5, .v (.o (.c (.ptr (rA y))))), (.t 6, .v (.o (.c (.box 110 2 0 0)))), (.t 7, .v (.o (.c (.box 111 2 0 0)))), (.t 8, .v (.o (nat1 (i : Nat)))), (.b 110, .b 36 2 [[.d (dS ByteArray.empty), .d (.val (.slice none 0 0))]]), (.u 110, .u), (.b 111, .b 36 2 [[.d (dS a.1), .d (.val (.slice none 0 0))]]), (.u 111, .u)]) ∨ (∃ i : Nat, m = a.2.length - i ∧ (1 ≤ i) ∧ (i ≤ a.2.length) ∧ σ = [(.t 1, .v (.o (nat1 j))), (.t 3, .v (.o (.c (.ptr (rC a))))), (.t 5, .v (.o (.c (.ptr (rA y))))), (.t 6, .v (.o (.c (.box 110 2 0 0)))), (.t 7, .v (.o (.c (.box 111 2 0 0)))), (.t 8, .v (.o (nat1 (i : Nat)))), (.b 110, .b 36 2 [[.d (dS ByteArray.empty), .d (.val (.slice none 0 0))]]), (.u 110, .u), (.b 112, .b 37 2 (dR ((a.2.take i).map fun x => rA (affSubst x j.toNat y)))), (.u 112, .u), (.b 111, .b 36 2 [[.d (dS a.1), .own 112 2 (i)]]), (.u 111, .u)])) [(110, 106), (111, 107)] (.inl ⟨0, rfl, rfl, rfl⟩) ⟨ks rfl .dt, ks rfl .dt, ks rfl .dt, ks rfl (.c .bx), ks rfl (.c .bx), ks rfl .dt, kb 106 rfl (.cons (.cons .dt (.cons .dt Ctos.nil)) .nil), kb 107 rfl (.cons (.cons .dt (.cons .dt Ctos.nil)) .nil), trivial⟩ ?_
 rintro m σ (⟨i, hm0, rfl, rfl⟩ | ⟨i, hm0, hi1, hi2, rfl⟩)
 ·skip
  refine .seq <| .seq <| .region <| .cons (.mv rfl rfl) <| .cons (.fP 1 0 false rfl rfl) <| .cons (.l1 1 rfl rfl) <| .cons (.ln 37 2 32 rfl rfl rfl) <| .cons (.ls rfl rfl rfl) <| .nil <| ks_n ?_
  refine .cD rfl (fun h16 => ?_) (fun h16 => ?_)
  ·skip
   obtain ⟨x, hx1⟩ : ∃ x, a.2[0]? = some x := ⟨_, List.getElem?_eq_getElem (by omega)⟩
   refine .skip <| ks_n <| .seq <| .block ?_
   refine ACode.drawK (by kernel_rfl) (by kernel_rfl) ?_
   refine .cons (.fB 1 0 false rfl rfl rfl) <| .cons (.b1 1 rfl rfl rfl rfl rfl rfl) <| .cons (.fP 1 0 false rfl rfl) <| .cons (.l1 1 rfl rfl) <| .cons (.mv rfl rfl) <| .cons (.xL 37 2 32 rfl rfl rfl rfl rfl) ?_
   refine .cons (.lN 2 rfl rfl rfl) <| .cons (.mv rfl rfl) <| .cons (.lN 2 rfl rfl rfl) <| .cons (.cP [.tmp 25, .tmp 26, .tmp 27] rfl rfl rfl rfl (l1SubstW_fn (hm x (List.mem_of_getElem? hx1)) hy hj) rfl) ?_
   refine .cons (.li 37 1 0 [.tmp 28] rfl rfl rfl rfl rfl rfl) <| .cons (St1.appN (k' := 130) (e := 37) (sz := 1) (by' := 32) rfl rfl rfl rfl rfl (by kernel_rfl) rfl rfl rfl (by simp) (by first | (simp [dR]; done) | (simp [dR]; omega)) rfl rfl) ?_
   refine .cons (.fB 1 0 false rfl rfl rfl) <| .cons (.sT 1 false rfl rfl rfl rfl rfl rfl rfl) ?_
   refine .nil ⟨by kernel_rfl, ?_⟩
   refine kb_n <| ks_n <| .region <| .cons (.mv rfl rfl) <| .cons (.pl rfl rfl rfl) <| .cons (.asg rfl rfl) <| .nil ?_
   refine kl_k [(110, 110), (111, 111), (112, 130)] (.inr ⟨1, rfl, by omega, by omega, rfl⟩) ⟨ks rfl .dt, ks rfl .dt, ks rfl .dt, ks rfl (.c .bx), ks rfl (.c .bx), ks rfl .dt, kb 110 rfl (.cons (.cons .dt (.cons .dt Ctos.nil)) .nil), kb 130 rfl (.dt rfl (by first | exact dR_take (fun x => rA (affSubst x j.toNat y)) hx1 | exact dR_take1 (fun x => rA (affSubst x j.toNat y)) hx1 | rfl | (simp [dR]; done))), kb 111 rfl (.cons (.cons .dt (.cons .ow Ctos.nil)) .nil), trivial⟩
  ·skip
   have hn : a.2 = [] := List.eq_nil_of_length_eq_zero (by omega)
   refine .exit <| ks_e <| kl_e <| kb_hit <| ks_n <| .seq <| .region <| .cons (.bN 2 rfl rfl rfl rfl rfl rfl) <| .cons (.sT 2 true rfl rfl rfl rfl rfl rfl rfl) <| .nil <| ks_n <| .ret ?_
   refine kf_wret [(.t 6, .v (.o (.c (.box 100 2 0 0)))), (.b 100, .b 36 2 [[.d (dS a.1), .d (dAs (a.2.map (fun b => affSubst b j.toNat y)))]]), (.u 100, .u)] (Wk.keep [(100, 110)] rfl rfl ⟨ks rfl (.c .bx), kb 110 rfl (.cons (.cons .dt (.cons (Cto.nilE 2 (by rw [hn]; rfl)) Ctos.nil)) .nil), trivial⟩) rfl ?_ nobox
   rfl
 ·skip
  refine .seq <| .seq <| .region <| .cons (.mv rfl rfl) <| .cons (.fP 1 0 false rfl rfl) <| .cons (.l1 1 rfl rfl) <| .cons (.ln 37 2 32 rfl rfl rfl) <| .cons (.ls rfl rfl rfl) <| .nil <| ks_n ?_
  refine .cD rfl (fun h16 => ?_) (fun h16 => ?_)
  ·skip
   obtain ⟨x, hx1⟩ : ∃ x, a.2[i]? = some x := ⟨_, List.getElem?_eq_getElem (by omega)⟩
   refine .skip <| ks_n <| .seq <| .block ?_
   refine ACode.drawK (by kernel_rfl) (by kernel_rfl) ?_
   refine .cons (.fB 1 0 false rfl rfl rfl) <| .cons (.b1 1 rfl rfl rfl rfl rfl rfl) <| .cons (.fP 1 0 false rfl rfl) <| .cons (.l1 1 rfl rfl) <| .cons (.mv rfl rfl) <| .cons (.xL 37 2 32 rfl rfl rfl rfl rfl) ?_
   refine .cons (.lN 2 rfl rfl rfl) <| .cons (.mv rfl rfl) <| .cons (.lN 2 rfl rfl rfl) <| .cons (.cP [.tmp 25, .tmp 26, .tmp 27] rfl rfl rfl rfl (l1SubstW_fn (hm x (List.mem_of_getElem? hx1)) hy hj) rfl) ?_
   refine .cons (.li 37 1 0 [.tmp 28] rfl rfl rfl rfl rfl rfl) <| .cons (St1.appB (k' := 130) (e := 37) (sz := 1) (by' := 32) rfl rfl rfl rfl rfl (by kernel_rfl) rfl rfl rfl rfl (by first | (simp [dR]; done) | (simp [dR]; omega)) (by first | (simp [dR]; done) | (simp [dR]; omega)) rfl rfl rfl) ?_
   refine .cons (.fB 1 0 false rfl rfl rfl) <| .cons (.sT 1 false rfl rfl rfl rfl rfl rfl rfl) ?_
   refine .nil ⟨by kernel_rfl, ?_⟩
   refine kb_n <| ks_n <| .region <| .cons (.mv rfl rfl) <| .cons (.pl rfl rfl rfl) <| .cons (.asg rfl rfl) <| .nil ?_
   refine kl_k [(110, 110), (111, 111), (112, 130)] (.inr ⟨i + 1, rfl, by omega, by omega, rfl⟩) ⟨ks rfl .dt, ks rfl .dt, ks rfl .dt, ks rfl (.c .bx), ks rfl (.c .bx), ks rfl .dt, kb 110 rfl (.cons (.cons .dt (.cons .dt Ctos.nil)) .nil), kb 130 rfl (.dt rfl (by first | exact dR_take (fun x => rA (affSubst x j.toNat y)) hx1 | exact dR_take1 (fun x => rA (affSubst x j.toNat y)) hx1 | rfl | (simp [dR]; done))), kb 111 rfl (.cons (.cons .dt (.cons .ow Ctos.nil)) .nil), trivial⟩
  ·skip
   obtain rfl : i = a.2.length := by omega
   refine .exit <| ks_e <| kl_e <| kb_hit <| ks_n <| .seq <| .region <| .cons (.bN 2 rfl rfl rfl rfl rfl rfl) <| .cons (.sT 2 true rfl rfl rfl rfl rfl rfl rfl) <| .nil <| ks_n <| .ret ?_
   refine kf_wret [(.t 6, .v (.o (.c (.box 100 2 0 0)))), (.b 100, .b 36 2 [[.d (dS a.1), .d (dAs (a.2.map (fun b => affSubst b j.toNat y)))]]), (.u 100, .u)] (Wk.keep [(100, 110)] rfl rfl ⟨ks rfl (.c .bx), kb 110 rfl (.cons (.cons .dt (.cons (.fz rfl (by first | rfl | exact dR_af _ _ | (rw [List.take_length]; done)) (by first | rfl | (simp; done) | (simp; omega)) (by omega)) Ctos.nil)) .nil), trivial⟩) rfl ?_ nobox
   rfl

theorem l3SubExW_one (e : Ex) (hr : e.r.2.length ≤ 1073741824) (hk : e.ks.length ≤ 1073741824) {y : Aff} (hy : affM y) {j : Int} (hj : 0 ≤ j ∧ j < 4) (hm : ∀ x ∈ affsE e, affW x) (ih : ∀ x ∈ e.ks, Fn Try.prog 53 [] [ad (rX x), nat1 j, ad (rA y)] (.o (ad (rX (mapE (fun b => affSubst b j.toNat y) x)))) []) : Fn Try.prog 53 [] [ad (rX e), nat1 j, ad (rA y)] (.o (ad (rX (mapE (fun b => affSubst b j.toNat y) e)))) [] := by
 refine Fn.code0 Try.func53 rfl rfl rfl rfl ?_
 refine .seq <| .region <| .cons (St1.boxP rfl rfl rfl rfl rfl rfl) <| .cons (St1.boxP rfl rfl rfl rfl rfl rfl) <| .cons (.al 106 [.int .i64 0, .int .i64 0, .slice none 0 0, .int .i64 0, .string ByteArray.empty, .slice none 0 0, .slice none 0 0] rfl rfl rfl) <| .nil <| ks_n <| .seq <| .region <| .cons (.fP 0 0 false rfl rfl) <| .cons (.l1 1 rfl rfl) <| .cons (.fP 1 0 false rfl rfl) <| .cons (.l1 1 rfl rfl) <| .cons (.bu [(0, .tmp 10), (1, .tmp 12)] [(0, 1), (1, 1), (2, 2), (4, 2), (6, 1)] [.int .i64 0, .int .i64 0, .slice none 0 0, .int .i64 0, .string ByteArray.empty, .slice none 0 0, .slice none 0 0] rfl rfl rfl rfl rfl) <| .cons (.al 107 [.int .i64 0, .int .i64 0, .slice none 0 0, .int .i64 0, .string ByteArray.empty, .slice none 0 0, .slice none 0 0] rfl rfl rfl) <| .cons (.sT 7 true rfl rfl rfl rfl rfl rfl rfl) <| .nil <| ks_n <| .seq ?_
 refine ACode.cut [(.t 1, .v (.o (nat1 j))), (.t 3, .v (.o (.c (.ptr (rX e))))), (.t 5, .v (.o (.c (.ptr (rA y))))), (.t 6, .v (.o (.c (.box 810 7 0 0)))), (.t 7, .v (.o (.c (.box 811 7 0 0)))), (.b 810, .b 40 7 [[.d (dI 0), .d (dI 0), .d (.val (.slice none 0 0)), .d (dI 0), .d (dS ByteArray.empty), .d (.val (.slice none 0 0)), .d (.val (.slice none 0 0))]]), (.u 810, .u), (.b 811, .b 40 7 [[.d (dI e.k), .d (dI e.n), .d (dIs (if e.k = 2 then (fun b => affSubst b j.toNat y) e.i else ([], 0)).1), .d (dI (if e.k = 2 then (fun b => affSubst b j.toNat y) e.i else ([], 0)).2), .d (dS ByteArray.empty), .d (.val (.slice none 0 0)), .d (.val (.slice none 0 0))]]), (.u 811, .u)] ?_ ?_
 ·skip
  refine .seq <| .region <| .cons (.fP 0 0 false rfl rfl) <| .cons (.l1 1 rfl rfl) <| .cons (.eq rfl rfl rfl) <| .nil <| ks_n ?_
  refine .cD rfl (fun h16 => ?_) (fun h16 => ?_)
  ·skip
   refine .region <| .cons (.fP 2 1 true rfl rfl) <| .cons (.lN 2 rfl rfl rfl) <| .cons (.mv rfl rfl) <| .cons (.lN 2 rfl rfl rfl) <| .cons (.cP [.tmp 18, .tmp 19, .tmp 20] rfl rfl rfl rfl (l1SubstW_fn (hm _ (affsE_i h16)) hy hj) rfl) ?_
   refine .cons (.fB 2 1 true rfl rfl rfl) <| .cons (.sT 2 true rfl rfl rfl rfl rfl rfl rfl) <| .nil ?_
   exact kc_n (Wk.keep [(810, 106), (811, 107)] rfl rfl ⟨ks rfl .dt, ks rfl .dt, ks rfl .dt, ks rfl (.c .bx), ks rfl (.c .bx), kb 106 rfl (.cons (.cons .dt (.cons .dt (.cons .dt (.cons .dt (.cons .dt (.cons .dt (.cons .dt Ctos.nil))))))) .nil), kb 107 rfl (.cons (.cons .dt (.cons .dt (.cons (.dt (by first | rfl | (simp [*]; done) | (simp [*]; rfl))) (.cons (.dt (by first | rfl | (simp [*]; done) | (simp [*]; rfl))) (.cons .dt (.cons .dt (.cons .dt Ctos.nil))))))) .nil), trivial⟩)
  ·skip
   refine .skip ?_
   exact kc_n (Wk.keep [(810, 106), (811, 107)] rfl rfl ⟨ks rfl .dt, ks rfl .dt, ks rfl .dt, ks rfl (.c .bx), ks rfl (.c .bx), kb 106 rfl (.cons (.cons .dt (.cons .dt (.cons .dt (.cons .dt (.cons .dt (.cons .dt (.cons .dt Ctos.nil))))))) .nil), kb 107 rfl (.cons (.cons .dt (.cons .dt (.cons (Cto.nilE 1 (by rw [if_neg (show ¬ e.k = 2 by omega)]; rfl)) (.cons (.dt (by first | rfl | (simp [*]; done) | (simp [*]; rfl))) (.cons .dt (.cons .dt (.cons .dt Ctos.nil))))))) .nil), trivial⟩)
 refine ks_n <| .seq ?_
 refine ACode.cut [(.t 1, .v (.o (nat1 j))), (.t 3, .v (.o (.c (.ptr (rX e))))), (.t 5, .v (.o (.c (.ptr (rA y))))), (.t 6, .v (.o (.c (.box 820 7 0 0)))), (.t 7, .v (.o (.c (.box 821 7 0 0)))), (.b 820, .b 40 7 [[.d (dI 0), .d (dI 0), .d (.val (.slice none 0 0)), .d (dI 0), .d (dS ByteArray.empty), .d (.val (.slice none 0 0)), .d (.val (.slice none 0 0))]]), (.u 820, .u), (.b 821, .b 40 7 [[.d (dI e.k), .d (dI e.n), .d (dIs (if e.k = 2 then (fun b => affSubst b j.toNat y) e.i else ([], 0)).1), .d (dI (if e.k = 2 then (fun b => affSubst b j.toNat y) e.i else ([], 0)).2), .d (dS (if e.k = 3 then mapC (fun b => affSubst b j.toNat y) e.r else (ByteArray.empty, [])).1), .d (dAs (if e.k = 3 then mapC (fun b => affSubst b j.toNat y) e.r else (ByteArray.empty, [])).2), .d (.val (.slice none 0 0))]]), (.u 821, .u)] ?_ ?_
 ·skip
  refine .seq <| .region <| .cons (.fP 0 0 false rfl rfl) <| .cons (.l1 1 rfl rfl) <| .cons (.eq rfl rfl rfl) <| .nil <| ks_n ?_
  refine .cD rfl (fun h25 => ?_) (fun h25 => ?_)
  ·skip
   refine .region <| .cons (.fP 4 1 true rfl rfl) <| .cons (.lN 2 rfl rfl rfl) <| .cons (.mv rfl rfl) <| .cons (.lN 2 rfl rfl rfl) <| .cons (.cP [.tmp 27, .tmp 28, .tmp 29] rfl rfl rfl rfl (l3SubAccW_fn e.r hr hy hj (fun x hx => hm x (affsE_r h25 hx))) rfl) ?_
   refine .cons (.fB 4 1 true rfl rfl rfl) <| .cons (.sT 2 true rfl rfl rfl rfl rfl rfl rfl) <| .nil ?_
   exact kc_n (Wk.keep [(820, 810), (821, 811)] rfl rfl ⟨ks rfl .dt, ks rfl .dt, ks rfl .dt, ks rfl (.c .bx), ks rfl (.c .bx), kb 810 rfl (.cons (.cons .dt (.cons .dt (.cons .dt (.cons .dt (.cons .dt (.cons .dt (.cons .dt Ctos.nil))))))) .nil), kb 811 rfl (.cons (.cons .dt (.cons .dt (.cons (.dt (by first | rfl | (simp [*]; done) | (simp [*]; rfl))) (.cons (.dt (by first | rfl | (simp [*]; done) | (simp [*]; rfl))) (.cons (.dt (by first | rfl | (simp [*]; done) | (simp [*]; rfl))) (.cons (.dt (by first | rfl | (simp [*]; done) | (simp [*]; rfl))) (.cons .dt Ctos.nil))))))) .nil), trivial⟩)
  ·skip
   refine .skip ?_
   exact kc_n (Wk.keep [(820, 810), (821, 811)] rfl rfl ⟨ks rfl .dt, ks rfl .dt, ks rfl .dt, ks rfl (.c .bx), ks rfl (.c .bx), kb 810 rfl (.cons (.cons .dt (.cons .dt (.cons .dt (.cons .dt (.cons .dt (.cons .dt (.cons .dt Ctos.nil))))))) .nil), kb 811 rfl (.cons (.cons .dt (.cons .dt (.cons (.dt (by first | rfl | (simp [*]; done) | (simp [*]; rfl))) (.cons (.dt (by first | rfl | (simp [*]; done) | (simp [*]; rfl))) (.cons (.dt (by first | rfl | (simp [*]; done) | (simp [*]; rfl))) (.cons (Cto.nilE 2 (by rw [if_neg (show ¬ e.k = 3 by omega)]; rfl)) (.cons .dt Ctos.nil))))))) .nil), trivial⟩)
 refine ks_n <| .seq <| .seq <| .region <| .cons (.asg rfl rfl) <| .nil <| ks_n <| .block ?_
 refine .loopK (fun m σ => (∃ i : Nat, m = e.ks.length - i ∧ (i = 0) ∧ σ = [(.t 1, .v (.o (nat1 j))), (.t 3, .v (.o (.c (.ptr (rX e))))), (.t 5, .v (.o (.c (.ptr (rA y))))), (.t 6, .v (.o (.c (.box 110 7 0 0)))), (.t 7, .v (.o (.c (.box 111 7 0 0)))), (.t 8, .v (.o (nat1 (i : Nat)))), (.b 110, .b 40 7 [[.d (dI 0), .d (dI 0), .d (.val (.slice none 0 0)), .d (dI 0), .d (dS ByteArray.empty), .d (.val (.slice none 0 0)), .d (.val (.slice none 0 0))]]), (.u 110, .u), (.b 111, .b 40 7 [[.d (dI e.k), .d (dI e.n), .d (dIs (if e.k = 2 then (fun b => affSubst b j.toNat y) e.i else ([], 0)).1), .d (dI (if e.k = 2 then (fun b => affSubst b j.toNat y) e.i else ([], 0)).2), .d (dS (if e.k = 3 then mapC (fun b => affSubst b j.toNat y) e.r else (ByteArray.empty, [])).1), .d (dAs (if e.k = 3 then mapC (fun b => affSubst b j.toNat y) e.r else (ByteArray.empty, [])).2), .d (.val (.slice none 0 0))]]), (.u 111, .u)]) ∨ (∃ i : Nat, m = e.ks.length - i ∧ (1 ≤ i) ∧ (i ≤ e.ks.length) ∧ σ = [(.t 1, .v (.o (nat1 j))), (.t 3, .v (.o (.c (.ptr (rX e))))), (.t 5, .v (.o (.c (.ptr (rA y))))), (.t 6, .v (.o (.c (.box 110 7 0 0)))), (.t 7, .v (.o (.c (.box 111 7 0 0)))), (.t 8, .v (.o (nat1 (i : Nat)))), (.b 110, .b 40 7 [[.d (dI 0), .d (dI 0), .d (.val (.slice none 0 0)), .d (dI 0), .d (dS ByteArray.empty), .d (.val (.slice none 0 0)), .d (.val (.slice none 0 0))]]), (.u 110, .u), (.b 112, .b 40 7 (dR ((e.ks.take i).map fun x => rX (mapE (fun b => affSubst b j.toNat y) x)))), (.u 112, .u), (.b 111, .b 40 7 [[.d (dI e.k), .d (dI e.n), .d (dIs (if e.k = 2 then (fun b => affSubst b j.toNat y) e.i else ([], 0)).1), .d (dI (if e.k = 2 then (fun b => affSubst b j.toNat y) e.i else ([], 0)).2), .d (dS (if e.k = 3 then mapC (fun b => affSubst b j.toNat y) e.r else (ByteArray.empty, [])).1), .d (dAs (if e.k = 3 then mapC (fun b => affSubst b j.toNat y) e.r else (ByteArray.empty, [])).2), .own 112 7 (i)]]), (.u 111, .u)])) [(110, 820), (111, 821)] (.inl ⟨0, rfl, rfl, rfl⟩) ⟨ks rfl .dt, ks rfl .dt, ks rfl .dt, ks rfl (.c .bx), ks rfl (.c .bx), ks rfl .dt, kb 820 rfl (.cons (.cons .dt (.cons .dt (.cons .dt (.cons .dt (.cons .dt (.cons .dt (.cons .dt Ctos.nil))))))) .nil), kb 821 rfl (.cons (.cons .dt (.cons .dt (.cons (.dt (by first | rfl | (simp [*]; done) | (simp [*]; rfl))) (.cons (.dt (by first | rfl | (simp [*]; done) | (simp [*]; rfl))) (.cons (.dt (by first | rfl | (simp [*]; done) | (simp [*]; rfl))) (.cons (.dt (by first | rfl | (simp [*]; done) | (simp [*]; rfl))) (.cons .dt Ctos.nil))))))) .nil), trivial⟩ ?_
 rintro m σ (⟨i, hm0, rfl, rfl⟩ | ⟨i, hm0, hi1, hi2, rfl⟩)
 ·skip
  refine .seq <| .seq <| .region <| .cons (.mv rfl rfl) <| .cons (.fP 6 0 false rfl rfl) <| .cons (.l1 1 rfl rfl) <| .cons (.ln 40 7 112 rfl rfl rfl) <| .cons (.ls rfl rfl rfl) <| .nil <| ks_n ?_
  refine .cD rfl (fun h36 => ?_) (fun h36 => ?_)
  ·skip
   obtain ⟨x, hx1⟩ : ∃ x, e.ks[0]? = some x := ⟨_, List.getElem?_eq_getElem (by omega)⟩
   refine .skip <| ks_n <| .seq <| .block ?_
   refine ACode.drawK (by kernel_rfl) (by kernel_rfl) ?_
   refine .cons (.fB 6 0 false rfl rfl rfl) <| .cons (.b1 1 rfl rfl rfl rfl rfl rfl) <| .cons (.fP 6 0 false rfl rfl) <| .cons (.l1 1 rfl rfl) <| .cons (.mv rfl rfl) <| .cons (.xL 40 7 112 rfl rfl rfl rfl rfl (rE_at hx1)) ?_
   refine .cons (.lN 7 rfl rfl rfl) <| .cons (.mv rfl rfl) <| .cons (.lN 2 rfl rfl rfl) <| .cons (.cP [.tmp 45, .tmp 46, .tmp 47] rfl rfl rfl rfl (ih x (List.mem_of_getElem? hx1)) rfl) ?_
   refine .cons (.li 40 6 0 [.tmp 48] rfl rfl rfl rfl rfl rfl) <| .cons (St1.appN (k' := 150) (e := 40) (sz := 6) (by' := 112) rfl rfl rfl rfl rfl (by kernel_rfl) rfl rfl rfl (by simp) (by first | (simp [dR]; done) | (simp [dR]; omega)) rfl rfl) ?_
   refine .cons (.fB 6 0 false rfl rfl rfl) <| .cons (.sT 1 false rfl rfl rfl rfl rfl rfl rfl) ?_
   refine .nil ⟨by kernel_rfl, ?_⟩
   refine kb_n <| ks_n <| .region <| .cons (.mv rfl rfl) <| .cons (.pl rfl rfl rfl) <| .cons (.asg rfl rfl) <| .nil ?_
   refine kl_k [(110, 110), (111, 111), (112, 150)] (.inr ⟨1, rfl, by omega, by omega, rfl⟩) ⟨ks rfl .dt, ks rfl .dt, ks rfl .dt, ks rfl (.c .bx), ks rfl (.c .bx), ks rfl .dt, kb 110 rfl (.cons (.cons .dt (.cons .dt (.cons .dt (.cons .dt (.cons .dt (.cons .dt (.cons .dt Ctos.nil))))))) .nil), kb 150 rfl (.dt rfl (by first | exact dR_take (fun x => rX (mapE (fun b => affSubst b j.toNat y) x)) hx1 | exact dR_take1 (fun x => rX (mapE (fun b => affSubst b j.toNat y) x)) hx1 | rfl | (simp [dR]; done))), kb 111 rfl (.cons (.cons .dt (.cons .dt (.cons (.dt (by first | rfl | (simp [*]; done) | (simp [*]; rfl))) (.cons (.dt (by first | rfl | (simp [*]; done) | (simp [*]; rfl))) (.cons (.dt (by first | rfl | (simp [*]; done) | (simp [*]; rfl))) (.cons (.dt (by first | rfl | (simp [*]; done) | (simp [*]; rfl))) (.cons .ow Ctos.nil))))))) .nil), trivial⟩
  ·skip
   have hn : e.ks = [] := List.eq_nil_of_length_eq_zero (by omega)
   refine .exit <| ks_e <| kl_e <| kb_hit <| ks_n <| .seq <| .region <| .cons (.bN 7 rfl rfl rfl rfl rfl rfl) <| .cons (.sT 7 true rfl rfl rfl rfl rfl rfl rfl) <| .nil <| ks_n <| .ret ?_
   refine kf_wret [(.t 6, .v (.o (.c (.box 100 7 0 0)))), (.b 100, .b 40 7 [[.d (dI e.k), .d (dI e.n), .d (dIs (if e.k = 2 then (fun b => affSubst b j.toNat y) e.i else ([], 0)).1), .d (dI (if e.k = 2 then (fun b => affSubst b j.toNat y) e.i else ([], 0)).2), .d (dS (if e.k = 3 then mapC (fun b => affSubst b j.toNat y) e.r else (ByteArray.empty, [])).1), .d (dAs (if e.k = 3 then mapC (fun b => affSubst b j.toNat y) e.r else (ByteArray.empty, [])).2), .d (dEs (e.ks.map (mapE (fun b => affSubst b j.toNat y))))]]), (.u 100, .u)] (Wk.keep [(100, 110)] rfl rfl ⟨ks rfl (.c .bx), kb 110 rfl (.cons (.cons .dt (.cons .dt (.cons (.dt (by first | rfl | (simp [*]; done) | (simp [*]; rfl))) (.cons (.dt (by first | rfl | (simp [*]; done) | (simp [*]; rfl))) (.cons (.dt (by first | rfl | (simp [*]; done) | (simp [*]; rfl))) (.cons (.dt (by first | rfl | (simp [*]; done) | (simp [*]; rfl))) (.cons (Cto.nilE 7 (by rw [hn]; rfl)) Ctos.nil))))))) .nil), trivial⟩) rfl ?_ nobox
   rw [rX_map]; rfl
 ·skip
  refine .seq <| .seq <| .region <| .cons (.mv rfl rfl) <| .cons (.fP 6 0 false rfl rfl) <| .cons (.l1 1 rfl rfl) <| .cons (.ln 40 7 112 rfl rfl rfl) <| .cons (.ls rfl rfl rfl) <| .nil <| ks_n ?_
  refine .cD rfl (fun h36 => ?_) (fun h36 => ?_)
  ·skip
   obtain ⟨x, hx1⟩ : ∃ x, e.ks[i]? = some x := ⟨_, List.getElem?_eq_getElem (by omega)⟩
   refine .skip <| ks_n <| .seq <| .block ?_
   refine ACode.drawK (by kernel_rfl) (by kernel_rfl) ?_
   refine .cons (.fB 6 0 false rfl rfl rfl) <| .cons (.b1 1 rfl rfl rfl rfl rfl rfl) <| .cons (.fP 6 0 false rfl rfl) <| .cons (.l1 1 rfl rfl) <| .cons (.mv rfl rfl) <| .cons (.xL 40 7 112 rfl rfl rfl rfl rfl (rE_at hx1)) ?_
   refine .cons (.lN 7 rfl rfl rfl) <| .cons (.mv rfl rfl) <| .cons (.lN 2 rfl rfl rfl) <| .cons (.cP [.tmp 45, .tmp 46, .tmp 47] rfl rfl rfl rfl (ih x (List.mem_of_getElem? hx1)) rfl) ?_
   refine .cons (.li 40 6 0 [.tmp 48] rfl rfl rfl rfl rfl rfl) <| .cons (St1.appB (k' := 150) (e := 40) (sz := 6) (by' := 112) rfl rfl rfl rfl rfl (by kernel_rfl) rfl rfl rfl rfl (by first | (simp [dR]; done) | (simp [dR]; omega)) (by first | (simp [dR]; done) | (simp [dR]; omega)) rfl rfl rfl) ?_
   refine .cons (.fB 6 0 false rfl rfl rfl) <| .cons (.sT 1 false rfl rfl rfl rfl rfl rfl rfl) ?_
   refine .nil ⟨by kernel_rfl, ?_⟩
   refine kb_n <| ks_n <| .region <| .cons (.mv rfl rfl) <| .cons (.pl rfl rfl rfl) <| .cons (.asg rfl rfl) <| .nil ?_
   refine kl_k [(110, 110), (111, 111), (112, 150)] (.inr ⟨i + 1, rfl, by omega, by omega, rfl⟩) ⟨ks rfl .dt, ks rfl .dt, ks rfl .dt, ks rfl (.c .bx), ks rfl (.c .bx), ks rfl .dt, kb 110 rfl (.cons (.cons .dt (.cons .dt (.cons .dt (.cons .dt (.cons .dt (.cons .dt (.cons .dt Ctos.nil))))))) .nil), kb 150 rfl (.dt rfl (by first | exact dR_take (fun x => rX (mapE (fun b => affSubst b j.toNat y) x)) hx1 | exact dR_take1 (fun x => rX (mapE (fun b => affSubst b j.toNat y) x)) hx1 | rfl | (simp [dR]; done))), kb 111 rfl (.cons (.cons .dt (.cons .dt (.cons (.dt (by first | rfl | (simp [*]; done) | (simp [*]; rfl))) (.cons (.dt (by first | rfl | (simp [*]; done) | (simp [*]; rfl))) (.cons (.dt (by first | rfl | (simp [*]; done) | (simp [*]; rfl))) (.cons (.dt (by first | rfl | (simp [*]; done) | (simp [*]; rfl))) (.cons .ow Ctos.nil))))))) .nil), trivial⟩
  ·skip
   obtain rfl : i = e.ks.length := by omega
   refine .exit <| ks_e <| kl_e <| kb_hit <| ks_n <| .seq <| .region <| .cons (.bN 7 rfl rfl rfl rfl rfl rfl) <| .cons (.sT 7 true rfl rfl rfl rfl rfl rfl rfl) <| .nil <| ks_n <| .ret ?_
   refine kf_wret [(.t 6, .v (.o (.c (.box 100 7 0 0)))), (.b 100, .b 40 7 [[.d (dI e.k), .d (dI e.n), .d (dIs (if e.k = 2 then (fun b => affSubst b j.toNat y) e.i else ([], 0)).1), .d (dI (if e.k = 2 then (fun b => affSubst b j.toNat y) e.i else ([], 0)).2), .d (dS (if e.k = 3 then mapC (fun b => affSubst b j.toNat y) e.r else (ByteArray.empty, [])).1), .d (dAs (if e.k = 3 then mapC (fun b => affSubst b j.toNat y) e.r else (ByteArray.empty, [])).2), .d (dEs (e.ks.map (mapE (fun b => affSubst b j.toNat y))))]]), (.u 100, .u)] (Wk.keep [(100, 110)] rfl rfl ⟨ks rfl (.c .bx), kb 110 rfl (.cons (.cons .dt (.cons .dt (.cons (.dt (by first | rfl | (simp [*]; done) | (simp [*]; rfl))) (.cons (.dt (by first | rfl | (simp [*]; done) | (simp [*]; rfl))) (.cons (.dt (by first | rfl | (simp [*]; done) | (simp [*]; rfl))) (.cons (.dt (by first | rfl | (simp [*]; done) | (simp [*]; rfl))) (.cons (.fz rfl (by first | rfl | exact dR_ex _ _ | (rw [List.take_length]; done)) (by first | rfl | (simp; done) | (simp; omega)) (by omega)) Ctos.nil))))))) .nil), trivial⟩) rfl ?_ nobox
   rw [rX_map]; rfl

theorem l3SubExW_fn {y : Aff} (hy : affM y) {j : Int} (hj : 0 ≤ j ∧ j < 4) : ∀ e : Ex, szE e ≤ 1073741824 → (∀ x ∈ affsE e, affW x) → Fn Try.prog 53 [] [ad (rX e), nat1 j, ad (rA y)] (.o (ad (rX (mapE (fun b => affSubst b j.toNat y) e)))) [] := by
  intro e
  induction e using Ex.rec' with
  | h e ih =>
    intro hs hm
    rw [szE_eq, szC] at hs
    have := szAs_len e.r.2
    exact l3SubExW_one e (by omega) (by omega) hy hj hm fun x hx => ih x hx (by have := szEs_mem hx; omega) fun a ha => hm a (affsE_k hx ha)

theorem l3SubstW_fn (s : Stm) (hs : szS s ≤ 1073741824) {y : Aff} (hy : affM y) {j : Int} (hj : 0 ≤ j ∧ j < 4) (hm : ∀ x ∈ affsS s, affW x) : Fn Try.prog 23 [] [ad (rS s), nat1 j, ad (rA y)] (.o (ad (rS (mapS (fun b => affSubst b j.toNat y) s)))) [] := by
 rw [szS, szC] at hs
 have := szAs_len s.1.2
 refine Fn.code0 Try.func23 rfl rfl rfl rfl ?_
 refine .seq <| .region <| .cons (St1.boxP rfl rfl rfl rfl rfl rfl) <| .cons (St1.boxP rfl rfl rfl rfl rfl rfl) <| .cons (.al 106 [.string ByteArray.empty, .slice none 0 0, .int .i64 0, .int .i64 0, .slice none 0 0, .int .i64 0, .string ByteArray.empty, .slice none 0 0, .slice none 0 0] rfl rfl rfl) <| .nil <| ks_n <| .seq ?_
 refine ACode.drawK (by kernel_rfl) (by kernel_rfl) ?_
 refine .cons (.fP 0 1 true rfl rfl) <| .cons (.lN 2 rfl rfl rfl) <| .cons (.mv rfl rfl) <| .cons (.lN 2 rfl rfl rfl) <| .cons (.cP [.tmp 8, .tmp 9, .tmp 10] rfl rfl rfl rfl (l3SubAccW_fn s.1 (by omega) hy hj (fun x hx => hm x (List.mem_append_left _ hx))) rfl) ?_
 refine .cons (.fP 2 6 true rfl rfl) <| .cons (.lN 7 rfl rfl rfl) <| .cons (.mv rfl rfl) <| .cons (.lN 2 rfl rfl rfl) <| .cons (.cP [.tmp 13, .tmp 14, .tmp 15] rfl rfl rfl rfl (l3SubExW_fn hy hj s.2 (by omega) (fun x hx => hm x (List.mem_append_right _ hx))) rfl) ?_
 refine .cons (.bu [(0, .tmp 11), (1, .tmp 16)] [(0, 2), (2, 7)] [.string ByteArray.empty, .slice none 0 0, .int .i64 0, .int .i64 0, .slice none 0 0, .int .i64 0, .string ByteArray.empty, .slice none 0 0, .slice none 0 0] rfl rfl rfl rfl rfl) <| .cons (.sT 9 true rfl rfl rfl rfl rfl rfl rfl) ?_
 refine .nil ⟨by kernel_rfl, ?_⟩
 refine ks_n <| .ret ?_
 refine kf_ret rfl ?_ nobox
 rfl
/-- Constants in place of the first variables. -/
def sbT (p : List Int) : Nat → Aff → Aff
  | 0, x => x
  | i + 1, x => affSubst (sbT p i x) i ([0, 0, 0, 0], p.getD i 0)
def zTo (co : List Int) (i : Nat) : List Int := [if 0 < i then 0 else co.getD 0 0, if 1 < i then 0 else co.getD 1 0, if 2 < i then 0 else co.getD 2 0, if 3 < i then 0 else co.getD 3 0]
theorem sbT_form {p : List Int} {x : Aff} (h : x.1.length = 4) : ∀ i, i ≤ 4 → sbT p i x = (zTo x.1 i, x.2 + evalTo x.1 p i)
  | 0, _ => by
    rw [sbT, evalTo]
    obtain ⟨l, n⟩ := x
    match l, h with
    | [a, b, c, d], _ => simp [zTo]
  | i + 1, hi => by
    rw [sbT, sbT_form h i (by omega), subst_const _ _ _ (by rfl), evalTo]
    obtain ⟨l, n⟩ := x
    match l, h with
    | [a, b, c, d], _ =>
      match i, hi with
      | 0, _ => simp [zTo]; omega
      | 1, _ => simp [zTo]; omega
      | 2, _ => simp [zTo]; omega
      | 3, _ => simp [zTo]; omega
theorem mul99 {x y : Int} (hx : -9 ≤ x ∧ x ≤ 9) (hy : -99 ≤ y ∧ y ≤ 99) : -1000 ≤ x * y ∧ x * y ≤ 1000 := by
  have h1 : 0 ≤ (9 - x) * (99 + y) := Int.mul_nonneg (by omega) (by omega)
  have h2 : 0 ≤ (9 + x) * (99 - y) := Int.mul_nonneg (by omega) (by omega)
  have h3 : 0 ≤ (9 - x) * (99 - y) := Int.mul_nonneg (by omega) (by omega)
  have h4 : 0 ≤ (9 + x) * (99 + y) := Int.mul_nonneg (by omega) (by omega)
  simp only [Int.sub_mul, Int.add_mul, Int.mul_sub, Int.mul_add] at h1 h2 h3 h4
  omega
theorem evalTo_b99 {p : List Int} {x : Aff} (h : affV x = true) : ∀ i, (∀ k, k < i → -99 ≤ p.getD k 0 ∧ p.getD k 0 ≤ 99) → -1000 * (i : Int) ≤ evalTo x.1 p i ∧ evalTo x.1 p i ≤ 1000 * i
  | 0, _ => by rw [evalTo]; omega
  | i + 1, hp => by
    rw [evalTo]
    have h1 := evalTo_b99 h i fun k hk => hp k (by omega)
    have h2 := mul99 (affV_getD h i) (hp i (by omega))
    omega
theorem sbT_W {p : List Int} {x : Aff} (h : affV x = true) {i : Nat} (hi : i ≤ 4) (hp : ∀ k, k < i → -99 ≤ p.getD k 0 ∧ p.getD k 0 ≤ 99) : affW (sbT p i x) := by
  have hl := affV_len h
  rw [sbT_form hl i hi]
  have h1 := evalTo_b99 h i hp
  have h2 := affV_const h
  refine ⟨rfl, fun k => ?_, by show -1000000 ≤ x.2 + evalTo x.1 p i; omega, by show x.2 + evalTo x.1 p i ≤ 1000000; omega⟩
  have g0 := affV_getD h 0
  have g1 := affV_getD h 1
  have g2 := affV_getD h 2
  have g3 := affV_getD h 3
  match k with
  | 0 => show -99 ≤ (if 0 < i then 0 else x.1.getD 0 0) ∧ (if 0 < i then 0 else x.1.getD 0 0) ≤ 99; split <;> omega
  | 1 => show -99 ≤ (if 1 < i then 0 else x.1.getD 1 0) ∧ (if 1 < i then 0 else x.1.getD 1 0) ≤ 99; split <;> omega
  | 2 => show -99 ≤ (if 2 < i then 0 else x.1.getD 2 0) ∧ (if 2 < i then 0 else x.1.getD 2 0) ≤ 99; split <;> omega
  | 3 => show -99 ≤ (if 3 < i then 0 else x.1.getD 3 0) ∧ (if 3 < i then 0 else x.1.getD 3 0) ≤ 99; split <;> omega
  | k + 4 => simp [zTo]
theorem dep_zero {x : Aff} (h : x.1.length = 4) {n : Nat} (hd : affDepth x ≤ n) : zTo x.1 n = [0, 0, 0, 0] := by
  obtain ⟨l, m⟩ := x
  match l, h with
  | [a, b, c, d], _ =>
    simp only [affDepth, List.length_cons, List.length_nil, depthTo] at hd
    simp [zTo] at *
    refine ⟨?_, ?_, ?_, ?_⟩ <;> intro hn <;> (revert hd; split <;> (try split) <;> (try split) <;> (try split) <;> intro hd <;> first | assumption | omega)
/-- A statement with constants for all its variables. -/
def ptG (p : List Int) (x : Aff) : Aff := ([0, 0, 0, 0], affEval x p)
theorem sbT_all {p : List Int} {x : Aff} (h : x.1.length = 4) (hp : p.length ≤ 4) (hd : affDepth x ≤ p.length) : sbT p p.length x = ptG p x := by
  rw [sbT_form h _ hp, dep_zero h hd, ptG, affEval]
theorem sb_next (s : Stm) (p : List Int) (i : Nat) : mapS (fun b => affSubst b i ([0, 0, 0, 0], p.getD i 0)) (mapS (sbT p i) s) = mapS (sbT p (i + 1)) s := mapS_comp _ _ s
theorem sb_all {s : Stm} {p : List Int} (hv : stmtV (p.length : Nat) s = true) : mapS (sbT p p.length) s = mapS (ptG p) s := by
  have h4 := (stmtV_ex hv).2.2.2
  exact mapS_congr fun x hx => sbT_all (stm_len hv x hx) (by omega) (stmtV_aff hv x hx).2
theorem sb_zero {s : Stm} {p : List Int} {d : Int} (hv : stmtV d s = true) : mapS (sbT p 0) s = s := by
  have : mapS (sbT p 0) s = mapS id s := mapS_congr fun x _ => rfl
  rw [this, mapS_id hv]
def ptT (s : Stm) (p : List Int) : Stm × Bool := if (stmtV (p.length : Nat) s && p.all fun n => inB n (-99) 99) = true then chkS 0 (mapS (ptG p) s) else (zS, false)
theorem ptT_no {s : Stm} {p : List Int} (h : (stmtV (p.length : Nat) s && p.all fun n => inB n (-99) 99) = false) : ptT s p = (zS, false) := by rw [ptT, h]; rfl
theorem ptT_yes {s : Stm} {p : List Int} (h : stmtV (p.length : Nat) s = true) (h2 : (p.all fun n => inB n (-99) 99) = true) : ptT s p = chkS 0 (mapS (ptG p) s) := by rw [ptT, h, h2]; rfl
theorem small99 {p : List Int} (h : (p.all fun n => inB n (-99) 99) = true) : Small p := fun n hn => by
  have := List.all_eq_true.1 h n hn
  simp [inB] at this
  omega
theorem ptT_ok {s : Stm} {p : List Int} (h : (ptT s p).2 = true) : stmtV (p.length : Nat) s = true ∧ (p.all fun n => inB n (-99) 99) = true ∧ stmtV 0 (mapS (ptG p) s) = true ∧ (ptT s p).1 = mapS (ptG p) s := by
  rw [ptT] at h ⊢
  split at h
  · next hc =>
    rw [if_pos hc]
    rw [chkS] at h ⊢
    split at h
    · next h2 =>
      rw [if_pos h2]
      simp only [Bool.and_eq_true] at hc
      exact ⟨hc.1, hc.2, h2, rfl⟩
    · cases h
  · cases h
theorem ptS_sz {s : Stm} {p : List Int} {d : Int} (hv : stmtV d s = true) : szS (mapS (ptG p) s) ≤ szS s :=
  szS_map fun x hx => by rw [stm_len hv x hx]; exact Nat.le_refl 4
theorem sbS_sz {s : Stm} {p : List Int} {d : Int} {i : Nat} (hi : i ≤ 4) (hv : stmtV d s = true) : szS (mapS (sbT p i) s) ≤ szS s :=
  szS_map fun x hx => by have hl := stm_len hv x hx; rw [sbT_form hl i hi, hl]; exact Nat.le_refl 4
theorem ptT_sz {s : Stm} {p : List Int} {m : Nat} (h : szS s ≤ m) : szS (ptT s p).1 ≤ m := by
  by_cases h2 : (ptT s p).2 = true
  · obtain ⟨h3, _, _, e⟩ := ptT_ok h2
    rw [e]; exact Nat.le_trans (ptS_sz h3) h
  · have : (ptT s p).1 = zS := by
      rw [ptT] at h2 ⊢
      split
      · next hc =>
        rw [if_pos hc, chkS] at h2
        rw [chkS]
        split
        · next h3 => rw [if_pos h3] at h2; exact absurd rfl h2
        · rfl
      · rfl
    rw [this]; exact Nat.zero_le _
theorem sbS_W {s : Stm} {p : List Int} {d : Int} {i : Nat} (hi : i ≤ 4) (hv : stmtV d s = true) (hp : ∀ k, k < i → -99 ≤ p.getD k 0 ∧ p.getD k 0 ≤ 99) : ∀ x ∈ affsS (mapS (sbT p i) s), affW x := fun x hx => by
  obtain ⟨b, hb, rfl⟩ := affsS_map x hx
  exact sbT_W (stmtV_aff hv b hb).1 hi hp
theorem isConst_fn (n : Int) : Fn Try.prog 30 [] [nat1 n] (.o (bo1 (inB n (-99) 99))) [] := by
  refine Fn.code0 Try.func30 rfl rfl rfl rfl ?_
  refine .seq <| .region <| .cons (.asg rfl rfl) <| .nil <| ks_n <| .seq <| .region <| .cons (.mv rfl rfl) <| .cons (.cP [.tmp 3, .const (.int .i64 (-99)), .const (.int .i64 (99))] rfl rfl rfl rfl (within_fn n (-99) 99) rfl) ?_
  refine .cons (.asg rfl rfl) <| .nil <| ks_n <| .ret ?_
  refine kf_ret rfl ?_ nobox
  rfl

theorem point1_fn (n : Int) : Fn Try.prog 29 [] [nat1 n] (.o (bo1 (!inB n (-99) 99))) [] := by
  refine Fn.code0 Try.func29 rfl rfl rfl rfl ?_
  refine .seq <| .region <| .cons (.asg rfl rfl) <| .nil <| ks_n <| .seq <| .region <| .cons (.mv rfl rfl) <| .cons (.cP [.tmp 3] rfl rfl rfl rfl (isConst_fn n) rfl) ?_
  refine .cons (.nt rfl rfl) <| .cons (.asg rfl rfl) <| .nil <| ks_n <| .ret ?_
  refine kf_ret rfl ?_ nobox
  rfl

theorem any_all' {p : List Int} : (!(p.any fun n => !inB n (-99) 99)) = p.all fun n => inB n (-99) 99 := by
  rw [Bool.eq_iff_iff]; simp
def shR (A : Nat → Prop) (R : Nat → Nat → Prop) : Nat → Nat → Prop
  | 0 => none'
  | 1 => A
  | j + 2 => R j
theorem shR_all {A : Nat → Prop} {R : Nat → Nat → Prop} {Q : Nat → Prop} (h1 : ∀ b, A b → Q b) (h2 : ∀ j b, R j b → Q b) : ∀ j b, shR A R j b → Q b
  | 0, b, h => h.elim
  | 1, b, h => h1 b h
  | j + 2, b, h => h2 j b h
theorem shR_dis {A : Nat → Prop} {R : Nat → Nat → Prop} (h : ∀ i j b, R i b → R j b → i = j) (h2 : ∀ j b, A b → ¬ R j b) : ∀ i j b, shR A R i b → shR A R j b → i = j
  | 0, j, b, h1, _ => h1.elim
  | 1, 0, b, _, h3 => h3.elim
  | 1, 1, b, _, _ => rfl
  | 1, j + 2, b, h1, h3 => absurd h3 (h2 j b h1)
  | i + 2, 0, b, _, h3 => h3.elim
  | i + 2, 1, b, h1, h3 => absurd h1 (h2 i b h3)
  | i + 2, j + 2, b, h1, h3 => by rw [h i j b h1 h3]
/-- A struct of trees, told as plain data. -/
theorem Wk.er {σ : St} (t : Nat) (R : Nat → Nat → Prop) (ds : List D) (h : lk σ (.t t) = .v (.o (ad (tagL R 0 ds)))) : Wk σ ((.t t, .v (.o (ad ds))) :: σ) := fun E bx a w hs => by
  obtain ⟨vs, e, hl, hv⟩ := hs.slot t _ h
  refine ⟨bx, ?_⟩
  rw [lk_cons]
  refine hs.tell ⟨vs, e, by rw [hl, List.length_map, tagL_len, List.length_map], fun i c u hc hu => ?_⟩ (fun k hk => by rw [show (V.o (ad ds)).refs = [] from refs_ad ds] at hk; cases hk)
  rw [List.getElem?_map] at hc
  cases hx : ds[i]? with
  | none => rw [hx] at hc; cases hc
  | some x =>
    rw [hx] at hc; cases hc
    have h1 : Dr (Bf E bx (lk σ)) w (tg (R i) x) u := hv i (.d (tg (R i) x)) u (by rw [List.getElem?_map, tagL_at hx, Nat.zero_add]; rfl) hu
    cases x with
    | val v => exact h1
    | list sz rows => cases h1 with | tree _ _ _ hB hl h => exact h.dr.mono fun b hb _ => hB b hb
    | tree S y => exact h1
theorem stmtMap_T {f : FuncId} {cap : List (List D)} (hc : callable Try.prog f = true) (g : Aff → Aff) (s : Stm) (hs : szS s ≤ 1073741824) (hg : ∀ x ∈ affsS s, FnT Try.prog f (ad (rA x) :: cap.map fun c => .c (.ptr c)) none' (.str (rA (g x)))) : FnT Try.prog 31 [ad (rS s), .c (.fn f cap)] (none') (.str (rS (mapS g s))) := by
 have h1 : s.1.2.length ≤ 1073741824 := by rw [szS, szC] at hs; have := szAs_len s.1.2; omega
 have h2 : szE s.2 ≤ 1073741824 := by rw [szS] at hs; omega
 refine FnT.of_code Try.func31 rfl rfl rfl (fun O => ?_)
 refine .seq <| .region <| .cons (St1.boxP rfl rfl rfl rfl rfl rfl) <| .cons (.al 104 [.string ByteArray.empty, .slice none 0 0, .int .i64 0, .int .i64 0, .slice none 0 0, .int .i64 0, .string ByteArray.empty, .slice none 0 0, .slice none 0 0] rfl rfl rfl) <| .nil <| ks_n <| .seq ?_
 refine ACode.drawT (by kernel_rfl) (by kernel_rfl) (fun Uq1_0 => ?_)
 refine .cons (fun _ => (.fP 0 1 true rfl rfl)) <| .cons (fun _ => (.lN 2 rfl rfl rfl)) <| .cons (fun _ => (.mv rfl rfl)) ?_
 refine .cT [.tmp 6, .tmp 7] rfl rfl (fun _ => rfl) (fun _ => rfl) (accMap_T hc g s.1 h1 (fun x hx => hg x (by rw [affsS]; exact List.mem_append_left _ hx))) rfl rfl nosrcV ?_
 refine .cons (fun _ => (.fP 2 6 true rfl rfl)) <| .cons (fun _ => (.lN 7 rfl rfl rfl)) <| .cons (fun _ => (.mv rfl rfl)) ?_
 refine .cT [.tmp 10, .tmp 11] rfl rfl (fun _ => rfl) (fun _ => rfl) (exprMap_T hc g s.2 h2 (fun x hx => hg x (by rw [affsS]; exact List.mem_append_right _ hx))) rfl rfl nosrcV ?_
 refine .cons (fun _ => (.bu [(0, .tmp 8), (1, .tmp 12)] [(0, 2), (2, 7)] [.string ByteArray.empty, .slice none 0 0, .int .i64 0, .int .i64 0, .slice none 0 0, .int .i64 0, .string ByteArray.empty, .slice none 0 0, .slice none 0 0] rfl rfl rfl rfl rfl)) <| .cons (fun _ => (.sT 9 true rfl rfl rfl rfl rfl rfl rfl)) ?_
 refine .nil ⟨⟨fun _ => by kernel_rfl, by repeat' (first | exact trivial | exact .inr (.inl rfl) | exact .inl (by decide +kernel) | exact .inr (.inr fun _ _ => rfl) | refine ⟨?_, ?_⟩), rfl⟩, fun ρq1_0 Nq1_0 Fq1_0 Wq1_0 => ?_⟩
 obtain ⟨hR8, dR8, pR8⟩ := Fq1_0.hR Wq1_0 3 rfl rfl
 obtain ⟨hR12, dR12, pR12⟩ := Fq1_0.hR Wq1_0 7 rfl rfl
 refine ks_n <| .ret ?_
 refine kt_ret (shR ((ρq1_0 3) 1) (ρq1_0 7)) rfl ?_ ?_ ?_
 ·rfl
 ·exact shR_dis dR12 (fun j b h1 h2 => (Fq1_0.two 3 7 rfl rfl rfl rfl rfl (fun b h => h.elim) (fun b h => h.elim) 1 j b h1 h2).1.elim)
 ·exact shR_all (fun b h => .inr (new_of hR8 (gh_has rfl) 1 b h)) (fun j b h => .inr (new_of hR12 (gh_has rfl) j b h))
theorem point2_T {x : Aff} {p : List Int} (hV : affV x = true) (hS : Small p) (hn : p.length ≤ 4) : FnT Try.prog 32 [ad (rA x), .c (.ptr [dIs p])] (none') (.str (rA (ptG p x))) := by
  refine FnT.of_code Try.func32 rfl rfl rfl (fun O => ?_)
  refine .seq <| .region <| .cons (St1.boxP rfl rfl rfl rfl rfl rfl) <| .cons (.al 103 [.slice none 0 0, .int .i64 0] rfl rfl rfl) <| .nil <| ks_n <| .seq <| .region <| .cons (.lN 2 rfl rfl rfl) <| .cons (.l1 1 rfl rfl) <| .cons (.cP [.tmp 4, .tmp 5] rfl rfl rfl rfl (eval_fn hV hS hn) rfl) ?_
  refine AOps.cT [.tmp 6] rfl rfl rfl rfl (const_T (affEval x p)) rfl rfl nosrc (fun R7 hR7 dR7 pR7 => ?_)
  refine .cons (.sT 2 true rfl rfl rfl rfl rfl rfl rfl) <| .nil <| ks_n <| .ret ?_
  refine kt_ret (R7) rfl ?_ ?_ ?_
  · rfl
  · exact dR7
  · exact fun j b h => .inr (new_of hR7 (gh_has rfl) j b h)

theorem PointStmt_T (s : Stm) (p : List Int) (hs : szS s ≤ 1073741824) (hp : p.length ≤ 1073741824) : FnT Try.prog 9 [ad (rS s), vD (dIs p)] (none') (.strB (rS (ptT s p).1) (ptT s p).2) := by
 refine FnT.of_code Try.func9 rfl rfl rfl (fun O => ?_)
 refine .seq <| .region <| .cons (St1.boxP rfl rfl rfl rfl rfl rfl) <| .cons (St1.boxP rfl rfl rfl rfl rfl rfl) <| .cons (.al 104 [.string ByteArray.empty, .slice none 0 0, .int .i64 0, .int .i64 0, .slice none 0 0, .int .i64 0, .string ByteArray.empty, .slice none 0 0, .slice none 0 0] rfl rfl rfl) <| .cons (.asg rfl rfl) <| .nil <| ks_n <| .seq <| .seq ?_
 refine ACode.cut [(.t 2, .v (.o (.c (.ptr (rS s))))), (.t 3, .v (.o (.c (.ptr [dIs p])))), (.t 4, .v (.o (.c (.box 810 9 0 0)))), (.t 5, .v (.o (bo1 false))), (.t 15, .v (.o (bo1 (!((stmtV (p.length : Nat) s && p.all fun n => inB n (-99) 99)))))), (.t 9999, .v (.gh O)), (.b 810, .b 42 9 [[.d (dS ByteArray.empty), .d (.val (.slice none 0 0)), .d (dI 0), .d (dI 0), .d (.val (.slice none 0 0)), .d (dI 0), .d (dS ByteArray.empty), .d (.val (.slice none 0 0)), .d (.val (.slice none 0 0))]]), (.u 810, .u)] ?_ ?_
 ·skip
  refine .region <| .cons (.lN 9 rfl rfl rfl) <| .cons (.l1 1 rfl rfl) <| .cons (.ln 3 1 8 rfl rfl rfl) <| .cons (.cP [.tmp 7, .tmp 9] rfl rfl rfl rfl (implStmtV_fn (p.length : Nat) s (by omega)) rfl) ?_
  refine .cons (.nt rfl rfl) <| .cons (.mv rfl rfl) ?_
  refine AOps.cases 12 _ rfl (fun g12 => ?_) (fun g12 => ?_)
  ·try simp only [zs1, zs2, zs3, zs4, zs5, zs6, zs7] at g12
   refine .cons (.gF rfl rfl rfl) <| .cons (.gF rfl rfl rfl) <| .cons (.pT rfl rfl rfl) <| .nil ?_
   exact kc_n (Wk.keep [(810, 104)] rfl rfl ⟨ks rfl .dt, ks rfl .dt, ks rfl (.c .bx), ks rfl .dt, ks rfl (.dt (vB (by rw [← any_all']; first | (simp [*]; done) | grind))), ks rfl .dt, kb 104 rfl (.cons (.cons .dt (.cons .dt (.cons .dt (.cons .dt (.cons .dt (.cons .dt (.cons .dt (.cons .dt (.cons .dt Ctos.nil))))))))) .nil), trivial⟩)
  ·try simp only [zs1, zs2, zs3, zs4, zs5, zs6, zs7] at g12
   refine .cons (.gT rfl rfl rfl (.l1 1 rfl rfl)) <| .cons (.gT rfl rfl rfl (.cP [.tmp 13, .func 29] rfl rfl rfl rfl (cnt_int (f := 29) (cap := []) (by kernel_rfl) (fun n => !inB n (-99) 99) p (by omega) (fun n _ => point1_fn n)) rfl)) ?_
   refine .cons (.pF rfl rfl rfl) <| .nil ?_
   exact kc_n (Wk.keep [(810, 104)] rfl rfl ⟨ks rfl .dt, ks rfl .dt, ks rfl (.c .bx), ks rfl .dt, ks rfl (.dt (vB (by rw [← any_all']; first | (simp [*]; done) | grind))), ks rfl .dt, kb 104 rfl (.cons (.cons .dt (.cons .dt (.cons .dt (.cons .dt (.cons .dt (.cons .dt (.cons .dt (.cons .dt (.cons .dt Ctos.nil))))))))) .nil), trivial⟩)
 refine ks_n ?_
 refine ACode.condT rfl (fun h15 => ?_) (fun h15 => ?_)
 ·try simp only [zs1, zs2, zs3, zs4, zs5, zs6, zs7] at h15
  refine .seq <| .region <| .cons (.bu [] [(0, 2), (2, 7)] [.string ByteArray.empty, .slice none 0 0, .int .i64 0, .int .i64 0, .slice none 0 0, .int .i64 0, .string ByteArray.empty, .slice none 0 0, .slice none 0 0] rfl rfl rfl rfl rfl) <| .cons (.sT 9 true rfl rfl rfl rfl rfl rfl rfl) <| .cons (.asg rfl rfl) <| .nil <| ks_n <| .ret <| ks_r ?_
  refine kt_wret (nthS [none', none', none', none', none', none', none', none', none']) [(.t 4, .v (.o (.c (.box 100 9 0 0)))), (.t 5, .v (.o (bo1 false))), (.b 100, .b 42 9 [[.d (dS ByteArray.empty), (.d (.tree none' (dAs []))), .d (dI 0), .d (dI 0), (.d (.tree none' (dIs []))), .d (dI 0), .d (dS ByteArray.empty), (.d (.tree none' (dAs []))), (.d (.tree none' (dEs [])))]]), (.u 100, .u)] (Wk.keep [(100, 810)] rfl rfl ⟨ks rfl (.c .bx), ks rfl .dt, kb 810 rfl (.cons (.cons .dt (.cons (Cto.nilTE 2 rfl) (.cons .dt (.cons .dt (.cons (Cto.nilTE 1 rfl) (.cons .dt (.cons .dt (.cons (Cto.nilTE 2 rfl) (.cons (Cto.nilTE 7 rfl) Ctos.nil))))))))) .nil), trivial⟩) rfl ?_ ?_ ?_
  ·rw [ptT_no h15]; rfl
  ·exact nthS_dis (by first | (simp only [List.pairwise_cons, List.forall_mem_cons, List.not_mem_nil, false_implies, implies_true, and_true, List.Pairwise.nil]; done) | (simp only [List.pairwise_cons, List.forall_mem_cons, List.not_mem_nil, false_implies, implies_true, and_true, List.Pairwise.nil]; simp [none']; done))
  ·exact nthS_all (by simp only [List.forall_mem_cons, List.not_mem_nil, false_implies, implies_true, and_true]; exact ⟨(fun b h => h.elim), (fun b h => h.elim), (fun b h => h.elim), (fun b h => h.elim), (fun b h => h.elim), (fun b h => h.elim), (fun b h => h.elim), (fun b h => h.elim), (fun b h => h.elim)⟩)
 ·try simp only [zs1, zs2, zs3, zs4, zs5, zs6, zs7] at h15
  obtain ⟨hv, ha⟩ : stmtV (p.length : Nat) s = true ∧ (p.all fun n => inB n (-99) 99) = true := by rw [Bool.and_eq_true] at h15; exact h15
  have h4 := (stmtV_ex hv).2.2.2
  have hz := ptS_sz (p := p) hv
  refine .skip <| ks_n <| .seq <| .region <| .cons (.lN 9 rfl rfl rfl) <| .cons (St1.makeFunc (xs := [.tmp 3]) rfl rfl rfl rfl rfl rfl rfl) ?_
  refine AOps.cT [.tmp 17, .tmp 18] rfl rfl rfl rfl (stmtMap_T (f := 32) (cap := [[dIs p]]) (by kernel_rfl) (ptG p) s hs (fun x hx => point2_T (stmtV_aff hv x hx).1 (small99 ha) (by omega))) rfl rfl nosrc (fun R19 hR19 dR19 pR19 => ?_)
  refine .cons (.al 106 [.string ByteArray.empty, .slice none 0 0, .int .i64 0, .int .i64 0, .slice none 0 0, .int .i64 0, .string ByteArray.empty, .slice none 0 0, .slice none 0 0] rfl rfl rfl) <| .cons (.sT 9 true rfl rfl rfl rfl rfl rfl rfl) <| .nil <| ks_n <| .seq <| .seq <| .region <| .cons (.bN 9 rfl rfl rfl rfl rfl rfl) ?_
  refine AOps.wk (Wk.er 20 R19 (rS (mapS (ptG p) s)) rfl) ?_
  refine .cons (.cP [.tmp 20, .const (.int .i64 (0))] rfl rfl rfl rfl (implStmtV_fn 0 (mapS (ptG p) s) (by omega)) rfl) ?_
  refine .cons (.nt rfl rfl) <| .nil <| ks_n ?_
  refine ACode.condT rfl (fun h22 => ?_) (fun h22 => ?_)
  ·try simp only [zs1, zs2, zs3, zs4, zs5, zs6, zs7] at h22
   refine .seq <| .region <| .cons (.bu [] [(0, 2), (2, 7)] [.string ByteArray.empty, .slice none 0 0, .int .i64 0, .int .i64 0, .slice none 0 0, .int .i64 0, .string ByteArray.empty, .slice none 0 0, .slice none 0 0] rfl rfl rfl rfl rfl) <| .cons (.sT 9 true rfl rfl rfl rfl rfl rfl rfl) <| .cons (.asg rfl rfl) <| .nil <| ks_n <| .ret <| ks_r ?_
   refine kt_wret (nthS [none', none', none', none', none', none', none', none', none']) [(.t 4, .v (.o (.c (.box 100 9 0 0)))), (.t 5, .v (.o (bo1 false))), (.b 100, .b 42 9 [[.d (dS ByteArray.empty), (.d (.tree none' (dAs []))), .d (dI 0), .d (dI 0), (.d (.tree none' (dIs []))), .d (dI 0), .d (dS ByteArray.empty), (.d (.tree none' (dAs []))), (.d (.tree none' (dEs [])))]]), (.u 100, .u)] (Wk.keep [(100, 810)] rfl rfl ⟨ks rfl (.c .bx), ks rfl .dt, kb 810 rfl (.cons (.cons .dt (.cons (Cto.nilTE 2 rfl) (.cons .dt (.cons .dt (.cons (Cto.nilTE 1 rfl) (.cons .dt (.cons .dt (.cons (Cto.nilTE 2 rfl) (.cons (Cto.nilTE 7 rfl) Ctos.nil))))))))) .nil), trivial⟩) rfl ?_ ?_ ?_
   ·rw [ptT_yes hv ha, chkS_no h22]; rfl
   ·exact nthS_dis (by first | (simp only [List.pairwise_cons, List.forall_mem_cons, List.not_mem_nil, false_implies, implies_true, and_true, List.Pairwise.nil]; done) | (simp only [List.pairwise_cons, List.forall_mem_cons, List.not_mem_nil, false_implies, implies_true, and_true, List.Pairwise.nil]; simp [none']; done))
   ·exact nthS_all (by simp only [List.forall_mem_cons, List.not_mem_nil, false_implies, implies_true, and_true]; exact ⟨(fun b h => h.elim), (fun b h => h.elim), (fun b h => h.elim), (fun b h => h.elim), (fun b h => h.elim), (fun b h => h.elim), (fun b h => h.elim), (fun b h => h.elim), (fun b h => h.elim)⟩)
  ·try simp only [zs1, zs2, zs3, zs4, zs5, zs6, zs7] at h22
   refine .skip <| ks_n <| .seq <| .region <| .cons (.bN 9 rfl rfl rfl rfl rfl rfl) <| .cons (.sT 9 true rfl rfl rfl rfl rfl rfl rfl) <| .cons (.asg rfl rfl) <| .nil <| ks_n <| .ret ?_
   refine kt_ret (R19) rfl ?_ ?_ ?_
   ·rw [ptT_yes hv ha, chkS_yes h22]; rfl
   ·exact dR19
   ·exact fun j b h => .inr (new_of hR19 (gh_has rfl) j b h)
theorem l1Within_fn (n m : Int) (hm : 0 ≤ m ∧ m ≤ 1000000) : Fn Try.prog 22 [] [nat1 n, nat1 m] (.o (bo1 (inB n (-m) m))) [] := by
  refine Fn.code0 Try.func22 rfl rfl rfl rfl ?_
  refine .seq <| .region <| .cons (.asg rfl rfl) <| .nil <| ks_n <| .seq <| .region <| .cons (.mv rfl rfl) <| .cons (.mv rfl rfl) <| .cons (St1.neg rfl rfl rfl rfl rfl (by omega)) ?_
  refine .cons (.ge rfl rfl rfl) <| .cons (.mv rfl rfl) ?_
  refine .cD 9 rfl (fun g9 => ?_) (fun g9 => ?_)
  · skip
    refine .cons (.gT rfl rfl rfl (.mv rfl rfl)) <| .cons (.gT rfl rfl rfl (.mv rfl rfl)) <| .cons (.gT rfl rfl rfl (.le rfl rfl rfl)) <| .cons (.pT rfl rfl rfl) <| .cons (.asg rfl rfl) <| .nil <| ks_n <| .ret ?_
    refine kf_ret rfl ?_ nobox
    exact leafB (by rw [Bool.eq_iff_iff]; simp [inB] <;> omega)
  · skip
    refine .cons (.gF rfl rfl rfl) <| .cons (.gF rfl rfl rfl) <| .cons (.gF rfl rfl rfl) <| .cons (.pF rfl rfl rfl) <| .cons (.asg rfl rfl) <| .nil <| ks_n <| .ret ?_
    refine kf_ret rfl ?_ nobox
    exact leafB (by rw [Bool.eq_iff_iff]; simp [inB] <;> omega)

theorem sb_row {s : Stm} {p : List Int} {i : Nat} {x : Int} (hx : p[i]? = some x) : dR [rS (mapS (fun b => affSubst b ((i : Nat) : Int).toNat ([0, 0, 0, 0], x)) (mapS (sbT p i) s))] = dR [rS (mapS (sbT p (i + 1)) s)] := by
  have e : p.getD i 0 = x := by rw [List.getD_eq_getElem?_getD, hx]; rfl
  rw [← sb_next, e]; rfl
theorem sb_row0 {s : Stm} {p : List Int} {d : Int} (h : stmtV d s = true) : dR [rS s] = dR [rS (mapS (sbT p 0) s)] := by rw [sb_zero h]
theorem all_of {p : List Int} (h : ∀ k, k < p.length → -99 ≤ p.getD k 0 ∧ p.getD k 0 ≤ 99) : (p.all fun n => inB n (-99) 99) = true := by
  rw [List.all_eq_true]
  intro n hn
  obtain ⟨k, hk⟩ := List.mem_iff_getElem?.1 hn
  have := h k (List.getElem?_eq_some_iff.1 hk).1
  rw [List.getD_eq_getElem?_getD, hk] at this
  simpa [inB] using this
theorem pt_step {p : List Int} {i : Nat} {x : Int} (h : ∀ k, k < i → -99 ≤ p.getD k 0 ∧ p.getD k 0 ≤ 99) (hx : p[i]? = some x) (hb : inB x (-99) 99 = true) : ∀ k, k < i + 1 → -99 ≤ p.getD k 0 ∧ p.getD k 0 ≤ 99 := by
  intro k hk
  by_cases e : k = i
  · subst e
    rw [List.getD_eq_getElem?_getD, hx]
    simpa [inB] using hb
  · exact h k (by omega)
theorem pt_isPt {p : List Int} (h : isPt p = false) (h2 : p.length ≤ 4) : (p.all fun n => inB n (-99) 99) = false := by
  cases e : (p.all fun n => inB n (-99) 99) with
  | false => rfl
  | true =>
    rw [List.all_eq_true] at e
    have : isPt p = true := by
      rw [isPt, Bool.and_eq_true, decide_eq_true_eq, Bool.not_eq_true', List.any_eq_false]
      refine ⟨h2, fun n hn => ?_⟩
      have := e n hn
      simp [inB] at this ⊢
      omega
    rw [this] at h; cases h
theorem ptT_bad {s : Stm} {p : List Int} (h : (stmtV (p.length : Nat) s && isPt p) = false) : ptT s p = (zS, false) := by
  refine ptT_no ?_
  cases hv : stmtV (p.length : Nat) s with
  | false => rfl
  | true =>
    rw [hv, Bool.true_and] at h
    have := (stmtV_ex hv).2.2.2
    rw [pt_isPt h (by omega)]; rfl
theorem ptT_out {s : Stm} {p : List Int} {i : Nat} {x : Int} (hx : p[i]? = some x) (hb : inB x (-99) 99 = false) : ptT s p = (zS, false) := by
  refine ptT_no ?_
  have : (p.all fun n => inB n (-99) 99) = false := by
    rw [List.all_eq_false]; exact ⟨x, List.mem_of_getElem? hx, by rw [hb]; simp⟩
  rw [this]; simp

theorem specPoint_fn (s : Stm) (p : List Int) (hs : szS s ≤ 1073741824) (hp : p.length ≤ 1073741824) : Fn Try.prog 6 [] [ad (rS s), vD (dIs p)] (.tup [ad (rS (ptT s p).1), bo1 (ptT s p).2]) [] := by
 refine Fn.code0 Try.func6 rfl rfl rfl rfl ?_
 refine .seq <| .region <| .cons (St1.boxP rfl rfl rfl rfl rfl rfl) <| .cons (.al 104 [.string ByteArray.empty, .slice none 0 0, .int .i64 0, .int .i64 0, .slice none 0 0, .int .i64 0, .string ByteArray.empty, .slice none 0 0, .slice none 0 0] rfl rfl rfl) <| .cons (.asg rfl rfl) <| .nil <| ks_n <| .seq <| .seq ?_
 refine ACode.cut [(.t 1, .v (.o (vD (dIs p)))), (.t 2, .v (.o (.c (.ptr (rS s))))), (.t 4, .v (.o (.c (.box 810 9 0 0)))), (.t 5, .v (.o (bo1 false))), (.t 17, .v (.o (bo1 (!((stmtV (p.length : Nat) s && isPt p)))))), (.b 810, .b 42 9 [[.d (dS ByteArray.empty), .d (.val (.slice none 0 0)), .d (dI 0), .d (dI 0), .d (.val (.slice none 0 0)), .d (dI 0), .d (dS ByteArray.empty), .d (.val (.slice none 0 0)), .d (.val (.slice none 0 0))]]), (.u 810, .u)] ?_ ?_
 ·skip
  refine .region <| .cons (.lN 9 rfl rfl rfl) <| .cons (.mv rfl rfl) <| .cons (.ln 3 1 8 rfl rfl rfl) <| .cons (.cP [.tmp 8, .tmp 10] rfl rfl rfl rfl (specStmtV_fn (p.length : Nat) s (by omega)) rfl) ?_
  refine .cons (.nt rfl rfl) <| .cons (.mv rfl rfl) ?_
  refine AOps.cases 13 _ rfl (fun g13 => ?_) (fun g13 => ?_)
  ·try simp only [zs1, zs2, zs3, zs4, zs5, zs6, zs7] at g13
   refine .cons (.gF rfl rfl rfl) <| .cons (.gF rfl rfl rfl) <| .cons (.gF rfl rfl rfl) <| .cons (.pT rfl rfl rfl) <| .nil ?_
   exact kc_n (Wk.keep [(810, 104)] rfl rfl ⟨ks rfl .dt, ks rfl .dt, ks rfl (.c .bx), ks rfl .dt, ks rfl (.dt (vB (by first | (simp [*]; done) | grind))), kb 104 rfl (.cons (.cons .dt (.cons .dt (.cons .dt (.cons .dt (.cons .dt (.cons .dt (.cons .dt (.cons .dt (.cons .dt Ctos.nil))))))))) .nil), trivial⟩)
  ·try simp only [zs1, zs2, zs3, zs4, zs5, zs6, zs7] at g13
   refine .cons (.gT rfl rfl rfl (.mv rfl rfl)) <| .cons (.gT rfl rfl rfl (.cP [.tmp 14] rfl rfl rfl rfl (l1Point_fn p) rfl)) ?_
   refine .cons (.gT rfl rfl rfl (.nt rfl rfl)) <| .cons (.pF rfl rfl rfl) <| .nil ?_
   exact kc_n (Wk.keep [(810, 104)] rfl rfl ⟨ks rfl .dt, ks rfl .dt, ks rfl (.c .bx), ks rfl .dt, ks rfl (.dt (vB (by first | (simp [*]; done) | grind))), kb 104 rfl (.cons (.cons .dt (.cons .dt (.cons .dt (.cons .dt (.cons .dt (.cons .dt (.cons .dt (.cons .dt (.cons .dt Ctos.nil))))))))) .nil), trivial⟩)
 refine ks_n ?_
 refine ACode.condT rfl (fun h17 => ?_) (fun h17 => ?_)
 ·try simp only [zs1, zs2, zs3, zs4, zs5, zs6, zs7] at h17
  refine .seq <| .region <| .cons (.bu [] [(0, 2), (2, 7)] [.string ByteArray.empty, .slice none 0 0, .int .i64 0, .int .i64 0, .slice none 0 0, .int .i64 0, .string ByteArray.empty, .slice none 0 0, .slice none 0 0] rfl rfl rfl rfl rfl) <| .cons (.sT 9 true rfl rfl rfl rfl rfl rfl rfl) <| .cons (.asg rfl rfl) <| .nil <| ks_n <| .ret <| ks_r ?_
  refine kf_wret [(.t 4, .v (.o (.c (.box 100 9 0 0)))), (.t 5, .v (.o (bo1 false))), (.b 100, .b 42 9 [[.d (dS ByteArray.empty), .d (dAs []), .d (dI 0), .d (dI 0), .d (dIs []), .d (dI 0), .d (dS ByteArray.empty), .d (dAs []), .d (dEs [])]]), (.u 100, .u)] (Wk.keep [(100, 810)] rfl rfl ⟨ks rfl (.c .bx), ks rfl .dt, kb 810 rfl (.cons (.cons .dt (.cons (Cto.nil _) (.cons .dt (.cons .dt (.cons (Cto.nil _) (.cons .dt (.cons .dt (.cons (Cto.nil _) (.cons (Cto.nil _) Ctos.nil))))))))) .nil), trivial⟩) rfl ?_ nobox
  rw [ptT_bad h17]; rfl
 ·try simp only [zs1, zs2, zs3, zs4, zs5, zs6, zs7] at h17
  obtain ⟨hv, ha⟩ : stmtV (p.length : Nat) s = true ∧ isPt p = true := by rw [Bool.and_eq_true] at h17; exact h17
  have h4 := (stmtV_ex hv).2.2.2
  have hz := ptS_sz (p := p) hv
  refine .skip <| ks_n <| .seq <| .region <| .cons (.lN 9 rfl rfl rfl) <| .cons (.cP [.tmp 19] rfl rfl rfl rfl (l3Copy_fn s hs) rfl) ?_
  refine .cons (.al 106 [.string ByteArray.empty, .slice none 0 0, .int .i64 0, .int .i64 0, .slice none 0 0, .int .i64 0, .string ByteArray.empty, .slice none 0 0, .slice none 0 0] rfl rfl rfl) <| .cons (.sT 9 true rfl rfl rfl rfl rfl rfl rfl) <| .nil <| ks_n <| .seq <| .seq <| .region <| .cons (.asg rfl rfl) <| .nil <| ks_n <| .block ?_
  refine .loopK (fun m σ => (∃ i : Nat, m = p.length - i ∧ (i ≤ p.length) ∧ (∀ k, k < i → -99 ≤ p.getD k 0 ∧ p.getD k 0 ≤ 99) ∧ σ = [(.t 1, .v (.o (vD (dIs p)))), (.t 4, .v (.o (.c (.box 110 9 0 0)))), (.t 6, .v (.o (.c (.box 111 9 0 0)))), (.t 7, .v (.o (nat1 (i : Nat)))), (.b 110, .b 42 9 [[.d (dS ByteArray.empty), .d (.val (.slice none 0 0)), .d (dI 0), .d (dI 0), .d (.val (.slice none 0 0)), .d (dI 0), .d (dS ByteArray.empty), .d (.val (.slice none 0 0)), .d (.val (.slice none 0 0))]]), (.u 110, .u), (.b 111, .b 42 9 (dR ([rS (mapS (sbT p i) s)]))), (.u 111, .u)])) [(110, 810), (111, 106)] ⟨0, rfl, by omega, by omega, rfl⟩ ⟨ks rfl .dt, ks rfl (.c .bx), ks rfl (.c .bx), ks rfl .dt, kb 810 rfl (.cons (.cons .dt (.cons .dt (.cons .dt (.cons .dt (.cons .dt (.cons .dt (.cons .dt (.cons .dt (.cons .dt Ctos.nil))))))))) .nil), kb 106 rfl (.dt rfl (by first | exact sb_row0 hv | exact sb_row hx1)), trivial⟩ ?_
  rintro m σ ⟨i, hm0, hi, hF, rfl⟩
  refine .seq <| .seq <| .region <| .cons (.mv rfl rfl) <| .cons (.mv rfl rfl) <| .cons (.ln 3 1 8 rfl rfl rfl) <| .cons (.ls rfl rfl rfl) <| .nil <| ks_n ?_
  refine .cD rfl (fun h24 => ?_) (fun h24 => ?_)
  ·skip
   obtain ⟨x, hx1⟩ : ∃ x, p[i]? = some x := ⟨_, List.getElem?_eq_getElem (by omega)⟩
   refine .skip <| ks_n <| .seq <| .block <| .seq <| .seq <| .region <| .cons (.mv rfl rfl) <| .cons (.mv rfl rfl) <| .cons (.xL 3 1 8 rfl rfl rfl rfl rfl (map_at hx1)) ?_
   refine .cons (.l1 1 rfl rfl) <| .cons (.cP [.tmp 30, .const (.int .i64 (99))] rfl rfl rfl rfl (l1Within_fn x 99 (by omega)) rfl) ?_
   refine .cons (.nt rfl rfl) <| .nil <| ks_n ?_
   refine ACode.condT rfl (fun h32 => ?_) (fun h32 => ?_)
   ·try simp only [zs1, zs2, zs3, zs4, zs5, zs6, zs7] at h32
    refine .seq <| .region <| .cons (.bu [] [(0, 2), (2, 7)] [.string ByteArray.empty, .slice none 0 0, .int .i64 0, .int .i64 0, .slice none 0 0, .int .i64 0, .string ByteArray.empty, .slice none 0 0, .slice none 0 0] rfl rfl rfl rfl rfl) <| .cons (.sT 9 true rfl rfl rfl rfl rfl rfl rfl) <| .cons (.asg rfl rfl) <| .nil <| ks_n <| .ret <| ks_r <| kb_r <| ks_r <| kl_r <| kb_r <| ks_r ?_
    refine kf_wret [(.t 4, .v (.o (.c (.box 100 9 0 0)))), (.t 5, .v (.o (bo1 false))), (.b 100, .b 42 9 [[.d (dS ByteArray.empty), .d (dAs []), .d (dI 0), .d (dI 0), .d (dIs []), .d (dI 0), .d (dS ByteArray.empty), .d (dAs []), .d (dEs [])]]), (.u 100, .u)] (Wk.keep [(100, 110)] rfl rfl ⟨ks rfl (.c .bx), ks rfl .dt, kb 110 rfl (.cons (.cons .dt (.cons (Cto.nil _) (.cons .dt (.cons .dt (.cons (Cto.nil _) (.cons .dt (.cons .dt (.cons (Cto.nil _) (.cons (Cto.nil _) Ctos.nil))))))))) .nil), trivial⟩) rfl ?_ nobox
    rw [ptT_out hx1 h32]; rfl
   ·try simp only [zs1, zs2, zs3, zs4, zs5, zs6, zs7] at h32
    refine .skip <| ks_n ?_
    refine ACode.drawK (by kernel_rfl) (by kernel_rfl) ?_
    refine .cons (.bN 9 rfl rfl rfl rfl rfl rfl) <| .cons (.mv rfl rfl) <| .cons (.mv rfl rfl) <| .cons (.mv rfl rfl) <| .cons (.xL 3 1 8 rfl rfl rfl rfl rfl (map_at hx1)) ?_
    refine .cons (.l1 1 rfl rfl) <| .cons (.cP [.tmp 39] rfl rfl rfl rfl (l1Const_fn x) rfl) ?_
    refine .cons (.cP [.tmp 34, .tmp 35, .tmp 40] rfl rfl rfl rfl (l3SubstW_fn (mapS (sbT p i) s) (by have := sbS_sz (p := p) (i := i) (by omega) hv; omega) (y := ([0, 0, 0, 0], x)) (affM_const (by simpa [inB] using h32)) (j := (i : Nat)) (by omega) (sbS_W (by omega) hv hF)) rfl) ?_
    refine .cons (.sT 9 true rfl rfl rfl rfl rfl rfl rfl) ?_
    refine .nil ⟨by kernel_rfl, ?_⟩
    refine kb_n <| ks_n <| .region <| .cons (.mv rfl rfl) <| .cons (.pl rfl rfl rfl) <| .cons (.asg rfl rfl) <| .nil ?_
    refine kl_k [(110, 110), (111, 111)] ⟨i + 1, rfl, by omega, pt_step hF hx1 h32, rfl⟩ ⟨ks rfl .dt, ks rfl (.c .bx), ks rfl (.c .bx), ks rfl .dt, kb 110 rfl (.cons (.cons .dt (.cons .dt (.cons .dt (.cons .dt (.cons .dt (.cons .dt (.cons .dt (.cons .dt (.cons .dt Ctos.nil))))))))) .nil), kb 111 rfl (.dt rfl (by first | exact sb_row0 hv | exact sb_row hx1)), trivial⟩
  ·skip
   obtain rfl : i = p.length := by omega
   have ha2 := all_of hF
   refine .exit <| ks_e <| kl_e <| kb_hit <| ks_n <| .seq <| .seq ?_
   refine .keep [(.t 4, .v (.o (.c (.box 800 9 0 0)))), (.t 6, .v (.o (.c (.box 801 9 0 0)))), (.b 800, .b 42 9 [[.d (dS ByteArray.empty), .d (.val (.slice none 0 0)), .d (dI 0), .d (dI 0), .d (.val (.slice none 0 0)), .d (dI 0), .d (dS ByteArray.empty), .d (.val (.slice none 0 0)), .d (.val (.slice none 0 0))]]), (.u 800, .u), (.b 801, .b 42 9 (dR ([rS (mapS (ptG p) s)]))), (.u 801, .u)] [(800, 110), (801, 111)] ⟨ks rfl (.c .bx), ks rfl (.c .bx), kb 110 rfl (.cons (.cons .dt (.cons .dt (.cons .dt (.cons .dt (.cons .dt (.cons .dt (.cons .dt (.cons .dt (.cons .dt Ctos.nil))))))))) .nil), kb 111 rfl (.dt rfl (by rw [sb_all hv])), trivial⟩ ?_
   refine .region <| .cons (.bN 9 rfl rfl rfl rfl rfl rfl) <| .cons (.cP [.tmp 42, .const (.int .i64 (0))] rfl rfl rfl rfl (specStmtV_fn 0 (mapS (ptG p) s) (by omega)) rfl) ?_
   refine .cons (.nt rfl rfl) <| .nil <| ks_n ?_
   refine ACode.condT rfl (fun h44 => ?_) (fun h44 => ?_)
   ·try simp only [zs1, zs2, zs3, zs4, zs5, zs6, zs7] at h44
    refine .seq <| .region <| .cons (.bu [] [(0, 2), (2, 7)] [.string ByteArray.empty, .slice none 0 0, .int .i64 0, .int .i64 0, .slice none 0 0, .int .i64 0, .string ByteArray.empty, .slice none 0 0, .slice none 0 0] rfl rfl rfl rfl rfl) <| .cons (.sT 9 true rfl rfl rfl rfl rfl rfl rfl) <| .cons (.asg rfl rfl) <| .nil <| ks_n <| .ret <| ks_r ?_
    refine kf_wret [(.t 4, .v (.o (.c (.box 100 9 0 0)))), (.t 5, .v (.o (bo1 false))), (.b 100, .b 42 9 [[.d (dS ByteArray.empty), .d (dAs []), .d (dI 0), .d (dI 0), .d (dIs []), .d (dI 0), .d (dS ByteArray.empty), .d (dAs []), .d (dEs [])]]), (.u 100, .u)] (Wk.keep [(100, 800)] rfl rfl ⟨ks rfl (.c .bx), ks rfl .dt, kb 800 rfl (.cons (.cons .dt (.cons (Cto.nil _) (.cons .dt (.cons .dt (.cons (Cto.nil _) (.cons .dt (.cons .dt (.cons (Cto.nil _) (.cons (Cto.nil _) Ctos.nil))))))))) .nil), trivial⟩) rfl ?_ nobox
    rw [ptT_yes hv ha2, chkS_no h44]; rfl
   ·try simp only [zs1, zs2, zs3, zs4, zs5, zs6, zs7] at h44
    refine .skip <| ks_n <| .seq <| .region <| .cons (.bN 9 rfl rfl rfl rfl rfl rfl) <| .cons (.sT 9 true rfl rfl rfl rfl rfl rfl rfl) <| .cons (.asg rfl rfl) <| .nil <| ks_n <| .ret ?_
    refine kf_ret rfl ?_ nobox
    rw [ptT_yes hv ha2, chkS_yes h44]; rfl
theorem DrKs.markA {S S' : Nat → Prop} {w w' : World} {ds : List D} {vs : List Value} (h : DrKs w S ds vs) (hM : Marked S' w w') : DrKs w' S ds vs := ⟨h.1, fun i d u hd hu => (h.2 i d u hd hu).mark hM⟩
theorem DrN.shapeP {lo : Nat} {w : World} {ch : List Int} {v : Value} (h : DrN lo w (dIs ch) v) : ∃ a c, v = .slice a ch.length c := by
  obtain ⟨a, n, c, rfl, rfl, _⟩ := h.dr.ints
  exact ⟨a, c, rfl⟩
theorem DrN.intsP {lo : Nat} {w : World} {ch : List Int} {a : Option Addr} {n c : Nat} (h : DrN lo w (dIs ch) (.slice a n c)) : IntsA w a n c ch := by
  obtain ⟨a', n', c', e, _, hi⟩ := h.dr.ints
  simp only [Value.slice.injEq] at e
  obtain ⟨rfl, rfl, rfl⟩ := e
  exact hi
set_option maxHeartbeats 12800000 in
theorem lawXpoint {s r : Stm} {b : Bool} {p : List Int} (ho : okS s) (qs : szS s ≤ 1048576 → p.length ≤ 1048576 → Fn Try.prog 6 [] [ad (rS s), vD (dIs p)] (.tup [ad (rS r), bo1 b]) []) (qi : szS s ≤ 1048576 → p.length ≤ 1048576 → FnT Try.prog 9 [ad (rS s), vD (dIs p)] none' (.strB (rS r) b)) (hr : szS s ≤ 1048576 → szS r ≤ 1048576)
    {w : World} {us : List Value} {ac : Option Addr} {cc : Nat} (d : Drs (fun b => b < w.heap.size) w (rS s) us) (dp : Dr (fun b => b < w.heap.size) w (dIs p) (.slice ac p.length cc)) : Truth Try.prog 3 #[.agg us.toArray, .slice ac p.length cc] w := by
  obtain ⟨u0, l0, rfl, hl0⟩ := len_cons d.1
  obtain ⟨u1, l1, rfl, hl1⟩ := len_cons hl0
  obtain ⟨u2, l2, rfl, hl2⟩ := len_cons hl1
  obtain ⟨u3, l3, rfl, hl3⟩ := len_cons hl2
  obtain ⟨u4, l4, rfl, hl4⟩ := len_cons hl3
  obtain ⟨u5, l5, rfl, hl5⟩ := len_cons hl4
  obtain ⟨u6, l6, rfl, hl6⟩ := len_cons hl5
  obtain ⟨u7, l7, rfl, hl7⟩ := len_cons hl6
  obtain ⟨u8, l8, rfl, hl8⟩ := len_cons hl7
  obtain rfl := len_zero hl8; clear hl0 hl1 hl2 hl3 hl4 hl5 hl6 hl7 hl8
  have HB := hid (Bxs.add (w := w) (l := []) (fun b hb => by cases hb) [u0, u1, u2, u3, u4, u5, u6, u7, u8] 32)
  have HL := hid (show Below w.heap.size w (w.alloc (.cells [u0, u1, u2, u3, u4, u5, u6, u7, u8].toArray 32)) from (Below.refl _ _).alloc (Nat.le_refl _) _)
  have HD := hid d; have HP := hid dp; clear d dp
  by_cases hc : p.length ≤ 1048576
  case neg =>
    clear qs qi ho hr
    go_enter Try.func3, Try.ntmps3
    go_wp2_with fail
    go_ret
    exact ⟨rfl, HL.out⟩
  have hz := szStm_fn (l := 1048576) ho (by omega)
  by_cases hs : szS s ≤ 1048576
  case neg =>
    rw [subZ_no (by omega)] at hz
    have HZ := hid hz; clear hz qs qi ho hr
    go_enter Try.func3, Try.ntmps3
    go_wp2_with fail
    refine (HZ.out.callsI (vs := [_, _]) (vals2_mk (HD.out.fwd HL.out).v (Dr.val (.int .i64 1048576) rfl))).mono ?_
    rintro e wA ⟨rfl, bA⟩
    have HLA := hid (HL.out.trans (bA.mono HL.out.size)); clear bA
    go_wp2_with fail
    go_ret
    exact ⟨rfl, HLA.out⟩
  rw [subZ_yes (by omega)] at hz
  have qs := hid (qs hs hc); have qi := hid (qi hs hc); have hci := hid (copyInts (xs := p) hc); have HC := hid hc; have hr0 := hr hs; have HR := hid hr0
  have hcp := hid (copyStm hs); have heq := hid (eqStm_fn r r (by omega)); have hes := hid (eqStm_fn s s (by omega))
  have w1 := wgt_stm s; have w2 := wgt_stm r; have w3 := wgtV_le (rS s); have w4 := wgtV_le (rS r)
  have WS := hid (show wgtV (rS s) ≤ 10485760 by omega); have WR := hid (show wgtV (rS r) ≤ 10485760 by omega)
  have hhd := hid (heldS_fn r (by omega) (by omega))
  have HZ := hid hz
  have hz0 : (0 : Int) ≤ 1048576 - (szS s : Nat) := by omega
  obtain ⟨z, hz1⟩ : ∃ z : Int, z = 1048576 - (szS s : Nat) := ⟨_, rfl⟩
  rw [← hz1] at HZ hz0
  obtain ⟨kS, hkS⟩ : ∃ k : Nat, k = wgtV (rS s) := ⟨_, rfl⟩
  obtain ⟨kR, hkR⟩ : ∃ k : Nat, k = wgtV (rS r) := ⟨_, rfl⟩
  have mks := hid (markStm_k s); have mku := hid (markStm_u r)
  have EK := hid hkS; have ER := hid hkR
  rw [← hkR] at hhd
  clear hz1 hz ho hr hs hr0 w1 w2 w3 w4 hkS hkR
  go_enter Try.func3, Try.ntmps3
  go_wp2_with fail
  refine (HZ.out.callsI (vs := [_, _]) (vals2_mk (HD.out.fwd HL.out).v (Dr.val (.int .i64 1048576) rfl))).mono ?_
  rintro e wA ⟨rfl, bA⟩
  have HBA := hid (HB.out.fwd bA)
  have HLA := hid (HL.out.trans (bA.mono HL.out.size))
  clear bA
  have u0' := HBA.out.c 0 rfl 0 rfl
  have u1' := HBA.out.c 0 rfl 1 rfl
  have u2' := HBA.out.c 0 rfl 2 rfl
  have u3' := HBA.out.c 0 rfl 3 rfl
  have u4' := HBA.out.c 0 rfl 4 rfl
  have u5' := HBA.out.c 0 rfl 5 rfl
  have u6' := HBA.out.c 0 rfl 6 rfl
  have u7' := HBA.out.c 0 rfl 7 rfl
  have u8' := HBA.out.c 0 rfl 8 rfl
  go_wp2_with fail
  clear u0' u1' u2' u3' u4' u5' u6' u7' u8'
  refine (hcp.out _ _ [u0, u1, u2, u3, u4, u5, u6, u7, u8] rfl (HD.out.fwd HLA.out).2).mono ?_
  rintro e wB ⟨vs, rfl, bwB, hv⟩
  obtain ⟨v0, l0, rfl, hl0⟩ := len_cons hv.1
  obtain ⟨v1, l1, rfl, hl1⟩ := len_cons hl0
  obtain ⟨v2, l2, rfl, hl2⟩ := len_cons hl1
  obtain ⟨v3, l3, rfl, hl3⟩ := len_cons hl2
  obtain ⟨v4, l4, rfl, hl4⟩ := len_cons hl3
  obtain ⟨v5, l5, rfl, hl5⟩ := len_cons hl4
  obtain ⟨v6, l6, rfl, hl6⟩ := len_cons hl5
  obtain ⟨v7, l7, rfl, hl7⟩ := len_cons hl6
  obtain ⟨v8, l8, rfl, hl8⟩ := len_cons hl7
  obtain rfl := len_zero hl8; clear hl0 hl1 hl2 hl3 hl4 hl5 hl6 hl7 hl8
  have NB := hid hv; clear hv
  have HBB := hid (HBA.out.fwd bwB)
  have HLB := hid (HLA.out.trans (bwB.mono HLA.out.size))
  have NBd := hid NB.out.drs; clear bwB
  go_wp2_with fail
  refine (hci.out _ _ _ (HP.out.frame (below_sameAll HLB.out _))).mono ?_
  rintro e wBp ⟨v, rfl, bwBp, hv⟩
  obtain ⟨apB, cpB, rfl⟩ := DrN.shapeP hv
  have NBp := hid hv; clear hv
  have HBBp := hid (HBB.out.fwd bwBp)
  have HLBp := hid (HLB.out.trans (bwBp.mono HLB.out.size))
  have NBdBp := hid (NBd.out.fwd bwBp)
  clear bwBp
  go_wp2_with fail
  refine (qs.out.callsS (vs := [_, _]) (B := fun _ => True) (vals2_mk NBdBp.out.v (NBp.out.dr.mono fun _ _ _ => trivial))).mono ?_
  rintro e wC ⟨ys, rfl, bC, hy⟩
  clear NB NBd NBp NBdBp
  obtain ⟨y0, l0, rfl, hl0⟩ := len_cons hy.1
  obtain ⟨y1, l1, rfl, hl1⟩ := len_cons hl0
  obtain ⟨y2, l2, rfl, hl2⟩ := len_cons hl1
  obtain ⟨y3, l3, rfl, hl3⟩ := len_cons hl2
  obtain ⟨y4, l4, rfl, hl4⟩ := len_cons hl3
  obtain ⟨y5, l5, rfl, hl5⟩ := len_cons hl4
  obtain ⟨y6, l6, rfl, hl6⟩ := len_cons hl5
  obtain ⟨y7, l7, rfl, hl7⟩ := len_cons hl6
  obtain ⟨y8, l8, rfl, hl8⟩ := len_cons hl7
  obtain rfl := len_zero hl8; clear hl0 hl1 hl2 hl3 hl4 hl5 hl6 hl7 hl8
  have HBC := hid (HBBp.out.fwd bC)
  have HLC := hid (HLBp.out.trans (bC.mono HLBp.out.size))
  have DWC := hid hy; clear hy bC
  have s0 := fun a m w => run_store Try.prog w a y0 m (DWC.out.2 0 _ _ rfl rfl).one
  have s1 := fun a m w => run_store Try.prog w a y1 m (DWC.out.2 1 _ _ rfl rfl).one
  have s2 := fun a m w => run_store Try.prog w a y2 m (DWC.out.2 2 _ _ rfl rfl).one
  have s3 := fun a m w => run_store Try.prog w a y3 m (DWC.out.2 3 _ _ rfl rfl).one
  have s4 := fun a m w => run_store Try.prog w a y4 m (DWC.out.2 4 _ _ rfl rfl).one
  have s5 := fun a m w => run_store Try.prog w a y5 m (DWC.out.2 5 _ _ rfl rfl).one
  have s6 := fun a m w => run_store Try.prog w a y6 m (DWC.out.2 6 _ _ rfl rfl).one
  have s7 := fun a m w => run_store Try.prog w a y7 m (DWC.out.2 7 _ _ rfl rfl).one
  have s8 := fun a m w => run_store Try.prog w a y8 m (DWC.out.2 8 _ _ rfl rfl).one
  have ALc := hid (show Below wC.heap.size wC (wC.alloc (.cells [y0, y1, y2, y3, y4, y5, y6, y7, y8].toArray 42)) from (Below.refl _ _).alloc (Nat.le_refl _) _)
  have HBc := hid (HBC.out.add [y0, y1, y2, y3, y4, y5, y6, y7, y8] 42)
  have HLc := hid (HLC.out.trans (ALc.out.mono HLC.out.size))
  have DWc := hid (DWC.out.fwd ALc.out)
  have u0' := HBc.out.c 1 rfl 0 rfl
  have u1' := HBc.out.c 1 rfl 1 rfl
  have u2' := HBc.out.c 1 rfl 2 rfl
  have u3' := HBc.out.c 1 rfl 3 rfl
  have u4' := HBc.out.c 1 rfl 4 rfl
  have u5' := HBc.out.c 1 rfl 5 rfl
  have u6' := HBc.out.c 1 rfl 6 rfl
  have u7' := HBc.out.c 1 rfl 7 rfl
  have u8' := HBc.out.c 1 rfl 8 rfl
  go_wp2_with fail
  clear s0 s1 s2 s3 s4 s5 s6 s7 s8
  clear u0' u1' u2' u3' u4' u5' u6' u7' u8'
  refine (hcp.out _ _ [u0, u1, u2, u3, u4, u5, u6, u7, u8] rfl (HD.out.fwd HLc.out).2).mono ?_
  rintro e wD ⟨vs, rfl, bwD, hv⟩
  obtain ⟨x0, l0, rfl, hl0⟩ := len_cons hv.1
  obtain ⟨x1, l1, rfl, hl1⟩ := len_cons hl0
  obtain ⟨x2, l2, rfl, hl2⟩ := len_cons hl1
  obtain ⟨x3, l3, rfl, hl3⟩ := len_cons hl2
  obtain ⟨x4, l4, rfl, hl4⟩ := len_cons hl3
  obtain ⟨x5, l5, rfl, hl5⟩ := len_cons hl4
  obtain ⟨x6, l6, rfl, hl6⟩ := len_cons hl5
  obtain ⟨x7, l7, rfl, hl7⟩ := len_cons hl6
  obtain ⟨x8, l8, rfl, hl8⟩ := len_cons hl7
  obtain rfl := len_zero hl8; clear hl0 hl1 hl2 hl3 hl4 hl5 hl6 hl7 hl8
  have NX := hid hv; clear hv
  have HBD := hid (HBc.out.fwd bwD)
  have HLD := hid (HLc.out.trans (bwD.mono HLc.out.size))
  have DWD := hid (DWc.out.fwd bwD)
  have DXD := hid (NX.out.k (S := fun c => (wC.alloc (.cells [y0, y1, y2, y3, y4, y5, y6, y7, y8].toArray 42)).heap.size ≤ c ∧ c < wD.heap.size) fun c h1 h2 => ⟨h1, h2⟩); have SZD := hid bwD.size; clear bwD
  have NXD := hid NX.out.drs
  have s0 := fun a m w => run_store Try.prog w a x0 m (NXD.out.2 0 _ _ rfl rfl).one
  have s1 := fun a m w => run_store Try.prog w a x1 m (NXD.out.2 1 _ _ rfl rfl).one
  have s2 := fun a m w => run_store Try.prog w a x2 m (NXD.out.2 2 _ _ rfl rfl).one
  have s3 := fun a m w => run_store Try.prog w a x3 m (NXD.out.2 3 _ _ rfl rfl).one
  have s4 := fun a m w => run_store Try.prog w a x4 m (NXD.out.2 4 _ _ rfl rfl).one
  have s5 := fun a m w => run_store Try.prog w a x5 m (NXD.out.2 5 _ _ rfl rfl).one
  have s6 := fun a m w => run_store Try.prog w a x6 m (NXD.out.2 6 _ _ rfl rfl).one
  have s7 := fun a m w => run_store Try.prog w a x7 m (NXD.out.2 7 _ _ rfl rfl).one
  have s8 := fun a m w => run_store Try.prog w a x8 m (NXD.out.2 8 _ _ rfl rfl).one
  have ALd := hid (show Below wD.heap.size wD (wD.alloc (.cells [x0, x1, x2, x3, x4, x5, x6, x7, x8].toArray 42)) from (Below.refl _ _).alloc (Nat.le_refl _) _)
  have HBd := hid (HBD.out.add [x0, x1, x2, x3, x4, x5, x6, x7, x8] 42)
  have HLd := hid (HLD.out.trans (ALd.out.mono HLD.out.size))
  have DWd := hid (DWD.out.fwd ALd.out)
  have DXd := hid (DXD.out.markA (marked_of ALd.out (fun _ => True)))
  have NXd := hid (NXD.out.fwd ALd.out)
  go_wp2_with fail
  clear s0 s1 s2 s3 s4 s5 s6 s7 s8
  refine (hci.out _ _ _ (HP.out.frame (below_sameAll HLd.out _))).mono ?_
  rintro e wX ⟨v, rfl, bwX, hv⟩
  obtain ⟨apX, cpX, rfl⟩ := DrN.shapeP hv
  have NPX := hid hv; clear hv
  have HBX := hid (HBd.out.fwd bwX)
  have HLX := hid (HLd.out.trans (bwX.mono HLd.out.size))
  have DWX := hid (DWd.out.fwd bwX)
  have DXX := hid (DXd.out.markA (marked_of bwX (fun _ => True)))
  have NXX := hid (NXd.out.fwd bwX)
  have SZX := hid bwX.size; clear bwX
  have PKX := hid (NPX.out.k (S := fun c => (wD.alloc (.cells [x0, x1, x2, x3, x4, x5, x6, x7, x8].toArray 42)).heap.size ≤ c ∧ c < wX.heap.size) fun c h1 h2 => ⟨h1, h2⟩)
  have x0' := HBX.out.c 0 rfl 0 rfl
  have x1' := HBX.out.c 0 rfl 1 rfl
  have x2' := HBX.out.c 0 rfl 2 rfl
  have x3' := HBX.out.c 0 rfl 3 rfl
  have x4' := HBX.out.c 0 rfl 4 rfl
  have x5' := HBX.out.c 0 rfl 5 rfl
  have x6' := HBX.out.c 0 rfl 6 rfl
  have x7' := HBX.out.c 0 rfl 7 rfl
  have x8' := HBX.out.c 0 rfl 8 rfl
  go_wp2_with fail
  clear x0' x1' x2' x3' x4' x5' x6' x7' x8'
  refine (FnT.callsS qi.out (rS_plain r) (rS_nsl r) (vs := [_, _]) (vals2_mk NXX.out.v (NPX.out.dr.mono fun _ _ _ => trivial))).mono ?_
  rintro e wE ⟨gs, SG, rfl, bwE, hSG, hg⟩
  obtain ⟨g0, l0, rfl, hl0⟩ := len_cons hg.1
  obtain ⟨g1, l1, rfl, hl1⟩ := len_cons hl0
  obtain ⟨g2, l2, rfl, hl2⟩ := len_cons hl1
  obtain ⟨g3, l3, rfl, hl3⟩ := len_cons hl2
  obtain ⟨g4, l4, rfl, hl4⟩ := len_cons hl3
  obtain ⟨g5, l5, rfl, hl5⟩ := len_cons hl4
  obtain ⟨g6, l6, rfl, hl6⟩ := len_cons hl5
  obtain ⟨g7, l7, rfl, hl7⟩ := len_cons hl6
  obtain ⟨g8, l8, rfl, hl8⟩ := len_cons hl7
  obtain rfl := len_zero hl8; clear hl0 hl1 hl2 hl3 hl4 hl5 hl6 hl7 hl8
  have HBE := hid (HBX.out.fwd bwE)
  have HLE := hid (HLX.out.trans (bwE.mono HLX.out.size))
  have DWE := hid (DWX.out.fwd bwE)
  have DXE := hid (DXX.out.markA (marked_of bwE (fun _ => True)))
  have NXE := hid (NXX.out.fwd bwE)
  have PXE := hid (NPX.out.fwd bwE)
  have PKE := hid (PKX.out.mark (marked_of bwE (fun _ => True)))
  have DGE := hid hg; have HSG := hid hSG; have SZE := hid bwE.size; clear hg hSG bwE
  have s0 := fun a m w => run_store Try.prog w a g0 m (DGE.out.drs.2 0 _ _ rfl rfl).one
  have s1 := fun a m w => run_store Try.prog w a g1 m (DGE.out.drs.2 1 _ _ rfl rfl).one
  have s2 := fun a m w => run_store Try.prog w a g2 m (DGE.out.drs.2 2 _ _ rfl rfl).one
  have s3 := fun a m w => run_store Try.prog w a g3 m (DGE.out.drs.2 3 _ _ rfl rfl).one
  have s4 := fun a m w => run_store Try.prog w a g4 m (DGE.out.drs.2 4 _ _ rfl rfl).one
  have s5 := fun a m w => run_store Try.prog w a g5 m (DGE.out.drs.2 5 _ _ rfl rfl).one
  have s6 := fun a m w => run_store Try.prog w a g6 m (DGE.out.drs.2 6 _ _ rfl rfl).one
  have s7 := fun a m w => run_store Try.prog w a g7 m (DGE.out.drs.2 7 _ _ rfl rfl).one
  have s8 := fun a m w => run_store Try.prog w a g8 m (DGE.out.drs.2 8 _ _ rfl rfl).one
  have ALe := hid (show Below wE.heap.size wE (wE.alloc (.cells [g0, g1, g2, g3, g4, g5, g6, g7, g8].toArray 42)) from (Below.refl _ _).alloc (Nat.le_refl _) _)
  have HBe := hid (HBE.out.add [g0, g1, g2, g3, g4, g5, g6, g7, g8] 42)
  have HLe := hid (HLE.out.trans (ALe.out.mono HLE.out.size))
  have DWe := hid (DWE.out.fwd ALe.out)
  have DXe := hid (DXE.out.markA (marked_of ALe.out (fun _ => True)))
  have NXe := hid (NXE.out.fwd ALe.out)
  have PXe := hid (PXE.out.fwd ALe.out)
  have PKe := hid (PKE.out.mark (marked_of ALe.out (fun _ => True)))
  have DGe := hid (DGE.out.fwd ALe.out)
  have y0' := HBe.out.c 2 rfl 0 rfl
  have y1' := HBe.out.c 2 rfl 1 rfl
  have y2' := HBe.out.c 2 rfl 2 rfl
  have y3' := HBe.out.c 2 rfl 3 rfl
  have y4' := HBe.out.c 2 rfl 4 rfl
  have y5' := HBe.out.c 2 rfl 5 rfl
  have y6' := HBe.out.c 2 rfl 6 rfl
  have y7' := HBe.out.c 2 rfl 7 rfl
  have y8' := HBe.out.c 2 rfl 8 rfl
  go_wp2_with fail
  clear s0 s1 s2 s3 s4 s5 s6 s7 s8
  clear y0' y1' y2' y3' y4' y5' y6' y7' y8'
  refine (heq.out.callsB (vs := [_, _]) (B := fun _ => True) (vals2_mk DGe.out.drs.v (DWe.out.mono fun _ _ _ => trivial).v)).mono ?_
  rintro e wF ⟨rfl, bwF⟩
  rw [show sameS r r = true from sameS_iff.2 rfl]
  have HBF := hid (HBe.out.fwd bwF)
  have HLF := hid (HLe.out.trans (bwF.mono HLe.out.size))
  have DWF := hid (DWe.out.fwd bwF)
  have DXF := hid (DXe.out.markA (marked_of bwF (fun _ => True)))
  have NXF := hid (NXe.out.fwd bwF)
  have PXF := hid (PXe.out.fwd bwF)
  have PKF := hid (PKe.out.mark (marked_of bwF (fun _ => True)))
  have DGF := hid (DGe.out.fwd bwF)
  clear bwF
  have u0' := HBF.out.c 3 rfl 0 rfl
  have u1' := HBF.out.c 3 rfl 1 rfl
  have u2' := HBF.out.c 3 rfl 2 rfl
  have u3' := HBF.out.c 3 rfl 3 rfl
  have u4' := HBF.out.c 3 rfl 4 rfl
  have u5' := HBF.out.c 3 rfl 5 rfl
  have u6' := HBF.out.c 3 rfl 6 rfl
  have u7' := HBF.out.c 3 rfl 7 rfl
  have u8' := HBF.out.c 3 rfl 8 rfl
  have x0' := HBF.out.c 1 rfl 0 rfl
  have x1' := HBF.out.c 1 rfl 1 rfl
  have x2' := HBF.out.c 1 rfl 2 rfl
  have x3' := HBF.out.c 1 rfl 3 rfl
  have x4' := HBF.out.c 1 rfl 4 rfl
  have x5' := HBF.out.c 1 rfl 5 rfl
  have x6' := HBF.out.c 1 rfl 6 rfl
  have x7' := HBF.out.c 1 rfl 7 rfl
  have x8' := HBF.out.c 1 rfl 8 rfl
  go_wp2_with fail
  go_region_held3 (fun wq => wq.cell? ⟨w.heap.size, 0, none⟩ = some u0 ∧ wq.cell? ⟨w.heap.size, 1, none⟩ = some u1 ∧ wq.cell? ⟨w.heap.size, 2, none⟩ = some u2 ∧ wq.cell? ⟨w.heap.size, 3, none⟩ = some u3 ∧ wq.cell? ⟨w.heap.size, 4, none⟩ = some u4 ∧ wq.cell? ⟨w.heap.size, 5, none⟩ = some u5 ∧ wq.cell? ⟨w.heap.size, 6, none⟩ = some u6 ∧ wq.cell? ⟨w.heap.size, 7, none⟩ = some u7 ∧ wq.cell? ⟨w.heap.size, 8, none⟩ = some u8 ∧ wq.cell? ⟨wD.heap.size, 0, none⟩ = some x0 ∧ wq.cell? ⟨wD.heap.size, 1, none⟩ = some x1 ∧ wq.cell? ⟨wD.heap.size, 2, none⟩ = some x2 ∧ wq.cell? ⟨wD.heap.size, 3, none⟩ = some x3 ∧ wq.cell? ⟨wD.heap.size, 4, none⟩ = some x4 ∧ wq.cell? ⟨wD.heap.size, 5, none⟩ = some x5 ∧ wq.cell? ⟨wD.heap.size, 6, none⟩ = some x6 ∧ wq.cell? ⟨wD.heap.size, 7, none⟩ = some x7 ∧ wq.cell? ⟨wD.heap.size, 8, none⟩ = some x8)
    ((repeat' apply And.intro) <;> first | assumption | go_keep)
    (first
    | (go_at_call 7
       refine (hcp.out _ _ [u0, u1, u2, u3, u4, u5, u6, u7, u8] rfl (HD.out.fwd (HLF.out.drew)).2).mono ?_
       rintro e wG ⟨vs, rfl, bG, hv⟩
       obtain ⟨z0, l0, rfl, hl0⟩ := len_cons hv.1
       obtain ⟨z1, l1, rfl, hl1⟩ := len_cons hl0
       obtain ⟨z2, l2, rfl, hl2⟩ := len_cons hl1
       obtain ⟨z3, l3, rfl, hl3⟩ := len_cons hl2
       obtain ⟨z4, l4, rfl, hl4⟩ := len_cons hl3
       obtain ⟨z5, l5, rfl, hl5⟩ := len_cons hl4
       obtain ⟨z6, l6, rfl, hl6⟩ := len_cons hl5
       obtain ⟨z7, l7, rfl, hl7⟩ := len_cons hl6
       obtain ⟨z8, l8, rfl, hl8⟩ := len_cons hl7
       obtain rfl := len_zero hl8
       have NG := hid hv
       have HFG := hid (show Below wF.heap.size wF wG from (Below.refl _ _).drew.trans bG)
       clear hv bG hl0 hl1 hl2 hl3 hl4 hl5 hl6 hl7 hl8
       have u0' := (HBF.out.fwd HFG.out).c 3 rfl 0 rfl
       have u1' := (HBF.out.fwd HFG.out).c 3 rfl 1 rfl
       have u2' := (HBF.out.fwd HFG.out).c 3 rfl 2 rfl
       have u3' := (HBF.out.fwd HFG.out).c 3 rfl 3 rfl
       have u4' := (HBF.out.fwd HFG.out).c 3 rfl 4 rfl
       have u5' := (HBF.out.fwd HFG.out).c 3 rfl 5 rfl
       have u6' := (HBF.out.fwd HFG.out).c 3 rfl 6 rfl
       have u7' := (HBF.out.fwd HFG.out).c 3 rfl 7 rfl
       have u8' := (HBF.out.fwd HFG.out).c 3 rfl 8 rfl
       have x0' := (HBF.out.fwd HFG.out).c 1 rfl 0 rfl
       have x1' := (HBF.out.fwd HFG.out).c 1 rfl 1 rfl
       have x2' := (HBF.out.fwd HFG.out).c 1 rfl 2 rfl
       have x3' := (HBF.out.fwd HFG.out).c 1 rfl 3 rfl
       have x4' := (HBF.out.fwd HFG.out).c 1 rfl 4 rfl
       have x5' := (HBF.out.fwd HFG.out).c 1 rfl 5 rfl
       have x6' := (HBF.out.fwd HFG.out).c 1 rfl 6 rfl
       have x7' := (HBF.out.fwd HFG.out).c 1 rfl 7 rfl
       have x8' := (HBF.out.fwd HFG.out).c 1 rfl 8 rfl)
    | (go_at_call 10
       refine (hes.out.callsB (vs := [_, _]) (B := fun _ => True) (vals2_mk (NXF.out.fwd HFG.out).v NG.out.drs.v)).mono ?_
       rintro e wH ⟨rfl, bH⟩
       rw [show sameS s s = true from sameS_iff.2 rfl]
       have HFH := hid (HFG.out.trans (bH.mono HFG.out.size))
       clear bH
       have u0' := (HBF.out.fwd HFH.out).c 3 rfl 0 rfl
       have u1' := (HBF.out.fwd HFH.out).c 3 rfl 1 rfl
       have u2' := (HBF.out.fwd HFH.out).c 3 rfl 2 rfl
       have u3' := (HBF.out.fwd HFH.out).c 3 rfl 3 rfl
       have u4' := (HBF.out.fwd HFH.out).c 3 rfl 4 rfl
       have u5' := (HBF.out.fwd HFH.out).c 3 rfl 5 rfl
       have u6' := (HBF.out.fwd HFH.out).c 3 rfl 6 rfl
       have u7' := (HBF.out.fwd HFH.out).c 3 rfl 7 rfl
       have u8' := (HBF.out.fwd HFH.out).c 3 rfl 8 rfl
       have x0' := (HBF.out.fwd HFH.out).c 1 rfl 0 rfl
       have x1' := (HBF.out.fwd HFH.out).c 1 rfl 1 rfl
       have x2' := (HBF.out.fwd HFH.out).c 1 rfl 2 rfl
       have x3' := (HBF.out.fwd HFH.out).c 1 rfl 3 rfl
       have x4' := (HBF.out.fwd HFH.out).c 1 rfl 4 rfl
       have x5' := (HBF.out.fwd HFH.out).c 1 rfl 5 rfl
       have x6' := (HBF.out.fwd HFH.out).c 1 rfl 6 rfl
       have x7' := (HBF.out.fwd HFH.out).c 1 rfl 7 rfl
       have x8' := (HBF.out.fwd HFH.out).c 1 rfl 8 rfl))

  have HBH := hid (HBF.out.fwd HFH.out)
  have HLH := hid (HLF.out.trans (HFH.out.mono HLF.out.size))
  have DWH := hid (DWF.out.fwd HFH.out)
  have DXH := hid (DXF.out.markA (marked_of HFH.out (fun _ => True)))
  have NXH := hid (NXF.out.fwd HFH.out)
  have PXH := hid (PXF.out.fwd HFH.out)
  have PKH := hid (PKF.out.mark (marked_of HFH.out (fun _ => True)))
  have DGH := hid (DGF.out.fwd HFH.out)
  clear NG HFG HFH
  go_wp2_with fail
  clear u0' u1' u2' u3' u4' u5' u6' u7' u8' x0' x1' x2' x3' x4' x5' x6' x7' x8'
  refine (hci.out _ _ _ (HP.out.frame (below_sameAll HLH.out _))).mono ?_
  rintro e wQ ⟨v, rfl, bwQ, hv⟩
  obtain ⟨apQ, cpQ, rfl⟩ := DrN.shapeP hv
  have NPQ := hid hv; clear hv
  have HBQ := hid (HBH.out.fwd bwQ)
  have HLQ := hid (HLH.out.trans (bwQ.mono HLH.out.size))
  have DWQ := hid (DWH.out.fwd bwQ)
  have DXQ := hid (DXH.out.markA (marked_of bwQ (fun _ => True)))
  have NXQ := hid (NXH.out.fwd bwQ)
  have PXQ := hid (PXH.out.fwd bwQ)
  have PKQ := hid (PKH.out.mark (marked_of bwQ (fun _ => True)))
  have DGQ := hid (DGH.out.fwd bwQ)
  clear bwQ
  go_wp2_with fail
  refine (eqIntS_any _ _ _ _ _ _ p p _ (DrN.intsP PXQ.out) (DrN.intsP NPQ.out)).mono ?_
  rintro e wR ⟨rfl, q⟩
  rw [dec_self]
  have bwR := q.below wQ.heap.size
  have HBR := hid (HBQ.out.fwd bwR)
  have HLR := hid (HLQ.out.trans (bwR.mono HLQ.out.size))
  have DWR := hid (DWQ.out.fwd bwR)
  have DXR := hid (DXQ.out.markA (marked_of bwR (fun _ => True)))
  have NXR := hid (NXQ.out.fwd bwR)
  have PXR := hid (PXQ.out.fwd bwR)
  have PKR := hid (PKQ.out.mark (marked_of bwR (fun _ => True)))
  have DGR := hid (DGQ.out.fwd bwR)
  clear bwR q NPQ
  have x0' := HBR.out.c 1 rfl 0 rfl
  have x1' := HBR.out.c 1 rfl 1 rfl
  have x2' := HBR.out.c 1 rfl 2 rfl
  have x3' := HBR.out.c 1 rfl 3 rfl
  have x4' := HBR.out.c 1 rfl 4 rfl
  have x5' := HBR.out.c 1 rfl 5 rfl
  have x6' := HBR.out.c 1 rfl 6 rfl
  have x7' := HBR.out.c 1 rfl 7 rfl
  have x8' := HBR.out.c 1 rfl 8 rfl
  go_wp2_with fail
  clear x0' x1' x2' x3' x4' x5' x6' x7' x8'
  have zH : wD.heap.size ≤ wR.heap.size := Nat.le_of_lt (HBR.out.lt (b := (wD.heap.size, _, _)) (List.mem_of_getElem? (i := 1) rfl))
  refine (mks.out _ _ [x0, x1, x2, x3, x4, x5, x6, x7, x8] 1 DXR.out (fun c h => Nat.lt_of_lt_of_le h.2 zH) (by omega) (by have := WS.out; have := EK.out; omega)).mono ?_
  rw [← EK.out]
  rintro e wI0 ⟨rfl, mI⟩
  have e1 := SZE.out; have e2 := HLC.out.size; have e3 : (wC.alloc (.cells [y0, y1, y2, y3, y4, y5, y6, y7, y8].toArray 42)).heap.size = wC.heap.size + 1 := by simp
  have e4 : (wD.alloc (.cells [x0, x1, x2, x3, x4, x5, x6, x7, x8].toArray 42)).heap.size = wD.heap.size + 1 := by simp
  have e8 := SZD.out; rw [e3] at e8
  have e9 := SZX.out; rw [e4] at e9
  have e5 := HBC.out.lt (b := (w.heap.size, _, _)) (List.mem_of_getElem? (i := 0) rfl)
  have e7 := HBR.out.lt (b := (wE.heap.size, _, _)) (List.mem_of_getElem? (i := 0) rfl)
  dsimp only at e5 e7
  have HBI0 := hid (HBR.out.mark mI (fun c hc h => by
    have h1 := h.1; have h2 := h.2
    rw [e3] at h1
    simp only [List.mem_cons, List.not_mem_nil, or_false] at hc
    rcases hc with rfl | rfl | rfl | rfl <;> dsimp only at h1 h2 <;> omega))
  have bI := mI.below (n := wC.heap.size) (fun c h => by have h1 := h.1; rw [e3] at h1; omega) (by omega)
  have HLI0 := hid (HLR.out.trans (bI.mono (by omega))); have DWI0 := hid (DWR.out.lo bI)
  have DGI0 := hid (DGR.out.frame fun c hc hl => mI.old c hl fun h => by have h1 := (HSG.out c hc).1; have h2 := h.2; omega)
  have PKI0 := hid (PKR.out.mark mI)
  have zI := mI.size; clear mI bI
  go_wp2_with fail
  refine (markInts_k p _ _ _ _ PKI0.out (by omega) (by rw [wgt_ints]; have := HC.out; have := WS.out; have := EK.out; omega)).mono ?_
  rintro e wI ⟨rfl, mI⟩
  rw [wgt_ints]
  have HBI := hid (HBI0.out.mark mI (fun c hc h => by
    have h1 := h.1; have h2 := h.2
    rw [e4] at h1
    simp only [List.mem_cons, List.not_mem_nil, or_false] at hc
    rcases hc with rfl | rfl | rfl | rfl <;> dsimp only at h1 h2 <;> omega))
  have bI := mI.below (n := wC.heap.size) (fun c h => by have h1 := h.1; rw [e4] at h1; omega) (by omega)
  have HLI := hid (HLI0.out.trans (bI.mono (by omega))); have DWI := hid (DWI0.out.lo bI)
  have DGI := hid (DGI0.out.frame fun c hc hl => mI.old c hl fun h => by have h1 := (HSG.out c hc).1; have h2 := h.2; omega)
  clear mI bI e7 zH zI
  have h2 : decide ((1 : Int) + (kS : Nat) + (p.length : Nat) < 0) = false := by simp; omega
  have g0' := HBI.out.c 0 rfl 0 rfl
  have g1' := HBI.out.c 0 rfl 1 rfl
  have g2' := HBI.out.c 0 rfl 2 rfl
  have g3' := HBI.out.c 0 rfl 3 rfl
  have g4' := HBI.out.c 0 rfl 4 rfl
  have g5' := HBI.out.c 0 rfl 5 rfl
  have g6' := HBI.out.c 0 rfl 6 rfl
  have g7' := HBI.out.c 0 rfl 7 rfl
  have g8' := HBI.out.c 0 rfl 8 rfl
  have y0' := HBI.out.c 2 rfl 0 rfl
  have y1' := HBI.out.c 2 rfl 1 rfl
  have y2' := HBI.out.c 2 rfl 2 rfl
  have y3' := HBI.out.c 2 rfl 3 rfl
  have y4' := HBI.out.c 2 rfl 4 rfl
  have y5' := HBI.out.c 2 rfl 5 rfl
  have y6' := HBI.out.c 2 rfl 6 rfl
  have y7' := HBI.out.c 2 rfl 7 rfl
  have y8' := HBI.out.c 2 rfl 8 rfl
  go_wp2_with fail
  clear h2
  clear g0' g1' g2' g3' g4' g5' g6' g7' g8' y0' y1' y2' y3' y4' y5' y6' y7' y8'
  refine (heq.out.callsB (vs := [_, _]) (B := fun _ => True) (vals2_mk DGI.out.drs.v (DWI.out.mono fun _ _ _ => trivial).v)).mono ?_
  rintro e wJ ⟨rfl, bwJ⟩
  rw [show sameS r r = true from sameS_iff.2 rfl]
  have HBJ := hid (HBI.out.fwd bwJ)
  have HLJ := hid (HLI.out.trans (bwJ.mono HLI.out.size))
  have DWJ := hid (DWI.out.fwd bwJ)
  have DGJ := hid (DGI.out.fwd bwJ)
  clear bwJ
  have g0' := HBJ.out.c 0 rfl 0 rfl
  have g1' := HBJ.out.c 0 rfl 1 rfl
  have g2' := HBJ.out.c 0 rfl 2 rfl
  have g3' := HBJ.out.c 0 rfl 3 rfl
  have g4' := HBJ.out.c 0 rfl 4 rfl
  have g5' := HBJ.out.c 0 rfl 5 rfl
  have g6' := HBJ.out.c 0 rfl 6 rfl
  have g7' := HBJ.out.c 0 rfl 7 rfl
  have g8' := HBJ.out.c 0 rfl 8 rfl
  go_wp2_with fail
  clear g0' g1' g2' g3' g4' g5' g6' g7' g8'
  have e7 := HBJ.out.lt (b := (wE.heap.size, _, _)) (List.mem_of_getElem? (i := 0) rfl)
  dsimp only at e7
  refine (mku.out SG _ [g0, g1, g2, g3, g4, g5, g6, g7, g8] 1 DGJ.out (fun c h => Nat.lt_trans (HSG.out c h).2 e7) (by omega) (by have := WR.out; have := ER.out; omega)).mono ?_
  rw [← ER.out]
  rintro e wK ⟨rfl, mK, gK⟩
  have HBK := hid (HBJ.out.mark mK (fun c hc h => by
    have h1 := (HSG.out _ h).1; have h2 := (HSG.out _ h).2
    simp only [List.mem_cons, List.not_mem_nil, or_false] at hc
    rcases hc with rfl | rfl | rfl | rfl <;> dsimp only at h1 h2 <;> omega))
  have bK := mK.below (n := wC.heap.size) (fun c h => by have h1 := (HSG.out _ h).1; omega) (by omega)
  have HLK := hid (HLJ.out.trans (bK.mono (by omega))); have DWK := hid (DWJ.out.lo bK); have DGK := hid gK; clear mK bK gK e7
  have g0' := HBK.out.c 0 rfl 0 rfl
  have g1' := HBK.out.c 0 rfl 1 rfl
  have g2' := HBK.out.c 0 rfl 2 rfl
  have g3' := HBK.out.c 0 rfl 3 rfl
  have g4' := HBK.out.c 0 rfl 4 rfl
  have g5' := HBK.out.c 0 rfl 5 rfl
  have g6' := HBK.out.c 0 rfl 6 rfl
  have g7' := HBK.out.c 0 rfl 7 rfl
  have g8' := HBK.out.c 0 rfl 8 rfl
  go_wp2_with fail
  clear g0' g1' g2' g3' g4' g5' g6' g7' g8'
  refine (hhd.out.callsI (vs := [_, _]) (B := fun _ => True) (vals2_mk DGK.out.drs.v (Dr.val (.int .i64 1) rfl))).mono ?_
  rintro e wL ⟨rfl, bwL⟩
  have HBL := hid (HBK.out.fwd bwL)
  have HLL := hid (HLK.out.trans (bwL.mono HLK.out.size))
  have DWL := hid (DWK.out.fwd bwL)
  have DGL := hid (DGK.out.fwd bwL)
  clear bwL
  have h3 : decide ((1 : Int) + (kR : Nat) < 0) = false := by simp; omega
  have u0' := HBL.out.c 3 rfl 0 rfl
  have u1' := HBL.out.c 3 rfl 1 rfl
  have u2' := HBL.out.c 3 rfl 2 rfl
  have u3' := HBL.out.c 3 rfl 3 rfl
  have u4' := HBL.out.c 3 rfl 4 rfl
  have u5' := HBL.out.c 3 rfl 5 rfl
  have u6' := HBL.out.c 3 rfl 6 rfl
  have u7' := HBL.out.c 3 rfl 7 rfl
  have u8' := HBL.out.c 3 rfl 8 rfl
  go_wp2_with fail
  clear u0' u1' u2' u3' u4' u5' u6' u7' u8'
  refine (hcp.out _ _ [u0, u1, u2, u3, u4, u5, u6, u7, u8] rfl (HD.out.fwd HLL.out).2).mono ?_
  rintro e wM ⟨vs, rfl, bwM, hv⟩
  obtain ⟨m0, l0, rfl, hl0⟩ := len_cons hv.1
  obtain ⟨m1, l1, rfl, hl1⟩ := len_cons hl0
  obtain ⟨m2, l2, rfl, hl2⟩ := len_cons hl1
  obtain ⟨m3, l3, rfl, hl3⟩ := len_cons hl2
  obtain ⟨m4, l4, rfl, hl4⟩ := len_cons hl3
  obtain ⟨m5, l5, rfl, hl5⟩ := len_cons hl4
  obtain ⟨m6, l6, rfl, hl6⟩ := len_cons hl5
  obtain ⟨m7, l7, rfl, hl7⟩ := len_cons hl6
  obtain ⟨m8, l8, rfl, hl8⟩ := len_cons hl7
  obtain rfl := len_zero hl8; clear hl0 hl1 hl2 hl3 hl4 hl5 hl6 hl7 hl8
  have NM := hid hv; clear hv
  have HBM := hid (HBL.out.fwd bwM)
  have HLM := hid (HLL.out.trans (bwM.mono HLL.out.size))
  have DWM := hid (DWL.out.fwd bwM)
  have DGM := hid (DGL.out.fwd bwM)
  have NMd := hid NM.out.drs; clear bwM
  go_wp2_with fail
  refine (hci.out _ _ _ (HP.out.frame (below_sameAll HLM.out _))).mono ?_
  rintro e wMp ⟨v, rfl, bwMp, hv⟩
  obtain ⟨apM, cpM, rfl⟩ := DrN.shapeP hv
  have NMp := hid hv; clear hv
  have HBMp := hid (HBM.out.fwd bwMp)
  have HLMp := hid (HLM.out.trans (bwMp.mono HLM.out.size))
  have DWMp := hid (DWM.out.fwd bwMp)
  have DGMp := hid (DGM.out.fwd bwMp)
  have NMdMp := hid (NMd.out.fwd bwMp)
  clear bwMp
  go_wp2_with fail
  refine (FnT.callsS qi.out (rS_plain r) (rS_nsl r) (vs := [_, _]) (vals2_mk NMdMp.out.v (NMp.out.dr.mono fun _ _ _ => trivial))).mono ?_
  rintro e wN ⟨gs, SH, rfl, bwN, hSH, hg⟩
  obtain ⟨h0, l0, rfl, hl0⟩ := len_cons hg.1
  obtain ⟨h1, l1, rfl, hl1⟩ := len_cons hl0
  obtain ⟨h2, l2, rfl, hl2⟩ := len_cons hl1
  obtain ⟨h3, l3, rfl, hl3⟩ := len_cons hl2
  obtain ⟨h4, l4, rfl, hl4⟩ := len_cons hl3
  obtain ⟨h5, l5, rfl, hl5⟩ := len_cons hl4
  obtain ⟨h6, l6, rfl, hl6⟩ := len_cons hl5
  obtain ⟨h7, l7, rfl, hl7⟩ := len_cons hl6
  obtain ⟨h8, l8, rfl, hl8⟩ := len_cons hl7
  obtain rfl := len_zero hl8; clear hl0 hl1 hl2 hl3 hl4 hl5 hl6 hl7 hl8
  have HBN := hid (HBMp.out.fwd bwN)
  have HLN := hid (HLMp.out.trans (bwN.mono HLMp.out.size))
  have DWN := hid (DWMp.out.fwd bwN)
  have DGN := hid (DGMp.out.fwd bwN)
  have DHN := hid hg; clear hg hSH bwN NM NMp
  have s0 := fun a m w => run_store Try.prog w a h0 m (DHN.out.drs.2 0 _ _ rfl rfl).one
  have s1 := fun a m w => run_store Try.prog w a h1 m (DHN.out.drs.2 1 _ _ rfl rfl).one
  have s2 := fun a m w => run_store Try.prog w a h2 m (DHN.out.drs.2 2 _ _ rfl rfl).one
  have s3 := fun a m w => run_store Try.prog w a h3 m (DHN.out.drs.2 3 _ _ rfl rfl).one
  have s4 := fun a m w => run_store Try.prog w a h4 m (DHN.out.drs.2 4 _ _ rfl rfl).one
  have s5 := fun a m w => run_store Try.prog w a h5 m (DHN.out.drs.2 5 _ _ rfl rfl).one
  have s6 := fun a m w => run_store Try.prog w a h6 m (DHN.out.drs.2 6 _ _ rfl rfl).one
  have s7 := fun a m w => run_store Try.prog w a h7 m (DHN.out.drs.2 7 _ _ rfl rfl).one
  have s8 := fun a m w => run_store Try.prog w a h8 m (DHN.out.drs.2 8 _ _ rfl rfl).one
  have ALn := hid (show Below wN.heap.size wN (wN.alloc (.cells [h0, h1, h2, h3, h4, h5, h6, h7, h8].toArray 42)) from (Below.refl _ _).alloc (Nat.le_refl _) _)
  have HBn := hid (HBN.out.add [h0, h1, h2, h3, h4, h5, h6, h7, h8] 42)
  have HLn := hid (HLN.out.trans (ALn.out.mono HLN.out.size))
  have DWn := hid (DWN.out.fwd ALn.out)
  have DGn := hid (DGN.out.fwd ALn.out)
  have DHn := hid (DHN.out.fwd ALn.out)
  have y0' := HBn.out.c 3 rfl 0 rfl
  have y1' := HBn.out.c 3 rfl 1 rfl
  have y2' := HBn.out.c 3 rfl 2 rfl
  have y3' := HBn.out.c 3 rfl 3 rfl
  have y4' := HBn.out.c 3 rfl 4 rfl
  have y5' := HBn.out.c 3 rfl 5 rfl
  have y6' := HBn.out.c 3 rfl 6 rfl
  have y7' := HBn.out.c 3 rfl 7 rfl
  have y8' := HBn.out.c 3 rfl 8 rfl
  go_wp2_with fail
  clear s0 s1 s2 s3 s4 s5 s6 s7 s8
  clear y0' y1' y2' y3' y4' y5' y6' y7' y8'
  refine (heq.out.callsB (vs := [_, _]) (B := fun _ => True) (vals2_mk DHn.out.drs.v (DWn.out.mono fun _ _ _ => trivial).v)).mono ?_
  rintro e wO ⟨rfl, bwO⟩
  rw [show sameS r r = true from sameS_iff.2 rfl]
  have HBO := hid (HBn.out.fwd bwO)
  have HLO := hid (HLn.out.trans (bwO.mono HLn.out.size))
  have DWO := hid (DWn.out.fwd bwO)
  have DGO := hid (DGn.out.fwd bwO)
  have DHO := hid (DHn.out.fwd bwO)
  clear bwO
  have g0' := HBO.out.c 1 rfl 0 rfl
  have g1' := HBO.out.c 1 rfl 1 rfl
  have g2' := HBO.out.c 1 rfl 2 rfl
  have g3' := HBO.out.c 1 rfl 3 rfl
  have g4' := HBO.out.c 1 rfl 4 rfl
  have g5' := HBO.out.c 1 rfl 5 rfl
  have g6' := HBO.out.c 1 rfl 6 rfl
  have g7' := HBO.out.c 1 rfl 7 rfl
  have g8' := HBO.out.c 1 rfl 8 rfl
  go_wp2_with fail
  clear g0' g1' g2' g3' g4' g5' g6' g7' g8'
  refine (hhd.out.callsI (vs := [_, _]) (B := fun _ => True) (vals2_mk DGO.out.drs.v (Dr.val (.int .i64 1) rfl))).mono ?_
  rintro e wP ⟨rfl, bwP⟩
  have HBP := hid (HBO.out.fwd bwP)
  have HLP := hid (HLO.out.trans (bwP.mono HLO.out.size))
  have DWP := hid (DWO.out.fwd bwP)
  have DGP := hid (DGO.out.fwd bwP)
  have DHP := hid (DHO.out.fwd bwP)
  clear bwP
  go_wp2_with fail
  go_ret
  exact ⟨rfl, HLP.out⟩
theorem lawEpoint {s : Stm} {p : List Int} (ho : okS s) {w : World} {v : Value} {a : Option Addr} {n c : Nat} (e0 : V1r bx0 al0 (fun b => b < w.heap.size) w (ad (rS s)) v) (e1 : Dr (fun b => b < w.heap.size) w (dIs p) (.slice a n c)) : Truth Try.prog 3 #[v, .slice a n c] w := by
  obtain ⟨us, rfl, d⟩ := e0_drs e0
  obtain ⟨a', n', c', e, hn, _⟩ := e1.ints
  cases e
  subst hn
  exact lawXpoint ho (fun hs hp => specPoint_fn s p (by omega) (by omega)) (fun hs hp => PointStmt_T s p (by omega) (by omega)) (fun hs => ptT_sz hs) d e1
end Go.Proofs.Ytollooimmfngjaa
