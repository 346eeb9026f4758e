/- Part 5 of 6 of the proof: laws on memory and data, then what the functions compute, in the order in which they build on each other; conditions: those that each theorem names. -/
import Derived.Test.YtcbfklmoeofoiaaGreatP4

namespace Go.Proofs.YtcbfklmoeofoiaaGreat
set_option linter.unusedVariables false
set_option linter.unusedSimpArgs false
open Go.RowKit
theorem flat_ev {x : Aff} (h : flatA x = true) (p : List Int) : affEval x p = x.2 := by
  have h0 : affDepth x = 0 := of_decide_eq_true h
  have hz : ∀ k, k ≤ x.1.length → depthTo x.1 k = 0 → ∀ i, i < k → x.1.getD i 0 = 0 := by
    intro k
    induction k with
    | zero => intro _ _ i hi; omega
    | succ k ih =>
      intro hk hd i hi
      rw [depthTo] at hd
      by_cases hc : x.1.getD k 0 = 0
      · rw [if_pos hc] at hd
        by_cases e : i = k
        · rw [e]; exact hc
        · exact ih (by omega) hd i (by omega)
      · rw [if_neg hc] at hd; omega
  have hall : ∀ i, x.1.getD i 0 = 0 := fun i => by
    by_cases hi : i < x.1.length
    · exact hz _ (Nat.le_refl _) h0 i hi
    · rw [List.getD, List.getElem?_eq_none (by omega)]; rfl
  have he : ∀ k, evalTo x.1 p k = 0 := by
    intro k
    induction k with
    | zero => rfl
    | succ k ih => rw [evalTo, ih, hall, Int.zero_mul, Int.add_zero]
  rw [affEval, he, Int.add_zero]
def modV (n : Int) : Int := (n.tmod 1000 + 999 + 1).tmod 1000
theorem tmod_bd (n : Int) : -1000 < n.tmod 1000 ∧ n.tmod 1000 < 1000 := ⟨Int.lt_tmod_of_pos n (by omega), Int.tmod_lt_of_pos n (by omega)⟩
theorem modV_bd (n : Int) : 0 ≤ modV n ∧ modV n ≤ 999 := by
  have h1 := tmod_bd n
  have h2 := tmod_bd (n.tmod 1000 + 999 + 1)
  have h3 := Int.tmod_nonneg 1000 (show 0 ≤ n.tmod 1000 + 999 + 1 by omega)
  unfold modV; omega
theorem modV_id {n : Int} (h : 0 ≤ n ∧ n ≤ 999) : modV n = n := by
  unfold modV
  rw [Int.tmod_eq_emod_of_nonneg h.1, Int.emod_eq_of_lt h.1 (by omega), Int.tmod_eq_emod_of_nonneg (by omega)]
  omega
mutual
def valE (g : Prg) (m p : List Int) : Ex → Int
  | .mk k n i r ks => if k = 1 then n else if k = 2 then modV (affEval i p) else if k = 3 then m.getD (cellG r p g.1 0).toNat 0 else modV (valN k ((valEs g m p ks).getD 0 0) ((valEs g m p ks).getD 1 0))
def valEs (g : Prg) (m p : List Int) : List Ex → List Int
  | [] => []
  | e :: l => valE g m p e :: valEs g m p l
end
theorem valE_num {g : Prg} {m p : List Int} {e : Ex} (h : e.k = 1) : valE g m p e = e.n := by
  cases e with | mk k n i r ks => rw [valE, if_pos (show k = 1 from h)]; rfl
theorem valE_idx {g : Prg} {m p : List Int} {e : Ex} (h : e.k = 2) : valE g m p e = modV (affEval e.i p) := by
  cases e with | mk k n i r ks =>
    have h' : k = 2 := h
    rw [valE, if_neg (by omega), if_pos h']; rfl
theorem valE_read {g : Prg} {m p : List Int} {e : Ex} (h : e.k = 3) : valE g m p e = m.getD (cellG e.r p g.1 0).toNat 0 := by
  cases e with | mk k n i r ks =>
    have h' : k = 3 := h
    rw [valE, if_neg (by omega), if_neg (by omega), if_pos h']; rfl
theorem valE_op {g : Prg} {m p : List Int} {e x y : Ex} (h : 4 ≤ e.k ∧ e.k ≤ 6) (hk : e.ks = [x, y]) : valE g m p e = modV (valN e.k (valE g m p x) (valE g m p y)) := by
  cases e with | mk k n i r ks =>
    have h' : 4 ≤ k ∧ k ≤ 6 := h
    have hk' : ks = [x, y] := hk
    subst hk'
    rw [valE, if_neg (by omega), if_neg (by omega), if_neg (by omega), valEs, valEs, valEs]; rfl
def memOk (m : List Int) : Prop := ∀ n ∈ m, 0 ≤ n ∧ n ≤ 999
theorem mem_bd {m : List Int} (h : memOk m) (i : Nat) : 0 ≤ m.getD i 0 ∧ m.getD i 0 ≤ 999 := by
  rw [List.getD]
  cases hm : m[i]? with
  | none => simp
  | some x => exact h x (List.mem_of_getElem? hm)
theorem exV_kind {d L : Nat} {e : Ex} (h : exV d (L + 1) e = true) : (e.k = 1 ∧ inB e.n 0 99 = true) ∨ (e.k = 2 ∧ affV e.i = true) ∨ (e.k = 3 ∧ accV d e.r = true) ∨ (4 ≤ e.k ∧ e.k ≤ 6) := by
  rw [exV, Bool.and_eq_true, Bool.and_eq_true] at h
  obtain ⟨⟨h1, h2⟩, h3⟩ := h
  by_cases hk : 4 ≤ e.k ∧ e.k ≤ 6
  · exact .inr (.inr (.inr hk))
  · have hk2 : 1 ≤ e.k ∧ e.k ≤ 3 := by
      apply Classical.byContradiction
      intro hc
      rw [kidV, if_neg hc, if_neg hk] at h1; cases h1
    unfold fldV at h2
    by_cases k1 : e.k = 1
    · rw [if_pos k1, Bool.and_eq_true, Bool.and_eq_true] at h2
      exact .inl ⟨k1, h2.1.1⟩
    · by_cases k2 : e.k = 2
      · rw [if_neg k1, if_pos k2, Bool.and_eq_true, Bool.and_eq_true, Bool.and_eq_true] at h2
        exact .inr (.inl ⟨k2, h2.1.2.1⟩)
      · rw [if_neg k1, if_neg k2, if_pos (by omega), Bool.and_eq_true] at h2
        exact .inr (.inr (.inl ⟨by omega, h2.2⟩))
theorem valE_bd {g : Prg} {m p : List Int} (hm : memOk m) {d L : Nat} {e : Ex} (h : exV d L e = true) : 0 ≤ valE g m p e ∧ valE g m p e ≤ 999 := by
  cases L with
  | zero => cases h
  | succ L =>
    rcases exV_kind h with ⟨h1, h2⟩ | ⟨h1, _⟩ | ⟨h1, _⟩ | h1
    · rw [valE_num h1]; have := of_decide_eq_true h2; omega
    · rw [valE_idx h1]; exact modV_bd _
    · rw [valE_read h1]; exact mem_bd hm _
    · obtain ⟨x, y, hks⟩ := op_two h h1
      rw [valE_op h1 hks]; exact modV_bd _
theorem isN_at {e : Ex} {n : Int} (h : isN e n = true) : e.k = 1 ∧ e.n = n := by
  rw [isN, Bool.and_eq_true] at h; exact ⟨of_decide_eq_true h.1, of_decide_eq_true h.2⟩
theorem fold_val {g : Prg} {m p : List Int} (hm : memOk m) {d : Nat} : ∀ {L : Nat} {e : Ex}, exV d L e = true → valE g m p (foldE e) = valE g m p e
  | 0, e, h => by cases h
  | L + 1, e, h => by
    by_cases hk : 4 ≤ e.k ∧ e.k ≤ 6
    · obtain ⟨x, y, hks⟩ := op_two h hk
      have hkv := (exV_kids h).2
      have vx := hkv x (by rw [hks]; simp)
      have vy := hkv y (by rw [hks]; simp)
      have ihx := fold_val (g := g) (p := p) hm vx
      have ihy := fold_val (g := g) (p := p) hm vy
      have bx := valE_bd (g := g) (p := p) hm (fold_ok vx)
      have by' := valE_bd (g := g) (p := p) hm (fold_ok vy)
      rw [foldE_op hk hks, valE_op hk hks, ← ihx, ← ihy]
      generalize foldE x = X at *
      generalize foldE y = Y at *
      have hout : valE g m p (outE e.k X Y) = modV (valN e.k (valE g m p X) (valE g m p Y)) := valE_op (e := outE e.k X Y) hk rfl
      unfold foldN
      split
      · rename_i h1
        rw [Bool.and_eq_true, decide_eq_true_eq, decide_eq_true_eq] at h1
        have hX := valE_num (g := g) (m := m) (p := p) h1.1
        have hY := valE_num (g := g) (m := m) (p := p) h1.2
        split
        · rename_i h2
          rw [valE_num (e := numE _) rfl, hX, hY]
          have h9 : 0 ≤ valN e.k X.n Y.n ∧ valN e.k X.n Y.n ≤ 99 := of_decide_eq_true h2
          exact (modV_id (n := valN e.k X.n Y.n) ⟨h9.1, by omega⟩).symm
        · exact hout
      · split
        · rename_i h2
          rw [Bool.or_eq_true, Bool.and_eq_true, Bool.and_eq_true] at h2
          rcases h2 with ⟨h3, h4⟩ | ⟨h3, h4⟩
          · obtain ⟨g1, g2⟩ := isN_at h4
            have hY := valE_num (g := g) (m := m) (p := p) g1
            have h6 : ¬ e.k = 6 := by have : (outE e.k X Y).k = e.k := rfl; simp at h3; omega
            rw [hY, g2, show valN e.k (valE g m p X) 0 = valE g m p X by unfold valN; split <;> (try split) <;> omega, modV_id bx]
          · obtain ⟨g1, g2⟩ := isN_at h4
            have hY := valE_num (g := g) (m := m) (p := p) g1
            have h6 : e.k = 6 := by have : (outE e.k X Y).k = e.k := rfl; simp at h3; omega
            rw [hY, g2, valN, if_neg (by omega), if_pos h6, Int.mul_one, modV_id bx]
        · split
          · rename_i h2
            rw [Bool.or_eq_true, Bool.and_eq_true, Bool.and_eq_true] at h2
            rcases h2 with ⟨h3, h4⟩ | ⟨h3, h4⟩
            · obtain ⟨g1, g2⟩ := isN_at h4
              have hX := valE_num (g := g) (m := m) (p := p) g1
              have h6 : e.k = 4 := by have : (outE e.k X Y).k = e.k := rfl; simp at h3; omega
              rw [hX, g2, valN, if_neg (by omega), if_neg (by omega), Int.zero_add, modV_id by']
            · obtain ⟨g1, g2⟩ := isN_at h4
              have hX := valE_num (g := g) (m := m) (p := p) g1
              have h6 : e.k = 6 := by have : (outE e.k X Y).k = e.k := rfl; simp at h3; omega
              rw [hX, g2, valN, if_neg (by omega), if_pos h6, Int.one_mul, modV_id by']
          · split
            · rename_i h2
              rw [Bool.and_eq_true, Bool.or_eq_true] at h2
              have h6 : e.k = 6 := by have : (outE e.k X Y).k = e.k := rfl; have := h2.1; simp at this; omega
              rw [valE_num (e := numE 0) rfl]
              show 0 = _
              rcases h2.2 with h4 | h4
              · obtain ⟨g1, g2⟩ := isN_at h4
                rw [valE_num g1, g2, valN, if_neg (by omega), if_pos h6, Int.zero_mul]; rfl
              · obtain ⟨g1, g2⟩ := isN_at h4
                rw [valE_num (e := Y) g1, g2, valN, if_neg (by omega), if_pos h6, Int.mul_zero]; rfl
            · exact hout
    · rw [foldE_leaf hk]
      split
      · rename_i hi
        rw [idxV, Bool.and_eq_true, Bool.and_eq_true] at hi
        obtain ⟨⟨h1, h2⟩, h3⟩ := hi
        have h1' := of_decide_eq_true h1
        have h3' := of_decide_eq_true h3
        rw [valE_num (e := numE _) rfl, valE_idx h1', flat_ev h2]
        rcases exV_kind h with ⟨k1, _⟩ | ⟨_, k2⟩ | ⟨k1, _⟩ | k1
        · omega
        · have := affV_const k2
          exact (modV_id (n := e.i.2) ⟨by omega, by omega⟩).symm
        · omega
        · omega
      · rfl
def memV (g : Prg) (m : List Int) : Bool := prgV g && (decide (m.length = totN g.1) && m.all fun n => inB n 0 999)
theorem memV_at {g : Prg} {m : List Int} (h : memV g m = true) : prgV g = true ∧ m.length = totN g.1 ∧ memOk m := by
  rw [memV, Bool.and_eq_true, Bool.and_eq_true] at h
  exact ⟨h.1, of_decide_eq_true h.2.1, fun n hn => of_decide_eq_true (List.all_eq_true.1 h.2.2 n hn)⟩
theorem ins_in {ns : List Lp} {p : List Int} (h : p ∈ npR ns) (hp : isPt p = true) (h3 : ns.length ≤ 3) : inV ns p = true := by
  obtain ⟨h1, h2, _⟩ := npR_mem h
  exact inV_of (okP_iff.1 h1).1 h3 h2
def drE (bs : List Int) : Nat → Nat → List Int → Nat → List Int × Nat
  | 0, _, cs, p => (cs, p)
  | n + 1, i, cs, p => drE bs n (i + 1) (cs.set i (numV bs p [0, 1, 0, -1, 2, 0, 9])) (p + 1)
def drD (bs : List Int) (p d : Nat) : Aff × Nat := (((drE bs d 0 [0, 0, 0, 0] (p + 1)).1, numV bs p [0, 1, -1, 2, 0, 5, -9, 99]), (drE bs d 0 [0, 0, 0, 0] (p + 1)).2)
theorem drE_len (bs : List Int) : ∀ (n i : Nat) (cs : List Int) (p : Nat), (drE bs n i cs p).1.length = cs.length ∧ (drE bs n i cs p).2 = p + n
  | 0, i, cs, p => ⟨rfl, rfl⟩
  | n + 1, i, cs, p => by
    obtain ⟨h1, h2⟩ := drE_len bs n (i + 1) (cs.set i (numV bs p [0, 1, 0, -1, 2, 0, 9])) (p + 1)
    exact ⟨by rw [drE, h1, List.length_set], by rw [drE, h2]; omega⟩
set_option maxRecDepth 100000 in
set_option maxHeartbeats 1600000 in
theorem l1Draw_fn {bs : List Int} (hb : Bytes bs) {p : Nat} (hp : p ≤ 100000000) (d : Nat) (hd : d ≤ 4) : Fn Tryz.prog 90 (hbR bs p) [vR, nat1 (d : Nat)] (.o (ad (rA (drD bs p d).1))) (hbR bs (drD bs p d).2) := by
 refine Fn.of_code Tryz.func90 rfl rfl (hbR_HB _ _) rfl rfl (hbR_HB _ _) rfl (hbR_num _ _ _) ?_
 refine ACode.seq ?_
 refine ACode.region ?_
 refine .cons (.al 104 [.slice none 0 0, .int .i64 0] rfl rfl rfl) ?_
 refine .nil ?_
 refine ks_n ?_
 refine ACode.seq ?_
 refine ACode.region ?_
 refine .cons (.mv rfl rfl) ?_
 refine .cons (.li 3 0 7 [.const (.int .i64 (0)), .const (.int .i64 (1)), .const (.int .i64 (-1)), .const (.int .i64 (2)), .const (.int .i64 (0)), .const (.int .i64 (5)), .const (.int .i64 (-9)), .const (.int .i64 (99))] rfl rfl rfl rfl rfl rfl) ?_
 refine .cons (.cR [.tmp 7, .tmp 8] 0 rfl rfl rfl rfl (num_fn hb (by omega) [0, 1, -1, 2, 0, 5, -9, 99] (by simp)) rfl ⟨rfl, trivial⟩) ?_
 refine .cons (.cO [.tmp 9] [(101, 610)] rfl rfl rfl rfl (l1Const_own _) rfl trivial flatS.nil (flatS.nil.cons rfl) HB.nil.data outS_one) ?_
 refine .cons (.al 105 [.slice none 0 0, .int .i64 0] rfl rfl rfl) ?_
 refine .cons (.sT 2 true rfl rfl rfl rfl rfl rfl rfl) ?_
 refine .nil ?_
 refine ks_n ?_
 refine ACode.seq ?_
 refine ACode.seq ?_
 refine ACode.region ?_
 refine .cons (.asg rfl rfl) ?_
 refine .nil ?_
 refine ks_n ?_
 refine ACode.block ?_
 refine .loopK (fun m σ => (∃ (i : Nat) (cs : List Int) (q : Nat), m = d - i ∧ (i ≤ d) ∧ (cs.length = 4) ∧ (q + (d - i) ≤ p + 1 + d) ∧ (drE bs (d - i) i cs q = drE bs d 0 [0, 0, 0, 0] (p + 1)) ∧ σ = [(.t 0, .v (.o (.c (.box 0 2 0 0)))), (.t 1, .v (.o (nat1 (d : Nat)))), (.t 4, .v (.o (.c (.box 110 2 0 0)))), (.t 5, .v (.o (.c (.box 111 2 0 0)))), (.t 6, .v (.o (nat1 (i : Nat)))), (.b 0, .b 81 2 (dR ([rRd bs q]))), (.u 0, .u), (.b 110, .b 28 2 [[.d (.val (.slice none 0 0)), .d (dI 0)]]), (.u 110, .u), (.b 112, .b 3 1 (dR (cs.map rI))), (.u 112, .u), (.b 111, .b 28 2 [[.own 112 1 (4), .d (dI (numV bs p [0, 1, -1, 2, 0, 5, -9, 99]))]]), (.u 111, .u)])) [(0, 0), (110, 104), (111, 105), (112, 610)] ⟨0, [0, 0, 0, 0], p + 1, rfl, (by omega), rfl, (by omega), rfl, rfl⟩ ⟨ks rfl (.c .bx), ks rfl .dt, ks rfl (.c .bx), ks rfl (.c .bx), ks rfl .dt, kb 0 rfl (.dt rfl), kb 104 rfl (.cons (.cons .dt (.cons .dt Ctos.nil)) .nil), kb 610 rfl (.dt rfl (by first | rfl | exact dR_setI _ _ _ _)), kb 105 rfl (.cons (.cons .ow (.cons .dt Ctos.nil)) .nil), trivial⟩ ?_
 rintro m σ ⟨i, cs, q, hm0, hi, hc, hq, hE, rfl⟩
 refine ACode.seq ?_
 refine ACode.seq ?_
 refine ACode.region ?_
 refine .cons (.mv rfl rfl) ?_
 refine .cons (.mv rfl rfl) ?_
 refine .cons (.ls rfl rfl rfl) ?_
 refine .nil ?_
 refine ks_n ?_
 refine .cD rfl (fun h13 => ?_) (fun h13 => ?_)
 ·skip
  refine ACode.skip ?_
  refine ks_n ?_
  refine ACode.seq ?_
  refine ACode.block ?_
  refine ACode.drawK (by kernel_rfl) (by kernel_rfl) ?_
  refine .cons (.fB 0 0 false rfl rfl rfl) ?_
  refine .cons (.b1 1 rfl rfl rfl rfl rfl rfl) ?_
  refine .cons (.mv rfl rfl) ?_
  refine .cons (.mv rfl rfl) ?_
  refine .cons (.li 3 0 6 [.const (.int .i64 (0)), .const (.int .i64 (1)), .const (.int .i64 (0)), .const (.int .i64 (-1)), .const (.int .i64 (2)), .const (.int .i64 (0)), .const (.int .i64 (9))] rfl rfl rfl rfl rfl rfl) ?_
  refine .cons (.cR [.tmp 19, .tmp 20] 0 rfl rfl rfl rfl (num_fn hb (by omega) [0, 1, 0, -1, 2, 0, 9] (by simp)) rfl ⟨rfl, trivial⟩) ?_
  refine .cons (.xB 3 1 8 rfl rfl rfl rfl rfl rfl (by omega)) ?_
  refine .cons (.sT 1 false rfl rfl rfl rfl (dR_at (map_at (getD_at (by omega)))) rfl rfl) ?_
  refine .nil ⟨by kernel_rfl, ?_⟩
  refine kb_n ?_
  refine ks_n ?_
  refine ACode.region ?_
  refine .cons (.mv rfl rfl) ?_
  refine .cons (.pl rfl rfl rfl) ?_
  refine .cons (.asg rfl rfl) ?_
  refine .nil ?_
  refine kl_k [(0, 0), (110, 110), (111, 111), (112, 112)] ⟨i + 1, cs.set i (numV bs q [0, 1, 0, -1, 2, 0, 9]), q + 1, rfl, by omega, by rw [List.length_set, hc], by omega, by rw [← hE, show d - i = (d - (i + 1)) + 1 by omega]; rfl, rfl⟩ ⟨ks rfl (.c .bx), ks rfl .dt, ks rfl (.c .bx), ks rfl (.c .bx), ks rfl .dt, kb 0 rfl (.dt rfl), kb 110 rfl (.cons (.cons .dt (.cons .dt Ctos.nil)) .nil), kb 112 rfl (.dt rfl (by first | rfl | exact dR_setI _ _ _ _)), kb 111 rfl (.cons (.cons .ow (.cons .dt Ctos.nil)) .nil), trivial⟩
 ·skip
  obtain rfl : i = d := by omega
  rw [Nat.sub_self] at hE
  obtain ⟨r, hr⟩ : ∃ r, r = drD bs p i := ⟨_, rfl⟩
  rw [← hr]
  have hr2 : r = ((cs, numV bs p [0, 1, -1, 2, 0, 5, -9, 99]), q) := by rw [hr, drD, ← hE]; rfl
  subst hr2
  refine ACode.exit ?_
  refine ks_e ?_
  refine kl_e ?_
  refine kb_hit ?_
  refine ks_n ?_
  refine ACode.seq ?_
  refine ACode.region ?_
  refine .cons (.bN 2 rfl rfl rfl rfl rfl rfl) ?_
  refine .cons (.sT 2 true rfl rfl rfl rfl rfl rfl rfl) ?_
  refine .nil ?_
  refine ks_n ?_
  refine ACode.ret ?_
  refine kf_wret [(.t 4, .v (.o (.c (.box 100 2 0 0)))), (.b 0, .b 81 2 (dR ([rRd bs q]))), (.u 0, .u), (.b 100, .b 28 2 [[.d (dIs cs), .d (dI (numV bs p [0, 1, -1, 2, 0, 5, -9, 99]))]]), (.u 100, .u)] (Wk.keep [(0, 0), (100, 110)] rfl rfl ⟨ks rfl (.c .bx), kb 0 rfl (.dt rfl), kb 110 rfl (.cons (.cons (.fz rfl rfl (by rw [List.length_map, hc]) (by omega)) (.cons .dt Ctos.nil)) .nil), trivial⟩) rfl ?_ (hbR_box rfl)
  rfl
def dSs (l : List ByteArray) : D := .list 1 (l.map fun s => [dS s])
def ofV (bs : List Int) (p : Nat) (xs : List ByteArray) : ByteArray := xs.getD (pickV bs p xs.length).toNat ByteArray.empty
theorem ofV_at {bs : List Int} (h : Bytes bs) {p : Nat} (hp : p ≤ 1099511627776) {xs : List ByteArray} (hx : 0 < xs.length) : pickV bs p xs.length = ((pickV bs p xs.length).toNat : Int) ∧ xs[(pickV bs p xs.length).toNat]? = some (ofV bs p xs) := by
  have h1 := pickV_bd h hp (xs.length : Nat)
  have h2 := h1.2 (by omega)
  have h3 : (pickV bs p xs.length).toNat < xs.length := by omega
  exact ⟨by omega, by rw [ofV, List.getD, List.getElem?_eq_getElem h3]; rfl⟩
set_option maxRecDepth 100000 in
set_option maxHeartbeats 1600000 in
theorem of_fn {bs : List Int} (hb : Bytes bs) {p : Nat} (hp : p ≤ 1099511627776) (xs : List ByteArray) (hx : 0 < xs.length) : Fn Tryz.prog 41 (hbR bs p) [vR, vD (dSs xs)] (.o (st1 (ofV bs p xs))) (hbR bs (p + 1)) := by
 refine Fn.of_code Tryz.func41 rfl rfl (hbR_HB _ _) rfl rfl (hbR_HB _ _) rfl (hbR_num _ _ _) ?_
 refine ACode.seq ?_
 refine ACode.region ?_
 refine .cons (.asg rfl rfl) ?_
 refine .nil ?_
 refine ks_n ?_
 refine ACode.seq ?_
 refine ACode.region ?_
 refine .cons (.mv rfl rfl) ?_
 refine .cons (.mv rfl rfl) ?_
 refine .cons (.mv rfl rfl) ?_
 refine .cons (.ln 9 1 16 rfl rfl rfl) ?_
 refine .cons (.cR [.tmp 6, .tmp 8] 0 rfl rfl rfl rfl (pick_fn hb hp (xs.length : Nat)) rfl ⟨rfl, trivial⟩) ?_
 refine .cons (.xL 9 1 16 (i := (pickV bs p (xs.length : Nat)).toNat) rfl rfl rfl rfl (ofV_at hb hp hx).1 (map_at (ofV_at hb hp hx).2)) ?_
 refine .cons (.l1 1 rfl rfl) ?_
 refine .cons (.asg rfl rfl) ?_
 refine .nil ?_
 refine ks_n ?_
 refine ACode.ret ?_
 refine kf_ret rfl ?_ (hbR_box rfl)
 rfl

/-- A drawn subscript. -/
def elemX (bs : List Int) (d : Nat) (p : Nat) : Aff × Nat :=
  if 0 < d then (if 0 < pickV bs (p + 1) 5 then (cmbA (varA (pickV bs (p + 1 + 1) (d : Nat)).toNat) (numV bs (p + 1 + 1 + 1) [1, 1, 1, 2, -1]) (cA (numV bs (p + 1 + 1 + 1 + 1) [0, 1, 0, 0, 2])) 1, p + 1 + 1 + 1 + 1 + 1) else (cA (numV bs p [0, 1, 0, 2]), p + 1 + 1))
  else (cA (numV bs p [0, 1, 0, 2]), p + 1)
def elemN (bs : List Int) (p : Nat) : Nat := if sEq (ofV bs p [⟨#[65]⟩, ⟨#[66]⟩, ⟨#[65]⟩, ⟨#[67]⟩]) ⟨#[66]⟩ = true then 2 else 1
def elemL (bs : List Int) (d : Nat) : Nat → List Aff → Nat → List Aff × Nat
  | 0, l, p => (l, p)
  | n + 1, l, p => elemL bs d n (l ++ [(elemX bs d p).1]) (elemX bs d p).2
def elemD (bs : List Int) (d p : Nat) : Acc × Nat := ((ofV bs p [⟨#[65]⟩, ⟨#[66]⟩, ⟨#[65]⟩, ⟨#[67]⟩], (elemL bs d (elemN bs p) [] (p + 1)).1), (elemL bs d (elemN bs p) [] (p + 1)).2)
theorem elemX_p (bs : List Int) (d p : Nat) : p ≤ (elemX bs d p).2 ∧ (elemX bs d p).2 ≤ p + 5 ∧ (elemX bs d p).1.1.length = 4 := by
  unfold elemX
  split
  · split
    · exact ⟨by dsimp only; omega, by dsimp only; omega, by simp [cmbA, cmbTo]⟩
    · exact ⟨by dsimp only; omega, by dsimp only; omega, rfl⟩
  · exact ⟨by dsimp only; omega, by dsimp only; omega, rfl⟩
theorem elemL_p (bs : List Int) (d : Nat) : ∀ (n : Nat) (l : List Aff) (p : Nat), (∀ x ∈ l, x.1.length = 4) → p ≤ (elemL bs d n l p).2 ∧ (elemL bs d n l p).2 ≤ p + 5 * n ∧ (elemL bs d n l p).1.length = l.length + n ∧ ∀ x ∈ (elemL bs d n l p).1, x.1.length = 4
  | 0, l, p, h => ⟨Nat.le_refl _, Nat.le_refl _, rfl, h⟩
  | n + 1, l, p, h => by
    obtain ⟨h1, h2, h3⟩ := elemX_p bs d p
    obtain ⟨q1, q2, q3, q4⟩ := elemL_p bs d n (l ++ [(elemX bs d p).1]) (elemX bs d p).2 (fun x hx => by
      rcases List.mem_append.1 hx with hx | hx
      · exact h x hx
      · rw [List.mem_singleton.1 hx]; exact h3)
    rw [elemL]
    exact ⟨by omega, by omega, by rw [q3]; simp; omega, q4⟩
theorem elemD_p (bs : List Int) (d p : Nat) : p ≤ (elemD bs d p).2 ∧ (elemD bs d p).2 ≤ p + 11 ∧ 0 < (elemD bs d p).1.2.length ∧ (elemD bs d p).1.2.length ≤ 2 ∧ ∀ x ∈ (elemD bs d p).1.2, x.1.length = 4 := by
  have h : elemN bs p = 1 ∨ elemN bs p = 2 := by unfold elemN; split <;> simp
  obtain ⟨q1, q2, q3, q4⟩ := elemL_p bs d (elemN bs p) [] (p + 1) (by simp)
  rw [List.length_nil] at q3
  exact ⟨by show p ≤ (elemL _ _ _ _ _).2; omega, by show (elemL _ _ _ _ _).2 ≤ _; omega, by show 0 < (elemL _ _ _ _ _).1.length; omega, by show (elemL _ _ _ _ _).1.length ≤ 2; omega, q4⟩

set_option maxRecDepth 100000 in
set_option maxHeartbeats 1600000 in
theorem l3Elem_fn {bs : List Int} (hb : Bytes bs) {p : Nat} (hp : p ≤ 90000000) (d : Nat) (hd : d ≤ 4) : Fn Tryz.prog 45 (hbR bs p) [vR, nat1 (d : Nat)] (.o (ad (rC (elemD bs d p).1))) (hbR bs (elemD bs d p).2) := by
 have hN : 1 ≤ elemN bs p ∧ elemN bs p ≤ 2 := by unfold elemN; split <;> simp
 refine Fn.of_code Tryz.func45 rfl rfl (hbR_HB _ _) rfl rfl (hbR_HB _ _) rfl (hbR_num _ _ _) ?_
 refine ACode.seq ?_
 refine ACode.region ?_
 refine .cons (.al 104 [.string ByteArray.empty, .slice none 0 0] rfl rfl rfl) ?_
 refine .nil ?_
 refine ks_n ?_
 refine ACode.seq ?_
 refine ACode.region ?_
 refine .cons (.mv rfl rfl) ?_
 refine .cons (.li 9 0 3 [.const (.string ⟨#[65]⟩), .const (.string ⟨#[66]⟩), .const (.string ⟨#[65]⟩), .const (.string ⟨#[67]⟩)] rfl rfl rfl rfl rfl rfl) ?_
 refine .cons (.cR [.tmp 10, .tmp 11] 0 rfl rfl rfl rfl (of_fn hb (by omega) [⟨#[65]⟩, ⟨#[66]⟩, ⟨#[65]⟩, ⟨#[67]⟩] (by simp)) rfl ⟨rfl, trivial⟩) ?_
 refine .cons (.bu [(0, .tmp 12)] [(0, 1), (1, 1)] [.string ByteArray.empty, .slice none 0 0] rfl rfl rfl rfl rfl) ?_
 refine .cons (.al 105 [.string ByteArray.empty, .slice none 0 0] rfl rfl rfl) ?_
 refine .cons (.sT 2 true rfl rfl rfl rfl rfl rfl rfl) ?_
 refine .nil ?_
 refine ks_n ?_
 refine ACode.seq ?_
 refine ACode.region ?_
 refine .cons (.asg rfl rfl) ?_
 refine .nil ?_
 refine ks_n ?_
 refine ACode.seq ?_
 refine ACode.cut [(.t 0, .v (.o (.c (.box 0 2 0 0)))), (.t 1, .v (.o (nat1 (d : Nat)))), (.t 4, .v (.o (.c (.box 830 2 0 0)))), (.t 5, .v (.o (.c (.box 831 2 0 0)))), (.t 6, .v (.o (nat1 (elemN bs p : Nat)))), (.b 0, .b 81 2 (dR ([rRd bs (p + 1)]))), (.u 0, .u), (.b 830, .b 25 2 [[.d (dS ByteArray.empty), .d (.val (.slice none 0 0))]]), (.u 830, .u), (.b 831, .b 25 2 [[.d (dS (ofV bs p [⟨#[65]⟩, ⟨#[66]⟩, ⟨#[65]⟩, ⟨#[67]⟩])), .d (.val (.slice none 0 0))]]), (.u 831, .u)] ?_ ?_
 ·skip
  refine ACode.seq ?_
  refine ACode.region ?_
  refine .cons (.fB 0 0 false rfl rfl rfl) ?_
  refine .cons (.b1 1 rfl rfl rfl rfl rfl rfl) ?_
  refine .cons (St1.eqS rfl rfl rfl) ?_
  refine .nil ?_
  refine ks_n ?_
  refine ACode.condT rfl (fun h16 => ?_) (fun h16 => ?_)
  ·try simp only [zs1, zs2, zs3, zs4, zs5, zs6, zs7] at h16
   refine ACode.region ?_
   refine .cons (.asg rfl rfl) ?_
   refine .nil ?_
   exact kc_n (Wk.keep [(0, 0), (830, 104), (831, 105)] rfl rfl ⟨ks rfl (.c .bx), ks rfl .dt, ks rfl (.c .bx), ks rfl (.c .bx), ks rfl (.dt (vI (by rw [elemN]; first | (rw [if_pos h16]; rfl) | (rw [h16]; rfl)))), kb 0 rfl (.dt rfl), kb 104 rfl (.cons (.cons .dt (.cons .dt Ctos.nil)) .nil), kb 105 rfl (.cons (.cons .dt (.cons .dt Ctos.nil)) .nil), trivial⟩)
  ·try simp only [zs1, zs2, zs3, zs4, zs5, zs6, zs7] at h16
   refine ACode.skip ?_
   exact kc_n (Wk.keep [(0, 0), (830, 104), (831, 105)] rfl rfl ⟨ks rfl (.c .bx), ks rfl .dt, ks rfl (.c .bx), ks rfl (.c .bx), ks rfl (.dt (vI (by rw [elemN]; first | (rw [if_pos h16]; rfl) | (rw [h16]; rfl)))), kb 0 rfl (.dt rfl), kb 104 rfl (.cons (.cons .dt (.cons .dt Ctos.nil)) .nil), kb 105 rfl (.cons (.cons .dt (.cons .dt Ctos.nil)) .nil), trivial⟩)
 refine ks_n ?_
 refine ACode.seq ?_
 refine ACode.seq ?_
 refine ACode.region ?_
 refine .cons (.asg rfl rfl) ?_
 refine .nil ?_
 refine ks_n ?_
 refine ACode.block ?_
 refine .loopK (fun m σ => (∃ (n q : Nat), m = n + 0 ∧ (n = elemN bs p) ∧ (1 ≤ n) ∧ (q = p + 1) ∧ (elemL bs d n [] q = elemL bs d (elemN bs p) [] (p + 1)) ∧ σ = [(.t 0, .v (.o (.c (.box 0 2 0 0)))), (.t 1, .v (.o (nat1 (d : Nat)))), (.t 4, .v (.o (.c (.box 110 2 0 0)))), (.t 5, .v (.o (.c (.box 111 2 0 0)))), (.t 6, .v (.o (nat1 (elemN bs p : Nat)))), (.t 7, .v (.o (nat1 ((elemN bs p : Nat) - (n : Nat))))), (.b 0, .b 81 2 (dR ([rRd bs q]))), (.u 0, .u), (.b 110, .b 25 2 [[.d (dS ByteArray.empty), .d (.val (.slice none 0 0))]]), (.u 110, .u), (.b 111, .b 25 2 [[.d (dS (ofV bs p [⟨#[65]⟩, ⟨#[66]⟩, ⟨#[65]⟩, ⟨#[67]⟩])), .d (.val (.slice none 0 0))]]), (.u 111, .u)]) ∨ (∃ (n q : Nat) (xs : List Aff), m = n + 0 ∧ (0 < xs.length) ∧ (xs.length + n = elemN bs p) ∧ (q ≤ p + 1 + 5 * (elemN bs p - n)) ∧ (elemL bs d n xs q = elemL bs d (elemN bs p) [] (p + 1)) ∧ (∀ x ∈ xs, x.1.length = 4) ∧ σ = [(.t 0, .v (.o (.c (.box 0 2 0 0)))), (.t 1, .v (.o (nat1 (d : Nat)))), (.t 4, .v (.o (.c (.box 110 2 0 0)))), (.t 5, .v (.o (.c (.box 111 2 0 0)))), (.t 6, .v (.o (nat1 (elemN bs p : Nat)))), (.t 7, .v (.o (nat1 ((elemN bs p : Nat) - (n : Nat))))), (.b 0, .b 81 2 (dR ([rRd bs q]))), (.u 0, .u), (.b 110, .b 25 2 [[.d (dS ByteArray.empty), .d (.val (.slice none 0 0))]]), (.u 110, .u), (.b 112, .b 28 2 (dR (xs.map rA))), (.u 112, .u), (.b 111, .b 25 2 [[.d (dS (ofV bs p [⟨#[65]⟩, ⟨#[66]⟩, ⟨#[65]⟩, ⟨#[67]⟩])), .own 112 2 (xs.length)]]), (.u 111, .u)])) [(0, 0), (110, 830), (111, 831)] (.inl ⟨elemN bs p, p + 1, rfl, rfl, hN.1, rfl, rfl, rfl⟩) ⟨ks rfl (.c .bx), ks rfl .dt, ks rfl (.c .bx), ks rfl (.c .bx), ks rfl .dt, ks rfl .dt, kb 0 rfl (.dt rfl), kb 830 rfl (.cons (.cons .dt (.cons .dt Ctos.nil)) .nil), kb 831 rfl (.cons (.cons .dt (.cons .dt Ctos.nil)) .nil), trivial⟩ ?_
 rintro m σ (⟨n, q, hm0, hnn, hn1, hq, hE, rfl⟩ | ⟨n, q, xs, hm0, hxl, hn1, hq, hE, hx4, rfl⟩)
 ·skip
  refine ACode.seq ?_
  refine ACode.seq ?_
  refine ACode.region ?_
  refine .cons (.mv rfl rfl) ?_
  refine .cons (.mv rfl rfl) ?_
  refine .cons (.ls rfl rfl rfl) ?_
  refine .nil ?_
  refine ks_n ?_
  refine .cD rfl (fun h19 => ?_) (fun h19 => ?_)
  ·skip
   have hXp := elemX_p bs d q
   refine ACode.skip ?_
   refine ks_n ?_
   refine ACode.seq ?_
   refine ACode.block ?_
   refine ACode.seq ?_
   refine ACode.region ?_
   refine .cons (.mv rfl rfl) ?_
   refine .cons (.li 3 0 3 [.const (.int .i64 (0)), .const (.int .i64 (1)), .const (.int .i64 (0)), .const (.int .i64 (2))] rfl rfl rfl rfl rfl rfl) ?_
   refine .cons (.cR [.tmp 22, .tmp 23] 0 rfl rfl rfl rfl (num_fn hb (by omega) [0, 1, 0, 2] (by simp)) rfl ⟨rfl, trivial⟩) ?_
   refine .cons (.cP [.tmp 24] rfl rfl rfl rfl (l1Const_fn _) rfl) ?_
   refine .cons (.al 108 [.slice none 0 0, .int .i64 0] rfl rfl rfl) ?_
   refine .cons (.sT 2 true rfl rfl rfl rfl rfl rfl rfl) ?_
   refine .nil ?_
   refine ks_n ?_
   refine ACode.seq ?_
   refine ACode.cut [(.t 0, .v (.o (.c (.box 0 2 0 0)))), (.t 1, .v (.o (nat1 (d : Nat)))), (.t 4, .v (.o (.c (.box 890 2 0 0)))), (.t 5, .v (.o (.c (.box 891 2 0 0)))), (.t 6, .v (.o (nat1 (elemN bs p : Nat)))), (.t 7, .v (.o (nat1 ((elemN bs p : Nat) - (n : Nat))))), (.t 8, .v (.o (.c (.box 892 2 0 0)))), (.b 0, .b 81 2 (dR ([rRd bs (elemX bs d q).2]))), (.u 0, .u), (.b 890, .b 25 2 [[.d (dS ByteArray.empty), .d (.val (.slice none 0 0))]]), (.u 890, .u), (.b 891, .b 25 2 [[.d (dS (ofV bs p [⟨#[65]⟩, ⟨#[66]⟩, ⟨#[65]⟩, ⟨#[67]⟩])), .d (.val (.slice none 0 0))]]), (.u 891, .u), (.b 892, .b 28 2 [[.d (dIs (elemX bs d q).1.1), .d (dI (elemX bs d q).1.2)]]), (.u 892, .u)] ?_ ?_
   ·skip
    refine ACode.seq ?_
    refine ACode.region ?_
    refine .cons (.mv rfl rfl) ?_
    refine .cons (.gt rfl rfl rfl) ?_
    refine .cons (.mv rfl rfl) ?_
    refine .cD 28 rfl (fun g28 => ?_) (fun g28 => ?_)
    ·skip
     refine .cons (.gT rfl rfl rfl (.mv rfl rfl)) ?_
     refine .cons (.gT rfl rfl rfl (.cR [.tmp 29, .const (.int .i64 (5))] 0 rfl rfl rfl rfl (pick_fn hb (by omega) 5) rfl ⟨rfl, trivial⟩)) ?_
     refine .cons (.gT rfl rfl rfl (.gt rfl rfl rfl)) ?_
     refine .cons (.pT rfl rfl rfl) ?_
     refine .nil ?_
     refine ks_n ?_
     refine ACode.condT rfl (fun h32 => ?_) (fun h32 => ?_)
     ·try simp only [zs1, zs2, zs3, zs4, zs5, zs6, zs7] at h32
      have hv := pickV_bd hb (p := q + 1 + 1) (by omega) (d : Nat)
      have hv2 := hv.2 (by omega)
      have hv : 0 ≤ pickV bs (q + 1 + 1) (d : Nat) ∧ pickV bs (q + 1 + 1) (d : Nat) < 4 := by omega
      have hm1 := numV_mem hb (p := q + 1 + 1 + 1) (by omega) (xs := [1, 1, 1, 2, -1]) (by simp)
      have hm2 := numV_mem hb (p := q + 1 + 1 + 1 + 1) (by omega) (xs := [0, 1, 0, 0, 2]) (by simp)
      simp only [List.mem_cons, List.not_mem_nil, or_false] at hm1 hm2
      have hk1 : -1000 ≤ numV bs (q + 1 + 1 + 1) [1, 1, 1, 2, -1] ∧ numV bs (q + 1 + 1 + 1) [1, 1, 1, 2, -1] ≤ 1000 := by omega
      have hk2 : -1000 ≤ numV bs (q + 1 + 1 + 1 + 1) [0, 1, 0, 0, 2] ∧ numV bs (q + 1 + 1 + 1 + 1) [0, 1, 0, 0, 2] ≤ 1000 := by omega
      refine ACode.seq ?_
      refine ACode.region ?_
      refine .cons (.mv rfl rfl) ?_
      refine .cons (.mv rfl rfl) ?_
      refine .cons (.cR [.tmp 33, .tmp 34] 0 rfl rfl rfl rfl (pick_fn hb (by omega) _) rfl ⟨rfl, trivial⟩) ?_
      refine .cons (.asg rfl rfl) ?_
      refine .nil ?_
      refine ks_n ?_
      refine ACode.region ?_
      refine .cons (.mv rfl rfl) ?_
      refine .cons (.cP [.tmp 36] rfl rfl rfl rfl (l1Var_fn _ hv) rfl) ?_
      refine .cons (.mv rfl rfl) ?_
      refine .cons (.li 3 0 4 [.const (.int .i64 (1)), .const (.int .i64 (1)), .const (.int .i64 (1)), .const (.int .i64 (2)), .const (.int .i64 (-1))] rfl rfl rfl rfl rfl rfl) ?_
      refine .cons (.cR [.tmp 38, .tmp 39] 0 rfl rfl rfl rfl (num_fn hb (by omega) [1, 1, 1, 2, -1] (by simp)) rfl ⟨rfl, trivial⟩) ?_
      refine .cons (.mv rfl rfl) ?_
      refine .cons (.li 3 0 4 [.const (.int .i64 (0)), .const (.int .i64 (1)), .const (.int .i64 (0)), .const (.int .i64 (0)), .const (.int .i64 (2))] rfl rfl rfl rfl rfl rfl) ?_
      refine .cons (.cR [.tmp 41, .tmp 42] 0 rfl rfl rfl rfl (num_fn hb (by omega) [0, 1, 0, 0, 2] (by simp)) rfl ⟨rfl, trivial⟩) ?_
      refine .cons (.cP [.tmp 43] rfl rfl rfl rfl (l1Const_fn _) rfl) ?_
      refine .cons (.cP [.tmp 37, .tmp 40, .tmp 44, .const (.int .i64 (1))] rfl rfl rfl rfl (l1Combine_fn _ _ _ 1 hk1 (by omega) (varA_sm _).1 rfl (varA_sm _).2.1 (by simp [cA]; omega) (varA_sm _).2.2 (cA_sm (by omega)).2.2) rfl) ?_
      refine .cons (.sT 2 true rfl rfl rfl rfl rfl rfl rfl) ?_
      refine .nil ?_
      have hX : elemX bs d q = elemX bs d q := rfl
      conv at hX => rhs; unfold elemX
      first | rw [if_pos (show 0 < d by omega), if_pos (by assumption)] at hX | rw [if_pos (show 0 < d by omega), if_neg (by assumption)] at hX | rw [if_neg (show ¬ 0 < d by omega)] at hX
      exact kc_n (Wk.keep [(0, 0), (890, 110), (891, 111), (892, 108)] rfl rfl ⟨ks rfl (.c .bx), ks rfl .dt, ks rfl (.c .bx), ks rfl (.c .bx), ks rfl .dt, ks rfl .dt, ks rfl (.c .bx), kb 0 rfl (.dt rfl (by rw [hX]; try rfl)), kb 110 rfl (.cons (.cons .dt (.cons .dt Ctos.nil)) .nil), kb 111 rfl (.cons (.cons .dt (.cons .dt Ctos.nil)) .nil), kb 108 rfl (.cons (.cons (.dt (by rw [hX]; try rfl)) (.cons (.dt (by rw [hX]; try rfl)) Ctos.nil)) .nil), trivial⟩)
     ·try simp only [zs1, zs2, zs3, zs4, zs5, zs6, zs7] at h32
      refine ACode.skip ?_
      have hX : elemX bs d q = elemX bs d q := rfl
      conv at hX => rhs; unfold elemX
      first | rw [if_pos (show 0 < d by omega), if_pos (by assumption)] at hX | rw [if_pos (show 0 < d by omega), if_neg (by assumption)] at hX | rw [if_neg (show ¬ 0 < d by omega)] at hX
      exact kc_n (Wk.keep [(0, 0), (890, 110), (891, 111), (892, 108)] rfl rfl ⟨ks rfl (.c .bx), ks rfl .dt, ks rfl (.c .bx), ks rfl (.c .bx), ks rfl .dt, ks rfl .dt, ks rfl (.c .bx), kb 0 rfl (.dt rfl (by rw [hX]; try rfl)), kb 110 rfl (.cons (.cons .dt (.cons .dt Ctos.nil)) .nil), kb 111 rfl (.cons (.cons .dt (.cons .dt Ctos.nil)) .nil), kb 108 rfl (.cons (.cons (.dt (by rw [hX]; try rfl)) (.cons (.dt (by rw [hX]; try rfl)) Ctos.nil)) .nil), trivial⟩)
    ·skip
     refine .cons (.gF rfl rfl rfl) ?_
     refine .cons (.gF rfl rfl rfl) ?_
     refine .cons (.gF rfl rfl rfl) ?_
     refine .cons (.pF rfl rfl rfl) ?_
     refine .nil ?_
     refine ks_n ?_
     refine ACode.condT rfl (fun h => by first | (cases h; done) | (simp [*] at h; done) | (exfalso; simp_all; done)) (fun _ => ?_)
     refine ACode.skip ?_
     have hX : elemX bs d q = elemX bs d q := rfl
     conv at hX => rhs; unfold elemX
     first | rw [if_pos (show 0 < d by omega), if_pos (by assumption)] at hX | rw [if_pos (show 0 < d by omega), if_neg (by assumption)] at hX | rw [if_neg (show ¬ 0 < d by omega)] at hX
     exact kc_n (Wk.keep [(0, 0), (890, 110), (891, 111), (892, 108)] rfl rfl ⟨ks rfl (.c .bx), ks rfl .dt, ks rfl (.c .bx), ks rfl (.c .bx), ks rfl .dt, ks rfl .dt, ks rfl (.c .bx), kb 0 rfl (.dt rfl (by rw [hX]; try rfl)), kb 110 rfl (.cons (.cons .dt (.cons .dt Ctos.nil)) .nil), kb 111 rfl (.cons (.cons .dt (.cons .dt Ctos.nil)) .nil), kb 108 rfl (.cons (.cons (.dt (by rw [hX]; try rfl)) (.cons (.dt (by rw [hX]; try rfl)) Ctos.nil)) .nil), trivial⟩)
   refine ks_n ?_
   refine ACode.region ?_
   refine .cons (.fB 1 0 false rfl rfl rfl) ?_
   refine .cons (.b1 1 rfl rfl rfl rfl rfl rfl) ?_
   refine .cons (.bN 2 rfl rfl rfl rfl rfl rfl) ?_
   refine .cons (.li 28 1 0 [.tmp 48] rfl rfl rfl rfl rfl rfl) ?_
   refine .cons (St1.appN (k' := 150) (e := 28) (sz := 1) (by' := 32) rfl rfl rfl rfl rfl (by kernel_rfl) rfl rfl rfl (by simp) (by simp [dR] <;> omega) rfl rfl) ?_
   refine .cons (.fB 1 0 false rfl rfl rfl) ?_
   refine .cons (.sT 1 false rfl rfl rfl rfl rfl rfl rfl) ?_
   refine .nil ?_
   refine kb_n ?_
   refine ks_n ?_
   refine ACode.region ?_
   refine .cons (.mv rfl rfl) ?_
   refine .cons (.pl rfl rfl rfl) ?_
   refine .cons (.asg rfl rfl) ?_
   refine .nil ?_
   refine kl_k [(0, 0), (110, 890), (111, 891), (112, 150)] (.inr ⟨n - 1, (elemX bs d q).2, [(elemX bs d q).1], rfl, by simp, by simp; omega, by omega, by rw [← hE, show elemL bs d n [] q = elemL bs d (n - 1 + 1) [] q by rw [Nat.sub_add_cancel (by omega)], elemL] <;> first | rfl | simp, by intro x hx; rw [List.mem_singleton.1 hx]; exact hXp.2.2, rfl⟩) ⟨ks rfl (.c .bx), ks rfl .dt, ks rfl (.c .bx), ks rfl (.c .bx), ks rfl .dt, ks rfl .dt, kb 0 rfl (.dt rfl), kb 890 rfl (.cons (.cons .dt (.cons .dt Ctos.nil)) .nil), kb 150 rfl (.dt rfl (by first | (rw [dR_app]; simp; done) | (simp [dR]; done) | (rw [dR_app]; simp; rfl) | (simp [dR]; rfl))), kb 891 rfl (.cons (.cons .dt (.cons .ow Ctos.nil)) .nil), trivial⟩
  ·skip
   omega
 ·skip
  refine ACode.seq ?_
  refine ACode.seq ?_
  refine ACode.region ?_
  refine .cons (.mv rfl rfl) ?_
  refine .cons (.mv rfl rfl) ?_
  refine .cons (.ls rfl rfl rfl) ?_
  refine .nil ?_
  refine ks_n ?_
  refine .cD rfl (fun h19 => ?_) (fun h19 => ?_)
  ·skip
   have hXp := elemX_p bs d q
   refine ACode.skip ?_
   refine ks_n ?_
   refine ACode.seq ?_
   refine ACode.block ?_
   refine ACode.seq ?_
   refine ACode.region ?_
   refine .cons (.mv rfl rfl) ?_
   refine .cons (.li 3 0 3 [.const (.int .i64 (0)), .const (.int .i64 (1)), .const (.int .i64 (0)), .const (.int .i64 (2))] rfl rfl rfl rfl rfl rfl) ?_
   refine .cons (.cR [.tmp 22, .tmp 23] 0 rfl rfl rfl rfl (num_fn hb (by omega) [0, 1, 0, 2] (by simp)) rfl ⟨rfl, trivial⟩) ?_
   refine .cons (.cP [.tmp 24] rfl rfl rfl rfl (l1Const_fn _) rfl) ?_
   refine .cons (.al 108 [.slice none 0 0, .int .i64 0] rfl rfl rfl) ?_
   refine .cons (.sT 2 true rfl rfl rfl rfl rfl rfl rfl) ?_
   refine .nil ?_
   refine ks_n ?_
   refine ACode.seq ?_
   refine ACode.cut [(.t 0, .v (.o (.c (.box 0 2 0 0)))), (.t 1, .v (.o (nat1 (d : Nat)))), (.t 4, .v (.o (.c (.box 890 2 0 0)))), (.t 5, .v (.o (.c (.box 891 2 0 0)))), (.t 6, .v (.o (nat1 (elemN bs p : Nat)))), (.t 7, .v (.o (nat1 ((elemN bs p : Nat) - (n : Nat))))), (.t 8, .v (.o (.c (.box 893 2 0 0)))), (.b 0, .b 81 2 (dR ([rRd bs (elemX bs d q).2]))), (.u 0, .u), (.b 890, .b 25 2 [[.d (dS ByteArray.empty), .d (.val (.slice none 0 0))]]), (.u 890, .u), (.b 892, .b 28 2 (dR (xs.map rA))), (.u 892, .u), (.b 891, .b 25 2 [[.d (dS (ofV bs p [⟨#[65]⟩, ⟨#[66]⟩, ⟨#[65]⟩, ⟨#[67]⟩])), .own 892 2 (xs.length)]]), (.u 891, .u), (.b 893, .b 28 2 [[.d (dIs (elemX bs d q).1.1), .d (dI (elemX bs d q).1.2)]]), (.u 893, .u)] ?_ ?_
   ·skip
    refine ACode.seq ?_
    refine ACode.region ?_
    refine .cons (.mv rfl rfl) ?_
    refine .cons (.gt rfl rfl rfl) ?_
    refine .cons (.mv rfl rfl) ?_
    refine .cD 28 rfl (fun g28 => ?_) (fun g28 => ?_)
    ·skip
     refine .cons (.gT rfl rfl rfl (.mv rfl rfl)) ?_
     refine .cons (.gT rfl rfl rfl (.cR [.tmp 29, .const (.int .i64 (5))] 0 rfl rfl rfl rfl (pick_fn hb (by omega) 5) rfl ⟨rfl, trivial⟩)) ?_
     refine .cons (.gT rfl rfl rfl (.gt rfl rfl rfl)) ?_
     refine .cons (.pT rfl rfl rfl) ?_
     refine .nil ?_
     refine ks_n ?_
     refine ACode.condT rfl (fun h32 => ?_) (fun h32 => ?_)
     ·try simp only [zs1, zs2, zs3, zs4, zs5, zs6, zs7] at h32
      have hv := pickV_bd hb (p := q + 1 + 1) (by omega) (d : Nat)
      have hv2 := hv.2 (by omega)
      have hv : 0 ≤ pickV bs (q + 1 + 1) (d : Nat) ∧ pickV bs (q + 1 + 1) (d : Nat) < 4 := by omega
      have hm1 := numV_mem hb (p := q + 1 + 1 + 1) (by omega) (xs := [1, 1, 1, 2, -1]) (by simp)
      have hm2 := numV_mem hb (p := q + 1 + 1 + 1 + 1) (by omega) (xs := [0, 1, 0, 0, 2]) (by simp)
      simp only [List.mem_cons, List.not_mem_nil, or_false] at hm1 hm2
      have hk1 : -1000 ≤ numV bs (q + 1 + 1 + 1) [1, 1, 1, 2, -1] ∧ numV bs (q + 1 + 1 + 1) [1, 1, 1, 2, -1] ≤ 1000 := by omega
      have hk2 : -1000 ≤ numV bs (q + 1 + 1 + 1 + 1) [0, 1, 0, 0, 2] ∧ numV bs (q + 1 + 1 + 1 + 1) [0, 1, 0, 0, 2] ≤ 1000 := by omega
      refine ACode.seq ?_
      refine ACode.region ?_
      refine .cons (.mv rfl rfl) ?_
      refine .cons (.mv rfl rfl) ?_
      refine .cons (.cR [.tmp 33, .tmp 34] 0 rfl rfl rfl rfl (pick_fn hb (by omega) _) rfl ⟨rfl, trivial⟩) ?_
      refine .cons (.asg rfl rfl) ?_
      refine .nil ?_
      refine ks_n ?_
      refine ACode.region ?_
      refine .cons (.mv rfl rfl) ?_
      refine .cons (.cP [.tmp 36] rfl rfl rfl rfl (l1Var_fn _ hv) rfl) ?_
      refine .cons (.mv rfl rfl) ?_
      refine .cons (.li 3 0 4 [.const (.int .i64 (1)), .const (.int .i64 (1)), .const (.int .i64 (1)), .const (.int .i64 (2)), .const (.int .i64 (-1))] rfl rfl rfl rfl rfl rfl) ?_
      refine .cons (.cR [.tmp 38, .tmp 39] 0 rfl rfl rfl rfl (num_fn hb (by omega) [1, 1, 1, 2, -1] (by simp)) rfl ⟨rfl, trivial⟩) ?_
      refine .cons (.mv rfl rfl) ?_
      refine .cons (.li 3 0 4 [.const (.int .i64 (0)), .const (.int .i64 (1)), .const (.int .i64 (0)), .const (.int .i64 (0)), .const (.int .i64 (2))] rfl rfl rfl rfl rfl rfl) ?_
      refine .cons (.cR [.tmp 41, .tmp 42] 0 rfl rfl rfl rfl (num_fn hb (by omega) [0, 1, 0, 0, 2] (by simp)) rfl ⟨rfl, trivial⟩) ?_
      refine .cons (.cP [.tmp 43] rfl rfl rfl rfl (l1Const_fn _) rfl) ?_
      refine .cons (.cP [.tmp 37, .tmp 40, .tmp 44, .const (.int .i64 (1))] rfl rfl rfl rfl (l1Combine_fn _ _ _ 1 hk1 (by omega) (varA_sm _).1 rfl (varA_sm _).2.1 (by simp [cA]; omega) (varA_sm _).2.2 (cA_sm (by omega)).2.2) rfl) ?_
      refine .cons (.sT 2 true rfl rfl rfl rfl rfl rfl rfl) ?_
      refine .nil ?_
      have hX : elemX bs d q = elemX bs d q := rfl
      conv at hX => rhs; unfold elemX
      first | rw [if_pos (show 0 < d by omega), if_pos (by assumption)] at hX | rw [if_pos (show 0 < d by omega), if_neg (by assumption)] at hX | rw [if_neg (show ¬ 0 < d by omega)] at hX
      exact kc_n (Wk.keep [(0, 0), (890, 110), (891, 111), (892, 112), (893, 108)] rfl rfl ⟨ks rfl (.c .bx), ks rfl .dt, ks rfl (.c .bx), ks rfl (.c .bx), ks rfl .dt, ks rfl .dt, ks rfl (.c .bx), kb 0 rfl (.dt rfl (by rw [hX]; try rfl)), kb 110 rfl (.cons (.cons .dt (.cons .dt Ctos.nil)) .nil), kb 112 rfl (.dt rfl (by first | (rw [dR_app]; simp; done) | (simp [dR]; done) | (rw [dR_app]; simp; rfl) | (simp [dR]; rfl))), kb 111 rfl (.cons (.cons .dt (.cons .ow Ctos.nil)) .nil), kb 108 rfl (.cons (.cons (.dt (by rw [hX]; try rfl)) (.cons (.dt (by rw [hX]; try rfl)) Ctos.nil)) .nil), trivial⟩)
     ·try simp only [zs1, zs2, zs3, zs4, zs5, zs6, zs7] at h32
      refine ACode.skip ?_
      have hX : elemX bs d q = elemX bs d q := rfl
      conv at hX => rhs; unfold elemX
      first | rw [if_pos (show 0 < d by omega), if_pos (by assumption)] at hX | rw [if_pos (show 0 < d by omega), if_neg (by assumption)] at hX | rw [if_neg (show ¬ 0 < d by omega)] at hX
      exact kc_n (Wk.keep [(0, 0), (890, 110), (891, 111), (892, 112), (893, 108)] rfl rfl ⟨ks rfl (.c .bx), ks rfl .dt, ks rfl (.c .bx), ks rfl (.c .bx), ks rfl .dt, ks rfl .dt, ks rfl (.c .bx), kb 0 rfl (.dt rfl (by rw [hX]; try rfl)), kb 110 rfl (.cons (.cons .dt (.cons .dt Ctos.nil)) .nil), kb 112 rfl (.dt rfl (by first | (rw [dR_app]; simp; done) | (simp [dR]; done) | (rw [dR_app]; simp; rfl) | (simp [dR]; rfl))), kb 111 rfl (.cons (.cons .dt (.cons .ow Ctos.nil)) .nil), kb 108 rfl (.cons (.cons (.dt (by rw [hX]; try rfl)) (.cons (.dt (by rw [hX]; try rfl)) Ctos.nil)) .nil), trivial⟩)
    ·skip
     refine .cons (.gF rfl rfl rfl) ?_
     refine .cons (.gF rfl rfl rfl) ?_
     refine .cons (.gF rfl rfl rfl) ?_
     refine .cons (.pF rfl rfl rfl) ?_
     refine .nil ?_
     refine ks_n ?_
     refine ACode.condT rfl (fun h => by first | (cases h; done) | (simp [*] at h; done) | (exfalso; simp_all; done)) (fun _ => ?_)
     refine ACode.skip ?_
     have hX : elemX bs d q = elemX bs d q := rfl
     conv at hX => rhs; unfold elemX
     first | rw [if_pos (show 0 < d by omega), if_pos (by assumption)] at hX | rw [if_pos (show 0 < d by omega), if_neg (by assumption)] at hX | rw [if_neg (show ¬ 0 < d by omega)] at hX
     exact kc_n (Wk.keep [(0, 0), (890, 110), (891, 111), (892, 112), (893, 108)] rfl rfl ⟨ks rfl (.c .bx), ks rfl .dt, ks rfl (.c .bx), ks rfl (.c .bx), ks rfl .dt, ks rfl .dt, ks rfl (.c .bx), kb 0 rfl (.dt rfl (by rw [hX]; try rfl)), kb 110 rfl (.cons (.cons .dt (.cons .dt Ctos.nil)) .nil), kb 112 rfl (.dt rfl (by first | (rw [dR_app]; simp; done) | (simp [dR]; done) | (rw [dR_app]; simp; rfl) | (simp [dR]; rfl))), kb 111 rfl (.cons (.cons .dt (.cons .ow Ctos.nil)) .nil), kb 108 rfl (.cons (.cons (.dt (by rw [hX]; try rfl)) (.cons (.dt (by rw [hX]; try rfl)) Ctos.nil)) .nil), trivial⟩)
   refine ks_n ?_
   refine ACode.region ?_
   refine .cons (.fB 1 0 false rfl rfl rfl) ?_
   refine .cons (.b1 1 rfl rfl rfl rfl rfl rfl) ?_
   refine .cons (.bN 2 rfl rfl rfl rfl rfl rfl) ?_
   refine .cons (.li 28 1 0 [.tmp 48] rfl rfl rfl rfl rfl rfl) ?_
   refine .cons (St1.appB (k' := 150) (e := 28) (sz := 1) (by' := 32) rfl rfl rfl rfl rfl (by kernel_rfl) rfl rfl rfl rfl (by simp [dR]) (by simp [dR] <;> omega) rfl rfl rfl) ?_
   refine .cons (.fB 1 0 false rfl rfl rfl) ?_
   refine .cons (.sT 1 false rfl rfl rfl rfl rfl rfl rfl) ?_
   refine .nil ?_
   refine kb_n ?_
   refine ks_n ?_
   refine ACode.region ?_
   refine .cons (.mv rfl rfl) ?_
   refine .cons (.pl rfl rfl rfl) ?_
   refine .cons (.asg rfl rfl) ?_
   refine .nil ?_
   refine kl_k [(0, 0), (110, 890), (111, 891), (112, 150)] (.inr ⟨n - 1, (elemX bs d q).2, xs ++ [(elemX bs d q).1], rfl, by simp, by simp; omega, by omega, by rw [← hE, show elemL bs d n xs q = elemL bs d (n - 1 + 1) xs q by rw [Nat.sub_add_cancel (by omega)], elemL] <;> first | rfl | simp, by intro x hx; rcases List.mem_append.1 hx with hx | hx; exact hx4 x hx; rw [List.mem_singleton.1 hx]; exact hXp.2.2, rfl⟩) ⟨ks rfl (.c .bx), ks rfl .dt, ks rfl (.c .bx), ks rfl (.c .bx), ks rfl .dt, ks rfl .dt, kb 0 rfl (.dt rfl), kb 890 rfl (.cons (.cons .dt (.cons .dt Ctos.nil)) .nil), kb 150 rfl (.dt rfl (by first | (rw [dR_app]; simp; done) | (simp [dR]; done) | (rw [dR_app]; simp; rfl) | (simp [dR]; rfl))), kb 891 rfl (.cons (.cons .dt (.cons .ow Ctos.nil)) .nil), trivial⟩
  ·skip
   obtain rfl : n = 0 := by omega
   rw [elemL] at hE
   have hr : elemD bs d p = ((ofV bs p [⟨#[65]⟩, ⟨#[66]⟩, ⟨#[65]⟩, ⟨#[67]⟩], xs), q) := by rw [elemD, ← hE]
   rw [hr]
   refine ACode.exit ?_
   refine ks_e ?_
   refine kl_e ?_
   refine kb_hit ?_
   refine ks_n ?_
   refine ACode.seq ?_
   refine ACode.region ?_
   refine .cons (.bN 2 rfl rfl rfl rfl rfl rfl) ?_
   refine .cons (.sT 2 true rfl rfl rfl rfl rfl rfl rfl) ?_
   refine .nil ?_
   refine ks_n ?_
   refine ACode.ret ?_
   refine kf_wret [(.t 4, .v (.o (.c (.box 100 2 0 0)))), (.b 0, .b 81 2 (dR ([rRd bs q]))), (.u 0, .u), (.b 100, .b 25 2 [[.d (dS (ofV bs p [⟨#[65]⟩, ⟨#[66]⟩, ⟨#[65]⟩, ⟨#[67]⟩])), .d (dAs xs)]]), (.u 100, .u)] (Wk.keep [(0, 0), (100, 110)] rfl rfl ⟨ks rfl (.c .bx), kb 0 rfl (.dt rfl), kb 110 rfl (.cons (.cons .dt (.cons (.fz rfl rfl (by simp) (by omega)) Ctos.nil)) .nil), trivial⟩) rfl ?_ (hbR_box rfl)
   rfl

def zA0 : Aff := ([], 0)
def zC0 : Acc := (ByteArray.empty, [])
def leafD (bs : List Int) (d p : Nat) : Ex × Nat :=
  if pickV bs p 4 = 0 then (.mk 1 (numV bs (p + 1) [1, 2, 0, 99, 3]) zA0 zC0 [], p + 1 + 1)
  else if pickV bs p 4 = 1 then (.mk 2 0 (drD bs (p + 1) d).1 zC0 [], (drD bs (p + 1) d).2)
  else (.mk 3 0 zA0 (elemD bs d (p + 1)).1 [], (elemD bs d (p + 1)).2)
def leafC (bs : List Int) (d p : Nat) : Ex × Nat :=
  if pickV bs p 5 = 0 then (.mk 2 0 (cA (numV bs (p + 1) [0, 3, -2, 99])) zC0 [], p + 1 + 1)
  else if pickV bs p 5 = 1 then (.mk 3 0 zA0 (elemD bs d (p + 1)).1 [], (elemD bs d (p + 1)).2)
  else (numE (numV bs (p + 1) [0, 1, 2, 50, 99, 0, 1]), p + 1 + 1)
def kidG (f : Nat → Ex × Nat) : Nat → List Ex → Nat → List Ex × Nat
  | 0, l, p => (l, p)
  | n + 1, l, p => kidG f n (l ++ [(f p).1]) (f p).2
def nodeG (bs : List Int) (leaf : Nat → Ex × Nat) (m : Int) (ops : List Int) (f : Nat → Ex × Nat) (p : Nat) : Ex × Nat :=
  if pickV bs p m = 0 then leaf (p + 1) else (.mk (numV bs (p + 1) ops) 0 zA0 zC0 (kidG f 2 [] (p + 1 + 1)).1, (kidG f 2 [] (p + 1 + 1)).2)
def valG (bs : List Int) (leaf : Nat → Ex × Nat) (m : Int) (ops : List Int) : Nat → Nat → Ex × Nat
  | 0, p => leaf p
  | 1, p => leaf p
  | L + 2, p => nodeG bs leaf m ops (fun q => valG bs leaf m ops (L + 1) q) p
/-- Steps and sizes of draws are bounded. -/
def Bnd (f : Nat → Ex × Nat) (N : Nat) : Prop := ∀ p, p ≤ (f p).2 ∧ (f p).2 ≤ p + N ∧ szE (f p).1 ≤ N
theorem szC_elem {a : Acc} (h1 : a.1.size ≤ 2) (h : a.2.length ≤ 2) (h4 : ∀ x ∈ a.2, x.1.length = 4) : szC a ≤ 12 := by
  rw [szC, szAs]
  match hh : a.2, h with
  | [], _ => simp; try omega
  | [x], _ => have := h4 x (by rw [hh]; simp); simp [this]; try omega
  | [x, y], _ => have := h4 x (by rw [hh]; simp); have := h4 y (by rw [hh]; simp); simp [*]; try omega
theorem ofV_size (bs : List Int) (p : Nat) (xs : List ByteArray) (h : ∀ s ∈ xs, s.size ≤ 2) : (ofV bs p xs).size ≤ 2 := by
  rw [ofV, List.getD]
  cases hq : xs[(pickV bs p xs.length).toNat]? with
  | none => exact Nat.zero_le _
  | some s => exact h s (List.mem_of_getElem? hq)
theorem elemD_sz (bs : List Int) (d p : Nat) : szC (elemD bs d p).1 ≤ 12 := by
  obtain ⟨_, _, _, h2, h3⟩ := elemD_p bs d p
  exact szC_elem (ofV_size _ _ _ (by decide)) h2 h3
theorem szE_mk (k n : Int) (i : Aff) (r : Acc) (l : List Ex) : szE (.mk k n i r l) = i.1.length + szC r + l.length + szEs l := by rw [szE]
theorem drD_len (bs : List Int) (p d : Nat) : (drD bs p d).1.1.length = 4 ∧ (drD bs p d).2 = p + 1 + d := by
  obtain ⟨h1, h2⟩ := drE_len bs d 0 [0, 0, 0, 0] (p + 1)
  exact ⟨h1, h2⟩
theorem leafD_bd (bs : List Int) {d : Nat} (hd : d ≤ 4) : Bnd (leafD bs d) 14 := fun p => by
  unfold leafD
  obtain ⟨a1, a2⟩ := drD_len bs (p + 1) d
  obtain ⟨b1, b2, _⟩ := elemD_p bs d (p + 1)
  have b3 := elemD_sz bs d (p + 1)
  split
  · exact ⟨by dsimp only; omega, by dsimp only; omega, by dsimp only; rw [szE_mk]; decide⟩
  · split
    · exact ⟨by dsimp only; omega, by dsimp only; omega, by dsimp only; rw [szE_mk, a1]; decide⟩
    · exact ⟨by dsimp only; omega, by dsimp only; omega, by dsimp only; rw [szE_mk]; show 0 + szC _ + 0 + szEs [] ≤ 14; rw [szEs]; omega⟩
theorem leafC_bd (bs : List Int) (d : Nat) : Bnd (leafC bs d) 14 := fun p => by
  unfold leafC
  obtain ⟨b1, b2, _⟩ := elemD_p bs d (p + 1)
  have b3 := elemD_sz bs d (p + 1)
  split
  · exact ⟨by dsimp only; omega, by dsimp only; omega, by dsimp only; rw [szE_mk]; show 4 + szC zC0 + 0 + szEs [] ≤ 14; decide⟩
  · split
    · exact ⟨by dsimp only; omega, by dsimp only; omega, by dsimp only; rw [szE_mk]; show 0 + szC _ + 0 + szEs [] ≤ 14; rw [szEs]; omega⟩
    · exact ⟨by dsimp only; omega, by dsimp only; omega, by dsimp only; rw [numE, szE_mk]; decide⟩
theorem kidG_bd {f : Nat → Ex × Nat} {N : Nat} (hf : Bnd f N) : ∀ (n : Nat) (l : List Ex) (p : Nat), p ≤ (kidG f n l p).2 ∧ (kidG f n l p).2 ≤ p + N * n ∧ (kidG f n l p).1.length = l.length + n ∧ szEs (kidG f n l p).1 ≤ szEs l + N * n
  | 0, l, p => ⟨Nat.le_refl _, Nat.le_refl _, rfl, Nat.le_refl _⟩
  | n + 1, l, p => by
    obtain ⟨h1, h2, h3⟩ := hf p
    obtain ⟨q1, q2, q3, q4⟩ := kidG_bd hf n (l ++ [(f p).1]) (f p).2
    have key : ∀ (a : List Ex) (x : Ex), szEs (a ++ [x]) = szEs a + szE x := by
      intro a x
      induction a with
      | nil => simp [szEs]
      | cons y a ih => rw [List.cons_append, szEs, szEs, ih]; omega
    rw [key] at q4
    rw [kidG, Nat.mul_add, Nat.mul_one]
    exact ⟨by omega, by omega, by rw [q3]; simp; omega, by omega⟩
theorem nodeG_bd {bs : List Int} {leaf : Nat → Ex × Nat} {m : Int} {ops : List Int} {f : Nat → Ex × Nat} {N : Nat} (hN : 14 ≤ N) (hl : Bnd leaf 14) (hf : Bnd f N) : Bnd (nodeG bs leaf m ops f) (2 * N + 2) := fun p => by
  unfold nodeG
  obtain ⟨h1, h2, h3⟩ := hl (p + 1)
  obtain ⟨q1, q2, q3, q4⟩ := kidG_bd hf 2 [] (p + 1 + 1)
  have e0 : szEs [] = 0 := by rw [szEs]
  rw [e0] at q4
  rw [List.length_nil] at q3
  split
  · exact ⟨by omega, by omega, by omega⟩
  · refine ⟨by dsimp only; omega, by dsimp only; omega, ?_⟩
    dsimp only
    rw [szE_mk, q3]
    show 0 + 0 + (0 + 2) + szEs _ ≤ _
    omega
theorem valG_bd {bs : List Int} {leaf : Nat → Ex × Nat} {m : Int} {ops : List Int} (hl : Bnd leaf 14) : ∀ L : Nat, Bnd (valG bs leaf m ops L) (16 * 2 ^ L - 2)
  | 0 => fun p => hl p
  | 1 => fun p => by obtain ⟨h1, h2, h3⟩ := hl p; exact ⟨h1, by show (leaf p).2 ≤ _; omega, by show szE (leaf p).1 ≤ _; omega⟩
  | L + 2 => fun p => by
    have hp : 1 ≤ 2 ^ L := Nat.one_le_two_pow
    have ih := valG_bd (bs := bs) (m := m) (ops := ops) hl (L + 1)
    have h := nodeG_bd (bs := bs) (m := m) (ops := ops) (N := 16 * 2 ^ (L + 1) - 2) (by rw [Nat.pow_succ]; omega) hl ih p
    simp only [Nat.pow_succ] at h ⊢
    obtain ⟨h1, h2, h3⟩ := h
    exact ⟨h1, Nat.le_trans h2 (by omega), Nat.le_trans h3 (by omega)⟩

set_option maxRecDepth 100000 in
set_option maxHeartbeats 1600000 in
theorem l3Value_small {bs : List Int} (hb : Bytes bs) {p : Nat} (hp : p ≤ 80000000) (d : Nat) (hd : d ≤ 4) (lv : Int) (hlv : lv < 2) : Fn Tryz.prog 69 (hbR bs p) [vR, nat1 (d : Nat), nat1 lv] (.o (ad (rX (leafD bs d p).1))) (hbR bs (leafD bs d p).2) := by
 refine Fn.of_code Tryz.func69 rfl rfl (hbR_HB _ _) rfl rfl (hbR_HB _ _) rfl (hbR_num _ _ _) ?_
 refine ACode.seq ?_
 refine ACode.region ?_
 refine .cons (.al 106 [.int .i64 0, .int .i64 0, .slice none 0 0, .int .i64 0, .string ByteArray.empty, .slice none 0 0, .slice none 0 0] rfl rfl rfl) ?_
 refine .nil ?_
 refine ks_n ?_
 refine ACode.seq ?_
 refine ACode.seq ?_
 refine ACode.region ?_
 refine .cons (.mv rfl rfl) ?_
 refine .cons (.ls rfl rfl rfl) ?_
 refine .cons (.mv rfl rfl) ?_
 refine .cD 11 rfl (fun g11 => ?_) (fun g11 => ?_)
 ·skip
  refine .cons (.gF rfl rfl rfl) ?_
  refine .cons (.gF rfl rfl rfl) ?_
  refine .cons (.gF rfl rfl rfl) ?_
  refine .cons (.pT rfl rfl rfl) ?_
  refine .nil ?_
  refine ks_n ?_
  refine ACode.condT rfl (fun _ => ?_) (fun h => by first | (cases h; done) | (simp [*] at h; done) | (exfalso; simp_all; done))
  refine ACode.seq ?_
  refine ACode.seq ?_
  obtain ⟨r, hr⟩ : ∃ r, r = leafD bs d p := ⟨_, rfl⟩
  rw [← hr]
  have hR := hr
  unfold leafD at hR
  refine ACode.region ?_
  refine .cons (.mv rfl rfl) ?_
  refine .cons (.cR [.tmp 16, .const (.int .i64 (4))] 0 rfl rfl rfl rfl (pick_fn hb (by omega) 4) rfl ⟨rfl, trivial⟩) ?_
  refine .nil ?_
  refine ks_n ?_
  refine ACode.block ?_
  refine ACode.seq ?_
  refine ACode.region ?_
  refine .cons (.eq rfl rfl rfl) ?_
  refine .cons (.asg rfl rfl) ?_
  refine .nil ?_
  refine ks_n ?_
  refine .cD rfl (fun h18 => ?_) (fun h18 => ?_)
  ·skip
   refine ACode.seq ?_
   refine ACode.region ?_
   refine .cons (.mv rfl rfl) ?_
   refine .cons (.li 3 0 4 [.const (.int .i64 (1)), .const (.int .i64 (2)), .const (.int .i64 (0)), .const (.int .i64 (99)), .const (.int .i64 (3))] rfl rfl rfl rfl rfl rfl) ?_
   refine .cons (.cR [.tmp 20, .tmp 21] 0 rfl rfl rfl rfl (num_fn hb (by omega) [1, 2, 0, 99, 3] (by simp)) rfl ⟨rfl, trivial⟩) ?_
   refine .cons (.bu [(0, .const (.int .i64 (1))), (1, .tmp 22)] [(0, 1), (1, 1), (2, 2), (4, 2), (6, 1)] [.int .i64 0, .int .i64 0, .slice none 0 0, .int .i64 0, .string ByteArray.empty, .slice none 0 0, .slice none 0 0] rfl rfl rfl rfl rfl) ?_
   refine .cons (.sT 7 true rfl rfl rfl rfl rfl rfl rfl) ?_
   refine .nil ?_
   refine ks_n ?_
   refine ACode.ret ?_
   refine kb_r ?_
   refine ks_r ?_
   refine ks_r ?_
   first | rw [if_pos (by assumption)] at hR | rw [if_neg (by assumption), if_pos (by assumption)] at hR | rw [if_neg (by assumption), if_neg (by assumption)] at hR
   refine kf_wret [(.t 6, .v (.o (.c (.box 100 7 0 0)))), (.b 0, .b 81 2 (dR ([rRd bs r.2]))), (.u 0, .u), (.b 100, .b 31 7 [[.d (dI r.1.k), .d (dI r.1.n), .d (dIs r.1.i.1), .d (dI r.1.i.2), .d (dS r.1.r.1), .d (dAs r.1.r.2), .d (dEs r.1.ks)]]), (.u 100, .u)] (Wk.keep [(0, 0), (100, 106)] rfl rfl ⟨ks rfl (.c .bx), kb 0 rfl (.dt rfl (by first | rfl | (rw [hR]; done) | (rw [hR]; rfl))), kb 106 rfl (.cons (.cons (.dt (by first | rfl | (rw [hR]; done) | (rw [hR]; rfl))) (.cons (.dt (by first | rfl | (rw [hR]; done) | (rw [hR]; rfl))) (.cons (Cto.nilE 1 (by first | rfl | (rw [hR]; done) | (rw [hR]; rfl))) (.cons (.dt (by first | rfl | (rw [hR]; done) | (rw [hR]; rfl))) (.cons (.dt (by first | rfl | (rw [hR]; done) | (rw [hR]; rfl))) (.cons (Cto.nilE 2 (by first | rfl | (rw [hR]; done) | (rw [hR]; rfl))) (.cons (Cto.nilE 7 (by first | rfl | (rw [hR]; done) | (rw [hR]; rfl))) Ctos.nil))))))) .nil), trivial⟩) rfl ?_ (hbR_box rfl)
   rfl
  ·skip
   refine ACode.seq ?_
   refine ACode.region ?_
   refine .cons (.eq rfl rfl rfl) ?_
   refine .cons (.asg rfl rfl) ?_
   refine .nil ?_
   refine ks_n ?_
   refine .cD rfl (fun h24 => ?_) (fun h24 => ?_)
   ·skip
    refine ACode.seq ?_
    refine ACode.region ?_
    refine .cons (.mv rfl rfl) ?_
    refine .cons (.mv rfl rfl) ?_
    refine .cons (.cR [.tmp 26, .tmp 27] 0 rfl rfl rfl rfl (l1Draw_fn hb (by omega) d hd) rfl ⟨rfl, trivial⟩) ?_
    refine .cons (.bu [(0, .const (.int .i64 (2))), (2, .tmp 28)] [(0, 1), (1, 1), (2, 2), (4, 2), (6, 1)] [.int .i64 0, .int .i64 0, .slice none 0 0, .int .i64 0, .string ByteArray.empty, .slice none 0 0, .slice none 0 0] rfl rfl rfl rfl rfl) ?_
    refine .cons (.sT 7 true rfl rfl rfl rfl rfl rfl rfl) ?_
    refine .nil ?_
    refine ks_n ?_
    refine ACode.ret ?_
    refine kb_r ?_
    refine ks_r ?_
    refine ks_r ?_
    first | rw [if_pos (by assumption)] at hR | rw [if_neg (by assumption), if_pos (by assumption)] at hR | rw [if_neg (by assumption), if_neg (by assumption)] at hR
    refine kf_wret [(.t 6, .v (.o (.c (.box 100 7 0 0)))), (.b 0, .b 81 2 (dR ([rRd bs r.2]))), (.u 0, .u), (.b 100, .b 31 7 [[.d (dI r.1.k), .d (dI r.1.n), .d (dIs r.1.i.1), .d (dI r.1.i.2), .d (dS r.1.r.1), .d (dAs r.1.r.2), .d (dEs r.1.ks)]]), (.u 100, .u)] (Wk.keep [(0, 0), (100, 106)] rfl rfl ⟨ks rfl (.c .bx), kb 0 rfl (.dt rfl (by first | rfl | (rw [hR]; done) | (rw [hR]; rfl))), kb 106 rfl (.cons (.cons (.dt (by first | rfl | (rw [hR]; done) | (rw [hR]; rfl))) (.cons (.dt (by first | rfl | (rw [hR]; done) | (rw [hR]; rfl))) (.cons (.dt (by first | rfl | (rw [hR]; done) | (rw [hR]; rfl))) (.cons (.dt (by first | rfl | (rw [hR]; done) | (rw [hR]; rfl))) (.cons (.dt (by first | rfl | (rw [hR]; done) | (rw [hR]; rfl))) (.cons (Cto.nilE 2 (by first | rfl | (rw [hR]; done) | (rw [hR]; rfl))) (.cons (Cto.nilE 7 (by first | rfl | (rw [hR]; done) | (rw [hR]; rfl))) Ctos.nil))))))) .nil), trivial⟩) rfl ?_ (hbR_box rfl)
    rfl
   ·skip
    refine ACode.skip ?_
    refine kb_n ?_
    refine ks_n ?_
    refine ACode.seq ?_
    refine ACode.region ?_
    refine .cons (.mv rfl rfl) ?_
    refine .cons (.mv rfl rfl) ?_
    refine .cons (.cR [.tmp 30, .tmp 31] 0 rfl rfl rfl rfl (l3Elem_fn hb (by omega) d hd) rfl ⟨rfl, trivial⟩) ?_
    refine .cons (.bu [(0, .const (.int .i64 (3))), (3, .tmp 32)] [(0, 1), (1, 1), (2, 2), (4, 2), (6, 1)] [.int .i64 0, .int .i64 0, .slice none 0 0, .int .i64 0, .string ByteArray.empty, .slice none 0 0, .slice none 0 0] rfl rfl rfl rfl rfl) ?_
    refine .cons (.sT 7 true rfl rfl rfl rfl rfl rfl rfl) ?_
    refine .nil ?_
    refine ks_n ?_
    refine ACode.ret ?_
    refine ks_r ?_
    first | rw [if_pos (by assumption)] at hR | rw [if_neg (by assumption), if_pos (by assumption)] at hR | rw [if_neg (by assumption), if_neg (by assumption)] at hR
    refine kf_wret [(.t 6, .v (.o (.c (.box 100 7 0 0)))), (.b 0, .b 81 2 (dR ([rRd bs r.2]))), (.u 0, .u), (.b 100, .b 31 7 [[.d (dI r.1.k), .d (dI r.1.n), .d (dIs r.1.i.1), .d (dI r.1.i.2), .d (dS r.1.r.1), .d (dAs r.1.r.2), .d (dEs r.1.ks)]]), (.u 100, .u)] (Wk.keep [(0, 0), (100, 106)] rfl rfl ⟨ks rfl (.c .bx), kb 0 rfl (.dt rfl (by first | rfl | (rw [hR]; done) | (rw [hR]; rfl))), kb 106 rfl (.cons (.cons (.dt (by first | rfl | (rw [hR]; done) | (rw [hR]; rfl))) (.cons (.dt (by first | rfl | (rw [hR]; done) | (rw [hR]; rfl))) (.cons (Cto.nilE 1 (by first | rfl | (rw [hR]; done) | (rw [hR]; rfl))) (.cons (.dt (by first | rfl | (rw [hR]; done) | (rw [hR]; rfl))) (.cons (.dt (by first | rfl | (rw [hR]; done) | (rw [hR]; rfl))) (.cons (.dt (by first | rfl | (rw [hR]; done) | (rw [hR]; rfl))) (.cons (Cto.nilE 7 (by first | rfl | (rw [hR]; done) | (rw [hR]; rfl))) Ctos.nil))))))) .nil), trivial⟩) rfl ?_ (hbR_box rfl)
    rfl
 ·skip
  exact absurd hlv g11

set_option maxRecDepth 100000 in
set_option maxHeartbeats 1600000 in
theorem l3Value_big {bs : List Int} (hb : Bytes bs) {p : Nat} (d : Nat) (hd : d ≤ 4) (lv : Int) (hlv : ¬ lv < 2) (hlv2 : lv ≤ 100) {f : Nat → Ex × Nat} {N : Nat} (hf : Bnd f N) (hp : p + 2 * N + 4 ≤ 70000000) (ih : ∀ q, q + N + 2 ≤ 70000000 → Fn Tryz.prog 69 (hbR bs q) [vR, nat1 (d : Nat), nat1 (lv - 1)] (.o (ad (rX (f q).1))) (hbR bs (f q).2)) : Fn Tryz.prog 69 (hbR bs p) [vR, nat1 (d : Nat), nat1 lv] (.o (ad (rX (nodeG bs (leafD bs d) 4 [4, 6, 5, 4] f p).1))) (hbR bs (nodeG bs (leafD bs d) 4 [4, 6, 5, 4] f p).2) := by
 refine Fn.of_code Tryz.func69 rfl rfl (hbR_HB _ _) rfl rfl (hbR_HB _ _) rfl (hbR_num _ _ _) ?_
 refine ACode.seq ?_
 refine ACode.region ?_
 refine .cons (.al 106 [.int .i64 0, .int .i64 0, .slice none 0 0, .int .i64 0, .string ByteArray.empty, .slice none 0 0, .slice none 0 0] rfl rfl rfl) ?_
 refine .nil ?_
 refine ks_n ?_
 refine ACode.seq ?_
 refine ACode.seq ?_
 refine ACode.region ?_
 refine .cons (.mv rfl rfl) ?_
 refine .cons (.ls rfl rfl rfl) ?_
 refine .cons (.mv rfl rfl) ?_
 refine .cD 11 rfl (fun g11 => ?_) (fun g11 => ?_)
 ·skip
  exact absurd g11 hlv
 ·skip
  refine .cons (.gT rfl rfl rfl (.mv rfl rfl)) ?_
  refine .cons (.gT rfl rfl rfl (.cR [.tmp 12, .const (.int .i64 (4))] 0 rfl rfl rfl rfl (pick_fn hb (by omega) 4) rfl ⟨rfl, trivial⟩)) ?_
  refine .cons (.gT rfl rfl rfl (.eq rfl rfl rfl)) ?_
  refine .cons (.pF rfl rfl rfl) ?_
  refine .nil ?_
  refine ks_n ?_
  refine ACode.condT rfl (fun h15 => ?_) (fun h15 => ?_)
  ·try simp only [zs1, zs2, zs3, zs4, zs5, zs6, zs7] at h15
   refine ACode.seq ?_
   refine ACode.seq ?_
   obtain ⟨r, hr⟩ : ∃ r, r = nodeG bs (leafD bs d) 4 [4, 6, 5, 4] f p := ⟨_, rfl⟩
   rw [← hr]
   have hR := hr
   unfold nodeG at hR
   rw [if_pos h15] at hR
   unfold leafD at hR
   refine ACode.region ?_
   refine .cons (.mv rfl rfl) ?_
   refine .cons (.cR [.tmp 16, .const (.int .i64 (4))] 0 rfl rfl rfl rfl (pick_fn hb (by omega) 4) rfl ⟨rfl, trivial⟩) ?_
   refine .nil ?_
   refine ks_n ?_
   refine ACode.block ?_
   refine ACode.seq ?_
   refine ACode.region ?_
   refine .cons (.eq rfl rfl rfl) ?_
   refine .cons (.asg rfl rfl) ?_
   refine .nil ?_
   refine ks_n ?_
   refine .cD rfl (fun h18 => ?_) (fun h18 => ?_)
   ·skip
    refine ACode.seq ?_
    refine ACode.region ?_
    refine .cons (.mv rfl rfl) ?_
    refine .cons (.li 3 0 4 [.const (.int .i64 (1)), .const (.int .i64 (2)), .const (.int .i64 (0)), .const (.int .i64 (99)), .const (.int .i64 (3))] rfl rfl rfl rfl rfl rfl) ?_
    refine .cons (.cR [.tmp 20, .tmp 21] 0 rfl rfl rfl rfl (num_fn hb (by omega) [1, 2, 0, 99, 3] (by simp)) rfl ⟨rfl, trivial⟩) ?_
    refine .cons (.bu [(0, .const (.int .i64 (1))), (1, .tmp 22)] [(0, 1), (1, 1), (2, 2), (4, 2), (6, 1)] [.int .i64 0, .int .i64 0, .slice none 0 0, .int .i64 0, .string ByteArray.empty, .slice none 0 0, .slice none 0 0] rfl rfl rfl rfl rfl) ?_
    refine .cons (.sT 7 true rfl rfl rfl rfl rfl rfl rfl) ?_
    refine .nil ?_
    refine ks_n ?_
    refine ACode.ret ?_
    refine kb_r ?_
    refine ks_r ?_
    refine ks_r ?_
    first | rw [if_pos (by assumption)] at hR | rw [if_neg (by assumption), if_pos (by assumption)] at hR | rw [if_neg (by assumption), if_neg (by assumption)] at hR | skip
    refine kf_wret [(.t 6, .v (.o (.c (.box 100 7 0 0)))), (.b 0, .b 81 2 (dR ([rRd bs r.2]))), (.u 0, .u), (.b 100, .b 31 7 [[.d (dI r.1.k), .d (dI r.1.n), .d (dIs r.1.i.1), .d (dI r.1.i.2), .d (dS r.1.r.1), .d (dAs r.1.r.2), .d (dEs r.1.ks)]]), (.u 100, .u)] (Wk.keep [(0, 0), (100, 106)] rfl rfl ⟨ks rfl (.c .bx), kb 0 rfl (.dt rfl (by first | rfl | (rw [hR]; done) | (rw [hR]; rfl))), kb 106 rfl (.cons (.cons (.dt (by first | rfl | (rw [hR]; done) | (rw [hR]; rfl))) (.cons (.dt (by first | rfl | (rw [hR]; done) | (rw [hR]; rfl))) (.cons (Cto.nilE 1 (by first | rfl | (rw [hR]; done) | (rw [hR]; rfl))) (.cons (.dt (by first | rfl | (rw [hR]; done) | (rw [hR]; rfl))) (.cons (.dt (by first | rfl | (rw [hR]; done) | (rw [hR]; rfl))) (.cons (Cto.nilE 2 (by first | rfl | (rw [hR]; done) | (rw [hR]; rfl))) (.cons (Cto.nilE 7 (by first | rfl | (rw [hR]; done) | (rw [hR]; rfl))) Ctos.nil))))))) .nil), trivial⟩) rfl ?_ (hbR_box rfl)
    rfl
   ·skip
    refine ACode.seq ?_
    refine ACode.region ?_
    refine .cons (.eq rfl rfl rfl) ?_
    refine .cons (.asg rfl rfl) ?_
    refine .nil ?_
    refine ks_n ?_
    refine .cD rfl (fun h24 => ?_) (fun h24 => ?_)
    ·skip
     refine ACode.seq ?_
     refine ACode.region ?_
     refine .cons (.mv rfl rfl) ?_
     refine .cons (.mv rfl rfl) ?_
     refine .cons (.cR [.tmp 26, .tmp 27] 0 rfl rfl rfl rfl (l1Draw_fn hb (by omega) d hd) rfl ⟨rfl, trivial⟩) ?_
     refine .cons (.bu [(0, .const (.int .i64 (2))), (2, .tmp 28)] [(0, 1), (1, 1), (2, 2), (4, 2), (6, 1)] [.int .i64 0, .int .i64 0, .slice none 0 0, .int .i64 0, .string ByteArray.empty, .slice none 0 0, .slice none 0 0] rfl rfl rfl rfl rfl) ?_
     refine .cons (.sT 7 true rfl rfl rfl rfl rfl rfl rfl) ?_
     refine .nil ?_
     refine ks_n ?_
     refine ACode.ret ?_
     refine kb_r ?_
     refine ks_r ?_
     refine ks_r ?_
     first | rw [if_pos (by assumption)] at hR | rw [if_neg (by assumption), if_pos (by assumption)] at hR | rw [if_neg (by assumption), if_neg (by assumption)] at hR | skip
     refine kf_wret [(.t 6, .v (.o (.c (.box 100 7 0 0)))), (.b 0, .b 81 2 (dR ([rRd bs r.2]))), (.u 0, .u), (.b 100, .b 31 7 [[.d (dI r.1.k), .d (dI r.1.n), .d (dIs r.1.i.1), .d (dI r.1.i.2), .d (dS r.1.r.1), .d (dAs r.1.r.2), .d (dEs r.1.ks)]]), (.u 100, .u)] (Wk.keep [(0, 0), (100, 106)] rfl rfl ⟨ks rfl (.c .bx), kb 0 rfl (.dt rfl (by first | rfl | (rw [hR]; done) | (rw [hR]; rfl))), kb 106 rfl (.cons (.cons (.dt (by first | rfl | (rw [hR]; done) | (rw [hR]; rfl))) (.cons (.dt (by first | rfl | (rw [hR]; done) | (rw [hR]; rfl))) (.cons (.dt (by first | rfl | (rw [hR]; done) | (rw [hR]; rfl))) (.cons (.dt (by first | rfl | (rw [hR]; done) | (rw [hR]; rfl))) (.cons (.dt (by first | rfl | (rw [hR]; done) | (rw [hR]; rfl))) (.cons (Cto.nilE 2 (by first | rfl | (rw [hR]; done) | (rw [hR]; rfl))) (.cons (Cto.nilE 7 (by first | rfl | (rw [hR]; done) | (rw [hR]; rfl))) Ctos.nil))))))) .nil), trivial⟩) rfl ?_ (hbR_box rfl)
     rfl
    ·skip
     refine ACode.skip ?_
     refine kb_n ?_
     refine ks_n ?_
     refine ACode.seq ?_
     refine ACode.region ?_
     refine .cons (.mv rfl rfl) ?_
     refine .cons (.mv rfl rfl) ?_
     refine .cons (.cR [.tmp 30, .tmp 31] 0 rfl rfl rfl rfl (l3Elem_fn hb (by omega) d hd) rfl ⟨rfl, trivial⟩) ?_
     refine .cons (.bu [(0, .const (.int .i64 (3))), (3, .tmp 32)] [(0, 1), (1, 1), (2, 2), (4, 2), (6, 1)] [.int .i64 0, .int .i64 0, .slice none 0 0, .int .i64 0, .string ByteArray.empty, .slice none 0 0, .slice none 0 0] rfl rfl rfl rfl rfl) ?_
     refine .cons (.sT 7 true rfl rfl rfl rfl rfl rfl rfl) ?_
     refine .nil ?_
     refine ks_n ?_
     refine ACode.ret ?_
     refine ks_r ?_
     first | rw [if_pos (by assumption)] at hR | rw [if_neg (by assumption), if_pos (by assumption)] at hR | rw [if_neg (by assumption), if_neg (by assumption)] at hR | skip
     refine kf_wret [(.t 6, .v (.o (.c (.box 100 7 0 0)))), (.b 0, .b 81 2 (dR ([rRd bs r.2]))), (.u 0, .u), (.b 100, .b 31 7 [[.d (dI r.1.k), .d (dI r.1.n), .d (dIs r.1.i.1), .d (dI r.1.i.2), .d (dS r.1.r.1), .d (dAs r.1.r.2), .d (dEs r.1.ks)]]), (.u 100, .u)] (Wk.keep [(0, 0), (100, 106)] rfl rfl ⟨ks rfl (.c .bx), kb 0 rfl (.dt rfl (by first | rfl | (rw [hR]; done) | (rw [hR]; rfl))), kb 106 rfl (.cons (.cons (.dt (by first | rfl | (rw [hR]; done) | (rw [hR]; rfl))) (.cons (.dt (by first | rfl | (rw [hR]; done) | (rw [hR]; rfl))) (.cons (Cto.nilE 1 (by first | rfl | (rw [hR]; done) | (rw [hR]; rfl))) (.cons (.dt (by first | rfl | (rw [hR]; done) | (rw [hR]; rfl))) (.cons (.dt (by first | rfl | (rw [hR]; done) | (rw [hR]; rfl))) (.cons (.dt (by first | rfl | (rw [hR]; done) | (rw [hR]; rfl))) (.cons (Cto.nilE 7 (by first | rfl | (rw [hR]; done) | (rw [hR]; rfl))) Ctos.nil))))))) .nil), trivial⟩) rfl ?_ (hbR_box rfl)
     rfl
  ·try simp only [zs1, zs2, zs3, zs4, zs5, zs6, zs7] at h15
   refine ACode.skip ?_
   refine ks_n ?_
   refine ACode.seq ?_
   obtain ⟨r, hr⟩ : ∃ r, r = nodeG bs (leafD bs d) 4 [4, 6, 5, 4] f p := ⟨_, rfl⟩
   rw [← hr]
   have hR := hr
   unfold nodeG at hR
   rw [if_neg h15] at hR
   refine ACode.region ?_
   refine .cons (.mv rfl rfl) ?_
   refine .cons (.li 3 0 3 [.const (.int .i64 (4)), .const (.int .i64 (6)), .const (.int .i64 (5)), .const (.int .i64 (4))] rfl rfl rfl rfl rfl rfl) ?_
   refine .cons (.cR [.tmp 34, .tmp 35] 0 rfl rfl rfl rfl (num_fn hb (by omega) [4, 6, 5, 4] (by simp)) rfl ⟨rfl, trivial⟩) ?_
   refine .cons (.bu [(0, .tmp 36)] [(0, 1), (1, 1), (2, 2), (4, 2), (6, 1)] [.int .i64 0, .int .i64 0, .slice none 0 0, .int .i64 0, .string ByteArray.empty, .slice none 0 0, .slice none 0 0] rfl rfl rfl rfl rfl) ?_
   refine .cons (.al 107 [.int .i64 0, .int .i64 0, .slice none 0 0, .int .i64 0, .string ByteArray.empty, .slice none 0 0, .slice none 0 0] rfl rfl rfl) ?_
   refine .cons (.sT 7 true rfl rfl rfl rfl rfl rfl rfl) ?_
   refine .nil ?_
   refine ks_n ?_
   refine ACode.seq ?_
   refine ACode.seq ?_
   refine ACode.region ?_
   refine .cons (.asg rfl rfl) ?_
   refine .nil ?_
   refine ks_n ?_
   refine ACode.block ?_
   refine .loopK (fun m σ => (∃ (n q : Nat), m = n + 0 ∧ (n = 2) ∧ (q = p + 1 + 1) ∧ (kidG f n [] q = kidG f 2 [] (p + 1 + 1)) ∧ σ = [(.t 0, .v (.o (.c (.box 0 2 0 0)))), (.t 1, .v (.o (nat1 (d : Nat)))), (.t 2, .v (.o (nat1 lv))), (.t 6, .v (.o (.c (.box 110 7 0 0)))), (.t 7, .v (.o (.c (.box 111 7 0 0)))), (.t 8, .v (.o (nat1 (2 - (n : Nat))))), (.b 0, .b 81 2 (dR ([rRd bs q]))), (.u 0, .u), (.b 110, .b 31 7 [[.d (dI 0), .d (dI 0), .d (.val (.slice none 0 0)), .d (dI 0), .d (dS ByteArray.empty), .d (.val (.slice none 0 0)), .d (.val (.slice none 0 0))]]), (.u 110, .u), (.b 111, .b 31 7 [[.d (dI (numV bs (p + 1) [4, 6, 5, 4])), .d (dI 0), .d (.val (.slice none 0 0)), .d (dI 0), .d (dS ByteArray.empty), .d (.val (.slice none 0 0)), .d (.val (.slice none 0 0))]]), (.u 111, .u)]) ∨ (∃ (n q : Nat) (l : List Ex), m = n + 0 ∧ (0 < l.length) ∧ (l.length + n = 2) ∧ (q ≤ p + 2 + 2 * N ∧ (n = 1 → q ≤ p + 2 + N)) ∧ (kidG f n l q = kidG f 2 [] (p + 1 + 1)) ∧ σ = [(.t 0, .v (.o (.c (.box 0 2 0 0)))), (.t 1, .v (.o (nat1 (d : Nat)))), (.t 2, .v (.o (nat1 lv))), (.t 6, .v (.o (.c (.box 110 7 0 0)))), (.t 7, .v (.o (.c (.box 111 7 0 0)))), (.t 8, .v (.o (nat1 (2 - (n : Nat))))), (.b 0, .b 81 2 (dR ([rRd bs q]))), (.u 0, .u), (.b 110, .b 31 7 [[.d (dI 0), .d (dI 0), .d (.val (.slice none 0 0)), .d (dI 0), .d (dS ByteArray.empty), .d (.val (.slice none 0 0)), .d (.val (.slice none 0 0))]]), (.u 110, .u), (.b 112, .b 31 7 (dR (l.map rE))), (.u 112, .u), (.b 111, .b 31 7 [[.d (dI (numV bs (p + 1) [4, 6, 5, 4])), .d (dI 0), .d (.val (.slice none 0 0)), .d (dI 0), .d (dS ByteArray.empty), .d (.val (.slice none 0 0)), .own 112 7 (l.length)]]), (.u 111, .u)])) [(0, 0), (110, 106), (111, 107)] (.inl ⟨2, p + 1 + 1, rfl, rfl, rfl, rfl, rfl⟩) ⟨ks rfl (.c .bx), ks rfl .dt, ks rfl .dt, ks rfl (.c .bx), ks rfl (.c .bx), ks rfl .dt, kb 0 rfl (.dt rfl), kb 106 rfl (.cons (.cons .dt (.cons .dt (.cons .dt (.cons .dt (.cons .dt (.cons .dt (.cons .dt Ctos.nil))))))) .nil), kb 107 rfl (.cons (.cons .dt (.cons .dt (.cons .dt (.cons .dt (.cons .dt (.cons .dt (.cons .dt Ctos.nil))))))) .nil), trivial⟩ ?_
   rintro m σ (⟨n, q, hm0, hn, hq, hE, rfl⟩ | ⟨n, q, l, hm0, hl0, hln, hq, hE, rfl⟩)
   ·skip
    refine ACode.seq ?_
    refine ACode.seq ?_
    refine ACode.region ?_
    refine .cons (.mv rfl rfl) ?_
    refine .cons (.ls rfl rfl rfl) ?_
    refine .nil ?_
    refine ks_n ?_
    refine .cD rfl (fun h39 => ?_) (fun h39 => ?_)
    ·skip
     obtain ⟨f1, f2, f3⟩ := hf q
     refine ACode.skip ?_
     refine ks_n ?_
     refine ACode.seq ?_
     refine ACode.block ?_
     refine ACode.drawK (by kernel_rfl) (by kernel_rfl) ?_
     refine .cons (.fB 6 0 false rfl rfl rfl) ?_
     refine .cons (.b1 1 rfl rfl rfl rfl rfl rfl) ?_
     refine .cons (.mv rfl rfl) ?_
     refine .cons (.mv rfl rfl) ?_
     refine .cons (.mv rfl rfl) ?_
     refine .cons (.sb rfl rfl rfl) ?_
     refine .cons (.cR [.tmp 44, .tmp 45, .tmp 47] 0 rfl rfl rfl rfl (ih q (by omega)) rfl ⟨rfl, trivial⟩) ?_
     refine .cons (.li 31 6 0 [.tmp 48] rfl rfl rfl rfl rfl rfl) ?_
     refine .cons (St1.appN (k' := 150) (e := 31) (sz := 6) (by' := 112) rfl rfl rfl rfl rfl (by kernel_rfl) rfl rfl rfl (by simp) (by simp [dR] <;> omega) rfl rfl) ?_
     refine .cons (.fB 6 0 false rfl rfl rfl) ?_
     refine .cons (.sT 1 false rfl rfl rfl rfl rfl rfl rfl) ?_
     refine .nil ⟨by kernel_rfl, ?_⟩
     refine kb_n ?_
     refine ks_n ?_
     refine ACode.region ?_
     refine .cons (.mv rfl rfl) ?_
     refine .cons (.pl rfl rfl rfl) ?_
     refine .cons (.asg rfl rfl) ?_
     refine .nil ?_
     refine kl_k [(0, 0), (110, 110), (111, 111), (112, 150)] (.inr ⟨n - 1, (f q).2, [(f q).1], rfl, by simp, by simp; omega, by omega, by rw [← hE, show kidG f n [] q = kidG f (n - 1 + 1) [] q by rw [Nat.sub_add_cancel (by omega)], kidG] <;> first | rfl | simp, rfl⟩) ⟨ks rfl (.c .bx), ks rfl .dt, ks rfl .dt, ks rfl (.c .bx), ks rfl (.c .bx), ks rfl .dt, kb 0 rfl (.dt rfl), kb 110 rfl (.cons (.cons .dt (.cons .dt (.cons .dt (.cons .dt (.cons .dt (.cons .dt (.cons .dt Ctos.nil))))))) .nil), kb 150 rfl (.dt rfl (by first | (rw [← rE_one, dR_app, ← List.map_append]; done) | (rw [← rE_one]; simp [dR]; done) | (simp [dR, rE_eq]; done) | (simp [dR, rE_eq]; rfl))), kb 111 rfl (.cons (.cons .dt (.cons .dt (.cons .dt (.cons .dt (.cons .dt (.cons .dt (.cons .ow Ctos.nil))))))) .nil), trivial⟩
    ·skip
     omega
   ·skip
    refine ACode.seq ?_
    refine ACode.seq ?_
    refine ACode.region ?_
    refine .cons (.mv rfl rfl) ?_
    refine .cons (.ls rfl rfl rfl) ?_
    refine .nil ?_
    refine ks_n ?_
    refine .cD rfl (fun h39 => ?_) (fun h39 => ?_)
    ·skip
     obtain ⟨f1, f2, f3⟩ := hf q
     refine ACode.skip ?_
     refine ks_n ?_
     refine ACode.seq ?_
     refine ACode.block ?_
     refine ACode.drawK (by kernel_rfl) (by kernel_rfl) ?_
     refine .cons (.fB 6 0 false rfl rfl rfl) ?_
     refine .cons (.b1 1 rfl rfl rfl rfl rfl rfl) ?_
     refine .cons (.mv rfl rfl) ?_
     refine .cons (.mv rfl rfl) ?_
     refine .cons (.mv rfl rfl) ?_
     refine .cons (.sb rfl rfl rfl) ?_
     refine .cons (.cR [.tmp 44, .tmp 45, .tmp 47] 0 rfl rfl rfl rfl (ih q (by omega)) rfl ⟨rfl, trivial⟩) ?_
     refine .cons (.li 31 6 0 [.tmp 48] rfl rfl rfl rfl rfl rfl) ?_
     refine .cons (St1.appB (k' := 150) (e := 31) (sz := 6) (by' := 112) rfl rfl rfl rfl rfl (by kernel_rfl) rfl rfl rfl rfl (by simp [dR]) (by simp [dR] <;> omega) rfl rfl rfl) ?_
     refine .cons (.fB 6 0 false rfl rfl rfl) ?_
     refine .cons (.sT 1 false rfl rfl rfl rfl rfl rfl rfl) ?_
     refine .nil ⟨by kernel_rfl, ?_⟩
     refine kb_n ?_
     refine ks_n ?_
     refine ACode.region ?_
     refine .cons (.mv rfl rfl) ?_
     refine .cons (.pl rfl rfl rfl) ?_
     refine .cons (.asg rfl rfl) ?_
     refine .nil ?_
     refine kl_k [(0, 0), (110, 110), (111, 111), (112, 150)] (.inr ⟨n - 1, (f q).2, l ++ [(f q).1], rfl, by simp, by simp; omega, by omega, by rw [← hE, show kidG f n l q = kidG f (n - 1 + 1) l q by rw [Nat.sub_add_cancel (by omega)], kidG] <;> first | rfl | simp, rfl⟩) ⟨ks rfl (.c .bx), ks rfl .dt, ks rfl .dt, ks rfl (.c .bx), ks rfl (.c .bx), ks rfl .dt, kb 0 rfl (.dt rfl), kb 110 rfl (.cons (.cons .dt (.cons .dt (.cons .dt (.cons .dt (.cons .dt (.cons .dt (.cons .dt Ctos.nil))))))) .nil), kb 150 rfl (.dt rfl (by first | (rw [← rE_one, dR_app, ← List.map_append]; done) | (rw [← rE_one]; simp [dR]; done) | (simp [dR, rE_eq]; done) | (simp [dR, rE_eq]; rfl))), kb 111 rfl (.cons (.cons .dt (.cons .dt (.cons .dt (.cons .dt (.cons .dt (.cons .dt (.cons .ow Ctos.nil))))))) .nil), trivial⟩
    ·skip
     obtain rfl : n = 0 := by omega
     rw [kidG] at hE
     rw [← hE] at hR
     refine ACode.exit ?_
     refine ks_e ?_
     refine kl_e ?_
     refine kb_hit ?_
     refine ks_n ?_
     refine ACode.seq ?_
     refine ACode.region ?_
     refine .cons (.bN 7 rfl rfl rfl rfl rfl rfl) ?_
     refine .cons (.sT 7 true rfl rfl rfl rfl rfl rfl rfl) ?_
     refine .nil ?_
     refine ks_n ?_
     refine ACode.ret ?_
     first | rw [if_pos (by assumption)] at hR | rw [if_neg (by assumption), if_pos (by assumption)] at hR | rw [if_neg (by assumption), if_neg (by assumption)] at hR | skip
     refine kf_wret [(.t 6, .v (.o (.c (.box 100 7 0 0)))), (.b 0, .b 81 2 (dR ([rRd bs r.2]))), (.u 0, .u), (.b 100, .b 31 7 [[.d (dI r.1.k), .d (dI r.1.n), .d (dIs r.1.i.1), .d (dI r.1.i.2), .d (dS r.1.r.1), .d (dAs r.1.r.2), .d (dEs r.1.ks)]]), (.u 100, .u)] (Wk.keep [(0, 0), (100, 110)] rfl rfl ⟨ks rfl (.c .bx), kb 0 rfl (.dt rfl (by first | rfl | (rw [hR]; done) | (rw [hR]; rfl))), kb 110 rfl (.cons (.cons (.dt (by first | rfl | (rw [hR]; done) | (rw [hR]; rfl))) (.cons (.dt (by first | rfl | (rw [hR]; done) | (rw [hR]; rfl))) (.cons (Cto.nilE 1 (by first | rfl | (rw [hR]; done) | (rw [hR]; rfl))) (.cons (.dt (by first | rfl | (rw [hR]; done) | (rw [hR]; rfl))) (.cons (.dt (by first | rfl | (rw [hR]; done) | (rw [hR]; rfl))) (.cons (Cto.nilE 2 (by first | rfl | (rw [hR]; done) | (rw [hR]; rfl))) (.cons (.fz rfl (by first | rfl | (rw [hR]; done) | (rw [hR]; rfl)) (by rw [hR, List.length_map]; try rfl) (by omega)) Ctos.nil))))))) .nil), trivial⟩) rfl ?_ (hbR_box rfl)
     rfl

theorem l3Value_fn {bs : List Int} (hb : Bytes bs) (d : Nat) (hd : d ≤ 4) : ∀ (L : Nat) (lv : Int) (p : Nat), lv = (L : Int) → L ≤ 10 → p + 16 * 2 ^ L ≤ 70000000 → Fn Tryz.prog 69 (hbR bs p) [vR, nat1 (d : Nat), nat1 lv] (.o (ad (rX (valG bs (leafD bs d) 4 [4, 6, 5, 4] L p).1))) (hbR bs (valG bs (leafD bs d) 4 [4, 6, 5, 4] L p).2)
  | 0, lv, p, hl, hL, hp => l3Value_small hb (by omega) d hd lv (by omega)
  | 1, lv, p, hl, hL, hp => l3Value_small hb (by omega) d hd lv (by omega)
  | L + 2, lv, p, hl, hL, hp => l3Value_big hb d hd lv (by omega) (by omega) (valG_bd (bs := bs) (m := 4) (ops := [4, 6, 5, 4]) (leafD_bd bs hd) (L + 1)) (by have : 1 ≤ 2 ^ L := Nat.one_le_two_pow; simp only [Nat.pow_succ] at hp ⊢; omega) fun q hq => l3Value_fn hb d hd (L + 1) (lv - 1) q (by omega) (by omega) (by have : 1 ≤ 2 ^ L := Nat.one_le_two_pow; simp only [Nat.pow_succ] at hp hq ⊢; omega)

set_option maxRecDepth 100000 in
set_option maxHeartbeats 1600000 in
theorem l13Value_small {bs : List Int} (hb : Bytes bs) {p : Nat} (hp : p ≤ 80000000) (d : Nat) (hd : d ≤ 4) (lv : Int) (hlv : lv < 2) : Fn Tryz.prog 46 (hbR bs p) [vR, nat1 (d : Nat), nat1 lv] (.o (ad (rX (leafC bs d p).1))) (hbR bs (leafC bs d p).2) := by
 refine Fn.of_code Tryz.func46 rfl rfl (hbR_HB _ _) rfl rfl (hbR_HB _ _) rfl (hbR_num _ _ _) ?_
 refine ACode.seq ?_
 refine ACode.region ?_
 refine .cons (.al 106 [.int .i64 0, .int .i64 0, .slice none 0 0, .int .i64 0, .string ByteArray.empty, .slice none 0 0, .slice none 0 0] rfl rfl rfl) ?_
 refine .nil ?_
 refine ks_n ?_
 refine ACode.seq ?_
 refine ACode.seq ?_
 refine ACode.region ?_
 refine .cons (.mv rfl rfl) ?_
 refine .cons (.ls rfl rfl rfl) ?_
 refine .cons (.mv rfl rfl) ?_
 refine .cD 11 rfl (fun g11 => ?_) (fun g11 => ?_)
 ·skip
  refine .cons (.gF rfl rfl rfl) ?_
  refine .cons (.gF rfl rfl rfl) ?_
  refine .cons (.gF rfl rfl rfl) ?_
  refine .cons (.pT rfl rfl rfl) ?_
  refine .nil ?_
  refine ks_n ?_
  refine ACode.condT rfl (fun _ => ?_) (fun h => by first | (cases h; done) | (simp [*] at h; done) | (exfalso; simp_all; done))
  refine ACode.seq ?_
  refine ACode.seq ?_
  obtain ⟨r, hr⟩ : ∃ r, r = leafC bs d p := ⟨_, rfl⟩
  rw [← hr]
  have hR := hr
  unfold leafC at hR
  refine ACode.region ?_
  refine .cons (.mv rfl rfl) ?_
  refine .cons (.cR [.tmp 16, .const (.int .i64 (5))] 0 rfl rfl rfl rfl (pick_fn hb (by omega) 5) rfl ⟨rfl, trivial⟩) ?_
  refine .nil ?_
  refine ks_n ?_
  refine ACode.block ?_
  refine ACode.seq ?_
  refine ACode.region ?_
  refine .cons (.eq rfl rfl rfl) ?_
  refine .cons (.asg rfl rfl) ?_
  refine .nil ?_
  refine ks_n ?_
  refine .cD rfl (fun h18 => ?_) (fun h18 => ?_)
  ·skip
   refine ACode.seq ?_
   refine ACode.region ?_
   refine .cons (.mv rfl rfl) ?_
   refine .cons (.li 3 0 3 [.const (.int .i64 (0)), .const (.int .i64 (3)), .const (.int .i64 (-2)), .const (.int .i64 (99))] rfl rfl rfl rfl rfl rfl) ?_
   refine .cons (.cR [.tmp 20, .tmp 21] 0 rfl rfl rfl rfl (num_fn hb (by omega) [0, 3, -2, 99] (by simp)) rfl ⟨rfl, trivial⟩) ?_
   refine .cons (.cP [.tmp 22] rfl rfl rfl rfl (l1Const_fn _) rfl) ?_
   refine .cons (.bu [(0, .const (.int .i64 (2))), (2, .tmp 23)] [(0, 1), (1, 1), (2, 2), (4, 2), (6, 1)] [.int .i64 0, .int .i64 0, .slice none 0 0, .int .i64 0, .string ByteArray.empty, .slice none 0 0, .slice none 0 0] rfl rfl rfl rfl rfl) ?_
   refine .cons (.sT 7 true rfl rfl rfl rfl rfl rfl rfl) ?_
   refine .nil ?_
   refine ks_n ?_
   refine ACode.ret ?_
   refine kb_r ?_
   refine ks_r ?_
   refine ks_r ?_
   first | rw [if_pos (by assumption)] at hR | rw [if_neg (by assumption), if_pos (by assumption)] at hR | rw [if_neg (by assumption), if_neg (by assumption)] at hR
   refine kf_wret [(.t 6, .v (.o (.c (.box 100 7 0 0)))), (.b 0, .b 81 2 (dR ([rRd bs r.2]))), (.u 0, .u), (.b 100, .b 31 7 [[.d (dI r.1.k), .d (dI r.1.n), .d (dIs r.1.i.1), .d (dI r.1.i.2), .d (dS r.1.r.1), .d (dAs r.1.r.2), .d (dEs r.1.ks)]]), (.u 100, .u)] (Wk.keep [(0, 0), (100, 106)] rfl rfl ⟨ks rfl (.c .bx), kb 0 rfl (.dt rfl (by first | rfl | (rw [hR]; done) | (rw [hR]; rfl))), kb 106 rfl (.cons (.cons (.dt (by first | rfl | (rw [hR]; done) | (rw [hR]; rfl))) (.cons (.dt (by first | rfl | (rw [hR]; done) | (rw [hR]; rfl))) (.cons (.dt (by first | rfl | (rw [hR]; done) | (rw [hR]; rfl))) (.cons (.dt (by first | rfl | (rw [hR]; done) | (rw [hR]; rfl))) (.cons (.dt (by first | rfl | (rw [hR]; done) | (rw [hR]; rfl))) (.cons (Cto.nilE 2 (by first | rfl | (rw [hR]; done) | (rw [hR]; rfl))) (.cons (Cto.nilE 7 (by first | rfl | (rw [hR]; done) | (rw [hR]; rfl))) Ctos.nil))))))) .nil), trivial⟩) rfl ?_ (hbR_box rfl)
   rfl
  ·skip
   refine ACode.seq ?_
   refine ACode.region ?_
   refine .cons (.eq rfl rfl rfl) ?_
   refine .cons (.asg rfl rfl) ?_
   refine .nil ?_
   refine ks_n ?_
   refine .cD rfl (fun h25 => ?_) (fun h25 => ?_)
   ·skip
    refine ACode.seq ?_
    refine ACode.region ?_
    refine .cons (.mv rfl rfl) ?_
    refine .cons (.mv rfl rfl) ?_
    refine .cons (.cR [.tmp 27, .tmp 28] 0 rfl rfl rfl rfl (l3Elem_fn hb (by omega) d hd) rfl ⟨rfl, trivial⟩) ?_
    refine .cons (.bu [(0, .const (.int .i64 (3))), (3, .tmp 29)] [(0, 1), (1, 1), (2, 2), (4, 2), (6, 1)] [.int .i64 0, .int .i64 0, .slice none 0 0, .int .i64 0, .string ByteArray.empty, .slice none 0 0, .slice none 0 0] rfl rfl rfl rfl rfl) ?_
    refine .cons (.sT 7 true rfl rfl rfl rfl rfl rfl rfl) ?_
    refine .nil ?_
    refine ks_n ?_
    refine ACode.ret ?_
    refine kb_r ?_
    refine ks_r ?_
    refine ks_r ?_
    first | rw [if_pos (by assumption)] at hR | rw [if_neg (by assumption), if_pos (by assumption)] at hR | rw [if_neg (by assumption), if_neg (by assumption)] at hR
    refine kf_wret [(.t 6, .v (.o (.c (.box 100 7 0 0)))), (.b 0, .b 81 2 (dR ([rRd bs r.2]))), (.u 0, .u), (.b 100, .b 31 7 [[.d (dI r.1.k), .d (dI r.1.n), .d (dIs r.1.i.1), .d (dI r.1.i.2), .d (dS r.1.r.1), .d (dAs r.1.r.2), .d (dEs r.1.ks)]]), (.u 100, .u)] (Wk.keep [(0, 0), (100, 106)] rfl rfl ⟨ks rfl (.c .bx), kb 0 rfl (.dt rfl (by first | rfl | (rw [hR]; done) | (rw [hR]; rfl))), kb 106 rfl (.cons (.cons (.dt (by first | rfl | (rw [hR]; done) | (rw [hR]; rfl))) (.cons (.dt (by first | rfl | (rw [hR]; done) | (rw [hR]; rfl))) (.cons (Cto.nilE 1 (by first | rfl | (rw [hR]; done) | (rw [hR]; rfl))) (.cons (.dt (by first | rfl | (rw [hR]; done) | (rw [hR]; rfl))) (.cons (.dt (by first | rfl | (rw [hR]; done) | (rw [hR]; rfl))) (.cons (.dt (by first | rfl | (rw [hR]; done) | (rw [hR]; rfl))) (.cons (Cto.nilE 7 (by first | rfl | (rw [hR]; done) | (rw [hR]; rfl))) Ctos.nil))))))) .nil), trivial⟩) rfl ?_ (hbR_box rfl)
    rfl
   ·skip
    refine ACode.skip ?_
    refine kb_n ?_
    refine ks_n ?_
    refine ACode.seq ?_
    refine ACode.region ?_
    refine .cons (.mv rfl rfl) ?_
    refine .cons (.li 3 0 6 [.const (.int .i64 (0)), .const (.int .i64 (1)), .const (.int .i64 (2)), .const (.int .i64 (50)), .const (.int .i64 (99)), .const (.int .i64 (0)), .const (.int .i64 (1))] rfl rfl rfl rfl rfl rfl) ?_
    refine .cons (.cR [.tmp 31, .tmp 32] 0 rfl rfl rfl rfl (num_fn hb (by omega) [0, 1, 2, 50, 99, 0, 1] (by simp)) rfl ⟨rfl, trivial⟩) ?_
    refine .cons (.cP [.tmp 33] rfl rfl rfl rfl (l13Num_fn _) rfl) ?_
    refine .cons (.sT 7 true rfl rfl rfl rfl rfl rfl rfl) ?_
    refine .nil ?_
    refine ks_n ?_
    refine ACode.ret ?_
    refine ks_r ?_
    first | rw [if_pos (by assumption)] at hR | rw [if_neg (by assumption), if_pos (by assumption)] at hR | rw [if_neg (by assumption), if_neg (by assumption)] at hR
    refine kf_wret [(.t 6, .v (.o (.c (.box 100 7 0 0)))), (.b 0, .b 81 2 (dR ([rRd bs r.2]))), (.u 0, .u), (.b 100, .b 31 7 [[.d (dI r.1.k), .d (dI r.1.n), .d (dIs r.1.i.1), .d (dI r.1.i.2), .d (dS r.1.r.1), .d (dAs r.1.r.2), .d (dEs r.1.ks)]]), (.u 100, .u)] (Wk.keep [(0, 0), (100, 106)] rfl rfl ⟨ks rfl (.c .bx), kb 0 rfl (.dt rfl (by first | rfl | (rw [hR]; done) | (rw [hR]; rfl))), kb 106 rfl (.cons (.cons (.dt (by first | rfl | (rw [hR]; done) | (rw [hR]; rfl))) (.cons (.dt (by first | rfl | (rw [hR]; done) | (rw [hR]; rfl))) (.cons (.dt (by first | rfl | (rw [hR]; done) | (rw [hR]; rfl))) (.cons (.dt (by first | rfl | (rw [hR]; done) | (rw [hR]; rfl))) (.cons (.dt (by first | rfl | (rw [hR]; done) | (rw [hR]; rfl))) (.cons (.dt (by first | rfl | (rw [hR]; done) | (rw [hR]; rfl))) (.cons (.dt (by first | rfl | (rw [hR]; done) | (rw [hR]; rfl))) Ctos.nil))))))) .nil), trivial⟩) rfl ?_ (hbR_box rfl)
    rfl
 ·skip
  exact absurd hlv g11

set_option maxRecDepth 100000 in
set_option maxHeartbeats 1600000 in
theorem l13Value_big {bs : List Int} (hb : Bytes bs) {p : Nat} (d : Nat) (hd : d ≤ 4) (lv : Int) (hlv : ¬ lv < 2) (hlv2 : lv ≤ 100) {f : Nat → Ex × Nat} {N : Nat} (hf : Bnd f N) (hp : p + 2 * N + 4 ≤ 70000000) (ih : ∀ q, q + N + 2 ≤ 70000000 → Fn Tryz.prog 46 (hbR bs q) [vR, nat1 (d : Nat), nat1 (lv - 1)] (.o (ad (rX (f q).1))) (hbR bs (f q).2)) : Fn Tryz.prog 46 (hbR bs p) [vR, nat1 (d : Nat), nat1 lv] (.o (ad (rX (nodeG bs (leafC bs d) 5 [4, 6, 5] f p).1))) (hbR bs (nodeG bs (leafC bs d) 5 [4, 6, 5] f p).2) := by
 refine Fn.of_code Tryz.func46 rfl rfl (hbR_HB _ _) rfl rfl (hbR_HB _ _) rfl (hbR_num _ _ _) ?_
 refine ACode.seq ?_
 refine ACode.region ?_
 refine .cons (.al 106 [.int .i64 0, .int .i64 0, .slice none 0 0, .int .i64 0, .string ByteArray.empty, .slice none 0 0, .slice none 0 0] rfl rfl rfl) ?_
 refine .nil ?_
 refine ks_n ?_
 refine ACode.seq ?_
 refine ACode.seq ?_
 refine ACode.region ?_
 refine .cons (.mv rfl rfl) ?_
 refine .cons (.ls rfl rfl rfl) ?_
 refine .cons (.mv rfl rfl) ?_
 refine .cD 11 rfl (fun g11 => ?_) (fun g11 => ?_)
 ·skip
  exact absurd g11 hlv
 ·skip
  refine .cons (.gT rfl rfl rfl (.mv rfl rfl)) ?_
  refine .cons (.gT rfl rfl rfl (.cR [.tmp 12, .const (.int .i64 (5))] 0 rfl rfl rfl rfl (pick_fn hb (by omega) 5) rfl ⟨rfl, trivial⟩)) ?_
  refine .cons (.gT rfl rfl rfl (.eq rfl rfl rfl)) ?_
  refine .cons (.pF rfl rfl rfl) ?_
  refine .nil ?_
  refine ks_n ?_
  refine ACode.condT rfl (fun h15 => ?_) (fun h15 => ?_)
  ·try simp only [zs1, zs2, zs3, zs4, zs5, zs6, zs7] at h15
   refine ACode.seq ?_
   refine ACode.seq ?_
   obtain ⟨r, hr⟩ : ∃ r, r = nodeG bs (leafC bs d) 5 [4, 6, 5] f p := ⟨_, rfl⟩
   rw [← hr]
   have hR := hr
   unfold nodeG at hR
   rw [if_pos h15] at hR
   unfold leafC at hR
   refine ACode.region ?_
   refine .cons (.mv rfl rfl) ?_
   refine .cons (.cR [.tmp 16, .const (.int .i64 (5))] 0 rfl rfl rfl rfl (pick_fn hb (by omega) 5) rfl ⟨rfl, trivial⟩) ?_
   refine .nil ?_
   refine ks_n ?_
   refine ACode.block ?_
   refine ACode.seq ?_
   refine ACode.region ?_
   refine .cons (.eq rfl rfl rfl) ?_
   refine .cons (.asg rfl rfl) ?_
   refine .nil ?_
   refine ks_n ?_
   refine .cD rfl (fun h18 => ?_) (fun h18 => ?_)
   ·skip
    refine ACode.seq ?_
    refine ACode.region ?_
    refine .cons (.mv rfl rfl) ?_
    refine .cons (.li 3 0 3 [.const (.int .i64 (0)), .const (.int .i64 (3)), .const (.int .i64 (-2)), .const (.int .i64 (99))] rfl rfl rfl rfl rfl rfl) ?_
    refine .cons (.cR [.tmp 20, .tmp 21] 0 rfl rfl rfl rfl (num_fn hb (by omega) [0, 3, -2, 99] (by simp)) rfl ⟨rfl, trivial⟩) ?_
    refine .cons (.cP [.tmp 22] rfl rfl rfl rfl (l1Const_fn _) rfl) ?_
    refine .cons (.bu [(0, .const (.int .i64 (2))), (2, .tmp 23)] [(0, 1), (1, 1), (2, 2), (4, 2), (6, 1)] [.int .i64 0, .int .i64 0, .slice none 0 0, .int .i64 0, .string ByteArray.empty, .slice none 0 0, .slice none 0 0] rfl rfl rfl rfl rfl) ?_
    refine .cons (.sT 7 true rfl rfl rfl rfl rfl rfl rfl) ?_
    refine .nil ?_
    refine ks_n ?_
    refine ACode.ret ?_
    refine kb_r ?_
    refine ks_r ?_
    refine ks_r ?_
    first | rw [if_pos (by assumption)] at hR | rw [if_neg (by assumption), if_pos (by assumption)] at hR | rw [if_neg (by assumption), if_neg (by assumption)] at hR | skip
    refine kf_wret [(.t 6, .v (.o (.c (.box 100 7 0 0)))), (.b 0, .b 81 2 (dR ([rRd bs r.2]))), (.u 0, .u), (.b 100, .b 31 7 [[.d (dI r.1.k), .d (dI r.1.n), .d (dIs r.1.i.1), .d (dI r.1.i.2), .d (dS r.1.r.1), .d (dAs r.1.r.2), .d (dEs r.1.ks)]]), (.u 100, .u)] (Wk.keep [(0, 0), (100, 106)] rfl rfl ⟨ks rfl (.c .bx), kb 0 rfl (.dt rfl (by first | rfl | (rw [hR]; done) | (rw [hR]; rfl))), kb 106 rfl (.cons (.cons (.dt (by first | rfl | (rw [hR]; done) | (rw [hR]; rfl))) (.cons (.dt (by first | rfl | (rw [hR]; done) | (rw [hR]; rfl))) (.cons (.dt (by first | rfl | (rw [hR]; done) | (rw [hR]; rfl))) (.cons (.dt (by first | rfl | (rw [hR]; done) | (rw [hR]; rfl))) (.cons (.dt (by first | rfl | (rw [hR]; done) | (rw [hR]; rfl))) (.cons (Cto.nilE 2 (by first | rfl | (rw [hR]; done) | (rw [hR]; rfl))) (.cons (Cto.nilE 7 (by first | rfl | (rw [hR]; done) | (rw [hR]; rfl))) Ctos.nil))))))) .nil), trivial⟩) rfl ?_ (hbR_box rfl)
    rfl
   ·skip
    refine ACode.seq ?_
    refine ACode.region ?_
    refine .cons (.eq rfl rfl rfl) ?_
    refine .cons (.asg rfl rfl) ?_
    refine .nil ?_
    refine ks_n ?_
    refine .cD rfl (fun h25 => ?_) (fun h25 => ?_)
    ·skip
     refine ACode.seq ?_
     refine ACode.region ?_
     refine .cons (.mv rfl rfl) ?_
     refine .cons (.mv rfl rfl) ?_
     refine .cons (.cR [.tmp 27, .tmp 28] 0 rfl rfl rfl rfl (l3Elem_fn hb (by omega) d hd) rfl ⟨rfl, trivial⟩) ?_
     refine .cons (.bu [(0, .const (.int .i64 (3))), (3, .tmp 29)] [(0, 1), (1, 1), (2, 2), (4, 2), (6, 1)] [.int .i64 0, .int .i64 0, .slice none 0 0, .int .i64 0, .string ByteArray.empty, .slice none 0 0, .slice none 0 0] rfl rfl rfl rfl rfl) ?_
     refine .cons (.sT 7 true rfl rfl rfl rfl rfl rfl rfl) ?_
     refine .nil ?_
     refine ks_n ?_
     refine ACode.ret ?_
     refine kb_r ?_
     refine ks_r ?_
     refine ks_r ?_
     first | rw [if_pos (by assumption)] at hR | rw [if_neg (by assumption), if_pos (by assumption)] at hR | rw [if_neg (by assumption), if_neg (by assumption)] at hR | skip
     refine kf_wret [(.t 6, .v (.o (.c (.box 100 7 0 0)))), (.b 0, .b 81 2 (dR ([rRd bs r.2]))), (.u 0, .u), (.b 100, .b 31 7 [[.d (dI r.1.k), .d (dI r.1.n), .d (dIs r.1.i.1), .d (dI r.1.i.2), .d (dS r.1.r.1), .d (dAs r.1.r.2), .d (dEs r.1.ks)]]), (.u 100, .u)] (Wk.keep [(0, 0), (100, 106)] rfl rfl ⟨ks rfl (.c .bx), kb 0 rfl (.dt rfl (by first | rfl | (rw [hR]; done) | (rw [hR]; rfl))), kb 106 rfl (.cons (.cons (.dt (by first | rfl | (rw [hR]; done) | (rw [hR]; rfl))) (.cons (.dt (by first | rfl | (rw [hR]; done) | (rw [hR]; rfl))) (.cons (Cto.nilE 1 (by first | rfl | (rw [hR]; done) | (rw [hR]; rfl))) (.cons (.dt (by first | rfl | (rw [hR]; done) | (rw [hR]; rfl))) (.cons (.dt (by first | rfl | (rw [hR]; done) | (rw [hR]; rfl))) (.cons (.dt (by first | rfl | (rw [hR]; done) | (rw [hR]; rfl))) (.cons (Cto.nilE 7 (by first | rfl | (rw [hR]; done) | (rw [hR]; rfl))) Ctos.nil))))))) .nil), trivial⟩) rfl ?_ (hbR_box rfl)
     rfl
    ·skip
     refine ACode.skip ?_
     refine kb_n ?_
     refine ks_n ?_
     refine ACode.seq ?_
     refine ACode.region ?_
     refine .cons (.mv rfl rfl) ?_
     refine .cons (.li 3 0 6 [.const (.int .i64 (0)), .const (.int .i64 (1)), .const (.int .i64 (2)), .const (.int .i64 (50)), .const (.int .i64 (99)), .const (.int .i64 (0)), .const (.int .i64 (1))] rfl rfl rfl rfl rfl rfl) ?_
     refine .cons (.cR [.tmp 31, .tmp 32] 0 rfl rfl rfl rfl (num_fn hb (by omega) [0, 1, 2, 50, 99, 0, 1] (by simp)) rfl ⟨rfl, trivial⟩) ?_
     refine .cons (.cP [.tmp 33] rfl rfl rfl rfl (l13Num_fn _) rfl) ?_
     refine .cons (.sT 7 true rfl rfl rfl rfl rfl rfl rfl) ?_
     refine .nil ?_
     refine ks_n ?_
     refine ACode.ret ?_
     refine ks_r ?_
     first | rw [if_pos (by assumption)] at hR | rw [if_neg (by assumption), if_pos (by assumption)] at hR | rw [if_neg (by assumption), if_neg (by assumption)] at hR | skip
     refine kf_wret [(.t 6, .v (.o (.c (.box 100 7 0 0)))), (.b 0, .b 81 2 (dR ([rRd bs r.2]))), (.u 0, .u), (.b 100, .b 31 7 [[.d (dI r.1.k), .d (dI r.1.n), .d (dIs r.1.i.1), .d (dI r.1.i.2), .d (dS r.1.r.1), .d (dAs r.1.r.2), .d (dEs r.1.ks)]]), (.u 100, .u)] (Wk.keep [(0, 0), (100, 106)] rfl rfl ⟨ks rfl (.c .bx), kb 0 rfl (.dt rfl (by first | rfl | (rw [hR]; done) | (rw [hR]; rfl))), kb 106 rfl (.cons (.cons (.dt (by first | rfl | (rw [hR]; done) | (rw [hR]; rfl))) (.cons (.dt (by first | rfl | (rw [hR]; done) | (rw [hR]; rfl))) (.cons (.dt (by first | rfl | (rw [hR]; done) | (rw [hR]; rfl))) (.cons (.dt (by first | rfl | (rw [hR]; done) | (rw [hR]; rfl))) (.cons (.dt (by first | rfl | (rw [hR]; done) | (rw [hR]; rfl))) (.cons (.dt (by first | rfl | (rw [hR]; done) | (rw [hR]; rfl))) (.cons (.dt (by first | rfl | (rw [hR]; done) | (rw [hR]; rfl))) Ctos.nil))))))) .nil), trivial⟩) rfl ?_ (hbR_box rfl)
     rfl
  ·try simp only [zs1, zs2, zs3, zs4, zs5, zs6, zs7] at h15
   refine ACode.skip ?_
   refine ks_n ?_
   refine ACode.seq ?_
   obtain ⟨r, hr⟩ : ∃ r, r = nodeG bs (leafC bs d) 5 [4, 6, 5] f p := ⟨_, rfl⟩
   rw [← hr]
   have hR := hr
   unfold nodeG at hR
   rw [if_neg h15] at hR
   refine ACode.region ?_
   refine .cons (.mv rfl rfl) ?_
   refine .cons (.li 3 0 2 [.const (.int .i64 (4)), .const (.int .i64 (6)), .const (.int .i64 (5))] rfl rfl rfl rfl rfl rfl) ?_
   refine .cons (.cR [.tmp 35, .tmp 36] 0 rfl rfl rfl rfl (num_fn hb (by omega) [4, 6, 5] (by simp)) rfl ⟨rfl, trivial⟩) ?_
   refine .cons (.bu [(0, .tmp 37)] [(0, 1), (1, 1), (2, 2), (4, 2), (6, 1)] [.int .i64 0, .int .i64 0, .slice none 0 0, .int .i64 0, .string ByteArray.empty, .slice none 0 0, .slice none 0 0] rfl rfl rfl rfl rfl) ?_
   refine .cons (.al 107 [.int .i64 0, .int .i64 0, .slice none 0 0, .int .i64 0, .string ByteArray.empty, .slice none 0 0, .slice none 0 0] rfl rfl rfl) ?_
   refine .cons (.sT 7 true rfl rfl rfl rfl rfl rfl rfl) ?_
   refine .nil ?_
   refine ks_n ?_
   refine ACode.seq ?_
   refine ACode.seq ?_
   refine ACode.region ?_
   refine .cons (.asg rfl rfl) ?_
   refine .nil ?_
   refine ks_n ?_
   refine ACode.block ?_
   refine .loopK (fun m σ => (∃ (n q : Nat), m = n + 0 ∧ (n = 2) ∧ (q = p + 1 + 1) ∧ (kidG f n [] q = kidG f 2 [] (p + 1 + 1)) ∧ σ = [(.t 0, .v (.o (.c (.box 0 2 0 0)))), (.t 1, .v (.o (nat1 (d : Nat)))), (.t 2, .v (.o (nat1 lv))), (.t 6, .v (.o (.c (.box 110 7 0 0)))), (.t 7, .v (.o (.c (.box 111 7 0 0)))), (.t 8, .v (.o (nat1 (2 - (n : Nat))))), (.b 0, .b 81 2 (dR ([rRd bs q]))), (.u 0, .u), (.b 110, .b 31 7 [[.d (dI 0), .d (dI 0), .d (.val (.slice none 0 0)), .d (dI 0), .d (dS ByteArray.empty), .d (.val (.slice none 0 0)), .d (.val (.slice none 0 0))]]), (.u 110, .u), (.b 111, .b 31 7 [[.d (dI (numV bs (p + 1) [4, 6, 5])), .d (dI 0), .d (.val (.slice none 0 0)), .d (dI 0), .d (dS ByteArray.empty), .d (.val (.slice none 0 0)), .d (.val (.slice none 0 0))]]), (.u 111, .u)]) ∨ (∃ (n q : Nat) (l : List Ex), m = n + 0 ∧ (0 < l.length) ∧ (l.length + n = 2) ∧ (q ≤ p + 2 + 2 * N ∧ (n = 1 → q ≤ p + 2 + N)) ∧ (kidG f n l q = kidG f 2 [] (p + 1 + 1)) ∧ σ = [(.t 0, .v (.o (.c (.box 0 2 0 0)))), (.t 1, .v (.o (nat1 (d : Nat)))), (.t 2, .v (.o (nat1 lv))), (.t 6, .v (.o (.c (.box 110 7 0 0)))), (.t 7, .v (.o (.c (.box 111 7 0 0)))), (.t 8, .v (.o (nat1 (2 - (n : Nat))))), (.b 0, .b 81 2 (dR ([rRd bs q]))), (.u 0, .u), (.b 110, .b 31 7 [[.d (dI 0), .d (dI 0), .d (.val (.slice none 0 0)), .d (dI 0), .d (dS ByteArray.empty), .d (.val (.slice none 0 0)), .d (.val (.slice none 0 0))]]), (.u 110, .u), (.b 112, .b 31 7 (dR (l.map rE))), (.u 112, .u), (.b 111, .b 31 7 [[.d (dI (numV bs (p + 1) [4, 6, 5])), .d (dI 0), .d (.val (.slice none 0 0)), .d (dI 0), .d (dS ByteArray.empty), .d (.val (.slice none 0 0)), .own 112 7 (l.length)]]), (.u 111, .u)])) [(0, 0), (110, 106), (111, 107)] (.inl ⟨2, p + 1 + 1, rfl, rfl, rfl, rfl, rfl⟩) ⟨ks rfl (.c .bx), ks rfl .dt, ks rfl .dt, ks rfl (.c .bx), ks rfl (.c .bx), ks rfl .dt, kb 0 rfl (.dt rfl), kb 106 rfl (.cons (.cons .dt (.cons .dt (.cons .dt (.cons .dt (.cons .dt (.cons .dt (.cons .dt Ctos.nil))))))) .nil), kb 107 rfl (.cons (.cons .dt (.cons .dt (.cons .dt (.cons .dt (.cons .dt (.cons .dt (.cons .dt Ctos.nil))))))) .nil), trivial⟩ ?_
   rintro m σ (⟨n, q, hm0, hn, hq, hE, rfl⟩ | ⟨n, q, l, hm0, hl0, hln, hq, hE, rfl⟩)
   ·skip
    refine ACode.seq ?_
    refine ACode.seq ?_
    refine ACode.region ?_
    refine .cons (.mv rfl rfl) ?_
    refine .cons (.ls rfl rfl rfl) ?_
    refine .nil ?_
    refine ks_n ?_
    refine .cD rfl (fun h40 => ?_) (fun h40 => ?_)
    ·skip
     obtain ⟨f1, f2, f3⟩ := hf q
     refine ACode.skip ?_
     refine ks_n ?_
     refine ACode.seq ?_
     refine ACode.block ?_
     refine ACode.drawK (by kernel_rfl) (by kernel_rfl) ?_
     refine .cons (.fB 6 0 false rfl rfl rfl) ?_
     refine .cons (.b1 1 rfl rfl rfl rfl rfl rfl) ?_
     refine .cons (.mv rfl rfl) ?_
     refine .cons (.mv rfl rfl) ?_
     refine .cons (.mv rfl rfl) ?_
     refine .cons (.sb rfl rfl rfl) ?_
     refine .cons (.cR [.tmp 45, .tmp 46, .tmp 48] 0 rfl rfl rfl rfl (ih q (by omega)) rfl ⟨rfl, trivial⟩) ?_
     refine .cons (.li 31 6 0 [.tmp 49] rfl rfl rfl rfl rfl rfl) ?_
     refine .cons (St1.appN (k' := 151) (e := 31) (sz := 6) (by' := 112) rfl rfl rfl rfl rfl (by kernel_rfl) rfl rfl rfl (by simp) (by simp [dR] <;> omega) rfl rfl) ?_
     refine .cons (.fB 6 0 false rfl rfl rfl) ?_
     refine .cons (.sT 1 false rfl rfl rfl rfl rfl rfl rfl) ?_
     refine .nil ⟨by kernel_rfl, ?_⟩
     refine kb_n ?_
     refine ks_n ?_
     refine ACode.region ?_
     refine .cons (.mv rfl rfl) ?_
     refine .cons (.pl rfl rfl rfl) ?_
     refine .cons (.asg rfl rfl) ?_
     refine .nil ?_
     refine kl_k [(0, 0), (110, 110), (111, 111), (112, 151)] (.inr ⟨n - 1, (f q).2, [(f q).1], rfl, by simp, by simp; omega, by omega, by rw [← hE, show kidG f n [] q = kidG f (n - 1 + 1) [] q by rw [Nat.sub_add_cancel (by omega)], kidG] <;> first | rfl | simp, rfl⟩) ⟨ks rfl (.c .bx), ks rfl .dt, ks rfl .dt, ks rfl (.c .bx), ks rfl (.c .bx), ks rfl .dt, kb 0 rfl (.dt rfl), kb 110 rfl (.cons (.cons .dt (.cons .dt (.cons .dt (.cons .dt (.cons .dt (.cons .dt (.cons .dt Ctos.nil))))))) .nil), kb 151 rfl (.dt rfl (by first | (rw [← rE_one, dR_app, ← List.map_append]; done) | (rw [← rE_one]; simp [dR]; done) | (simp [dR, rE_eq]; done) | (simp [dR, rE_eq]; rfl))), kb 111 rfl (.cons (.cons .dt (.cons .dt (.cons .dt (.cons .dt (.cons .dt (.cons .dt (.cons .ow Ctos.nil))))))) .nil), trivial⟩
    ·skip
     omega
   ·skip
    refine ACode.seq ?_
    refine ACode.seq ?_
    refine ACode.region ?_
    refine .cons (.mv rfl rfl) ?_
    refine .cons (.ls rfl rfl rfl) ?_
    refine .nil ?_
    refine ks_n ?_
    refine .cD rfl (fun h40 => ?_) (fun h40 => ?_)
    ·skip
     obtain ⟨f1, f2, f3⟩ := hf q
     refine ACode.skip ?_
     refine ks_n ?_
     refine ACode.seq ?_
     refine ACode.block ?_
     refine ACode.drawK (by kernel_rfl) (by kernel_rfl) ?_
     refine .cons (.fB 6 0 false rfl rfl rfl) ?_
     refine .cons (.b1 1 rfl rfl rfl rfl rfl rfl) ?_
     refine .cons (.mv rfl rfl) ?_
     refine .cons (.mv rfl rfl) ?_
     refine .cons (.mv rfl rfl) ?_
     refine .cons (.sb rfl rfl rfl) ?_
     refine .cons (.cR [.tmp 45, .tmp 46, .tmp 48] 0 rfl rfl rfl rfl (ih q (by omega)) rfl ⟨rfl, trivial⟩) ?_
     refine .cons (.li 31 6 0 [.tmp 49] rfl rfl rfl rfl rfl rfl) ?_
     refine .cons (St1.appB (k' := 151) (e := 31) (sz := 6) (by' := 112) rfl rfl rfl rfl rfl (by kernel_rfl) rfl rfl rfl rfl (by simp [dR]) (by simp [dR] <;> omega) rfl rfl rfl) ?_
     refine .cons (.fB 6 0 false rfl rfl rfl) ?_
     refine .cons (.sT 1 false rfl rfl rfl rfl rfl rfl rfl) ?_
     refine .nil ⟨by kernel_rfl, ?_⟩
     refine kb_n ?_
     refine ks_n ?_
     refine ACode.region ?_
     refine .cons (.mv rfl rfl) ?_
     refine .cons (.pl rfl rfl rfl) ?_
     refine .cons (.asg rfl rfl) ?_
     refine .nil ?_
     refine kl_k [(0, 0), (110, 110), (111, 111), (112, 151)] (.inr ⟨n - 1, (f q).2, l ++ [(f q).1], rfl, by simp, by simp; omega, by omega, by rw [← hE, show kidG f n l q = kidG f (n - 1 + 1) l q by rw [Nat.sub_add_cancel (by omega)], kidG] <;> first | rfl | simp, rfl⟩) ⟨ks rfl (.c .bx), ks rfl .dt, ks rfl .dt, ks rfl (.c .bx), ks rfl (.c .bx), ks rfl .dt, kb 0 rfl (.dt rfl), kb 110 rfl (.cons (.cons .dt (.cons .dt (.cons .dt (.cons .dt (.cons .dt (.cons .dt (.cons .dt Ctos.nil))))))) .nil), kb 151 rfl (.dt rfl (by first | (rw [← rE_one, dR_app, ← List.map_append]; done) | (rw [← rE_one]; simp [dR]; done) | (simp [dR, rE_eq]; done) | (simp [dR, rE_eq]; rfl))), kb 111 rfl (.cons (.cons .dt (.cons .dt (.cons .dt (.cons .dt (.cons .dt (.cons .dt (.cons .ow Ctos.nil))))))) .nil), trivial⟩
    ·skip
     obtain rfl : n = 0 := by omega
     rw [kidG] at hE
     rw [← hE] at hR
     refine ACode.exit ?_
     refine ks_e ?_
     refine kl_e ?_
     refine kb_hit ?_
     refine ks_n ?_
     refine ACode.seq ?_
     refine ACode.region ?_
     refine .cons (.bN 7 rfl rfl rfl rfl rfl rfl) ?_
     refine .cons (.sT 7 true rfl rfl rfl rfl rfl rfl rfl) ?_
     refine .nil ?_
     refine ks_n ?_
     refine ACode.ret ?_
     first | rw [if_pos (by assumption)] at hR | rw [if_neg (by assumption), if_pos (by assumption)] at hR | rw [if_neg (by assumption), if_neg (by assumption)] at hR | skip
     refine kf_wret [(.t 6, .v (.o (.c (.box 100 7 0 0)))), (.b 0, .b 81 2 (dR ([rRd bs r.2]))), (.u 0, .u), (.b 100, .b 31 7 [[.d (dI r.1.k), .d (dI r.1.n), .d (dIs r.1.i.1), .d (dI r.1.i.2), .d (dS r.1.r.1), .d (dAs r.1.r.2), .d (dEs r.1.ks)]]), (.u 100, .u)] (Wk.keep [(0, 0), (100, 110)] rfl rfl ⟨ks rfl (.c .bx), kb 0 rfl (.dt rfl (by first | rfl | (rw [hR]; done) | (rw [hR]; rfl))), kb 110 rfl (.cons (.cons (.dt (by first | rfl | (rw [hR]; done) | (rw [hR]; rfl))) (.cons (.dt (by first | rfl | (rw [hR]; done) | (rw [hR]; rfl))) (.cons (Cto.nilE 1 (by first | rfl | (rw [hR]; done) | (rw [hR]; rfl))) (.cons (.dt (by first | rfl | (rw [hR]; done) | (rw [hR]; rfl))) (.cons (.dt (by first | rfl | (rw [hR]; done) | (rw [hR]; rfl))) (.cons (Cto.nilE 2 (by first | rfl | (rw [hR]; done) | (rw [hR]; rfl))) (.cons (.fz rfl (by first | rfl | (rw [hR]; done) | (rw [hR]; rfl)) (by rw [hR, List.length_map]; try rfl) (by omega)) Ctos.nil))))))) .nil), trivial⟩) rfl ?_ (hbR_box rfl)
     rfl

theorem l13Value_fn {bs : List Int} (hb : Bytes bs) (d : Nat) (hd : d ≤ 4) : ∀ (L : Nat) (lv : Int) (p : Nat), lv = (L : Int) → L ≤ 10 → p + 16 * 2 ^ L ≤ 70000000 → Fn Tryz.prog 46 (hbR bs p) [vR, nat1 (d : Nat), nat1 lv] (.o (ad (rX (valG bs (leafC bs d) 5 [4, 6, 5] L p).1))) (hbR bs (valG bs (leafC bs d) 5 [4, 6, 5] L p).2)
  | 0, lv, p, hl, hL, hp => l13Value_small hb (by omega) d hd lv (by omega)
  | 1, lv, p, hl, hL, hp => l13Value_small hb (by omega) d hd lv (by omega)
  | L + 2, lv, p, hl, hL, hp => l13Value_big hb d hd lv (by omega) (by omega) (valG_bd (bs := bs) (m := 5) (ops := [4, 6, 5]) (leafC_bd bs d) (L + 1)) (by have : 1 ≤ 2 ^ L := Nat.one_le_two_pow; simp only [Nat.pow_succ] at hp ⊢; omega) fun q hq => l13Value_fn hb d hd (L + 1) (lv - 1) q (by omega) (by omega) (by have : 1 ≤ 2 ^ L := Nat.one_le_two_pow; simp only [Nat.pow_succ] at hp hq ⊢; omega)

def dfltS : Stm := ((⟨#[65]⟩, [zA]), .mk 1 1 zA0 zC0 [])
theorem sz_dflt : szS dfltS = 6 := by decide
/-- A drawn statement. -/
def drawS (bs : List Int) (d : Nat) (lvs : List Int) (val : Nat → Nat → Ex × Nat) (dflt : Nat → Stm × Nat) (p : Nat) : Stm × Nat :=
  let a := elemD bs d p
  let e := val (numV bs a.2 lvs).toNat (a.2 + 1)
  if stmtV (d : Nat) (a.1, e.1) = true then ((a.1, e.1), e.2) else dflt e.2
def stmD (bs : List Int) (d p : Nat) : Stm × Nat := drawS bs d [2, 3, 1, 2] (fun L q => valG bs (leafD bs d) 4 [4, 6, 5, 4] L q) (fun q => (dfltS, q)) p
def stmC (bs : List Int) (d p : Nat) : Stm × Nat := drawS bs d [3, 2, 4, 1] (fun L q => valG bs (leafC bs d) 5 [4, 6, 5] L q) (fun q => stmD bs d q) p
theorem lv_bd {bs : List Int} (hb : Bytes bs) {q : Nat} (hq : q ≤ 1099511627776) {xs : List Int} (hx : 0 < xs.length) (h4 : ∀ x ∈ xs, 1 ≤ x ∧ x ≤ 4) : ∃ L : Nat, (numV bs q xs).toNat = L ∧ numV bs q xs = (L : Int) ∧ L ≤ 4 := by
  have := h4 _ (numV_mem hb hq hx)
  exact ⟨_, rfl, by omega, by omega⟩
theorem szS_mk {a : Acc} {e : Ex} {m n : Nat} (h1 : szC a ≤ m) (h2 : szE e ≤ n) : szS (a, e) ≤ m + n := Nat.add_le_add h1 h2
theorem drawS_bd {bs : List Int} (hb : Bytes bs) {d : Nat} {lvs : List Int} {val : Nat → Nat → Ex × Nat} {dflt : Nat → Stm × Nat} {N : Nat} (hx : 0 < lvs.length) (h4 : ∀ x ∈ lvs, 1 ≤ x ∧ x ≤ 4) (hv : ∀ L : Nat, L ≤ 4 → Bnd (val L) 254) (hd : ∀ q, q ≤ (dflt q).2 ∧ (dflt q).2 ≤ q + N ∧ szS (dflt q).1 ≤ 266 ∧ 0 < (dflt q).1.1.2.length) (p : Nat) (hp : p ≤ 1000000000) :
    p ≤ (drawS bs d lvs val dflt p).2 ∧ (drawS bs d lvs val dflt p).2 ≤ p + 266 + N ∧ szS (drawS bs d lvs val dflt p).1 ≤ 266 ∧ 0 < (drawS bs d lvs val dflt p).1.1.2.length := by
  obtain ⟨a1, a2, a3, a4, a5⟩ := elemD_p bs d p
  have a6 := elemD_sz bs d p
  obtain ⟨L, hL, _, hL4⟩ := lv_bd hb (q := (elemD bs d p).2) (by omega) hx h4
  obtain ⟨b1, b2, b3⟩ := hv L hL4 ((elemD bs d p).2 + 1)
  obtain ⟨c1, c2, c3, c4⟩ := hd (val L ((elemD bs d p).2 + 1)).2
  have h9 := szS_mk a6 b3
  unfold drawS
  simp only [hL]
  split
  · exact ⟨by dsimp only; omega, by dsimp only; omega, by dsimp only; omega, a3⟩
  · exact ⟨by omega, by omega, c3, c4⟩
theorem val254 {bs : List Int} {leaf : Nat → Ex × Nat} {m : Int} {ops : List Int} (hl : Bnd leaf 14) (L : Nat) (hL : L ≤ 4) : Bnd (valG bs leaf m ops L) 254 := fun p => by
  obtain ⟨h1, h2, h3⟩ := valG_bd (bs := bs) (m := m) (ops := ops) hl L p
  have : 2 ^ L ≤ 2 ^ 4 := Nat.pow_le_pow_right (by omega) hL
  exact ⟨h1, by omega, by omega⟩
theorem stmD_bd {bs : List Int} (hb : Bytes bs) {d : Nat} (hd : d ≤ 4) (p : Nat) (hp : p ≤ 1000000000) : p ≤ (stmD bs d p).2 ∧ (stmD bs d p).2 ≤ p + 266 ∧ szS (stmD bs d p).1 ≤ 266 ∧ 0 < (stmD bs d p).1.1.2.length :=
  drawS_bd (N := 0) hb (by decide) (by decide) (fun L hL => val254 (leafD_bd bs hd) L hL) (fun q => ⟨Nat.le_refl _, Nat.le_refl _, by rw [sz_dflt]; omega, by show 0 < [zA].length; decide⟩) p hp

set_option maxRecDepth 100000 in
set_option maxHeartbeats 1600000 in
theorem l3Stmt_fn {bs : List Int} (hb : Bytes bs) {p : Nat} (hp : p ≤ 60000000) (d : Nat) (hd : d ≤ 4) : Fn Tryz.prog 47 (hbR bs p) [vR, nat1 (d : Nat)] (.o (ad (rS (stmD bs d p).1))) (hbR bs (stmD bs d p).2) := by
 obtain ⟨a1, a2, a3, a4, a5⟩ := elemD_p bs d p
 have a6 := elemD_sz bs d p
 obtain ⟨L, hL1, hL, hL4⟩ := lv_bd hb (q := (elemD bs d p).2) (by omega) (xs := [2, 3, 1, 2]) (by decide) (by decide)
 have h16 : 2 ^ L ≤ 2 ^ 4 := Nat.pow_le_pow_right (by omega) hL4
 obtain ⟨b1, b2, b3⟩ := val254 (bs := bs) (m := 4) (ops := [4, 6, 5, 4]) (leafD_bd bs hd) L hL4 ((elemD bs d p).2 + 1)
 have h9 := szS_mk a6 b3
 have hR : stmD bs d p = if stmtV (d : Nat) ((elemD bs d p).1, (valG bs (leafD bs d) 4 [4, 6, 5, 4] L ((elemD bs d p).2 + 1)).1) = true then (((elemD bs d p).1, (valG bs (leafD bs d) 4 [4, 6, 5, 4] L ((elemD bs d p).2 + 1)).1), (valG bs (leafD bs d) 4 [4, 6, 5, 4] L ((elemD bs d p).2 + 1)).2) else (dfltS, (valG bs (leafD bs d) 4 [4, 6, 5, 4] L ((elemD bs d p).2 + 1)).2) := by rw [stmD, drawS]; simp only [hL1]
 refine Fn.of_code Tryz.func47 rfl rfl (hbR_HB _ _) rfl rfl (hbR_HB _ _) rfl (hbR_num _ _ _) ?_
 refine ACode.seq ?_
 refine ACode.region ?_
 refine .cons (.al 104 [.string ByteArray.empty, .slice none 0 0, .int .i64 0, .int .i64 0, .slice none 0 0, .int .i64 0, .string ByteArray.empty, .slice none 0 0, .slice none 0 0] rfl rfl rfl) ?_
 refine .nil ?_
 refine ks_n ?_
 refine ACode.seq ?_
 refine ACode.region ?_
 refine .cons (.mv rfl rfl) ?_
 refine .cons (.mv rfl rfl) ?_
 refine .cons (.cR [.tmp 6, .tmp 7] 0 rfl rfl rfl rfl (l3Elem_fn hb (by omega) d hd) rfl ⟨rfl, trivial⟩) ?_
 refine .cons (.mv rfl rfl) ?_
 refine .cons (.mv rfl rfl) ?_
 refine .cons (.mv rfl rfl) ?_
 refine .cons (.li 3 0 3 [.const (.int .i64 (2)), .const (.int .i64 (3)), .const (.int .i64 (1)), .const (.int .i64 (2))] rfl rfl rfl rfl rfl rfl) ?_
 refine .cons (.cR [.tmp 11, .tmp 12] 0 rfl rfl rfl rfl (num_fn hb (by omega) [2, 3, 1, 2] (by simp)) rfl ⟨rfl, trivial⟩) ?_
 refine .cons (.cR [.tmp 9, .tmp 10, .tmp 13] 0 rfl rfl rfl rfl (l3Value_fn hb d hd L _ _ hL (by omega) (by omega)) rfl ⟨rfl, trivial⟩) ?_
 refine .cons (.bu [(0, .tmp 8), (1, .tmp 14)] [(0, 2), (2, 7)] [.string ByteArray.empty, .slice none 0 0, .int .i64 0, .int .i64 0, .slice none 0 0, .int .i64 0, .string ByteArray.empty, .slice none 0 0, .slice none 0 0] rfl rfl rfl rfl rfl) ?_
 refine .cons (.al 105 [.string ByteArray.empty, .slice none 0 0, .int .i64 0, .int .i64 0, .slice none 0 0, .int .i64 0, .string ByteArray.empty, .slice none 0 0, .slice none 0 0] rfl rfl rfl) ?_
 refine .cons (.sT 9 true rfl rfl rfl rfl rfl rfl rfl) ?_
 refine .nil ?_
 refine ks_n ?_
 refine ACode.seq ?_
 refine ACode.seq ?_
 refine ACode.region ?_
 refine .cons (.bN 9 rfl rfl rfl rfl rfl rfl) ?_
 refine .cons (.mv rfl rfl) ?_
 refine .cons (.cP [.tmp 16, .tmp 17] rfl rfl rfl rfl (specStmtV_fn (d : Nat) ((elemD bs d p).1, (valG bs (leafD bs d) 4 [4, 6, 5, 4] L ((elemD bs d p).2 + 1)).1) (by omega)) rfl) ?_
 refine .nil ?_
 refine ks_n ?_
 refine ACode.condT rfl (fun h18 => ?_) (fun h18 => ?_)
 ·try simp only [zs1, zs2, zs3, zs4, zs5, zs6, zs7] at h18
  refine ACode.seq ?_
  rw [if_pos h18] at hR
  rw [hR]
  refine ACode.region ?_
  refine .cons (.bN 9 rfl rfl rfl rfl rfl rfl) ?_
  refine .cons (.sT 9 true rfl rfl rfl rfl rfl rfl rfl) ?_
  refine .nil ?_
  refine ks_n ?_
  refine ACode.ret ?_
  refine ks_r ?_
  refine kf_ret rfl ?_ (hbR_box rfl)
  rfl
 ·try simp only [zs1, zs2, zs3, zs4, zs5, zs6, zs7] at h18
  refine ACode.skip ?_
  refine ks_n ?_
  refine ACode.seq ?_
  rw [if_neg (by rw [h18]; decide)] at hR
  rw [hR]
  refine ACode.region ?_
  refine .cons (.cP [] rfl rfl rfl rfl (l1Zero_fn) rfl) ?_
  refine .cons (.li 28 1 0 [.tmp 20] rfl rfl rfl rfl rfl rfl) ?_
  refine .cons (.bu [(0, .const (.string ⟨#[65]⟩)), (1, .tmp 21)] [(0, 1), (1, 1)] [.string ByteArray.empty, .slice none 0 0] rfl rfl rfl rfl rfl) ?_
  refine .cons (.bu [(0, .const (.int .i64 (1))), (1, .const (.int .i64 (1)))] [(0, 1), (1, 1), (2, 2), (4, 2), (6, 1)] [.int .i64 0, .int .i64 0, .slice none 0 0, .int .i64 0, .string ByteArray.empty, .slice none 0 0, .slice none 0 0] rfl rfl rfl rfl rfl) ?_
  refine .cons (.bu [(0, .tmp 22), (1, .tmp 23)] [(0, 2), (2, 7)] [.string ByteArray.empty, .slice none 0 0, .int .i64 0, .int .i64 0, .slice none 0 0, .int .i64 0, .string ByteArray.empty, .slice none 0 0, .slice none 0 0] rfl rfl rfl rfl rfl) ?_
  refine .cons (.sT 9 true rfl rfl rfl rfl rfl rfl rfl) ?_
  refine .nil ?_
  refine ks_n ?_
  refine ACode.ret ?_
  refine kf_wret [(.t 4, .v (.o (.c (.box 100 9 0 0)))), (.b 0, .b 81 2 (dR ([rRd bs (valG bs (leafD bs d) 4 [4, 6, 5, 4] L ((elemD bs d p).2 + 1)).2]))), (.u 0, .u), (.b 100, .b 33 9 [[.d (dS ⟨#[65]⟩), .d (dAs [zA]), .d (dI 1), .d (dI 1), .d (dIs []), .d (dI 0), .d (dS ByteArray.empty), .d (dAs []), .d (dEs [])]]), (.u 100, .u)] (Wk.keep [(0, 0), (100, 104)] rfl rfl ⟨ks rfl (.c .bx), kb 0 rfl (.dt rfl), kb 104 rfl (.cons (.cons .dt (.cons .dt (.cons .dt (.cons .dt (.cons (Cto.nil _) (.cons .dt (.cons .dt (.cons (Cto.nil _) (.cons (Cto.nil _) Ctos.nil))))))))) .nil), trivial⟩) rfl ?_ (hbR_box rfl)
  rfl

set_option maxRecDepth 100000 in
set_option maxHeartbeats 1600000 in
theorem l13Stmt_fn {bs : List Int} (hb : Bytes bs) {p : Nat} (hp : p ≤ 50000000) (d : Nat) (hd : d ≤ 4) : Fn Tryz.prog 21 (hbR bs p) [vR, nat1 (d : Nat)] (.o (ad (rS (stmC bs d p).1))) (hbR bs (stmC bs d p).2) := by
 obtain ⟨a1, a2, a3, a4, a5⟩ := elemD_p bs d p
 have a6 := elemD_sz bs d p
 obtain ⟨L, hL1, hL, hL4⟩ := lv_bd hb (q := (elemD bs d p).2) (by omega) (xs := [3, 2, 4, 1]) (by decide) (by decide)
 have h16 : 2 ^ L ≤ 2 ^ 4 := Nat.pow_le_pow_right (by omega) hL4
 obtain ⟨b1, b2, b3⟩ := val254 (bs := bs) (m := 5) (ops := [4, 6, 5]) (leafC_bd bs d) L hL4 ((elemD bs d p).2 + 1)
 have h9 := szS_mk a6 b3
 have hR : stmC bs d p = if stmtV (d : Nat) ((elemD bs d p).1, (valG bs (leafC bs d) 5 [4, 6, 5] L ((elemD bs d p).2 + 1)).1) = true then (((elemD bs d p).1, (valG bs (leafC bs d) 5 [4, 6, 5] L ((elemD bs d p).2 + 1)).1), (valG bs (leafC bs d) 5 [4, 6, 5] L ((elemD bs d p).2 + 1)).2) else stmD bs d ((valG bs (leafC bs d) 5 [4, 6, 5] L ((elemD bs d p).2 + 1)).2) := by rw [stmC, drawS]; simp only [hL1]
 refine Fn.of_code Tryz.func21 rfl rfl (hbR_HB _ _) rfl rfl (hbR_HB _ _) rfl (hbR_num _ _ _) ?_
 refine ACode.seq ?_
 refine ACode.region ?_
 refine .cons (.al 104 [.string ByteArray.empty, .slice none 0 0, .int .i64 0, .int .i64 0, .slice none 0 0, .int .i64 0, .string ByteArray.empty, .slice none 0 0, .slice none 0 0] rfl rfl rfl) ?_
 refine .nil ?_
 refine ks_n ?_
 refine ACode.seq ?_
 refine ACode.region ?_
 refine .cons (.mv rfl rfl) ?_
 refine .cons (.mv rfl rfl) ?_
 refine .cons (.cR [.tmp 6, .tmp 7] 0 rfl rfl rfl rfl (l3Elem_fn hb (by omega) d hd) rfl ⟨rfl, trivial⟩) ?_
 refine .cons (.mv rfl rfl) ?_
 refine .cons (.mv rfl rfl) ?_
 refine .cons (.mv rfl rfl) ?_
 refine .cons (.li 3 0 3 [.const (.int .i64 (3)), .const (.int .i64 (2)), .const (.int .i64 (4)), .const (.int .i64 (1))] rfl rfl rfl rfl rfl rfl) ?_
 refine .cons (.cR [.tmp 11, .tmp 12] 0 rfl rfl rfl rfl (num_fn hb (by omega) [3, 2, 4, 1] (by simp)) rfl ⟨rfl, trivial⟩) ?_
 refine .cons (.cR [.tmp 9, .tmp 10, .tmp 13] 0 rfl rfl rfl rfl (l13Value_fn hb d hd L _ _ hL (by omega) (by omega)) rfl ⟨rfl, trivial⟩) ?_
 refine .cons (.bu [(0, .tmp 8), (1, .tmp 14)] [(0, 2), (2, 7)] [.string ByteArray.empty, .slice none 0 0, .int .i64 0, .int .i64 0, .slice none 0 0, .int .i64 0, .string ByteArray.empty, .slice none 0 0, .slice none 0 0] rfl rfl rfl rfl rfl) ?_
 refine .cons (.al 105 [.string ByteArray.empty, .slice none 0 0, .int .i64 0, .int .i64 0, .slice none 0 0, .int .i64 0, .string ByteArray.empty, .slice none 0 0, .slice none 0 0] rfl rfl rfl) ?_
 refine .cons (.sT 9 true rfl rfl rfl rfl rfl rfl rfl) ?_
 refine .nil ?_
 refine ks_n ?_
 refine ACode.seq ?_
 refine ACode.seq ?_
 refine ACode.region ?_
 refine .cons (.bN 9 rfl rfl rfl rfl rfl rfl) ?_
 refine .cons (.mv rfl rfl) ?_
 refine .cons (.cP [.tmp 16, .tmp 17] rfl rfl rfl rfl (specStmtV_fn (d : Nat) ((elemD bs d p).1, (valG bs (leafC bs d) 5 [4, 6, 5] L ((elemD bs d p).2 + 1)).1) (by omega)) rfl) ?_
 refine .nil ?_
 refine ks_n ?_
 refine ACode.condT rfl (fun h18 => ?_) (fun h18 => ?_)
 ·try simp only [zs1, zs2, zs3, zs4, zs5, zs6, zs7] at h18
  refine ACode.seq ?_
  rw [if_pos h18] at hR
  rw [hR]
  refine ACode.region ?_
  refine .cons (.bN 9 rfl rfl rfl rfl rfl rfl) ?_
  refine .cons (.sT 9 true rfl rfl rfl rfl rfl rfl rfl) ?_
  refine .nil ?_
  refine ks_n ?_
  refine ACode.ret ?_
  refine ks_r ?_
  refine kf_ret rfl ?_ (hbR_box rfl)
  rfl
 ·try simp only [zs1, zs2, zs3, zs4, zs5, zs6, zs7] at h18
  refine ACode.skip ?_
  refine ks_n ?_
  refine ACode.seq ?_
  rw [if_neg (by rw [h18]; decide)] at hR
  rw [hR]
  refine ACode.region ?_
  refine .cons (.mv rfl rfl) ?_
  refine .cons (.mv rfl rfl) ?_
  refine .cons (.cR [.tmp 20, .tmp 21] 0 rfl rfl rfl rfl (l3Stmt_fn hb (by omega) d hd) rfl ⟨rfl, trivial⟩) ?_
  refine .cons (.sT 9 true rfl rfl rfl rfl rfl rfl rfl) ?_
  refine .nil ?_
  refine ks_n ?_
  refine ACode.ret ?_
  refine kf_ret rfl ?_ (hbR_box rfl)
  rfl

theorem stmC_bd {bs : List Int} (hb : Bytes bs) {d : Nat} (hd : d ≤ 4) (p : Nat) (hp : p ≤ 100000000) : p ≤ (stmC bs d p).2 ∧ (stmC bs d p).2 ≤ p + 532 ∧ szS (stmC bs d p).1 ≤ 266 ∧ 0 < (stmC bs d p).1.1.2.length := by
  obtain ⟨a1, a2, a3, a4, a5⟩ := elemD_p bs d p
  have a6 := elemD_sz bs d p
  obtain ⟨L, hL1, hL, hL4⟩ := lv_bd hb (q := (elemD bs d p).2) (by omega) (xs := [3, 2, 4, 1]) (by decide) (by decide)
  obtain ⟨b1, b2, b3⟩ := val254 (bs := bs) (m := 5) (ops := [4, 6, 5]) (leafC_bd bs d) L hL4 ((elemD bs d p).2 + 1)
  obtain ⟨c1, c2, c3, c4⟩ := stmD_bd hb hd (valG bs (leafC bs d) 5 [4, 6, 5] L ((elemD bs d p).2 + 1)).2 (by omega)
  have h9 := szS_mk a6 b3
  unfold stmC drawS
  simp only [hL1]
  split
  · exact ⟨by dsimp only; omega, by dsimp only; omega, by dsimp only; omega, a3⟩
  · exact ⟨by omega, by omega, c3, c4⟩

set_option maxRecDepth 100000 in
set_option maxHeartbeats 1600000 in
theorem cells_fn {g : Prg} (hv : arrsV g.1 = true) : Fn Tryz.prog 14 [] [ad (rG g)] (.o (nat1 (totN g.1 : Nat))) [] := by
 have hl := arrsV_len hv
 refine Fn.code0 Tryz.func14 rfl rfl rfl rfl ?_
 refine ACode.seq ?_
 refine ACode.region ?_
 refine .cons (St1.boxP rfl rfl rfl rfl rfl rfl) ?_
 refine .cons (.asg rfl rfl) ?_
 refine .nil ?_
 refine ks_n ?_
 refine ACode.seq ?_
 refine ACode.region ?_
 refine .cons (.asg rfl rfl) ?_
 refine .nil ?_
 refine ks_n ?_
 refine ACode.seq ?_
 refine ACode.seq ?_
 refine ACode.region ?_
 refine .cons (.fP 0 0 false rfl rfl) ?_
 refine .cons (.l1 1 rfl rfl) ?_
 refine .cons (.ln 38 2 40 rfl rfl rfl) ?_
 refine .cons (.mv rfl rfl) ?_
 refine .nil ?_
 refine ks_n ?_
 refine ACode.block ?_
 refine .loopK (fun m σ => (∃ (i : Nat) (t : Int), m = g.1.length - i ∧ (i ≤ g.1.length) ∧ (t = (totN (g.1.take i) : Nat)) ∧ (0 ≤ t ∧ t ≤ 36 * i) ∧ σ = [(.t 1, .v (.o (.c (.ptr (rG g))))), (.t 2, .v (.o (nat1 0))), (.t 3, .v (.o (nat1 t))), (.t 7, .v (.o (vD (dRs g.1)))), (.t 8, .v (.o (nat1 (g.1.length : Nat)))), (.t 9, .v (.o (nat1 (i : Nat))))])) [] ⟨0, 0, rfl, by omega, rfl, by omega, rfl⟩ ⟨ks rfl .dt, ks rfl .dt, ks rfl .dt, ks rfl .dt, ks rfl .dt, ks rfl .dt, trivial⟩ ?_
 rintro m σ ⟨i, t, hm0, hi, hT, hb, rfl⟩
 refine ACode.seq ?_
 refine ACode.region ?_
 refine .cons (.ls rfl rfl rfl) ?_
 refine .nil ?_
 refine ks_n ?_
 refine ACode.seq ?_
 refine .cD rfl (fun h10 => ?_) (fun h10 => ?_)
 ·skip
  obtain ⟨x, hx1⟩ : ∃ x_, g.1[i]? = some x_ := ⟨_, List.getElem?_eq_getElem (by omega)⟩
  have hxo := arr_mem hv hx1
  have hsb := sizeA_bd hxo
  refine ACode.skip ?_
  refine ks_n ?_
  refine ACode.seq ?_
  refine ACode.block ?_
  refine ACode.seq ?_
  refine ACode.region ?_
  refine .cons (.xL 38 2 40 rfl rfl rfl rfl rfl) ?_
  refine .cons (.lN 2 rfl rfl rfl) ?_
  refine .cons (.al 105 [.string ByteArray.empty, .slice none 0 0] rfl rfl rfl) ?_
  refine .cons (.sT 2 true rfl rfl rfl rfl rfl rfl rfl) ?_
  refine .nil ?_
  refine ks_n ?_
  refine ACode.region ?_
  refine .cons (.mv rfl rfl) ?_
  refine .cons (.bN 2 rfl rfl rfl rfl rfl rfl) ?_
  refine .cons (.cP [.tmp 14] rfl rfl rfl rfl (size_fn hxo) rfl) ?_
  refine .cons (.pl rfl rfl rfl) ?_
  refine .cons (.asg rfl rfl) ?_
  refine .nil ?_
  refine kb_n ?_
  refine ks_n ?_
  refine ACode.region ?_
  refine .cons (.pl rfl rfl rfl) ?_
  refine .cons (.mv rfl rfl) ?_
  refine .nil ?_
  refine kl_k [] ⟨i + 1, t + sizeA x.2, rfl, by omega, by rw [totN_take hx1, hT]; omega, by omega, rfl⟩ ⟨ks rfl .dt, ks rfl .dt, ks rfl .dt, ks rfl .dt, ks rfl .dt, ks rfl .dt, trivial⟩
 ·skip
  obtain rfl : i = g.1.length := by omega
  rw [List.take_length] at hT
  refine ACode.exit ?_
  refine ks_e ?_
  refine kl_e ?_
  refine kb_hit ?_
  refine ks_n ?_
  refine ACode.seq ?_
  refine ACode.region ?_
  refine .cons (.mv rfl rfl) ?_
  refine .cons (.asg rfl rfl) ?_
  refine .nil ?_
  refine ks_n ?_
  refine ACode.ret ?_
  refine kf_ret rfl ?_ nobox
  exact leafI hT
theorem rd_self {e : Ex} (h : e.k = 3) : e.r ∈ rdE e := by rw [rdE_eq, if_pos h]; simp
theorem rd_kid {e x : Ex} (hx : x ∈ e.ks) {a : Acc} (ha : a ∈ rdE x) : a ∈ rdE e := by
  rw [rdE_eq, List.mem_append]
  refine .inr ?_
  generalize e.ks = l at hx
  induction l with
  | nil => cases hx
  | cons y l ih =>
    rw [rdEs, List.mem_append]
    rcases List.mem_cons.1 hx with rfl | hx
    · exact .inl ha
    · exact .inr (ih hx)

set_option maxRecDepth 100000 in
set_option maxHeartbeats 1600000 in
theorem modulo_fn (n : Int) : Fn Tryz.prog 37 [] [nat1 n] (.o (nat1 (modV n))) [] := by
 have h1 := tmod_bd n
 have h2 := tmod_bd (n.tmod 1000 + 999 + 1)
 refine Fn.code0 Tryz.func37 rfl rfl rfl rfl ?_
 refine ACode.seq ?_
 refine ACode.region ?_
 refine .cons (.asg rfl rfl) ?_
 refine .nil ?_
 refine ks_n ?_
 refine ACode.seq ?_
 refine ACode.region ?_
 refine .cons (.mv rfl rfl) ?_
 refine .cons (St1.rem rfl rfl rfl rfl rfl rfl (by omega)) ?_
 refine .cons (.pl rfl rfl rfl) ?_
 refine .cons (.pl rfl rfl rfl) ?_
 refine .cons (St1.rem rfl rfl rfl rfl rfl rfl (by omega)) ?_
 refine .cons (.asg rfl rfl) ?_
 refine .nil ?_
 refine ks_n ?_
 refine ACode.ret ?_
 refine kf_ret rfl ?_ nobox
 rfl

set_option maxRecDepth 100000 in
set_option maxHeartbeats 1600000 in
theorem value_one {g : Prg} (hv : arrsV g.1 = true) {m p : List Int} (hml : m.length = totN g.1) (hm : memOk m) (hS : Small p) (hn : p.length ≤ 4) {d L : Nat} (e : Ex) (he : exV d (L + 1) e = true) (hr : ∀ a ∈ rdE e, accG g.1 p a = true) (ih : ∀ x ∈ e.ks, Fn Tryz.prog 17 [] [ad (rG g), vD (dIs m), ad (rX x), vD (dIs p)] (.o (nat1 (valE g m p x))) []) : Fn Tryz.prog 17 [] [ad (rG g), vD (dIs m), ad (rX e), vD (dIs p)] (.o (nat1 (valE g m p e))) [] := by
 have hkd := exV_kind he
 have htb := totN_bd hv
 refine Fn.code0 Tryz.func17 rfl rfl rfl rfl ?_
 refine ACode.seq ?_
 refine ACode.region ?_
 refine .cons (St1.boxP rfl rfl rfl rfl rfl rfl) ?_
 refine .cons (St1.boxP rfl rfl rfl rfl rfl rfl) ?_
 refine .cons (.asg rfl rfl) ?_
 refine .nil ?_
 refine ks_n ?_
 refine ACode.seq ?_
 refine ACode.seq ?_
 refine ACode.region ?_
 refine .cons (.fP 0 0 false rfl rfl) ?_
 refine .cons (.l1 1 rfl rfl) ?_
 refine .nil ?_
 refine ks_n ?_
 refine ACode.block ?_
 refine ACode.seq ?_
 refine ACode.region ?_
 refine .cons (.eq rfl rfl rfl) ?_
 refine .cons (.asg rfl rfl) ?_
 refine .nil ?_
 refine ks_n ?_
 refine .cD rfl (fun h13 => ?_) (fun h13 => ?_)
 ·skip
  refine ACode.seq ?_
  refine ACode.region ?_
  refine .cons (.fP 1 0 false rfl rfl) ?_
  refine .cons (.l1 1 rfl rfl) ?_
  refine .cons (.asg rfl rfl) ?_
  refine .nil ?_
  refine ks_n ?_
  refine ACode.ret ?_
  refine kb_r ?_
  refine ks_r ?_
  refine kf_ret rfl ?_ nobox
  exact leafI (valE_num (by omega)).symm
 ·skip
  refine ACode.seq ?_
  refine ACode.region ?_
  refine .cons (.eq rfl rfl rfl) ?_
  refine .cons (.asg rfl rfl) ?_
  refine .nil ?_
  refine ks_n ?_
  refine .cD rfl (fun h17 => ?_) (fun h17 => ?_)
  ·skip
   refine ACode.seq ?_
   have ha : affV e.i = true := by rcases hkd with ⟨h, _⟩ | ⟨_, h⟩ | ⟨h, _⟩ | h <;> first | exact h | omega
   refine ACode.region ?_
   refine .cons (.fP 2 1 true rfl rfl) ?_
   refine .cons (.lN 2 rfl rfl rfl) ?_
   refine .cons (.mv rfl rfl) ?_
   refine .cons (.cP [.tmp 20, .tmp 21] rfl rfl rfl rfl (eval_fn ha hS hn) rfl) ?_
   refine .cons (.cP [.tmp 22] rfl rfl rfl rfl (modulo_fn _) rfl) ?_
   refine .cons (.asg rfl rfl) ?_
   refine .nil ?_
   refine ks_n ?_
   refine ACode.ret ?_
   refine kb_r ?_
   refine ks_r ?_
   refine kf_ret rfl ?_ nobox
   exact leafI (valE_idx (by omega)).symm
  ·skip
   refine ACode.seq ?_
   refine ACode.region ?_
   refine .cons (.eq rfl rfl rfl) ?_
   refine .cons (.asg rfl rfl) ?_
   refine .nil ?_
   refine ks_n ?_
   refine .cD rfl (fun h24 => ?_) (fun h24 => ?_)
   ·skip
    refine ACode.seq ?_
    have hac : accV d e.r = true := by rcases hkd with ⟨h, _⟩ | ⟨h, _⟩ | ⟨_, h⟩ | h <;> first | exact h | omega
    obtain ⟨c0, c1⟩ := cell_in hv (hr e.r (rd_self (by omega)))
    obtain ⟨v, hm1⟩ : ∃ v, m[(cellG e.r p g.1 0).toNat]? = some v := ⟨_, List.getElem?_eq_getElem (by omega)⟩
    refine ACode.region ?_
    refine .cons (.mv rfl rfl) ?_
    refine .cons (.lN 2 rfl rfl rfl) ?_
    refine .cons (.fP 4 1 true rfl rfl) ?_
    refine .cons (.lN 2 rfl rfl rfl) ?_
    refine .cons (.mv rfl rfl) ?_
    refine .cons (.cP [.tmp 27, .tmp 29, .tmp 30] rfl rfl rfl rfl (cell_fn hv hac hS hn) rfl) ?_
    refine .cons (.xL 3 1 8 (i := (cellG e.r p g.1 0).toNat) rfl rfl rfl rfl (by omega) (map_at hm1)) ?_
    refine .cons (.l1 1 rfl rfl) ?_
    refine .cons (.asg rfl rfl) ?_
    refine .nil ?_
    refine ks_n ?_
    refine ACode.ret ?_
    refine kb_r ?_
    refine ks_r ?_
    refine kf_ret rfl ?_ nobox
    exact leafI (by rw [valE_read (by omega), List.getD, hm1]; rfl)
   ·skip
    refine ACode.skip ?_
    refine kb_n ?_
    refine ks_n ?_
    refine ACode.seq ?_
    have hk : 4 ≤ e.k ∧ e.k ≤ 6 := by rcases hkd with ⟨h, _⟩ | ⟨h, _⟩ | ⟨h, _⟩ | h <;> omega
    obtain ⟨x, y, hks⟩ := op_two he hk
    have hk0 : e.ks[0]? = some x := by rw [hks]; rfl
    have hk1 : e.ks[1]? = some y := by rw [hks]; rfl
    have ihx := ih x (List.mem_of_getElem? hk0)
    have ihy := ih y (List.mem_of_getElem? hk1)
    have bx := valE_bd (g := g) (p := p) hm ((exV_kids he).2 x (List.mem_of_getElem? hk0))
    have by1 := valE_bd (g := g) (p := p) hm ((exV_kids he).2 y (List.mem_of_getElem? hk1))
    have hmu := mulb (x := valE g m p x) (y := valE g m p y) (by omega) (by omega)
    have hvo := valE_op (g := g) (m := m) (p := p) hk hks
    refine ACode.drawK (by kernel_rfl) (by kernel_rfl) ?_
    refine .cons (.lN 2 rfl rfl rfl) ?_
    refine .cons (.mv rfl rfl) ?_
    refine .cons (.fP 6 0 false rfl rfl) ?_
    refine .cons (.l1 1 rfl rfl) ?_
    refine .cons (.xL 31 7 112 (i := 0) rfl rfl rfl rfl rfl (rE_at hk0)) ?_
    refine .cons (.lN 7 rfl rfl rfl) ?_
    refine .cons (.mv rfl rfl) ?_
    refine .cons (.cP [.tmp 34, .tmp 35, .tmp 39, .tmp 40] rfl rfl rfl rfl (ihx) rfl) ?_
    refine .cons (.lN 2 rfl rfl rfl) ?_
    refine .cons (.mv rfl rfl) ?_
    refine .cons (.fP 6 0 false rfl rfl) ?_
    refine .cons (.l1 1 rfl rfl) ?_
    refine .cons (.xL 31 7 112 (i := 1) rfl rfl rfl rfl rfl (rE_at hk1)) ?_
    refine .cons (.lN 7 rfl rfl rfl) ?_
    refine .cons (.mv rfl rfl) ?_
    refine .cons (.cP [.tmp 42, .tmp 43, .tmp 47, .tmp 48] rfl rfl rfl rfl (ihy) rfl) ?_
    refine .cons (.asg rfl rfl) ?_
    refine .cons (.asg rfl rfl) ?_
    refine .nil ⟨by kernel_rfl, ?_⟩
    refine ks_n ?_
    refine ACode.seq ?_
    refine ACode.seq ?_
    refine ACode.region ?_
    refine .cons (.fP 0 0 false rfl rfl) ?_
    refine .cons (.l1 1 rfl rfl) ?_
    refine .nil ?_
    refine ks_n ?_
    refine ACode.block ?_
    refine ACode.seq ?_
    refine ACode.region ?_
    refine .cons (.eq rfl rfl rfl) ?_
    refine .cons (.asg rfl rfl) ?_
    refine .nil ?_
    refine ks_n ?_
    refine .cD rfl (fun h52 => ?_) (fun h52 => ?_)
    ·skip
     refine ACode.seq ?_
     refine ACode.region ?_
     refine .cons (.mv rfl rfl) ?_
     refine .cons (.mv rfl rfl) ?_
     refine .cons (.pl rfl rfl rfl) ?_
     refine .cons (.cP [.tmp 56] rfl rfl rfl rfl (modulo_fn _) rfl) ?_
     refine .cons (.asg rfl rfl) ?_
     refine .nil ?_
     refine ks_n ?_
     refine ACode.ret ?_
     refine kb_r ?_
     refine ks_r ?_
     refine kf_ret rfl ?_ nobox
     exact leafI (by rw [hvo, valN, if_neg (by omega), if_neg (by omega)])
    ·skip
     refine ACode.seq ?_
     refine ACode.region ?_
     refine .cons (.eq rfl rfl rfl) ?_
     refine .cons (.asg rfl rfl) ?_
     refine .nil ?_
     refine ks_n ?_
     refine .cD rfl (fun h58 => ?_) (fun h58 => ?_)
     ·skip
      refine ACode.seq ?_
      refine ACode.region ?_
      refine .cons (.mv rfl rfl) ?_
      refine .cons (.mv rfl rfl) ?_
      refine .cons (.sb rfl rfl rfl) ?_
      refine .cons (.cP [.tmp 62] rfl rfl rfl rfl (modulo_fn _) rfl) ?_
      refine .cons (.asg rfl rfl) ?_
      refine .nil ?_
      refine ks_n ?_
      refine ACode.ret ?_
      refine kb_r ?_
      refine ks_r ?_
      refine kf_ret rfl ?_ nobox
      exact leafI (by rw [hvo, valN, if_pos (by omega)])
     ·skip
      refine ACode.skip ?_
      refine kb_n ?_
      refine ks_n ?_
      refine ACode.seq ?_
      refine ACode.region ?_
      refine .cons (.mv rfl rfl) ?_
      refine .cons (.mv rfl rfl) ?_
      refine .cons (.ml rfl rfl rfl) ?_
      refine .cons (.cP [.tmp 66] rfl rfl rfl rfl (modulo_fn _) rfl) ?_
      refine .cons (.asg rfl rfl) ?_
      refine .nil ?_
      refine ks_n ?_
      refine ACode.ret ?_
      refine kf_ret rfl ?_ nobox
      exact leafI (by rw [hvo, valN, if_neg (by omega), if_pos (by omega)])

theorem value_fn {g : Prg} (hv : arrsV g.1 = true) {m p : List Int} (hml : m.length = totN g.1) (hm : memOk m) (hS : Small p) (hn : p.length ≤ 4)  {d : Nat} : ∀ {L : Nat} (e : Ex), exV d L e = true → (∀ a ∈ rdE e, accG g.1 p a = true) → Fn Tryz.prog 17 [] [ad (rG g), vD (dIs m), ad (rX e), vD (dIs p)] (.o (nat1 (valE g m p e))) []
  | 0, e, h, _ => by cases h
  | L + 1, e, h, hr => value_one hv hml hm hS hn e h hr fun x hx => value_fn hv hml hm hS hn x ((exV_kids h).2 x hx) fun a ha => hr a (rd_kid hx ha)

set_option maxRecDepth 100000 in
set_option maxHeartbeats 1600000 in
theorem implPV_fn {g : Prg} (hs : szG g ≤ 1073741824)  : Fn Tryz.prog 13 [] [ad (rG g)] (.o (bo1 (prgV g))) [] := by
 refine Fn.code0 Tryz.func13 rfl rfl rfl rfl ?_
 refine ACode.seq ?_
 refine ACode.region ?_
 refine .cons (St1.boxP rfl rfl rfl rfl rfl rfl) ?_
 refine .cons (.asg rfl rfl) ?_
 refine .nil ?_
 refine ks_n ?_
 refine ACode.seq ?_
 refine ACode.region ?_
 refine .cons (.lN 2 rfl rfl rfl) ?_
 refine .cons (.cP [.tmp 6] rfl rfl rfl rfl (instances_fn hs) rfl) ?_
 refine .cons (.mv rfl rfl) ?_
 refine .cons (.ex rfl rfl rfl) ?_
 refine .cons (.ex rfl rfl rfl) ?_
 refine .cons (.asg rfl rfl) ?_
 refine .cons (.asg rfl rfl) ?_
 refine .nil ?_
 refine ks_n ?_
 refine ACode.seq ?_
 refine ACode.region ?_
 refine .cons (.mv rfl rfl) ?_
 refine .cons (.asg rfl rfl) ?_
 refine .nil ?_
 refine ks_n ?_
 refine ACode.ret ?_
 refine kf_ret rfl ?_ nobox
 rfl

def ccN (g : Prg) : Nat := if prgV g = true then totN g.1 else 0

set_option maxRecDepth 100000 in
set_option maxHeartbeats 1600000 in
theorem implCC_fn {g : Prg} (hs : szG g ≤ 1073741824)  : Fn Tryz.prog 7 [] [ad (rG g)] (.o (nat1 (ccN g : Nat))) [] := by
 refine Fn.code0 Tryz.func7 rfl rfl rfl rfl ?_
 refine ACode.seq ?_
 refine ACode.region ?_
 refine .cons (St1.boxP rfl rfl rfl rfl rfl rfl) ?_
 refine .cons (.asg rfl rfl) ?_
 refine .nil ?_
 refine ks_n ?_
 refine ACode.seq ?_
 refine ACode.seq ?_
 refine ACode.region ?_
 refine .cons (.lN 2 rfl rfl rfl) ?_
 refine .cons (.cP [.tmp 3] rfl rfl rfl rfl (implPV_fn hs) rfl) ?_
 refine .cons (.nt rfl rfl) ?_
 refine .nil ?_
 refine ks_n ?_
 refine ACode.condT rfl (fun h5 => ?_) (fun h5 => ?_)
 ·try simp only [zs1, zs2, zs3, zs4, zs5, zs6, zs7] at h5
  have hV : prgV g = false := by first | assumption | simp_all
  refine ACode.seq ?_
  refine ACode.region ?_
  refine .cons (.asg rfl rfl) ?_
  refine .nil ?_
  refine ks_n ?_
  refine ACode.ret ?_
  refine ks_r ?_
  refine kf_ret rfl ?_ nobox
  exact leafI (by rw [ccN, if_neg (by rw [hV]; simp)]; rfl)
 ·try simp only [zs1, zs2, zs3, zs4, zs5, zs6, zs7] at h5
  have hV : prgV g = true := by first | assumption | simp_all
  have hv := (prgS_iff.1 (prgV_s hV).1).1
  refine ACode.skip ?_
  refine ks_n ?_
  refine ACode.seq ?_
  refine ACode.region ?_
  refine .cons (.lN 2 rfl rfl rfl) ?_
  refine .cons (.cP [.tmp 6] rfl rfl rfl rfl (cells_fn hv) rfl) ?_
  refine .cons (.asg rfl rfl) ?_
  refine .nil ?_
  refine ks_n ?_
  refine ACode.ret ?_
  refine kf_ret rfl ?_ nobox
  exact leafI (by rw [ccN, if_pos hV])

set_option maxRecDepth 100000 in
set_option maxHeartbeats 1600000 in
theorem mv1_fn (n : Int) : Fn Tryz.prog 35 [] [nat1 n] (.o (bo1 (!inB n 0 999))) [] := by
 refine Fn.code0 Tryz.func35 rfl rfl rfl rfl ?_
 refine ACode.seq ?_
 refine ACode.region ?_
 refine .cons (.asg rfl rfl) ?_
 refine .nil ?_
 refine ks_n ?_
 refine ACode.seq ?_
 refine ACode.region ?_
 refine .cons (.mv rfl rfl) ?_
 refine .cons (.cP [.tmp 3, .const (.int .i64 (0)), .const (.int .i64 (999))] rfl rfl rfl rfl (within_fn _ 0 999) rfl) ?_
 refine .cons (.nt rfl rfl) ?_
 refine .cons (.asg rfl rfl) ?_
 refine .nil ?_
 refine ks_n ?_
 refine ACode.ret ?_
 refine kf_ret rfl ?_ nobox
 rfl

set_option maxRecDepth 100000 in
set_option maxHeartbeats 1600000 in
theorem implMV_fn {g : Prg} (hs : szG g ≤ 1073741824) (m : List Int) (hml : m.length ≤ 1000000) : Fn Tryz.prog 15 [] [ad (rG g), vD (dIs m)] (.o (bo1 (memV g m))) [] := by
 refine Fn.code0 Tryz.func15 rfl rfl rfl rfl ?_
 refine ACode.seq ?_
 refine ACode.region ?_
 refine .cons (St1.boxP rfl rfl rfl rfl rfl rfl) ?_
 refine .cons (.asg rfl rfl) ?_
 refine .nil ?_
 refine ks_n ?_
 refine ACode.seq ?_
 refine ACode.region ?_
 refine .cons (.lN 2 rfl rfl rfl) ?_
 refine .cons (.cP [.tmp 5] rfl rfl rfl rfl (implPV_fn hs) rfl) ?_
 refine .cons (.mv rfl rfl) ?_
 refine AOps.cases 7 _ rfl (fun g7 => ?_) (fun g7 => ?_)
 ·try simp only [zs1, zs2, zs3, zs4, zs5, zs6, zs7] at g7
  have hV : prgV g = true := by assumption
  have hv := (prgS_iff.1 (prgV_s hV).1).1
  have htb := totN_bd hv
  refine .cons (.gT rfl rfl rfl (.mv rfl rfl)) ?_
  refine .cons (.gT rfl rfl rfl (.ln 3 1 8 rfl rfl rfl)) ?_
  refine .cons (.gT rfl rfl rfl (.lN 2 rfl rfl rfl)) ?_
  refine .cons (.gT rfl rfl rfl (.cP [.tmp 10] rfl rfl rfl rfl (cells_fn hv) rfl)) ?_
  refine .cons (.gT rfl rfl rfl (.eq rfl rfl rfl)) ?_
  refine .cons (.pT rfl rfl rfl) ?_
  refine .cons (.mv rfl rfl) ?_
  refine AOps.cases 14 _ rfl (fun g14 => ?_) (fun g14 => ?_)
  ·try simp only [zs1, zs2, zs3, zs4, zs5, zs6, zs7] at g14
   refine .cons (.gT rfl rfl rfl (.mv rfl rfl)) ?_
   refine .cons (.gT rfl rfl rfl (.cP [.tmp 15, .func 35] rfl rfl rfl rfl (cnt_int (f := 35) (cap := []) (by kernel_rfl) (fun n => !inB n 0 999) m (by omega) (fun n _ => mv1_fn n)) rfl)) ?_
   refine .cons (.gT rfl rfl rfl (.nt rfl rfl)) ?_
   refine .cons (.pT rfl rfl rfl) ?_
   refine .cons (.asg rfl rfl) ?_
   refine .nil ?_
   refine ks_n ?_
   refine ACode.ret ?_
   refine kf_ret rfl ?_ nobox
   exact leafB (by rw [memV]; first | (simp_all; done) | (rw [← nany]; simp_all; done) | (rw [← nany, decide_eq_true (by omega : m.length = totN g.1)]; simp_all) | (rw [decide_eq_false (by omega)]; simp_all))
  ·try simp only [zs1, zs2, zs3, zs4, zs5, zs6, zs7] at g14
   refine .cons (.gF rfl rfl rfl) ?_
   refine .cons (.gF rfl rfl rfl) ?_
   refine .cons (.gF rfl rfl rfl) ?_
   refine .cons (.pF rfl rfl rfl) ?_
   refine .cons (.asg rfl rfl) ?_
   refine .nil ?_
   refine ks_n ?_
   refine ACode.ret ?_
   refine kf_ret rfl ?_ nobox
   exact leafB (by rw [memV]; first | (simp_all; done) | (rw [← nany]; simp_all; done) | (rw [← nany, decide_eq_true (by omega : m.length = totN g.1)]; simp_all) | (rw [decide_eq_false (by omega)]; simp_all))
 ·try simp only [zs1, zs2, zs3, zs4, zs5, zs6, zs7] at g7
  refine .cons (.gF rfl rfl rfl) ?_
  refine .cons (.gF rfl rfl rfl) ?_
  refine .cons (.gF rfl rfl rfl) ?_
  refine .cons (.gF rfl rfl rfl) ?_
  refine .cons (.gF rfl rfl rfl) ?_
  refine .cons (.pF rfl rfl rfl) ?_
  refine .cons (.mv rfl rfl) ?_
  refine .cons (.gF rfl rfl rfl) ?_
  refine .cons (.gF rfl rfl rfl) ?_
  refine .cons (.gF rfl rfl rfl) ?_
  refine .cons (.pF rfl rfl rfl) ?_
  refine .cons (.asg rfl rfl) ?_
  refine .nil ?_
  refine ks_n ?_
  refine ACode.ret ?_
  refine kf_ret rfl ?_ nobox
  exact leafB (by rw [memV]; first | (simp_all; done) | (rw [← nany]; simp_all; done) | (rw [← nany, decide_eq_true (by omega : m.length = totN g.1)]; simp_all) | (rw [decide_eq_false (by omega)]; simp_all))

set_option maxRecDepth 100000 in
set_option maxHeartbeats 1600000 in
theorem isIns_fn {g : Prg} (h4 : g.2.length ≤ 4) {x : Ins} {k c : Nat} {q : Prt} (hI : InsOk g x k c q) (hb4 : q.2.length ≤ 4) (hin : inV q.1 x.2.2 = true) (hsm : smN q.1) : Fn Tryz.prog 16 [] [ad (rG g), ad (rN x)] (.o (bo1 true)) [] := by
 have hk := hI.hk
 have hc := hI.hc
 have e1 := hI.e1
 have e2 := hI.e2
 refine Fn.code0 Tryz.func16 rfl rfl rfl rfl ?_
 refine ACode.seq ?_
 refine ACode.region ?_
 refine .cons (St1.boxP rfl rfl rfl rfl rfl rfl) ?_
 refine .cons (St1.boxP rfl rfl rfl rfl rfl rfl) ?_
 refine .cons (.asg rfl rfl) ?_
 refine .nil ?_
 refine ks_n ?_
 refine ACode.seq ?_
 refine ACode.drawK (by kernel_rfl) (by kernel_rfl) ?_
 refine .cons (.fP 0 0 false rfl rfl) ?_
 refine .cons (.l1 1 rfl rfl) ?_
 refine .cons (.fP 1 0 false rfl rfl) ?_
 refine .cons (.l1 1 rfl rfl) ?_
 refine .cons (.ln 43 2 48 rfl rfl rfl) ?_
 refine .cons (.sb rfl rfl rfl) ?_
 refine .cons (.cP [.tmp 6, .const (.int .i64 (0)), .tmp 10] rfl rfl rfl rfl (within_fn _ 0 _) rfl) ?_
 refine .cons (.mv rfl rfl) ?_
 refine RunK.cases 12 _ rfl (fun g12 => ?_) (fun g12 => ?_)
 ·try simp only [zs1, zs2, zs3, zs4, zs5, zs6, zs7] at g12
  refine .cons (.gT rfl rfl rfl (.fP 1 0 false rfl rfl)) ?_
  refine .cons (.gT rfl rfl rfl (.l1 1 rfl rfl)) ?_
  refine .cons (.gT rfl rfl rfl (.fP 1 0 false rfl rfl)) ?_
  refine .cons (.gT rfl rfl rfl (.l1 1 rfl rfl)) ?_
  refine .cons (.gT rfl rfl rfl (.fP 0 0 false rfl rfl)) ?_
  refine .cons (.gT rfl rfl rfl (.l1 1 rfl rfl)) ?_
  refine .cons (.gT rfl rfl rfl (.xL 43 2 48 (i := k) rfl rfl rfl rfl hI.e1 (map_at hI.hq))) ?_
  refine .cons (.gT rfl rfl rfl (.fP 1 0 false rfl rfl)) ?_
  refine .cons (.gT rfl rfl rfl (.l1 1 rfl rfl)) ?_
  refine .cons (.gT rfl rfl rfl (.ln 33 9 152 rfl rfl rfl)) ?_
  refine .cons (.gT rfl rfl rfl (.sb rfl rfl rfl)) ?_
  refine .cons (.gT rfl rfl rfl (.cP [.tmp 14, .const (.int .i64 (0)), .tmp 23] rfl rfl rfl rfl (within_fn _ 0 _) rfl)) ?_
  refine .cons (.pT rfl rfl rfl) ?_
  refine .cons (.mv rfl rfl) ?_
  refine RunK.cases 26 _ rfl (fun g26 => ?_) (fun g26 => ?_)
  ·try simp only [zs1, zs2, zs3, zs4, zs5, zs6, zs7] at g26
   refine .cons (.gT rfl rfl rfl (.fP 1 0 false rfl rfl)) ?_
   refine .cons (.gT rfl rfl rfl (.l1 1 rfl rfl)) ?_
   refine .cons (.gT rfl rfl rfl (.fP 0 0 false rfl rfl)) ?_
   refine .cons (.gT rfl rfl rfl (.l1 1 rfl rfl)) ?_
   refine .cons (.gT rfl rfl rfl (.xL 43 2 48 (i := k) rfl rfl rfl rfl hI.e1 (map_at hI.hq))) ?_
   refine .cons (.gT rfl rfl rfl (.fP 0 0 false rfl rfl)) ?_
   refine .cons (.gT rfl rfl rfl (.l1 1 rfl rfl)) ?_
   refine .cons (.gT rfl rfl rfl (.fP 2 0 false rfl rfl)) ?_
   refine .cons (.gT rfl rfl rfl (.l1 1 rfl rfl)) ?_
   refine .cons (.gT rfl rfl rfl (.cP [.tmp 33, .tmp 35] rfl rfl rfl rfl (implPointIn_fn q.1 hsm x.2.2 (by have := (npR_pt hI.pt).2; omega)) rfl)) ?_
   refine .cons (.pT rfl rfl rfl) ?_
   refine .cons (.asg rfl rfl) ?_
   refine .nil ⟨by kernel_rfl, ?_⟩
   refine ks_n ?_
   refine ACode.ret ?_
   refine kf_ret rfl ?_ nobox
   exact leafB (by first | rfl | (rw [hin]; done) | simp_all)
  ·try simp only [zs1, zs2, zs3, zs4, zs5, zs6, zs7] at g26
   exfalso; first | (rw [inB, decide_eq_true (by omega)] at g26; cases g26) | simp_all
 ·try simp only [zs1, zs2, zs3, zs4, zs5, zs6, zs7] at g12
  exfalso; rw [inB, decide_eq_true (by omega)] at g12; cases g12

set_option maxRecDepth 100000 in
set_option maxHeartbeats 1600000 in
theorem implIV_no {g : Prg} (hs : szG g ≤ 1073741824) (m : List Int) (hml : m.length ≤ 1000000) (x : Ins) (hM : memV g m = false) : Fn Tryz.prog 8 [] [ad (rG g), vD (dIs m), ad (rN x)] (.tup [nat1 0, bo1 false]) [] := by
 refine Fn.code0 Tryz.func8 rfl rfl rfl rfl ?_
 refine ACode.seq ?_
 refine ACode.region ?_
 refine .cons (St1.boxP rfl rfl rfl rfl rfl rfl) ?_
 refine .cons (St1.boxP rfl rfl rfl rfl rfl rfl) ?_
 refine .cons (.asg rfl rfl) ?_
 refine .cons (.asg rfl rfl) ?_
 refine .nil ?_
 refine ks_n ?_
 refine ACode.seq ?_
 refine ACode.seq ?_
 refine ACode.region ?_
 refine .cons (.lN 2 rfl rfl rfl) ?_
 refine .cons (.mv rfl rfl) ?_
 refine .cons (.cP [.tmp 8, .tmp 9] rfl rfl rfl rfl (implMV_fn hs m hml) rfl) ?_
 refine .cons (.nt rfl rfl) ?_
 refine .cons (.mv rfl rfl) ?_
 refine AOps.cases 12 _ rfl (fun g12 => ?_) (fun g12 => ?_)
 ·try simp only [zs1, zs2, zs3, zs4, zs5, zs6, zs7] at g12
  refine .cons (.gF rfl rfl rfl) ?_
  refine .cons (.gF rfl rfl rfl) ?_
  refine .cons (.gF rfl rfl rfl) ?_
  refine .cons (.gF rfl rfl rfl) ?_
  refine .cons (.pT rfl rfl rfl) ?_
  refine .nil ?_
  refine ks_n ?_
  refine ACode.condT rfl (fun _ => ?_) (fun h => by first | (cases h; done) | (simp [*] at h; done) | (exfalso; simp_all; done))
  refine ACode.seq ?_
  refine ACode.region ?_
  refine .cons (.asg rfl rfl) ?_
  refine .cons (.asg rfl rfl) ?_
  refine .nil ?_
  refine ks_n ?_
  refine ACode.ret ?_
  refine ks_r ?_
  refine kf_ret rfl ?_ nobox
  rfl
 ·try simp only [zs1, zs2, zs3, zs4, zs5, zs6, zs7] at g12
  exfalso; simp_all

set_option maxRecDepth 100000 in
set_option maxHeartbeats 1600000 in
theorem implIV_yes {g : Prg} (hs : szG g ≤ 1073741824) (m : List Int) (hml : m.length ≤ 1000000) (x : Ins) (hM : memV g m = true) {k c : Nat} {q : Prt} (hI : InsOk g x k c q) (hin : inV q.1 x.2.2 = true) (hsm : smN q.1) : Fn Tryz.prog 8 [] [ad (rG g), vD (dIs m), ad (rN x)] (.tup [nat1 (valE g m x.2.2 (stI g x).2), bo1 true]) [] := by
 obtain ⟨hV, hm1, hm2⟩ := memV_at hM
 obtain ⟨hS, _, _⟩ := prgV_s hV
 obtain ⟨hv, h4, hP⟩ := prgS_iff.1 hS
 have hb4 := (prtV_iff.1 (hP q (List.mem_of_getElem? hI.hq))).2.1.2
 have hpt := npR_pt hI.pt
 have hok := hI.ok
 rw [stmG, Bool.and_eq_true] at hok
 refine Fn.code0 Tryz.func8 rfl rfl rfl rfl ?_
 refine ACode.seq ?_
 refine ACode.region ?_
 refine .cons (St1.boxP rfl rfl rfl rfl rfl rfl) ?_
 refine .cons (St1.boxP rfl rfl rfl rfl rfl rfl) ?_
 refine .cons (.asg rfl rfl) ?_
 refine .cons (.asg rfl rfl) ?_
 refine .nil ?_
 refine ks_n ?_
 refine ACode.seq ?_
 refine ACode.seq ?_
 refine ACode.region ?_
 refine .cons (.lN 2 rfl rfl rfl) ?_
 refine .cons (.mv rfl rfl) ?_
 refine .cons (.cP [.tmp 8, .tmp 9] rfl rfl rfl rfl (implMV_fn hs m hml) rfl) ?_
 refine .cons (.nt rfl rfl) ?_
 refine .cons (.mv rfl rfl) ?_
 refine AOps.cases 12 _ rfl (fun g12 => ?_) (fun g12 => ?_)
 ·try simp only [zs1, zs2, zs3, zs4, zs5, zs6, zs7] at g12
  exfalso; simp_all
 ·try simp only [zs1, zs2, zs3, zs4, zs5, zs6, zs7] at g12
  refine .cons (.gT rfl rfl rfl (.lN 2 rfl rfl rfl)) ?_
  refine .cons (.gT rfl rfl rfl (.lN 3 rfl rfl rfl)) ?_
  refine .cons (.gT rfl rfl rfl (.cP [.tmp 13, .tmp 14] rfl rfl rfl rfl (isIns_fn h4 hI hb4 hin hsm) rfl)) ?_
  refine .cons (.gT rfl rfl rfl (.nt rfl rfl)) ?_
  refine .cons (.pF rfl rfl rfl) ?_
  refine .nil ?_
  refine ks_n ?_
  refine ACode.condT rfl (fun h17 => ?_) (fun h17 => ?_)
  ·try simp only [zs1, zs2, zs3, zs4, zs5, zs6, zs7] at h17
   exfalso; simp_all
  ·try simp only [zs1, zs2, zs3, zs4, zs5, zs6, zs7] at h17
   refine ACode.skip ?_
   refine ks_n ?_
   refine ACode.seq ?_
   refine ACode.drawK (by kernel_rfl) (by kernel_rfl) ?_
   refine .cons (.lN 2 rfl rfl rfl) ?_
   refine .cons (.mv rfl rfl) ?_
   refine .cons (.lN 2 rfl rfl rfl) ?_
   refine .cons (.lN 3 rfl rfl rfl) ?_
   refine .cons (.cP [.tmp 20, .tmp 21] rfl rfl rfl rfl (stmt_fn hI) rfl) ?_
   refine .cons (.fN 2 7 rfl rfl) ?_
   refine .cons (.fP 2 0 false rfl rfl) ?_
   refine .cons (.l1 1 rfl rfl) ?_
   refine .cons (.cP [.tmp 18, .tmp 19, .tmp 23, .tmp 25] rfl rfl rfl rfl (value_fn hv hm1 hm2 hpt.1 hpt.2 (L := 5) (stI g x).2 (stmtV_ex hI.sv).1 (fun a ha => List.all_eq_true.1 hok.2 a ha)) rfl) ?_
   refine .cons (.asg rfl rfl) ?_
   refine .cons (.asg rfl rfl) ?_
   refine .nil ⟨by kernel_rfl, ?_⟩
   refine ks_n ?_
   refine ACode.ret ?_
   refine kf_ret rfl ?_ nobox
   rfl
theorem two_boxT {σ : St} {k1 k2 : Nat} {e1 e2 : TypeId} {s1 s2 : Nat} {r1 r2 : List (List C)} (h1 : lk σ (.b k1) = .b e1 s1 r1) (h2 : lk σ (.b k2) = .b e2 s2 r2) : ∀ k e sz rows, lk [(.b k1, .b e1 s1 r1), (.u k1, .u), (.b k2, .b e2 s2 r2), (.u k2, .u)] (.b k) = .b e sz rows → lk σ (.b k) = .b e sz rows := fun k e sz rows h => by
  by_cases hk : k = k1
  · subst hk; rw [lk_same] at h; rw [h1]; exact h
  · rw [lk_other _ _ _ _ (by simpa using fun e => hk e.symm), lk_other _ _ _ _ (by simp)] at h
    exact one_box h2 k e sz rows h
theorem two_numT {σ : St} {k1 k2 : Nat} {e1 e2 : TypeId} {s1 s2 : Nat} {r1 r2 : List (List C)} (hk : (Nat.ble 100 k1 && Nat.ble 100 k2) = true) : ∀ k, k < 100 → Al (lk [(.b k1, .b e1 s1 r1), (.u k1, .u), (.b k2, .b e2 s2 r2), (.u k2, .u)]) k → Al (lk σ) k := fun k h ⟨e, sz, rows, h1⟩ => by
  rw [Bool.and_eq_true] at hk
  have a1 := Nat.le_of_ble_eq_true hk.1
  rw [lk_other _ _ _ _ (by simp; omega), lk_other _ _ _ _ (by simp)] at h1
  exact one_num hk.2 k h ⟨e, sz, rows, h1⟩
theorem outS_two {inv : Inv} {k1 k2 : Nat} {e1 e2 : TypeId} {s1 s2 : Nat} {r1 r2 : List (List D)} : outS inv [(.b k1, .b e1 s1 (dR r1)), (.u k1, .u), (.b k2, .b e2 s2 (dR r2)), (.u k2, .u)] = [(.b (asc inv k1), .b e1 s1 (dR r1)), (.u (asc inv k1), .u), (.b (asc inv k2), .b e2 s2 (dR r2)), (.u (asc inv k2), .u)] := by simp [outS, renR_dR]

set_option maxRecDepth 100000 in
set_option maxHeartbeats 1600000 in
theorem l3CopyAcc_own (a : Acc) (h0 : 0 < a.2.length) (ha : a.2.length ≤ 1073741824) (hq : ∀ x ∈ a.2, x.1.length ≤ 1073741824) : Fn Tryz.prog 30 [] [ad (rC a)] (.o (.agg [.d (dS a.1), .own 101 2 a.2.length])) [(.b 101, .b 28 2 (dR (a.2.map rA))), (.u 101, .u)] := by
 refine Fn.of_code Tryz.func30 rfl rfl HB.nil rfl rfl HB.nil.data rfl (one_num rfl) ?_
 refine ACode.seq ?_
 refine ACode.region ?_
 refine .cons (St1.boxP rfl rfl rfl rfl rfl rfl) ?_
 refine .cons (.al 102 [.string ByteArray.empty, .slice none 0 0] rfl rfl rfl) ?_
 refine .nil ?_
 refine ks_n ?_
 refine ACode.seq ?_
 refine ACode.region ?_
 refine .cons (.fP 0 0 false rfl rfl) ?_
 refine .cons (.l1 1 rfl rfl) ?_
 refine .cons (.bu [(0, .tmp 6)] [(0, 1), (1, 1)] [.string ByteArray.empty, .slice none 0 0] rfl rfl rfl rfl rfl) ?_
 refine .cons (.al 103 [.string ByteArray.empty, .slice none 0 0] rfl rfl rfl) ?_
 refine .cons (.sT 2 true rfl rfl rfl rfl rfl rfl rfl) ?_
 refine .nil ?_
 refine ks_n ?_
 refine ACode.seq ?_
 refine ACode.seq ?_
 refine ACode.region ?_
 refine .cons (.asg rfl rfl) ?_
 refine .nil ?_
 refine ks_n ?_
 refine ACode.block ?_
 refine .loopK (fun m σ => (∃ i : Nat, m = a.2.length - i ∧ (i = 0) ∧ σ = [(.t 1, .v (.o (.c (.ptr (rC a))))), (.t 2, .v (.o (.c (.box 110 2 0 0)))), (.t 3, .v (.o (.c (.box 111 2 0 0)))), (.t 4, .v (.o (nat1 (i : Nat)))), (.b 110, .b 25 2 [[.d (dS ByteArray.empty), .d (.val (.slice none 0 0))]]), (.u 110, .u), (.b 111, .b 25 2 [[.d (dS a.1), .d (.val (.slice none 0 0))]]), (.u 111, .u)]) ∨ (∃ i : Nat, m = a.2.length - i ∧ (1 ≤ i) ∧ (i ≤ a.2.length) ∧ σ = [(.t 1, .v (.o (.c (.ptr (rC a))))), (.t 2, .v (.o (.c (.box 110 2 0 0)))), (.t 3, .v (.o (.c (.box 111 2 0 0)))), (.t 4, .v (.o (nat1 (i : Nat)))), (.b 110, .b 25 2 [[.d (dS ByteArray.empty), .d (.val (.slice none 0 0))]]), (.u 110, .u), (.b 112, .b 28 2 (dR ((a.2.take i).map rA))), (.u 112, .u), (.b 111, .b 25 2 [[.d (dS a.1), .own 112 2 (i)]]), (.u 111, .u)])) [(110, 102), (111, 103)] (.inl ⟨0, rfl, rfl, rfl⟩) ⟨ks rfl .dt, ks rfl (.c .bx), ks rfl (.c .bx), ks rfl .dt, kb 102 rfl (.cons (.cons .dt (.cons .dt Ctos.nil)) .nil), kb 103 rfl (.cons (.cons .dt (.cons .dt Ctos.nil)) .nil), trivial⟩ ?_
 rintro m σ (⟨i, hm0, rfl, rfl⟩ | ⟨i, hm0, hi1, hi2, rfl⟩)
 ·skip
  refine ACode.seq ?_
  refine ACode.seq ?_
  refine ACode.region ?_
  refine .cons (.mv rfl rfl) ?_
  refine .cons (.fP 1 0 false rfl rfl) ?_
  refine .cons (.l1 1 rfl rfl) ?_
  refine .cons (.ln 28 2 32 rfl rfl rfl) ?_
  refine .cons (.ls rfl rfl rfl) ?_
  refine .nil ?_
  refine ks_n ?_
  refine .cD rfl (fun h12 => ?_) (fun h12 => ?_)
  ·skip
   obtain ⟨x, hx1⟩ : ∃ x, a.2[0]? = some x := ⟨_, List.getElem?_eq_getElem (by omega)⟩
   refine ACode.skip ?_
   refine ks_n ?_
   refine ACode.seq ?_
   refine ACode.block ?_
   refine ACode.drawK (by kernel_rfl) (by kernel_rfl) ?_
   refine .cons (.fB 1 0 false rfl rfl rfl) ?_
   refine .cons (.b1 1 rfl rfl rfl rfl rfl rfl) ?_
   refine .cons (.fP 1 0 false rfl rfl) ?_
   refine .cons (.l1 1 rfl rfl) ?_
   refine .cons (.mv rfl rfl) ?_
   refine .cons (.xL 28 2 32 rfl rfl rfl rfl rfl) ?_
   refine .cons (.lN 2 rfl rfl rfl) ?_
   refine .cons (.cP [.tmp 21] rfl rfl rfl rfl (l3CopyAff_fn (hq x (List.mem_of_getElem? hx1))) rfl) ?_
   refine .cons (.li 28 1 0 [.tmp 22] rfl rfl rfl rfl rfl rfl) ?_
   refine .cons (St1.appN (k' := 124) (e := 28) (sz := 1) (by' := 32) rfl rfl rfl rfl rfl (by kernel_rfl) rfl rfl rfl (by simp) (by first | (simp [dR]; done) | (simp [dR]; omega)) rfl rfl) ?_
   refine .cons (.fB 1 0 false rfl rfl rfl) ?_
   refine .cons (.sT 1 false rfl rfl rfl rfl rfl rfl rfl) ?_
   refine .nil ⟨by kernel_rfl, ?_⟩
   refine kb_n ?_
   refine ks_n ?_
   refine ACode.region ?_
   refine .cons (.mv rfl rfl) ?_
   refine .cons (.pl rfl rfl rfl) ?_
   refine .cons (.asg rfl rfl) ?_
   refine .nil ?_
   refine kl_k [(110, 110), (111, 111), (112, 124)] (.inr ⟨1, rfl, by omega, by omega, rfl⟩) ⟨ks rfl .dt, ks rfl (.c .bx), ks rfl (.c .bx), ks rfl .dt, kb 110 rfl (.cons (.cons .dt (.cons .dt Ctos.nil)) .nil), kb 124 rfl (.dt rfl (by first | exact dR_take (rA) hx1 | exact dR_take1 (rA) hx1 | rfl | (simp [dR]; done))), kb 111 rfl (.cons (.cons .dt (.cons .ow Ctos.nil)) .nil), trivial⟩
  ·skip
   omega
 ·skip
  refine ACode.seq ?_
  refine ACode.seq ?_
  refine ACode.region ?_
  refine .cons (.mv rfl rfl) ?_
  refine .cons (.fP 1 0 false rfl rfl) ?_
  refine .cons (.l1 1 rfl rfl) ?_
  refine .cons (.ln 28 2 32 rfl rfl rfl) ?_
  refine .cons (.ls rfl rfl rfl) ?_
  refine .nil ?_
  refine ks_n ?_
  refine .cD rfl (fun h12 => ?_) (fun h12 => ?_)
  ·skip
   obtain ⟨x, hx1⟩ : ∃ x, a.2[i]? = some x := ⟨_, List.getElem?_eq_getElem (by omega)⟩
   refine ACode.skip ?_
   refine ks_n ?_
   refine ACode.seq ?_
   refine ACode.block ?_
   refine ACode.drawK (by kernel_rfl) (by kernel_rfl) ?_
   refine .cons (.fB 1 0 false rfl rfl rfl) ?_
   refine .cons (.b1 1 rfl rfl rfl rfl rfl rfl) ?_
   refine .cons (.fP 1 0 false rfl rfl) ?_
   refine .cons (.l1 1 rfl rfl) ?_
   refine .cons (.mv rfl rfl) ?_
   refine .cons (.xL 28 2 32 rfl rfl rfl rfl rfl) ?_
   refine .cons (.lN 2 rfl rfl rfl) ?_
   refine .cons (.cP [.tmp 21] rfl rfl rfl rfl (l3CopyAff_fn (hq x (List.mem_of_getElem? hx1))) rfl) ?_
   refine .cons (.li 28 1 0 [.tmp 22] rfl rfl rfl rfl rfl rfl) ?_
   refine .cons (St1.appB (k' := 124) (e := 28) (sz := 1) (by' := 32) rfl rfl rfl rfl rfl (by kernel_rfl) rfl rfl rfl rfl (by first | (simp [dR]; done) | (simp [dR]; omega)) (by first | (simp [dR]; done) | (simp [dR]; omega)) rfl rfl rfl) ?_
   refine .cons (.fB 1 0 false rfl rfl rfl) ?_
   refine .cons (.sT 1 false rfl rfl rfl rfl rfl rfl rfl) ?_
   refine .nil ⟨by kernel_rfl, ?_⟩
   refine kb_n ?_
   refine ks_n ?_
   refine ACode.region ?_
   refine .cons (.mv rfl rfl) ?_
   refine .cons (.pl rfl rfl rfl) ?_
   refine .cons (.asg rfl rfl) ?_
   refine .nil ?_
   refine kl_k [(110, 110), (111, 111), (112, 124)] (.inr ⟨i + 1, rfl, by omega, by omega, rfl⟩) ⟨ks rfl .dt, ks rfl (.c .bx), ks rfl (.c .bx), ks rfl .dt, kb 110 rfl (.cons (.cons .dt (.cons .dt Ctos.nil)) .nil), kb 124 rfl (.dt rfl (by first | exact dR_take (rA) hx1 | exact dR_take1 (rA) hx1 | rfl | (simp [dR]; done))), kb 111 rfl (.cons (.cons .dt (.cons .ow Ctos.nil)) .nil), trivial⟩
  ·skip
   obtain rfl : i = a.2.length := by omega
   refine ACode.exit ?_
   refine ks_e ?_
   refine kl_e ?_
   refine kb_hit ?_
   refine ks_n ?_
   refine ACode.seq ?_
   refine ACode.region ?_
   refine .cons (.bN 2 rfl rfl rfl rfl rfl rfl) ?_
   refine .cons (.sT 2 true rfl rfl rfl rfl rfl rfl rfl) ?_
   refine .nil ?_
   refine ks_n ?_
   refine ACode.ret ?_
   refine kf_wret [(.t 2, .v (.o (.c (.box 100 2 0 0)))), (.b 101, .b 28 2 (dR (a.2.map rA))), (.u 101, .u), (.b 100, .b 25 2 [[.d (dS a.1), .own 101 2 (a.2.length)]]), (.u 100, .u)] (Wk.keep [(100, 110), (101, 112)] rfl rfl ⟨ks rfl (.c .bx), kb 112 rfl (.dt rfl (by rw [List.take_length])), kb 110 rfl (.cons (.cons .dt (.cons .ow Ctos.nil)) .nil), trivial⟩) rfl ?_ (one_box rfl)
   rfl

set_option maxRecDepth 100000 in
set_option maxHeartbeats 1600000 in
theorem l3CopyEx_own (e : Ex) (hi : e.i.1.length ≤ 1073741824) (hr : e.r.2.length ≤ 1073741824) (hq : ∀ x ∈ e.r.2, x.1.length ≤ 1073741824) (hk : e.ks.length ≤ 1073741824) (hz : ∀ x ∈ e.ks, szE x ≤ 1073741824) (h0 : 0 < e.ks.length) : Fn Tryz.prog 65 [] [ad (rX e)] (.o (.agg [.d (dI e.k), .d (dI e.n), .d (dIs e.i.1), .d (dI e.i.2), .d (dS e.r.1), .d (dAs e.r.2), .own 101 7 e.ks.length])) [(.b 101, .b 31 7 (dR (e.ks.map rE))), (.u 101, .u)] := by
 refine Fn.of_code Tryz.func65 rfl rfl HB.nil rfl rfl HB.nil.data rfl (one_num rfl) ?_
 refine ACode.seq ?_
 refine ACode.region ?_
 refine .cons (St1.boxP rfl rfl rfl rfl rfl rfl) ?_
 refine .cons (.al 102 [.int .i64 0, .int .i64 0, .slice none 0 0, .int .i64 0, .string ByteArray.empty, .slice none 0 0, .slice none 0 0] rfl rfl rfl) ?_
 refine .nil ?_
 refine ks_n ?_
 refine ACode.seq ?_
 refine ACode.drawK (by kernel_rfl) (by kernel_rfl) ?_
 refine .cons (.fP 0 0 false rfl rfl) ?_
 refine .cons (.l1 1 rfl rfl) ?_
 refine .cons (.fP 1 0 false rfl rfl) ?_
 refine .cons (.l1 1 rfl rfl) ?_
 refine .cons (.fP 2 1 true rfl rfl) ?_
 refine .cons (.lN 2 rfl rfl rfl) ?_
 refine .cons (.cP [.tmp 10] rfl rfl rfl rfl (l3CopyAff_fn hi) rfl) ?_
 refine .cons (.fP 4 1 true rfl rfl) ?_
 refine .cons (.lN 2 rfl rfl rfl) ?_
 refine .cons (.cP [.tmp 13] rfl rfl rfl rfl (l3CopyAcc_fn e.r hr hq) rfl) ?_
 refine .cons (.bu [(0, .tmp 6), (1, .tmp 8), (2, .tmp 11), (3, .tmp 14)] [(0, 1), (1, 1), (2, 2), (4, 2), (6, 1)] [.int .i64 0, .int .i64 0, .slice none 0 0, .int .i64 0, .string ByteArray.empty, .slice none 0 0, .slice none 0 0] rfl rfl rfl rfl rfl) ?_
 refine .cons (.al 103 [.int .i64 0, .int .i64 0, .slice none 0 0, .int .i64 0, .string ByteArray.empty, .slice none 0 0, .slice none 0 0] rfl rfl rfl) ?_
 refine .cons (.sT 7 true rfl rfl rfl rfl rfl rfl rfl) ?_
 refine .nil ⟨by kernel_rfl, ?_⟩
 refine ks_n ?_
 refine ACode.seq ?_
 refine ACode.seq ?_
 refine ACode.region ?_
 refine .cons (.asg rfl rfl) ?_
 refine .nil ?_
 refine ks_n ?_
 refine ACode.block ?_
 refine .loopK (fun m σ => (∃ i : Nat, m = e.ks.length - i ∧ (i = 0) ∧ σ = [(.t 1, .v (.o (.c (.ptr (rX e))))), (.t 2, .v (.o (.c (.box 110 7 0 0)))), (.t 3, .v (.o (.c (.box 111 7 0 0)))), (.t 4, .v (.o (nat1 (i : Nat)))), (.b 110, .b 31 7 [[.d (dI 0), .d (dI 0), .d (.val (.slice none 0 0)), .d (dI 0), .d (dS ByteArray.empty), .d (.val (.slice none 0 0)), .d (.val (.slice none 0 0))]]), (.u 110, .u), (.b 111, .b 31 7 [[.d (dI e.k), .d (dI e.n), .d (dIs e.i.1), .d (dI e.i.2), .d (dS e.r.1), .d (dAs e.r.2), .d (.val (.slice none 0 0))]]), (.u 111, .u)]) ∨ (∃ i : Nat, m = e.ks.length - i ∧ (1 ≤ i) ∧ (i ≤ e.ks.length) ∧ σ = [(.t 1, .v (.o (.c (.ptr (rX e))))), (.t 2, .v (.o (.c (.box 110 7 0 0)))), (.t 3, .v (.o (.c (.box 111 7 0 0)))), (.t 4, .v (.o (nat1 (i : Nat)))), (.b 110, .b 31 7 [[.d (dI 0), .d (dI 0), .d (.val (.slice none 0 0)), .d (dI 0), .d (dS ByteArray.empty), .d (.val (.slice none 0 0)), .d (.val (.slice none 0 0))]]), (.u 110, .u), (.b 112, .b 31 7 (dR ((e.ks.take i).map fun x => rX x))), (.u 112, .u), (.b 111, .b 31 7 [[.d (dI e.k), .d (dI e.n), .d (dIs e.i.1), .d (dI e.i.2), .d (dS e.r.1), .d (dAs e.r.2), .own 112 7 (i)]]), (.u 111, .u)])) [(110, 102), (111, 103)] (.inl ⟨0, rfl, rfl, rfl⟩) ⟨ks rfl .dt, ks rfl (.c .bx), ks rfl (.c .bx), ks rfl .dt, kb 102 rfl (.cons (.cons .dt (.cons .dt (.cons .dt (.cons .dt (.cons .dt (.cons .dt (.cons .dt Ctos.nil))))))) .nil), kb 103 rfl (.cons (.cons .dt (.cons .dt (.cons .dt (.cons .dt (.cons .dt (.cons .dt (.cons .dt Ctos.nil))))))) .nil), trivial⟩ ?_
 rintro m σ (⟨i, hm0, rfl, rfl⟩ | ⟨i, hm0, hi1, hi2, rfl⟩)
 ·skip
  refine ACode.seq ?_
  refine ACode.seq ?_
  refine ACode.region ?_
  refine .cons (.mv rfl rfl) ?_
  refine .cons (.fP 6 0 false rfl rfl) ?_
  refine .cons (.l1 1 rfl rfl) ?_
  refine .cons (.ln 31 7 112 rfl rfl rfl) ?_
  refine .cons (.ls rfl rfl rfl) ?_
  refine .nil ?_
  refine ks_n ?_
  refine .cD rfl (fun h20 => ?_) (fun h20 => ?_)
  ·skip
   obtain ⟨x, hx1⟩ : ∃ x, e.ks[0]? = some x := ⟨_, List.getElem?_eq_getElem (by omega)⟩
   refine ACode.skip ?_
   refine ks_n ?_
   refine ACode.seq ?_
   refine ACode.block ?_
   refine ACode.drawK (by kernel_rfl) (by kernel_rfl) ?_
   refine .cons (.fB 6 0 false rfl rfl rfl) ?_
   refine .cons (.b1 1 rfl rfl rfl rfl rfl rfl) ?_
   refine .cons (.fP 6 0 false rfl rfl) ?_
   refine .cons (.l1 1 rfl rfl) ?_
   refine .cons (.mv rfl rfl) ?_
   refine .cons (.xL 31 7 112 rfl rfl rfl rfl rfl (rE_at hx1)) ?_
   refine .cons (.lN 7 rfl rfl rfl) ?_
   refine .cons (.cP [.tmp 29] rfl rfl rfl rfl (l3CopyEx_fn x (hz x (List.mem_of_getElem? hx1))) rfl) ?_
   refine .cons (.li 31 6 0 [.tmp 30] rfl rfl rfl rfl rfl rfl) ?_
   refine .cons (St1.appN (k' := 132) (e := 31) (sz := 6) (by' := 112) rfl rfl rfl rfl rfl (by kernel_rfl) rfl rfl rfl (by simp) (by first | (simp [dR]; done) | (simp [dR]; omega)) rfl rfl) ?_
   refine .cons (.fB 6 0 false rfl rfl rfl) ?_
   refine .cons (.sT 1 false rfl rfl rfl rfl rfl rfl rfl) ?_
   refine .nil ⟨by kernel_rfl, ?_⟩
   refine kb_n ?_
   refine ks_n ?_
   refine ACode.region ?_
   refine .cons (.mv rfl rfl) ?_
   refine .cons (.pl rfl rfl rfl) ?_
   refine .cons (.asg rfl rfl) ?_
   refine .nil ?_
   refine kl_k [(110, 110), (111, 111), (112, 132)] (.inr ⟨1, rfl, by omega, by omega, rfl⟩) ⟨ks rfl .dt, ks rfl (.c .bx), ks rfl (.c .bx), ks rfl .dt, kb 110 rfl (.cons (.cons .dt (.cons .dt (.cons .dt (.cons .dt (.cons .dt (.cons .dt (.cons .dt Ctos.nil))))))) .nil), kb 132 rfl (.dt rfl (by first | exact dR_take (fun x => rX x) hx1 | exact dR_take1 (fun x => rX x) hx1 | rfl | (simp [dR]; done))), kb 111 rfl (.cons (.cons .dt (.cons .dt (.cons .dt (.cons .dt (.cons .dt (.cons .dt (.cons .ow Ctos.nil))))))) .nil), trivial⟩
  ·skip
   omega
 ·skip
  refine ACode.seq ?_
  refine ACode.seq ?_
  refine ACode.region ?_
  refine .cons (.mv rfl rfl) ?_
  refine .cons (.fP 6 0 false rfl rfl) ?_
  refine .cons (.l1 1 rfl rfl) ?_
  refine .cons (.ln 31 7 112 rfl rfl rfl) ?_
  refine .cons (.ls rfl rfl rfl) ?_
  refine .nil ?_
  refine ks_n ?_
  refine .cD rfl (fun h20 => ?_) (fun h20 => ?_)
  ·skip
   obtain ⟨x, hx1⟩ : ∃ x, e.ks[i]? = some x := ⟨_, List.getElem?_eq_getElem (by omega)⟩
   refine ACode.skip ?_
   refine ks_n ?_
   refine ACode.seq ?_
   refine ACode.block ?_
   refine ACode.drawK (by kernel_rfl) (by kernel_rfl) ?_
   refine .cons (.fB 6 0 false rfl rfl rfl) ?_
   refine .cons (.b1 1 rfl rfl rfl rfl rfl rfl) ?_
   refine .cons (.fP 6 0 false rfl rfl) ?_
   refine .cons (.l1 1 rfl rfl) ?_
   refine .cons (.mv rfl rfl) ?_
   refine .cons (.xL 31 7 112 rfl rfl rfl rfl rfl (rE_at hx1)) ?_
   refine .cons (.lN 7 rfl rfl rfl) ?_
   refine .cons (.cP [.tmp 29] rfl rfl rfl rfl (l3CopyEx_fn x (hz x (List.mem_of_getElem? hx1))) rfl) ?_
   refine .cons (.li 31 6 0 [.tmp 30] rfl rfl rfl rfl rfl rfl) ?_
   refine .cons (St1.appB (k' := 132) (e := 31) (sz := 6) (by' := 112) rfl rfl rfl rfl rfl (by kernel_rfl) rfl rfl rfl rfl (by first | (simp [dR]; done) | (simp [dR]; omega)) (by first | (simp [dR]; done) | (simp [dR]; omega)) rfl rfl rfl) ?_
   refine .cons (.fB 6 0 false rfl rfl rfl) ?_
   refine .cons (.sT 1 false rfl rfl rfl rfl rfl rfl rfl) ?_
   refine .nil ⟨by kernel_rfl, ?_⟩
   refine kb_n ?_
   refine ks_n ?_
   refine ACode.region ?_
   refine .cons (.mv rfl rfl) ?_
   refine .cons (.pl rfl rfl rfl) ?_
   refine .cons (.asg rfl rfl) ?_
   refine .nil ?_
   refine kl_k [(110, 110), (111, 111), (112, 132)] (.inr ⟨i + 1, rfl, by omega, by omega, rfl⟩) ⟨ks rfl .dt, ks rfl (.c .bx), ks rfl (.c .bx), ks rfl .dt, kb 110 rfl (.cons (.cons .dt (.cons .dt (.cons .dt (.cons .dt (.cons .dt (.cons .dt (.cons .dt Ctos.nil))))))) .nil), kb 132 rfl (.dt rfl (by first | exact dR_take (fun x => rX x) hx1 | exact dR_take1 (fun x => rX x) hx1 | rfl | (simp [dR]; done))), kb 111 rfl (.cons (.cons .dt (.cons .dt (.cons .dt (.cons .dt (.cons .dt (.cons .dt (.cons .ow Ctos.nil))))))) .nil), trivial⟩
  ·skip
   obtain rfl : i = e.ks.length := by omega
   refine ACode.exit ?_
   refine ks_e ?_
   refine kl_e ?_
   refine kb_hit ?_
   refine ks_n ?_
   refine ACode.seq ?_
   refine ACode.region ?_
   refine .cons (.bN 7 rfl rfl rfl rfl rfl rfl) ?_
   refine .cons (.sT 7 true rfl rfl rfl rfl rfl rfl rfl) ?_
   refine .nil ?_
   refine ks_n ?_
   refine ACode.ret ?_
   refine kf_wret [(.t 2, .v (.o (.c (.box 100 7 0 0)))), (.b 101, .b 31 7 (dR (e.ks.map rE))), (.u 101, .u), (.b 100, .b 31 7 [[.d (dI e.k), .d (dI e.n), .d (dIs e.i.1), .d (dI e.i.2), .d (dS e.r.1), .d (dAs e.r.2), .own 101 7 (e.ks.length)]]), (.u 100, .u)] (Wk.keep [(100, 110), (101, 112)] rfl rfl ⟨ks rfl (.c .bx), kb 112 rfl (.dt rfl (by first | exact (dR_ex id _).trans (by rw [List.map_id]) | (rw [List.take_length]; done))), kb 110 rfl (.cons (.cons .dt (.cons .dt (.cons .dt (.cons .dt (.cons .dt (.cons .dt (.cons .ow Ctos.nil))))))) .nil), trivial⟩) rfl ?_ (one_box rfl)
   rfl

set_option maxRecDepth 100000 in
set_option maxHeartbeats 1600000 in
theorem l3CopyEx_nil (e : Ex) (hi : e.i.1.length ≤ 1073741824) (hr : e.r.2.length ≤ 1073741824) (hq : ∀ x ∈ e.r.2, x.1.length ≤ 1073741824) (hk : e.ks.length ≤ 1073741824) (hz : ∀ x ∈ e.ks, szE x ≤ 1073741824) (h0 : e.ks.length = 0) : Fn Tryz.prog 65 [] [ad (rX e)] (.o (.agg [.d (dI e.k), .d (dI e.n), .d (dIs e.i.1), .d (dI e.i.2), .d (dS e.r.1), .d (dAs e.r.2), .d (.val (.slice none 0 0))])) [] := by
 refine Fn.code0 Tryz.func65 rfl rfl rfl rfl ?_
 refine ACode.seq ?_
 refine ACode.region ?_
 refine .cons (St1.boxP rfl rfl rfl rfl rfl rfl) ?_
 refine .cons (.al 102 [.int .i64 0, .int .i64 0, .slice none 0 0, .int .i64 0, .string ByteArray.empty, .slice none 0 0, .slice none 0 0] rfl rfl rfl) ?_
 refine .nil ?_
 refine ks_n ?_
 refine ACode.seq ?_
 refine ACode.drawK (by kernel_rfl) (by kernel_rfl) ?_
 refine .cons (.fP 0 0 false rfl rfl) ?_
 refine .cons (.l1 1 rfl rfl) ?_
 refine .cons (.fP 1 0 false rfl rfl) ?_
 refine .cons (.l1 1 rfl rfl) ?_
 refine .cons (.fP 2 1 true rfl rfl) ?_
 refine .cons (.lN 2 rfl rfl rfl) ?_
 refine .cons (.cP [.tmp 10] rfl rfl rfl rfl (l3CopyAff_fn hi) rfl) ?_
 refine .cons (.fP 4 1 true rfl rfl) ?_
 refine .cons (.lN 2 rfl rfl rfl) ?_
 refine .cons (.cP [.tmp 13] rfl rfl rfl rfl (l3CopyAcc_fn e.r hr hq) rfl) ?_
 refine .cons (.bu [(0, .tmp 6), (1, .tmp 8), (2, .tmp 11), (3, .tmp 14)] [(0, 1), (1, 1), (2, 2), (4, 2), (6, 1)] [.int .i64 0, .int .i64 0, .slice none 0 0, .int .i64 0, .string ByteArray.empty, .slice none 0 0, .slice none 0 0] rfl rfl rfl rfl rfl) ?_
 refine .cons (.al 103 [.int .i64 0, .int .i64 0, .slice none 0 0, .int .i64 0, .string ByteArray.empty, .slice none 0 0, .slice none 0 0] rfl rfl rfl) ?_
 refine .cons (.sT 7 true rfl rfl rfl rfl rfl rfl rfl) ?_
 refine .nil ⟨by kernel_rfl, ?_⟩
 refine ks_n ?_
 refine ACode.seq ?_
 refine ACode.seq ?_
 refine ACode.region ?_
 refine .cons (.asg rfl rfl) ?_
 refine .nil ?_
 refine ks_n ?_
 refine ACode.block ?_
 refine .loopK (fun m σ => (∃ i : Nat, m = e.ks.length - i ∧ (i = 0) ∧ σ = [(.t 1, .v (.o (.c (.ptr (rX e))))), (.t 2, .v (.o (.c (.box 110 7 0 0)))), (.t 3, .v (.o (.c (.box 111 7 0 0)))), (.t 4, .v (.o (nat1 (i : Nat)))), (.b 110, .b 31 7 [[.d (dI 0), .d (dI 0), .d (.val (.slice none 0 0)), .d (dI 0), .d (dS ByteArray.empty), .d (.val (.slice none 0 0)), .d (.val (.slice none 0 0))]]), (.u 110, .u), (.b 111, .b 31 7 [[.d (dI e.k), .d (dI e.n), .d (dIs e.i.1), .d (dI e.i.2), .d (dS e.r.1), .d (dAs e.r.2), .d (.val (.slice none 0 0))]]), (.u 111, .u)]) ∨ (∃ i : Nat, m = e.ks.length - i ∧ (1 ≤ i) ∧ (i ≤ e.ks.length) ∧ σ = [(.t 1, .v (.o (.c (.ptr (rX e))))), (.t 2, .v (.o (.c (.box 110 7 0 0)))), (.t 3, .v (.o (.c (.box 111 7 0 0)))), (.t 4, .v (.o (nat1 (i : Nat)))), (.b 110, .b 31 7 [[.d (dI 0), .d (dI 0), .d (.val (.slice none 0 0)), .d (dI 0), .d (dS ByteArray.empty), .d (.val (.slice none 0 0)), .d (.val (.slice none 0 0))]]), (.u 110, .u), (.b 112, .b 31 7 (dR ((e.ks.take i).map fun x => rX x))), (.u 112, .u), (.b 111, .b 31 7 [[.d (dI e.k), .d (dI e.n), .d (dIs e.i.1), .d (dI e.i.2), .d (dS e.r.1), .d (dAs e.r.2), .own 112 7 (i)]]), (.u 111, .u)])) [(110, 102), (111, 103)] (.inl ⟨0, rfl, rfl, rfl⟩) ⟨ks rfl .dt, ks rfl (.c .bx), ks rfl (.c .bx), ks rfl .dt, kb 102 rfl (.cons (.cons .dt (.cons .dt (.cons .dt (.cons .dt (.cons .dt (.cons .dt (.cons .dt Ctos.nil))))))) .nil), kb 103 rfl (.cons (.cons .dt (.cons .dt (.cons .dt (.cons .dt (.cons .dt (.cons .dt (.cons .dt Ctos.nil))))))) .nil), trivial⟩ ?_
 rintro m σ (⟨i, hm0, rfl, rfl⟩ | ⟨i, hm0, hi1, hi2, rfl⟩)
 ·skip
  refine ACode.seq ?_
  refine ACode.seq ?_
  refine ACode.region ?_
  refine .cons (.mv rfl rfl) ?_
  refine .cons (.fP 6 0 false rfl rfl) ?_
  refine .cons (.l1 1 rfl rfl) ?_
  refine .cons (.ln 31 7 112 rfl rfl rfl) ?_
  refine .cons (.ls rfl rfl rfl) ?_
  refine .nil ?_
  refine ks_n ?_
  refine .cD rfl (fun h20 => ?_) (fun h20 => ?_)
  ·skip
   omega
  ·skip
   have hn : e.ks = [] := List.eq_nil_of_length_eq_zero (by omega)
   refine ACode.exit ?_
   refine ks_e ?_
   refine kl_e ?_
   refine kb_hit ?_
   refine ks_n ?_
   refine ACode.seq ?_
   refine ACode.region ?_
   refine .cons (.bN 7 rfl rfl rfl rfl rfl rfl) ?_
   refine .cons (.sT 7 true rfl rfl rfl rfl rfl rfl rfl) ?_
   refine .nil ?_
   refine ks_n ?_
   refine ACode.ret ?_
   refine kf_wret [(.t 2, .v (.o (.c (.box 100 7 0 0)))), (.b 100, .b 31 7 [[.d (dI e.k), .d (dI e.n), .d (dIs e.i.1), .d (dI e.i.2), .d (dS e.r.1), .d (dAs e.r.2), .d (.val (.slice none 0 0))]]), (.u 100, .u)] (Wk.keep [(100, 110)] rfl rfl ⟨ks rfl (.c .bx), kb 110 rfl (.cons (.cons .dt (.cons .dt (.cons .dt (.cons .dt (.cons .dt (.cons .dt (.cons .dt Ctos.nil))))))) .nil), trivial⟩) rfl ?_ nobox
   rfl
 ·skip
  refine ACode.seq ?_
  refine ACode.seq ?_
  refine ACode.region ?_
  refine .cons (.mv rfl rfl) ?_
  refine .cons (.fP 6 0 false rfl rfl) ?_
  refine .cons (.l1 1 rfl rfl) ?_
  refine .cons (.ln 31 7 112 rfl rfl rfl) ?_
  refine .cons (.ls rfl rfl rfl) ?_
  refine .nil ?_
  refine ks_n ?_
  refine .cD rfl (fun h20 => ?_) (fun h20 => ?_)
  ·skip
   omega
  ·skip
   omega

set_option maxRecDepth 100000 in
set_option maxHeartbeats 1600000 in
theorem l3Copy_nil (s : Stm) (hs : szS s ≤ 1073741824) (h1 : 0 < s.1.2.length) (h0 : s.2.ks.length = 0) : Fn Tryz.prog 40 [] [ad (rS s)] (.o (.agg [.d (dS s.1.1), .own 101 2 s.1.2.length, .d (dI s.2.k), .d (dI s.2.n), .d (dIs s.2.i.1), .d (dI s.2.i.2), .d (dS s.2.r.1), .d (dAs s.2.r.2), .d (.val (.slice none 0 0))])) [(.b 101, .b 28 2 (dR (s.1.2.map rA))), (.u 101, .u)] := by
 have hs3 := hs
 rw [szS, szC] at hs
 have hl := szAs_len s.1.2
 have hE := szE_eq s.2
 have hC : szC s.2.r = s.2.r.1.size + szAs s.2.r.2 := rfl
 have hl2 := szAs_len s.2.r.2
 refine Fn.of_code Tryz.func40 rfl rfl HB.nil rfl rfl HB.nil.data rfl (one_num rfl) ?_
 refine ACode.seq ?_
 refine ACode.region ?_
 refine .cons (St1.boxP rfl rfl rfl rfl rfl rfl) ?_
 refine .cons (.al 102 [.string ByteArray.empty, .slice none 0 0, .int .i64 0, .int .i64 0, .slice none 0 0, .int .i64 0, .string ByteArray.empty, .slice none 0 0, .slice none 0 0] rfl rfl rfl) ?_
 refine .nil ?_
 refine ks_n ?_
 refine ACode.seq ?_
 refine ACode.drawK (by kernel_rfl) (by kernel_rfl) ?_
 refine .cons (.fP 0 1 true rfl rfl) ?_
 refine .cons (.lN 2 rfl rfl rfl) ?_
 refine .cons (.cO [.tmp 4] [(101, 605)] rfl rfl rfl rfl (l3CopyAcc_own s.1 h1 (by omega) (fun x hx => by have := szAs_mem hx; omega)) rfl trivial flatS.nil (flatS.nil.cons rfl) HB.nil.data outS_one) ?_
 refine .cons (.fP 2 6 true rfl rfl) ?_
 refine .cons (.lN 7 rfl rfl rfl) ?_
 refine .cons (.cP [.tmp 7] rfl rfl rfl rfl (l3CopyEx_nil s.2 (by omega) (by omega) (fun x hx => by have := szAs_mem hx; omega) (by omega) (fun x hx => by have := szEs_mem hx; omega) h0) rfl) ?_
 refine .cons (.bu [(0, .tmp 5), (1, .tmp 8)] [(0, 2), (2, 7)] [.string ByteArray.empty, .slice none 0 0, .int .i64 0, .int .i64 0, .slice none 0 0, .int .i64 0, .string ByteArray.empty, .slice none 0 0, .slice none 0 0] rfl rfl rfl rfl rfl) ?_
 refine .cons (.sT 9 true rfl rfl rfl rfl rfl rfl rfl) ?_
 refine .nil ⟨by kernel_rfl, ?_⟩
 refine ks_n ?_
 refine ACode.ret ?_
 refine kf_wret [(.t 2, .v (.o (.c (.box 100 9 0 0)))), (.b 101, .b 28 2 (dR (s.1.2.map rA))), (.u 101, .u), (.b 100, .b 33 9 [[.d (dS s.1.1), .own 101 2 (s.1.2.length), .d (dI s.2.k), .d (dI s.2.n), .d (dIs s.2.i.1), .d (dI s.2.i.2), .d (dS s.2.r.1), .d (dAs s.2.r.2), .d (.val (.slice none 0 0))]]), (.u 100, .u)] (Wk.keep [(100, 102), (101, 605)] rfl rfl ⟨ks rfl (.c .bx), kb 605 rfl (.dt rfl), kb 102 rfl (.cons (.cons .dt (.cons .ow (.cons .dt (.cons .dt (.cons .dt (.cons .dt (.cons .dt (.cons .dt (.cons .dt Ctos.nil))))))))) .nil), trivial⟩) rfl ?_ (one_box rfl)
 rfl

set_option maxRecDepth 100000 in
set_option maxHeartbeats 1600000 in
theorem l3Copy_own (s : Stm) (hs : szS s ≤ 1073741824) (h1 : 0 < s.1.2.length) (h0 : 0 < s.2.ks.length) : Fn Tryz.prog 40 [] [ad (rS s)] (.o (.agg [.d (dS s.1.1), .own 101 2 s.1.2.length, .d (dI s.2.k), .d (dI s.2.n), .d (dIs s.2.i.1), .d (dI s.2.i.2), .d (dS s.2.r.1), .d (dAs s.2.r.2), .own 102 7 s.2.ks.length])) [(.b 101, .b 28 2 (dR (s.1.2.map rA))), (.u 101, .u), (.b 102, .b 31 7 (dR (s.2.ks.map rE))), (.u 102, .u)] := by
 have hs3 := hs
 rw [szS, szC] at hs
 have hl := szAs_len s.1.2
 have hE := szE_eq s.2
 have hC : szC s.2.r = s.2.r.1.size + szAs s.2.r.2 := rfl
 have hl2 := szAs_len s.2.r.2
 refine Fn.of_code Tryz.func40 rfl rfl HB.nil rfl rfl (HB.nil.data).data rfl (two_numT rfl) ?_
 refine ACode.seq ?_
 refine ACode.region ?_
 refine .cons (St1.boxP rfl rfl rfl rfl rfl rfl) ?_
 refine .cons (.al 102 [.string ByteArray.empty, .slice none 0 0, .int .i64 0, .int .i64 0, .slice none 0 0, .int .i64 0, .string ByteArray.empty, .slice none 0 0, .slice none 0 0] rfl rfl rfl) ?_
 refine .nil ?_
 refine ks_n ?_
 refine ACode.seq ?_
 refine ACode.drawK (by kernel_rfl) (by kernel_rfl) ?_
 refine .cons (.fP 0 1 true rfl rfl) ?_
 refine .cons (.lN 2 rfl rfl rfl) ?_
 refine .cons (.cO [.tmp 4] [(101, 605)] rfl rfl rfl rfl (l3CopyAcc_own s.1 h1 (by omega) (fun x hx => by have := szAs_mem hx; omega)) rfl trivial flatS.nil (flatS.nil.cons rfl) HB.nil.data outS_one) ?_
 refine .cons (.fP 2 6 true rfl rfl) ?_
 refine .cons (.lN 7 rfl rfl rfl) ?_
 refine .cons (.cO [.tmp 7] [(101, 708)] rfl rfl rfl rfl (l3CopyEx_own s.2 (by omega) (by omega) (fun x hx => by have := szAs_mem hx; omega) (by omega) (fun x hx => by have := szEs_mem hx; omega) h0) rfl trivial flatS.nil (flatS.nil.cons rfl) HB.nil.data outS_one) ?_
 refine .cons (.bu [(0, .tmp 5), (1, .tmp 8)] [(0, 2), (2, 7)] [.string ByteArray.empty, .slice none 0 0, .int .i64 0, .int .i64 0, .slice none 0 0, .int .i64 0, .string ByteArray.empty, .slice none 0 0, .slice none 0 0] rfl rfl rfl rfl rfl) ?_
 refine .cons (.sT 9 true rfl rfl rfl rfl rfl rfl rfl) ?_
 refine .nil ⟨by kernel_rfl, ?_⟩
 refine ks_n ?_
 refine ACode.ret ?_
 refine kf_wret [(.t 2, .v (.o (.c (.box 100 9 0 0)))), (.b 101, .b 28 2 (dR (s.1.2.map rA))), (.u 101, .u), (.b 102, .b 31 7 (dR (s.2.ks.map rE))), (.u 102, .u), (.b 100, .b 33 9 [[.d (dS s.1.1), .own 101 2 (s.1.2.length), .d (dI s.2.k), .d (dI s.2.n), .d (dIs s.2.i.1), .d (dI s.2.i.2), .d (dS s.2.r.1), .d (dAs s.2.r.2), .own 102 7 (s.2.ks.length)]]), (.u 100, .u)] (Wk.keep [(100, 102), (101, 605), (102, 708)] rfl rfl ⟨ks rfl (.c .bx), kb 605 rfl (.dt rfl), kb 708 rfl (.dt rfl), kb 102 rfl (.cons (.cons .dt (.cons .ow (.cons .dt (.cons .dt (.cons .dt (.cons .dt (.cons .dt (.cons .dt (.cons .ow Ctos.nil))))))))) .nil), trivial⟩) rfl ?_ (two_boxT rfl rfl)
 rfl

def setK (e : Ex) (k : Int) : Ex := .mk k e.n e.i e.r e.ks
def setN (e : Ex) (n : Int) : Ex := .mk e.k n e.i e.r e.ks
def addK (e : Ex) (x : Ex) : Ex := .mk e.k e.n e.i e.r (e.ks ++ [x])
/-- A statement, sometimes made invalid. -/
def mutD (bs : List Int) (p : Nat) (s : Stm) : Stm × Nat :=
  if pickV bs p 40 = 0 then (((ofV bs (p + 1) [⟨#[69]⟩, ByteArray.empty, ⟨#[65, 66]⟩, ⟨#[97]⟩], s.1.2), s.2), p + 1 + 1)
  else if pickV bs p 40 = 1 then (((s.1.1, s.1.2 ++ [varA 3, zA]), s.2), p + 1)
  else if pickV bs p 40 = 2 then ((s.1, setK s.2 (numV bs (p + 1) [0, 7, 1, 4, 2])), p + 1 + 1)
  else if pickV bs p 40 = 3 then ((s.1, setN s.2 (numV bs (p + 1) [100, -1, 1])), p + 1 + 1)
  else if pickV bs p 40 = 4 then ((s.1, addK s.2 (.mk 1 0 zA0 zC0 [])), p + 1)
  else (s, p + 1)

set_option maxRecDepth 100000 in
set_option maxHeartbeats 1600000 in
theorem mut_nil {bs : List Int} (hb : Bytes bs) {p : Nat} (hp : p ≤ 100000000) (s : Stm) (hs : szS s ≤ 1073741824) (h1 : 0 < s.1.2.length) (h0 : s.2.ks.length = 0) : Fn Tryz.prog 20 (hbR bs p) [vR, ad (rS s)] (.o (ad (rS (mutD bs p s).1))) (hbR bs (mutD bs p s).2) := by
 have hsz := hs
 rw [szS, szC] at hsz
 have hl := szAs_len s.1.2
 have hE := szE_eq s.2
 obtain ⟨r, hr⟩ : ∃ r, r = mutD bs p s := ⟨_, rfl⟩
 rw [← hr]
 have hR := hr
 unfold mutD at hR
 refine Fn.of_code Tryz.func20 rfl rfl (hbR_HB _ _) rfl rfl (hbR_HB _ _) rfl (hbR_num _ _ _) ?_
 refine ACode.seq ?_
 refine ACode.region ?_
 refine .cons (St1.boxP rfl rfl rfl rfl rfl rfl) ?_
 refine .cons (.al 104 [.string ByteArray.empty, .slice none 0 0, .int .i64 0, .int .i64 0, .slice none 0 0, .int .i64 0, .string ByteArray.empty, .slice none 0 0, .slice none 0 0] rfl rfl rfl) ?_
 refine .nil ?_
 refine ks_n ?_
 refine ACode.seq ?_
 refine ACode.region ?_
 refine .cons (.lN 9 rfl rfl rfl) ?_
 refine .cons (.cO [.tmp 6] [(101, 107)] rfl rfl rfl rfl (l3Copy_nil s hs h1 h0) rfl trivial flatS.nil (flatS.nil.cons rfl) HB.nil.data outS_one) ?_
 refine .cons (.al 105 [.string ByteArray.empty, .slice none 0 0, .int .i64 0, .int .i64 0, .slice none 0 0, .int .i64 0, .string ByteArray.empty, .slice none 0 0, .slice none 0 0] rfl rfl rfl) ?_
 refine .cons (.sT 9 true rfl rfl rfl rfl rfl rfl rfl) ?_
 refine .nil ?_
 refine ks_n ?_
 refine ACode.seq ?_
 refine ACode.seq ?_
 refine ACode.region ?_
 refine .cons (.mv rfl rfl) ?_
 refine .cons (.cR [.tmp 8, .const (.int .i64 (40))] 0 rfl rfl rfl rfl (pick_fn hb (by omega) 40) rfl ⟨rfl, trivial⟩) ?_
 refine .nil ?_
 refine ks_n ?_
 refine ACode.block ?_
 refine ACode.seq ?_
 refine ACode.region ?_
 refine .cons (.eq rfl rfl rfl) ?_
 refine .cons (.asg rfl rfl) ?_
 refine .nil ?_
 refine ks_n ?_
 refine .cD rfl (fun h10 => ?_) (fun h10 => ?_)
 ·skip
  refine ACode.region ?_
  refine .cons (.mv rfl rfl) ?_
  refine .cons (.li 9 0 3 [.const (.string ⟨#[69]⟩), .const (.string ⟨#[]⟩), .const (.string ⟨#[65, 66]⟩), .const (.string ⟨#[97]⟩)] rfl rfl rfl rfl rfl rfl) ?_
  refine .cons (.cR [.tmp 12, .tmp 13] 0 rfl rfl rfl rfl (of_fn hb (by omega) [⟨#[69]⟩, ByteArray.empty, ⟨#[65, 66]⟩, ⟨#[97]⟩] (by simp)) rfl ⟨rfl, trivial⟩) ?_
  refine .cons (.fB 0 1 true rfl rfl rfl) ?_
  refine .cons (.fB 0 0 false rfl rfl rfl) ?_
  refine .cons (.sT 1 false rfl rfl rfl rfl rfl rfl rfl) ?_
  refine .nil ?_
  refine kb_n ?_
  refine ks_n ?_
  refine ACode.seq ?_
  refine ACode.region ?_
  refine .cons (.bN 9 rfl rfl rfl rfl rfl rfl) ?_
  refine .cons (.sT 9 true rfl rfl rfl rfl rfl rfl rfl) ?_
  refine .nil ?_
  refine ks_n ?_
  refine ACode.ret ?_
  first | rw [if_pos h10] at hR | rw [if_neg h10, if_pos h17] at hR | rw [if_neg h10, if_neg h17, if_pos h28] at hR | rw [if_neg h10, if_neg h17, if_neg h28, if_pos h35] at hR | rw [if_neg h10, if_neg h17, if_neg h28, if_neg h35, if_pos h42] at hR | rw [if_neg h10, if_neg h17, if_neg h28, if_neg h35, if_neg h42] at hR
  refine kf_wret [(.t 4, .v (.o (.c (.box 100 9 0 0)))), (.b 0, .b 81 2 (dR ([rRd bs r.2]))), (.u 0, .u), (.b 100, .b 33 9 [[.d (dS r.1.1.1), .d (dAs r.1.1.2), .d (dI r.1.2.k), .d (dI r.1.2.n), .d (dIs r.1.2.i.1), .d (dI r.1.2.i.2), .d (dS r.1.2.r.1), .d (dAs r.1.2.r.2), .d (dEs r.1.2.ks)]]), (.u 100, .u)] (Wk.keep [(0, 0), (100, 104)] rfl rfl ⟨ks rfl (.c .bx), kb 0 rfl (.dt rfl (by first | rfl | (rw [hR]; done) | (rw [hR]; rfl))), kb 104 rfl (.cons (.cons (.dt (by first | rfl | (rw [hR]; done) | (rw [hR]; rfl))) (.cons (.fz rfl (by first | (rw [hR]; exact (dR_app _ [rA (varA 3), rA zA]).trans (by rw [List.map_append]; rfl)) | (rw [hR]; show _ = dR ((s.2.ks ++ [_]).map rE); rw [List.map_append, rE_one, ← dR_app]; rfl) | (rw [hR]; show _ = dR ((s.2.ks ++ [_]).map rE); rw [List.eq_nil_of_length_eq_zero h0, List.nil_append, rE_one]; rfl) | (rw [hR]; done) | (rw [hR]; rfl) | (rw [hR]; simp [dR]; done) | (rw [hR]; simp [dR]; rfl) | (rw [hR]; rw [dR_app]; simp; done) | (rw [hR]; simp [setK, setN]; rfl)) (by first | (rw [hR]; show _ = ((s.2.ks ++ [_]).map rE).length; rw [List.length_map, List.length_append]; first | rfl | (rw [h0]; rfl)) | (rw [hR]; rfl) | (rw [hR]; simp; done) | (rw [hR]; simp; rfl) | (rw [hR]; simp [setK, setN, addK, Ex.ks]; done)) (by first | omega | (simp; done) | (simp; omega))) (.cons (.dt (by first | rfl | (rw [hR]; done) | (rw [hR]; rfl))) (.cons (.dt (by first | rfl | (rw [hR]; done) | (rw [hR]; rfl))) (.cons (.dt (by first | rfl | (rw [hR]; done) | (rw [hR]; rfl))) (.cons (.dt (by first | rfl | (rw [hR]; done) | (rw [hR]; rfl))) (.cons (.dt (by first | rfl | (rw [hR]; done) | (rw [hR]; rfl))) (.cons (.dt (by first | rfl | (rw [hR]; done) | (rw [hR]; rfl))) (.cons (Cto.nilE 7 (by first | (rw [hR]; done) | (rw [hR]; rfl) | (rw [hR]; show dEs s.2.ks = _; rw [List.eq_nil_of_length_eq_zero h0]; rfl))) Ctos.nil))))))))) .nil), trivial⟩) rfl ?_ (hbR_box rfl)
  rfl
 ·skip
  refine ACode.seq ?_
  refine ACode.region ?_
  refine .cons (.eq rfl rfl rfl) ?_
  refine .cons (.asg rfl rfl) ?_
  refine .nil ?_
  refine ks_n ?_
  refine .cD rfl (fun h17 => ?_) (fun h17 => ?_)
  ·skip
   refine ACode.drawK (by kernel_rfl) (by kernel_rfl) ?_
   refine .cons (.fB 0 1 true rfl rfl rfl) ?_
   refine .cons (.fB 1 0 false rfl rfl rfl) ?_
   refine .cons (.b1 1 rfl rfl rfl rfl rfl rfl) ?_
   refine .cons (.cP [.const (.int .i64 (3))] rfl rfl rfl rfl (l1Var_fn 3 (by omega)) rfl) ?_
   refine .cons (.cP [] rfl rfl rfl rfl (l1Zero_fn) rfl) ?_
   refine .cons (.li 28 1 1 [.tmp 22, .tmp 23] rfl rfl rfl rfl rfl rfl) ?_
   refine .cons (St1.appB (k' := 125) (e := 28) (sz := 1) (by' := 32) rfl rfl rfl rfl rfl (by kernel_rfl) rfl rfl rfl rfl (by simp [dR]) (by simp [dR]; omega) rfl rfl rfl) ?_
   refine .cons (.fB 0 1 true rfl rfl rfl) ?_
   refine .cons (.fB 1 0 false rfl rfl rfl) ?_
   refine .cons (.sT 1 false rfl rfl rfl rfl rfl rfl rfl) ?_
   refine .nil ⟨by kernel_rfl, ?_⟩
   refine kb_n ?_
   refine ks_n ?_
   refine ACode.seq ?_
   refine ACode.region ?_
   refine .cons (.bN 9 rfl rfl rfl rfl rfl rfl) ?_
   refine .cons (.sT 9 true rfl rfl rfl rfl rfl rfl rfl) ?_
   refine .nil ?_
   refine ks_n ?_
   refine ACode.ret ?_
   first | rw [if_pos h10] at hR | rw [if_neg h10, if_pos h17] at hR | rw [if_neg h10, if_neg h17, if_pos h28] at hR | rw [if_neg h10, if_neg h17, if_neg h28, if_pos h35] at hR | rw [if_neg h10, if_neg h17, if_neg h28, if_neg h35, if_pos h42] at hR | rw [if_neg h10, if_neg h17, if_neg h28, if_neg h35, if_neg h42] at hR
   refine kf_wret [(.t 4, .v (.o (.c (.box 100 9 0 0)))), (.b 0, .b 81 2 (dR ([rRd bs r.2]))), (.u 0, .u), (.b 100, .b 33 9 [[.d (dS r.1.1.1), .d (dAs r.1.1.2), .d (dI r.1.2.k), .d (dI r.1.2.n), .d (dIs r.1.2.i.1), .d (dI r.1.2.i.2), .d (dS r.1.2.r.1), .d (dAs r.1.2.r.2), .d (dEs r.1.2.ks)]]), (.u 100, .u)] (Wk.keep [(0, 0), (100, 104)] rfl rfl ⟨ks rfl (.c .bx), kb 0 rfl (.dt rfl (by first | rfl | (rw [hR]; done) | (rw [hR]; rfl))), kb 104 rfl (.cons (.cons (.dt (by first | rfl | (rw [hR]; done) | (rw [hR]; rfl))) (.cons (.fz rfl (by first | (rw [hR]; exact (dR_app _ [rA (varA 3), rA zA]).trans (by rw [List.map_append]; rfl)) | (rw [hR]; show _ = dR ((s.2.ks ++ [_]).map rE); rw [List.map_append, rE_one, ← dR_app]; rfl) | (rw [hR]; show _ = dR ((s.2.ks ++ [_]).map rE); rw [List.eq_nil_of_length_eq_zero h0, List.nil_append, rE_one]; rfl) | (rw [hR]; done) | (rw [hR]; rfl) | (rw [hR]; simp [dR]; done) | (rw [hR]; simp [dR]; rfl) | (rw [hR]; rw [dR_app]; simp; done) | (rw [hR]; simp [setK, setN]; rfl)) (by first | (rw [hR]; show _ = ((s.2.ks ++ [_]).map rE).length; rw [List.length_map, List.length_append]; first | rfl | (rw [h0]; rfl)) | (rw [hR]; rfl) | (rw [hR]; simp; done) | (rw [hR]; simp; rfl) | (rw [hR]; simp [setK, setN, addK, Ex.ks]; done)) (by first | omega | (simp; done) | (simp; omega))) (.cons (.dt (by first | rfl | (rw [hR]; done) | (rw [hR]; rfl))) (.cons (.dt (by first | rfl | (rw [hR]; done) | (rw [hR]; rfl))) (.cons (.dt (by first | rfl | (rw [hR]; done) | (rw [hR]; rfl))) (.cons (.dt (by first | rfl | (rw [hR]; done) | (rw [hR]; rfl))) (.cons (.dt (by first | rfl | (rw [hR]; done) | (rw [hR]; rfl))) (.cons (.dt (by first | rfl | (rw [hR]; done) | (rw [hR]; rfl))) (.cons (Cto.nilE 7 (by first | (rw [hR]; done) | (rw [hR]; rfl) | (rw [hR]; show dEs s.2.ks = _; rw [List.eq_nil_of_length_eq_zero h0]; rfl))) Ctos.nil))))))))) .nil), trivial⟩) rfl ?_ (hbR_box rfl)
   rfl
  ·skip
   refine ACode.seq ?_
   refine ACode.region ?_
   refine .cons (.eq rfl rfl rfl) ?_
   refine .cons (.asg rfl rfl) ?_
   refine .nil ?_
   refine ks_n ?_
   refine .cD rfl (fun h28 => ?_) (fun h28 => ?_)
   ·skip
    refine ACode.region ?_
    refine .cons (.mv rfl rfl) ?_
    refine .cons (.li 3 0 4 [.const (.int .i64 (0)), .const (.int .i64 (7)), .const (.int .i64 (1)), .const (.int .i64 (4)), .const (.int .i64 (2))] rfl rfl rfl rfl rfl rfl) ?_
    refine .cons (.cR [.tmp 30, .tmp 31] 0 rfl rfl rfl rfl (num_fn hb (by omega) [0, 7, 1, 4, 2] (by simp)) rfl ⟨rfl, trivial⟩) ?_
    refine .cons (.fB 2 6 true rfl rfl rfl) ?_
    refine .cons (.fB 0 0 false rfl rfl rfl) ?_
    refine .cons (.sT 1 false rfl rfl rfl rfl rfl rfl rfl) ?_
    refine .nil ?_
    refine kb_n ?_
    refine ks_n ?_
    refine ACode.seq ?_
    refine ACode.region ?_
    refine .cons (.bN 9 rfl rfl rfl rfl rfl rfl) ?_
    refine .cons (.sT 9 true rfl rfl rfl rfl rfl rfl rfl) ?_
    refine .nil ?_
    refine ks_n ?_
    refine ACode.ret ?_
    first | rw [if_pos h10] at hR | rw [if_neg h10, if_pos h17] at hR | rw [if_neg h10, if_neg h17, if_pos h28] at hR | rw [if_neg h10, if_neg h17, if_neg h28, if_pos h35] at hR | rw [if_neg h10, if_neg h17, if_neg h28, if_neg h35, if_pos h42] at hR | rw [if_neg h10, if_neg h17, if_neg h28, if_neg h35, if_neg h42] at hR
    refine kf_wret [(.t 4, .v (.o (.c (.box 100 9 0 0)))), (.b 0, .b 81 2 (dR ([rRd bs r.2]))), (.u 0, .u), (.b 100, .b 33 9 [[.d (dS r.1.1.1), .d (dAs r.1.1.2), .d (dI r.1.2.k), .d (dI r.1.2.n), .d (dIs r.1.2.i.1), .d (dI r.1.2.i.2), .d (dS r.1.2.r.1), .d (dAs r.1.2.r.2), .d (dEs r.1.2.ks)]]), (.u 100, .u)] (Wk.keep [(0, 0), (100, 104)] rfl rfl ⟨ks rfl (.c .bx), kb 0 rfl (.dt rfl (by first | rfl | (rw [hR]; done) | (rw [hR]; rfl))), kb 104 rfl (.cons (.cons (.dt (by first | rfl | (rw [hR]; done) | (rw [hR]; rfl))) (.cons (.fz rfl (by first | (rw [hR]; exact (dR_app _ [rA (varA 3), rA zA]).trans (by rw [List.map_append]; rfl)) | (rw [hR]; show _ = dR ((s.2.ks ++ [_]).map rE); rw [List.map_append, rE_one, ← dR_app]; rfl) | (rw [hR]; show _ = dR ((s.2.ks ++ [_]).map rE); rw [List.eq_nil_of_length_eq_zero h0, List.nil_append, rE_one]; rfl) | (rw [hR]; done) | (rw [hR]; rfl) | (rw [hR]; simp [dR]; done) | (rw [hR]; simp [dR]; rfl) | (rw [hR]; rw [dR_app]; simp; done) | (rw [hR]; simp [setK, setN]; rfl)) (by first | (rw [hR]; show _ = ((s.2.ks ++ [_]).map rE).length; rw [List.length_map, List.length_append]; first | rfl | (rw [h0]; rfl)) | (rw [hR]; rfl) | (rw [hR]; simp; done) | (rw [hR]; simp; rfl) | (rw [hR]; simp [setK, setN, addK, Ex.ks]; done)) (by first | omega | (simp; done) | (simp; omega))) (.cons (.dt (by first | rfl | (rw [hR]; done) | (rw [hR]; rfl))) (.cons (.dt (by first | rfl | (rw [hR]; done) | (rw [hR]; rfl))) (.cons (.dt (by first | rfl | (rw [hR]; done) | (rw [hR]; rfl))) (.cons (.dt (by first | rfl | (rw [hR]; done) | (rw [hR]; rfl))) (.cons (.dt (by first | rfl | (rw [hR]; done) | (rw [hR]; rfl))) (.cons (.dt (by first | rfl | (rw [hR]; done) | (rw [hR]; rfl))) (.cons (Cto.nilE 7 (by first | (rw [hR]; done) | (rw [hR]; rfl) | (rw [hR]; show dEs s.2.ks = _; rw [List.eq_nil_of_length_eq_zero h0]; rfl))) Ctos.nil))))))))) .nil), trivial⟩) rfl ?_ (hbR_box rfl)
    rfl
   ·skip
    refine ACode.seq ?_
    refine ACode.region ?_
    refine .cons (.eq rfl rfl rfl) ?_
    refine .cons (.asg rfl rfl) ?_
    refine .nil ?_
    refine ks_n ?_
    refine .cD rfl (fun h35 => ?_) (fun h35 => ?_)
    ·skip
     refine ACode.region ?_
     refine .cons (.mv rfl rfl) ?_
     refine .cons (.li 3 0 2 [.const (.int .i64 (100)), .const (.int .i64 (-1)), .const (.int .i64 (1))] rfl rfl rfl rfl rfl rfl) ?_
     refine .cons (.cR [.tmp 37, .tmp 38] 0 rfl rfl rfl rfl (num_fn hb (by omega) [100, -1, 1] (by simp)) rfl ⟨rfl, trivial⟩) ?_
     refine .cons (.fB 2 6 true rfl rfl rfl) ?_
     refine .cons (.fB 1 0 false rfl rfl rfl) ?_
     refine .cons (.sT 1 false rfl rfl rfl rfl rfl rfl rfl) ?_
     refine .nil ?_
     refine kb_n ?_
     refine ks_n ?_
     refine ACode.seq ?_
     refine ACode.region ?_
     refine .cons (.bN 9 rfl rfl rfl rfl rfl rfl) ?_
     refine .cons (.sT 9 true rfl rfl rfl rfl rfl rfl rfl) ?_
     refine .nil ?_
     refine ks_n ?_
     refine ACode.ret ?_
     first | rw [if_pos h10] at hR | rw [if_neg h10, if_pos h17] at hR | rw [if_neg h10, if_neg h17, if_pos h28] at hR | rw [if_neg h10, if_neg h17, if_neg h28, if_pos h35] at hR | rw [if_neg h10, if_neg h17, if_neg h28, if_neg h35, if_pos h42] at hR | rw [if_neg h10, if_neg h17, if_neg h28, if_neg h35, if_neg h42] at hR
     refine kf_wret [(.t 4, .v (.o (.c (.box 100 9 0 0)))), (.b 0, .b 81 2 (dR ([rRd bs r.2]))), (.u 0, .u), (.b 100, .b 33 9 [[.d (dS r.1.1.1), .d (dAs r.1.1.2), .d (dI r.1.2.k), .d (dI r.1.2.n), .d (dIs r.1.2.i.1), .d (dI r.1.2.i.2), .d (dS r.1.2.r.1), .d (dAs r.1.2.r.2), .d (dEs r.1.2.ks)]]), (.u 100, .u)] (Wk.keep [(0, 0), (100, 104)] rfl rfl ⟨ks rfl (.c .bx), kb 0 rfl (.dt rfl (by first | rfl | (rw [hR]; done) | (rw [hR]; rfl))), kb 104 rfl (.cons (.cons (.dt (by first | rfl | (rw [hR]; done) | (rw [hR]; rfl))) (.cons (.fz rfl (by first | (rw [hR]; exact (dR_app _ [rA (varA 3), rA zA]).trans (by rw [List.map_append]; rfl)) | (rw [hR]; show _ = dR ((s.2.ks ++ [_]).map rE); rw [List.map_append, rE_one, ← dR_app]; rfl) | (rw [hR]; show _ = dR ((s.2.ks ++ [_]).map rE); rw [List.eq_nil_of_length_eq_zero h0, List.nil_append, rE_one]; rfl) | (rw [hR]; done) | (rw [hR]; rfl) | (rw [hR]; simp [dR]; done) | (rw [hR]; simp [dR]; rfl) | (rw [hR]; rw [dR_app]; simp; done) | (rw [hR]; simp [setK, setN]; rfl)) (by first | (rw [hR]; show _ = ((s.2.ks ++ [_]).map rE).length; rw [List.length_map, List.length_append]; first | rfl | (rw [h0]; rfl)) | (rw [hR]; rfl) | (rw [hR]; simp; done) | (rw [hR]; simp; rfl) | (rw [hR]; simp [setK, setN, addK, Ex.ks]; done)) (by first | omega | (simp; done) | (simp; omega))) (.cons (.dt (by first | rfl | (rw [hR]; done) | (rw [hR]; rfl))) (.cons (.dt (by first | rfl | (rw [hR]; done) | (rw [hR]; rfl))) (.cons (.dt (by first | rfl | (rw [hR]; done) | (rw [hR]; rfl))) (.cons (.dt (by first | rfl | (rw [hR]; done) | (rw [hR]; rfl))) (.cons (.dt (by first | rfl | (rw [hR]; done) | (rw [hR]; rfl))) (.cons (.dt (by first | rfl | (rw [hR]; done) | (rw [hR]; rfl))) (.cons (Cto.nilE 7 (by first | (rw [hR]; done) | (rw [hR]; rfl) | (rw [hR]; show dEs s.2.ks = _; rw [List.eq_nil_of_length_eq_zero h0]; rfl))) Ctos.nil))))))))) .nil), trivial⟩) rfl ?_ (hbR_box rfl)
     rfl
    ·skip
     refine ACode.seq ?_
     refine ACode.region ?_
     refine .cons (.eq rfl rfl rfl) ?_
     refine .cons (.asg rfl rfl) ?_
     refine .nil ?_
     refine ks_n ?_
     refine .cD rfl (fun h42 => ?_) (fun h42 => ?_)
     ·skip
      refine ACode.region ?_
      refine .cons (.fB 2 6 true rfl rfl rfl) ?_
      refine .cons (.fB 6 0 false rfl rfl rfl) ?_
      refine .cons (.b1 1 rfl rfl rfl rfl rfl rfl) ?_
      refine .cons (.buZ [(0, .const (.int .i64 (1)))] [(0, 1), (1, 1), (2, 2), (4, 2), (6, 1)] [.int .i64 0, .int .i64 0, .slice none 0 0, .int .i64 0, .string ByteArray.empty, .slice none 0 0, .slice none 0 0] [dI 0, dI 0, .list 1 [], dI 0, dS ByteArray.empty, .list 2 [], .list 7 []] rfl rfl (.val rfl (.val rfl (.list _ (.val rfl (.val rfl (.list _ (.list _ ZR.nil))))))) rfl rfl) ?_
      refine .cons (.li 31 6 0 [.tmp 47] rfl rfl rfl rfl rfl rfl) ?_
      refine .cons (St1.appN (k' := 149) (e := 31) (sz := 6) (by' := 112) rfl rfl rfl rfl rfl (by kernel_rfl) rfl rfl rfl (by simp) (by simp) rfl rfl) ?_
      refine .cons (.fB 2 6 true rfl rfl rfl) ?_
      refine .cons (.fB 6 0 false rfl rfl rfl) ?_
      refine .cons (.sT 1 false rfl rfl rfl rfl rfl rfl rfl) ?_
      refine .nil ?_
      refine kb_n ?_
      refine ks_n ?_
      refine ACode.seq ?_
      refine ACode.region ?_
      refine .cons (.bN 9 rfl rfl rfl rfl rfl rfl) ?_
      refine .cons (.sT 9 true rfl rfl rfl rfl rfl rfl rfl) ?_
      refine .nil ?_
      refine ks_n ?_
      refine ACode.ret ?_
      first | rw [if_pos h10] at hR | rw [if_neg h10, if_pos h17] at hR | rw [if_neg h10, if_neg h17, if_pos h28] at hR | rw [if_neg h10, if_neg h17, if_neg h28, if_pos h35] at hR | rw [if_neg h10, if_neg h17, if_neg h28, if_neg h35, if_pos h42] at hR | rw [if_neg h10, if_neg h17, if_neg h28, if_neg h35, if_neg h42] at hR
      refine kf_wret [(.t 4, .v (.o (.c (.box 100 9 0 0)))), (.b 0, .b 81 2 (dR ([rRd bs r.2]))), (.u 0, .u), (.b 100, .b 33 9 [[.d (dS r.1.1.1), .d (dAs r.1.1.2), .d (dI r.1.2.k), .d (dI r.1.2.n), .d (dIs r.1.2.i.1), .d (dI r.1.2.i.2), .d (dS r.1.2.r.1), .d (dAs r.1.2.r.2), .d (dEs r.1.2.ks)]]), (.u 100, .u)] (Wk.keep [(0, 0), (100, 104)] rfl rfl ⟨ks rfl (.c .bx), kb 0 rfl (.dt rfl (by first | rfl | (rw [hR]; done) | (rw [hR]; rfl))), kb 104 rfl (.cons (.cons (.dt (by first | rfl | (rw [hR]; done) | (rw [hR]; rfl))) (.cons (.fz rfl (by first | (rw [hR]; exact (dR_app _ [rA (varA 3), rA zA]).trans (by rw [List.map_append]; rfl)) | (rw [hR]; show _ = dR ((s.2.ks ++ [_]).map rE); rw [List.map_append, rE_one, ← dR_app]; rfl) | (rw [hR]; show _ = dR ((s.2.ks ++ [_]).map rE); rw [List.eq_nil_of_length_eq_zero h0, List.nil_append, rE_one]; rfl) | (rw [hR]; done) | (rw [hR]; rfl) | (rw [hR]; simp [dR]; done) | (rw [hR]; simp [dR]; rfl) | (rw [hR]; rw [dR_app]; simp; done) | (rw [hR]; simp [setK, setN]; rfl)) (by first | (rw [hR]; show _ = ((s.2.ks ++ [_]).map rE).length; rw [List.length_map, List.length_append]; first | rfl | (rw [h0]; rfl)) | (rw [hR]; rfl) | (rw [hR]; simp; done) | (rw [hR]; simp; rfl) | (rw [hR]; simp [setK, setN, addK, Ex.ks]; done)) (by first | omega | (simp; done) | (simp; omega))) (.cons (.dt (by first | rfl | (rw [hR]; done) | (rw [hR]; rfl))) (.cons (.dt (by first | rfl | (rw [hR]; done) | (rw [hR]; rfl))) (.cons (.dt (by first | rfl | (rw [hR]; done) | (rw [hR]; rfl))) (.cons (.dt (by first | rfl | (rw [hR]; done) | (rw [hR]; rfl))) (.cons (.dt (by first | rfl | (rw [hR]; done) | (rw [hR]; rfl))) (.cons (.dt (by first | rfl | (rw [hR]; done) | (rw [hR]; rfl))) (.cons (.fz rfl (by first | (rw [hR]; exact (dR_app _ [rA (varA 3), rA zA]).trans (by rw [List.map_append]; rfl)) | (rw [hR]; show _ = dR ((s.2.ks ++ [_]).map rE); rw [List.map_append, rE_one, ← dR_app]; rfl) | (rw [hR]; show _ = dR ((s.2.ks ++ [_]).map rE); rw [List.eq_nil_of_length_eq_zero h0, List.nil_append, rE_one]; rfl) | (rw [hR]; done) | (rw [hR]; rfl) | (rw [hR]; simp [dR]; done) | (rw [hR]; simp [dR]; rfl) | (rw [hR]; rw [dR_app]; simp; done) | (rw [hR]; simp [setK, setN]; rfl)) (by first | (rw [hR]; show _ = ((s.2.ks ++ [_]).map rE).length; rw [List.length_map, List.length_append]; first | rfl | (rw [h0]; rfl)) | (rw [hR]; rfl) | (rw [hR]; simp; done) | (rw [hR]; simp; rfl) | (rw [hR]; simp [setK, setN, addK, Ex.ks]; done)) (by first | omega | (simp; done) | (simp; omega))) Ctos.nil))))))))) .nil), trivial⟩) rfl ?_ (hbR_box rfl)
      rfl
     ·skip
      refine ACode.skip ?_
      refine kb_n ?_
      refine ks_n ?_
      refine ACode.seq ?_
      refine ACode.region ?_
      refine .cons (.bN 9 rfl rfl rfl rfl rfl rfl) ?_
      refine .cons (.sT 9 true rfl rfl rfl rfl rfl rfl rfl) ?_
      refine .nil ?_
      refine ks_n ?_
      refine ACode.ret ?_
      first | rw [if_pos h10] at hR | rw [if_neg h10, if_pos h17] at hR | rw [if_neg h10, if_neg h17, if_pos h28] at hR | rw [if_neg h10, if_neg h17, if_neg h28, if_pos h35] at hR | rw [if_neg h10, if_neg h17, if_neg h28, if_neg h35, if_pos h42] at hR | rw [if_neg h10, if_neg h17, if_neg h28, if_neg h35, if_neg h42] at hR
      refine kf_wret [(.t 4, .v (.o (.c (.box 100 9 0 0)))), (.b 0, .b 81 2 (dR ([rRd bs r.2]))), (.u 0, .u), (.b 100, .b 33 9 [[.d (dS r.1.1.1), .d (dAs r.1.1.2), .d (dI r.1.2.k), .d (dI r.1.2.n), .d (dIs r.1.2.i.1), .d (dI r.1.2.i.2), .d (dS r.1.2.r.1), .d (dAs r.1.2.r.2), .d (dEs r.1.2.ks)]]), (.u 100, .u)] (Wk.keep [(0, 0), (100, 104)] rfl rfl ⟨ks rfl (.c .bx), kb 0 rfl (.dt rfl (by first | rfl | (rw [hR]; done) | (rw [hR]; rfl))), kb 104 rfl (.cons (.cons (.dt (by first | rfl | (rw [hR]; done) | (rw [hR]; rfl))) (.cons (.fz rfl (by first | (rw [hR]; exact (dR_app _ [rA (varA 3), rA zA]).trans (by rw [List.map_append]; rfl)) | (rw [hR]; show _ = dR ((s.2.ks ++ [_]).map rE); rw [List.map_append, rE_one, ← dR_app]; rfl) | (rw [hR]; show _ = dR ((s.2.ks ++ [_]).map rE); rw [List.eq_nil_of_length_eq_zero h0, List.nil_append, rE_one]; rfl) | (rw [hR]; done) | (rw [hR]; rfl) | (rw [hR]; simp [dR]; done) | (rw [hR]; simp [dR]; rfl) | (rw [hR]; rw [dR_app]; simp; done) | (rw [hR]; simp [setK, setN]; rfl)) (by first | (rw [hR]; show _ = ((s.2.ks ++ [_]).map rE).length; rw [List.length_map, List.length_append]; first | rfl | (rw [h0]; rfl)) | (rw [hR]; rfl) | (rw [hR]; simp; done) | (rw [hR]; simp; rfl) | (rw [hR]; simp [setK, setN, addK, Ex.ks]; done)) (by first | omega | (simp; done) | (simp; omega))) (.cons (.dt (by first | rfl | (rw [hR]; done) | (rw [hR]; rfl))) (.cons (.dt (by first | rfl | (rw [hR]; done) | (rw [hR]; rfl))) (.cons (.dt (by first | rfl | (rw [hR]; done) | (rw [hR]; rfl))) (.cons (.dt (by first | rfl | (rw [hR]; done) | (rw [hR]; rfl))) (.cons (.dt (by first | rfl | (rw [hR]; done) | (rw [hR]; rfl))) (.cons (.dt (by first | rfl | (rw [hR]; done) | (rw [hR]; rfl))) (.cons (Cto.nilE 7 (by first | (rw [hR]; done) | (rw [hR]; rfl) | (rw [hR]; show dEs s.2.ks = _; rw [List.eq_nil_of_length_eq_zero h0]; rfl))) Ctos.nil))))))))) .nil), trivial⟩) rfl ?_ (hbR_box rfl)
      rfl

set_option maxRecDepth 100000 in
set_option maxHeartbeats 1600000 in
theorem mut_own {bs : List Int} (hb : Bytes bs) {p : Nat} (hp : p ≤ 100000000) (s : Stm) (hs : szS s ≤ 1073741824) (h1 : 0 < s.1.2.length) (h0 : 0 < s.2.ks.length) : Fn Tryz.prog 20 (hbR bs p) [vR, ad (rS s)] (.o (ad (rS (mutD bs p s).1))) (hbR bs (mutD bs p s).2) := by
 have hsz := hs
 rw [szS, szC] at hsz
 have hl := szAs_len s.1.2
 have hE := szE_eq s.2
 obtain ⟨r, hr⟩ : ∃ r, r = mutD bs p s := ⟨_, rfl⟩
 rw [← hr]
 have hR := hr
 unfold mutD at hR
 refine Fn.of_code Tryz.func20 rfl rfl (hbR_HB _ _) rfl rfl (hbR_HB _ _) rfl (hbR_num _ _ _) ?_
 refine ACode.seq ?_
 refine ACode.region ?_
 refine .cons (St1.boxP rfl rfl rfl rfl rfl rfl) ?_
 refine .cons (.al 104 [.string ByteArray.empty, .slice none 0 0, .int .i64 0, .int .i64 0, .slice none 0 0, .int .i64 0, .string ByteArray.empty, .slice none 0 0, .slice none 0 0] rfl rfl rfl) ?_
 refine .nil ?_
 refine ks_n ?_
 refine ACode.seq ?_
 refine ACode.region ?_
 refine .cons (.lN 9 rfl rfl rfl) ?_
 refine .cons (.cO [.tmp 6] [(101, 107), (102, 607)] rfl rfl rfl rfl (l3Copy_own s hs h1 h0) rfl trivial flatS.nil ((flatS.nil.cons rfl).cons rfl) (HB.nil.data).data outS_two) ?_
 refine .cons (.al 105 [.string ByteArray.empty, .slice none 0 0, .int .i64 0, .int .i64 0, .slice none 0 0, .int .i64 0, .string ByteArray.empty, .slice none 0 0, .slice none 0 0] rfl rfl rfl) ?_
 refine .cons (.sT 9 true rfl rfl rfl rfl rfl rfl rfl) ?_
 refine .nil ?_
 refine ks_n ?_
 refine ACode.seq ?_
 refine ACode.seq ?_
 refine ACode.region ?_
 refine .cons (.mv rfl rfl) ?_
 refine .cons (.cR [.tmp 8, .const (.int .i64 (40))] 0 rfl rfl rfl rfl (pick_fn hb (by omega) 40) rfl ⟨rfl, trivial⟩) ?_
 refine .nil ?_
 refine ks_n ?_
 refine ACode.block ?_
 refine ACode.seq ?_
 refine ACode.region ?_
 refine .cons (.eq rfl rfl rfl) ?_
 refine .cons (.asg rfl rfl) ?_
 refine .nil ?_
 refine ks_n ?_
 refine .cD rfl (fun h10 => ?_) (fun h10 => ?_)
 ·skip
  refine ACode.region ?_
  refine .cons (.mv rfl rfl) ?_
  refine .cons (.li 9 0 3 [.const (.string ⟨#[69]⟩), .const (.string ⟨#[]⟩), .const (.string ⟨#[65, 66]⟩), .const (.string ⟨#[97]⟩)] rfl rfl rfl rfl rfl rfl) ?_
  refine .cons (.cR [.tmp 12, .tmp 13] 0 rfl rfl rfl rfl (of_fn hb (by omega) [⟨#[69]⟩, ByteArray.empty, ⟨#[65, 66]⟩, ⟨#[97]⟩] (by simp)) rfl ⟨rfl, trivial⟩) ?_
  refine .cons (.fB 0 1 true rfl rfl rfl) ?_
  refine .cons (.fB 0 0 false rfl rfl rfl) ?_
  refine .cons (.sT 1 false rfl rfl rfl rfl rfl rfl rfl) ?_
  refine .nil ?_
  refine kb_n ?_
  refine ks_n ?_
  refine ACode.seq ?_
  refine ACode.region ?_
  refine .cons (.bN 9 rfl rfl rfl rfl rfl rfl) ?_
  refine .cons (.sT 9 true rfl rfl rfl rfl rfl rfl rfl) ?_
  refine .nil ?_
  refine ks_n ?_
  refine ACode.ret ?_
  first | rw [if_pos h10] at hR | rw [if_neg h10, if_pos h17] at hR | rw [if_neg h10, if_neg h17, if_pos h28] at hR | rw [if_neg h10, if_neg h17, if_neg h28, if_pos h35] at hR | rw [if_neg h10, if_neg h17, if_neg h28, if_neg h35, if_pos h42] at hR | rw [if_neg h10, if_neg h17, if_neg h28, if_neg h35, if_neg h42] at hR
  refine kf_wret [(.t 4, .v (.o (.c (.box 100 9 0 0)))), (.b 0, .b 81 2 (dR ([rRd bs r.2]))), (.u 0, .u), (.b 100, .b 33 9 [[.d (dS r.1.1.1), .d (dAs r.1.1.2), .d (dI r.1.2.k), .d (dI r.1.2.n), .d (dIs r.1.2.i.1), .d (dI r.1.2.i.2), .d (dS r.1.2.r.1), .d (dAs r.1.2.r.2), .d (dEs r.1.2.ks)]]), (.u 100, .u)] (Wk.keep [(0, 0), (100, 104)] rfl rfl ⟨ks rfl (.c .bx), kb 0 rfl (.dt rfl (by first | rfl | (rw [hR]; done) | (rw [hR]; rfl))), kb 104 rfl (.cons (.cons (.dt (by first | rfl | (rw [hR]; done) | (rw [hR]; rfl))) (.cons (.fz rfl (by first | (rw [hR]; exact (dR_app _ [rA (varA 3), rA zA]).trans (by rw [List.map_append]; rfl)) | (rw [hR]; show _ = dR ((s.2.ks ++ [_]).map rE); rw [List.map_append, rE_one, ← dR_app]; rfl) | (rw [hR]; show _ = dR ((s.2.ks ++ [_]).map rE); rw [List.eq_nil_of_length_eq_zero h0, List.nil_append, rE_one]; rfl) | (rw [hR]; done) | (rw [hR]; rfl) | (rw [hR]; simp [dR]; done) | (rw [hR]; simp [dR]; rfl) | (rw [hR]; rw [dR_app]; simp; done) | (rw [hR]; simp [setK, setN]; rfl)) (by first | (rw [hR]; show _ = ((s.2.ks ++ [_]).map rE).length; rw [List.length_map, List.length_append]; first | rfl | (rw [h0]; rfl)) | (rw [hR]; rfl) | (rw [hR]; simp; done) | (rw [hR]; simp; rfl) | (rw [hR]; simp [setK, setN, addK, Ex.ks]; done)) (by first | omega | (simp; done) | (simp; omega))) (.cons (.dt (by first | rfl | (rw [hR]; done) | (rw [hR]; rfl))) (.cons (.dt (by first | rfl | (rw [hR]; done) | (rw [hR]; rfl))) (.cons (.dt (by first | rfl | (rw [hR]; done) | (rw [hR]; rfl))) (.cons (.dt (by first | rfl | (rw [hR]; done) | (rw [hR]; rfl))) (.cons (.dt (by first | rfl | (rw [hR]; done) | (rw [hR]; rfl))) (.cons (.dt (by first | rfl | (rw [hR]; done) | (rw [hR]; rfl))) (.cons (.fz rfl (by first | (rw [hR]; exact (dR_app _ [rA (varA 3), rA zA]).trans (by rw [List.map_append]; rfl)) | (rw [hR]; show _ = dR ((s.2.ks ++ [_]).map rE); rw [List.map_append, rE_one, ← dR_app]; rfl) | (rw [hR]; show _ = dR ((s.2.ks ++ [_]).map rE); rw [List.eq_nil_of_length_eq_zero h0, List.nil_append, rE_one]; rfl) | (rw [hR]; done) | (rw [hR]; rfl) | (rw [hR]; simp [dR]; done) | (rw [hR]; simp [dR]; rfl) | (rw [hR]; rw [dR_app]; simp; done) | (rw [hR]; simp [setK, setN]; rfl)) (by first | (rw [hR]; show _ = ((s.2.ks ++ [_]).map rE).length; rw [List.length_map, List.length_append]; first | rfl | (rw [h0]; rfl)) | (rw [hR]; rfl) | (rw [hR]; simp; done) | (rw [hR]; simp; rfl) | (rw [hR]; simp [setK, setN, addK, Ex.ks]; done)) (by first | omega | (simp; done) | (simp; omega))) Ctos.nil))))))))) .nil), trivial⟩) rfl ?_ (hbR_box rfl)
  rfl
 ·skip
  refine ACode.seq ?_
  refine ACode.region ?_
  refine .cons (.eq rfl rfl rfl) ?_
  refine .cons (.asg rfl rfl) ?_
  refine .nil ?_
  refine ks_n ?_
  refine .cD rfl (fun h17 => ?_) (fun h17 => ?_)
  ·skip
   refine ACode.drawK (by kernel_rfl) (by kernel_rfl) ?_
   refine .cons (.fB 0 1 true rfl rfl rfl) ?_
   refine .cons (.fB 1 0 false rfl rfl rfl) ?_
   refine .cons (.b1 1 rfl rfl rfl rfl rfl rfl) ?_
   refine .cons (.cP [.const (.int .i64 (3))] rfl rfl rfl rfl (l1Var_fn 3 (by omega)) rfl) ?_
   refine .cons (.cP [] rfl rfl rfl rfl (l1Zero_fn) rfl) ?_
   refine .cons (.li 28 1 1 [.tmp 22, .tmp 23] rfl rfl rfl rfl rfl rfl) ?_
   refine .cons (St1.appB (k' := 125) (e := 28) (sz := 1) (by' := 32) rfl rfl rfl rfl rfl (by kernel_rfl) rfl rfl rfl rfl (by simp [dR]) (by simp [dR]; omega) rfl rfl rfl) ?_
   refine .cons (.fB 0 1 true rfl rfl rfl) ?_
   refine .cons (.fB 1 0 false rfl rfl rfl) ?_
   refine .cons (.sT 1 false rfl rfl rfl rfl rfl rfl rfl) ?_
   refine .nil ⟨by kernel_rfl, ?_⟩
   refine kb_n ?_
   refine ks_n ?_
   refine ACode.seq ?_
   refine ACode.region ?_
   refine .cons (.bN 9 rfl rfl rfl rfl rfl rfl) ?_
   refine .cons (.sT 9 true rfl rfl rfl rfl rfl rfl rfl) ?_
   refine .nil ?_
   refine ks_n ?_
   refine ACode.ret ?_
   first | rw [if_pos h10] at hR | rw [if_neg h10, if_pos h17] at hR | rw [if_neg h10, if_neg h17, if_pos h28] at hR | rw [if_neg h10, if_neg h17, if_neg h28, if_pos h35] at hR | rw [if_neg h10, if_neg h17, if_neg h28, if_neg h35, if_pos h42] at hR | rw [if_neg h10, if_neg h17, if_neg h28, if_neg h35, if_neg h42] at hR
   refine kf_wret [(.t 4, .v (.o (.c (.box 100 9 0 0)))), (.b 0, .b 81 2 (dR ([rRd bs r.2]))), (.u 0, .u), (.b 100, .b 33 9 [[.d (dS r.1.1.1), .d (dAs r.1.1.2), .d (dI r.1.2.k), .d (dI r.1.2.n), .d (dIs r.1.2.i.1), .d (dI r.1.2.i.2), .d (dS r.1.2.r.1), .d (dAs r.1.2.r.2), .d (dEs r.1.2.ks)]]), (.u 100, .u)] (Wk.keep [(0, 0), (100, 104)] rfl rfl ⟨ks rfl (.c .bx), kb 0 rfl (.dt rfl (by first | rfl | (rw [hR]; done) | (rw [hR]; rfl))), kb 104 rfl (.cons (.cons (.dt (by first | rfl | (rw [hR]; done) | (rw [hR]; rfl))) (.cons (.fz rfl (by first | (rw [hR]; exact (dR_app _ [rA (varA 3), rA zA]).trans (by rw [List.map_append]; rfl)) | (rw [hR]; show _ = dR ((s.2.ks ++ [_]).map rE); rw [List.map_append, rE_one, ← dR_app]; rfl) | (rw [hR]; show _ = dR ((s.2.ks ++ [_]).map rE); rw [List.eq_nil_of_length_eq_zero h0, List.nil_append, rE_one]; rfl) | (rw [hR]; done) | (rw [hR]; rfl) | (rw [hR]; simp [dR]; done) | (rw [hR]; simp [dR]; rfl) | (rw [hR]; rw [dR_app]; simp; done) | (rw [hR]; simp [setK, setN]; rfl)) (by first | (rw [hR]; show _ = ((s.2.ks ++ [_]).map rE).length; rw [List.length_map, List.length_append]; first | rfl | (rw [h0]; rfl)) | (rw [hR]; rfl) | (rw [hR]; simp; done) | (rw [hR]; simp; rfl) | (rw [hR]; simp [setK, setN, addK, Ex.ks]; done)) (by first | omega | (simp; done) | (simp; omega))) (.cons (.dt (by first | rfl | (rw [hR]; done) | (rw [hR]; rfl))) (.cons (.dt (by first | rfl | (rw [hR]; done) | (rw [hR]; rfl))) (.cons (.dt (by first | rfl | (rw [hR]; done) | (rw [hR]; rfl))) (.cons (.dt (by first | rfl | (rw [hR]; done) | (rw [hR]; rfl))) (.cons (.dt (by first | rfl | (rw [hR]; done) | (rw [hR]; rfl))) (.cons (.dt (by first | rfl | (rw [hR]; done) | (rw [hR]; rfl))) (.cons (.fz rfl (by first | (rw [hR]; exact (dR_app _ [rA (varA 3), rA zA]).trans (by rw [List.map_append]; rfl)) | (rw [hR]; show _ = dR ((s.2.ks ++ [_]).map rE); rw [List.map_append, rE_one, ← dR_app]; rfl) | (rw [hR]; show _ = dR ((s.2.ks ++ [_]).map rE); rw [List.eq_nil_of_length_eq_zero h0, List.nil_append, rE_one]; rfl) | (rw [hR]; done) | (rw [hR]; rfl) | (rw [hR]; simp [dR]; done) | (rw [hR]; simp [dR]; rfl) | (rw [hR]; rw [dR_app]; simp; done) | (rw [hR]; simp [setK, setN]; rfl)) (by first | (rw [hR]; show _ = ((s.2.ks ++ [_]).map rE).length; rw [List.length_map, List.length_append]; first | rfl | (rw [h0]; rfl)) | (rw [hR]; rfl) | (rw [hR]; simp; done) | (rw [hR]; simp; rfl) | (rw [hR]; simp [setK, setN, addK, Ex.ks]; done)) (by first | omega | (simp; done) | (simp; omega))) Ctos.nil))))))))) .nil), trivial⟩) rfl ?_ (hbR_box rfl)
   rfl
  ·skip
   refine ACode.seq ?_
   refine ACode.region ?_
   refine .cons (.eq rfl rfl rfl) ?_
   refine .cons (.asg rfl rfl) ?_
   refine .nil ?_
   refine ks_n ?_
   refine .cD rfl (fun h28 => ?_) (fun h28 => ?_)
   ·skip
    refine ACode.region ?_
    refine .cons (.mv rfl rfl) ?_
    refine .cons (.li 3 0 4 [.const (.int .i64 (0)), .const (.int .i64 (7)), .const (.int .i64 (1)), .const (.int .i64 (4)), .const (.int .i64 (2))] rfl rfl rfl rfl rfl rfl) ?_
    refine .cons (.cR [.tmp 30, .tmp 31] 0 rfl rfl rfl rfl (num_fn hb (by omega) [0, 7, 1, 4, 2] (by simp)) rfl ⟨rfl, trivial⟩) ?_
    refine .cons (.fB 2 6 true rfl rfl rfl) ?_
    refine .cons (.fB 0 0 false rfl rfl rfl) ?_
    refine .cons (.sT 1 false rfl rfl rfl rfl rfl rfl rfl) ?_
    refine .nil ?_
    refine kb_n ?_
    refine ks_n ?_
    refine ACode.seq ?_
    refine ACode.region ?_
    refine .cons (.bN 9 rfl rfl rfl rfl rfl rfl) ?_
    refine .cons (.sT 9 true rfl rfl rfl rfl rfl rfl rfl) ?_
    refine .nil ?_
    refine ks_n ?_
    refine ACode.ret ?_
    first | rw [if_pos h10] at hR | rw [if_neg h10, if_pos h17] at hR | rw [if_neg h10, if_neg h17, if_pos h28] at hR | rw [if_neg h10, if_neg h17, if_neg h28, if_pos h35] at hR | rw [if_neg h10, if_neg h17, if_neg h28, if_neg h35, if_pos h42] at hR | rw [if_neg h10, if_neg h17, if_neg h28, if_neg h35, if_neg h42] at hR
    refine kf_wret [(.t 4, .v (.o (.c (.box 100 9 0 0)))), (.b 0, .b 81 2 (dR ([rRd bs r.2]))), (.u 0, .u), (.b 100, .b 33 9 [[.d (dS r.1.1.1), .d (dAs r.1.1.2), .d (dI r.1.2.k), .d (dI r.1.2.n), .d (dIs r.1.2.i.1), .d (dI r.1.2.i.2), .d (dS r.1.2.r.1), .d (dAs r.1.2.r.2), .d (dEs r.1.2.ks)]]), (.u 100, .u)] (Wk.keep [(0, 0), (100, 104)] rfl rfl ⟨ks rfl (.c .bx), kb 0 rfl (.dt rfl (by first | rfl | (rw [hR]; done) | (rw [hR]; rfl))), kb 104 rfl (.cons (.cons (.dt (by first | rfl | (rw [hR]; done) | (rw [hR]; rfl))) (.cons (.fz rfl (by first | (rw [hR]; exact (dR_app _ [rA (varA 3), rA zA]).trans (by rw [List.map_append]; rfl)) | (rw [hR]; show _ = dR ((s.2.ks ++ [_]).map rE); rw [List.map_append, rE_one, ← dR_app]; rfl) | (rw [hR]; show _ = dR ((s.2.ks ++ [_]).map rE); rw [List.eq_nil_of_length_eq_zero h0, List.nil_append, rE_one]; rfl) | (rw [hR]; done) | (rw [hR]; rfl) | (rw [hR]; simp [dR]; done) | (rw [hR]; simp [dR]; rfl) | (rw [hR]; rw [dR_app]; simp; done) | (rw [hR]; simp [setK, setN]; rfl)) (by first | (rw [hR]; show _ = ((s.2.ks ++ [_]).map rE).length; rw [List.length_map, List.length_append]; first | rfl | (rw [h0]; rfl)) | (rw [hR]; rfl) | (rw [hR]; simp; done) | (rw [hR]; simp; rfl) | (rw [hR]; simp [setK, setN, addK, Ex.ks]; done)) (by first | omega | (simp; done) | (simp; omega))) (.cons (.dt (by first | rfl | (rw [hR]; done) | (rw [hR]; rfl))) (.cons (.dt (by first | rfl | (rw [hR]; done) | (rw [hR]; rfl))) (.cons (.dt (by first | rfl | (rw [hR]; done) | (rw [hR]; rfl))) (.cons (.dt (by first | rfl | (rw [hR]; done) | (rw [hR]; rfl))) (.cons (.dt (by first | rfl | (rw [hR]; done) | (rw [hR]; rfl))) (.cons (.dt (by first | rfl | (rw [hR]; done) | (rw [hR]; rfl))) (.cons (.fz rfl (by first | (rw [hR]; exact (dR_app _ [rA (varA 3), rA zA]).trans (by rw [List.map_append]; rfl)) | (rw [hR]; show _ = dR ((s.2.ks ++ [_]).map rE); rw [List.map_append, rE_one, ← dR_app]; rfl) | (rw [hR]; show _ = dR ((s.2.ks ++ [_]).map rE); rw [List.eq_nil_of_length_eq_zero h0, List.nil_append, rE_one]; rfl) | (rw [hR]; done) | (rw [hR]; rfl) | (rw [hR]; simp [dR]; done) | (rw [hR]; simp [dR]; rfl) | (rw [hR]; rw [dR_app]; simp; done) | (rw [hR]; simp [setK, setN]; rfl)) (by first | (rw [hR]; show _ = ((s.2.ks ++ [_]).map rE).length; rw [List.length_map, List.length_append]; first | rfl | (rw [h0]; rfl)) | (rw [hR]; rfl) | (rw [hR]; simp; done) | (rw [hR]; simp; rfl) | (rw [hR]; simp [setK, setN, addK, Ex.ks]; done)) (by first | omega | (simp; done) | (simp; omega))) Ctos.nil))))))))) .nil), trivial⟩) rfl ?_ (hbR_box rfl)
    rfl
   ·skip
    refine ACode.seq ?_
    refine ACode.region ?_
    refine .cons (.eq rfl rfl rfl) ?_
    refine .cons (.asg rfl rfl) ?_
    refine .nil ?_
    refine ks_n ?_
    refine .cD rfl (fun h35 => ?_) (fun h35 => ?_)
    ·skip
     refine ACode.region ?_
     refine .cons (.mv rfl rfl) ?_
     refine .cons (.li 3 0 2 [.const (.int .i64 (100)), .const (.int .i64 (-1)), .const (.int .i64 (1))] rfl rfl rfl rfl rfl rfl) ?_
     refine .cons (.cR [.tmp 37, .tmp 38] 0 rfl rfl rfl rfl (num_fn hb (by omega) [100, -1, 1] (by simp)) rfl ⟨rfl, trivial⟩) ?_
     refine .cons (.fB 2 6 true rfl rfl rfl) ?_
     refine .cons (.fB 1 0 false rfl rfl rfl) ?_
     refine .cons (.sT 1 false rfl rfl rfl rfl rfl rfl rfl) ?_
     refine .nil ?_
     refine kb_n ?_
     refine ks_n ?_
     refine ACode.seq ?_
     refine ACode.region ?_
     refine .cons (.bN 9 rfl rfl rfl rfl rfl rfl) ?_
     refine .cons (.sT 9 true rfl rfl rfl rfl rfl rfl rfl) ?_
     refine .nil ?_
     refine ks_n ?_
     refine ACode.ret ?_
     first | rw [if_pos h10] at hR | rw [if_neg h10, if_pos h17] at hR | rw [if_neg h10, if_neg h17, if_pos h28] at hR | rw [if_neg h10, if_neg h17, if_neg h28, if_pos h35] at hR | rw [if_neg h10, if_neg h17, if_neg h28, if_neg h35, if_pos h42] at hR | rw [if_neg h10, if_neg h17, if_neg h28, if_neg h35, if_neg h42] at hR
     refine kf_wret [(.t 4, .v (.o (.c (.box 100 9 0 0)))), (.b 0, .b 81 2 (dR ([rRd bs r.2]))), (.u 0, .u), (.b 100, .b 33 9 [[.d (dS r.1.1.1), .d (dAs r.1.1.2), .d (dI r.1.2.k), .d (dI r.1.2.n), .d (dIs r.1.2.i.1), .d (dI r.1.2.i.2), .d (dS r.1.2.r.1), .d (dAs r.1.2.r.2), .d (dEs r.1.2.ks)]]), (.u 100, .u)] (Wk.keep [(0, 0), (100, 104)] rfl rfl ⟨ks rfl (.c .bx), kb 0 rfl (.dt rfl (by first | rfl | (rw [hR]; done) | (rw [hR]; rfl))), kb 104 rfl (.cons (.cons (.dt (by first | rfl | (rw [hR]; done) | (rw [hR]; rfl))) (.cons (.fz rfl (by first | (rw [hR]; exact (dR_app _ [rA (varA 3), rA zA]).trans (by rw [List.map_append]; rfl)) | (rw [hR]; show _ = dR ((s.2.ks ++ [_]).map rE); rw [List.map_append, rE_one, ← dR_app]; rfl) | (rw [hR]; show _ = dR ((s.2.ks ++ [_]).map rE); rw [List.eq_nil_of_length_eq_zero h0, List.nil_append, rE_one]; rfl) | (rw [hR]; done) | (rw [hR]; rfl) | (rw [hR]; simp [dR]; done) | (rw [hR]; simp [dR]; rfl) | (rw [hR]; rw [dR_app]; simp; done) | (rw [hR]; simp [setK, setN]; rfl)) (by first | (rw [hR]; show _ = ((s.2.ks ++ [_]).map rE).length; rw [List.length_map, List.length_append]; first | rfl | (rw [h0]; rfl)) | (rw [hR]; rfl) | (rw [hR]; simp; done) | (rw [hR]; simp; rfl) | (rw [hR]; simp [setK, setN, addK, Ex.ks]; done)) (by first | omega | (simp; done) | (simp; omega))) (.cons (.dt (by first | rfl | (rw [hR]; done) | (rw [hR]; rfl))) (.cons (.dt (by first | rfl | (rw [hR]; done) | (rw [hR]; rfl))) (.cons (.dt (by first | rfl | (rw [hR]; done) | (rw [hR]; rfl))) (.cons (.dt (by first | rfl | (rw [hR]; done) | (rw [hR]; rfl))) (.cons (.dt (by first | rfl | (rw [hR]; done) | (rw [hR]; rfl))) (.cons (.dt (by first | rfl | (rw [hR]; done) | (rw [hR]; rfl))) (.cons (.fz rfl (by first | (rw [hR]; exact (dR_app _ [rA (varA 3), rA zA]).trans (by rw [List.map_append]; rfl)) | (rw [hR]; show _ = dR ((s.2.ks ++ [_]).map rE); rw [List.map_append, rE_one, ← dR_app]; rfl) | (rw [hR]; show _ = dR ((s.2.ks ++ [_]).map rE); rw [List.eq_nil_of_length_eq_zero h0, List.nil_append, rE_one]; rfl) | (rw [hR]; done) | (rw [hR]; rfl) | (rw [hR]; simp [dR]; done) | (rw [hR]; simp [dR]; rfl) | (rw [hR]; rw [dR_app]; simp; done) | (rw [hR]; simp [setK, setN]; rfl)) (by first | (rw [hR]; show _ = ((s.2.ks ++ [_]).map rE).length; rw [List.length_map, List.length_append]; first | rfl | (rw [h0]; rfl)) | (rw [hR]; rfl) | (rw [hR]; simp; done) | (rw [hR]; simp; rfl) | (rw [hR]; simp [setK, setN, addK, Ex.ks]; done)) (by first | omega | (simp; done) | (simp; omega))) Ctos.nil))))))))) .nil), trivial⟩) rfl ?_ (hbR_box rfl)
     rfl
    ·skip
     refine ACode.seq ?_
     refine ACode.region ?_
     refine .cons (.eq rfl rfl rfl) ?_
     refine .cons (.asg rfl rfl) ?_
     refine .nil ?_
     refine ks_n ?_
     refine .cD rfl (fun h42 => ?_) (fun h42 => ?_)
     ·skip
      refine ACode.region ?_
      refine .cons (.fB 2 6 true rfl rfl rfl) ?_
      refine .cons (.fB 6 0 false rfl rfl rfl) ?_
      refine .cons (.b1 1 rfl rfl rfl rfl rfl rfl) ?_
      refine .cons (.buZ [(0, .const (.int .i64 (1)))] [(0, 1), (1, 1), (2, 2), (4, 2), (6, 1)] [.int .i64 0, .int .i64 0, .slice none 0 0, .int .i64 0, .string ByteArray.empty, .slice none 0 0, .slice none 0 0] [dI 0, dI 0, .list 1 [], dI 0, dS ByteArray.empty, .list 2 [], .list 7 []] rfl rfl (.val rfl (.val rfl (.list _ (.val rfl (.val rfl (.list _ (.list _ ZR.nil))))))) rfl rfl) ?_
      refine .cons (.li 31 6 0 [.tmp 47] rfl rfl rfl rfl rfl rfl) ?_
      refine .cons (St1.appB (k' := 149) (e := 31) (sz := 6) (by' := 112) rfl rfl rfl rfl rfl (by kernel_rfl) rfl rfl rfl rfl (by simp [dR]) (by simp [dR]; omega) rfl rfl rfl) ?_
      refine .cons (.fB 2 6 true rfl rfl rfl) ?_
      refine .cons (.fB 6 0 false rfl rfl rfl) ?_
      refine .cons (.sT 1 false rfl rfl rfl rfl rfl rfl rfl) ?_
      refine .nil ?_
      refine kb_n ?_
      refine ks_n ?_
      refine ACode.seq ?_
      refine ACode.region ?_
      refine .cons (.bN 9 rfl rfl rfl rfl rfl rfl) ?_
      refine .cons (.sT 9 true rfl rfl rfl rfl rfl rfl rfl) ?_
      refine .nil ?_
      refine ks_n ?_
      refine ACode.ret ?_
      first | rw [if_pos h10] at hR | rw [if_neg h10, if_pos h17] at hR | rw [if_neg h10, if_neg h17, if_pos h28] at hR | rw [if_neg h10, if_neg h17, if_neg h28, if_pos h35] at hR | rw [if_neg h10, if_neg h17, if_neg h28, if_neg h35, if_pos h42] at hR | rw [if_neg h10, if_neg h17, if_neg h28, if_neg h35, if_neg h42] at hR
      refine kf_wret [(.t 4, .v (.o (.c (.box 100 9 0 0)))), (.b 0, .b 81 2 (dR ([rRd bs r.2]))), (.u 0, .u), (.b 100, .b 33 9 [[.d (dS r.1.1.1), .d (dAs r.1.1.2), .d (dI r.1.2.k), .d (dI r.1.2.n), .d (dIs r.1.2.i.1), .d (dI r.1.2.i.2), .d (dS r.1.2.r.1), .d (dAs r.1.2.r.2), .d (dEs r.1.2.ks)]]), (.u 100, .u)] (Wk.keep [(0, 0), (100, 104)] rfl rfl ⟨ks rfl (.c .bx), kb 0 rfl (.dt rfl (by first | rfl | (rw [hR]; done) | (rw [hR]; rfl))), kb 104 rfl (.cons (.cons (.dt (by first | rfl | (rw [hR]; done) | (rw [hR]; rfl))) (.cons (.fz rfl (by first | (rw [hR]; exact (dR_app _ [rA (varA 3), rA zA]).trans (by rw [List.map_append]; rfl)) | (rw [hR]; show _ = dR ((s.2.ks ++ [_]).map rE); rw [List.map_append, rE_one, ← dR_app]; rfl) | (rw [hR]; show _ = dR ((s.2.ks ++ [_]).map rE); rw [List.eq_nil_of_length_eq_zero h0, List.nil_append, rE_one]; rfl) | (rw [hR]; done) | (rw [hR]; rfl) | (rw [hR]; simp [dR]; done) | (rw [hR]; simp [dR]; rfl) | (rw [hR]; rw [dR_app]; simp; done) | (rw [hR]; simp [setK, setN]; rfl)) (by first | (rw [hR]; show _ = ((s.2.ks ++ [_]).map rE).length; rw [List.length_map, List.length_append]; first | rfl | (rw [h0]; rfl)) | (rw [hR]; rfl) | (rw [hR]; simp; done) | (rw [hR]; simp; rfl) | (rw [hR]; simp [setK, setN, addK, Ex.ks]; done)) (by first | omega | (simp; done) | (simp; omega))) (.cons (.dt (by first | rfl | (rw [hR]; done) | (rw [hR]; rfl))) (.cons (.dt (by first | rfl | (rw [hR]; done) | (rw [hR]; rfl))) (.cons (.dt (by first | rfl | (rw [hR]; done) | (rw [hR]; rfl))) (.cons (.dt (by first | rfl | (rw [hR]; done) | (rw [hR]; rfl))) (.cons (.dt (by first | rfl | (rw [hR]; done) | (rw [hR]; rfl))) (.cons (.dt (by first | rfl | (rw [hR]; done) | (rw [hR]; rfl))) (.cons (.fz rfl (by first | (rw [hR]; exact (dR_app _ [rA (varA 3), rA zA]).trans (by rw [List.map_append]; rfl)) | (rw [hR]; show _ = dR ((s.2.ks ++ [_]).map rE); rw [List.map_append, rE_one, ← dR_app]; rfl) | (rw [hR]; show _ = dR ((s.2.ks ++ [_]).map rE); rw [List.eq_nil_of_length_eq_zero h0, List.nil_append, rE_one]; rfl) | (rw [hR]; done) | (rw [hR]; rfl) | (rw [hR]; simp [dR]; done) | (rw [hR]; simp [dR]; rfl) | (rw [hR]; rw [dR_app]; simp; done) | (rw [hR]; simp [setK, setN]; rfl)) (by first | (rw [hR]; show _ = ((s.2.ks ++ [_]).map rE).length; rw [List.length_map, List.length_append]; first | rfl | (rw [h0]; rfl)) | (rw [hR]; rfl) | (rw [hR]; simp; done) | (rw [hR]; simp; rfl) | (rw [hR]; simp [setK, setN, addK, Ex.ks]; done)) (by first | omega | (simp; done) | (simp; omega))) Ctos.nil))))))))) .nil), trivial⟩) rfl ?_ (hbR_box rfl)
      rfl
     ·skip
      refine ACode.skip ?_
      refine kb_n ?_
      refine ks_n ?_
      refine ACode.seq ?_
      refine ACode.region ?_
      refine .cons (.bN 9 rfl rfl rfl rfl rfl rfl) ?_
      refine .cons (.sT 9 true rfl rfl rfl rfl rfl rfl rfl) ?_
      refine .nil ?_
      refine ks_n ?_
      refine ACode.ret ?_
      first | rw [if_pos h10] at hR | rw [if_neg h10, if_pos h17] at hR | rw [if_neg h10, if_neg h17, if_pos h28] at hR | rw [if_neg h10, if_neg h17, if_neg h28, if_pos h35] at hR | rw [if_neg h10, if_neg h17, if_neg h28, if_neg h35, if_pos h42] at hR | rw [if_neg h10, if_neg h17, if_neg h28, if_neg h35, if_neg h42] at hR
      refine kf_wret [(.t 4, .v (.o (.c (.box 100 9 0 0)))), (.b 0, .b 81 2 (dR ([rRd bs r.2]))), (.u 0, .u), (.b 100, .b 33 9 [[.d (dS r.1.1.1), .d (dAs r.1.1.2), .d (dI r.1.2.k), .d (dI r.1.2.n), .d (dIs r.1.2.i.1), .d (dI r.1.2.i.2), .d (dS r.1.2.r.1), .d (dAs r.1.2.r.2), .d (dEs r.1.2.ks)]]), (.u 100, .u)] (Wk.keep [(0, 0), (100, 104)] rfl rfl ⟨ks rfl (.c .bx), kb 0 rfl (.dt rfl (by first | rfl | (rw [hR]; done) | (rw [hR]; rfl))), kb 104 rfl (.cons (.cons (.dt (by first | rfl | (rw [hR]; done) | (rw [hR]; rfl))) (.cons (.fz rfl (by first | (rw [hR]; exact (dR_app _ [rA (varA 3), rA zA]).trans (by rw [List.map_append]; rfl)) | (rw [hR]; show _ = dR ((s.2.ks ++ [_]).map rE); rw [List.map_append, rE_one, ← dR_app]; rfl) | (rw [hR]; show _ = dR ((s.2.ks ++ [_]).map rE); rw [List.eq_nil_of_length_eq_zero h0, List.nil_append, rE_one]; rfl) | (rw [hR]; done) | (rw [hR]; rfl) | (rw [hR]; simp [dR]; done) | (rw [hR]; simp [dR]; rfl) | (rw [hR]; rw [dR_app]; simp; done) | (rw [hR]; simp [setK, setN]; rfl)) (by first | (rw [hR]; show _ = ((s.2.ks ++ [_]).map rE).length; rw [List.length_map, List.length_append]; first | rfl | (rw [h0]; rfl)) | (rw [hR]; rfl) | (rw [hR]; simp; done) | (rw [hR]; simp; rfl) | (rw [hR]; simp [setK, setN, addK, Ex.ks]; done)) (by first | omega | (simp; done) | (simp; omega))) (.cons (.dt (by first | rfl | (rw [hR]; done) | (rw [hR]; rfl))) (.cons (.dt (by first | rfl | (rw [hR]; done) | (rw [hR]; rfl))) (.cons (.dt (by first | rfl | (rw [hR]; done) | (rw [hR]; rfl))) (.cons (.dt (by first | rfl | (rw [hR]; done) | (rw [hR]; rfl))) (.cons (.dt (by first | rfl | (rw [hR]; done) | (rw [hR]; rfl))) (.cons (.dt (by first | rfl | (rw [hR]; done) | (rw [hR]; rfl))) (.cons (.fz rfl (by first | (rw [hR]; exact (dR_app _ [rA (varA 3), rA zA]).trans (by rw [List.map_append]; rfl)) | (rw [hR]; show _ = dR ((s.2.ks ++ [_]).map rE); rw [List.map_append, rE_one, ← dR_app]; rfl) | (rw [hR]; show _ = dR ((s.2.ks ++ [_]).map rE); rw [List.eq_nil_of_length_eq_zero h0, List.nil_append, rE_one]; rfl) | (rw [hR]; done) | (rw [hR]; rfl) | (rw [hR]; simp [dR]; done) | (rw [hR]; simp [dR]; rfl) | (rw [hR]; rw [dR_app]; simp; done) | (rw [hR]; simp [setK, setN]; rfl)) (by first | (rw [hR]; show _ = ((s.2.ks ++ [_]).map rE).length; rw [List.length_map, List.length_append]; first | rfl | (rw [h0]; rfl)) | (rw [hR]; rfl) | (rw [hR]; simp; done) | (rw [hR]; simp; rfl) | (rw [hR]; simp [setK, setN, addK, Ex.ks]; done)) (by first | omega | (simp; done) | (simp; omega))) Ctos.nil))))))))) .nil), trivial⟩) rfl ?_ (hbR_box rfl)
      rfl

theorem l3Mutate_fn {bs : List Int} (hb : Bytes bs) {p : Nat} (hp : p ≤ 100000000) (s : Stm) (hs : szS s ≤ 1073741824) (h1 : 0 < s.1.2.length) : Fn Tryz.prog 20 (hbR bs p) [vR, ad (rS s)] (.o (ad (rS (mutD bs p s).1))) (hbR bs (mutD bs p s).2) := by
  by_cases h : s.2.ks.length = 0
  · exact mut_nil hb hp s hs h1 h
  · exact mut_own hb hp s hs h1 (by omega)
theorem szA_mut (bs : List Int) (p : Nat) (s : Stm) : p ≤ (mutD bs p s).2 ∧ (mutD bs p s).2 ≤ p + 2 ∧ szS (mutD bs p s).1 ≤ szS s + 20 ∧ s.1.2.length ≤ (mutD bs p s).1.1.2.length := by
  have hE := szE_eq s.2
  have key : ∀ (a : List Ex) (x : Ex), szEs (a ++ [x]) = szEs a + szE x := by
    intro a x
    induction a with
    | nil => simp [szEs]
    | cons y a ih => rw [List.cons_append, szEs, szEs, ih]; omega
  unfold mutD
  split
  · refine ⟨by dsimp only; omega, by dsimp only; omega, ?_, Nat.le_refl _⟩
    have h := ofV_size bs (p + 1) [⟨#[69]⟩, ByteArray.empty, ⟨#[65, 66]⟩, ⟨#[97]⟩] (by decide)
    simp only [szS, szC]; omega
  · split
    · refine ⟨by dsimp only; omega, by dsimp only; omega, ?_, by simp⟩
      simp only [szS, szC, szAs, List.length_append, List.map_append, List.sum_append, List.length_cons, List.length_nil, List.map_cons, List.map_nil, List.sum_cons, List.sum_nil, varA, zA, List.length_set]; omega
    · split
      · refine ⟨by dsimp only; omega, by dsimp only; omega, ?_, Nat.le_refl _⟩
        simp only [szS, setK, szE_mk]; omega
      · split
        · refine ⟨by dsimp only; omega, by dsimp only; omega, ?_, Nat.le_refl _⟩
          simp only [szS, setN, szE_mk]; omega
        · split
          · refine ⟨by dsimp only; omega, by dsimp only; omega, ?_, Nat.le_refl _⟩
            have h0 : szC zC0 = 0 := by decide
            have h1 : zA0.1.length = 0 := rfl
            simp only [szS, addK, szE_mk, key, List.length_append, List.length_cons, List.length_nil, szEs, h0, h1]
            omega
          · exact ⟨by dsimp only; omega, by dsimp only; omega, by dsimp only; omega, Nat.le_refl _⟩
theorem stmC_ok {bs : List Int} (hb : Bytes bs) {d : Nat} (hd : d ≤ 4) {p : Nat} (hp : p ≤ 50000000) : ∃ (s : Stm) (q : Nat), p ≤ q ∧ q ≤ p + 600 ∧ szS s ≤ 300 ∧ 0 < s.1.2.length ∧ Fn Tryz.prog 21 (hbR bs p) [vR, nat1 (d : Nat)] (.o (ad (rS s))) (hbR bs q) := by
  obtain ⟨h1, h2, h3, h4⟩ := stmC_bd hb hd p (by omega)
  exact ⟨_, _, h1, by omega, by omega, h4, l13Stmt_fn hb (by omega) d hd⟩
theorem mut_ok {bs : List Int} (hb : Bytes bs) {p : Nat} (hp : p ≤ 100000000) {s : Stm} {m : Nat} (hs : szS s ≤ m) (hm : m ≤ 1000000) (h1 : 0 < s.1.2.length) : ∃ (t : Stm) (q : Nat), p ≤ q ∧ q ≤ p + 2 ∧ szS t ≤ m + 20 ∧ 0 < t.1.2.length ∧ Fn Tryz.prog 20 (hbR bs p) [vR, ad (rS s)] (.o (ad (rS t))) (hbR bs q) := by
  obtain ⟨a1, a2, a3, a4⟩ := szA_mut bs p s
  exact ⟨_, _, a1, a2, by omega, by omega, l3Mutate_fn hb hp s (by omega) h1⟩
theorem pick4 {bs : List Int} (hb : Bytes bs) (p : Nat) (hp : p ≤ 1099511627776) : ∃ d : Nat, pickV bs p 4 = (d : Int) ∧ d ≤ 4 := by
  have h := pickV_bd hb hp 4
  have h2 := h.2 (by omega)
  exact ⟨(pickV bs p 4).toNat, by omega, by omega⟩


set_option maxRecDepth 100000 in
set_option maxHeartbeats 1600000 in
theorem drawFo_core {bs : List Int} (hb : Bytes (bs.take 2000)) {s t : Stm} {q q2 : Nat} {d : Nat} (hd : pickV (bs.take 2000) 0 4 = (d : Int)) (hF : Fn Tryz.prog 21 (hbR (bs.take 2000) 1) [vR, nat1 (d : Nat)] (.o (ad (rS s))) (hbR (bs.take 2000) q)) (hM : Fn Tryz.prog 20 (hbR (bs.take 2000) q) [vR, ad (rS s)] (.o (ad (rS t))) (hbR (bs.take 2000) q2)) : Fn Tryz.prog 9 [] [vD (dYs bs)] (.o (ad (rS t))) [] := by
 refine Fn.code0 Tryz.func9 rfl rfl rfl rfl ?_
 refine ACode.seq ?_
 refine ACode.region ?_
 refine .cons (.al 102 [.string ByteArray.empty, .slice none 0 0, .int .i64 0, .int .i64 0, .slice none 0 0, .int .i64 0, .string ByteArray.empty, .slice none 0 0, .slice none 0 0] rfl rfl rfl) ?_
 refine .nil ?_
 refine ks_n ?_
 refine ACode.seq ?_
 refine ACode.region ?_
 refine .cons (.mv rfl rfl) ?_
 refine .cons (.cO [.tmp 4] [(100, 105)] rfl rfl rfl rfl (l16Open_fn bs) rfl trivial flatS.nil (flatS.nil.cons rfl) HB.nil.data outS_one) ?_
 refine .cons (.asg rfl rfl) ?_
 refine .nil ?_
 refine ks_n ?_
 refine ACode.seq ?_
 refine ACode.region ?_
 refine .cons (.mv rfl rfl) ?_
 refine .cons (.mv rfl rfl) ?_
 refine .cons (.mv rfl rfl) ?_
 refine .cons (.cR [.tmp 8, .const (.int .i64 (4))] 105 rfl rfl rfl rfl (hd ▸ pick_fn hb (p := 0) (by omega) 4) rfl ⟨rfl, trivial⟩) ?_
 refine .cons (.cR [.tmp 7, .tmp 9] 105 rfl rfl rfl rfl (hF) rfl ⟨rfl, trivial⟩) ?_
 refine .cons (.cR [.tmp 6, .tmp 10] 105 rfl rfl rfl rfl (hM) rfl ⟨rfl, trivial⟩) ?_
 refine .cons (.sT 9 true rfl rfl rfl rfl rfl rfl rfl) ?_
 refine .nil ?_
 refine ks_n ?_
 refine ACode.ret ?_
 refine kf_ret rfl ?_ nobox
 rfl


theorem drawFo_fn {bs : List Int} (hb : Bytes (bs.take 2000)) : ∃ t : Stm, szS t ≤ 400 ∧ 0 < t.1.2.length ∧ Fn Tryz.prog 9 [] [vD (dYs bs)] (.o (ad (rS t))) [] := by
  obtain ⟨d, hd, hd4⟩ := pick4 hb 0 (by omega)
  obtain ⟨s, q, h1, h2, h3, h4, hF⟩ := stmC_ok hb hd4 (p := 1) (by omega)
  obtain ⟨t, q2, g1, g2, g3, g4, hM⟩ := mut_ok hb (p := q) (by omega) h3 (by omega) h4
  exact ⟨t, by omega, g4, drawFo_core hb hd hF hM⟩
end Go.Proofs.YtcbfklmoeofoiaaGreat
