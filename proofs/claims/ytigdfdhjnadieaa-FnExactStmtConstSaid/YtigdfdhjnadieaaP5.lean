/- Part 5 of 5 of the proof: laws on memory and data, then what the functions compute, in the order in which they build on each other; conditions: those that each theorem names. -/
import Derived.Test.YtigdfdhjnadieaaP4

/- Statements: reads of the reference, replacements; condition: small lists. -/
namespace Go.Proofs.Ytigdfdhjnadieaa
set_option linter.unusedVariables false
set_option linter.unusedSimpArgs false
open Go.RowKit

def hbL (k : Nat) (l : List Acc) : St := [(.b k, .b 25 2 (dR (l.map rC))), (.u k, .u)]
theorem rdEs_le : ∀ {l : List Ex} {i : Nat}, (rdEs (l.take i)).length ≤ (rdEs l).length
  | [], i => by simp [rdEs]
  | y :: l, 0 => by simp [rdEs]
  | y :: l, i + 1 => by
    rw [List.take_succ_cons, rdEs, rdEs, List.length_append, List.length_append]
    have := rdEs_le (l := l) (i := i)
    omega
theorem hbL_HB (k : Nat) (l : List Acc) : HB (hbL k l) := HB.nil.data
theorem hbL_flat (k : Nat) (l : List Acc) : flatS (hbL k l) := flatS.nil.cons rfl

set_option maxRecDepth 100000 in
set_option maxHeartbeats 1600000 in
theorem l3Reads_one (l : List Acc) (e : Ex) (hi3 : e.r.2.length ≤ 1073741824) (hq3 : ∀ x ∈ e.r.2, x.1.length ≤ 1073741824) (hkl : e.ks.length ≤ 1099511627776) (hln : l.length + (rdE e).length ≤ 1073741824) (ih : ∀ x ∈ e.ks, ∀ l : List Acc, l.length + (rdE x).length ≤ 1073741824 → Fn Try.prog 68 (hbL 0 l) [.c (.own 0 2 l.length), ad (rX x)] (.o (.c (.own 1000 2 (l ++ rdE x).length))) (hbL 1000 (l ++ rdE x))) : Fn Try.prog 68 (hbL 0 l) [.c (.own 0 2 l.length), ad (rX e)] (.o (.c (.own 1000 2 (l ++ rdE e).length))) (hbL 1000 (l ++ rdE e)) := by
  have hrd := rdE_eq e
  have hbl : (rdE e).length = (if e.k = 3 then [e.r] else []).length + (rdEs e.ks).length := by rw [hrd, List.length_append]
  refine Fn.of_code Try.func68 rfl rfl (hbL_HB _ _) rfl rfl (hbL_HB _ _) rfl (one_num rfl) ?_
  refine ACode.seq ?_
  refine ACode.region ?_
  refine .cons (St1.boxP rfl rfl rfl rfl rfl rfl) ?_
  refine .cons (.asg rfl rfl) ?_
  refine .nil ?_
  refine ks_n ?_
  refine ACode.seq ?_
  refine ACode.cut [(.t 0, .v (.o (.c (.own 1710 2 ((l ++ (if e.k = 3 then [e.r] else [])).length))))), (.t 3, .v (.o (.c (.ptr (rX e))))), (.t 4, .v (.o (.c (.d (.val (.slice none 0 0)))))), (.b 1710, .b 25 2 (dR ((l ++ (if e.k = 3 then [e.r] else [])).map rC))), (.u 1710, .u)] ?_ ?_
  · skip
    refine ACode.seq ?_
    refine ACode.region ?_
    refine .cons (.fP 0 0 false rfl rfl) ?_
    refine .cons (.l1 1 rfl rfl) ?_
    refine .cons (.eq rfl rfl rfl) ?_
    refine .nil ?_
    refine ks_n ?_
    refine .cD rfl (fun h8 => ?_) (fun h8 => ?_)
    · skip
      refine ACode.region ?_
      refine .cons (.mv rfl rfl) ?_
      refine .cons (.fP 4 1 true rfl rfl) ?_
      refine .cons (.lN 2 rfl rfl rfl) ?_
      refine .cons (.cP [.tmp 11] rfl rfl rfl rfl (l3CopyAcc_fn _ hi3 hq3) rfl) ?_
      refine .cons (.li 25 1 0 [.tmp 12] rfl rfl rfl rfl rfl rfl) ?_
      refine .cons (St1.appB (k' := 1014) (e := 25) (sz := 1) (by' := 40) rfl rfl rfl rfl rfl (by kernel_rfl) rfl rfl rfl rfl (by simp [dR]) (by rw [if_pos h8] at hbl; simp [dR] at hbl ⊢; omega) rfl rfl rfl) ?_
      refine .cons (.asg rfl rfl) ?_
      refine .nil ?_
      exact kc_n (Wk.keep [(1710, 1014)] rfl rfl ⟨ks rfl (.c (.ow (by first | rfl | omega | (simp; done) | (simp; omega) | (simp [*]; done) | (simp [*]; omega) | (simp [rdEs]; done) | (rw [hT]; simp; omega) | (rw [hT]; simp [Nat.add_assoc]; done)))), ks rfl .dt, ks rfl .dt, kb 1014 rfl (.dt rfl (by first | rfl | (rw [if_pos h8, ← dR_apC]; rfl) | (rw [if_neg h8, List.append_nil]; done) | (simp only [dR_apC]; simp [hT, List.append_assoc]; done) | (rw [hT, ← List.append_assoc]; done) | (simp [rdEs]; done))), trivial⟩)
    · skip
      refine ACode.skip ?_
      exact kc_n (Wk.keep [(1710, 0)] rfl rfl ⟨ks rfl (.c (.ow (by first | rfl | omega | (simp; done) | (simp; omega) | (simp [*]; done) | (simp [*]; omega) | (simp [rdEs]; done) | (rw [hT]; simp; omega) | (rw [hT]; simp [Nat.add_assoc]; done)))), ks rfl .dt, ks rfl .dt, kb 0 rfl (.dt rfl (by first | rfl | (rw [if_pos h8, ← dR_apC]; rfl) | (rw [if_neg h8, List.append_nil]; done) | (simp only [dR_apC]; simp [hT, List.append_assoc]; done) | (rw [hT, ← List.append_assoc]; done) | (simp [rdEs]; done))), trivial⟩)
  refine ks_n ?_
  refine ACode.seq ?_
  refine ACode.seq ?_
  refine ACode.region ?_
  refine .cons (.asg rfl rfl) ?_
  refine .nil ?_
  refine ks_n ?_
  refine ACode.block ?_
  refine .loopK (fun m σ => (∃ i : Nat, m = e.ks.length - i ∧ (i ≤ e.ks.length) ∧ (True) ∧ σ = [(.t 0, .v (.o (.c (.own 1010 2 ((l ++ (if e.k = 3 then [e.r] else []) ++ rdEs (e.ks.take i)).length))))), (.t 3, .v (.o (.c (.ptr (rX e))))), (.t 4, .v (.o (.c (.d (.val (.slice none 0 0)))))), (.t 5, .v (.o (nat1 (i : Nat)))), (.b 1010, .b 25 2 (dR ((l ++ (if e.k = 3 then [e.r] else []) ++ rdEs (e.ks.take i)).map rC))), (.u 1010, .u)])) [(1010, 1710)] ⟨0, rfl, by omega, trivial, rfl⟩ ⟨ks rfl (.c (.ow (by first | rfl | omega | (simp; done) | (simp; omega) | (simp [*]; done) | (simp [*]; omega) | (simp [rdEs]; done) | (rw [hT]; simp; omega) | (rw [hT]; simp [Nat.add_assoc]; done)))), ks rfl .dt, ks rfl .dt, ks rfl .dt, kb 1710 rfl (.dt rfl (by first | rfl | (rw [if_pos h8, ← dR_apC]; rfl) | (rw [if_neg h8, List.append_nil]; done) | (simp only [dR_apC]; simp [hT, List.append_assoc]; done) | (rw [hT, ← List.append_assoc]; done) | (simp [rdEs]; done))), trivial⟩ ?_
  rintro m σ ⟨i, hm0, hi, hF, rfl⟩
  refine ACode.seq ?_
  refine ACode.seq ?_
  refine ACode.region ?_
  refine .cons (.mv rfl rfl) ?_
  refine .cons (.fP 6 0 false rfl rfl) ?_
  refine .cons (.l1 1 rfl rfl) ?_
  refine .cons (.ln 31 7 112 rfl rfl rfl) ?_
  refine .cons (.ls rfl rfl rfl) ?_
  refine .nil ?_
  refine ks_n ?_
  refine .cD rfl (fun h19 => ?_) (fun h19 => ?_)
  · skip
    obtain ⟨x, hx1⟩ : ∃ x, e.ks[i]? = some x := ⟨_, List.getElem?_eq_getElem (by omega)⟩
    have hT := rdEs_take hx1
    have hle := rdEs_le (l := e.ks) (i := i + 1)
    have hnx : (l ++ (if e.k = 3 then [e.r] else []) ++ rdEs (e.ks.take i)).length + (rdE x).length ≤ 1073741824 := by rw [hT, List.length_append] at hle; simp only [List.length_append]; omega
    refine ACode.skip ?_
    refine ks_n ?_
    refine ACode.seq ?_
    refine ACode.block ?_
    refine ACode.region ?_
    refine .cons (.mv rfl rfl) ?_
    refine .cons (.fP 6 0 false rfl rfl) ?_
    refine .cons (.l1 1 rfl rfl) ?_
    refine .cons (.mv rfl rfl) ?_
    refine .cons (.xL 31 7 112 rfl rfl rfl rfl rfl (rE_at hx1)) ?_
    refine .cons (.lN 7 rfl rfl rfl) ?_
    refine .cons (.cO [.tmp 22, .tmp 27] [(0, 1010), (1000, 1028)] rfl rfl rfl rfl (ih x (List.mem_of_getElem? hx1) (l ++ (if e.k = 3 then [e.r] else []) ++ rdEs (e.ks.take i)) hnx) rfl ⟨(by rw [renR_dR]; rfl), trivial⟩ (hbL_flat _ _) (hbL_flat _ _) (hbL_HB _ _) outS_one) ?_
    refine .cons (.asg rfl rfl) ?_
    refine .nil ?_
    refine kb_n ?_
    refine ks_n ?_
    refine ACode.region ?_
    refine .cons (.mv rfl rfl) ?_
    refine .cons (.pl rfl rfl rfl) ?_
    refine .cons (.asg rfl rfl) ?_
    refine .nil ?_
    refine kl_k [(1010, 1028)] ⟨i + 1, rfl, by omega, trivial, rfl⟩ ⟨ks rfl (.c (.ow (by first | rfl | omega | (simp; done) | (simp; omega) | (simp [*]; done) | (simp [*]; omega) | (simp [rdEs]; done) | (rw [hT]; simp; omega) | (rw [hT]; simp [Nat.add_assoc]; done)))), ks rfl .dt, ks rfl .dt, ks rfl .dt, kb 1028 rfl (.dt rfl (by first | rfl | (rw [if_pos h8, ← dR_apC]; rfl) | (rw [if_neg h8, List.append_nil]; done) | (simp only [dR_apC]; simp [hT, List.append_assoc]; done) | (rw [hT, ← List.append_assoc]; done) | (simp [rdEs]; done))), trivial⟩
  · skip
    have hall : l ++ (if e.k = 3 then [e.r] else []) ++ rdEs (e.ks.take i) = l ++ rdE e := by rw [List.take_of_length_le (by omega), hrd, List.append_assoc]
    refine ACode.exit ?_
    refine ks_e ?_
    refine kl_e ?_
    refine kb_hit ?_
    refine ks_n ?_
    refine ACode.seq ?_
    refine ACode.region ?_
    refine .cons (.mv rfl rfl) ?_
    refine .cons (.asg rfl rfl) ?_
    refine .nil ?_
    refine ks_n ?_
    refine ACode.ret ?_
    refine kf_wret [(.t 4, .v (.o (.c (.own 1000 2 ((l ++ rdE e).length))))), (.b 1000, .b 25 2 (dR ((l ++ rdE e).map rC))), (.u 1000, .u)] (Wk.keep [(1000, 1010)] rfl rfl ⟨ks rfl (.c (.ow (by rw [hall]))), kb 1010 rfl (.dt rfl (by rw [hall])), trivial⟩) rfl ?_ (one_box rfl)
    rfl

theorem l3Reads_fn : ∀ e : Ex, szE e ≤ 1073741824 → ∀ l : List Acc, l.length + (rdE e).length ≤ 1073741824 → Fn Try.prog 68 (hbL 0 l) [.c (.own 0 2 l.length), ad (rX e)] (.o (.c (.own 1000 2 (l ++ rdE e).length))) (hbL 1000 (l ++ rdE e)) := by
  intro e
  induction e using Ex.rec' with
  | h e ih =>
    intro hs l hl
    have h1 := hs
    rw [szE_eq, szC] at h1
    have := szAs_len e.r.2
    exact l3Reads_one l e (by omega) (fun x hx => by have := szAs_mem hx; omega) (by omega) hl fun x hx l hl => ih x hx (by have := szEs_mem hx; omega) l hl

set_option maxRecDepth 100000 in
set_option maxHeartbeats 1600000 in
theorem specReads_fn (s : Stm) (hs : szS s ≤ 1073741824) : Fn Try.prog 25 [] [ad (rS s)] (.o (vD (dCs (rdS s)))) [] := by
  have hs2 : szE s.2 ≤ 1073741824 := by rw [szS] at hs; omega
  refine Fn.code0 Try.func25 rfl rfl rfl rfl ?_
  refine ACode.seq ?_
  refine ACode.region ?_
  refine .cons (St1.boxP rfl rfl rfl rfl rfl rfl) ?_
  refine .cons (.asg rfl rfl) ?_
  refine .nil ?_
  refine ks_n ?_
  refine ACode.seq ?_
  refine ACode.seq ?_
  refine ACode.region ?_
  refine .cons (.lN 9 rfl rfl rfl) ?_
  refine .cons (.cP [.tmp 3, .const (.int .i64 (4))] rfl rfl rfl rfl (specStmtV_fn 4 s (by omega)) rfl) ?_
  refine .cons (.nt rfl rfl) ?_
  refine .nil ?_
  refine ks_n ?_
  refine ACode.condT rfl (fun h5 => ?_) (fun h5 => ?_)
  · try simp only [List.length_map, decide_eq_true_eq, decide_eq_false_iff_not, Bool.not_eq_true', Bool.not_eq_false', Bool.not_eq_true, Bool.not_eq_false] at h5
    refine ACode.seq ?_
    refine ACode.region ?_
    refine .cons (St1.lit0D (e := 25) (sz := 2) (b := true) rfl rfl rfl rfl (by kernel_rfl)) ?_
    refine .cons (.asg rfl rfl) ?_
    refine .nil ?_
    refine ks_n ?_
    refine ACode.ret ?_
    refine ks_r ?_
    refine kf_wret [(.t 2, .v (.o (vD (dCs (rdS s)))))] (Wk.keep [] rfl rfl ⟨ks rfl (.dt (by rw [rdS, h5]; rfl)), trivial⟩) rfl ?_ nobox
    rfl
  · try simp only [List.length_map, decide_eq_true_eq, decide_eq_false_iff_not, Bool.not_eq_true', Bool.not_eq_false', Bool.not_eq_true, Bool.not_eq_false] at h5
    have h12 := (stmtV_ex h5).2.2.1
    have hrl := rdE_len s.2
    have hl0 : ([] : List Acc).length + (rdE s.2).length ≤ 1073741824 := by simp; omega
    refine ACode.skip ?_
    refine ks_n ?_
    refine ACode.seq ?_
    refine ACode.region ?_
    refine .cons (St1.lit0 (k' := 107) (e := 25) (sz := 2) (b := true) rfl rfl rfl rfl (by kernel_rfl) rfl rfl) ?_
    refine .cons (.fP 2 6 true rfl rfl) ?_
    refine .cons (.lN 7 rfl rfl rfl) ?_
    refine .cons (.cO [.tmp 7, .tmp 9] [(0, 107), (1000, 110)] rfl rfl rfl rfl (l3Reads_fn s.2 hs2 [] hl0) rfl ⟨rfl, trivial⟩ (hbL_flat _ _) (hbL_flat _ _) (hbL_HB _ _) outS_one) ?_
    refine .cons (.asg rfl rfl) ?_
    refine .nil ?_
    refine ks_n ?_
    refine ACode.ret ?_
    refine kf_wret [(.t 2, .v (.o (vD (dCs (rdS s)))))] (Wk.keep [] rfl rfl ⟨ks rfl (.c (.fz rfl (by rw [rdS, if_pos h5]; rfl) (by rw [rdS, if_pos h5]; simp) (by simp; omega))), trivial⟩) rfl ?_ nobox
    rfl

theorem cmb_subst (x y : Aff) (v : Nat) : cmbA (x.1.set v 0, x.2) 1 y (x.1.getD v 0) = affSubst x v y := by
  rw [affSubst, affSum, cmbA, cmbTo]
  simp [List.range_succ, Int.one_mul]
theorem affM_1000 {x : Aff} (h : affM x) : x.1.length = 4 ∧ (-1000 ≤ x.2 ∧ x.2 ≤ 1000) ∧ ∀ i, -1000 ≤ x.1.getD i 0 ∧ x.1.getD i 0 ≤ 1000 := ⟨h.1, ⟨by have := h.2.2; omega, by have := h.2.2; omega⟩, fun i => by have := h.2.1 i; omega⟩

set_option maxRecDepth 100000 in
set_option maxHeartbeats 1600000 in
theorem l1Subst_fn {x y : Aff} {j : Int} (hx : affM x) (hy : affM y) (hj : 0 ≤ j ∧ j < 4) : Fn Try.prog 158 [] [ad (rA x), nat1 j, ad (rA y)] (.o (ad (rA (affSubst x j.toNat y)))) [] := by
  obtain ⟨v, rfl⟩ : ∃ v : Nat, (v : Int) = j := ⟨j.toNat, by omega⟩
  obtain ⟨a1, a2, a3⟩ := affM_1000 hx
  have hx0 := affM_set hx v
  obtain ⟨b1, b2, b3⟩ := affM_1000 hx0
  obtain ⟨c1, c2, c3⟩ := affM_1000 hy
  refine Fn.code0 Try.func158 rfl rfl rfl rfl ?_
  refine ACode.seq ?_
  refine ACode.region ?_
  refine .cons (St1.boxP rfl rfl rfl rfl rfl rfl) ?_
  refine .cons (St1.boxP rfl rfl rfl rfl rfl rfl) ?_
  refine .cons (.al 106 [.slice none 0 0, .int .i64 0] rfl rfl rfl) ?_
  refine .nil ?_
  refine ks_n ?_
  refine ACode.seq ?_
  refine ACode.drawK (by kernel_rfl) (by kernel_rfl) ?_
  refine .cons (St1.lit0 (k' := 108) (e := 3) (sz := 1) (b := true) rfl rfl rfl rfl (by kernel_rfl) rfl rfl) ?_
  refine .cons (.fP 0 0 false rfl rfl) ?_
  refine .cons (.l1 1 rfl rfl) ?_
  refine .cons (St1.appB (k' := 111) (e := 3) (sz := 0) (by' := 8) rfl rfl rfl rfl rfl (by kernel_rfl) rfl rfl rfl rfl rfl (by simp; omega) rfl rfl rfl) ?_
  refine .cons (.fP 1 0 false rfl rfl) ?_
  refine .cons (.l1 1 rfl rfl) ?_
  refine .cons (.bu [(0, .tmp 11), (1, .tmp 13)] [(0, 1), (1, 1)] [.slice none 0 0, .int .i64 0] rfl rfl rfl rfl rfl) ?_
  refine .cons (.al 107 [.slice none 0 0, .int .i64 0] rfl rfl rfl) ?_
  refine .cons (.sT 2 true rfl rfl rfl rfl rfl rfl rfl) ?_
  refine .nil ⟨by kernel_rfl, ?_⟩
  refine ks_n ?_
  refine ACode.seq ?_
  refine ACode.region ?_
  refine .cons (.fB 0 0 false rfl rfl rfl) ?_
  refine .cons (.b1 1 rfl rfl rfl rfl rfl rfl) ?_
  refine .cons (.mv rfl rfl) ?_
  refine .cons (.xB 3 1 8 rfl rfl rfl rfl rfl rfl (by simp; omega)) ?_
  refine .cons (.sT 1 false rfl rfl rfl rfl (dR_at (map_at (getD_at (by omega)))) rfl rfl) ?_
  refine .nil ?_
  refine ks_n ?_
  refine ACode.seq ?_
  refine .keep [(.t 1, .v (.o (nat1 (v : Nat)))), (.t 3, .v (.o (.c (.ptr (rA x))))), (.t 5, .v (.o (.c (.ptr (rA y))))), (.t 6, .v (.o (.c (.box 730 2 0 0)))), (.t 7, .v (.o (.c (.box 731 2 0 0)))), (.b 730, .b 28 2 [[.d (.val (.slice none 0 0)), .d (dI 0)]]), (.u 730, .u), (.b 731, .b 28 2 [[.d (dIs (x.1.set v 0)), .d (dI x.2)]]), (.u 731, .u)] [(730, 106), (731, 107)] ⟨ks rfl .dt, ks rfl .dt, ks rfl .dt, ks rfl (.c .bx), ks rfl (.c .bx), kb 106 rfl (.cons (.cons .dt (.cons .dt Ctos.nil)) .nil), kb 107 rfl (.cons (.cons (.fz rfl (dR_setI _ _ _ _) (by simp) (by simp; omega)) (.cons .dt Ctos.nil)) .nil), trivial⟩ ?_
  refine ACode.drawK (by kernel_rfl) (by kernel_rfl) ?_
  refine .cons (.bN 2 rfl rfl rfl rfl rfl rfl) ?_
  refine .cons (.lN 2 rfl rfl rfl) ?_
  refine .cons (.fP 0 0 false rfl rfl) ?_
  refine .cons (.l1 1 rfl rfl) ?_
  refine .cons (.mv rfl rfl) ?_
  refine .cons (.xL 3 1 8 rfl rfl rfl rfl rfl (map_at (getD_at (by omega)))) ?_
  refine .cons (.l1 1 rfl rfl) ?_
  refine .cons (.cP [.tmp 19, .const (.int .i64 (1)), .tmp 20, .tmp 25] rfl rfl rfl rfl (l1Combine_fn (x.1.set v 0, x.2) y 1 (x.1.getD v 0) (by omega) (a3 v) b1 c1 b2 c2 b3 c3) rfl) ?_
  refine .cons (.sT 2 true rfl rfl rfl rfl rfl rfl rfl) ?_
  refine .nil ⟨by kernel_rfl, ?_⟩
  refine ks_n ?_
  refine ACode.ret ?_
  refine kf_ret rfl ?_ nobox
  rw [Int.toNat_natCast, ← cmb_subst]; rfl

set_option maxRecDepth 100000 in
set_option maxHeartbeats 1600000 in
theorem l3SubAcc_fn (a : Acc) (ha : a.2.length ≤ 1073741824) {y : Aff} (hy : affM y) {j : Int} (hj : 0 ≤ j ∧ j < 4) (hm : ∀ x ∈ a.2, affM x) : Fn Try.prog 135 [] [ad (rC a), nat1 j, ad (rA y)] (.o (ad (rC (mapC (fun b => affSubst b j.toNat y) a)))) [] := by
  refine Fn.code0 Try.func135 rfl rfl rfl rfl ?_
  refine ACode.seq ?_
  refine ACode.region ?_
  refine .cons (St1.boxP rfl rfl rfl rfl rfl rfl) ?_
  refine .cons (St1.boxP rfl rfl rfl rfl rfl rfl) ?_
  refine .cons (.al 106 [.string ByteArray.empty, .slice none 0 0] rfl rfl rfl) ?_
  refine .nil ?_
  refine ks_n ?_
  refine ACode.seq ?_
  refine ACode.region ?_
  refine .cons (.fP 0 0 false rfl rfl) ?_
  refine .cons (.l1 1 rfl rfl) ?_
  refine .cons (.bu [(0, .tmp 10)] [(0, 1), (1, 1)] [.string ByteArray.empty, .slice none 0 0] rfl rfl rfl rfl rfl) ?_
  refine .cons (.al 107 [.string ByteArray.empty, .slice none 0 0] rfl rfl rfl) ?_
  refine .cons (.sT 2 true rfl rfl rfl rfl rfl rfl rfl) ?_
  refine .nil ?_
  refine ks_n ?_
  refine ACode.seq ?_
  refine ACode.seq ?_
  refine ACode.region ?_
  refine .cons (.asg rfl rfl) ?_
  refine .nil ?_
  refine ks_n ?_
  refine ACode.block ?_
  refine .loopK (fun m σ => (∃ i : Nat, m = a.2.length - i ∧ (i = 0) ∧ σ = [(.t 1, .v (.o (nat1 j))), (.t 3, .v (.o (.c (.ptr (rC a))))), (.t 5, .v (.o (.c (.ptr (rA y))))), (.t 6, .v (.o (.c (.box 110 2 0 0)))), (.t 7, .v (.o (.c (.box 111 2 0 0)))), (.t 8, .v (.o (nat1 (i : Nat)))), (.b 110, .b 25 2 [[.d (dS ByteArray.empty), .d (.val (.slice none 0 0))]]), (.u 110, .u), (.b 111, .b 25 2 [[.d (dS a.1), .d (.val (.slice none 0 0))]]), (.u 111, .u)]) ∨ (∃ i : Nat, m = a.2.length - i ∧ (1 ≤ i) ∧ (i ≤ a.2.length) ∧ σ = [(.t 1, .v (.o (nat1 j))), (.t 3, .v (.o (.c (.ptr (rC a))))), (.t 5, .v (.o (.c (.ptr (rA y))))), (.t 6, .v (.o (.c (.box 110 2 0 0)))), (.t 7, .v (.o (.c (.box 111 2 0 0)))), (.t 8, .v (.o (nat1 (i : Nat)))), (.b 110, .b 25 2 [[.d (dS ByteArray.empty), .d (.val (.slice none 0 0))]]), (.u 110, .u), (.b 112, .b 28 2 (dR ((a.2.take i).map fun x => rA (affSubst x j.toNat y)))), (.u 112, .u), (.b 111, .b 25 2 [[.d (dS a.1), .own 112 2 (i)]]), (.u 111, .u)])) [(110, 106), (111, 107)] (.inl ⟨0, rfl, rfl, rfl⟩) ⟨ks rfl .dt, ks rfl .dt, ks rfl .dt, ks rfl (.c .bx), ks rfl (.c .bx), ks rfl .dt, kb 106 rfl (.cons (.cons .dt (.cons .dt Ctos.nil)) .nil), kb 107 rfl (.cons (.cons .dt (.cons .dt Ctos.nil)) .nil), trivial⟩ ?_
  rintro m σ (⟨i, hm0, rfl, rfl⟩ | ⟨i, hm0, hi1, hi2, rfl⟩)
  · skip
    refine ACode.seq ?_
    refine ACode.seq ?_
    refine ACode.region ?_
    refine .cons (.mv rfl rfl) ?_
    refine .cons (.fP 1 0 false rfl rfl) ?_
    refine .cons (.l1 1 rfl rfl) ?_
    refine .cons (.ln 28 2 32 rfl rfl rfl) ?_
    refine .cons (.ls rfl rfl rfl) ?_
    refine .nil ?_
    refine ks_n ?_
    refine .cD rfl (fun h16 => ?_) (fun h16 => ?_)
    · skip
      obtain ⟨x, hx1⟩ : ∃ x, a.2[0]? = some x := ⟨_, List.getElem?_eq_getElem (by omega)⟩
      refine ACode.skip ?_
      refine ks_n ?_
      refine ACode.seq ?_
      refine ACode.block ?_
      refine ACode.drawK (by kernel_rfl) (by kernel_rfl) ?_
      refine .cons (.fB 1 0 false rfl rfl rfl) ?_
      refine .cons (.b1 1 rfl rfl rfl rfl rfl rfl) ?_
      refine .cons (.fP 1 0 false rfl rfl) ?_
      refine .cons (.l1 1 rfl rfl) ?_
      refine .cons (.mv rfl rfl) ?_
      refine .cons (.xL 28 2 32 rfl rfl rfl rfl rfl) ?_
      refine .cons (.lN 2 rfl rfl rfl) ?_
      refine .cons (.mv rfl rfl) ?_
      refine .cons (.lN 2 rfl rfl rfl) ?_
      refine .cons (.cP [.tmp 25, .tmp 26, .tmp 27] rfl rfl rfl rfl (l1Subst_fn (hm x (List.mem_of_getElem? hx1)) hy hj) rfl) ?_
      refine .cons (.li 28 1 0 [.tmp 28] rfl rfl rfl rfl rfl rfl) ?_
      refine .cons (St1.appN (k' := 130) (e := 28) (sz := 1) (by' := 32) rfl rfl rfl rfl rfl (by kernel_rfl) rfl rfl rfl (by simp) (by first | (simp [dR]; done) | (simp [dR]; omega)) rfl rfl) ?_
      refine .cons (.fB 1 0 false rfl rfl rfl) ?_
      refine .cons (.sT 1 false rfl rfl rfl rfl rfl rfl rfl) ?_
      refine .nil ⟨by kernel_rfl, ?_⟩
      refine kb_n ?_
      refine ks_n ?_
      refine ACode.region ?_
      refine .cons (.mv rfl rfl) ?_
      refine .cons (.pl rfl rfl rfl) ?_
      refine .cons (.asg rfl rfl) ?_
      refine .nil ?_
      refine kl_k [(110, 110), (111, 111), (112, 130)] (.inr ⟨1, rfl, by omega, by omega, rfl⟩) ⟨ks rfl .dt, ks rfl .dt, ks rfl .dt, ks rfl (.c .bx), ks rfl (.c .bx), ks rfl .dt, kb 110 rfl (.cons (.cons .dt (.cons .dt Ctos.nil)) .nil), kb 130 rfl (.dt rfl (by first | exact dR_take (fun x => rA (affSubst x j.toNat y)) hx1 | exact dR_take1 (fun x => rA (affSubst x j.toNat y)) hx1 | rfl | (simp [dR]; done))), kb 111 rfl (.cons (.cons .dt (.cons .ow Ctos.nil)) .nil), trivial⟩
    · skip
      have hn : a.2 = [] := List.eq_nil_of_length_eq_zero (by omega)
      refine ACode.exit ?_
      refine ks_e ?_
      refine kl_e ?_
      refine kb_hit ?_
      refine ks_n ?_
      refine ACode.seq ?_
      refine ACode.region ?_
      refine .cons (.bN 2 rfl rfl rfl rfl rfl rfl) ?_
      refine .cons (.sT 2 true rfl rfl rfl rfl rfl rfl rfl) ?_
      refine .nil ?_
      refine ks_n ?_
      refine ACode.ret ?_
      refine kf_wret [(.t 6, .v (.o (.c (.box 100 2 0 0)))), (.b 100, .b 25 2 [[.d (dS a.1), .d (dAs (a.2.map (fun b => affSubst b j.toNat y)))]]), (.u 100, .u)] (Wk.keep [(100, 110)] rfl rfl ⟨ks rfl (.c .bx), kb 110 rfl (.cons (.cons .dt (.cons (Cto.nilE 2 (by rw [hn]; rfl)) Ctos.nil)) .nil), trivial⟩) rfl ?_ nobox
      rfl
  · skip
    refine ACode.seq ?_
    refine ACode.seq ?_
    refine ACode.region ?_
    refine .cons (.mv rfl rfl) ?_
    refine .cons (.fP 1 0 false rfl rfl) ?_
    refine .cons (.l1 1 rfl rfl) ?_
    refine .cons (.ln 28 2 32 rfl rfl rfl) ?_
    refine .cons (.ls rfl rfl rfl) ?_
    refine .nil ?_
    refine ks_n ?_
    refine .cD rfl (fun h16 => ?_) (fun h16 => ?_)
    · skip
      obtain ⟨x, hx1⟩ : ∃ x, a.2[i]? = some x := ⟨_, List.getElem?_eq_getElem (by omega)⟩
      refine ACode.skip ?_
      refine ks_n ?_
      refine ACode.seq ?_
      refine ACode.block ?_
      refine ACode.drawK (by kernel_rfl) (by kernel_rfl) ?_
      refine .cons (.fB 1 0 false rfl rfl rfl) ?_
      refine .cons (.b1 1 rfl rfl rfl rfl rfl rfl) ?_
      refine .cons (.fP 1 0 false rfl rfl) ?_
      refine .cons (.l1 1 rfl rfl) ?_
      refine .cons (.mv rfl rfl) ?_
      refine .cons (.xL 28 2 32 rfl rfl rfl rfl rfl) ?_
      refine .cons (.lN 2 rfl rfl rfl) ?_
      refine .cons (.mv rfl rfl) ?_
      refine .cons (.lN 2 rfl rfl rfl) ?_
      refine .cons (.cP [.tmp 25, .tmp 26, .tmp 27] rfl rfl rfl rfl (l1Subst_fn (hm x (List.mem_of_getElem? hx1)) hy hj) rfl) ?_
      refine .cons (.li 28 1 0 [.tmp 28] rfl rfl rfl rfl rfl rfl) ?_
      refine .cons (St1.appB (k' := 130) (e := 28) (sz := 1) (by' := 32) rfl rfl rfl rfl rfl (by kernel_rfl) rfl rfl rfl rfl (by first | (simp [dR]; done) | (simp [dR]; omega)) (by first | (simp [dR]; done) | (simp [dR]; omega)) rfl rfl rfl) ?_
      refine .cons (.fB 1 0 false rfl rfl rfl) ?_
      refine .cons (.sT 1 false rfl rfl rfl rfl rfl rfl rfl) ?_
      refine .nil ⟨by kernel_rfl, ?_⟩
      refine kb_n ?_
      refine ks_n ?_
      refine ACode.region ?_
      refine .cons (.mv rfl rfl) ?_
      refine .cons (.pl rfl rfl rfl) ?_
      refine .cons (.asg rfl rfl) ?_
      refine .nil ?_
      refine kl_k [(110, 110), (111, 111), (112, 130)] (.inr ⟨i + 1, rfl, by omega, by omega, rfl⟩) ⟨ks rfl .dt, ks rfl .dt, ks rfl .dt, ks rfl (.c .bx), ks rfl (.c .bx), ks rfl .dt, kb 110 rfl (.cons (.cons .dt (.cons .dt Ctos.nil)) .nil), kb 130 rfl (.dt rfl (by first | exact dR_take (fun x => rA (affSubst x j.toNat y)) hx1 | exact dR_take1 (fun x => rA (affSubst x j.toNat y)) hx1 | rfl | (simp [dR]; done))), kb 111 rfl (.cons (.cons .dt (.cons .ow Ctos.nil)) .nil), trivial⟩
    · skip
      obtain rfl : i = a.2.length := by omega
      refine ACode.exit ?_
      refine ks_e ?_
      refine kl_e ?_
      refine kb_hit ?_
      refine ks_n ?_
      refine ACode.seq ?_
      refine ACode.region ?_
      refine .cons (.bN 2 rfl rfl rfl rfl rfl rfl) ?_
      refine .cons (.sT 2 true rfl rfl rfl rfl rfl rfl rfl) ?_
      refine .nil ?_
      refine ks_n ?_
      refine ACode.ret ?_
      refine kf_wret [(.t 6, .v (.o (.c (.box 100 2 0 0)))), (.b 100, .b 25 2 [[.d (dS a.1), .d (dAs (a.2.map (fun b => affSubst b j.toNat y)))]]), (.u 100, .u)] (Wk.keep [(100, 110)] rfl rfl ⟨ks rfl (.c .bx), kb 110 rfl (.cons (.cons .dt (.cons (.fz rfl (by first | rfl | exact dR_af _ _ | (rw [List.take_length]; done)) (by first | rfl | (simp; done) | (simp; omega)) (by omega)) Ctos.nil)) .nil), trivial⟩) rfl ?_ nobox
      rfl

set_option maxRecDepth 100000 in
set_option maxHeartbeats 1600000 in
theorem l3SubEx_one (e : Ex) (hr : e.r.2.length ≤ 1073741824) (hk : e.ks.length ≤ 1073741824) {y : Aff} (hy : affM y) {j : Int} (hj : 0 ≤ j ∧ j < 4) (hm : ∀ x ∈ affsE e, affM x) (ih : ∀ x ∈ e.ks, Fn Try.prog 136 [] [ad (rX x), nat1 j, ad (rA y)] (.o (ad (rX (mapE (fun b => affSubst b j.toNat y) x)))) []) : Fn Try.prog 136 [] [ad (rX e), nat1 j, ad (rA y)] (.o (ad (rX (mapE (fun b => affSubst b j.toNat y) e)))) [] := by
  refine Fn.code0 Try.func136 rfl rfl rfl rfl ?_
  refine ACode.seq ?_
  refine ACode.region ?_
  refine .cons (St1.boxP rfl rfl rfl rfl rfl rfl) ?_
  refine .cons (St1.boxP rfl rfl rfl rfl rfl rfl) ?_
  refine .cons (.al 106 [.int .i64 0, .int .i64 0, .slice none 0 0, .int .i64 0, .string ByteArray.empty, .slice none 0 0, .slice none 0 0] rfl rfl rfl) ?_
  refine .nil ?_
  refine ks_n ?_
  refine ACode.seq ?_
  refine ACode.region ?_
  refine .cons (.fP 0 0 false rfl rfl) ?_
  refine .cons (.l1 1 rfl rfl) ?_
  refine .cons (.fP 1 0 false rfl rfl) ?_
  refine .cons (.l1 1 rfl rfl) ?_
  refine .cons (.bu [(0, .tmp 10), (1, .tmp 12)] [(0, 1), (1, 1), (2, 2), (4, 2), (6, 1)] [.int .i64 0, .int .i64 0, .slice none 0 0, .int .i64 0, .string ByteArray.empty, .slice none 0 0, .slice none 0 0] rfl rfl rfl rfl rfl) ?_
  refine .cons (.al 107 [.int .i64 0, .int .i64 0, .slice none 0 0, .int .i64 0, .string ByteArray.empty, .slice none 0 0, .slice none 0 0] rfl rfl rfl) ?_
  refine .cons (.sT 7 true rfl rfl rfl rfl rfl rfl rfl) ?_
  refine .nil ?_
  refine ks_n ?_
  refine ACode.seq ?_
  refine ACode.cut [(.t 1, .v (.o (nat1 j))), (.t 3, .v (.o (.c (.ptr (rX e))))), (.t 5, .v (.o (.c (.ptr (rA y))))), (.t 6, .v (.o (.c (.box 810 7 0 0)))), (.t 7, .v (.o (.c (.box 811 7 0 0)))), (.b 810, .b 31 7 [[.d (dI 0), .d (dI 0), .d (.val (.slice none 0 0)), .d (dI 0), .d (dS ByteArray.empty), .d (.val (.slice none 0 0)), .d (.val (.slice none 0 0))]]), (.u 810, .u), (.b 811, .b 31 7 [[.d (dI e.k), .d (dI e.n), .d (dIs (if e.k = 2 then (fun b => affSubst b j.toNat y) e.i else ([], 0)).1), .d (dI (if e.k = 2 then (fun b => affSubst b j.toNat y) e.i else ([], 0)).2), .d (dS ByteArray.empty), .d (.val (.slice none 0 0)), .d (.val (.slice none 0 0))]]), (.u 811, .u)] ?_ ?_
  · skip
    refine ACode.seq ?_
    refine ACode.region ?_
    refine .cons (.fP 0 0 false rfl rfl) ?_
    refine .cons (.l1 1 rfl rfl) ?_
    refine .cons (.eq rfl rfl rfl) ?_
    refine .nil ?_
    refine ks_n ?_
    refine .cD rfl (fun h16 => ?_) (fun h16 => ?_)
    · skip
      refine ACode.region ?_
      refine .cons (.fP 2 1 true rfl rfl) ?_
      refine .cons (.lN 2 rfl rfl rfl) ?_
      refine .cons (.mv rfl rfl) ?_
      refine .cons (.lN 2 rfl rfl rfl) ?_
      refine .cons (.cP [.tmp 18, .tmp 19, .tmp 20] rfl rfl rfl rfl (l1Subst_fn (hm _ (affsE_i h16)) hy hj) rfl) ?_
      refine .cons (.fB 2 1 true rfl rfl rfl) ?_
      refine .cons (.sT 2 true rfl rfl rfl rfl rfl rfl rfl) ?_
      refine .nil ?_
      exact kc_n (Wk.keep [(810, 106), (811, 107)] rfl rfl ⟨ks rfl .dt, ks rfl .dt, ks rfl .dt, ks rfl (.c .bx), ks rfl (.c .bx), kb 106 rfl (.cons (.cons .dt (.cons .dt (.cons .dt (.cons .dt (.cons .dt (.cons .dt (.cons .dt Ctos.nil))))))) .nil), kb 107 rfl (.cons (.cons .dt (.cons .dt (.cons (.dt (by first | rfl | (simp [*]; done) | (simp [*]; rfl))) (.cons (.dt (by first | rfl | (simp [*]; done) | (simp [*]; rfl))) (.cons .dt (.cons .dt (.cons .dt Ctos.nil))))))) .nil), trivial⟩)
    · skip
      refine ACode.skip ?_
      exact kc_n (Wk.keep [(810, 106), (811, 107)] rfl rfl ⟨ks rfl .dt, ks rfl .dt, ks rfl .dt, ks rfl (.c .bx), ks rfl (.c .bx), kb 106 rfl (.cons (.cons .dt (.cons .dt (.cons .dt (.cons .dt (.cons .dt (.cons .dt (.cons .dt Ctos.nil))))))) .nil), kb 107 rfl (.cons (.cons .dt (.cons .dt (.cons (Cto.nilE 1 (by rw [if_neg (show ¬ e.k = 2 by omega)]; rfl)) (.cons (.dt (by first | rfl | (simp [*]; done) | (simp [*]; rfl))) (.cons .dt (.cons .dt (.cons .dt Ctos.nil))))))) .nil), trivial⟩)
  refine ks_n ?_
  refine ACode.seq ?_
  refine ACode.cut [(.t 1, .v (.o (nat1 j))), (.t 3, .v (.o (.c (.ptr (rX e))))), (.t 5, .v (.o (.c (.ptr (rA y))))), (.t 6, .v (.o (.c (.box 820 7 0 0)))), (.t 7, .v (.o (.c (.box 821 7 0 0)))), (.b 820, .b 31 7 [[.d (dI 0), .d (dI 0), .d (.val (.slice none 0 0)), .d (dI 0), .d (dS ByteArray.empty), .d (.val (.slice none 0 0)), .d (.val (.slice none 0 0))]]), (.u 820, .u), (.b 821, .b 31 7 [[.d (dI e.k), .d (dI e.n), .d (dIs (if e.k = 2 then (fun b => affSubst b j.toNat y) e.i else ([], 0)).1), .d (dI (if e.k = 2 then (fun b => affSubst b j.toNat y) e.i else ([], 0)).2), .d (dS (if e.k = 3 then mapC (fun b => affSubst b j.toNat y) e.r else (ByteArray.empty, [])).1), .d (dAs (if e.k = 3 then mapC (fun b => affSubst b j.toNat y) e.r else (ByteArray.empty, [])).2), .d (.val (.slice none 0 0))]]), (.u 821, .u)] ?_ ?_
  · skip
    refine ACode.seq ?_
    refine ACode.region ?_
    refine .cons (.fP 0 0 false rfl rfl) ?_
    refine .cons (.l1 1 rfl rfl) ?_
    refine .cons (.eq rfl rfl rfl) ?_
    refine .nil ?_
    refine ks_n ?_
    refine .cD rfl (fun h25 => ?_) (fun h25 => ?_)
    · skip
      refine ACode.region ?_
      refine .cons (.fP 4 1 true rfl rfl) ?_
      refine .cons (.lN 2 rfl rfl rfl) ?_
      refine .cons (.mv rfl rfl) ?_
      refine .cons (.lN 2 rfl rfl rfl) ?_
      refine .cons (.cP [.tmp 27, .tmp 28, .tmp 29] rfl rfl rfl rfl (l3SubAcc_fn e.r hr hy hj (fun x hx => hm x (affsE_r h25 hx))) rfl) ?_
      refine .cons (.fB 4 1 true rfl rfl rfl) ?_
      refine .cons (.sT 2 true rfl rfl rfl rfl rfl rfl rfl) ?_
      refine .nil ?_
      exact kc_n (Wk.keep [(820, 810), (821, 811)] rfl rfl ⟨ks rfl .dt, ks rfl .dt, ks rfl .dt, ks rfl (.c .bx), ks rfl (.c .bx), kb 810 rfl (.cons (.cons .dt (.cons .dt (.cons .dt (.cons .dt (.cons .dt (.cons .dt (.cons .dt Ctos.nil))))))) .nil), kb 811 rfl (.cons (.cons .dt (.cons .dt (.cons (.dt (by first | rfl | (simp [*]; done) | (simp [*]; rfl))) (.cons (.dt (by first | rfl | (simp [*]; done) | (simp [*]; rfl))) (.cons (.dt (by first | rfl | (simp [*]; done) | (simp [*]; rfl))) (.cons (.dt (by first | rfl | (simp [*]; done) | (simp [*]; rfl))) (.cons .dt Ctos.nil))))))) .nil), trivial⟩)
    · skip
      refine ACode.skip ?_
      exact kc_n (Wk.keep [(820, 810), (821, 811)] rfl rfl ⟨ks rfl .dt, ks rfl .dt, ks rfl .dt, ks rfl (.c .bx), ks rfl (.c .bx), kb 810 rfl (.cons (.cons .dt (.cons .dt (.cons .dt (.cons .dt (.cons .dt (.cons .dt (.cons .dt Ctos.nil))))))) .nil), kb 811 rfl (.cons (.cons .dt (.cons .dt (.cons (.dt (by first | rfl | (simp [*]; done) | (simp [*]; rfl))) (.cons (.dt (by first | rfl | (simp [*]; done) | (simp [*]; rfl))) (.cons (.dt (by first | rfl | (simp [*]; done) | (simp [*]; rfl))) (.cons (Cto.nilE 2 (by rw [if_neg (show ¬ e.k = 3 by omega)]; rfl)) (.cons .dt Ctos.nil))))))) .nil), trivial⟩)
  refine ks_n ?_
  refine ACode.seq ?_
  refine ACode.seq ?_
  refine ACode.region ?_
  refine .cons (.asg rfl rfl) ?_
  refine .nil ?_
  refine ks_n ?_
  refine ACode.block ?_
  refine .loopK (fun m σ => (∃ i : Nat, m = e.ks.length - i ∧ (i = 0) ∧ σ = [(.t 1, .v (.o (nat1 j))), (.t 3, .v (.o (.c (.ptr (rX e))))), (.t 5, .v (.o (.c (.ptr (rA y))))), (.t 6, .v (.o (.c (.box 110 7 0 0)))), (.t 7, .v (.o (.c (.box 111 7 0 0)))), (.t 8, .v (.o (nat1 (i : Nat)))), (.b 110, .b 31 7 [[.d (dI 0), .d (dI 0), .d (.val (.slice none 0 0)), .d (dI 0), .d (dS ByteArray.empty), .d (.val (.slice none 0 0)), .d (.val (.slice none 0 0))]]), (.u 110, .u), (.b 111, .b 31 7 [[.d (dI e.k), .d (dI e.n), .d (dIs (if e.k = 2 then (fun b => affSubst b j.toNat y) e.i else ([], 0)).1), .d (dI (if e.k = 2 then (fun b => affSubst b j.toNat y) e.i else ([], 0)).2), .d (dS (if e.k = 3 then mapC (fun b => affSubst b j.toNat y) e.r else (ByteArray.empty, [])).1), .d (dAs (if e.k = 3 then mapC (fun b => affSubst b j.toNat y) e.r else (ByteArray.empty, [])).2), .d (.val (.slice none 0 0))]]), (.u 111, .u)]) ∨ (∃ i : Nat, m = e.ks.length - i ∧ (1 ≤ i) ∧ (i ≤ e.ks.length) ∧ σ = [(.t 1, .v (.o (nat1 j))), (.t 3, .v (.o (.c (.ptr (rX e))))), (.t 5, .v (.o (.c (.ptr (rA y))))), (.t 6, .v (.o (.c (.box 110 7 0 0)))), (.t 7, .v (.o (.c (.box 111 7 0 0)))), (.t 8, .v (.o (nat1 (i : Nat)))), (.b 110, .b 31 7 [[.d (dI 0), .d (dI 0), .d (.val (.slice none 0 0)), .d (dI 0), .d (dS ByteArray.empty), .d (.val (.slice none 0 0)), .d (.val (.slice none 0 0))]]), (.u 110, .u), (.b 112, .b 31 7 (dR ((e.ks.take i).map fun x => rX (mapE (fun b => affSubst b j.toNat y) x)))), (.u 112, .u), (.b 111, .b 31 7 [[.d (dI e.k), .d (dI e.n), .d (dIs (if e.k = 2 then (fun b => affSubst b j.toNat y) e.i else ([], 0)).1), .d (dI (if e.k = 2 then (fun b => affSubst b j.toNat y) e.i else ([], 0)).2), .d (dS (if e.k = 3 then mapC (fun b => affSubst b j.toNat y) e.r else (ByteArray.empty, [])).1), .d (dAs (if e.k = 3 then mapC (fun b => affSubst b j.toNat y) e.r else (ByteArray.empty, [])).2), .own 112 7 (i)]]), (.u 111, .u)])) [(110, 820), (111, 821)] (.inl ⟨0, rfl, rfl, rfl⟩) ⟨ks rfl .dt, ks rfl .dt, ks rfl .dt, ks rfl (.c .bx), ks rfl (.c .bx), ks rfl .dt, kb 820 rfl (.cons (.cons .dt (.cons .dt (.cons .dt (.cons .dt (.cons .dt (.cons .dt (.cons .dt Ctos.nil))))))) .nil), kb 821 rfl (.cons (.cons .dt (.cons .dt (.cons (.dt (by first | rfl | (simp [*]; done) | (simp [*]; rfl))) (.cons (.dt (by first | rfl | (simp [*]; done) | (simp [*]; rfl))) (.cons (.dt (by first | rfl | (simp [*]; done) | (simp [*]; rfl))) (.cons (.dt (by first | rfl | (simp [*]; done) | (simp [*]; rfl))) (.cons .dt Ctos.nil))))))) .nil), trivial⟩ ?_
  rintro m σ (⟨i, hm0, rfl, rfl⟩ | ⟨i, hm0, hi1, hi2, rfl⟩)
  · skip
    refine ACode.seq ?_
    refine ACode.seq ?_
    refine ACode.region ?_
    refine .cons (.mv rfl rfl) ?_
    refine .cons (.fP 6 0 false rfl rfl) ?_
    refine .cons (.l1 1 rfl rfl) ?_
    refine .cons (.ln 31 7 112 rfl rfl rfl) ?_
    refine .cons (.ls rfl rfl rfl) ?_
    refine .nil ?_
    refine ks_n ?_
    refine .cD rfl (fun h36 => ?_) (fun h36 => ?_)
    · skip
      obtain ⟨x, hx1⟩ : ∃ x, e.ks[0]? = some x := ⟨_, List.getElem?_eq_getElem (by omega)⟩
      refine ACode.skip ?_
      refine ks_n ?_
      refine ACode.seq ?_
      refine ACode.block ?_
      refine ACode.drawK (by kernel_rfl) (by kernel_rfl) ?_
      refine .cons (.fB 6 0 false rfl rfl rfl) ?_
      refine .cons (.b1 1 rfl rfl rfl rfl rfl rfl) ?_
      refine .cons (.fP 6 0 false rfl rfl) ?_
      refine .cons (.l1 1 rfl rfl) ?_
      refine .cons (.mv rfl rfl) ?_
      refine .cons (.xL 31 7 112 rfl rfl rfl rfl rfl (rE_at hx1)) ?_
      refine .cons (.lN 7 rfl rfl rfl) ?_
      refine .cons (.mv rfl rfl) ?_
      refine .cons (.lN 2 rfl rfl rfl) ?_
      refine .cons (.cP [.tmp 45, .tmp 46, .tmp 47] rfl rfl rfl rfl (ih x (List.mem_of_getElem? hx1)) rfl) ?_
      refine .cons (.li 31 6 0 [.tmp 48] rfl rfl rfl rfl rfl rfl) ?_
      refine .cons (St1.appN (k' := 150) (e := 31) (sz := 6) (by' := 112) rfl rfl rfl rfl rfl (by kernel_rfl) rfl rfl rfl (by simp) (by first | (simp [dR]; done) | (simp [dR]; omega)) rfl rfl) ?_
      refine .cons (.fB 6 0 false rfl rfl rfl) ?_
      refine .cons (.sT 1 false rfl rfl rfl rfl rfl rfl rfl) ?_
      refine .nil ⟨by kernel_rfl, ?_⟩
      refine kb_n ?_
      refine ks_n ?_
      refine ACode.region ?_
      refine .cons (.mv rfl rfl) ?_
      refine .cons (.pl rfl rfl rfl) ?_
      refine .cons (.asg rfl rfl) ?_
      refine .nil ?_
      refine kl_k [(110, 110), (111, 111), (112, 150)] (.inr ⟨1, rfl, by omega, by omega, rfl⟩) ⟨ks rfl .dt, ks rfl .dt, ks rfl .dt, ks rfl (.c .bx), ks rfl (.c .bx), ks rfl .dt, kb 110 rfl (.cons (.cons .dt (.cons .dt (.cons .dt (.cons .dt (.cons .dt (.cons .dt (.cons .dt Ctos.nil))))))) .nil), kb 150 rfl (.dt rfl (by first | exact dR_take (fun x => rX (mapE (fun b => affSubst b j.toNat y) x)) hx1 | exact dR_take1 (fun x => rX (mapE (fun b => affSubst b j.toNat y) x)) hx1 | rfl | (simp [dR]; done))), kb 111 rfl (.cons (.cons .dt (.cons .dt (.cons (.dt (by first | rfl | (simp [*]; done) | (simp [*]; rfl))) (.cons (.dt (by first | rfl | (simp [*]; done) | (simp [*]; rfl))) (.cons (.dt (by first | rfl | (simp [*]; done) | (simp [*]; rfl))) (.cons (.dt (by first | rfl | (simp [*]; done) | (simp [*]; rfl))) (.cons .ow Ctos.nil))))))) .nil), trivial⟩
    · skip
      have hn : e.ks = [] := List.eq_nil_of_length_eq_zero (by omega)
      refine ACode.exit ?_
      refine ks_e ?_
      refine kl_e ?_
      refine kb_hit ?_
      refine ks_n ?_
      refine ACode.seq ?_
      refine ACode.region ?_
      refine .cons (.bN 7 rfl rfl rfl rfl rfl rfl) ?_
      refine .cons (.sT 7 true rfl rfl rfl rfl rfl rfl rfl) ?_
      refine .nil ?_
      refine ks_n ?_
      refine ACode.ret ?_
      refine kf_wret [(.t 6, .v (.o (.c (.box 100 7 0 0)))), (.b 100, .b 31 7 [[.d (dI e.k), .d (dI e.n), .d (dIs (if e.k = 2 then (fun b => affSubst b j.toNat y) e.i else ([], 0)).1), .d (dI (if e.k = 2 then (fun b => affSubst b j.toNat y) e.i else ([], 0)).2), .d (dS (if e.k = 3 then mapC (fun b => affSubst b j.toNat y) e.r else (ByteArray.empty, [])).1), .d (dAs (if e.k = 3 then mapC (fun b => affSubst b j.toNat y) e.r else (ByteArray.empty, [])).2), .d (dEs (e.ks.map (mapE (fun b => affSubst b j.toNat y))))]]), (.u 100, .u)] (Wk.keep [(100, 110)] rfl rfl ⟨ks rfl (.c .bx), kb 110 rfl (.cons (.cons .dt (.cons .dt (.cons (.dt (by first | rfl | (simp [*]; done) | (simp [*]; rfl))) (.cons (.dt (by first | rfl | (simp [*]; done) | (simp [*]; rfl))) (.cons (.dt (by first | rfl | (simp [*]; done) | (simp [*]; rfl))) (.cons (.dt (by first | rfl | (simp [*]; done) | (simp [*]; rfl))) (.cons (Cto.nilE 7 (by rw [hn]; rfl)) Ctos.nil))))))) .nil), trivial⟩) rfl ?_ nobox
      rw [rX_map]; rfl
  · skip
    refine ACode.seq ?_
    refine ACode.seq ?_
    refine ACode.region ?_
    refine .cons (.mv rfl rfl) ?_
    refine .cons (.fP 6 0 false rfl rfl) ?_
    refine .cons (.l1 1 rfl rfl) ?_
    refine .cons (.ln 31 7 112 rfl rfl rfl) ?_
    refine .cons (.ls rfl rfl rfl) ?_
    refine .nil ?_
    refine ks_n ?_
    refine .cD rfl (fun h36 => ?_) (fun h36 => ?_)
    · skip
      obtain ⟨x, hx1⟩ : ∃ x, e.ks[i]? = some x := ⟨_, List.getElem?_eq_getElem (by omega)⟩
      refine ACode.skip ?_
      refine ks_n ?_
      refine ACode.seq ?_
      refine ACode.block ?_
      refine ACode.drawK (by kernel_rfl) (by kernel_rfl) ?_
      refine .cons (.fB 6 0 false rfl rfl rfl) ?_
      refine .cons (.b1 1 rfl rfl rfl rfl rfl rfl) ?_
      refine .cons (.fP 6 0 false rfl rfl) ?_
      refine .cons (.l1 1 rfl rfl) ?_
      refine .cons (.mv rfl rfl) ?_
      refine .cons (.xL 31 7 112 rfl rfl rfl rfl rfl (rE_at hx1)) ?_
      refine .cons (.lN 7 rfl rfl rfl) ?_
      refine .cons (.mv rfl rfl) ?_
      refine .cons (.lN 2 rfl rfl rfl) ?_
      refine .cons (.cP [.tmp 45, .tmp 46, .tmp 47] rfl rfl rfl rfl (ih x (List.mem_of_getElem? hx1)) rfl) ?_
      refine .cons (.li 31 6 0 [.tmp 48] rfl rfl rfl rfl rfl rfl) ?_
      refine .cons (St1.appB (k' := 150) (e := 31) (sz := 6) (by' := 112) rfl rfl rfl rfl rfl (by kernel_rfl) rfl rfl rfl rfl (by first | (simp [dR]; done) | (simp [dR]; omega)) (by first | (simp [dR]; done) | (simp [dR]; omega)) rfl rfl rfl) ?_
      refine .cons (.fB 6 0 false rfl rfl rfl) ?_
      refine .cons (.sT 1 false rfl rfl rfl rfl rfl rfl rfl) ?_
      refine .nil ⟨by kernel_rfl, ?_⟩
      refine kb_n ?_
      refine ks_n ?_
      refine ACode.region ?_
      refine .cons (.mv rfl rfl) ?_
      refine .cons (.pl rfl rfl rfl) ?_
      refine .cons (.asg rfl rfl) ?_
      refine .nil ?_
      refine kl_k [(110, 110), (111, 111), (112, 150)] (.inr ⟨i + 1, rfl, by omega, by omega, rfl⟩) ⟨ks rfl .dt, ks rfl .dt, ks rfl .dt, ks rfl (.c .bx), ks rfl (.c .bx), ks rfl .dt, kb 110 rfl (.cons (.cons .dt (.cons .dt (.cons .dt (.cons .dt (.cons .dt (.cons .dt (.cons .dt Ctos.nil))))))) .nil), kb 150 rfl (.dt rfl (by first | exact dR_take (fun x => rX (mapE (fun b => affSubst b j.toNat y) x)) hx1 | exact dR_take1 (fun x => rX (mapE (fun b => affSubst b j.toNat y) x)) hx1 | rfl | (simp [dR]; done))), kb 111 rfl (.cons (.cons .dt (.cons .dt (.cons (.dt (by first | rfl | (simp [*]; done) | (simp [*]; rfl))) (.cons (.dt (by first | rfl | (simp [*]; done) | (simp [*]; rfl))) (.cons (.dt (by first | rfl | (simp [*]; done) | (simp [*]; rfl))) (.cons (.dt (by first | rfl | (simp [*]; done) | (simp [*]; rfl))) (.cons .ow Ctos.nil))))))) .nil), trivial⟩
    · skip
      obtain rfl : i = e.ks.length := by omega
      refine ACode.exit ?_
      refine ks_e ?_
      refine kl_e ?_
      refine kb_hit ?_
      refine ks_n ?_
      refine ACode.seq ?_
      refine ACode.region ?_
      refine .cons (.bN 7 rfl rfl rfl rfl rfl rfl) ?_
      refine .cons (.sT 7 true rfl rfl rfl rfl rfl rfl rfl) ?_
      refine .nil ?_
      refine ks_n ?_
      refine ACode.ret ?_
      refine kf_wret [(.t 6, .v (.o (.c (.box 100 7 0 0)))), (.b 100, .b 31 7 [[.d (dI e.k), .d (dI e.n), .d (dIs (if e.k = 2 then (fun b => affSubst b j.toNat y) e.i else ([], 0)).1), .d (dI (if e.k = 2 then (fun b => affSubst b j.toNat y) e.i else ([], 0)).2), .d (dS (if e.k = 3 then mapC (fun b => affSubst b j.toNat y) e.r else (ByteArray.empty, [])).1), .d (dAs (if e.k = 3 then mapC (fun b => affSubst b j.toNat y) e.r else (ByteArray.empty, [])).2), .d (dEs (e.ks.map (mapE (fun b => affSubst b j.toNat y))))]]), (.u 100, .u)] (Wk.keep [(100, 110)] rfl rfl ⟨ks rfl (.c .bx), kb 110 rfl (.cons (.cons .dt (.cons .dt (.cons (.dt (by first | rfl | (simp [*]; done) | (simp [*]; rfl))) (.cons (.dt (by first | rfl | (simp [*]; done) | (simp [*]; rfl))) (.cons (.dt (by first | rfl | (simp [*]; done) | (simp [*]; rfl))) (.cons (.dt (by first | rfl | (simp [*]; done) | (simp [*]; rfl))) (.cons (.fz rfl (by first | rfl | exact dR_ex _ _ | (rw [List.take_length]; done)) (by first | rfl | (simp; done) | (simp; omega)) (by omega)) Ctos.nil))))))) .nil), trivial⟩) rfl ?_ nobox
      rw [rX_map]; rfl

theorem l3SubEx_fn {y : Aff} (hy : affM y) {j : Int} (hj : 0 ≤ j ∧ j < 4) : ∀ e : Ex, szE e ≤ 1073741824 → (∀ x ∈ affsE e, affM x) → Fn Try.prog 136 [] [ad (rX e), nat1 j, ad (rA y)] (.o (ad (rX (mapE (fun b => affSubst b j.toNat y) e)))) [] := by
  intro e
  induction e using Ex.rec' with
  | h e ih =>
    intro hs hm
    rw [szE_eq, szC] at hs
    have := szAs_len e.r.2
    exact l3SubEx_one e (by omega) (by omega) hy hj hm fun x hx => ih x hx (by have := szEs_mem hx; omega) fun a ha => hm a (affsE_k hx ha)

set_option maxRecDepth 100000 in
set_option maxHeartbeats 1600000 in
theorem l3Subst_fn (s : Stm) (hs : szS s ≤ 1073741824) {y : Aff} (hy : affM y) {j : Int} (hj : 0 ≤ j ∧ j < 4) (hm : ∀ x ∈ affsS s, affM x) : Fn Try.prog 83 [] [ad (rS s), nat1 j, ad (rA y)] (.o (ad (rS (mapS (fun b => affSubst b j.toNat y) s)))) [] := by
  rw [szS, szC] at hs
  have := szAs_len s.1.2
  refine Fn.code0 Try.func83 rfl rfl rfl rfl ?_
  refine ACode.seq ?_
  refine ACode.region ?_
  refine .cons (St1.boxP rfl rfl rfl rfl rfl rfl) ?_
  refine .cons (St1.boxP rfl rfl rfl rfl rfl rfl) ?_
  refine .cons (.al 106 [.string ByteArray.empty, .slice none 0 0, .int .i64 0, .int .i64 0, .slice none 0 0, .int .i64 0, .string ByteArray.empty, .slice none 0 0, .slice none 0 0] rfl rfl rfl) ?_
  refine .nil ?_
  refine ks_n ?_
  refine ACode.seq ?_
  refine ACode.drawK (by kernel_rfl) (by kernel_rfl) ?_
  refine .cons (.fP 0 1 true rfl rfl) ?_
  refine .cons (.lN 2 rfl rfl rfl) ?_
  refine .cons (.mv rfl rfl) ?_
  refine .cons (.lN 2 rfl rfl rfl) ?_
  refine .cons (.cP [.tmp 8, .tmp 9, .tmp 10] rfl rfl rfl rfl (l3SubAcc_fn s.1 (by omega) hy hj (fun x hx => hm x (List.mem_append_left _ hx))) rfl) ?_
  refine .cons (.fP 2 6 true rfl rfl) ?_
  refine .cons (.lN 7 rfl rfl rfl) ?_
  refine .cons (.mv rfl rfl) ?_
  refine .cons (.lN 2 rfl rfl rfl) ?_
  refine .cons (.cP [.tmp 13, .tmp 14, .tmp 15] rfl rfl rfl rfl (l3SubEx_fn hy hj s.2 (by omega) (fun x hx => hm x (List.mem_append_right _ hx))) rfl) ?_
  refine .cons (.bu [(0, .tmp 11), (1, .tmp 16)] [(0, 2), (2, 7)] [.string ByteArray.empty, .slice none 0 0, .int .i64 0, .int .i64 0, .slice none 0 0, .int .i64 0, .string ByteArray.empty, .slice none 0 0, .slice none 0 0] rfl rfl rfl rfl rfl) ?_
  refine .cons (.sT 9 true rfl rfl rfl rfl rfl rfl rfl) ?_
  refine .nil ⟨by kernel_rfl, ?_⟩
  refine ks_n ?_
  refine ACode.ret ?_
  refine kf_ret rfl ?_ nobox
  rfl

end Go.Proofs.Ytigdfdhjnadieaa

/- Statements: SubstStmt, StmtDepth; condition: small lists. -/
namespace Go.Proofs.Ytigdfdhjnadieaa
set_option linter.unusedVariables false
set_option linter.unusedSimpArgs false
open Go.RowKit

theorem fld_aff {d : Nat} {e : Ex} (h : fldV d e.k e.n e.i e.r = true) : (e.k = 2 → bndV d e.i = true) ∧ (e.k = 3 → ∀ x ∈ e.r.2, bndV d x = true) := by
  unfold fldV at h
  refine ⟨fun hk => ?_, fun hk x hx => ?_⟩
  · rw [if_neg (by omega), if_pos hk] at h
    simp only [Bool.and_eq_true] at h
    rw [bndV]; exact Bool.and_eq_true_iff.2 h.1.2
  · rw [if_neg (by omega), if_neg (by omega), if_pos hk] at h
    simp only [Bool.and_eq_true, accV, sideV] at h
    exact List.all_eq_true.1 h.2.2.1.1 x hx
theorem affsEs_of {l : List Ex} {a : Aff} (h : a ∈ affsEs l) : ∃ e ∈ l, a ∈ affsE e := by
  induction l with
  | nil => cases h
  | cons y l ih =>
    rw [affsEs, List.mem_append] at h
    rcases h with h | h
    · exact ⟨y, by simp, h⟩
    · obtain ⟨z, h1, h2⟩ := ih h; exact ⟨z, by simp [h1], h2⟩
theorem exV_aff {d : Nat} : ∀ {L : Nat} {e : Ex}, exV d L e = true → ∀ x ∈ affsE e, bndV d x = true
  | 0, e, h => by cases h
  | L + 1, e, h => by
    intro x hx
    have hk := (exV_kids h).2
    rw [exV, Bool.and_eq_true, Bool.and_eq_true] at h
    obtain ⟨f1, f2⟩ := fld_aff h.1.2
    rw [affsE_eq, List.mem_append, List.mem_append] at hx
    rcases hx with hx | hx | hx
    · split at hx
      · rename_i hk; rw [List.mem_singleton.1 hx]; exact f1 hk
      · cases hx
    · split at hx
      · rename_i hk; exact f2 hk x hx
      · cases hx
    · obtain ⟨z, h1, h2⟩ := affsEs_of hx
      exact exV_aff (hk z h1) x h2
theorem stmtV_aff {d : Int} {s : Stm} (h : stmtV d s = true) : ∀ x ∈ affsS s, affV x = true ∧ affDepth x ≤ d.toNat := by
  intro x hx
  obtain ⟨h1, h2, _⟩ := stmtV_ex h
  have : bndV d.toNat x = true := by
    rw [affsS, List.mem_append] at hx
    rcases hx with hx | hx
    · simp only [accV, sideV, Bool.and_eq_true] at h2
      exact List.all_eq_true.1 h2.2.1.1 x hx
    · exact exV_aff h1 x hx
  simp only [bndV, Bool.and_eq_true, decide_eq_true_eq] at this
  exact this
theorem szAs_map {g : Aff → Aff} : ∀ {l : List Aff}, (∀ x ∈ l, (g x).1.length ≤ x.1.length) → szAs (l.map g) ≤ szAs l
  | [], _ => Nat.le_refl _
  | a :: l, h => by
    have h1 := szAs_map (l := l) fun x hx => h x (by simp [hx])
    have h2 := h a (by simp)
    simp only [szAs, List.length_map, List.map_cons, List.sum_cons, List.length_cons] at h1 ⊢
    omega
theorem szE_map {g : Aff → Aff} : ∀ {e : Ex}, (∀ x ∈ affsE e, (g x).1.length ≤ x.1.length) → szE (mapE g e) ≤ szE e := by
  intro e
  induction e using Ex.rec' with
  | h e ih =>
    intro h
    have hk : ∀ l : List Ex, (∀ x ∈ l, szE (mapE g x) ≤ szE x) → szEs (l.map (mapE g)) ≤ szEs l := by
      intro l
      induction l with
      | nil => intro _; exact Nat.le_refl _
      | cons y l ih =>
        intro h
        have := ih fun x hx => h x (by simp [hx])
        have := h y (by simp)
        simp only [List.map_cons, szEs]; omega
    have h3 := hk e.ks fun x hx => ih x hx fun a ha => h a (affsE_k hx ha)
    rw [mapE_eq, szE, szE_eq, List.length_map]
    have h1 : (if e.k = 2 then g e.i else ([], 0)).1.length ≤ e.i.1.length := by
      split
      · exact h _ (affsE_i (by assumption))
      · exact Nat.zero_le _
    have h2 : szC (if e.k = 3 then mapC g e.r else (ByteArray.empty, [])) ≤ szC e.r := by
      split
      · rw [szC, szC, mapC]
        have := szAs_map (l := e.r.2) fun x hx => h x (affsE_r (by assumption) hx)
        exact Nat.add_le_add_left this _
      · show ByteArray.empty.size + szAs [] ≤ _
        exact Nat.zero_le _
    omega
theorem szS_map {g : Aff → Aff} {s : Stm} (h : ∀ x ∈ affsS s, (g x).1.length ≤ x.1.length) : szS (mapS g s) ≤ szS s := by
  rw [szS, szS, mapS, szC, szC, mapC]
  have h1 := szAs_map (l := s.1.2) fun x hx => h x (List.mem_append_left _ hx)
  have h2 := szE_map (e := s.2) fun x hx => h x (List.mem_append_right _ hx)
  show s.1.1.size + szAs (s.1.2.map g) + szE (mapE g s.2) ≤ _
  omega
/-- The statement without anything. -/
def zS : Stm := ((ByteArray.empty, []), .mk 0 0 ([], 0) (ByteArray.empty, []) [])
def chkS (d : Int) (s : Stm) : Stm × Bool := if stmtV d s = true then (s, true) else (zS, false)
def substS (s : Stm) (v : Int) (a : Aff) : Stm × Bool := if (stmtV 4 s && affV a && inB v 0 3) = true then chkS 4 (mapS (fun b => affSubst b v.toNat a) s) else (zS, false)
theorem substS_no {s : Stm} {v : Int} {a : Aff} (h : (stmtV 4 s && affV a && inB v 0 3) = false) : substS s v a = (zS, false) := by rw [substS, h]; rfl
theorem substS_yes {s : Stm} {v : Int} {a : Aff} (h : (stmtV 4 s && affV a && inB v 0 3) = true) : substS s v a = chkS 4 (mapS (fun b => affSubst b v.toNat a) s) := by rw [substS, if_pos h]
theorem chkS_no {d : Int} {s : Stm} (h : stmtV d s = false) : chkS d s = (zS, false) := by rw [chkS, h]; rfl
theorem chkS_yes {d : Int} {s : Stm} (h : stmtV d s = true) : chkS d s = (s, true) := by rw [chkS, if_pos h]
theorem sub_facts {s : Stm} {v : Int} {a : Aff} (h1 : stmtV 4 s = true) (h2 : affV a = true) (h3 : inB v 0 3 = true) (hs : szS s ≤ 1073741824) : affM a ∧ (0 ≤ v ∧ v < 4) ∧ (∀ x ∈ affsS s, affM x) ∧ szS (mapS (fun b => affSubst b v.toNat a) s) ≤ 1073741824 := by
  refine ⟨affM_of h2, by simp only [inB, decide_eq_true_eq] at h3; omega, fun x hx => affM_of (stmtV_aff h1 x hx).1, Nat.le_trans (szS_map fun x hx => ?_) hs⟩
  rw [affV_len (stmtV_aff h1 x hx).1]
  exact Nat.le_refl _

set_option maxRecDepth 100000 in
set_option maxHeartbeats 1600000 in
theorem subst1_fn {x y : Aff} {j : Int} (hx : affM x) (hy : affM y) (hj : 0 ≤ j ∧ j < 4) : Fn Try.prog 80 [] [ad (rA x), .c (.ptr [dI j]), .c (.ptr (rA y))] (.o (ad (rA (affSubst x j.toNat y)))) [] := by
  refine Fn.code0 Try.func80 rfl rfl rfl rfl ?_
  refine ACode.seq ?_
  refine ACode.region ?_
  refine .cons (St1.boxP rfl rfl rfl rfl rfl rfl) ?_
  refine .cons (.al 104 [.slice none 0 0, .int .i64 0] rfl rfl rfl) ?_
  refine .nil ?_
  refine ks_n ?_
  refine ACode.seq ?_
  refine ACode.region ?_
  refine .cons (.lN 2 rfl rfl rfl) ?_
  refine .cons (.l1 1 rfl rfl) ?_
  refine .cons (.lN 2 rfl rfl rfl) ?_
  refine .cons (.cP [.tmp 5, .tmp 6, .tmp 7] rfl rfl rfl rfl (subst_fn hx hy hj) rfl) ?_
  refine .cons (.sT 2 true rfl rfl rfl rfl rfl rfl rfl) ?_
  refine .nil ?_
  refine ks_n ?_
  refine ACode.ret ?_
  refine kf_ret rfl ?_ nobox
  rfl

set_option maxRecDepth 100000 in
set_option maxHeartbeats 1600000 in
theorem isVar_fn (v : Int) : Fn Try.prog 79 [] [nat1 v] (.o (bo1 (inB v 0 3))) [] := by
  refine Fn.code0 Try.func79 rfl rfl rfl rfl ?_
  refine ACode.seq ?_
  refine ACode.region ?_
  refine .cons (.asg rfl rfl) ?_
  refine .nil ?_
  refine ks_n ?_
  refine ACode.seq ?_
  refine ACode.region ?_
  refine .cons (.mv rfl rfl) ?_
  refine .cons (.cP [.tmp 3, .const (.int .i64 (0)), .const (.int .i64 (3))] rfl rfl rfl rfl (within_fn _ 0 3) rfl) ?_
  refine .cons (.asg rfl rfl) ?_
  refine .nil ?_
  refine ks_n ?_
  refine ACode.ret ?_
  refine kf_ret rfl ?_ nobox
  rfl

set_option maxRecDepth 100000 in
set_option maxHeartbeats 1600000 in
theorem implSub_fn (s : Stm) (v : Int) (a : Aff) (hs : szS s ≤ 1073741824) : Fn Try.prog 31 [] [ad (rS s), nat1 v, ad (rA a)] (.tup [ad (rS (substS s v a).1), bo1 (substS s v a).2]) [] := by
  refine Fn.code0 Try.func31 rfl rfl rfl rfl ?_
  refine ACode.seq ?_
  refine ACode.region ?_
  refine .cons (St1.boxP rfl rfl rfl rfl rfl rfl) ?_
  refine .cons (St1.boxP rfl rfl rfl rfl rfl rfl) ?_
  refine .cons (St1.boxP rfl rfl rfl rfl rfl rfl) ?_
  refine .cons (.al 106 [.string ByteArray.empty, .slice none 0 0, .int .i64 0, .int .i64 0, .slice none 0 0, .int .i64 0, .string ByteArray.empty, .slice none 0 0, .slice none 0 0] rfl rfl rfl) ?_
  refine .cons (.asg rfl rfl) ?_
  refine .nil ?_
  refine ks_n ?_
  refine ACode.seq ?_
  refine ACode.seq ?_
  refine ACode.cut [(.t 3, .v (.o (.c (.ptr (rS s))))), (.t 4, .v (.o (.c (.ptr [dI v])))), (.t 5, .v (.o (.c (.ptr (rA a))))), (.t 6, .v (.o (.c (.box 810 9 0 0)))), (.t 7, .v (.o (bo1 false))), (.t 21, .v (.o (bo1 (!(stmtV 4 s && affV a && inB v 0 3))))), (.b 810, .b 33 9 [[.d (dS ByteArray.empty), .d (.val (.slice none 0 0)), .d (dI 0), .d (dI 0), .d (.val (.slice none 0 0)), .d (dI 0), .d (dS ByteArray.empty), .d (.val (.slice none 0 0)), .d (.val (.slice none 0 0))]]), (.u 810, .u)] ?_ ?_
  · skip
    refine ACode.region ?_
    refine .cons (.lN 9 rfl rfl rfl) ?_
    refine .cons (.cP [.tmp 9] rfl rfl rfl rfl (isStmt_fn s (by omega)) rfl) ?_
    refine .cons (.nt rfl rfl) ?_
    refine .cons (.mv rfl rfl) ?_
    refine AOps.cases 12 _ rfl (fun g12 => ?_) (fun g12 => ?_)
    · try simp only [List.length_map, decide_eq_true_eq, decide_eq_false_iff_not, Bool.not_eq_true', Bool.not_eq_false', Bool.not_eq_true, Bool.not_eq_false] at g12
      refine .cons (.gF rfl rfl rfl) ?_
      refine .cons (.gF rfl rfl rfl) ?_
      refine .cons (.gF rfl rfl rfl) ?_
      refine .cons (.pT rfl rfl rfl) ?_
      refine .cons (.mv rfl rfl) ?_
      refine .cons (.gF rfl rfl rfl) ?_
      refine .cons (.gF rfl rfl rfl) ?_
      refine .cons (.gF rfl rfl rfl) ?_
      refine .cons (.pT rfl rfl rfl) ?_
      refine .nil ?_
      exact kc_n (Wk.keep [(810, 106)] rfl rfl ⟨ks rfl .dt, ks rfl .dt, ks rfl .dt, ks rfl (.c .bx), ks rfl .dt, ks rfl (.dt (vB (by first | (simp [*]; done) | grind))), kb 106 rfl (.cons (.cons .dt (.cons .dt (.cons .dt (.cons .dt (.cons .dt (.cons .dt (.cons .dt (.cons .dt (.cons .dt Ctos.nil))))))))) .nil), trivial⟩)
    · try simp only [List.length_map, decide_eq_true_eq, decide_eq_false_iff_not, Bool.not_eq_true', Bool.not_eq_false', Bool.not_eq_true, Bool.not_eq_false] at g12
      refine .cons (.gT rfl rfl rfl (.lN 2 rfl rfl rfl)) ?_
      refine .cons (.gT rfl rfl rfl (.cP [.tmp 13] rfl rfl rfl rfl (implAffV_fn a) rfl)) ?_
      refine .cons (.gT rfl rfl rfl (.nt rfl rfl)) ?_
      refine .cons (.pF rfl rfl rfl) ?_
      refine .cons (.mv rfl rfl) ?_
      refine AOps.cases 17 _ rfl (fun g17 => ?_) (fun g17 => ?_)
      · try simp only [List.length_map, decide_eq_true_eq, decide_eq_false_iff_not, Bool.not_eq_true', Bool.not_eq_false', Bool.not_eq_true, Bool.not_eq_false] at g17
        refine .cons (.gF rfl rfl rfl) ?_
        refine .cons (.gF rfl rfl rfl) ?_
        refine .cons (.gF rfl rfl rfl) ?_
        refine .cons (.pT rfl rfl rfl) ?_
        refine .nil ?_
        exact kc_n (Wk.keep [(810, 106)] rfl rfl ⟨ks rfl .dt, ks rfl .dt, ks rfl .dt, ks rfl (.c .bx), ks rfl .dt, ks rfl (.dt (vB (by first | (simp [*]; done) | grind))), kb 106 rfl (.cons (.cons .dt (.cons .dt (.cons .dt (.cons .dt (.cons .dt (.cons .dt (.cons .dt (.cons .dt (.cons .dt Ctos.nil))))))))) .nil), trivial⟩)
      · try simp only [List.length_map, decide_eq_true_eq, decide_eq_false_iff_not, Bool.not_eq_true', Bool.not_eq_false', Bool.not_eq_true, Bool.not_eq_false] at g17
        refine .cons (.gT rfl rfl rfl (.l1 1 rfl rfl)) ?_
        refine .cons (.gT rfl rfl rfl (.cP [.tmp 18] rfl rfl rfl rfl (isVar_fn v) rfl)) ?_
        refine .cons (.gT rfl rfl rfl (.nt rfl rfl)) ?_
        refine .cons (.pF rfl rfl rfl) ?_
        refine .nil ?_
        exact kc_n (Wk.keep [(810, 106)] rfl rfl ⟨ks rfl .dt, ks rfl .dt, ks rfl .dt, ks rfl (.c .bx), ks rfl .dt, ks rfl (.dt (vB (by first | (simp [*]; done) | grind))), kb 106 rfl (.cons (.cons .dt (.cons .dt (.cons .dt (.cons .dt (.cons .dt (.cons .dt (.cons .dt (.cons .dt (.cons .dt Ctos.nil))))))))) .nil), trivial⟩)
  refine ks_n ?_
  refine ACode.condT rfl (fun h21 => ?_) (fun h21 => ?_)
  · try simp only [List.length_map, decide_eq_true_eq, decide_eq_false_iff_not, Bool.not_eq_true', Bool.not_eq_false', Bool.not_eq_true, Bool.not_eq_false] at h21
    refine ACode.seq ?_
    refine ACode.region ?_
    refine .cons (.bu [] [(0, 2), (2, 7)] [.string ByteArray.empty, .slice none 0 0, .int .i64 0, .int .i64 0, .slice none 0 0, .int .i64 0, .string ByteArray.empty, .slice none 0 0, .slice none 0 0] rfl rfl rfl rfl rfl) ?_
    refine .cons (.sT 9 true rfl rfl rfl rfl rfl rfl rfl) ?_
    refine .cons (.asg rfl rfl) ?_
    refine .nil ?_
    refine ks_n ?_
    refine ACode.ret ?_
    refine ks_r ?_
    refine kf_wret [(.t 6, .v (.o (.c (.box 100 9 0 0)))), (.t 7, .v (.o (bo1 false))), (.b 100, .b 33 9 [[.d (dS ByteArray.empty), .d (dAs []), .d (dI 0), .d (dI 0), .d (dIs []), .d (dI 0), .d (dS ByteArray.empty), .d (dAs []), .d (dEs [])]]), (.u 100, .u)] (Wk.keep [(100, 810)] rfl rfl ⟨ks rfl (.c .bx), ks rfl .dt, kb 810 rfl (.cons (.cons .dt (.cons (Cto.nil _) (.cons .dt (.cons .dt (.cons (Cto.nil _) (.cons .dt (.cons .dt (.cons (Cto.nil _) (.cons (Cto.nil _) Ctos.nil))))))))) .nil), trivial⟩) rfl ?_ nobox
    rw [substS_no h21]; rfl
  · try simp only [List.length_map, decide_eq_true_eq, decide_eq_false_iff_not, Bool.not_eq_true', Bool.not_eq_false', Bool.not_eq_true, Bool.not_eq_false] at h21
    obtain ⟨q1, q2, q3⟩ : stmtV 4 s = true ∧ affV a = true ∧ inB v 0 3 = true := by simpa [and_assoc] using h21
    have hF := sub_facts q1 q2 q3 hs
    refine ACode.skip ?_
    refine ks_n ?_
    refine ACode.seq ?_
    refine ACode.region ?_
    refine .cons (.lN 9 rfl rfl rfl) ?_
    refine .cons (St1.makeFunc (xs := [.tmp 4, .tmp 5]) rfl rfl rfl rfl rfl rfl rfl) ?_
    refine .cons (.cP [.tmp 23, .tmp 24] rfl rfl rfl rfl (stmtMap_fn (f := 80) (cap := [[dI v], rA a]) (by kernel_rfl) (fun b => affSubst b v.toNat a) s hs (fun x hx => subst1_fn (hF.2.2.1 x hx) hF.1 hF.2.1)) rfl) ?_
    refine .cons (.al 108 [.string ByteArray.empty, .slice none 0 0, .int .i64 0, .int .i64 0, .slice none 0 0, .int .i64 0, .string ByteArray.empty, .slice none 0 0, .slice none 0 0] rfl rfl rfl) ?_
    refine .cons (.sT 9 true rfl rfl rfl rfl rfl rfl rfl) ?_
    refine .nil ?_
    refine ks_n ?_
    refine ACode.seq ?_
    refine ACode.seq ?_
    refine ACode.region ?_
    refine .cons (.bN 9 rfl rfl rfl rfl rfl rfl) ?_
    refine .cons (.cP [.tmp 26] rfl rfl rfl rfl (isStmt_fn (mapS (fun b => affSubst b v.toNat a) s) (by omega)) rfl) ?_
    refine .cons (.nt rfl rfl) ?_
    refine .nil ?_
    refine ks_n ?_
    refine ACode.condT rfl (fun h28 => ?_) (fun h28 => ?_)
    · try simp only [List.length_map, decide_eq_true_eq, decide_eq_false_iff_not, Bool.not_eq_true', Bool.not_eq_false', Bool.not_eq_true, Bool.not_eq_false] at h28
      refine ACode.seq ?_
      refine ACode.region ?_
      refine .cons (.bu [] [(0, 2), (2, 7)] [.string ByteArray.empty, .slice none 0 0, .int .i64 0, .int .i64 0, .slice none 0 0, .int .i64 0, .string ByteArray.empty, .slice none 0 0, .slice none 0 0] rfl rfl rfl rfl rfl) ?_
      refine .cons (.sT 9 true rfl rfl rfl rfl rfl rfl rfl) ?_
      refine .cons (.asg rfl rfl) ?_
      refine .nil ?_
      refine ks_n ?_
      refine ACode.ret ?_
      refine ks_r ?_
      refine kf_wret [(.t 6, .v (.o (.c (.box 100 9 0 0)))), (.t 7, .v (.o (bo1 false))), (.b 100, .b 33 9 [[.d (dS ByteArray.empty), .d (dAs []), .d (dI 0), .d (dI 0), .d (dIs []), .d (dI 0), .d (dS ByteArray.empty), .d (dAs []), .d (dEs [])]]), (.u 100, .u)] (Wk.keep [(100, 810)] rfl rfl ⟨ks rfl (.c .bx), ks rfl .dt, kb 810 rfl (.cons (.cons .dt (.cons (Cto.nil _) (.cons .dt (.cons .dt (.cons (Cto.nil _) (.cons .dt (.cons .dt (.cons (Cto.nil _) (.cons (Cto.nil _) Ctos.nil))))))))) .nil), trivial⟩) rfl ?_ nobox
      rw [substS_yes h21, chkS_no h28]; rfl
    · try simp only [List.length_map, decide_eq_true_eq, decide_eq_false_iff_not, Bool.not_eq_true', Bool.not_eq_false', Bool.not_eq_true, Bool.not_eq_false] at h28
      refine ACode.skip ?_
      refine ks_n ?_
      refine ACode.seq ?_
      refine ACode.region ?_
      refine .cons (.bN 9 rfl rfl rfl rfl rfl rfl) ?_
      refine .cons (.sT 9 true rfl rfl rfl rfl rfl rfl rfl) ?_
      refine .cons (.asg rfl rfl) ?_
      refine .nil ?_
      refine ks_n ?_
      refine ACode.ret ?_
      refine kf_ret rfl ?_ nobox
      rw [substS_yes h21, chkS_yes h28]; rfl

set_option maxRecDepth 100000 in
set_option maxHeartbeats 1600000 in
theorem specSub_fn (s : Stm) (v : Int) (a : Aff) (hs : szS s ≤ 1073741824) : Fn Try.prog 32 [] [ad (rS s), nat1 v, ad (rA a)] (.tup [ad (rS (substS s v a).1), bo1 (substS s v a).2]) [] := by
  refine Fn.code0 Try.func32 rfl rfl rfl rfl ?_
  refine ACode.seq ?_
  refine ACode.region ?_
  refine .cons (St1.boxP rfl rfl rfl rfl rfl rfl) ?_
  refine .cons (St1.boxP rfl rfl rfl rfl rfl rfl) ?_
  refine .cons (.al 106 [.string ByteArray.empty, .slice none 0 0, .int .i64 0, .int .i64 0, .slice none 0 0, .int .i64 0, .string ByteArray.empty, .slice none 0 0, .slice none 0 0] rfl rfl rfl) ?_
  refine .cons (.asg rfl rfl) ?_
  refine .nil ?_
  refine ks_n ?_
  refine ACode.seq ?_
  refine ACode.seq ?_
  refine ACode.cut [(.t 1, .v (.o (nat1 v))), (.t 3, .v (.o (.c (.ptr (rS s))))), (.t 5, .v (.o (.c (.ptr (rA a))))), (.t 6, .v (.o (.c (.box 810 9 0 0)))), (.t 7, .v (.o (bo1 false))), (.t 24, .v (.o (bo1 (!(stmtV 4 s && affV a && inB v 0 3))))), (.b 810, .b 33 9 [[.d (dS ByteArray.empty), .d (.val (.slice none 0 0)), .d (dI 0), .d (dI 0), .d (.val (.slice none 0 0)), .d (dI 0), .d (dS ByteArray.empty), .d (.val (.slice none 0 0)), .d (.val (.slice none 0 0))]]), (.u 810, .u)] ?_ ?_
  · skip
    refine ACode.region ?_
    refine .cons (.lN 9 rfl rfl rfl) ?_
    refine .cons (.cP [.tmp 9, .const (.int .i64 (4))] rfl rfl rfl rfl (specStmtV_fn 4 s (by omega)) rfl) ?_
    refine .cons (.nt rfl rfl) ?_
    refine .cons (.mv rfl rfl) ?_
    refine AOps.cases 12 _ rfl (fun g12 => ?_) (fun g12 => ?_)
    · try simp only [List.length_map, decide_eq_true_eq, decide_eq_false_iff_not, Bool.not_eq_true', Bool.not_eq_false', Bool.not_eq_true, Bool.not_eq_false] at g12
      refine .cons (.gF rfl rfl rfl) ?_
      refine .cons (.gF rfl rfl rfl) ?_
      refine .cons (.gF rfl rfl rfl) ?_
      refine .cons (.pT rfl rfl rfl) ?_
      refine .cons (.mv rfl rfl) ?_
      refine .cons (.gF rfl rfl rfl) ?_
      refine .cons (.gF rfl rfl rfl) ?_
      refine .cons (.pT rfl rfl rfl) ?_
      refine .cons (.mv rfl rfl) ?_
      refine .cons (.gF rfl rfl rfl) ?_
      refine .cons (.gF rfl rfl rfl) ?_
      refine .cons (.pT rfl rfl rfl) ?_
      refine .nil ?_
      exact kc_n (Wk.keep [(810, 106)] rfl rfl ⟨ks rfl .dt, ks rfl .dt, ks rfl .dt, ks rfl (.c .bx), ks rfl .dt, ks rfl (.dt (vB (by rw [inB]; first | (simp [*]; done) | grind))), kb 106 rfl (.cons (.cons .dt (.cons .dt (.cons .dt (.cons .dt (.cons .dt (.cons .dt (.cons .dt (.cons .dt (.cons .dt Ctos.nil))))))))) .nil), trivial⟩)
    · try simp only [List.length_map, decide_eq_true_eq, decide_eq_false_iff_not, Bool.not_eq_true', Bool.not_eq_false', Bool.not_eq_true, Bool.not_eq_false] at g12
      refine .cons (.gT rfl rfl rfl (.lN 2 rfl rfl rfl)) ?_
      refine .cons (.gT rfl rfl rfl (.cP [.tmp 13] rfl rfl rfl rfl (specAffV_fn a) rfl)) ?_
      refine .cons (.gT rfl rfl rfl (.nt rfl rfl)) ?_
      refine .cons (.pF rfl rfl rfl) ?_
      refine .cons (.mv rfl rfl) ?_
      refine AOps.cases 17 _ rfl (fun g17 => ?_) (fun g17 => ?_)
      · try simp only [List.length_map, decide_eq_true_eq, decide_eq_false_iff_not, Bool.not_eq_true', Bool.not_eq_false', Bool.not_eq_true, Bool.not_eq_false] at g17
        refine .cons (.gF rfl rfl rfl) ?_
        refine .cons (.gF rfl rfl rfl) ?_
        refine .cons (.pT rfl rfl rfl) ?_
        refine .cons (.mv rfl rfl) ?_
        refine .cons (.gF rfl rfl rfl) ?_
        refine .cons (.gF rfl rfl rfl) ?_
        refine .cons (.pT rfl rfl rfl) ?_
        refine .nil ?_
        exact kc_n (Wk.keep [(810, 106)] rfl rfl ⟨ks rfl .dt, ks rfl .dt, ks rfl .dt, ks rfl (.c .bx), ks rfl .dt, ks rfl (.dt (vB (by rw [inB]; first | (simp [*]; done) | grind))), kb 106 rfl (.cons (.cons .dt (.cons .dt (.cons .dt (.cons .dt (.cons .dt (.cons .dt (.cons .dt (.cons .dt (.cons .dt Ctos.nil))))))))) .nil), trivial⟩)
      · try simp only [List.length_map, decide_eq_true_eq, decide_eq_false_iff_not, Bool.not_eq_true', Bool.not_eq_false', Bool.not_eq_true, Bool.not_eq_false] at g17
        refine .cons (.gT rfl rfl rfl (.mv rfl rfl)) ?_
        refine .cons (.gT rfl rfl rfl (.ls rfl rfl rfl)) ?_
        refine .cons (.pF rfl rfl rfl) ?_
        refine .cons (.mv rfl rfl) ?_
        refine AOps.cases 21 _ rfl (fun g21 => ?_) (fun g21 => ?_)
        · try simp only [List.length_map, decide_eq_true_eq, decide_eq_false_iff_not, Bool.not_eq_true', Bool.not_eq_false', Bool.not_eq_true, Bool.not_eq_false] at g21
          refine .cons (.gF rfl rfl rfl) ?_
          refine .cons (.gF rfl rfl rfl) ?_
          refine .cons (.pT rfl rfl rfl) ?_
          refine .nil ?_
          exact kc_n (Wk.keep [(810, 106)] rfl rfl ⟨ks rfl .dt, ks rfl .dt, ks rfl .dt, ks rfl (.c .bx), ks rfl .dt, ks rfl (.dt (vB (by rw [inB]; first | (simp [*]; done) | grind))), kb 106 rfl (.cons (.cons .dt (.cons .dt (.cons .dt (.cons .dt (.cons .dt (.cons .dt (.cons .dt (.cons .dt (.cons .dt Ctos.nil))))))))) .nil), trivial⟩)
        · try simp only [List.length_map, decide_eq_true_eq, decide_eq_false_iff_not, Bool.not_eq_true', Bool.not_eq_false', Bool.not_eq_true, Bool.not_eq_false] at g21
          refine .cons (.gT rfl rfl rfl (.mv rfl rfl)) ?_
          refine .cons (.gT rfl rfl rfl (.ge rfl rfl rfl)) ?_
          refine .cons (.pF rfl rfl rfl) ?_
          refine .nil ?_
          exact kc_n (Wk.keep [(810, 106)] rfl rfl ⟨ks rfl .dt, ks rfl .dt, ks rfl .dt, ks rfl (.c .bx), ks rfl .dt, ks rfl (.dt (vB (by rw [inB]; first | (simp [*]; done) | grind))), kb 106 rfl (.cons (.cons .dt (.cons .dt (.cons .dt (.cons .dt (.cons .dt (.cons .dt (.cons .dt (.cons .dt (.cons .dt Ctos.nil))))))))) .nil), trivial⟩)
  refine ks_n ?_
  refine ACode.condT rfl (fun h24 => ?_) (fun h24 => ?_)
  · try simp only [List.length_map, decide_eq_true_eq, decide_eq_false_iff_not, Bool.not_eq_true', Bool.not_eq_false', Bool.not_eq_true, Bool.not_eq_false] at h24
    refine ACode.seq ?_
    refine ACode.region ?_
    refine .cons (.bu [] [(0, 2), (2, 7)] [.string ByteArray.empty, .slice none 0 0, .int .i64 0, .int .i64 0, .slice none 0 0, .int .i64 0, .string ByteArray.empty, .slice none 0 0, .slice none 0 0] rfl rfl rfl rfl rfl) ?_
    refine .cons (.sT 9 true rfl rfl rfl rfl rfl rfl rfl) ?_
    refine .cons (.asg rfl rfl) ?_
    refine .nil ?_
    refine ks_n ?_
    refine ACode.ret ?_
    refine ks_r ?_
    refine kf_wret [(.t 6, .v (.o (.c (.box 100 9 0 0)))), (.t 7, .v (.o (bo1 false))), (.b 100, .b 33 9 [[.d (dS ByteArray.empty), .d (dAs []), .d (dI 0), .d (dI 0), .d (dIs []), .d (dI 0), .d (dS ByteArray.empty), .d (dAs []), .d (dEs [])]]), (.u 100, .u)] (Wk.keep [(100, 810)] rfl rfl ⟨ks rfl (.c .bx), ks rfl .dt, kb 810 rfl (.cons (.cons .dt (.cons (Cto.nil _) (.cons .dt (.cons .dt (.cons (Cto.nil _) (.cons .dt (.cons .dt (.cons (Cto.nil _) (.cons (Cto.nil _) Ctos.nil))))))))) .nil), trivial⟩) rfl ?_ nobox
    rw [substS_no h24]; rfl
  · try simp only [List.length_map, decide_eq_true_eq, decide_eq_false_iff_not, Bool.not_eq_true', Bool.not_eq_false', Bool.not_eq_true, Bool.not_eq_false] at h24
    obtain ⟨q1, q2, q3⟩ : stmtV 4 s = true ∧ affV a = true ∧ inB v 0 3 = true := by simpa [and_assoc] using h24
    have hF := sub_facts q1 q2 q3 hs
    refine ACode.skip ?_
    refine ks_n ?_
    refine ACode.seq ?_
    refine ACode.region ?_
    refine .cons (.lN 9 rfl rfl rfl) ?_
    refine .cons (.mv rfl rfl) ?_
    refine .cons (.lN 2 rfl rfl rfl) ?_
    refine .cons (.cP [.tmp 26, .tmp 27, .tmp 28] rfl rfl rfl rfl (l3Subst_fn s hs hF.1 hF.2.1 hF.2.2.1) rfl) ?_
    refine .cons (.al 108 [.string ByteArray.empty, .slice none 0 0, .int .i64 0, .int .i64 0, .slice none 0 0, .int .i64 0, .string ByteArray.empty, .slice none 0 0, .slice none 0 0] rfl rfl rfl) ?_
    refine .cons (.sT 9 true rfl rfl rfl rfl rfl rfl rfl) ?_
    refine .nil ?_
    refine ks_n ?_
    refine ACode.seq ?_
    refine ACode.seq ?_
    refine ACode.region ?_
    refine .cons (.bN 9 rfl rfl rfl rfl rfl rfl) ?_
    refine .cons (.cP [.tmp 30, .const (.int .i64 (4))] rfl rfl rfl rfl (specStmtV_fn 4 (mapS (fun b => affSubst b v.toNat a) s) (by omega)) rfl) ?_
    refine .cons (.nt rfl rfl) ?_
    refine .nil ?_
    refine ks_n ?_
    refine ACode.condT rfl (fun h32 => ?_) (fun h32 => ?_)
    · try simp only [List.length_map, decide_eq_true_eq, decide_eq_false_iff_not, Bool.not_eq_true', Bool.not_eq_false', Bool.not_eq_true, Bool.not_eq_false] at h32
      refine ACode.seq ?_
      refine ACode.region ?_
      refine .cons (.bu [] [(0, 2), (2, 7)] [.string ByteArray.empty, .slice none 0 0, .int .i64 0, .int .i64 0, .slice none 0 0, .int .i64 0, .string ByteArray.empty, .slice none 0 0, .slice none 0 0] rfl rfl rfl rfl rfl) ?_
      refine .cons (.sT 9 true rfl rfl rfl rfl rfl rfl rfl) ?_
      refine .cons (.asg rfl rfl) ?_
      refine .nil ?_
      refine ks_n ?_
      refine ACode.ret ?_
      refine ks_r ?_
      refine kf_wret [(.t 6, .v (.o (.c (.box 100 9 0 0)))), (.t 7, .v (.o (bo1 false))), (.b 100, .b 33 9 [[.d (dS ByteArray.empty), .d (dAs []), .d (dI 0), .d (dI 0), .d (dIs []), .d (dI 0), .d (dS ByteArray.empty), .d (dAs []), .d (dEs [])]]), (.u 100, .u)] (Wk.keep [(100, 810)] rfl rfl ⟨ks rfl (.c .bx), ks rfl .dt, kb 810 rfl (.cons (.cons .dt (.cons (Cto.nil _) (.cons .dt (.cons .dt (.cons (Cto.nil _) (.cons .dt (.cons .dt (.cons (Cto.nil _) (.cons (Cto.nil _) Ctos.nil))))))))) .nil), trivial⟩) rfl ?_ nobox
      rw [substS_yes h24, chkS_no h32]; rfl
    · try simp only [List.length_map, decide_eq_true_eq, decide_eq_false_iff_not, Bool.not_eq_true', Bool.not_eq_false', Bool.not_eq_true, Bool.not_eq_false] at h32
      refine ACode.skip ?_
      refine ks_n ?_
      refine ACode.seq ?_
      refine ACode.region ?_
      refine .cons (.bN 9 rfl rfl rfl rfl rfl rfl) ?_
      refine .cons (.sT 9 true rfl rfl rfl rfl rfl rfl rfl) ?_
      refine .cons (.asg rfl rfl) ?_
      refine .nil ?_
      refine ks_n ?_
      refine ACode.ret ?_
      refine kf_ret rfl ?_ nobox
      rw [substS_yes h24, chkS_yes h32]; rfl

end Go.Proofs.Ytigdfdhjnadieaa

/- Statements: simplification by the program; condition: small lists. -/
namespace Go.Proofs.Ytigdfdhjnadieaa
set_option linter.unusedVariables false
set_option linter.unusedSimpArgs false
open Go.RowKit

def numE (n : Int) : Ex := .mk 1 n ([], 0) (ByteArray.empty, []) []
def isN (e : Ex) (n : Int) : Bool := decide (e.k = 1) && decide (e.n = n)
/-- The value of an operator on numbers. -/
def valN (k a b : Int) : Int := if k = 5 then a - b else if k = 6 then a * b else a + b
/-- A node whose operands are simple. -/
def foldN (e x y : Ex) : Ex :=
  if (decide (x.k = 1) && decide (y.k = 1)) = true then (if inB (valN e.k x.n y.n) 0 99 = true then numE (valN e.k x.n y.n) else e)
  else if (!decide (e.k = 6) && isN y 0 || decide (e.k = 6) && isN y 1) = true then x
  else if (decide (e.k = 4) && isN x 0 || decide (e.k = 6) && isN x 1) = true then y
  else if (decide (e.k = 6) && (isN x 0 || isN y 0)) = true then numE 0 else e
def outE (k : Int) (x y : Ex) : Ex := .mk k 0 ([], 0) (ByteArray.empty, []) [x, y]
def idxV (e : Ex) : Bool := decide (e.k = 2) && decide (affDepth e.i = 0) && decide (0 ≤ e.i.2)
mutual
def foldE : Ex → Ex
  | .mk k n i r ks => if idxV (.mk k n i r ks) = true then numE i.2 else if 4 ≤ k ∧ k ≤ 6 then
    match foldEs ks with
    | [x, y] => foldN (outE k x y) x y
    | _ => .mk k n i r ks
    else .mk k n i r ks
def foldEs : List Ex → List Ex
  | [] => []
  | e :: l => foldE e :: foldEs l
end
theorem idxV_no {e : Ex} (h : ¬ e.k = 2) : idxV e = false := by rw [idxV, decide_eq_false h]; rfl
theorem foldE_leaf {e : Ex} (h : ¬ (4 ≤ e.k ∧ e.k ≤ 6)) : foldE e = if idxV e = true then numE e.i.2 else e := by
  cases e with
  | mk k n i r ks =>
    rw [foldE]
    have h' : ¬ (4 ≤ k ∧ k ≤ 6) := h
    rw [if_neg h']; rfl
theorem foldE_op {e x y : Ex} (h : 4 ≤ e.k ∧ e.k ≤ 6) (hks : e.ks = [x, y]) : foldE e = foldN (outE e.k (foldE x) (foldE y)) (foldE x) (foldE y) := by
  cases e with
  | mk k n i r ks =>
    have h' : 4 ≤ k ∧ k ≤ 6 := h
    have hk' : ks = [x, y] := hks
    subst hk'
    rw [foldE, idxV_no (show ¬ (Ex.mk k n i r [x, y]).k = 2 by show ¬ k = 2; omega), if_neg (by simp), if_pos h', foldEs, foldEs, foldEs]; rfl
theorem dEs_two (x y : Ex) : dEs [x, y] = .list 7 [rX x, rX y] := by rw [dEs, List.map_cons, List.map_cons, List.map_nil, rE_eq, rE_eq]
theorem foldN_num {k : Int} {X Y : Ex} (h : (decide (X.k = 1) && decide (Y.k = 1)) = true) (h2 : inB (valN k X.n Y.n) 0 99 = true) : foldN (outE k X Y) X Y = numE (valN k X.n Y.n) := by rw [foldN, if_pos h]; exact if_pos h2
theorem foldN_out {k : Int} {X Y : Ex} (h : (decide (X.k = 1) && decide (Y.k = 1)) = true) (h2 : inB (valN k X.n Y.n) 0 99 = false) : foldN (outE k X Y) X Y = outE k X Y := by rw [foldN, if_pos h]; exact if_neg (by intro h3; exact absurd (h2.symm.trans h3) (by decide))
theorem foldN_x {k : Int} {X Y : Ex} (h : (decide (X.k = 1) && decide (Y.k = 1)) = false) (h2 : (!decide (k = 6) && isN Y 0 || decide (k = 6) && isN Y 1) = true) : foldN (outE k X Y) X Y = X := by rw [foldN, if_neg (by rw [h]; decide)]; exact if_pos h2
theorem foldN_y {k : Int} {X Y : Ex} (h : (decide (X.k = 1) && decide (Y.k = 1)) = false) (h2 : (!decide (k = 6) && isN Y 0 || decide (k = 6) && isN Y 1) = false) (h3 : (decide (k = 4) && isN X 0 || decide (k = 6) && isN X 1) = true) : foldN (outE k X Y) X Y = Y := by
  rw [foldN, if_neg (by rw [h]; decide)]
  exact (if_neg (fun h4 => absurd (h2.symm.trans h4) (by decide))).trans (if_pos h3)
theorem foldN_z {k : Int} {X Y : Ex} (h : (decide (X.k = 1) && decide (Y.k = 1)) = false) (h2 : (!decide (k = 6) && isN Y 0 || decide (k = 6) && isN Y 1) = false) (h3 : (decide (k = 4) && isN X 0 || decide (k = 6) && isN X 1) = false) (h5 : (decide (k = 6) && (isN X 0 || isN Y 0)) = true) : foldN (outE k X Y) X Y = numE 0 := by
  rw [foldN, if_neg (by rw [h]; decide)]
  exact (if_neg (fun h4 => absurd (h2.symm.trans h4) (by decide))).trans ((if_neg (fun h4 => absurd (h3.symm.trans h4) (by decide))).trans (if_pos h5))
theorem foldN_e {k : Int} {X Y : Ex} (h : (decide (X.k = 1) && decide (Y.k = 1)) = false) (h2 : (!decide (k = 6) && isN Y 0 || decide (k = 6) && isN Y 1) = false) (h3 : (decide (k = 4) && isN X 0 || decide (k = 6) && isN X 1) = false) (h5 : (decide (k = 6) && (isN X 0 || isN Y 0)) = false) : foldN (outE k X Y) X Y = outE k X Y := by
  rw [foldN, if_neg (by rw [h]; decide)]
  exact (if_neg (fun h4 => absurd (h2.symm.trans h4) (by decide))).trans ((if_neg (fun h4 => absurd (h3.symm.trans h4) (by decide))).trans (if_neg (fun h4 => absurd (h5.symm.trans h4) (by decide))))
theorem inB_mul {a b : Int} (ha : -1000 ≤ a ∧ a ≤ 1000) (hb : -1000 ≤ b ∧ b ≤ 1000) : -1000000 ≤ a * b ∧ a * b ≤ 1000000 := mulb ha hb

set_option maxRecDepth 100000 in
set_option maxHeartbeats 1600000 in
theorem implNum_fn (n : Int) : Fn Try.prog 144 [] [nat1 n] (.o (ad (rX (numE n)))) [] := by
  refine Fn.code0 Try.func144 rfl rfl rfl rfl ?_
  refine ACode.seq ?_
  refine ACode.region ?_
  refine .cons (.al 102 [.int .i64 0, .int .i64 0, .slice none 0 0, .int .i64 0, .string ByteArray.empty, .slice none 0 0, .slice none 0 0] rfl rfl rfl) ?_
  refine .nil ?_
  refine ks_n ?_
  refine ACode.seq ?_
  refine ACode.region ?_
  refine .cons (.mv rfl rfl) ?_
  refine .cons (.bu [(0, .const (.int .i64 (1))), (1, .tmp 3)] [(0, 1), (1, 1), (2, 2), (4, 2), (6, 1)] [.int .i64 0, .int .i64 0, .slice none 0 0, .int .i64 0, .string ByteArray.empty, .slice none 0 0, .slice none 0 0] rfl rfl rfl rfl rfl) ?_
  refine .cons (.sT 7 true rfl rfl rfl rfl rfl rfl rfl) ?_
  refine .nil ?_
  refine ks_n ?_
  refine ACode.ret ?_
  refine kf_wret [(.t 2, .v (.o (.c (.box 100 7 0 0)))), (.b 100, .b 31 7 [[.d (dI 1), .d (dI n), .d (dIs []), .d (dI 0), .d (dS ByteArray.empty), .d (dAs []), .d (dEs [])]]), (.u 100, .u)] (Wk.keep [(100, 102)] rfl rfl ⟨ks rfl (.c .bx), kb 102 rfl (.cons (.cons .dt (.cons .dt (.cons (Cto.nil _) (.cons .dt (.cons .dt (.cons (Cto.nil _) (.cons (Cto.nil _) Ctos.nil))))))) .nil), trivial⟩) rfl ?_ nobox
  rfl

set_option maxRecDepth 100000 in
set_option maxHeartbeats 1600000 in
theorem l13Num_fn (n : Int) : Fn Try.prog 161 [] [nat1 n] (.o (ad (rX (numE n)))) [] := by
  refine Fn.code0 Try.func161 rfl rfl rfl rfl ?_
  refine ACode.seq ?_
  refine ACode.region ?_
  refine .cons (.al 102 [.int .i64 0, .int .i64 0, .slice none 0 0, .int .i64 0, .string ByteArray.empty, .slice none 0 0, .slice none 0 0] rfl rfl rfl) ?_
  refine .nil ?_
  refine ks_n ?_
  refine ACode.seq ?_
  refine ACode.region ?_
  refine .cons (.mv rfl rfl) ?_
  refine .cons (.bu [(0, .const (.int .i64 (1))), (1, .tmp 3)] [(0, 1), (1, 1), (2, 2), (4, 2), (6, 1)] [.int .i64 0, .int .i64 0, .slice none 0 0, .int .i64 0, .string ByteArray.empty, .slice none 0 0, .slice none 0 0] rfl rfl rfl rfl rfl) ?_
  refine .cons (.sT 7 true rfl rfl rfl rfl rfl rfl rfl) ?_
  refine .nil ?_
  refine ks_n ?_
  refine ACode.ret ?_
  refine kf_wret [(.t 2, .v (.o (.c (.box 100 7 0 0)))), (.b 100, .b 31 7 [[.d (dI 1), .d (dI n), .d (dIs []), .d (dI 0), .d (dS ByteArray.empty), .d (dAs []), .d (dEs [])]]), (.u 100, .u)] (Wk.keep [(100, 102)] rfl rfl ⟨ks rfl (.c .bx), kb 102 rfl (.cons (.cons .dt (.cons .dt (.cons (Cto.nil _) (.cons .dt (.cons .dt (.cons (Cto.nil _) (.cons (Cto.nil _) Ctos.nil))))))) .nil), trivial⟩) rfl ?_ nobox
  rfl

set_option maxRecDepth 100000 in
set_option maxHeartbeats 1600000 in
theorem implIsNum_fn (e : Ex) (n : Int) : Fn Try.prog 145 [] [ad (rX e), nat1 n] (.o (bo1 (isN e n))) [] := by
  refine Fn.code0 Try.func145 rfl rfl rfl rfl ?_
  refine ACode.seq ?_
  refine ACode.region ?_
  refine .cons (St1.boxP rfl rfl rfl rfl rfl rfl) ?_
  refine .cons (.asg rfl rfl) ?_
  refine .nil ?_
  refine ks_n ?_
  refine ACode.seq ?_
  refine ACode.region ?_
  refine .cons (.fP 0 0 false rfl rfl) ?_
  refine .cons (.l1 1 rfl rfl) ?_
  refine .cons (.eq rfl rfl rfl) ?_
  refine .cons (.mv rfl rfl) ?_
  refine .cD 8 rfl (fun g8 => ?_) (fun g8 => ?_)
  · skip
    refine .cons (.gT rfl rfl rfl (.fP 1 0 false rfl rfl)) ?_
    refine .cons (.gT rfl rfl rfl (.l1 1 rfl rfl)) ?_
    refine .cons (.gT rfl rfl rfl (.mv rfl rfl)) ?_
    refine .cons (.gT rfl rfl rfl (.eq rfl rfl rfl)) ?_
    refine .cons (.pT rfl rfl rfl) ?_
    refine .cons (.asg rfl rfl) ?_
    refine .nil ?_
    refine ks_n ?_
    refine ACode.ret ?_
    refine kf_ret rfl ?_ nobox
    exact leafB (by rw [isN]; first | rfl | grind)
  · skip
    refine .cons (.gF rfl rfl rfl) ?_
    refine .cons (.gF rfl rfl rfl) ?_
    refine .cons (.gF rfl rfl rfl) ?_
    refine .cons (.gF rfl rfl rfl) ?_
    refine .cons (.pF rfl rfl rfl) ?_
    refine .cons (.asg rfl rfl) ?_
    refine .nil ?_
    refine ks_n ?_
    refine ACode.ret ?_
    refine kf_ret rfl ?_ nobox
    exact leafB (by rw [isN]; first | rfl | grind)

set_option maxRecDepth 100000 in
set_option maxHeartbeats 1600000 in
theorem l13Is_fn (e : Ex) (n : Int) : Fn Try.prog 163 [] [ad (rX e), nat1 n] (.o (bo1 (isN e n))) [] := by
  refine Fn.code0 Try.func163 rfl rfl rfl rfl ?_
  refine ACode.seq ?_
  refine ACode.region ?_
  refine .cons (St1.boxP rfl rfl rfl rfl rfl rfl) ?_
  refine .cons (.asg rfl rfl) ?_
  refine .nil ?_
  refine ks_n ?_
  refine ACode.seq ?_
  refine ACode.region ?_
  refine .cons (.fP 0 0 false rfl rfl) ?_
  refine .cons (.l1 1 rfl rfl) ?_
  refine .cons (.eq rfl rfl rfl) ?_
  refine .cons (.mv rfl rfl) ?_
  refine .cD 8 rfl (fun g8 => ?_) (fun g8 => ?_)
  · skip
    refine .cons (.gT rfl rfl rfl (.fP 1 0 false rfl rfl)) ?_
    refine .cons (.gT rfl rfl rfl (.l1 1 rfl rfl)) ?_
    refine .cons (.gT rfl rfl rfl (.mv rfl rfl)) ?_
    refine .cons (.gT rfl rfl rfl (.eq rfl rfl rfl)) ?_
    refine .cons (.pT rfl rfl rfl) ?_
    refine .cons (.asg rfl rfl) ?_
    refine .nil ?_
    refine ks_n ?_
    refine ACode.ret ?_
    refine kf_ret rfl ?_ nobox
    exact leafB (by rw [isN]; first | rfl | grind)
  · skip
    refine .cons (.gF rfl rfl rfl) ?_
    refine .cons (.gF rfl rfl rfl) ?_
    refine .cons (.gF rfl rfl rfl) ?_
    refine .cons (.gF rfl rfl rfl) ?_
    refine .cons (.pF rfl rfl rfl) ?_
    refine .cons (.asg rfl rfl) ?_
    refine .nil ?_
    refine ks_n ?_
    refine ACode.ret ?_
    refine kf_ret rfl ?_ nobox
    exact leafB (by rw [isN]; first | rfl | grind)

set_option maxRecDepth 100000 in
set_option maxHeartbeats 1600000 in
theorem fold_leaf {e : Ex} (hk : ¬ (4 ≤ e.k ∧ e.k ≤ 6)) : Fn Try.prog 98 [] [ad (rX e)] (.o (ad (rX (if idxV e = true then numE e.i.2 else e)))) [] := by
  refine Fn.code0 Try.func98 rfl rfl rfl rfl ?_
  refine ACode.seq ?_
  refine ACode.region ?_
  refine .cons (St1.boxP rfl rfl rfl rfl rfl rfl) ?_
  refine .cons (.al 102 [.int .i64 0, .int .i64 0, .slice none 0 0, .int .i64 0, .string ByteArray.empty, .slice none 0 0, .slice none 0 0] rfl rfl rfl) ?_
  refine .nil ?_
  refine ks_n ?_
  refine ACode.seq ?_
  refine ACode.seq ?_
  refine ACode.cut [(.t 1, .v (.o (.c (.ptr (rX e))))), (.t 2, .v (.o (.c (.box 810 7 0 0)))), (.t 22, .v (.o (bo1 (idxV e)))), (.b 810, .b 31 7 [[.d (dI 0), .d (dI 0), .d (.val (.slice none 0 0)), .d (dI 0), .d (dS ByteArray.empty), .d (.val (.slice none 0 0)), .d (.val (.slice none 0 0))]]), (.u 810, .u)] ?_ ?_
  · skip
    refine ACode.region ?_
    refine .cons (.fP 0 0 false rfl rfl) ?_
    refine .cons (.l1 1 rfl rfl) ?_
    refine .cons (.eq rfl rfl rfl) ?_
    refine .cons (.mv rfl rfl) ?_
    refine .cD 11 rfl (fun g11 => ?_) (fun g11 => ?_)
    · skip
      refine .cons (.gT rfl rfl rfl (.fP 2 1 true rfl rfl)) ?_
      refine .cons (.gT rfl rfl rfl (.lN 2 rfl rfl rfl)) ?_
      refine .cons (.gT rfl rfl rfl (.cP [.tmp 13] rfl rfl rfl rfl (depth_fn _) rfl)) ?_
      refine .cons (.gT rfl rfl rfl (.eq rfl rfl rfl)) ?_
      refine .cons (.pT rfl rfl rfl) ?_
      refine .cons (.mv rfl rfl) ?_
      refine AOps.cases 17 _ rfl (fun g17 => ?_) (fun g17 => ?_)
      · try simp only [List.length_map, decide_eq_true_eq, decide_eq_false_iff_not, Bool.not_eq_true', Bool.not_eq_false', Bool.not_eq_true, Bool.not_eq_false] at g17
        refine .cons (.gT rfl rfl rfl (.fP 2 1 true rfl rfl)) ?_
        refine .cons (.gT rfl rfl rfl (.fP 1 0 false rfl rfl)) ?_
        refine .cons (.gT rfl rfl rfl (.l1 1 rfl rfl)) ?_
        refine .cons (.gT rfl rfl rfl (.ge rfl rfl rfl)) ?_
        refine .cons (.pT rfl rfl rfl) ?_
        refine .nil ?_
        exact kc_n (Wk.keep [(810, 102)] rfl rfl ⟨ks rfl .dt, ks rfl (.c .bx), ks rfl (.dt (vB (by rw [idxV]; first | rfl | (simp [*]; done) | grind))), kb 102 rfl (.cons (.cons .dt (.cons .dt (.cons .dt (.cons .dt (.cons .dt (.cons .dt (.cons .dt Ctos.nil))))))) .nil), trivial⟩)
      · try simp only [List.length_map, decide_eq_true_eq, decide_eq_false_iff_not, Bool.not_eq_true', Bool.not_eq_false', Bool.not_eq_true, Bool.not_eq_false] at g17
        refine .cons (.gF rfl rfl rfl) ?_
        refine .cons (.gF rfl rfl rfl) ?_
        refine .cons (.gF rfl rfl rfl) ?_
        refine .cons (.gF rfl rfl rfl) ?_
        refine .cons (.pF rfl rfl rfl) ?_
        refine .nil ?_
        exact kc_n (Wk.keep [(810, 102)] rfl rfl ⟨ks rfl .dt, ks rfl (.c .bx), ks rfl (.dt (vB (by rw [idxV]; first | rfl | (simp [*]; done) | grind))), kb 102 rfl (.cons (.cons .dt (.cons .dt (.cons .dt (.cons .dt (.cons .dt (.cons .dt (.cons .dt Ctos.nil))))))) .nil), trivial⟩)
    · skip
      refine .cons (.gF rfl rfl rfl) ?_
      refine .cons (.gF rfl rfl rfl) ?_
      refine .cons (.gF rfl rfl rfl) ?_
      refine .cons (.gF rfl rfl rfl) ?_
      refine .cons (.pF rfl rfl rfl) ?_
      refine .cons (.mv rfl rfl) ?_
      refine .cons (.gF rfl rfl rfl) ?_
      refine .cons (.gF rfl rfl rfl) ?_
      refine .cons (.gF rfl rfl rfl) ?_
      refine .cons (.gF rfl rfl rfl) ?_
      refine .cons (.pF rfl rfl rfl) ?_
      refine .nil ?_
      exact kc_n (Wk.keep [(810, 102)] rfl rfl ⟨ks rfl .dt, ks rfl (.c .bx), ks rfl (.dt (vB (by rw [idxV]; first | rfl | (simp [*]; done) | grind))), kb 102 rfl (.cons (.cons .dt (.cons .dt (.cons .dt (.cons .dt (.cons .dt (.cons .dt (.cons .dt Ctos.nil))))))) .nil), trivial⟩)
  refine ks_n ?_
  refine ACode.condT rfl (fun h22 => ?_) (fun h22 => ?_)
  · try simp only [List.length_map, decide_eq_true_eq, decide_eq_false_iff_not, Bool.not_eq_true', Bool.not_eq_false', Bool.not_eq_true, Bool.not_eq_false] at h22
    refine ACode.seq ?_
    refine ACode.region ?_
    refine .cons (.fP 2 1 true rfl rfl) ?_
    refine .cons (.fP 1 0 false rfl rfl) ?_
    refine .cons (.l1 1 rfl rfl) ?_
    refine .cons (.cP [.tmp 25] rfl rfl rfl rfl (implNum_fn _) rfl) ?_
    refine .cons (.sT 7 true rfl rfl rfl rfl rfl rfl rfl) ?_
    refine .nil ?_
    refine ks_n ?_
    refine ACode.ret ?_
    refine ks_r ?_
    refine kf_ret rfl ?_ nobox
    rw [if_pos h22]; rfl
  · try simp only [List.length_map, decide_eq_true_eq, decide_eq_false_iff_not, Bool.not_eq_true', Bool.not_eq_false', Bool.not_eq_true, Bool.not_eq_false] at h22
    refine ACode.skip ?_
    refine ks_n ?_
    refine ACode.seq ?_
    refine ACode.seq ?_
    refine ACode.region ?_
    refine .cons (.fP 0 0 false rfl rfl) ?_
    refine .cons (.l1 1 rfl rfl) ?_
    refine .cons (.cP [.tmp 28] rfl rfl rfl rfl (isOp_fn _) rfl) ?_
    refine .cons (.nt rfl rfl) ?_
    refine .nil ?_
    refine ks_n ?_
    refine ACode.condT rfl (fun h30 => ?_) (fun h30 => ?_)
    · try simp only [List.length_map, decide_eq_true_eq, decide_eq_false_iff_not, Bool.not_eq_true', Bool.not_eq_false', Bool.not_eq_true, Bool.not_eq_false] at h30
      refine ACode.seq ?_
      refine ACode.region ?_
      refine .cons (.lN 7 rfl rfl rfl) ?_
      refine .cons (.sT 7 true rfl rfl rfl rfl rfl rfl rfl) ?_
      refine .nil ?_
      refine ks_n ?_
      refine ACode.ret ?_
      refine ks_r ?_
      refine kf_ret rfl ?_ nobox
      rw [if_neg (by rw [h22]; decide)]; rfl
    · try simp only [List.length_map, decide_eq_true_eq, decide_eq_false_iff_not, Bool.not_eq_true', Bool.not_eq_false', Bool.not_eq_true, Bool.not_eq_false] at h30
      exact absurd (by simpa [inB] using h30) hk

set_option maxRecDepth 100000 in
set_option maxHeartbeats 1600000 in
theorem fold_op {e x y X Y : Ex} (hk : 4 ≤ e.k ∧ e.k ≤ 6) (hks : e.ks = [x, y]) (ihx : Fn Try.prog 98 [] [ad (rX x)] (.o (ad (rX X))) []) (ihy : Fn Try.prog 98 [] [ad (rX y)] (.o (ad (rX Y))) []) (hX : -1000 ≤ X.n ∧ X.n ≤ 1000) (hY : -1000 ≤ Y.n ∧ Y.n ≤ 1000) : Fn Try.prog 98 [] [ad (rX e)] (.o (ad (rX (foldN (outE e.k X Y) X Y)))) [] := by
  have hm := inB_mul hX hY
  refine Fn.code0 Try.func98 rfl rfl rfl rfl ?_
  refine ACode.seq ?_
  refine ACode.region ?_
  refine .cons (St1.boxP rfl rfl rfl rfl rfl rfl) ?_
  refine .cons (.al 102 [.int .i64 0, .int .i64 0, .slice none 0 0, .int .i64 0, .string ByteArray.empty, .slice none 0 0, .slice none 0 0] rfl rfl rfl) ?_
  refine .nil ?_
  refine ks_n ?_
  refine ACode.seq ?_
  refine ACode.seq ?_
  refine ACode.cut [(.t 1, .v (.o (.c (.ptr (rX e))))), (.t 2, .v (.o (.c (.box 810 7 0 0)))), (.t 22, .v (.o (bo1 (idxV e)))), (.b 810, .b 31 7 [[.d (dI 0), .d (dI 0), .d (.val (.slice none 0 0)), .d (dI 0), .d (dS ByteArray.empty), .d (.val (.slice none 0 0)), .d (.val (.slice none 0 0))]]), (.u 810, .u)] ?_ ?_
  · skip
    refine ACode.region ?_
    refine .cons (.fP 0 0 false rfl rfl) ?_
    refine .cons (.l1 1 rfl rfl) ?_
    refine .cons (.eq rfl rfl rfl) ?_
    refine .cons (.mv rfl rfl) ?_
    refine .cD 11 rfl (fun g11 => ?_) (fun g11 => ?_)
    · skip
      refine .cons (.gT rfl rfl rfl (.fP 2 1 true rfl rfl)) ?_
      refine .cons (.gT rfl rfl rfl (.lN 2 rfl rfl rfl)) ?_
      refine .cons (.gT rfl rfl rfl (.cP [.tmp 13] rfl rfl rfl rfl (depth_fn _) rfl)) ?_
      refine .cons (.gT rfl rfl rfl (.eq rfl rfl rfl)) ?_
      refine .cons (.pT rfl rfl rfl) ?_
      refine .cons (.mv rfl rfl) ?_
      refine AOps.cases 17 _ rfl (fun g17 => ?_) (fun g17 => ?_)
      · try simp only [List.length_map, decide_eq_true_eq, decide_eq_false_iff_not, Bool.not_eq_true', Bool.not_eq_false', Bool.not_eq_true, Bool.not_eq_false] at g17
        refine .cons (.gT rfl rfl rfl (.fP 2 1 true rfl rfl)) ?_
        refine .cons (.gT rfl rfl rfl (.fP 1 0 false rfl rfl)) ?_
        refine .cons (.gT rfl rfl rfl (.l1 1 rfl rfl)) ?_
        refine .cons (.gT rfl rfl rfl (.ge rfl rfl rfl)) ?_
        refine .cons (.pT rfl rfl rfl) ?_
        refine .nil ?_
        exact kc_n (Wk.keep [(810, 102)] rfl rfl ⟨ks rfl .dt, ks rfl (.c .bx), ks rfl (.dt (vB (by rw [idxV]; first | rfl | (simp [*]; done) | grind))), kb 102 rfl (.cons (.cons .dt (.cons .dt (.cons .dt (.cons .dt (.cons .dt (.cons .dt (.cons .dt Ctos.nil))))))) .nil), trivial⟩)
      · try simp only [List.length_map, decide_eq_true_eq, decide_eq_false_iff_not, Bool.not_eq_true', Bool.not_eq_false', Bool.not_eq_true, Bool.not_eq_false] at g17
        refine .cons (.gF rfl rfl rfl) ?_
        refine .cons (.gF rfl rfl rfl) ?_
        refine .cons (.gF rfl rfl rfl) ?_
        refine .cons (.gF rfl rfl rfl) ?_
        refine .cons (.pF rfl rfl rfl) ?_
        refine .nil ?_
        exact kc_n (Wk.keep [(810, 102)] rfl rfl ⟨ks rfl .dt, ks rfl (.c .bx), ks rfl (.dt (vB (by rw [idxV]; first | rfl | (simp [*]; done) | grind))), kb 102 rfl (.cons (.cons .dt (.cons .dt (.cons .dt (.cons .dt (.cons .dt (.cons .dt (.cons .dt Ctos.nil))))))) .nil), trivial⟩)
    · skip
      refine .cons (.gF rfl rfl rfl) ?_
      refine .cons (.gF rfl rfl rfl) ?_
      refine .cons (.gF rfl rfl rfl) ?_
      refine .cons (.gF rfl rfl rfl) ?_
      refine .cons (.pF rfl rfl rfl) ?_
      refine .cons (.mv rfl rfl) ?_
      refine .cons (.gF rfl rfl rfl) ?_
      refine .cons (.gF rfl rfl rfl) ?_
      refine .cons (.gF rfl rfl rfl) ?_
      refine .cons (.gF rfl rfl rfl) ?_
      refine .cons (.pF rfl rfl rfl) ?_
      refine .nil ?_
      exact kc_n (Wk.keep [(810, 102)] rfl rfl ⟨ks rfl .dt, ks rfl (.c .bx), ks rfl (.dt (vB (by rw [idxV]; first | rfl | (simp [*]; done) | grind))), kb 102 rfl (.cons (.cons .dt (.cons .dt (.cons .dt (.cons .dt (.cons .dt (.cons .dt (.cons .dt Ctos.nil))))))) .nil), trivial⟩)
  refine ks_n ?_
  refine ACode.condT rfl (fun h22 => ?_) (fun h22 => ?_)
  · try simp only [List.length_map, decide_eq_true_eq, decide_eq_false_iff_not, Bool.not_eq_true', Bool.not_eq_false', Bool.not_eq_true, Bool.not_eq_false] at h22
    exact absurd (h22.symm.trans (idxV_no (by omega))) (by decide)
  · try simp only [List.length_map, decide_eq_true_eq, decide_eq_false_iff_not, Bool.not_eq_true', Bool.not_eq_false', Bool.not_eq_true, Bool.not_eq_false] at h22
    refine ACode.skip ?_
    refine ks_n ?_
    refine ACode.seq ?_
    refine ACode.seq ?_
    refine ACode.region ?_
    refine .cons (.fP 0 0 false rfl rfl) ?_
    refine .cons (.l1 1 rfl rfl) ?_
    refine .cons (.cP [.tmp 28] rfl rfl rfl rfl (isOp_fn _) rfl) ?_
    refine .cons (.nt rfl rfl) ?_
    refine .nil ?_
    refine ks_n ?_
    refine ACode.condT rfl (fun h30 => ?_) (fun h30 => ?_)
    · try simp only [List.length_map, decide_eq_true_eq, decide_eq_false_iff_not, Bool.not_eq_true', Bool.not_eq_false', Bool.not_eq_true, Bool.not_eq_false] at h30
      exact absurd hk (by simpa [inB] using h30)
    · try simp only [List.length_map, decide_eq_true_eq, decide_eq_false_iff_not, Bool.not_eq_true', Bool.not_eq_false', Bool.not_eq_true, Bool.not_eq_false] at h30
      refine ACode.skip ?_
      refine ks_n ?_
      refine ACode.seq ?_
      refine ACode.drawK (by kernel_rfl) (by kernel_rfl) ?_
      refine .cons (.fP 6 0 false rfl rfl) ?_
      refine .cons (.l1 1 rfl rfl) ?_
      refine .cons (.xL 31 7 112 (i := 0) rfl rfl rfl rfl rfl (by rw [hks]; exact rE_at rfl)) ?_
      refine .cons (.lN 7 rfl rfl rfl) ?_
      refine .cons (.cP [.tmp 35] rfl rfl rfl rfl (ihx) rfl) ?_
      refine .cons (.fP 6 0 false rfl rfl) ?_
      refine .cons (.l1 1 rfl rfl) ?_
      refine .cons (.xL 31 7 112 (i := 1) rfl rfl rfl rfl rfl (by rw [hks]; exact rE_at rfl)) ?_
      refine .cons (.lN 7 rfl rfl rfl) ?_
      refine .cons (.cP [.tmp 40] rfl rfl rfl rfl (ihy) rfl) ?_
      refine .cons (.al 103 [.int .i64 0, .int .i64 0, .slice none 0 0, .int .i64 0, .string ByteArray.empty, .slice none 0 0, .slice none 0 0] rfl rfl rfl) ?_
      refine .cons (.al 104 [.int .i64 0, .int .i64 0, .slice none 0 0, .int .i64 0, .string ByteArray.empty, .slice none 0 0, .slice none 0 0] rfl rfl rfl) ?_
      refine .cons (.sT 7 true rfl rfl rfl rfl rfl rfl rfl) ?_
      refine .cons (.sT 7 true rfl rfl rfl rfl rfl rfl rfl) ?_
      refine .nil ⟨by kernel_rfl, ?_⟩
      refine ks_n ?_
      refine ACode.seq ?_
      refine ACode.region ?_
      refine .cons (.fP 0 0 false rfl rfl) ?_
      refine .cons (.l1 1 rfl rfl) ?_
      refine .cons (.bN 7 rfl rfl rfl rfl rfl rfl) ?_
      refine .cons (.bN 7 rfl rfl rfl rfl rfl rfl) ?_
      refine .cons (.li 31 6 1 [.tmp 44, .tmp 45] rfl rfl rfl rfl rfl rfl) ?_
      refine .cons (.bu [(0, .tmp 43), (4, .tmp 46)] [(0, 1), (1, 1), (2, 2), (4, 2), (6, 1)] [.int .i64 0, .int .i64 0, .slice none 0 0, .int .i64 0, .string ByteArray.empty, .slice none 0 0, .slice none 0 0] rfl rfl rfl rfl rfl) ?_
      refine .cons (.al 105 [.int .i64 0, .int .i64 0, .slice none 0 0, .int .i64 0, .string ByteArray.empty, .slice none 0 0, .slice none 0 0] rfl rfl rfl) ?_
      refine .cons (.sT 7 true rfl rfl rfl rfl rfl rfl rfl) ?_
      refine .nil ?_
      refine ks_n ?_
      refine ACode.seq ?_
      refine ACode.region ?_
      refine .cons (.fP 0 0 false rfl rfl) ?_
      refine .cons (.l1 1 rfl rfl) ?_
      refine .cons (.eq rfl rfl rfl) ?_
      refine .cons (.asg rfl rfl) ?_
      refine .nil ?_
      refine ks_n ?_
      refine ACode.seq ?_
      refine ACode.seq ?_
      refine ACode.cut [(.t 1, .v (.o (.c (.ptr (rX e))))), (.t 2, .v (.o (.c (.box 880 7 0 0)))), (.t 3, .v (.o (.c (.box 881 7 0 0)))), (.t 4, .v (.o (.c (.box 882 7 0 0)))), (.t 5, .v (.o (.c (.box 883 7 0 0)))), (.t 6, .v (.o (bo1 (decide (e.k = 6))))), (.t 58, .v (.o (bo1 ((decide (X.k = 1) && decide (Y.k = 1)))))), (.b 880, .b 31 7 [[.d (dI 0), .d (dI 0), .d (.val (.slice none 0 0)), .d (dI 0), .d (dS ByteArray.empty), .d (.val (.slice none 0 0)), .d (.val (.slice none 0 0))]]), (.u 880, .u), (.b 881, .b 31 7 (dR ([rX X]))), (.u 881, .u), (.b 882, .b 31 7 (dR ([rX Y]))), (.u 882, .u), (.b 883, .b 31 7 [[.d (dI e.k), .d (dI 0), .d (.val (.slice none 0 0)), .d (dI 0), .d (dS ByteArray.empty), .d (.val (.slice none 0 0)), .d (dEs [X, Y])]]), (.u 883, .u)] ?_ ?_
      · skip
        refine ACode.region ?_
        refine .cons (.fB 0 0 false rfl rfl rfl) ?_
        refine .cons (.b1 1 rfl rfl rfl rfl rfl rfl) ?_
        refine .cons (.eq rfl rfl rfl) ?_
        refine .cons (.mv rfl rfl) ?_
        refine .cD 54 rfl (fun g54 => ?_) (fun g54 => ?_)
        · skip
          refine .cons (.gT rfl rfl rfl (.fB 0 0 false rfl rfl rfl)) ?_
          refine .cons (.gT rfl rfl rfl (.b1 1 rfl rfl rfl rfl rfl rfl)) ?_
          refine .cons (.gT rfl rfl rfl (.eq rfl rfl rfl)) ?_
          refine .cons (.pT rfl rfl rfl) ?_
          refine .nil ?_
          exact kc_n (Wk.keep [(880, 810), (881, 103), (882, 104), (883, 105)] rfl rfl ⟨ks rfl .dt, ks rfl (.c .bx), ks rfl (.c .bx), ks rfl (.c .bx), ks rfl (.c .bx), ks rfl .dt, ks rfl (.dt (vB (by first | rfl | (simp [*]; done) | grind))), kb 810 rfl (.cons (.cons .dt (.cons .dt (.cons .dt (.cons .dt (.cons .dt (.cons .dt (.cons .dt Ctos.nil))))))) .nil), kb 103 rfl (.dt rfl), kb 104 rfl (.dt rfl), kb 105 rfl (.cons (.cons .dt (.cons .dt (.cons .dt (.cons .dt (.cons .dt (.cons .dt (.cons (.dt (by first | rfl | exact (dEs_two _ _).symm)) Ctos.nil))))))) .nil), trivial⟩)
        · skip
          refine .cons (.gF rfl rfl rfl) ?_
          refine .cons (.gF rfl rfl rfl) ?_
          refine .cons (.gF rfl rfl rfl) ?_
          refine .cons (.pF rfl rfl rfl) ?_
          refine .nil ?_
          exact kc_n (Wk.keep [(880, 810), (881, 103), (882, 104), (883, 105)] rfl rfl ⟨ks rfl .dt, ks rfl (.c .bx), ks rfl (.c .bx), ks rfl (.c .bx), ks rfl (.c .bx), ks rfl .dt, ks rfl (.dt (vB (by first | rfl | (simp [*]; done) | grind))), kb 810 rfl (.cons (.cons .dt (.cons .dt (.cons .dt (.cons .dt (.cons .dt (.cons .dt (.cons .dt Ctos.nil))))))) .nil), kb 103 rfl (.dt rfl), kb 104 rfl (.dt rfl), kb 105 rfl (.cons (.cons .dt (.cons .dt (.cons .dt (.cons .dt (.cons .dt (.cons .dt (.cons (.dt (by first | rfl | exact (dEs_two _ _).symm)) Ctos.nil))))))) .nil), trivial⟩)
      refine ks_n ?_
      refine ACode.condT rfl (fun h58 => ?_) (fun h58 => ?_)
      · try simp only [List.length_map, decide_eq_true_eq, decide_eq_false_iff_not, Bool.not_eq_true', Bool.not_eq_false', Bool.not_eq_true, Bool.not_eq_false] at h58
        refine ACode.seq ?_
        refine ACode.region ?_
        refine .cons (.fB 1 0 false rfl rfl rfl) ?_
        refine .cons (.b1 1 rfl rfl rfl rfl rfl rfl) ?_
        refine .cons (.fB 1 0 false rfl rfl rfl) ?_
        refine .cons (.b1 1 rfl rfl rfl rfl rfl rfl) ?_
        refine .cons (.pl rfl rfl rfl) ?_
        refine .cons (.asg rfl rfl) ?_
        refine .nil ?_
        refine ks_n ?_
        refine ACode.seq ?_
        refine ACode.cut [(.t 1, .v (.o (.c (.ptr (rX e))))), (.t 2, .v (.o (.c (.box 900 7 0 0)))), (.t 3, .v (.o (.c (.box 901 7 0 0)))), (.t 4, .v (.o (.c (.box 902 7 0 0)))), (.t 5, .v (.o (.c (.box 903 7 0 0)))), (.t 6, .v (.o (bo1 (decide (e.k = 6))))), (.t 7, .v (.o (nat1 (valN e.k X.n Y.n)))), (.b 900, .b 31 7 [[.d (dI 0), .d (dI 0), .d (.val (.slice none 0 0)), .d (dI 0), .d (dS ByteArray.empty), .d (.val (.slice none 0 0)), .d (.val (.slice none 0 0))]]), (.u 900, .u), (.b 901, .b 31 7 (dR ([rX X]))), (.u 901, .u), (.b 902, .b 31 7 (dR ([rX Y]))), (.u 902, .u), (.b 903, .b 31 7 [[.d (dI e.k), .d (dI 0), .d (.val (.slice none 0 0)), .d (dI 0), .d (dS ByteArray.empty), .d (.val (.slice none 0 0)), .d (dEs [X, Y])]]), (.u 903, .u)] ?_ ?_
        · skip
          refine ACode.seq ?_
          refine ACode.region ?_
          refine .cons (.fP 0 0 false rfl rfl) ?_
          refine .cons (.l1 1 rfl rfl) ?_
          refine .nil ?_
          refine ks_n ?_
          refine ACode.block ?_
          refine ACode.seq ?_
          refine ACode.region ?_
          refine .cons (.eq rfl rfl rfl) ?_
          refine .cons (.asg rfl rfl) ?_
          refine .nil ?_
          refine ks_n ?_
          refine .cD rfl (fun h66 => ?_) (fun h66 => ?_)
          · skip
            refine ACode.region ?_
            refine .cons (.fB 1 0 false rfl rfl rfl) ?_
            refine .cons (.b1 1 rfl rfl rfl rfl rfl rfl) ?_
            refine .cons (.fB 1 0 false rfl rfl rfl) ?_
            refine .cons (.b1 1 rfl rfl rfl rfl rfl rfl) ?_
            refine .cons (.sb rfl rfl rfl) ?_
            refine .cons (.asg rfl rfl) ?_
            refine .nil ?_
            refine kb_n ?_
            exact kc_n (Wk.keep [(900, 880), (901, 881), (902, 882), (903, 883)] rfl rfl ⟨ks rfl .dt, ks rfl (.c .bx), ks rfl (.c .bx), ks rfl (.c .bx), ks rfl (.c .bx), ks rfl .dt, ks rfl (.dt (vI (by rw [valN]; first | (simp [*]; done) | (rw [if_pos (by assumption)]; done) | (rw [if_neg (by assumption), if_pos (by assumption)]; done) | (rw [if_neg (by assumption), if_neg (by assumption)])))), kb 880 rfl (.cons (.cons .dt (.cons .dt (.cons .dt (.cons .dt (.cons .dt (.cons .dt (.cons .dt Ctos.nil))))))) .nil), kb 881 rfl (.dt rfl), kb 882 rfl (.dt rfl), kb 883 rfl (.cons (.cons .dt (.cons .dt (.cons .dt (.cons .dt (.cons .dt (.cons .dt (.cons (.dt (by first | rfl | exact (dEs_two _ _).symm)) Ctos.nil))))))) .nil), trivial⟩)
          · skip
            refine ACode.seq ?_
            refine ACode.region ?_
            refine .cons (.eq rfl rfl rfl) ?_
            refine .cons (.asg rfl rfl) ?_
            refine .nil ?_
            refine ks_n ?_
            refine .cD rfl (fun h73 => ?_) (fun h73 => ?_)
            · skip
              refine ACode.region ?_
              refine .cons (.fB 1 0 false rfl rfl rfl) ?_
              refine .cons (.b1 1 rfl rfl rfl rfl rfl rfl) ?_
              refine .cons (.fB 1 0 false rfl rfl rfl) ?_
              refine .cons (.b1 1 rfl rfl rfl rfl rfl rfl) ?_
              refine .cons (.ml rfl rfl rfl) ?_
              refine .cons (.asg rfl rfl) ?_
              refine .nil ?_
              refine kb_n ?_
              exact kc_n (Wk.keep [(900, 880), (901, 881), (902, 882), (903, 883)] rfl rfl ⟨ks rfl .dt, ks rfl (.c .bx), ks rfl (.c .bx), ks rfl (.c .bx), ks rfl (.c .bx), ks rfl .dt, ks rfl (.dt (vI (by rw [valN]; first | (simp [*]; done) | (rw [if_pos (by assumption)]; done) | (rw [if_neg (by assumption), if_pos (by assumption)]; done) | (rw [if_neg (by assumption), if_neg (by assumption)])))), kb 880 rfl (.cons (.cons .dt (.cons .dt (.cons .dt (.cons .dt (.cons .dt (.cons .dt (.cons .dt Ctos.nil))))))) .nil), kb 881 rfl (.dt rfl), kb 882 rfl (.dt rfl), kb 883 rfl (.cons (.cons .dt (.cons .dt (.cons .dt (.cons .dt (.cons .dt (.cons .dt (.cons (.dt (by first | rfl | exact (dEs_two _ _).symm)) Ctos.nil))))))) .nil), trivial⟩)
            · skip
              refine ACode.skip ?_
              refine kb_n ?_
              exact kc_n (Wk.keep [(900, 880), (901, 881), (902, 882), (903, 883)] rfl rfl ⟨ks rfl .dt, ks rfl (.c .bx), ks rfl (.c .bx), ks rfl (.c .bx), ks rfl (.c .bx), ks rfl .dt, ks rfl (.dt (vI (by rw [valN]; first | (simp [*]; done) | (rw [if_pos (by assumption)]; done) | (rw [if_neg (by assumption), if_pos (by assumption)]; done) | (rw [if_neg (by assumption), if_neg (by assumption)])))), kb 880 rfl (.cons (.cons .dt (.cons .dt (.cons .dt (.cons .dt (.cons .dt (.cons .dt (.cons .dt Ctos.nil))))))) .nil), kb 881 rfl (.dt rfl), kb 882 rfl (.dt rfl), kb 883 rfl (.cons (.cons .dt (.cons .dt (.cons .dt (.cons .dt (.cons .dt (.cons .dt (.cons (.dt (by first | rfl | exact (dEs_two _ _).symm)) Ctos.nil))))))) .nil), trivial⟩)
        refine ks_n ?_
        refine ACode.seq ?_
        refine ACode.seq ?_
        refine ACode.region ?_
        refine .cons (.mv rfl rfl) ?_
        refine .cons (.cP [.tmp 80, .const (.int .i64 (0)), .const (.int .i64 (99))] rfl rfl rfl rfl (within_fn _ 0 99) rfl) ?_
        refine .nil ?_
        refine ks_n ?_
        refine ACode.condT rfl (fun h81 => ?_) (fun h81 => ?_)
        · try simp only [List.length_map, decide_eq_true_eq, decide_eq_false_iff_not, Bool.not_eq_true', Bool.not_eq_false', Bool.not_eq_true, Bool.not_eq_false] at h81
          refine ACode.seq ?_
          refine ACode.region ?_
          refine .cons (.mv rfl rfl) ?_
          refine .cons (.cP [.tmp 82] rfl rfl rfl rfl (implNum_fn _) rfl) ?_
          refine .cons (.sT 7 true rfl rfl rfl rfl rfl rfl rfl) ?_
          refine .nil ?_
          refine ks_n ?_
          refine ACode.ret ?_
          refine ks_r ?_
          refine ks_r ?_
          refine kf_ret rfl ?_ nobox
          rw [foldN_num h58 h81]; rfl
        · try simp only [List.length_map, decide_eq_true_eq, decide_eq_false_iff_not, Bool.not_eq_true', Bool.not_eq_false', Bool.not_eq_true, Bool.not_eq_false] at h81
          refine ACode.skip ?_
          refine ks_n ?_
          refine ACode.seq ?_
          refine ACode.region ?_
          refine .cons (.bN 7 rfl rfl rfl rfl rfl rfl) ?_
          refine .cons (.sT 7 true rfl rfl rfl rfl rfl rfl rfl) ?_
          refine .nil ?_
          refine ks_n ?_
          refine ACode.ret ?_
          refine ks_r ?_
          refine kf_wret [(.t 2, .v (.o (.c (.box 100 7 0 0)))), (.b 100, .b 31 7 [[.d (dI e.k), .d (dI 0), .d (dIs []), .d (dI 0), .d (dS ByteArray.empty), .d (dAs []), .d (dEs [X, Y])]]), (.u 100, .u)] (Wk.keep [(100, 900)] rfl rfl ⟨ks rfl (.c .bx), kb 900 rfl (.cons (.cons .dt (.cons .dt (.cons (Cto.nil _) (.cons .dt (.cons .dt (.cons (Cto.nil _) (.cons .dt Ctos.nil))))))) .nil), trivial⟩) rfl ?_ nobox
          rw [foldN_out h58 h81]; rfl
      · try simp only [List.length_map, decide_eq_true_eq, decide_eq_false_iff_not, Bool.not_eq_true', Bool.not_eq_false', Bool.not_eq_true, Bool.not_eq_false] at h58
        refine ACode.skip ?_
        refine ks_n ?_
        refine ACode.seq ?_
        refine ACode.block ?_
        refine ACode.seq ?_
        refine ACode.cut [(.t 1, .v (.o (.c (.ptr (rX e))))), (.t 2, .v (.o (.c (.box 980 7 0 0)))), (.t 3, .v (.o (.c (.box 981 7 0 0)))), (.t 4, .v (.o (.c (.box 982 7 0 0)))), (.t 5, .v (.o (.c (.box 983 7 0 0)))), (.t 6, .v (.o (bo1 (decide (e.k = 6))))), (.t 85, .v (.o (bo1 ((!decide (e.k = 6) && isN Y 0 || decide (e.k = 6) && isN Y 1))))), (.b 980, .b 31 7 [[.d (dI 0), .d (dI 0), .d (.val (.slice none 0 0)), .d (dI 0), .d (dS ByteArray.empty), .d (.val (.slice none 0 0)), .d (.val (.slice none 0 0))]]), (.u 980, .u), (.b 981, .b 31 7 (dR ([rX X]))), (.u 981, .u), (.b 982, .b 31 7 (dR ([rX Y]))), (.u 982, .u), (.b 983, .b 31 7 [[.d (dI e.k), .d (dI 0), .d (.val (.slice none 0 0)), .d (dI 0), .d (dS ByteArray.empty), .d (.val (.slice none 0 0)), .d (dEs [X, Y])]]), (.u 983, .u)] ?_ ?_
        · skip
          refine ACode.region ?_
          refine .cons (.mv rfl rfl) ?_
          refine .cons (.nt rfl rfl) ?_
          refine .cons (.mv rfl rfl) ?_
          refine AOps.cases 88 _ rfl (fun g88 => ?_) (fun g88 => ?_)
          · try simp only [List.length_map, decide_eq_true_eq, decide_eq_false_iff_not, Bool.not_eq_true', Bool.not_eq_false', Bool.not_eq_true, Bool.not_eq_false] at g88
            refine .cons (.gT rfl rfl rfl (.bN 7 rfl rfl rfl rfl rfl rfl)) ?_
            refine .cons (.gT rfl rfl rfl (.cP [.tmp 89, .const (.int .i64 (0))] rfl rfl rfl rfl (implIsNum_fn _ 0) rfl)) ?_
            refine .cons (.pT rfl rfl rfl) ?_
            refine .cons (.mv rfl rfl) ?_
            refine AOps.cases 92 _ rfl (fun g92 => ?_) (fun g92 => ?_)
            · try simp only [List.length_map, decide_eq_true_eq, decide_eq_false_iff_not, Bool.not_eq_true', Bool.not_eq_false', Bool.not_eq_true, Bool.not_eq_false] at g92
              refine .cons (.gF rfl rfl rfl) ?_
              refine .cons (.gF rfl rfl rfl) ?_
              refine .cons (.gU rfl rfl) ?_
              refine .cons (.gU rfl rfl) ?_
              refine .cons (.gF rfl rfl rfl) ?_
              refine .cons (.pT rfl rfl rfl) ?_
              refine .cons (.asg rfl rfl) ?_
              refine .nil ?_
              exact kc_n (Wk.keep [(980, 880), (981, 881), (982, 882), (983, 883)] rfl rfl ⟨ks rfl .dt, ks rfl (.c .bx), ks rfl (.c .bx), ks rfl (.c .bx), ks rfl (.c .bx), ks rfl .dt, ks rfl (.dt (vB (by first | rfl | (simp [*]; done) | grind))), kb 880 rfl (.cons (.cons .dt (.cons .dt (.cons .dt (.cons .dt (.cons .dt (.cons .dt (.cons .dt Ctos.nil))))))) .nil), kb 881 rfl (.dt rfl), kb 882 rfl (.dt rfl), kb 883 rfl (.cons (.cons .dt (.cons .dt (.cons .dt (.cons .dt (.cons .dt (.cons .dt (.cons (.dt (by first | rfl | exact (dEs_two _ _).symm)) Ctos.nil))))))) .nil), trivial⟩)
            · try simp only [List.length_map, decide_eq_true_eq, decide_eq_false_iff_not, Bool.not_eq_true', Bool.not_eq_false', Bool.not_eq_true, Bool.not_eq_false] at g92
              refine .cons (.gT rfl rfl rfl (.mv rfl rfl)) ?_
              refine .cons (.gT rfl rfl rfl (.mv rfl rfl)) ?_
              refine AOps.cases 94 _ rfl (fun g94 => ?_) (fun g94 => ?_)
              · try simp only [List.length_map, decide_eq_true_eq, decide_eq_false_iff_not, Bool.not_eq_true', Bool.not_eq_false', Bool.not_eq_true, Bool.not_eq_false] at g94
                refine .cons (.gT rfl rfl rfl (.bN 7 rfl rfl rfl rfl rfl rfl)) ?_
                refine .cons (.gT rfl rfl rfl (.cP [.tmp 95, .const (.int .i64 (1))] rfl rfl rfl rfl (implIsNum_fn _ 1) rfl)) ?_
                refine .cons (.gT rfl rfl rfl (.pT rfl rfl rfl)) ?_
                refine .cons (.pF rfl rfl rfl) ?_
                refine .cons (.asg rfl rfl) ?_
                refine .nil ?_
                exact kc_n (Wk.keep [(980, 880), (981, 881), (982, 882), (983, 883)] rfl rfl ⟨ks rfl .dt, ks rfl (.c .bx), ks rfl (.c .bx), ks rfl (.c .bx), ks rfl (.c .bx), ks rfl .dt, ks rfl (.dt (vB (by first | rfl | (simp [*]; done) | grind))), kb 880 rfl (.cons (.cons .dt (.cons .dt (.cons .dt (.cons .dt (.cons .dt (.cons .dt (.cons .dt Ctos.nil))))))) .nil), kb 881 rfl (.dt rfl), kb 882 rfl (.dt rfl), kb 883 rfl (.cons (.cons .dt (.cons .dt (.cons .dt (.cons .dt (.cons .dt (.cons .dt (.cons (.dt (by first | rfl | exact (dEs_two _ _).symm)) Ctos.nil))))))) .nil), trivial⟩)
              · try simp only [List.length_map, decide_eq_true_eq, decide_eq_false_iff_not, Bool.not_eq_true', Bool.not_eq_false', Bool.not_eq_true, Bool.not_eq_false] at g94
                refine .cons (.gF rfl rfl rfl) ?_
                refine .cons (.gF rfl rfl rfl) ?_
                refine .cons (.gT rfl rfl rfl (.pF rfl rfl rfl)) ?_
                refine .cons (.pF rfl rfl rfl) ?_
                refine .cons (.asg rfl rfl) ?_
                refine .nil ?_
                exact kc_n (Wk.keep [(980, 880), (981, 881), (982, 882), (983, 883)] rfl rfl ⟨ks rfl .dt, ks rfl (.c .bx), ks rfl (.c .bx), ks rfl (.c .bx), ks rfl (.c .bx), ks rfl .dt, ks rfl (.dt (vB (by first | rfl | (simp [*]; done) | grind))), kb 880 rfl (.cons (.cons .dt (.cons .dt (.cons .dt (.cons .dt (.cons .dt (.cons .dt (.cons .dt Ctos.nil))))))) .nil), kb 881 rfl (.dt rfl), kb 882 rfl (.dt rfl), kb 883 rfl (.cons (.cons .dt (.cons .dt (.cons .dt (.cons .dt (.cons .dt (.cons .dt (.cons (.dt (by first | rfl | exact (dEs_two _ _).symm)) Ctos.nil))))))) .nil), trivial⟩)
          · try simp only [List.length_map, decide_eq_true_eq, decide_eq_false_iff_not, Bool.not_eq_true', Bool.not_eq_false', Bool.not_eq_true, Bool.not_eq_false] at g88
            refine .cons (.gF rfl rfl rfl) ?_
            refine .cons (.gF rfl rfl rfl) ?_
            refine .cons (.pF rfl rfl rfl) ?_
            refine .cons (.mv rfl rfl) ?_
            refine .cons (.gT rfl rfl rfl (.mv rfl rfl)) ?_
            refine .cons (.gT rfl rfl rfl (.mv rfl rfl)) ?_
            refine AOps.cases 94 _ rfl (fun g94 => ?_) (fun g94 => ?_)
            · try simp only [List.length_map, decide_eq_true_eq, decide_eq_false_iff_not, Bool.not_eq_true', Bool.not_eq_false', Bool.not_eq_true, Bool.not_eq_false] at g94
              refine .cons (.gT rfl rfl rfl (.bN 7 rfl rfl rfl rfl rfl rfl)) ?_
              refine .cons (.gT rfl rfl rfl (.cP [.tmp 95, .const (.int .i64 (1))] rfl rfl rfl rfl (implIsNum_fn _ 1) rfl)) ?_
              refine .cons (.gT rfl rfl rfl (.pT rfl rfl rfl)) ?_
              refine .cons (.pF rfl rfl rfl) ?_
              refine .cons (.asg rfl rfl) ?_
              refine .nil ?_
              exact kc_n (Wk.keep [(980, 880), (981, 881), (982, 882), (983, 883)] rfl rfl ⟨ks rfl .dt, ks rfl (.c .bx), ks rfl (.c .bx), ks rfl (.c .bx), ks rfl (.c .bx), ks rfl .dt, ks rfl (.dt (vB (by first | rfl | (simp [*]; done) | grind))), kb 880 rfl (.cons (.cons .dt (.cons .dt (.cons .dt (.cons .dt (.cons .dt (.cons .dt (.cons .dt Ctos.nil))))))) .nil), kb 881 rfl (.dt rfl), kb 882 rfl (.dt rfl), kb 883 rfl (.cons (.cons .dt (.cons .dt (.cons .dt (.cons .dt (.cons .dt (.cons .dt (.cons (.dt (by first | rfl | exact (dEs_two _ _).symm)) Ctos.nil))))))) .nil), trivial⟩)
            · try simp only [List.length_map, decide_eq_true_eq, decide_eq_false_iff_not, Bool.not_eq_true', Bool.not_eq_false', Bool.not_eq_true, Bool.not_eq_false] at g94
              refine .cons (.gF rfl rfl rfl) ?_
              refine .cons (.gF rfl rfl rfl) ?_
              refine .cons (.gT rfl rfl rfl (.pF rfl rfl rfl)) ?_
              refine .cons (.pF rfl rfl rfl) ?_
              refine .cons (.asg rfl rfl) ?_
              refine .nil ?_
              exact kc_n (Wk.keep [(980, 880), (981, 881), (982, 882), (983, 883)] rfl rfl ⟨ks rfl .dt, ks rfl (.c .bx), ks rfl (.c .bx), ks rfl (.c .bx), ks rfl (.c .bx), ks rfl .dt, ks rfl (.dt (vB (by first | rfl | (simp [*]; done) | grind))), kb 880 rfl (.cons (.cons .dt (.cons .dt (.cons .dt (.cons .dt (.cons .dt (.cons .dt (.cons .dt Ctos.nil))))))) .nil), kb 881 rfl (.dt rfl), kb 882 rfl (.dt rfl), kb 883 rfl (.cons (.cons .dt (.cons .dt (.cons .dt (.cons .dt (.cons .dt (.cons .dt (.cons (.dt (by first | rfl | exact (dEs_two _ _).symm)) Ctos.nil))))))) .nil), trivial⟩)
        refine ks_n ?_
        refine ACode.condT rfl (fun h85 => ?_) (fun h85 => ?_)
        · try simp only [List.length_map, decide_eq_true_eq, decide_eq_false_iff_not, Bool.not_eq_true', Bool.not_eq_false', Bool.not_eq_true, Bool.not_eq_false] at h85
          refine ACode.seq ?_
          refine ACode.region ?_
          refine .cons (.bN 7 rfl rfl rfl rfl rfl rfl) ?_
          refine .cons (.sT 7 true rfl rfl rfl rfl rfl rfl rfl) ?_
          refine .nil ?_
          refine ks_n ?_
          refine ACode.ret ?_
          refine kb_r ?_
          refine ks_r ?_
          refine kf_ret rfl ?_ nobox
          rw [foldN_x h58 h85]; rfl
        · try simp only [List.length_map, decide_eq_true_eq, decide_eq_false_iff_not, Bool.not_eq_true', Bool.not_eq_false', Bool.not_eq_true, Bool.not_eq_false] at h85
          refine ACode.seq ?_
          refine ACode.cut [(.t 1, .v (.o (.c (.ptr (rX e))))), (.t 2, .v (.o (.c (.box 800 7 0 0)))), (.t 3, .v (.o (.c (.box 801 7 0 0)))), (.t 4, .v (.o (.c (.box 802 7 0 0)))), (.t 5, .v (.o (.c (.box 803 7 0 0)))), (.t 6, .v (.o (bo1 (decide (e.k = 6))))), (.t 100, .v (.o (bo1 ((decide (e.k = 4) && isN X 0 || decide (e.k = 6) && isN X 1))))), (.b 800, .b 31 7 [[.d (dI 0), .d (dI 0), .d (.val (.slice none 0 0)), .d (dI 0), .d (dS ByteArray.empty), .d (.val (.slice none 0 0)), .d (.val (.slice none 0 0))]]), (.u 800, .u), (.b 801, .b 31 7 (dR ([rX X]))), (.u 801, .u), (.b 802, .b 31 7 (dR ([rX Y]))), (.u 802, .u), (.b 803, .b 31 7 [[.d (dI e.k), .d (dI 0), .d (.val (.slice none 0 0)), .d (dI 0), .d (dS ByteArray.empty), .d (.val (.slice none 0 0)), .d (dEs [X, Y])]]), (.u 803, .u)] ?_ ?_
          · skip
            refine ACode.region ?_
            refine .cons (.fP 0 0 false rfl rfl) ?_
            refine .cons (.l1 1 rfl rfl) ?_
            refine .cons (.eq rfl rfl rfl) ?_
            refine .cons (.mv rfl rfl) ?_
            refine .cD 104 rfl (fun g104 => ?_) (fun g104 => ?_)
            · skip
              refine .cons (.gT rfl rfl rfl (.bN 7 rfl rfl rfl rfl rfl rfl)) ?_
              refine .cons (.gT rfl rfl rfl (.cP [.tmp 105, .const (.int .i64 (0))] rfl rfl rfl rfl (implIsNum_fn _ 0) rfl)) ?_
              refine .cons (.pT rfl rfl rfl) ?_
              refine .cons (.mv rfl rfl) ?_
              refine AOps.cases 108 _ rfl (fun g108 => ?_) (fun g108 => ?_)
              · try simp only [List.length_map, decide_eq_true_eq, decide_eq_false_iff_not, Bool.not_eq_true', Bool.not_eq_false', Bool.not_eq_true, Bool.not_eq_false] at g108
                refine .cons (.gF rfl rfl rfl) ?_
                refine .cons (.gF rfl rfl rfl) ?_
                refine .cons (.gU rfl rfl) ?_
                refine .cons (.gU rfl rfl) ?_
                refine .cons (.gF rfl rfl rfl) ?_
                refine .cons (.pT rfl rfl rfl) ?_
                refine .cons (.asg rfl rfl) ?_
                refine .nil ?_
                exact kc_n (Wk.keep [(800, 980), (801, 981), (802, 982), (803, 983)] rfl rfl ⟨ks rfl .dt, ks rfl (.c .bx), ks rfl (.c .bx), ks rfl (.c .bx), ks rfl (.c .bx), ks rfl .dt, ks rfl (.dt (vB (by first | rfl | (simp [*]; done) | grind))), kb 980 rfl (.cons (.cons .dt (.cons .dt (.cons .dt (.cons .dt (.cons .dt (.cons .dt (.cons .dt Ctos.nil))))))) .nil), kb 981 rfl (.dt rfl), kb 982 rfl (.dt rfl), kb 983 rfl (.cons (.cons .dt (.cons .dt (.cons .dt (.cons .dt (.cons .dt (.cons .dt (.cons (.dt (by first | rfl | exact (dEs_two _ _).symm)) Ctos.nil))))))) .nil), trivial⟩)
              · try simp only [List.length_map, decide_eq_true_eq, decide_eq_false_iff_not, Bool.not_eq_true', Bool.not_eq_false', Bool.not_eq_true, Bool.not_eq_false] at g108
                refine .cons (.gT rfl rfl rfl (.mv rfl rfl)) ?_
                refine .cons (.gT rfl rfl rfl (.mv rfl rfl)) ?_
                refine AOps.cases 110 _ rfl (fun g110 => ?_) (fun g110 => ?_)
                · try simp only [List.length_map, decide_eq_true_eq, decide_eq_false_iff_not, Bool.not_eq_true', Bool.not_eq_false', Bool.not_eq_true, Bool.not_eq_false] at g110
                  refine .cons (.gT rfl rfl rfl (.bN 7 rfl rfl rfl rfl rfl rfl)) ?_
                  refine .cons (.gT rfl rfl rfl (.cP [.tmp 111, .const (.int .i64 (1))] rfl rfl rfl rfl (implIsNum_fn _ 1) rfl)) ?_
                  refine .cons (.gT rfl rfl rfl (.pT rfl rfl rfl)) ?_
                  refine .cons (.pF rfl rfl rfl) ?_
                  refine .cons (.asg rfl rfl) ?_
                  refine .nil ?_
                  exact kc_n (Wk.keep [(800, 980), (801, 981), (802, 982), (803, 983)] rfl rfl ⟨ks rfl .dt, ks rfl (.c .bx), ks rfl (.c .bx), ks rfl (.c .bx), ks rfl (.c .bx), ks rfl .dt, ks rfl (.dt (vB (by first | rfl | (simp [*]; done) | grind))), kb 980 rfl (.cons (.cons .dt (.cons .dt (.cons .dt (.cons .dt (.cons .dt (.cons .dt (.cons .dt Ctos.nil))))))) .nil), kb 981 rfl (.dt rfl), kb 982 rfl (.dt rfl), kb 983 rfl (.cons (.cons .dt (.cons .dt (.cons .dt (.cons .dt (.cons .dt (.cons .dt (.cons (.dt (by first | rfl | exact (dEs_two _ _).symm)) Ctos.nil))))))) .nil), trivial⟩)
                · try simp only [List.length_map, decide_eq_true_eq, decide_eq_false_iff_not, Bool.not_eq_true', Bool.not_eq_false', Bool.not_eq_true, Bool.not_eq_false] at g110
                  refine .cons (.gF rfl rfl rfl) ?_
                  refine .cons (.gF rfl rfl rfl) ?_
                  refine .cons (.gT rfl rfl rfl (.pF rfl rfl rfl)) ?_
                  refine .cons (.pF rfl rfl rfl) ?_
                  refine .cons (.asg rfl rfl) ?_
                  refine .nil ?_
                  exact kc_n (Wk.keep [(800, 980), (801, 981), (802, 982), (803, 983)] rfl rfl ⟨ks rfl .dt, ks rfl (.c .bx), ks rfl (.c .bx), ks rfl (.c .bx), ks rfl (.c .bx), ks rfl .dt, ks rfl (.dt (vB (by first | rfl | (simp [*]; done) | grind))), kb 980 rfl (.cons (.cons .dt (.cons .dt (.cons .dt (.cons .dt (.cons .dt (.cons .dt (.cons .dt Ctos.nil))))))) .nil), kb 981 rfl (.dt rfl), kb 982 rfl (.dt rfl), kb 983 rfl (.cons (.cons .dt (.cons .dt (.cons .dt (.cons .dt (.cons .dt (.cons .dt (.cons (.dt (by first | rfl | exact (dEs_two _ _).symm)) Ctos.nil))))))) .nil), trivial⟩)
            · skip
              refine .cons (.gF rfl rfl rfl) ?_
              refine .cons (.gF rfl rfl rfl) ?_
              refine .cons (.pF rfl rfl rfl) ?_
              refine .cons (.mv rfl rfl) ?_
              refine .cons (.gT rfl rfl rfl (.mv rfl rfl)) ?_
              refine .cons (.gT rfl rfl rfl (.mv rfl rfl)) ?_
              refine AOps.cases 110 _ rfl (fun g110 => ?_) (fun g110 => ?_)
              · try simp only [List.length_map, decide_eq_true_eq, decide_eq_false_iff_not, Bool.not_eq_true', Bool.not_eq_false', Bool.not_eq_true, Bool.not_eq_false] at g110
                refine .cons (.gT rfl rfl rfl (.bN 7 rfl rfl rfl rfl rfl rfl)) ?_
                refine .cons (.gT rfl rfl rfl (.cP [.tmp 111, .const (.int .i64 (1))] rfl rfl rfl rfl (implIsNum_fn _ 1) rfl)) ?_
                refine .cons (.gT rfl rfl rfl (.pT rfl rfl rfl)) ?_
                refine .cons (.pF rfl rfl rfl) ?_
                refine .cons (.asg rfl rfl) ?_
                refine .nil ?_
                exact kc_n (Wk.keep [(800, 980), (801, 981), (802, 982), (803, 983)] rfl rfl ⟨ks rfl .dt, ks rfl (.c .bx), ks rfl (.c .bx), ks rfl (.c .bx), ks rfl (.c .bx), ks rfl .dt, ks rfl (.dt (vB (by first | rfl | (simp [*]; done) | grind))), kb 980 rfl (.cons (.cons .dt (.cons .dt (.cons .dt (.cons .dt (.cons .dt (.cons .dt (.cons .dt Ctos.nil))))))) .nil), kb 981 rfl (.dt rfl), kb 982 rfl (.dt rfl), kb 983 rfl (.cons (.cons .dt (.cons .dt (.cons .dt (.cons .dt (.cons .dt (.cons .dt (.cons (.dt (by first | rfl | exact (dEs_two _ _).symm)) Ctos.nil))))))) .nil), trivial⟩)
              · try simp only [List.length_map, decide_eq_true_eq, decide_eq_false_iff_not, Bool.not_eq_true', Bool.not_eq_false', Bool.not_eq_true, Bool.not_eq_false] at g110
                refine .cons (.gF rfl rfl rfl) ?_
                refine .cons (.gF rfl rfl rfl) ?_
                refine .cons (.gT rfl rfl rfl (.pF rfl rfl rfl)) ?_
                refine .cons (.pF rfl rfl rfl) ?_
                refine .cons (.asg rfl rfl) ?_
                refine .nil ?_
                exact kc_n (Wk.keep [(800, 980), (801, 981), (802, 982), (803, 983)] rfl rfl ⟨ks rfl .dt, ks rfl (.c .bx), ks rfl (.c .bx), ks rfl (.c .bx), ks rfl (.c .bx), ks rfl .dt, ks rfl (.dt (vB (by first | rfl | (simp [*]; done) | grind))), kb 980 rfl (.cons (.cons .dt (.cons .dt (.cons .dt (.cons .dt (.cons .dt (.cons .dt (.cons .dt Ctos.nil))))))) .nil), kb 981 rfl (.dt rfl), kb 982 rfl (.dt rfl), kb 983 rfl (.cons (.cons .dt (.cons .dt (.cons .dt (.cons .dt (.cons .dt (.cons .dt (.cons (.dt (by first | rfl | exact (dEs_two _ _).symm)) Ctos.nil))))))) .nil), trivial⟩)
          refine ks_n ?_
          refine ACode.condT rfl (fun h100 => ?_) (fun h100 => ?_)
          · try simp only [List.length_map, decide_eq_true_eq, decide_eq_false_iff_not, Bool.not_eq_true', Bool.not_eq_false', Bool.not_eq_true, Bool.not_eq_false] at h100
            refine ACode.seq ?_
            refine ACode.region ?_
            refine .cons (.bN 7 rfl rfl rfl rfl rfl rfl) ?_
            refine .cons (.sT 7 true rfl rfl rfl rfl rfl rfl rfl) ?_
            refine .nil ?_
            refine ks_n ?_
            refine ACode.ret ?_
            refine kb_r ?_
            refine ks_r ?_
            refine kf_ret rfl ?_ nobox
            rw [foldN_y h58 h85 h100]; rfl
          · try simp only [List.length_map, decide_eq_true_eq, decide_eq_false_iff_not, Bool.not_eq_true', Bool.not_eq_false', Bool.not_eq_true, Bool.not_eq_false] at h100
            refine ACode.seq ?_
            refine ACode.cut [(.t 1, .v (.o (.c (.ptr (rX e))))), (.t 2, .v (.o (.c (.box 820 7 0 0)))), (.t 3, .v (.o (.c (.box 821 7 0 0)))), (.t 4, .v (.o (.c (.box 822 7 0 0)))), (.t 5, .v (.o (.c (.box 823 7 0 0)))), (.t 6, .v (.o (bo1 (decide (e.k = 6))))), (.t 116, .v (.o (bo1 ((decide (e.k = 6) && (isN X 0 || isN Y 0)))))), (.b 820, .b 31 7 [[.d (dI 0), .d (dI 0), .d (.val (.slice none 0 0)), .d (dI 0), .d (dS ByteArray.empty), .d (.val (.slice none 0 0)), .d (.val (.slice none 0 0))]]), (.u 820, .u), (.b 821, .b 31 7 (dR ([rX X]))), (.u 821, .u), (.b 822, .b 31 7 (dR ([rX Y]))), (.u 822, .u), (.b 823, .b 31 7 [[.d (dI e.k), .d (dI 0), .d (.val (.slice none 0 0)), .d (dI 0), .d (dS ByteArray.empty), .d (.val (.slice none 0 0)), .d (dEs [X, Y])]]), (.u 823, .u)] ?_ ?_
            · skip
              refine ACode.region ?_
              refine .cons (.mv rfl rfl) ?_
              refine .cons (.mv rfl rfl) ?_
              refine AOps.cases 118 _ rfl (fun g118 => ?_) (fun g118 => ?_)
              · try simp only [List.length_map, decide_eq_true_eq, decide_eq_false_iff_not, Bool.not_eq_true', Bool.not_eq_false', Bool.not_eq_true, Bool.not_eq_false] at g118
                refine .cons (.gT rfl rfl rfl (.bN 7 rfl rfl rfl rfl rfl rfl)) ?_
                refine .cons (.gT rfl rfl rfl (.cP [.tmp 119, .const (.int .i64 (0))] rfl rfl rfl rfl (implIsNum_fn _ 0) rfl)) ?_
                refine .cons (.gT rfl rfl rfl (.mv rfl rfl)) ?_
                refine AOps.cases 121 _ rfl (fun g121 => ?_) (fun g121 => ?_)
                · try simp only [List.length_map, decide_eq_true_eq, decide_eq_false_iff_not, Bool.not_eq_true', Bool.not_eq_false', Bool.not_eq_true, Bool.not_eq_false] at g121
                  refine .cons (.gF rfl rfl rfl) ?_
                  refine .cons (.gF rfl rfl rfl) ?_
                  refine .cons (.gT rfl rfl rfl (.pT rfl rfl rfl)) ?_
                  refine .cons (.pT rfl rfl rfl) ?_
                  refine .cons (.asg rfl rfl) ?_
                  refine .nil ?_
                  exact kc_n (Wk.keep [(820, 800), (821, 801), (822, 802), (823, 803)] rfl rfl ⟨ks rfl .dt, ks rfl (.c .bx), ks rfl (.c .bx), ks rfl (.c .bx), ks rfl (.c .bx), ks rfl .dt, ks rfl (.dt (vB (by first | rfl | (simp [*]; done) | grind))), kb 800 rfl (.cons (.cons .dt (.cons .dt (.cons .dt (.cons .dt (.cons .dt (.cons .dt (.cons .dt Ctos.nil))))))) .nil), kb 801 rfl (.dt rfl), kb 802 rfl (.dt rfl), kb 803 rfl (.cons (.cons .dt (.cons .dt (.cons .dt (.cons .dt (.cons .dt (.cons .dt (.cons (.dt (by first | rfl | exact (dEs_two _ _).symm)) Ctos.nil))))))) .nil), trivial⟩)
                · try simp only [List.length_map, decide_eq_true_eq, decide_eq_false_iff_not, Bool.not_eq_true', Bool.not_eq_false', Bool.not_eq_true, Bool.not_eq_false] at g121
                  refine .cons (.gT rfl rfl rfl (.bN 7 rfl rfl rfl rfl rfl rfl)) ?_
                  refine .cons (.gT rfl rfl rfl (.cP [.tmp 122, .const (.int .i64 (0))] rfl rfl rfl rfl (implIsNum_fn _ 0) rfl)) ?_
                  refine .cons (.gT rfl rfl rfl (.pF rfl rfl rfl)) ?_
                  refine .cons (.pT rfl rfl rfl) ?_
                  refine .cons (.asg rfl rfl) ?_
                  refine .nil ?_
                  exact kc_n (Wk.keep [(820, 800), (821, 801), (822, 802), (823, 803)] rfl rfl ⟨ks rfl .dt, ks rfl (.c .bx), ks rfl (.c .bx), ks rfl (.c .bx), ks rfl (.c .bx), ks rfl .dt, ks rfl (.dt (vB (by first | rfl | (simp [*]; done) | grind))), kb 800 rfl (.cons (.cons .dt (.cons .dt (.cons .dt (.cons .dt (.cons .dt (.cons .dt (.cons .dt Ctos.nil))))))) .nil), kb 801 rfl (.dt rfl), kb 802 rfl (.dt rfl), kb 803 rfl (.cons (.cons .dt (.cons .dt (.cons .dt (.cons .dt (.cons .dt (.cons .dt (.cons (.dt (by first | rfl | exact (dEs_two _ _).symm)) Ctos.nil))))))) .nil), trivial⟩)
              · try simp only [List.length_map, decide_eq_true_eq, decide_eq_false_iff_not, Bool.not_eq_true', Bool.not_eq_false', Bool.not_eq_true, Bool.not_eq_false] at g118
                refine .cons (.gF rfl rfl rfl) ?_
                refine .cons (.gF rfl rfl rfl) ?_
                refine .cons (.gF rfl rfl rfl) ?_
                refine .cons (.gU rfl rfl) ?_
                refine .cons (.gU rfl rfl) ?_
                refine .cons (.gF rfl rfl rfl) ?_
                refine .cons (.pF rfl rfl rfl) ?_
                refine .cons (.asg rfl rfl) ?_
                refine .nil ?_
                exact kc_n (Wk.keep [(820, 800), (821, 801), (822, 802), (823, 803)] rfl rfl ⟨ks rfl .dt, ks rfl (.c .bx), ks rfl (.c .bx), ks rfl (.c .bx), ks rfl (.c .bx), ks rfl .dt, ks rfl (.dt (vB (by first | rfl | (simp [*]; done) | grind))), kb 800 rfl (.cons (.cons .dt (.cons .dt (.cons .dt (.cons .dt (.cons .dt (.cons .dt (.cons .dt Ctos.nil))))))) .nil), kb 801 rfl (.dt rfl), kb 802 rfl (.dt rfl), kb 803 rfl (.cons (.cons .dt (.cons .dt (.cons .dt (.cons .dt (.cons .dt (.cons .dt (.cons (.dt (by first | rfl | exact (dEs_two _ _).symm)) Ctos.nil))))))) .nil), trivial⟩)
            refine ks_n ?_
            refine ACode.condT rfl (fun h116 => ?_) (fun h116 => ?_)
            · try simp only [List.length_map, decide_eq_true_eq, decide_eq_false_iff_not, Bool.not_eq_true', Bool.not_eq_false', Bool.not_eq_true, Bool.not_eq_false] at h116
              refine ACode.seq ?_
              refine ACode.region ?_
              refine .cons (.cP [.const (.int .i64 (0))] rfl rfl rfl rfl (implNum_fn 0) rfl) ?_
              refine .cons (.sT 7 true rfl rfl rfl rfl rfl rfl rfl) ?_
              refine .nil ?_
              refine ks_n ?_
              refine ACode.ret ?_
              refine kb_r ?_
              refine ks_r ?_
              refine kf_ret rfl ?_ nobox
              rw [foldN_z h58 h85 h100 h116]; rfl
            · try simp only [List.length_map, decide_eq_true_eq, decide_eq_false_iff_not, Bool.not_eq_true', Bool.not_eq_false', Bool.not_eq_true, Bool.not_eq_false] at h116
              refine ACode.skip ?_
              refine kb_n ?_
              refine ks_n ?_
              refine ACode.seq ?_
              refine ACode.region ?_
              refine .cons (.bN 7 rfl rfl rfl rfl rfl rfl) ?_
              refine .cons (.sT 7 true rfl rfl rfl rfl rfl rfl rfl) ?_
              refine .nil ?_
              refine ks_n ?_
              refine ACode.ret ?_
              refine kf_wret [(.t 2, .v (.o (.c (.box 100 7 0 0)))), (.b 100, .b 31 7 [[.d (dI e.k), .d (dI 0), .d (dIs []), .d (dI 0), .d (dS ByteArray.empty), .d (dAs []), .d (dEs [X, Y])]]), (.u 100, .u)] (Wk.keep [(100, 820)] rfl rfl ⟨ks rfl (.c .bx), kb 820 rfl (.cons (.cons .dt (.cons .dt (.cons (Cto.nil _) (.cons .dt (.cons .dt (.cons (Cto.nil _) (.cons .dt Ctos.nil))))))) .nil), trivial⟩) rfl ?_ nobox
              rw [foldN_e h58 h85 h100 h116]; rfl

end Go.Proofs.Ytigdfdhjnadieaa

/- Statements: simplification; condition: small lists. -/
namespace Go.Proofs.Ytigdfdhjnadieaa
set_option linter.unusedVariables false
set_option linter.unusedSimpArgs false
open Go.RowKit

theorem exV_up {d : Nat} : ∀ {L : Nat} {e : Ex}, exV d L e = true → exV d (L + 1) e = true
  | 0, e, h => by cases h
  | L + 1, e, h => by
    rw [exV, Bool.and_eq_true] at h
    rw [exV, Bool.and_eq_true]
    exact ⟨h.1, List.all_eq_true.2 fun x hx => exV_up (List.all_eq_true.1 h.2 x hx)⟩
theorem exV_n {d L : Nat} {e : Ex} (h : exV d L e = true) : 0 ≤ e.n ∧ e.n ≤ 99 := by
  cases L with
  | zero => cases h
  | succ L =>
    rw [exV, Bool.and_eq_true, Bool.and_eq_true] at h
    have h1 := h.1.2
    unfold fldV at h1
    split at h1
    · simp only [Bool.and_eq_true, inB, decide_eq_true_eq] at h1; exact h1.1.1
    · split at h1
      · simp only [Bool.and_eq_true, decide_eq_true_eq] at h1; omega
      · split at h1
        · simp only [Bool.and_eq_true, decide_eq_true_eq] at h1; omega
        · simp only [Bool.and_eq_true, decide_eq_true_eq] at h1; omega
theorem sEq_empty : sEq ByteArray.empty ByteArray.empty = true := sEq_iff.2 rfl
theorem numE_ok {d L : Nat} {n : Int} (h : 0 ≤ n ∧ n ≤ 99) : exV d (L + 1) (numE n) = true := by
  have h1 : nonC (ByteArray.empty, []) = true := nonC_iff.2 rfl
  have h2 : nonA ([], 0) = true := nonA_iff.2 rfl
  show (kidV 1 0 && fldV d 1 n ([], 0) (ByteArray.empty, []) && true) = true
  rw [fldV, if_pos rfl, h1, h2, inB, decide_eq_true h]; rfl
theorem outE_ok {d L : Nat} {k : Int} {X Y : Ex} (hk : 4 ≤ k ∧ k ≤ 6) (hX : exV d L X = true) (hY : exV d L Y = true) : exV d (L + 1) (outE k X Y) = true := by
  have h1 : nonC (ByteArray.empty, []) = true := nonC_iff.2 rfl
  have h2 : nonA ([], 0) = true := nonA_iff.2 rfl
  show (kidV k 2 && fldV d k 0 ([], 0) (ByteArray.empty, []) && (exV d L X && (exV d L Y && true))) = true
  rw [kidV, if_neg (by omega), if_pos hk, fldV, if_neg (by omega), if_neg (by omega), if_neg (by omega), h1, h2, hX, hY]; rfl
theorem foldN_cases (k : Int) (X Y : Ex) : (∃ n, 0 ≤ n ∧ n ≤ 99 ∧ foldN (outE k X Y) X Y = numE n) ∨ foldN (outE k X Y) X Y = X ∨ foldN (outE k X Y) X Y = Y ∨ foldN (outE k X Y) X Y = outE k X Y := by
  unfold foldN
  split
  · split
    · rename_i h; simp only [inB, decide_eq_true_eq] at h; exact .inl ⟨_, h.1, h.2, rfl⟩
    · exact .inr (.inr (.inr rfl))
  · split
    · exact .inr (.inl rfl)
    · split
      · exact .inr (.inr (.inl rfl))
      · split
        · exact .inl ⟨0, by omega, by omega, rfl⟩
        · exact .inr (.inr (.inr rfl))
/-- What holds of numbers, of what lies below, and of nodes over simple operands, holds of what is simplified. -/
theorem fold_ind {d : Nat} {p : Nat → Ex → Ex → Prop} (hnum : ∀ L n e, exV d (L + 1) e = true → 0 ≤ n → n ≤ 99 → p (L + 1) e (numE n)) (hsame : ∀ L e, exV d (L + 1) e = true → ¬ (4 ≤ e.k ∧ e.k ≤ 6) → idxV e = false → p (L + 1) e e)
    (hx : ∀ L e x y X, exV d (L + 1) e = true → 4 ≤ e.k ∧ e.k ≤ 6 → e.ks = [x, y] → p L x X → p (L + 1) e X) (hy : ∀ L e x y Y, exV d (L + 1) e = true → 4 ≤ e.k ∧ e.k ≤ 6 → e.ks = [x, y] → p L y Y → p (L + 1) e Y)
    (ho : ∀ L e x y, exV d (L + 1) e = true → 4 ≤ e.k ∧ e.k ≤ 6 → e.ks = [x, y] → p L x (foldE x) → p L y (foldE y) → foldN (outE e.k (foldE x) (foldE y)) (foldE x) (foldE y) = outE e.k (foldE x) (foldE y) → p (L + 1) e (outE e.k (foldE x) (foldE y))) : ∀ {L : Nat} {e : Ex}, exV d L e = true → p L e (foldE e)
  | 0, e, h => by cases h
  | L + 1, e, h => by
    by_cases hk : 4 ≤ e.k ∧ e.k ≤ 6
    · obtain ⟨x, y, hks⟩ := op_two h hk
      have hkv := (exV_kids h).2
      have ihx := fold_ind hnum hsame hx hy ho (hkv x (by rw [hks]; simp))
      have ihy := fold_ind hnum hsame hx hy ho (hkv y (by rw [hks]; simp))
      rw [foldE_op hk hks]
      rcases foldN_cases e.k (foldE x) (foldE y) with ⟨n, h1, h2, e1⟩ | e1 | e1 | e1
      · rw [e1]; exact hnum L n e h h1 h2
      · rw [e1]; exact hx L e x y _ h hk hks ihx
      · rw [e1]; exact hy L e x y _ h hk hks ihy
      · have e2 := e1; rw [e1]; exact ho L e x y h hk hks ihx ihy e2
    · rw [foldE_leaf hk]
      split
      · rename_i hi
        simp only [idxV, Bool.and_eq_true, decide_eq_true_eq] at hi
        refine hnum L _ e h hi.2 ?_
        have h2 := h
        rw [exV, Bool.and_eq_true, Bool.and_eq_true] at h2
        have h3 := (fld_aff h2.1.2).1 hi.1.1
        rw [bndV, Bool.and_eq_true] at h3
        exact (affV_const h3.1).2
      · rename_i hi
        exact hsame L e h hk (by simpa using hi)
theorem fold_ok {d L : Nat} {e : Ex} (h : exV d L e = true) : exV d L (foldE e) = true :=
  fold_ind (p := fun L _ X => exV d L X = true) (fun L n e _ h1 h2 => numE_ok ⟨h1, h2⟩) (fun L e h _ _ => h) (fun L e x y X _ _ _ h => exV_up h) (fun L e x y Y _ _ _ h => exV_up h) (fun L e x y _ hk _ h1 h2 _ => outE_ok hk h1 h2) h
theorem fold_cnt {d L : Nat} {e : Ex} (h : exV d L e = true) : cntE (foldE e) ≤ cntE e :=
  fold_ind (d := d) (p := fun L e X => cntE X ≤ cntE e) (fun L n e _ _ _ => cntE_pos e) (fun L e _ _ _ => Nat.le_refl _) (fun L e x y X _ _ hks h => by rw [cntE_eq e, hks, cntEs, cntEs, cntEs]; omega) (fun L e x y Y _ _ hks h => by rw [cntE_eq e, hks, cntEs, cntEs, cntEs]; omega)
    (fun L e x y _ _ hks h1 h2 _ => by rw [cntE_eq e, hks, cntE_eq (outE _ _ _)]; show 1 + cntEs [foldE x, foldE y] ≤ _; rw [cntEs, cntEs, cntEs, cntEs, cntEs, cntEs]; omega) h
def foldS (s : Stm) : Stm := (s.1, foldE s.2)
theorem foldS_ok {d : Int} {s : Stm} (h : stmtV d s = true) : stmtV d (foldS s) = true := by
  obtain ⟨h1, h2, h3, h4, h5⟩ := stmtV_ex h
  have := fold_cnt h1
  rw [stmtV, inB, decide_eq_true ⟨h4, h5⟩]
  show (true && (accV d.toNat s.1 && exV d.toNat 5 (foldE s.2) && decide (cntE (foldE s.2) ≤ 12))) = true
  rw [h2, fold_ok h1, decide_eq_true (by omega)]; rfl
theorem fold_fn {d : Nat} : ∀ {L : Nat} (e : Ex), exV d L e = true → Fn Try.prog 98 [] [ad (rX e)] (.o (ad (rX (foldE e)))) []
  | 0, e, h => by cases h
  | L + 1, e, h => by
    by_cases hk : 4 ≤ e.k ∧ e.k ≤ 6
    · obtain ⟨x, y, hks⟩ := op_two h hk
      have hx := (exV_kids h).2 x (by rw [hks]; simp)
      have hy := (exV_kids h).2 y (by rw [hks]; simp)
      rw [foldE_op hk hks]
      have b1 := exV_n (fold_ok hx)
      have b2 := exV_n (fold_ok hy)
      exact fold_op hk hks (fold_fn (L := L) x hx) (fold_fn (L := L) y hy) (by omega) (by omega)
    · rw [foldE_leaf hk]; exact fold_leaf hk
def foldT (s : Stm) : Stm × Bool := if stmtV 4 s = true then (foldS s, true) else (zS, false)
theorem foldT_yes {s : Stm} (h : stmtV 4 s = true) : foldT s = (foldS s, true) := if_pos h
theorem foldT_no {s : Stm} (h : stmtV 4 s = false) : foldT s = (zS, false) := if_neg (by rw [h]; decide)
/-- The number of a constant statement. -/
def cstT (s : Stm) : Int × Bool := if (stmtV 4 s && decide ((foldE s.2).k = 1)) = true then ((foldE s.2).n, true) else (0, false)

set_option maxRecDepth 100000 in
set_option maxHeartbeats 1600000 in
theorem folded_fn {s : Stm} (hs : szS s ≤ 1073741824) (hv : stmtV 4 s = true) : Fn Try.prog 103 [] [ad (rS s)] (.o (ad (rS (foldS s)))) [] := by
  have hid := mapS_id hv
  refine Fn.code0 Try.func103 rfl rfl rfl rfl ?_
  refine ACode.seq ?_
  refine ACode.region ?_
  refine .cons (St1.boxP rfl rfl rfl rfl rfl rfl) ?_
  refine .cons (.al 102 [.string ByteArray.empty, .slice none 0 0, .int .i64 0, .int .i64 0, .slice none 0 0, .int .i64 0, .string ByteArray.empty, .slice none 0 0, .slice none 0 0] rfl rfl rfl) ?_
  refine .nil ?_
  refine ks_n ?_
  refine ACode.seq ?_
  refine ACode.region ?_
  refine .cons (.lN 9 rfl rfl rfl) ?_
  refine .cons (.cP [.tmp 4] rfl rfl rfl rfl (hid ▸ ownStmt_fn s hs) rfl) ?_
  refine .cons (.al 103 [.string ByteArray.empty, .slice none 0 0, .int .i64 0, .int .i64 0, .slice none 0 0, .int .i64 0, .string ByteArray.empty, .slice none 0 0, .slice none 0 0] rfl rfl rfl) ?_
  refine .cons (.sT 9 true rfl rfl rfl rfl rfl rfl rfl) ?_
  refine .nil ?_
  refine ks_n ?_
  refine ACode.seq ?_
  refine ACode.region ?_
  refine .cons (.fB 2 6 true rfl rfl rfl) ?_
  refine .cons (.bN 7 rfl rfl rfl rfl rfl rfl) ?_
  refine .cons (.cP [.tmp 7] rfl rfl rfl rfl (fold_fn (d := 4) (L := 5) s.2 (stmtV_ex hv).1) rfl) ?_
  refine .cons (.fB 2 6 true rfl rfl rfl) ?_
  refine .cons (.sT 7 true rfl rfl rfl rfl rfl rfl rfl) ?_
  refine .nil ?_
  refine ks_n ?_
  refine ACode.seq ?_
  refine ACode.region ?_
  refine .cons (.bN 9 rfl rfl rfl rfl rfl rfl) ?_
  refine .cons (.sT 9 true rfl rfl rfl rfl rfl rfl rfl) ?_
  refine .nil ?_
  refine ks_n ?_
  refine ACode.ret ?_
  refine kf_ret rfl ?_ nobox
  rfl

set_option maxRecDepth 100000 in
set_option maxHeartbeats 1600000 in
theorem implFold_fn (s : Stm) (hs : szS s ≤ 1073741824) : Fn Try.prog 46 [] [ad (rS s)] (.tup [ad (rS (foldT s).1), bo1 (foldT s).2]) [] := by
  refine Fn.code0 Try.func46 rfl rfl rfl rfl ?_
  refine ACode.seq ?_
  refine ACode.region ?_
  refine .cons (St1.boxP rfl rfl rfl rfl rfl rfl) ?_
  refine .cons (.al 102 [.string ByteArray.empty, .slice none 0 0, .int .i64 0, .int .i64 0, .slice none 0 0, .int .i64 0, .string ByteArray.empty, .slice none 0 0, .slice none 0 0] rfl rfl rfl) ?_
  refine .cons (.asg rfl rfl) ?_
  refine .nil ?_
  refine ks_n ?_
  refine ACode.seq ?_
  refine ACode.seq ?_
  refine ACode.region ?_
  refine .cons (.lN 9 rfl rfl rfl) ?_
  refine .cons (.cP [.tmp 4] rfl rfl rfl rfl (isStmt_fn s (by omega)) rfl) ?_
  refine .cons (.nt rfl rfl) ?_
  refine .nil ?_
  refine ks_n ?_
  refine ACode.condT rfl (fun h6 => ?_) (fun h6 => ?_)
  · try simp only [List.length_map, decide_eq_true_eq, decide_eq_false_iff_not, Bool.not_eq_true', Bool.not_eq_false', Bool.not_eq_true, Bool.not_eq_false] at h6
    refine ACode.seq ?_
    refine ACode.region ?_
    refine .cons (.bu [] [(0, 2), (2, 7)] [.string ByteArray.empty, .slice none 0 0, .int .i64 0, .int .i64 0, .slice none 0 0, .int .i64 0, .string ByteArray.empty, .slice none 0 0, .slice none 0 0] rfl rfl rfl rfl rfl) ?_
    refine .cons (.sT 9 true rfl rfl rfl rfl rfl rfl rfl) ?_
    refine .cons (.asg rfl rfl) ?_
    refine .nil ?_
    refine ks_n ?_
    refine ACode.ret ?_
    refine ks_r ?_
    refine kf_wret [(.t 2, .v (.o (.c (.box 100 9 0 0)))), (.t 3, .v (.o (bo1 false))), (.b 100, .b 33 9 [[.d (dS ByteArray.empty), .d (dAs []), .d (dI 0), .d (dI 0), .d (dIs []), .d (dI 0), .d (dS ByteArray.empty), .d (dAs []), .d (dEs [])]]), (.u 100, .u)] (Wk.keep [(100, 102)] rfl rfl ⟨ks rfl (.c .bx), ks rfl .dt, kb 102 rfl (.cons (.cons .dt (.cons (Cto.nil _) (.cons .dt (.cons .dt (.cons (Cto.nil _) (.cons .dt (.cons .dt (.cons (Cto.nil _) (.cons (Cto.nil _) Ctos.nil))))))))) .nil), trivial⟩) rfl ?_ nobox
    rw [foldT_no h6]; rfl
  · try simp only [List.length_map, decide_eq_true_eq, decide_eq_false_iff_not, Bool.not_eq_true', Bool.not_eq_false', Bool.not_eq_true, Bool.not_eq_false] at h6
    refine ACode.skip ?_
    refine ks_n ?_
    refine ACode.seq ?_
    refine ACode.region ?_
    refine .cons (.lN 9 rfl rfl rfl) ?_
    refine .cons (.cP [.tmp 8] rfl rfl rfl rfl (folded_fn hs h6) rfl) ?_
    refine .cons (.sT 9 true rfl rfl rfl rfl rfl rfl rfl) ?_
    refine .cons (.asg rfl rfl) ?_
    refine .nil ?_
    refine ks_n ?_
    refine ACode.ret ?_
    refine kf_ret rfl ?_ nobox
    rw [foldT_yes h6]; rfl

set_option maxRecDepth 100000 in
set_option maxHeartbeats 1600000 in
theorem implConst_fn (s : Stm) (hs : szS s ≤ 1073741824) : Fn Try.prog 41 [] [ad (rS s)] (.tup [nat1 (cstT s).1, bo1 (cstT s).2]) [] := by
  refine Fn.code0 Try.func41 rfl rfl rfl rfl ?_
  refine ACode.seq ?_
  refine ACode.region ?_
  refine .cons (St1.boxP rfl rfl rfl rfl rfl rfl) ?_
  refine .cons (.asg rfl rfl) ?_
  refine .cons (.asg rfl rfl) ?_
  refine .nil ?_
  refine ks_n ?_
  refine ACode.seq ?_
  refine ACode.seq ?_
  refine ACode.region ?_
  refine .cons (.lN 9 rfl rfl rfl) ?_
  refine .cons (.cP [.tmp 5] rfl rfl rfl rfl (isStmt_fn s (by omega)) rfl) ?_
  refine .cons (.nt rfl rfl) ?_
  refine .nil ?_
  refine ks_n ?_
  refine ACode.condT rfl (fun h7 => ?_) (fun h7 => ?_)
  · try simp only [List.length_map, decide_eq_true_eq, decide_eq_false_iff_not, Bool.not_eq_true', Bool.not_eq_false', Bool.not_eq_true, Bool.not_eq_false] at h7
    refine ACode.seq ?_
    refine ACode.region ?_
    refine .cons (.asg rfl rfl) ?_
    refine .cons (.asg rfl rfl) ?_
    refine .nil ?_
    refine ks_n ?_
    refine ACode.ret ?_
    refine ks_r ?_
    refine kf_ret rfl ?_ nobox
    rw [cstT]; first | (rw [if_neg (by simp [*])]; rfl) | (rw [if_pos (by simp [*])]; rfl)
  · try simp only [List.length_map, decide_eq_true_eq, decide_eq_false_iff_not, Bool.not_eq_true', Bool.not_eq_false', Bool.not_eq_true, Bool.not_eq_false] at h7
    refine ACode.skip ?_
    refine ks_n ?_
    refine ACode.seq ?_
    refine ACode.region ?_
    refine .cons (.fP 2 6 true rfl rfl) ?_
    refine .cons (.lN 7 rfl rfl rfl) ?_
    refine .cons (.cP [.tmp 9] rfl rfl rfl rfl (fold_fn (d := 4) (L := 5) s.2 (stmtV_ex h7).1) rfl) ?_
    refine .cons (.al 104 [.int .i64 0, .int .i64 0, .slice none 0 0, .int .i64 0, .string ByteArray.empty, .slice none 0 0, .slice none 0 0] rfl rfl rfl) ?_
    refine .cons (.sT 7 true rfl rfl rfl rfl rfl rfl rfl) ?_
    refine .nil ?_
    refine ks_n ?_
    refine ACode.seq ?_
    refine ACode.seq ?_
    refine ACode.region ?_
    refine .cons (.fB 0 0 false rfl rfl rfl) ?_
    refine .cons (.b1 1 rfl rfl rfl rfl rfl rfl) ?_
    refine .cons (.ne rfl rfl rfl) ?_
    refine .nil ?_
    refine ks_n ?_
    refine .cND rfl (fun h13 => ?_) (fun h13 => ?_)
    · skip
      refine ACode.seq ?_
      refine ACode.region ?_
      refine .cons (.asg rfl rfl) ?_
      refine .cons (.asg rfl rfl) ?_
      refine .nil ?_
      refine ks_n ?_
      refine ACode.ret ?_
      refine ks_r ?_
      refine kf_ret rfl ?_ nobox
      rw [cstT]; first | (rw [if_neg (by simp [*])]; rfl) | (rw [if_pos (by simp [*])]; rfl)
    · skip
      refine ACode.skip ?_
      refine ks_n ?_
      refine ACode.seq ?_
      refine ACode.region ?_
      refine .cons (.fB 1 0 false rfl rfl rfl) ?_
      refine .cons (.b1 1 rfl rfl rfl rfl rfl rfl) ?_
      refine .cons (.asg rfl rfl) ?_
      refine .cons (.asg rfl rfl) ?_
      refine .nil ?_
      refine ks_n ?_
      refine ACode.ret ?_
      refine kf_ret rfl ?_ nobox
      rw [cstT]; first | (rw [if_neg (by simp [*])]; rfl) | (rw [if_pos (by simp [*])]; rfl)

set_option maxRecDepth 100000 in
set_option maxHeartbeats 1600000 in
theorem l13Two_fn {e : Ex} {a b : Int} (hk : 4 ≤ e.k ∧ e.k ≤ 6) (ha : -1000 ≤ a ∧ a ≤ 1000) (hb : -1000 ≤ b ∧ b ≤ 1000) : Fn Try.prog 162 [] [ad (rX e), nat1 a, nat1 b] (.o (ad (rX (if inB (valN e.k a b) 0 99 = true then numE (valN e.k a b) else e)))) [] := by
  have hm := inB_mul ha hb
  refine Fn.code0 Try.func162 rfl rfl rfl rfl ?_
  refine ACode.seq ?_
  refine ACode.region ?_
  refine .cons (St1.boxP rfl rfl rfl rfl rfl rfl) ?_
  refine .cons (.al 106 [.int .i64 0, .int .i64 0, .slice none 0 0, .int .i64 0, .string ByteArray.empty, .slice none 0 0, .slice none 0 0] rfl rfl rfl) ?_
  refine .nil ?_
  refine ks_n ?_
  refine ACode.seq ?_
  refine ACode.region ?_
  refine .cons (.mv rfl rfl) ?_
  refine .cons (.mv rfl rfl) ?_
  refine .cons (.ml rfl rfl rfl) ?_
  refine .cons (.asg rfl rfl) ?_
  refine .nil ?_
  refine ks_n ?_
  refine ACode.seq ?_
  refine ACode.cut [(.t 3, .v (.o (.c (.ptr (rX e))))), (.t 6, .v (.o (.c (.box 820 7 0 0)))), (.t 7, .v (.o (nat1 (valN e.k a b)))), (.b 820, .b 31 7 [[.d (dI 0), .d (dI 0), .d (.val (.slice none 0 0)), .d (dI 0), .d (dS ByteArray.empty), .d (.val (.slice none 0 0)), .d (.val (.slice none 0 0))]]), (.u 820, .u)] ?_ ?_
  · skip
    refine ACode.seq ?_
    refine ACode.region ?_
    refine .cons (.fP 0 0 false rfl rfl) ?_
    refine .cons (.l1 1 rfl rfl) ?_
    refine .nil ?_
    refine ks_n ?_
    refine ACode.block ?_
    refine ACode.seq ?_
    refine ACode.region ?_
    refine .cons (.eq rfl rfl rfl) ?_
    refine .cons (.asg rfl rfl) ?_
    refine .nil ?_
    refine ks_n ?_
    refine .cD rfl (fun h13 => ?_) (fun h13 => ?_)
    · skip
      refine ACode.region ?_
      refine .cons (.mv rfl rfl) ?_
      refine .cons (.mv rfl rfl) ?_
      refine .cons (.pl rfl rfl rfl) ?_
      refine .cons (.asg rfl rfl) ?_
      refine .nil ?_
      refine kb_n ?_
      exact kc_n (Wk.keep [(820, 106)] rfl rfl ⟨ks rfl .dt, ks rfl (.c .bx), ks rfl (.dt (vI (by rw [valN]; first | (rw [if_pos (by assumption)]; done) | (rw [if_neg (by omega), if_neg (by omega)]; done) | (rw [if_neg (by assumption), if_pos (by omega)])))), kb 106 rfl (.cons (.cons .dt (.cons .dt (.cons .dt (.cons .dt (.cons .dt (.cons .dt (.cons .dt Ctos.nil))))))) .nil), trivial⟩)
    · skip
      refine ACode.seq ?_
      refine ACode.region ?_
      refine .cons (.eq rfl rfl rfl) ?_
      refine .cons (.asg rfl rfl) ?_
      refine .nil ?_
      refine ks_n ?_
      refine .cD rfl (fun h18 => ?_) (fun h18 => ?_)
      · skip
        refine ACode.region ?_
        refine .cons (.mv rfl rfl) ?_
        refine .cons (.mv rfl rfl) ?_
        refine .cons (.sb rfl rfl rfl) ?_
        refine .cons (.asg rfl rfl) ?_
        refine .nil ?_
        refine kb_n ?_
        exact kc_n (Wk.keep [(820, 106)] rfl rfl ⟨ks rfl .dt, ks rfl (.c .bx), ks rfl (.dt (vI (by rw [valN]; first | (rw [if_pos (by assumption)]; done) | (rw [if_neg (by omega), if_neg (by omega)]; done) | (rw [if_neg (by assumption), if_pos (by omega)])))), kb 106 rfl (.cons (.cons .dt (.cons .dt (.cons .dt (.cons .dt (.cons .dt (.cons .dt (.cons .dt Ctos.nil))))))) .nil), trivial⟩)
      · skip
        refine ACode.skip ?_
        refine kb_n ?_
        exact kc_n (Wk.keep [(820, 106)] rfl rfl ⟨ks rfl .dt, ks rfl (.c .bx), ks rfl (.dt (vI (by rw [valN]; first | (rw [if_pos (by assumption)]; done) | (rw [if_neg (by omega), if_neg (by omega)]; done) | (rw [if_neg (by assumption), if_pos (by omega)])))), kb 106 rfl (.cons (.cons .dt (.cons .dt (.cons .dt (.cons .dt (.cons .dt (.cons .dt (.cons .dt Ctos.nil))))))) .nil), trivial⟩)
  refine ks_n ?_
  refine ACode.seq ?_
  refine ACode.seq ?_
  refine ACode.cut [(.t 3, .v (.o (.c (.ptr (rX e))))), (.t 6, .v (.o (.c (.box 870 7 0 0)))), (.t 7, .v (.o (nat1 (valN e.k a b)))), (.t 28, .v (.o (bo1 (!inB (valN e.k a b) 0 99)))), (.b 870, .b 31 7 [[.d (dI 0), .d (dI 0), .d (.val (.slice none 0 0)), .d (dI 0), .d (dS ByteArray.empty), .d (.val (.slice none 0 0)), .d (.val (.slice none 0 0))]]), (.u 870, .u)] ?_ ?_
  · skip
    refine ACode.region ?_
    refine .cons (.mv rfl rfl) ?_
    refine .cons (.ls rfl rfl rfl) ?_
    refine .cons (.mv rfl rfl) ?_
    refine .cD 25 rfl (fun g25 => ?_) (fun g25 => ?_)
    · skip
      refine .cons (.gF rfl rfl rfl) ?_
      refine .cons (.gF rfl rfl rfl) ?_
      refine .cons (.pT rfl rfl rfl) ?_
      refine .nil ?_
      exact kc_n (Wk.keep [(870, 820)] rfl rfl ⟨ks rfl .dt, ks rfl (.c .bx), ks rfl .dt, ks rfl (.dt (vB (by rw [inB]; first | rfl | grind))), kb 820 rfl (.cons (.cons .dt (.cons .dt (.cons .dt (.cons .dt (.cons .dt (.cons .dt (.cons .dt Ctos.nil))))))) .nil), trivial⟩)
    · skip
      refine .cons (.gT rfl rfl rfl (.mv rfl rfl)) ?_
      refine .cons (.gT rfl rfl rfl (.gt rfl rfl rfl)) ?_
      refine .cons (.pF rfl rfl rfl) ?_
      refine .nil ?_
      exact kc_n (Wk.keep [(870, 820)] rfl rfl ⟨ks rfl .dt, ks rfl (.c .bx), ks rfl .dt, ks rfl (.dt (vB (by rw [inB]; first | rfl | grind))), kb 820 rfl (.cons (.cons .dt (.cons .dt (.cons .dt (.cons .dt (.cons .dt (.cons .dt (.cons .dt Ctos.nil))))))) .nil), trivial⟩)
  refine ks_n ?_
  refine ACode.condT rfl (fun h28 => ?_) (fun h28 => ?_)
  · try simp only [List.length_map, decide_eq_true_eq, decide_eq_false_iff_not, Bool.not_eq_true', Bool.not_eq_false', Bool.not_eq_true, Bool.not_eq_false] at h28
    refine ACode.seq ?_
    refine ACode.region ?_
    refine .cons (.lN 7 rfl rfl rfl) ?_
    refine .cons (.sT 7 true rfl rfl rfl rfl rfl rfl rfl) ?_
    refine .nil ?_
    refine ks_n ?_
    refine ACode.ret ?_
    refine ks_r ?_
    refine kf_ret rfl ?_ nobox
    rw [if_neg (by rw [h28]; decide)]; rfl
  · try simp only [List.length_map, decide_eq_true_eq, decide_eq_false_iff_not, Bool.not_eq_true', Bool.not_eq_false', Bool.not_eq_true, Bool.not_eq_false] at h28
    refine ACode.skip ?_
    refine ks_n ?_
    refine ACode.seq ?_
    refine ACode.region ?_
    refine .cons (.mv rfl rfl) ?_
    refine .cons (.cP [.tmp 30] rfl rfl rfl rfl (l13Num_fn _) rfl) ?_
    refine .cons (.sT 7 true rfl rfl rfl rfl rfl rfl rfl) ?_
    refine .nil ?_
    refine ks_n ?_
    refine ACode.ret ?_
    refine kf_ret rfl ?_ nobox
    rw [if_pos h28]; rfl

set_option maxRecDepth 100000 in
set_option maxHeartbeats 1600000 in
theorem node_leaf {e : Ex} (hks : e.ks = []) : Fn Try.prog 148 [] [ad (rX e)] (.o (ad (rX (if idxV e = true then numE e.i.2 else e)))) [] := by
  refine Fn.code0 Try.func148 rfl rfl rfl rfl ?_
  refine ACode.seq ?_
  refine ACode.region ?_
  refine .cons (St1.boxP rfl rfl rfl rfl rfl rfl) ?_
  refine .cons (.al 102 [.int .i64 0, .int .i64 0, .slice none 0 0, .int .i64 0, .string ByteArray.empty, .slice none 0 0, .slice none 0 0] rfl rfl rfl) ?_
  refine .nil ?_
  refine ks_n ?_
  refine ACode.seq ?_
  refine ACode.seq ?_
  refine ACode.cut [(.t 1, .v (.o (.c (.ptr (rX e))))), (.t 2, .v (.o (.c (.box 810 7 0 0)))), (.t 19, .v (.o (bo1 (idxV e)))), (.b 810, .b 31 7 [[.d (dI 0), .d (dI 0), .d (.val (.slice none 0 0)), .d (dI 0), .d (dS ByteArray.empty), .d (.val (.slice none 0 0)), .d (.val (.slice none 0 0))]]), (.u 810, .u)] ?_ ?_
  · skip
    refine ACode.region ?_
    refine .cons (.fP 0 0 false rfl rfl) ?_
    refine .cons (.l1 1 rfl rfl) ?_
    refine .cons (.eq rfl rfl rfl) ?_
    refine .cons (.mv rfl rfl) ?_
    refine .cD 8 rfl (fun g8 => ?_) (fun g8 => ?_)
    · skip
      refine .cons (.gT rfl rfl rfl (.fP 2 1 true rfl rfl)) ?_
      refine .cons (.gT rfl rfl rfl (.lN 2 rfl rfl rfl)) ?_
      refine .cons (.gT rfl rfl rfl (.cP [.tmp 10] rfl rfl rfl rfl (l1Depth_fn _) rfl)) ?_
      refine .cons (.gT rfl rfl rfl (.eq rfl rfl rfl)) ?_
      refine .cons (.pT rfl rfl rfl) ?_
      refine .cons (.mv rfl rfl) ?_
      refine AOps.cases 14 _ rfl (fun g14 => ?_) (fun g14 => ?_)
      · try simp only [List.length_map, decide_eq_true_eq, decide_eq_false_iff_not, Bool.not_eq_true', Bool.not_eq_false', Bool.not_eq_true, Bool.not_eq_false] at g14
        refine .cons (.gT rfl rfl rfl (.fP 2 1 true rfl rfl)) ?_
        refine .cons (.gT rfl rfl rfl (.fP 1 0 false rfl rfl)) ?_
        refine .cons (.gT rfl rfl rfl (.l1 1 rfl rfl)) ?_
        refine .cons (.gT rfl rfl rfl (.ge rfl rfl rfl)) ?_
        refine .cons (.pT rfl rfl rfl) ?_
        refine .nil ?_
        exact kc_n (Wk.keep [(810, 102)] rfl rfl ⟨ks rfl .dt, ks rfl (.c .bx), ks rfl (.dt (vB (by rw [idxV]; first | rfl | (simp [*]; done) | grind))), kb 102 rfl (.cons (.cons .dt (.cons .dt (.cons .dt (.cons .dt (.cons .dt (.cons .dt (.cons .dt Ctos.nil))))))) .nil), trivial⟩)
      · try simp only [List.length_map, decide_eq_true_eq, decide_eq_false_iff_not, Bool.not_eq_true', Bool.not_eq_false', Bool.not_eq_true, Bool.not_eq_false] at g14
        refine .cons (.gF rfl rfl rfl) ?_
        refine .cons (.gF rfl rfl rfl) ?_
        refine .cons (.gF rfl rfl rfl) ?_
        refine .cons (.gF rfl rfl rfl) ?_
        refine .cons (.pF rfl rfl rfl) ?_
        refine .nil ?_
        exact kc_n (Wk.keep [(810, 102)] rfl rfl ⟨ks rfl .dt, ks rfl (.c .bx), ks rfl (.dt (vB (by rw [idxV]; first | rfl | (simp [*]; done) | grind))), kb 102 rfl (.cons (.cons .dt (.cons .dt (.cons .dt (.cons .dt (.cons .dt (.cons .dt (.cons .dt Ctos.nil))))))) .nil), trivial⟩)
    · skip
      refine .cons (.gF rfl rfl rfl) ?_
      refine .cons (.gF rfl rfl rfl) ?_
      refine .cons (.gF rfl rfl rfl) ?_
      refine .cons (.gF rfl rfl rfl) ?_
      refine .cons (.pF rfl rfl rfl) ?_
      refine .cons (.mv rfl rfl) ?_
      refine .cons (.gF rfl rfl rfl) ?_
      refine .cons (.gF rfl rfl rfl) ?_
      refine .cons (.gF rfl rfl rfl) ?_
      refine .cons (.gF rfl rfl rfl) ?_
      refine .cons (.pF rfl rfl rfl) ?_
      refine .nil ?_
      exact kc_n (Wk.keep [(810, 102)] rfl rfl ⟨ks rfl .dt, ks rfl (.c .bx), ks rfl (.dt (vB (by rw [idxV]; first | rfl | (simp [*]; done) | grind))), kb 102 rfl (.cons (.cons .dt (.cons .dt (.cons .dt (.cons .dt (.cons .dt (.cons .dt (.cons .dt Ctos.nil))))))) .nil), trivial⟩)
  refine ks_n ?_
  refine ACode.condT rfl (fun h19 => ?_) (fun h19 => ?_)
  · try simp only [List.length_map, decide_eq_true_eq, decide_eq_false_iff_not, Bool.not_eq_true', Bool.not_eq_false', Bool.not_eq_true, Bool.not_eq_false] at h19
    refine ACode.seq ?_
    refine ACode.region ?_
    refine .cons (.fP 2 1 true rfl rfl) ?_
    refine .cons (.fP 1 0 false rfl rfl) ?_
    refine .cons (.l1 1 rfl rfl) ?_
    refine .cons (.cP [.tmp 22] rfl rfl rfl rfl (l13Num_fn _) rfl) ?_
    refine .cons (.sT 7 true rfl rfl rfl rfl rfl rfl rfl) ?_
    refine .nil ?_
    refine ks_n ?_
    refine ACode.ret ?_
    refine ks_r ?_
    refine kf_ret rfl ?_ nobox
    rw [if_pos h19]; rfl
  · try simp only [List.length_map, decide_eq_true_eq, decide_eq_false_iff_not, Bool.not_eq_true', Bool.not_eq_false', Bool.not_eq_true, Bool.not_eq_false] at h19
    refine ACode.skip ?_
    refine ks_n ?_
    refine ACode.seq ?_
    refine ACode.seq ?_
    refine ACode.region ?_
    refine .cons (.fP 6 0 false rfl rfl) ?_
    refine .cons (.l1 1 rfl rfl) ?_
    refine .cons (.ln 31 7 112 rfl rfl rfl) ?_
    refine .cons (.eq rfl rfl rfl) ?_
    refine .nil ?_
    refine ks_n ?_
    refine .cD rfl (fun h27 => ?_) (fun h27 => ?_)
    · skip
      refine ACode.seq ?_
      refine ACode.region ?_
      refine .cons (.lN 7 rfl rfl rfl) ?_
      refine .cons (.sT 7 true rfl rfl rfl rfl rfl rfl rfl) ?_
      refine .nil ?_
      refine ks_n ?_
      refine ACode.ret ?_
      refine ks_r ?_
      refine kf_ret rfl ?_ nobox
      rw [if_neg (by rw [h19]; decide)]; rfl
    · skip
      exact absurd (by rw [hks]; rfl) h27

set_option maxRecDepth 100000 in
set_option maxHeartbeats 1600000 in
theorem node_op {e X Y : Ex} (hk : 4 ≤ e.k ∧ e.k ≤ 6) (hks : e.ks = [X, Y]) (hX : -1000 ≤ X.n ∧ X.n ≤ 1000) (hY : -1000 ≤ Y.n ∧ Y.n ≤ 1000) : Fn Try.prog 148 [] [ad (rX e)] (.o (ad (rX (foldN e X Y)))) [] := by
  refine Fn.code0 Try.func148 rfl rfl rfl rfl ?_
  refine ACode.seq ?_
  refine ACode.region ?_
  refine .cons (St1.boxP rfl rfl rfl rfl rfl rfl) ?_
  refine .cons (.al 102 [.int .i64 0, .int .i64 0, .slice none 0 0, .int .i64 0, .string ByteArray.empty, .slice none 0 0, .slice none 0 0] rfl rfl rfl) ?_
  refine .nil ?_
  refine ks_n ?_
  refine ACode.seq ?_
  refine ACode.seq ?_
  refine ACode.cut [(.t 1, .v (.o (.c (.ptr (rX e))))), (.t 2, .v (.o (.c (.box 810 7 0 0)))), (.t 19, .v (.o (bo1 (idxV e)))), (.b 810, .b 31 7 [[.d (dI 0), .d (dI 0), .d (.val (.slice none 0 0)), .d (dI 0), .d (dS ByteArray.empty), .d (.val (.slice none 0 0)), .d (.val (.slice none 0 0))]]), (.u 810, .u)] ?_ ?_
  · skip
    refine ACode.region ?_
    refine .cons (.fP 0 0 false rfl rfl) ?_
    refine .cons (.l1 1 rfl rfl) ?_
    refine .cons (.eq rfl rfl rfl) ?_
    refine .cons (.mv rfl rfl) ?_
    refine .cD 8 rfl (fun g8 => ?_) (fun g8 => ?_)
    · skip
      refine .cons (.gT rfl rfl rfl (.fP 2 1 true rfl rfl)) ?_
      refine .cons (.gT rfl rfl rfl (.lN 2 rfl rfl rfl)) ?_
      refine .cons (.gT rfl rfl rfl (.cP [.tmp 10] rfl rfl rfl rfl (l1Depth_fn _) rfl)) ?_
      refine .cons (.gT rfl rfl rfl (.eq rfl rfl rfl)) ?_
      refine .cons (.pT rfl rfl rfl) ?_
      refine .cons (.mv rfl rfl) ?_
      refine AOps.cases 14 _ rfl (fun g14 => ?_) (fun g14 => ?_)
      · try simp only [List.length_map, decide_eq_true_eq, decide_eq_false_iff_not, Bool.not_eq_true', Bool.not_eq_false', Bool.not_eq_true, Bool.not_eq_false] at g14
        refine .cons (.gT rfl rfl rfl (.fP 2 1 true rfl rfl)) ?_
        refine .cons (.gT rfl rfl rfl (.fP 1 0 false rfl rfl)) ?_
        refine .cons (.gT rfl rfl rfl (.l1 1 rfl rfl)) ?_
        refine .cons (.gT rfl rfl rfl (.ge rfl rfl rfl)) ?_
        refine .cons (.pT rfl rfl rfl) ?_
        refine .nil ?_
        exact kc_n (Wk.keep [(810, 102)] rfl rfl ⟨ks rfl .dt, ks rfl (.c .bx), ks rfl (.dt (vB (by rw [idxV]; first | rfl | (simp [*]; done) | grind))), kb 102 rfl (.cons (.cons .dt (.cons .dt (.cons .dt (.cons .dt (.cons .dt (.cons .dt (.cons .dt Ctos.nil))))))) .nil), trivial⟩)
      · try simp only [List.length_map, decide_eq_true_eq, decide_eq_false_iff_not, Bool.not_eq_true', Bool.not_eq_false', Bool.not_eq_true, Bool.not_eq_false] at g14
        refine .cons (.gF rfl rfl rfl) ?_
        refine .cons (.gF rfl rfl rfl) ?_
        refine .cons (.gF rfl rfl rfl) ?_
        refine .cons (.gF rfl rfl rfl) ?_
        refine .cons (.pF rfl rfl rfl) ?_
        refine .nil ?_
        exact kc_n (Wk.keep [(810, 102)] rfl rfl ⟨ks rfl .dt, ks rfl (.c .bx), ks rfl (.dt (vB (by rw [idxV]; first | rfl | (simp [*]; done) | grind))), kb 102 rfl (.cons (.cons .dt (.cons .dt (.cons .dt (.cons .dt (.cons .dt (.cons .dt (.cons .dt Ctos.nil))))))) .nil), trivial⟩)
    · skip
      refine .cons (.gF rfl rfl rfl) ?_
      refine .cons (.gF rfl rfl rfl) ?_
      refine .cons (.gF rfl rfl rfl) ?_
      refine .cons (.gF rfl rfl rfl) ?_
      refine .cons (.pF rfl rfl rfl) ?_
      refine .cons (.mv rfl rfl) ?_
      refine .cons (.gF rfl rfl rfl) ?_
      refine .cons (.gF rfl rfl rfl) ?_
      refine .cons (.gF rfl rfl rfl) ?_
      refine .cons (.gF rfl rfl rfl) ?_
      refine .cons (.pF rfl rfl rfl) ?_
      refine .nil ?_
      exact kc_n (Wk.keep [(810, 102)] rfl rfl ⟨ks rfl .dt, ks rfl (.c .bx), ks rfl (.dt (vB (by rw [idxV]; first | rfl | (simp [*]; done) | grind))), kb 102 rfl (.cons (.cons .dt (.cons .dt (.cons .dt (.cons .dt (.cons .dt (.cons .dt (.cons .dt Ctos.nil))))))) .nil), trivial⟩)
  refine ks_n ?_
  refine ACode.condT rfl (fun h19 => ?_) (fun h19 => ?_)
  · try simp only [List.length_map, decide_eq_true_eq, decide_eq_false_iff_not, Bool.not_eq_true', Bool.not_eq_false', Bool.not_eq_true, Bool.not_eq_false] at h19
    exact absurd (h19.symm.trans (idxV_no (by omega))) (by decide)
  · try simp only [List.length_map, decide_eq_true_eq, decide_eq_false_iff_not, Bool.not_eq_true', Bool.not_eq_false', Bool.not_eq_true, Bool.not_eq_false] at h19
    refine ACode.skip ?_
    refine ks_n ?_
    refine ACode.seq ?_
    refine ACode.seq ?_
    refine ACode.region ?_
    refine .cons (.fP 6 0 false rfl rfl) ?_
    refine .cons (.l1 1 rfl rfl) ?_
    refine .cons (.ln 31 7 112 rfl rfl rfl) ?_
    refine .cons (.eq rfl rfl rfl) ?_
    refine .nil ?_
    refine ks_n ?_
    refine .cD rfl (fun h27 => ?_) (fun h27 => ?_)
    · skip
      exact absurd h27 (by rw [hks]; simp)
    · skip
      refine ACode.skip ?_
      refine ks_n ?_
      refine ACode.seq ?_
      refine ACode.region ?_
      refine .cons (.fP 6 0 false rfl rfl) ?_
      refine .cons (.l1 1 rfl rfl) ?_
      refine .cons (.xL 31 7 112 (i := 0) rfl rfl rfl rfl rfl (by rw [hks]; exact rE_at rfl)) ?_
      refine .cons (.lN 7 rfl rfl rfl) ?_
      refine .cons (.al 103 [.int .i64 0, .int .i64 0, .slice none 0 0, .int .i64 0, .string ByteArray.empty, .slice none 0 0, .slice none 0 0] rfl rfl rfl) ?_
      refine .cons (.sT 7 true rfl rfl rfl rfl rfl rfl rfl) ?_
      refine .nil ?_
      refine ks_n ?_
      refine ACode.seq ?_
      refine ACode.region ?_
      refine .cons (.fP 6 0 false rfl rfl) ?_
      refine .cons (.l1 1 rfl rfl) ?_
      refine .cons (.xL 31 7 112 (i := 1) rfl rfl rfl rfl rfl (by rw [hks]; exact rE_at rfl)) ?_
      refine .cons (.lN 7 rfl rfl rfl) ?_
      refine .cons (.al 104 [.int .i64 0, .int .i64 0, .slice none 0 0, .int .i64 0, .string ByteArray.empty, .slice none 0 0, .slice none 0 0] rfl rfl rfl) ?_
      refine .cons (.sT 7 true rfl rfl rfl rfl rfl rfl rfl) ?_
      refine .nil ?_
      refine ks_n ?_
      refine ACode.seq ?_
      refine ACode.block ?_
      refine ACode.seq ?_
      refine ACode.cut [(.t 1, .v (.o (.c (.ptr (rX e))))), (.t 2, .v (.o (.c (.box 870 7 0 0)))), (.t 3, .v (.o (.c (.box 871 7 0 0)))), (.t 4, .v (.o (.c (.box 872 7 0 0)))), (.t 37, .v (.o (bo1 ((decide (X.k = 1) && decide (Y.k = 1)))))), (.b 870, .b 31 7 [[.d (dI 0), .d (dI 0), .d (.val (.slice none 0 0)), .d (dI 0), .d (dS ByteArray.empty), .d (.val (.slice none 0 0)), .d (.val (.slice none 0 0))]]), (.u 870, .u), (.b 871, .b 31 7 (dR ([rX X]))), (.u 871, .u), (.b 872, .b 31 7 (dR ([rX Y]))), (.u 872, .u)] ?_ ?_
      · skip
        refine ACode.region ?_
        refine .cons (.fB 0 0 false rfl rfl rfl) ?_
        refine .cons (.b1 1 rfl rfl rfl rfl rfl rfl) ?_
        refine .cons (.eq rfl rfl rfl) ?_
        refine .cons (.mv rfl rfl) ?_
        refine .cD 41 rfl (fun g41 => ?_) (fun g41 => ?_)
        · skip
          refine .cons (.gT rfl rfl rfl (.fB 0 0 false rfl rfl rfl)) ?_
          refine .cons (.gT rfl rfl rfl (.b1 1 rfl rfl rfl rfl rfl rfl)) ?_
          refine .cons (.gT rfl rfl rfl (.eq rfl rfl rfl)) ?_
          refine .cons (.pT rfl rfl rfl) ?_
          refine .cons (.asg rfl rfl) ?_
          refine .nil ?_
          exact kc_n (Wk.keep [(870, 810), (871, 103), (872, 104)] rfl rfl ⟨ks rfl .dt, ks rfl (.c .bx), ks rfl (.c .bx), ks rfl (.c .bx), ks rfl (.dt (vB (by first | rfl | (simp [*]; done) | grind))), kb 810 rfl (.cons (.cons .dt (.cons .dt (.cons .dt (.cons .dt (.cons .dt (.cons .dt (.cons .dt Ctos.nil))))))) .nil), kb 103 rfl (.dt rfl), kb 104 rfl (.dt rfl), trivial⟩)
        · skip
          refine .cons (.gF rfl rfl rfl) ?_
          refine .cons (.gF rfl rfl rfl) ?_
          refine .cons (.gF rfl rfl rfl) ?_
          refine .cons (.pF rfl rfl rfl) ?_
          refine .cons (.asg rfl rfl) ?_
          refine .nil ?_
          exact kc_n (Wk.keep [(870, 810), (871, 103), (872, 104)] rfl rfl ⟨ks rfl .dt, ks rfl (.c .bx), ks rfl (.c .bx), ks rfl (.c .bx), ks rfl (.dt (vB (by first | rfl | (simp [*]; done) | grind))), kb 810 rfl (.cons (.cons .dt (.cons .dt (.cons .dt (.cons .dt (.cons .dt (.cons .dt (.cons .dt Ctos.nil))))))) .nil), kb 103 rfl (.dt rfl), kb 104 rfl (.dt rfl), trivial⟩)
      refine ks_n ?_
      refine ACode.condT rfl (fun h37 => ?_) (fun h37 => ?_)
      · try simp only [List.length_map, decide_eq_true_eq, decide_eq_false_iff_not, Bool.not_eq_true', Bool.not_eq_false', Bool.not_eq_true, Bool.not_eq_false] at h37
        refine ACode.seq ?_
        refine ACode.region ?_
        refine .cons (.lN 7 rfl rfl rfl) ?_
        refine .cons (.fB 1 0 false rfl rfl rfl) ?_
        refine .cons (.b1 1 rfl rfl rfl rfl rfl rfl) ?_
        refine .cons (.fB 1 0 false rfl rfl rfl) ?_
        refine .cons (.b1 1 rfl rfl rfl rfl rfl rfl) ?_
        refine .cons (.cP [.tmp 46, .tmp 48, .tmp 50] rfl rfl rfl rfl (l13Two_fn hk hX hY) rfl) ?_
        refine .cons (.sT 7 true rfl rfl rfl rfl rfl rfl rfl) ?_
        refine .nil ?_
        refine ks_n ?_
        refine ACode.ret ?_
        refine kb_r ?_
        refine ks_r ?_
        refine kf_ret rfl ?_ nobox
        rw [foldN, if_pos h37]; rfl
      · try simp only [List.length_map, decide_eq_true_eq, decide_eq_false_iff_not, Bool.not_eq_true', Bool.not_eq_false', Bool.not_eq_true, Bool.not_eq_false] at h37
        refine ACode.seq ?_
        refine ACode.cut [(.t 1, .v (.o (.c (.ptr (rX e))))), (.t 2, .v (.o (.c (.box 890 7 0 0)))), (.t 3, .v (.o (.c (.box 891 7 0 0)))), (.t 4, .v (.o (.c (.box 892 7 0 0)))), (.t 52, .v (.o (bo1 ((!decide (e.k = 6) && isN Y 0 || decide (e.k = 6) && isN Y 1))))), (.b 890, .b 31 7 [[.d (dI 0), .d (dI 0), .d (.val (.slice none 0 0)), .d (dI 0), .d (dS ByteArray.empty), .d (.val (.slice none 0 0)), .d (.val (.slice none 0 0))]]), (.u 890, .u), (.b 891, .b 31 7 (dR ([rX X]))), (.u 891, .u), (.b 892, .b 31 7 (dR ([rX Y]))), (.u 892, .u)] ?_ ?_
        · skip
          refine ACode.seq ?_
          refine ACode.region ?_
          refine .cons (.fP 0 0 false rfl rfl) ?_
          refine .cons (.l1 1 rfl rfl) ?_
          refine .cons (.ne rfl rfl rfl) ?_
          refine .cons (.mv rfl rfl) ?_
          refine .cND 56 rfl (fun g56 => ?_) (fun g56 => ?_)
          · skip
            refine .cons (.gT rfl rfl rfl (.bN 7 rfl rfl rfl rfl rfl rfl)) ?_
            refine .cons (.gT rfl rfl rfl (.cP [.tmp 57, .const (.int .i64 (0))] rfl rfl rfl rfl (l13Is_fn _ 0) rfl)) ?_
            refine .cons (.pT rfl rfl rfl) ?_
            refine .cons (.asg rfl rfl) ?_
            refine .nil ?_
            refine ks_n ?_
            refine ACode.condT rfl (fun h52 => ?_) (fun h52 => ?_)
            · try simp only [List.length_map, decide_eq_true_eq, decide_eq_false_iff_not, Bool.not_eq_true', Bool.not_eq_false', Bool.not_eq_true, Bool.not_eq_false] at h52
              refine ACode.skip ?_
              exact kc_n (Wk.keep [(890, 870), (891, 871), (892, 872)] rfl rfl ⟨ks rfl .dt, ks rfl (.c .bx), ks rfl (.c .bx), ks rfl (.c .bx), ks rfl (.dt (vB (by first | rfl | (simp [*]; done) | grind))), kb 870 rfl (.cons (.cons .dt (.cons .dt (.cons .dt (.cons .dt (.cons .dt (.cons .dt (.cons .dt Ctos.nil))))))) .nil), kb 871 rfl (.dt rfl), kb 872 rfl (.dt rfl), trivial⟩)
            · try simp only [List.length_map, decide_eq_true_eq, decide_eq_false_iff_not, Bool.not_eq_true', Bool.not_eq_false', Bool.not_eq_true, Bool.not_eq_false] at h52
              refine ACode.region ?_
              refine .cons (.fP 0 0 false rfl rfl) ?_
              refine .cons (.l1 1 rfl rfl) ?_
              refine .cons (.eq rfl rfl rfl) ?_
              refine .cons (.mv rfl rfl) ?_
              refine .cD 63 rfl (fun g63 => ?_) (fun g63 => ?_)
              · skip
                refine .cons (.gT rfl rfl rfl (.bN 7 rfl rfl rfl rfl rfl rfl)) ?_
                refine .cons (.gT rfl rfl rfl (.cP [.tmp 64, .const (.int .i64 (1))] rfl rfl rfl rfl (l13Is_fn _ 1) rfl)) ?_
                refine .cons (.pT rfl rfl rfl) ?_
                refine .cons (.asg rfl rfl) ?_
                refine .nil ?_
                exact kc_n (Wk.keep [(890, 870), (891, 871), (892, 872)] rfl rfl ⟨ks rfl .dt, ks rfl (.c .bx), ks rfl (.c .bx), ks rfl (.c .bx), ks rfl (.dt (vB (by first | rfl | (simp [*]; done) | grind))), kb 870 rfl (.cons (.cons .dt (.cons .dt (.cons .dt (.cons .dt (.cons .dt (.cons .dt (.cons .dt Ctos.nil))))))) .nil), kb 871 rfl (.dt rfl), kb 872 rfl (.dt rfl), trivial⟩)
              · skip
                refine .cons (.gF rfl rfl rfl) ?_
                refine .cons (.gF rfl rfl rfl) ?_
                refine .cons (.pF rfl rfl rfl) ?_
                refine .cons (.asg rfl rfl) ?_
                refine .nil ?_
                exact kc_n (Wk.keep [(890, 870), (891, 871), (892, 872)] rfl rfl ⟨ks rfl .dt, ks rfl (.c .bx), ks rfl (.c .bx), ks rfl (.c .bx), ks rfl (.dt (vB (by first | rfl | (simp [*]; done) | grind))), kb 870 rfl (.cons (.cons .dt (.cons .dt (.cons .dt (.cons .dt (.cons .dt (.cons .dt (.cons .dt Ctos.nil))))))) .nil), kb 871 rfl (.dt rfl), kb 872 rfl (.dt rfl), trivial⟩)
          · skip
            refine .cons (.gF rfl rfl rfl) ?_
            refine .cons (.gF rfl rfl rfl) ?_
            refine .cons (.pF rfl rfl rfl) ?_
            refine .cons (.asg rfl rfl) ?_
            refine .nil ?_
            refine ks_n ?_
            refine ACode.condT rfl (fun h => by first | (cases h; done) | (simp [*] at h; done) | (exfalso; simp_all; done)) (fun _ => ?_)
            refine ACode.region ?_
            refine .cons (.fP 0 0 false rfl rfl) ?_
            refine .cons (.l1 1 rfl rfl) ?_
            refine .cons (.eq rfl rfl rfl) ?_
            refine .cons (.mv rfl rfl) ?_
            refine .cD 63 rfl (fun g63 => ?_) (fun g63 => ?_)
            · skip
              refine .cons (.gT rfl rfl rfl (.bN 7 rfl rfl rfl rfl rfl rfl)) ?_
              refine .cons (.gT rfl rfl rfl (.cP [.tmp 64, .const (.int .i64 (1))] rfl rfl rfl rfl (l13Is_fn _ 1) rfl)) ?_
              refine .cons (.pT rfl rfl rfl) ?_
              refine .cons (.asg rfl rfl) ?_
              refine .nil ?_
              exact kc_n (Wk.keep [(890, 870), (891, 871), (892, 872)] rfl rfl ⟨ks rfl .dt, ks rfl (.c .bx), ks rfl (.c .bx), ks rfl (.c .bx), ks rfl (.dt (vB (by first | rfl | (simp [*]; done) | grind))), kb 870 rfl (.cons (.cons .dt (.cons .dt (.cons .dt (.cons .dt (.cons .dt (.cons .dt (.cons .dt Ctos.nil))))))) .nil), kb 871 rfl (.dt rfl), kb 872 rfl (.dt rfl), trivial⟩)
            · skip
              refine .cons (.gF rfl rfl rfl) ?_
              refine .cons (.gF rfl rfl rfl) ?_
              refine .cons (.pF rfl rfl rfl) ?_
              refine .cons (.asg rfl rfl) ?_
              refine .nil ?_
              exact kc_n (Wk.keep [(890, 870), (891, 871), (892, 872)] rfl rfl ⟨ks rfl .dt, ks rfl (.c .bx), ks rfl (.c .bx), ks rfl (.c .bx), ks rfl (.dt (vB (by first | rfl | (simp [*]; done) | grind))), kb 870 rfl (.cons (.cons .dt (.cons .dt (.cons .dt (.cons .dt (.cons .dt (.cons .dt (.cons .dt Ctos.nil))))))) .nil), kb 871 rfl (.dt rfl), kb 872 rfl (.dt rfl), trivial⟩)
        refine ks_n ?_
        refine ACode.condT rfl (fun h52 => ?_) (fun h52 => ?_)
        · try simp only [List.length_map, decide_eq_true_eq, decide_eq_false_iff_not, Bool.not_eq_true', Bool.not_eq_false', Bool.not_eq_true, Bool.not_eq_false] at h52
          refine ACode.seq ?_
          refine ACode.region ?_
          refine .cons (.bN 7 rfl rfl rfl rfl rfl rfl) ?_
          refine .cons (.sT 7 true rfl rfl rfl rfl rfl rfl rfl) ?_
          refine .nil ?_
          refine ks_n ?_
          refine ACode.ret ?_
          refine kb_r ?_
          refine ks_r ?_
          refine kf_ret rfl ?_ nobox
          rw [foldN, if_neg (by rw [h37]; decide), if_pos h52]; rfl
        · try simp only [List.length_map, decide_eq_true_eq, decide_eq_false_iff_not, Bool.not_eq_true', Bool.not_eq_false', Bool.not_eq_true, Bool.not_eq_false] at h52
          refine ACode.seq ?_
          refine ACode.cut [(.t 1, .v (.o (.c (.ptr (rX e))))), (.t 2, .v (.o (.c (.box 920 7 0 0)))), (.t 3, .v (.o (.c (.box 921 7 0 0)))), (.t 4, .v (.o (.c (.box 922 7 0 0)))), (.t 68, .v (.o (bo1 ((decide (e.k = 4) && isN X 0 || decide (e.k = 6) && isN X 1))))), (.b 920, .b 31 7 [[.d (dI 0), .d (dI 0), .d (.val (.slice none 0 0)), .d (dI 0), .d (dS ByteArray.empty), .d (.val (.slice none 0 0)), .d (.val (.slice none 0 0))]]), (.u 920, .u), (.b 921, .b 31 7 (dR ([rX X]))), (.u 921, .u), (.b 922, .b 31 7 (dR ([rX Y]))), (.u 922, .u)] ?_ ?_
          · skip
            refine ACode.seq ?_
            refine ACode.region ?_
            refine .cons (.fP 0 0 false rfl rfl) ?_
            refine .cons (.l1 1 rfl rfl) ?_
            refine .cons (.eq rfl rfl rfl) ?_
            refine .cons (.mv rfl rfl) ?_
            refine .cD 72 rfl (fun g72 => ?_) (fun g72 => ?_)
            · skip
              refine .cons (.gT rfl rfl rfl (.bN 7 rfl rfl rfl rfl rfl rfl)) ?_
              refine .cons (.gT rfl rfl rfl (.cP [.tmp 73, .const (.int .i64 (0))] rfl rfl rfl rfl (l13Is_fn _ 0) rfl)) ?_
              refine .cons (.pT rfl rfl rfl) ?_
              refine .cons (.asg rfl rfl) ?_
              refine .nil ?_
              refine ks_n ?_
              refine ACode.condT rfl (fun h68 => ?_) (fun h68 => ?_)
              · try simp only [List.length_map, decide_eq_true_eq, decide_eq_false_iff_not, Bool.not_eq_true', Bool.not_eq_false', Bool.not_eq_true, Bool.not_eq_false] at h68
                refine ACode.skip ?_
                exact kc_n (Wk.keep [(920, 890), (921, 891), (922, 892)] rfl rfl ⟨ks rfl .dt, ks rfl (.c .bx), ks rfl (.c .bx), ks rfl (.c .bx), ks rfl (.dt (vB (by first | rfl | (simp [*]; done) | grind))), kb 890 rfl (.cons (.cons .dt (.cons .dt (.cons .dt (.cons .dt (.cons .dt (.cons .dt (.cons .dt Ctos.nil))))))) .nil), kb 891 rfl (.dt rfl), kb 892 rfl (.dt rfl), trivial⟩)
              · try simp only [List.length_map, decide_eq_true_eq, decide_eq_false_iff_not, Bool.not_eq_true', Bool.not_eq_false', Bool.not_eq_true, Bool.not_eq_false] at h68
                refine ACode.region ?_
                refine .cons (.fP 0 0 false rfl rfl) ?_
                refine .cons (.l1 1 rfl rfl) ?_
                refine .cons (.eq rfl rfl rfl) ?_
                refine .cons (.mv rfl rfl) ?_
                refine .cD 79 rfl (fun g79 => ?_) (fun g79 => ?_)
                · skip
                  refine .cons (.gT rfl rfl rfl (.bN 7 rfl rfl rfl rfl rfl rfl)) ?_
                  refine .cons (.gT rfl rfl rfl (.cP [.tmp 80, .const (.int .i64 (1))] rfl rfl rfl rfl (l13Is_fn _ 1) rfl)) ?_
                  refine .cons (.pT rfl rfl rfl) ?_
                  refine .cons (.asg rfl rfl) ?_
                  refine .nil ?_
                  exact kc_n (Wk.keep [(920, 890), (921, 891), (922, 892)] rfl rfl ⟨ks rfl .dt, ks rfl (.c .bx), ks rfl (.c .bx), ks rfl (.c .bx), ks rfl (.dt (vB (by first | rfl | (simp [*]; done) | grind))), kb 890 rfl (.cons (.cons .dt (.cons .dt (.cons .dt (.cons .dt (.cons .dt (.cons .dt (.cons .dt Ctos.nil))))))) .nil), kb 891 rfl (.dt rfl), kb 892 rfl (.dt rfl), trivial⟩)
                · skip
                  refine .cons (.gF rfl rfl rfl) ?_
                  refine .cons (.gF rfl rfl rfl) ?_
                  refine .cons (.pF rfl rfl rfl) ?_
                  refine .cons (.asg rfl rfl) ?_
                  refine .nil ?_
                  exact kc_n (Wk.keep [(920, 890), (921, 891), (922, 892)] rfl rfl ⟨ks rfl .dt, ks rfl (.c .bx), ks rfl (.c .bx), ks rfl (.c .bx), ks rfl (.dt (vB (by first | rfl | (simp [*]; done) | grind))), kb 890 rfl (.cons (.cons .dt (.cons .dt (.cons .dt (.cons .dt (.cons .dt (.cons .dt (.cons .dt Ctos.nil))))))) .nil), kb 891 rfl (.dt rfl), kb 892 rfl (.dt rfl), trivial⟩)
            · skip
              refine .cons (.gF rfl rfl rfl) ?_
              refine .cons (.gF rfl rfl rfl) ?_
              refine .cons (.pF rfl rfl rfl) ?_
              refine .cons (.asg rfl rfl) ?_
              refine .nil ?_
              refine ks_n ?_
              refine ACode.condT rfl (fun h => by first | (cases h; done) | (simp [*] at h; done) | (exfalso; simp_all; done)) (fun _ => ?_)
              refine ACode.region ?_
              refine .cons (.fP 0 0 false rfl rfl) ?_
              refine .cons (.l1 1 rfl rfl) ?_
              refine .cons (.eq rfl rfl rfl) ?_
              refine .cons (.mv rfl rfl) ?_
              refine .cD 79 rfl (fun g79 => ?_) (fun g79 => ?_)
              · skip
                refine .cons (.gT rfl rfl rfl (.bN 7 rfl rfl rfl rfl rfl rfl)) ?_
                refine .cons (.gT rfl rfl rfl (.cP [.tmp 80, .const (.int .i64 (1))] rfl rfl rfl rfl (l13Is_fn _ 1) rfl)) ?_
                refine .cons (.pT rfl rfl rfl) ?_
                refine .cons (.asg rfl rfl) ?_
                refine .nil ?_
                exact kc_n (Wk.keep [(920, 890), (921, 891), (922, 892)] rfl rfl ⟨ks rfl .dt, ks rfl (.c .bx), ks rfl (.c .bx), ks rfl (.c .bx), ks rfl (.dt (vB (by first | rfl | (simp [*]; done) | grind))), kb 890 rfl (.cons (.cons .dt (.cons .dt (.cons .dt (.cons .dt (.cons .dt (.cons .dt (.cons .dt Ctos.nil))))))) .nil), kb 891 rfl (.dt rfl), kb 892 rfl (.dt rfl), trivial⟩)
              · skip
                refine .cons (.gF rfl rfl rfl) ?_
                refine .cons (.gF rfl rfl rfl) ?_
                refine .cons (.pF rfl rfl rfl) ?_
                refine .cons (.asg rfl rfl) ?_
                refine .nil ?_
                exact kc_n (Wk.keep [(920, 890), (921, 891), (922, 892)] rfl rfl ⟨ks rfl .dt, ks rfl (.c .bx), ks rfl (.c .bx), ks rfl (.c .bx), ks rfl (.dt (vB (by first | rfl | (simp [*]; done) | grind))), kb 890 rfl (.cons (.cons .dt (.cons .dt (.cons .dt (.cons .dt (.cons .dt (.cons .dt (.cons .dt Ctos.nil))))))) .nil), kb 891 rfl (.dt rfl), kb 892 rfl (.dt rfl), trivial⟩)
          refine ks_n ?_
          refine ACode.condT rfl (fun h68 => ?_) (fun h68 => ?_)
          · try simp only [List.length_map, decide_eq_true_eq, decide_eq_false_iff_not, Bool.not_eq_true', Bool.not_eq_false', Bool.not_eq_true, Bool.not_eq_false] at h68
            refine ACode.seq ?_
            refine ACode.region ?_
            refine .cons (.bN 7 rfl rfl rfl rfl rfl rfl) ?_
            refine .cons (.sT 7 true rfl rfl rfl rfl rfl rfl rfl) ?_
            refine .nil ?_
            refine ks_n ?_
            refine ACode.ret ?_
            refine kb_r ?_
            refine ks_r ?_
            refine kf_ret rfl ?_ nobox
            rw [foldN, if_neg (by rw [h37]; decide), if_neg (by rw [h52]; decide), if_pos h68]; rfl
          · try simp only [List.length_map, decide_eq_true_eq, decide_eq_false_iff_not, Bool.not_eq_true', Bool.not_eq_false', Bool.not_eq_true, Bool.not_eq_false] at h68
            refine ACode.seq ?_
            refine ACode.cut [(.t 1, .v (.o (.c (.ptr (rX e))))), (.t 2, .v (.o (.c (.box 950 7 0 0)))), (.t 3, .v (.o (.c (.box 951 7 0 0)))), (.t 4, .v (.o (.c (.box 952 7 0 0)))), (.t 84, .v (.o (bo1 ((decide (e.k = 6) && (isN X 0 || isN Y 0)))))), (.b 950, .b 31 7 [[.d (dI 0), .d (dI 0), .d (.val (.slice none 0 0)), .d (dI 0), .d (dS ByteArray.empty), .d (.val (.slice none 0 0)), .d (.val (.slice none 0 0))]]), (.u 950, .u), (.b 951, .b 31 7 (dR ([rX X]))), (.u 951, .u), (.b 952, .b 31 7 (dR ([rX Y]))), (.u 952, .u)] ?_ ?_
            · skip
              refine ACode.region ?_
              refine .cons (.fP 0 0 false rfl rfl) ?_
              refine .cons (.l1 1 rfl rfl) ?_
              refine .cons (.eq rfl rfl rfl) ?_
              refine .cons (.mv rfl rfl) ?_
              refine .cD 88 rfl (fun g88 => ?_) (fun g88 => ?_)
              · skip
                refine .cons (.gT rfl rfl rfl (.bN 7 rfl rfl rfl rfl rfl rfl)) ?_
                refine .cons (.gT rfl rfl rfl (.cP [.tmp 89, .const (.int .i64 (0))] rfl rfl rfl rfl (l13Is_fn _ 0) rfl)) ?_
                refine .cons (.gT rfl rfl rfl (.mv rfl rfl)) ?_
                refine AOps.cases 91 _ rfl (fun g91 => ?_) (fun g91 => ?_)
                · try simp only [List.length_map, decide_eq_true_eq, decide_eq_false_iff_not, Bool.not_eq_true', Bool.not_eq_false', Bool.not_eq_true, Bool.not_eq_false] at g91
                  refine .cons (.gF rfl rfl rfl) ?_
                  refine .cons (.gF rfl rfl rfl) ?_
                  refine .cons (.gT rfl rfl rfl (.pT rfl rfl rfl)) ?_
                  refine .cons (.pT rfl rfl rfl) ?_
                  refine .cons (.asg rfl rfl) ?_
                  refine .nil ?_
                  exact kc_n (Wk.keep [(950, 920), (951, 921), (952, 922)] rfl rfl ⟨ks rfl .dt, ks rfl (.c .bx), ks rfl (.c .bx), ks rfl (.c .bx), ks rfl (.dt (vB (by first | rfl | (simp [*]; done) | grind))), kb 920 rfl (.cons (.cons .dt (.cons .dt (.cons .dt (.cons .dt (.cons .dt (.cons .dt (.cons .dt Ctos.nil))))))) .nil), kb 921 rfl (.dt rfl), kb 922 rfl (.dt rfl), trivial⟩)
                · try simp only [List.length_map, decide_eq_true_eq, decide_eq_false_iff_not, Bool.not_eq_true', Bool.not_eq_false', Bool.not_eq_true, Bool.not_eq_false] at g91
                  refine .cons (.gT rfl rfl rfl (.bN 7 rfl rfl rfl rfl rfl rfl)) ?_
                  refine .cons (.gT rfl rfl rfl (.cP [.tmp 92, .const (.int .i64 (0))] rfl rfl rfl rfl (l13Is_fn _ 0) rfl)) ?_
                  refine .cons (.gT rfl rfl rfl (.pF rfl rfl rfl)) ?_
                  refine .cons (.pT rfl rfl rfl) ?_
                  refine .cons (.asg rfl rfl) ?_
                  refine .nil ?_
                  exact kc_n (Wk.keep [(950, 920), (951, 921), (952, 922)] rfl rfl ⟨ks rfl .dt, ks rfl (.c .bx), ks rfl (.c .bx), ks rfl (.c .bx), ks rfl (.dt (vB (by first | rfl | (simp [*]; done) | grind))), kb 920 rfl (.cons (.cons .dt (.cons .dt (.cons .dt (.cons .dt (.cons .dt (.cons .dt (.cons .dt Ctos.nil))))))) .nil), kb 921 rfl (.dt rfl), kb 922 rfl (.dt rfl), trivial⟩)
              · skip
                refine .cons (.gF rfl rfl rfl) ?_
                refine .cons (.gF rfl rfl rfl) ?_
                refine .cons (.gF rfl rfl rfl) ?_
                refine .cons (.gU rfl rfl) ?_
                refine .cons (.gU rfl rfl) ?_
                refine .cons (.gF rfl rfl rfl) ?_
                refine .cons (.pF rfl rfl rfl) ?_
                refine .cons (.asg rfl rfl) ?_
                refine .nil ?_
                exact kc_n (Wk.keep [(950, 920), (951, 921), (952, 922)] rfl rfl ⟨ks rfl .dt, ks rfl (.c .bx), ks rfl (.c .bx), ks rfl (.c .bx), ks rfl (.dt (vB (by first | rfl | (simp [*]; done) | grind))), kb 920 rfl (.cons (.cons .dt (.cons .dt (.cons .dt (.cons .dt (.cons .dt (.cons .dt (.cons .dt Ctos.nil))))))) .nil), kb 921 rfl (.dt rfl), kb 922 rfl (.dt rfl), trivial⟩)
            refine ks_n ?_
            refine ACode.condT rfl (fun h84 => ?_) (fun h84 => ?_)
            · try simp only [List.length_map, decide_eq_true_eq, decide_eq_false_iff_not, Bool.not_eq_true', Bool.not_eq_false', Bool.not_eq_true, Bool.not_eq_false] at h84
              refine ACode.seq ?_
              refine ACode.region ?_
              refine .cons (.cP [.const (.int .i64 (0))] rfl rfl rfl rfl (l13Num_fn 0) rfl) ?_
              refine .cons (.sT 7 true rfl rfl rfl rfl rfl rfl rfl) ?_
              refine .nil ?_
              refine ks_n ?_
              refine ACode.ret ?_
              refine kb_r ?_
              refine ks_r ?_
              refine kf_ret rfl ?_ nobox
              rw [foldN, if_neg (by rw [h37]; decide), if_neg (by rw [h52]; decide), if_neg (by rw [h68]; decide), if_pos h84]; rfl
            · try simp only [List.length_map, decide_eq_true_eq, decide_eq_false_iff_not, Bool.not_eq_true', Bool.not_eq_false', Bool.not_eq_true, Bool.not_eq_false] at h84
              refine ACode.skip ?_
              refine kb_n ?_
              refine ks_n ?_
              refine ACode.seq ?_
              refine ACode.region ?_
              refine .cons (.lN 7 rfl rfl rfl) ?_
              refine .cons (.sT 7 true rfl rfl rfl rfl rfl rfl rfl) ?_
              refine .nil ?_
              refine ks_n ?_
              refine ACode.ret ?_
              refine kf_ret rfl ?_ nobox
              rw [foldN, if_neg (by rw [h37]; decide), if_neg (by rw [h52]; decide), if_neg (by rw [h68]; decide), if_neg (by rw [h84]; decide)]; rfl

set_option maxRecDepth 100000 in
set_option maxHeartbeats 1600000 in
theorem l13Fold_one {e : Ex} (hi : e.i.1.length ≤ 1073741824) (hr : e.r.2.length ≤ 1073741824) (hq : ∀ x ∈ e.r.2, x.1.length ≤ 1073741824) (hk : e.ks.length ≤ 1073741824) (ih : ∀ x ∈ e.ks, Fn Try.prog 105 [] [ad (rX x)] (.o (ad (rX (foldE x)))) []) (hnd : Fn Try.prog 148 [] [ad (rX (.mk e.k e.n e.i e.r (e.ks.map foldE) : Ex))] (.o (ad (rX (foldE e)))) []) : Fn Try.prog 105 [] [ad (rX e)] (.o (ad (rX (foldE e)))) [] := by
  refine Fn.code0 Try.func105 rfl rfl rfl rfl ?_
  refine ACode.seq ?_
  refine ACode.region ?_
  refine .cons (St1.boxP rfl rfl rfl rfl rfl rfl) ?_
  refine .cons (.al 102 [.int .i64 0, .int .i64 0, .slice none 0 0, .int .i64 0, .string ByteArray.empty, .slice none 0 0, .slice none 0 0] rfl rfl rfl) ?_
  refine .nil ?_
  refine ks_n ?_
  refine ACode.seq ?_
  refine ACode.drawK (by kernel_rfl) (by kernel_rfl) ?_
  refine .cons (.fP 0 0 false rfl rfl) ?_
  refine .cons (.l1 1 rfl rfl) ?_
  refine .cons (.fP 1 0 false rfl rfl) ?_
  refine .cons (.l1 1 rfl rfl) ?_
  refine .cons (.fP 2 1 true rfl rfl) ?_
  refine .cons (.lN 2 rfl rfl rfl) ?_
  refine .cons (.cP [.tmp 10] rfl rfl rfl rfl (l3CopyAff_fn hi) rfl) ?_
  refine .cons (.fP 4 1 true rfl rfl) ?_
  refine .cons (.lN 2 rfl rfl rfl) ?_
  refine .cons (.cP [.tmp 13] rfl rfl rfl rfl (l3CopyAcc_fn e.r hr hq) rfl) ?_
  refine .cons (.bu [(0, .tmp 6), (1, .tmp 8), (2, .tmp 11), (3, .tmp 14)] [(0, 1), (1, 1), (2, 2), (4, 2), (6, 1)] [.int .i64 0, .int .i64 0, .slice none 0 0, .int .i64 0, .string ByteArray.empty, .slice none 0 0, .slice none 0 0] rfl rfl rfl rfl rfl) ?_
  refine .cons (.al 103 [.int .i64 0, .int .i64 0, .slice none 0 0, .int .i64 0, .string ByteArray.empty, .slice none 0 0, .slice none 0 0] rfl rfl rfl) ?_
  refine .cons (.sT 7 true rfl rfl rfl rfl rfl rfl rfl) ?_
  refine .nil ⟨by kernel_rfl, ?_⟩
  refine ks_n ?_
  refine ACode.seq ?_
  refine ACode.seq ?_
  refine ACode.region ?_
  refine .cons (.asg rfl rfl) ?_
  refine .nil ?_
  refine ks_n ?_
  refine ACode.block ?_
  refine .loopK (fun m σ => (∃ i : Nat, m = e.ks.length - i ∧ (i = 0) ∧ σ = [(.t 1, .v (.o (.c (.ptr (rX e))))), (.t 2, .v (.o (.c (.box 110 7 0 0)))), (.t 3, .v (.o (.c (.box 111 7 0 0)))), (.t 4, .v (.o (nat1 (i : Nat)))), (.b 110, .b 31 7 [[.d (dI 0), .d (dI 0), .d (.val (.slice none 0 0)), .d (dI 0), .d (dS ByteArray.empty), .d (.val (.slice none 0 0)), .d (.val (.slice none 0 0))]]), (.u 110, .u), (.b 111, .b 31 7 [[.d (dI e.k), .d (dI e.n), .d (dIs e.i.1), .d (dI e.i.2), .d (dS e.r.1), .d (dAs e.r.2), .d (.val (.slice none 0 0))]]), (.u 111, .u)]) ∨ (∃ i : Nat, m = e.ks.length - i ∧ (1 ≤ i) ∧ (i ≤ e.ks.length) ∧ σ = [(.t 1, .v (.o (.c (.ptr (rX e))))), (.t 2, .v (.o (.c (.box 110 7 0 0)))), (.t 3, .v (.o (.c (.box 111 7 0 0)))), (.t 4, .v (.o (nat1 (i : Nat)))), (.b 110, .b 31 7 [[.d (dI 0), .d (dI 0), .d (.val (.slice none 0 0)), .d (dI 0), .d (dS ByteArray.empty), .d (.val (.slice none 0 0)), .d (.val (.slice none 0 0))]]), (.u 110, .u), (.b 112, .b 31 7 (dR ((e.ks.take i).map fun x => rX (foldE x)))), (.u 112, .u), (.b 111, .b 31 7 [[.d (dI e.k), .d (dI e.n), .d (dIs e.i.1), .d (dI e.i.2), .d (dS e.r.1), .d (dAs e.r.2), .own 112 7 (i)]]), (.u 111, .u)])) [(110, 102), (111, 103)] (.inl ⟨0, rfl, rfl, rfl⟩) ⟨ks rfl .dt, ks rfl (.c .bx), ks rfl (.c .bx), ks rfl .dt, kb 102 rfl (.cons (.cons .dt (.cons .dt (.cons .dt (.cons .dt (.cons .dt (.cons .dt (.cons .dt Ctos.nil))))))) .nil), kb 103 rfl (.cons (.cons .dt (.cons .dt (.cons .dt (.cons .dt (.cons .dt (.cons .dt (.cons .dt Ctos.nil))))))) .nil), trivial⟩ ?_
  rintro m σ (⟨i, hm0, rfl, rfl⟩ | ⟨i, hm0, hi1, hi2, rfl⟩)
  · skip
    refine ACode.seq ?_
    refine ACode.seq ?_
    refine ACode.region ?_
    refine .cons (.mv rfl rfl) ?_
    refine .cons (.fP 6 0 false rfl rfl) ?_
    refine .cons (.l1 1 rfl rfl) ?_
    refine .cons (.ln 31 7 112 rfl rfl rfl) ?_
    refine .cons (.ls rfl rfl rfl) ?_
    refine .nil ?_
    refine ks_n ?_
    refine .cD rfl (fun h20 => ?_) (fun h20 => ?_)
    · skip
      obtain ⟨x, hx1⟩ : ∃ x, e.ks[0]? = some x := ⟨_, List.getElem?_eq_getElem (by omega)⟩
      refine ACode.skip ?_
      refine ks_n ?_
      refine ACode.seq ?_
      refine ACode.block ?_
      refine ACode.drawK (by kernel_rfl) (by kernel_rfl) ?_
      refine .cons (.fB 6 0 false rfl rfl rfl) ?_
      refine .cons (.b1 1 rfl rfl rfl rfl rfl rfl) ?_
      refine .cons (.fP 6 0 false rfl rfl) ?_
      refine .cons (.l1 1 rfl rfl) ?_
      refine .cons (.mv rfl rfl) ?_
      refine .cons (.xL 31 7 112 rfl rfl rfl rfl rfl (rE_at hx1)) ?_
      refine .cons (.lN 7 rfl rfl rfl) ?_
      refine .cons (.cP [.tmp 29] rfl rfl rfl rfl (ih x (List.mem_of_getElem? hx1)) rfl) ?_
      refine .cons (.li 31 6 0 [.tmp 30] rfl rfl rfl rfl rfl rfl) ?_
      refine .cons (St1.appN (k' := 132) (e := 31) (sz := 6) (by' := 112) rfl rfl rfl rfl rfl (by kernel_rfl) rfl rfl rfl (by simp) (by first | (simp [dR]; done) | (simp [dR]; omega)) rfl rfl) ?_
      refine .cons (.fB 6 0 false rfl rfl rfl) ?_
      refine .cons (.sT 1 false rfl rfl rfl rfl rfl rfl rfl) ?_
      refine .nil ⟨by kernel_rfl, ?_⟩
      refine kb_n ?_
      refine ks_n ?_
      refine ACode.region ?_
      refine .cons (.mv rfl rfl) ?_
      refine .cons (.pl rfl rfl rfl) ?_
      refine .cons (.asg rfl rfl) ?_
      refine .nil ?_
      refine kl_k [(110, 110), (111, 111), (112, 132)] (.inr ⟨1, rfl, by omega, by omega, rfl⟩) ⟨ks rfl .dt, ks rfl (.c .bx), ks rfl (.c .bx), ks rfl .dt, kb 110 rfl (.cons (.cons .dt (.cons .dt (.cons .dt (.cons .dt (.cons .dt (.cons .dt (.cons .dt Ctos.nil))))))) .nil), kb 132 rfl (.dt rfl (by first | exact dR_take (fun x => rX (foldE x)) hx1 | exact dR_take1 (fun x => rX (foldE x)) hx1 | rfl | (simp [dR]; done))), kb 111 rfl (.cons (.cons .dt (.cons .dt (.cons .dt (.cons .dt (.cons .dt (.cons .dt (.cons .ow Ctos.nil))))))) .nil), trivial⟩
    · skip
      have hn : e.ks = [] := List.eq_nil_of_length_eq_zero (by omega)
      refine ACode.exit ?_
      refine ks_e ?_
      refine kl_e ?_
      refine kb_hit ?_
      refine ks_n ?_
      refine ACode.seq ?_
      refine .keep [(.t 1, .v (.o (.c (.ptr (rX e))))), (.t 2, .v (.o (.c (.box 760 7 0 0)))), (.t 3, .v (.o (.c (.box 761 7 0 0)))), (.b 760, .b 31 7 [[.d (dI 0), .d (dI 0), .d (.val (.slice none 0 0)), .d (dI 0), .d (dS ByteArray.empty), .d (.val (.slice none 0 0)), .d (.val (.slice none 0 0))]]), (.u 760, .u), (.b 761, .b 31 7 [[.d (dI e.k), .d (dI e.n), .d (dIs e.i.1), .d (dI e.i.2), .d (dS e.r.1), .d (dAs e.r.2), .d (dEs (e.ks.map foldE))]]), (.u 761, .u)] [(760, 110), (761, 111)] ⟨ks rfl .dt, ks rfl (.c .bx), ks rfl (.c .bx), kb 110 rfl (.cons (.cons .dt (.cons .dt (.cons .dt (.cons .dt (.cons .dt (.cons .dt (.cons .dt Ctos.nil))))))) .nil), kb 111 rfl (.cons (.cons .dt (.cons .dt (.cons .dt (.cons .dt (.cons .dt (.cons .dt (.cons (Cto.nilE 7 (by rw [hn]; rfl)) Ctos.nil))))))) .nil), trivial⟩ ?_
      refine ACode.region ?_
      refine .cons (.bN 7 rfl rfl rfl rfl rfl rfl) ?_
      refine .cons (.cP [.tmp 34] rfl rfl rfl rfl (hnd) rfl) ?_
      refine .cons (.sT 7 true rfl rfl rfl rfl rfl rfl rfl) ?_
      refine .nil ?_
      refine ks_n ?_
      refine ACode.ret ?_
      refine kf_ret rfl ?_ nobox
      rfl
  · skip
    refine ACode.seq ?_
    refine ACode.seq ?_
    refine ACode.region ?_
    refine .cons (.mv rfl rfl) ?_
    refine .cons (.fP 6 0 false rfl rfl) ?_
    refine .cons (.l1 1 rfl rfl) ?_
    refine .cons (.ln 31 7 112 rfl rfl rfl) ?_
    refine .cons (.ls rfl rfl rfl) ?_
    refine .nil ?_
    refine ks_n ?_
    refine .cD rfl (fun h20 => ?_) (fun h20 => ?_)
    · skip
      obtain ⟨x, hx1⟩ : ∃ x, e.ks[i]? = some x := ⟨_, List.getElem?_eq_getElem (by omega)⟩
      refine ACode.skip ?_
      refine ks_n ?_
      refine ACode.seq ?_
      refine ACode.block ?_
      refine ACode.drawK (by kernel_rfl) (by kernel_rfl) ?_
      refine .cons (.fB 6 0 false rfl rfl rfl) ?_
      refine .cons (.b1 1 rfl rfl rfl rfl rfl rfl) ?_
      refine .cons (.fP 6 0 false rfl rfl) ?_
      refine .cons (.l1 1 rfl rfl) ?_
      refine .cons (.mv rfl rfl) ?_
      refine .cons (.xL 31 7 112 rfl rfl rfl rfl rfl (rE_at hx1)) ?_
      refine .cons (.lN 7 rfl rfl rfl) ?_
      refine .cons (.cP [.tmp 29] rfl rfl rfl rfl (ih x (List.mem_of_getElem? hx1)) rfl) ?_
      refine .cons (.li 31 6 0 [.tmp 30] rfl rfl rfl rfl rfl rfl) ?_
      refine .cons (St1.appB (k' := 132) (e := 31) (sz := 6) (by' := 112) rfl rfl rfl rfl rfl (by kernel_rfl) rfl rfl rfl rfl (by first | (simp [dR]; done) | (simp [dR]; omega)) (by first | (simp [dR]; done) | (simp [dR]; omega)) rfl rfl rfl) ?_
      refine .cons (.fB 6 0 false rfl rfl rfl) ?_
      refine .cons (.sT 1 false rfl rfl rfl rfl rfl rfl rfl) ?_
      refine .nil ⟨by kernel_rfl, ?_⟩
      refine kb_n ?_
      refine ks_n ?_
      refine ACode.region ?_
      refine .cons (.mv rfl rfl) ?_
      refine .cons (.pl rfl rfl rfl) ?_
      refine .cons (.asg rfl rfl) ?_
      refine .nil ?_
      refine kl_k [(110, 110), (111, 111), (112, 132)] (.inr ⟨i + 1, rfl, by omega, by omega, rfl⟩) ⟨ks rfl .dt, ks rfl (.c .bx), ks rfl (.c .bx), ks rfl .dt, kb 110 rfl (.cons (.cons .dt (.cons .dt (.cons .dt (.cons .dt (.cons .dt (.cons .dt (.cons .dt Ctos.nil))))))) .nil), kb 132 rfl (.dt rfl (by first | exact dR_take (fun x => rX (foldE x)) hx1 | exact dR_take1 (fun x => rX (foldE x)) hx1 | rfl | (simp [dR]; done))), kb 111 rfl (.cons (.cons .dt (.cons .dt (.cons .dt (.cons .dt (.cons .dt (.cons .dt (.cons .ow Ctos.nil))))))) .nil), trivial⟩
    · skip
      obtain rfl : i = e.ks.length := by omega
      refine ACode.exit ?_
      refine ks_e ?_
      refine kl_e ?_
      refine kb_hit ?_
      refine ks_n ?_
      refine ACode.seq ?_
      refine .keep [(.t 1, .v (.o (.c (.ptr (rX e))))), (.t 2, .v (.o (.c (.box 760 7 0 0)))), (.t 3, .v (.o (.c (.box 761 7 0 0)))), (.b 760, .b 31 7 [[.d (dI 0), .d (dI 0), .d (.val (.slice none 0 0)), .d (dI 0), .d (dS ByteArray.empty), .d (.val (.slice none 0 0)), .d (.val (.slice none 0 0))]]), (.u 760, .u), (.b 761, .b 31 7 [[.d (dI e.k), .d (dI e.n), .d (dIs e.i.1), .d (dI e.i.2), .d (dS e.r.1), .d (dAs e.r.2), .d (dEs (e.ks.map foldE))]]), (.u 761, .u)] [(760, 110), (761, 111)] ⟨ks rfl .dt, ks rfl (.c .bx), ks rfl (.c .bx), kb 110 rfl (.cons (.cons .dt (.cons .dt (.cons .dt (.cons .dt (.cons .dt (.cons .dt (.cons .dt Ctos.nil))))))) .nil), kb 111 rfl (.cons (.cons .dt (.cons .dt (.cons .dt (.cons .dt (.cons .dt (.cons .dt (.cons (.fz rfl (by first | rfl | exact dR_ex foldE _ | (rw [List.take_length]; done)) (by first | rfl | (simp; done) | (simp; omega)) (by omega)) Ctos.nil))))))) .nil), trivial⟩ ?_
      refine ACode.region ?_
      refine .cons (.bN 7 rfl rfl rfl rfl rfl rfl) ?_
      refine .cons (.cP [.tmp 34] rfl rfl rfl rfl (hnd) rfl) ?_
      refine .cons (.sT 7 true rfl rfl rfl rfl rfl rfl rfl) ?_
      refine .nil ?_
      refine ks_n ?_
      refine ACode.ret ?_
      refine kf_ret rfl ?_ nobox
      rfl

theorem mk_op {d L : Nat} {e X Y : Ex} (h : exV d L e = true) (hk : 4 ≤ e.k ∧ e.k ≤ 6) : (.mk e.k e.n e.i e.r [X, Y] : Ex) = outE e.k X Y := by
  cases L with
  | zero => cases h
  | succ L =>
    rw [exV, Bool.and_eq_true, Bool.and_eq_true] at h
    have h1 := h.1.2
    rw [fldV, if_neg (by omega), if_neg (by omega), if_neg (by omega), Bool.and_eq_true, Bool.and_eq_true, decide_eq_true_eq] at h1
    rw [h1.1.1, nonA_iff.1 h1.1.2, nonC_iff.1 h1.2]; rfl
theorem l13Fold_fn {d : Nat} : ∀ {L : Nat} (e : Ex), szE e ≤ 1073741824 → exV d L e = true → Fn Try.prog 105 [] [ad (rX e)] (.o (ad (rX (foldE e)))) []
  | 0, e, _, h => by cases h
  | L + 1, e, hs, h => by
    have hs2 := hs
    rw [szE_eq, szC] at hs2
    have := szAs_len e.r.2
    refine l13Fold_one (by omega) (by omega) (fun x hx => by have := szAs_mem hx; omega) (by omega) (fun x hx => l13Fold_fn (L := L) x (by have := szEs_mem hx; omega) ((exV_kids h).2 x hx)) ?_
    by_cases hk : 4 ≤ e.k ∧ e.k ≤ 6
    · obtain ⟨x, y, hks⟩ := op_two h hk
      have b1 := exV_n (fold_ok ((exV_kids h).2 x (by rw [hks]; simp)))
      have b2 := exV_n (fold_ok ((exV_kids h).2 y (by rw [hks]; simp)))
      rw [foldE_op hk hks, hks, List.map_cons, List.map_cons, List.map_nil, mk_op h hk]
      exact node_op hk rfl (by omega) (by omega)
    · have hks : e.ks = [] := by
        have := mt (op_kids h).2 hk
        exact List.eq_nil_of_length_eq_zero (by omega)
      have hE : (.mk e.k e.n e.i e.r [] : Ex) = e := by rw [← hks, Ex.eta]
      rw [foldE_leaf hk, hks, List.map_nil, hE]
      exact node_leaf hks

set_option maxRecDepth 100000 in
set_option maxHeartbeats 1600000 in
theorem specFold_fn (s : Stm) (hs : szS s ≤ 1073741824) : Fn Try.prog 47 [] [ad (rS s)] (.tup [ad (rS (foldT s).1), bo1 (foldT s).2]) [] := by
  have hs2 := hs
  rw [szS, szC] at hs2
  have := szAs_len s.1.2
  refine Fn.code0 Try.func47 rfl rfl rfl rfl ?_
  refine ACode.seq ?_
  refine ACode.region ?_
  refine .cons (St1.boxP rfl rfl rfl rfl rfl rfl) ?_
  refine .cons (.al 102 [.string ByteArray.empty, .slice none 0 0, .int .i64 0, .int .i64 0, .slice none 0 0, .int .i64 0, .string ByteArray.empty, .slice none 0 0, .slice none 0 0] rfl rfl rfl) ?_
  refine .cons (.asg rfl rfl) ?_
  refine .nil ?_
  refine ks_n ?_
  refine ACode.seq ?_
  refine ACode.seq ?_
  refine ACode.region ?_
  refine .cons (.lN 9 rfl rfl rfl) ?_
  refine .cons (.cP [.tmp 4, .const (.int .i64 (4))] rfl rfl rfl rfl (specStmtV_fn 4 s (by omega)) rfl) ?_
  refine .cons (.nt rfl rfl) ?_
  refine .nil ?_
  refine ks_n ?_
  refine ACode.condT rfl (fun h6 => ?_) (fun h6 => ?_)
  · try simp only [List.length_map, decide_eq_true_eq, decide_eq_false_iff_not, Bool.not_eq_true', Bool.not_eq_false', Bool.not_eq_true, Bool.not_eq_false] at h6
    refine ACode.seq ?_
    refine ACode.region ?_
    refine .cons (.bu [] [(0, 2), (2, 7)] [.string ByteArray.empty, .slice none 0 0, .int .i64 0, .int .i64 0, .slice none 0 0, .int .i64 0, .string ByteArray.empty, .slice none 0 0, .slice none 0 0] rfl rfl rfl rfl rfl) ?_
    refine .cons (.sT 9 true rfl rfl rfl rfl rfl rfl rfl) ?_
    refine .cons (.asg rfl rfl) ?_
    refine .nil ?_
    refine ks_n ?_
    refine ACode.ret ?_
    refine ks_r ?_
    refine kf_wret [(.t 2, .v (.o (.c (.box 100 9 0 0)))), (.t 3, .v (.o (bo1 false))), (.b 100, .b 33 9 [[.d (dS ByteArray.empty), .d (dAs []), .d (dI 0), .d (dI 0), .d (dIs []), .d (dI 0), .d (dS ByteArray.empty), .d (dAs []), .d (dEs [])]]), (.u 100, .u)] (Wk.keep [(100, 102)] rfl rfl ⟨ks rfl (.c .bx), ks rfl .dt, kb 102 rfl (.cons (.cons .dt (.cons (Cto.nil _) (.cons .dt (.cons .dt (.cons (Cto.nil _) (.cons .dt (.cons .dt (.cons (Cto.nil _) (.cons (Cto.nil _) Ctos.nil))))))))) .nil), trivial⟩) rfl ?_ nobox
    rw [foldT_no h6]; rfl
  · try simp only [List.length_map, decide_eq_true_eq, decide_eq_false_iff_not, Bool.not_eq_true', Bool.not_eq_false', Bool.not_eq_true, Bool.not_eq_false] at h6
    refine ACode.skip ?_
    refine ks_n ?_
    refine ACode.seq ?_
    refine ACode.drawK (by kernel_rfl) (by kernel_rfl) ?_
    refine .cons (.fP 0 1 true rfl rfl) ?_
    refine .cons (.lN 2 rfl rfl rfl) ?_
    refine .cons (.cP [.tmp 9] rfl rfl rfl rfl (l3CopyAcc_fn s.1 (by omega) (fun x hx => by have := szAs_mem hx; omega)) rfl) ?_
    refine .cons (.fP 2 6 true rfl rfl) ?_
    refine .cons (.lN 7 rfl rfl rfl) ?_
    refine .cons (.cP [.tmp 12] rfl rfl rfl rfl (l13Fold_fn (d := 4) (L := 5) s.2 (by omega) (stmtV_ex h6).1) rfl) ?_
    refine .cons (.bu [(0, .tmp 10), (1, .tmp 13)] [(0, 2), (2, 7)] [.string ByteArray.empty, .slice none 0 0, .int .i64 0, .int .i64 0, .slice none 0 0, .int .i64 0, .string ByteArray.empty, .slice none 0 0, .slice none 0 0] rfl rfl rfl rfl rfl) ?_
    refine .cons (.sT 9 true rfl rfl rfl rfl rfl rfl rfl) ?_
    refine .cons (.asg rfl rfl) ?_
    refine .nil ⟨by kernel_rfl, ?_⟩
    refine ks_n ?_
    refine ACode.ret ?_
    refine kf_ret rfl ?_ nobox
    rw [foldT_yes h6]; rfl

set_option maxRecDepth 100000 in
set_option maxHeartbeats 1600000 in
theorem specConst_fn (s : Stm) (hs : szS s ≤ 1073741824) : Fn Try.prog 40 [] [ad (rS s)] (.tup [nat1 (cstT s).1, bo1 (cstT s).2]) [] := by
  obtain ⟨r, hr⟩ : ∃ r, r = foldT s := ⟨_, rfl⟩
  have hc : cstT s = if (r.2 && decide (r.1.2.k = 1)) = true then (r.1.2.n, true) else (0, false) := by
    rw [hr, cstT, foldT]
    cases stmtV 4 s <;> rfl
  have hF := specFold_fn s hs
  rw [← hr] at hF
  clear hr
  refine Fn.code0 Try.func40 rfl rfl rfl rfl ?_
  refine ACode.seq ?_
  refine ACode.region ?_
  refine .cons (St1.boxP rfl rfl rfl rfl rfl rfl) ?_
  refine .cons (.asg rfl rfl) ?_
  refine .cons (.asg rfl rfl) ?_
  refine .nil ?_
  refine ks_n ?_
  refine ACode.seq ?_
  refine ACode.region ?_
  refine .cons (.lN 9 rfl rfl rfl) ?_
  refine .cons (.cP [.tmp 7] rfl rfl rfl rfl (hF) rfl) ?_
  refine .cons (.mv rfl rfl) ?_
  refine .cons (.ex rfl rfl rfl) ?_
  refine .cons (.ex rfl rfl rfl) ?_
  refine .cons (.al 104 [.string ByteArray.empty, .slice none 0 0, .int .i64 0, .int .i64 0, .slice none 0 0, .int .i64 0, .string ByteArray.empty, .slice none 0 0, .slice none 0 0] rfl rfl rfl) ?_
  refine .cons (.sT 9 true rfl rfl rfl rfl rfl rfl rfl) ?_
  refine .cons (.asg rfl rfl) ?_
  refine .nil ?_
  refine ks_n ?_
  refine ACode.seq ?_
  refine ACode.seq ?_
  refine ACode.region ?_
  refine .cons (.mv rfl rfl) ?_
  refine .cons (.nt rfl rfl) ?_
  refine .cons (.mv rfl rfl) ?_
  refine AOps.cases 13 _ rfl (fun g13 => ?_) (fun g13 => ?_)
  · try simp only [List.length_map, decide_eq_true_eq, decide_eq_false_iff_not, Bool.not_eq_true', Bool.not_eq_false', Bool.not_eq_true, Bool.not_eq_false] at g13
    refine .cons (.gF rfl rfl rfl) ?_
    refine .cons (.gF rfl rfl rfl) ?_
    refine .cons (.gF rfl rfl rfl) ?_
    refine .cons (.gF rfl rfl rfl) ?_
    refine .cons (.pT rfl rfl rfl) ?_
    refine .nil ?_
    refine ks_n ?_
    refine ACode.condT rfl (fun _ => ?_) (fun h => by first | (cases h; done) | (simp [*] at h; done) | (exfalso; simp_all; done))
    refine ACode.seq ?_
    refine ACode.region ?_
    refine .cons (.asg rfl rfl) ?_
    refine .cons (.asg rfl rfl) ?_
    refine .nil ?_
    refine ks_n ?_
    refine ACode.ret ?_
    refine ks_r ?_
    refine kf_ret rfl ?_ nobox
    rw [hc]; first | (rw [if_neg (by simp [*])]; rfl) | (rw [if_pos (by simp [*])]; rfl)
  · try simp only [List.length_map, decide_eq_true_eq, decide_eq_false_iff_not, Bool.not_eq_true', Bool.not_eq_false', Bool.not_eq_true, Bool.not_eq_false] at g13
    refine .cons (.gT rfl rfl rfl (.fB 2 6 true rfl rfl rfl)) ?_
    refine .cons (.gT rfl rfl rfl (.fB 0 0 false rfl rfl rfl)) ?_
    refine .cons (.gT rfl rfl rfl (.b1 1 rfl rfl rfl rfl rfl rfl)) ?_
    refine .cons (.gT rfl rfl rfl (.ne rfl rfl rfl)) ?_
    refine .cons (.pF rfl rfl rfl) ?_
    refine .nil ?_
    refine ks_n ?_
    refine ACode.condT rfl (fun h18 => ?_) (fun h18 => ?_)
    · try simp only [List.length_map, decide_eq_true_eq, decide_eq_false_iff_not, Bool.not_eq_true', Bool.not_eq_false', Bool.not_eq_true, Bool.not_eq_false] at h18
      refine ACode.seq ?_
      refine ACode.region ?_
      refine .cons (.asg rfl rfl) ?_
      refine .cons (.asg rfl rfl) ?_
      refine .nil ?_
      refine ks_n ?_
      refine ACode.ret ?_
      refine ks_r ?_
      refine kf_ret rfl ?_ nobox
      rw [hc]; first | (rw [if_neg (by simp [*])]; rfl) | (rw [if_pos (by simp [*])]; rfl)
    · try simp only [List.length_map, decide_eq_true_eq, decide_eq_false_iff_not, Bool.not_eq_true', Bool.not_eq_false', Bool.not_eq_true, Bool.not_eq_false] at h18
      refine ACode.skip ?_
      refine ks_n ?_
      refine ACode.seq ?_
      refine ACode.region ?_
      refine .cons (.fB 2 6 true rfl rfl rfl) ?_
      refine .cons (.fB 1 0 false rfl rfl rfl) ?_
      refine .cons (.b1 1 rfl rfl rfl rfl rfl rfl) ?_
      refine .cons (.asg rfl rfl) ?_
      refine .cons (.asg rfl rfl) ?_
      refine .nil ?_
      refine ks_n ?_
      refine ACode.ret ?_
      refine kf_ret rfl ?_ nobox
      rw [hc]; first | (rw [if_neg (by simp [*])]; rfl) | (rw [if_pos (by simp [*])]; rfl)

end Go.Proofs.Ytigdfdhjnadieaa

/- Exact laws over statements; condition: nothing is too long for memory. -/
namespace Go.Proofs.Ytigdfdhjnadieaa
set_option linter.unusedVariables false
set_option linter.unusedSimpArgs false
open Go.RowKit

set_option maxRecDepth 100000 in
set_option maxHeartbeats 1600000 in
theorem lawExConst {s : Stm} (ho : okS s) : Fn Try.prog 11 [] [ad (rS s)] (.o (bo1 true)) [] := by
  refine Fn.code0 Try.func11 rfl rfl rfl rfl ?_
  refine ACode.seq ?_
  refine ACode.region ?_
  refine .cons (St1.boxP rfl rfl rfl rfl rfl rfl) ?_
  refine .cons (.asg rfl rfl) ?_
  refine .nil ?_
  refine ks_n ?_
  refine ACode.seq ?_
  refine ACode.region ?_
  refine .cons (.asg rfl rfl) ?_
  refine .nil ?_
  refine ks_n ?_
  refine ACode.seq ?_
  refine ACode.region ?_
  refine .cons (.lN 9 rfl rfl rfl) ?_
  refine .cons (.mv rfl rfl) ?_
  refine .cons (.cP [.tmp 9, .tmp 10] rfl rfl rfl rfl (szStm_fn ho (by omega)) rfl) ?_
  refine .cons (.asg rfl rfl) ?_
  refine .nil ?_
  refine ks_n ?_
  refine ACode.seq ?_
  refine ACode.seq ?_
  refine ACode.region ?_
  refine .cons (.mv rfl rfl) ?_
  refine .cons (.ls rfl rfl rfl) ?_
  refine .nil ?_
  refine ks_n ?_
  refine .cD rfl (fun h13 => ?_) (fun h13 => ?_)
  · skip
    refine ACode.seq ?_
    refine ACode.region ?_
    refine .cons (.asg rfl rfl) ?_
    refine .nil ?_
    refine ks_n ?_
    refine ACode.ret ?_
    refine ks_r ?_
    refine kf_ret rfl ?_ nobox
    rfl
  · skip
    have hP := subZ_pos h13
    have hs : szS s ≤ 1048576 := by omega
    refine ACode.skip ?_
    refine ks_n ?_
    refine ACode.seq ?_
    refine ACode.region ?_
    refine .cons (.lN 9 rfl rfl rfl) ?_
    refine .cons (.cP [.tmp 15] rfl rfl rfl rfl (toStm_fn (by omega)) rfl) ?_
    refine .cons (.cP [.tmp 16] rfl rfl rfl rfl (specConst_fn s (by omega)) rfl) ?_
    refine .cons (.mv rfl rfl) ?_
    refine .cons (.ex rfl rfl rfl) ?_
    refine .cons (.ex rfl rfl rfl) ?_
    refine .cons (.asg rfl rfl) ?_
    refine .cons (.asg rfl rfl) ?_
    refine .nil ?_
    refine ks_n ?_
    refine ACode.seq ?_
    refine ACode.region ?_
    refine .cons (.lN 9 rfl rfl rfl) ?_
    refine .cons (.cP [.tmp 20] rfl rfl rfl rfl (toStm_fn (by omega)) rfl) ?_
    refine .cons (.al 106 [.string ByteArray.empty, .slice none 0 0, .int .i64 0, .int .i64 0, .slice none 0 0, .int .i64 0, .string ByteArray.empty, .slice none 0 0, .slice none 0 0] rfl rfl rfl) ?_
    refine .cons (.sT 9 true rfl rfl rfl rfl rfl rfl rfl) ?_
    refine .nil ?_
    refine ks_n ?_
    refine ACode.seq ?_
    refine ACode.region ?_
    refine .cons (.bN 9 rfl rfl rfl rfl rfl rfl) ?_
    refine .cons (.cP [.tmp 23] rfl rfl rfl rfl (implConst_fn s (by omega)) rfl) ?_
    refine .cons (.mv rfl rfl) ?_
    refine .cons (.ex rfl rfl rfl) ?_
    refine .cons (.ex rfl rfl rfl) ?_
    refine .cons (.asg rfl rfl) ?_
    refine .cons (.asg rfl rfl) ?_
    refine .nil ?_
    refine ks_n ?_
    refine ACode.seq ?_
    refine ACode.seq ?_
    refine ACode.region ?_
    refine .cons (.mv rfl rfl) ?_
    refine .cons (.mv rfl rfl) ?_
    refine .cons (.ne rfl rfl rfl) ?_
    refine .cons (.mv rfl rfl) ?_
    refine .cND 30 rfl (fun g30 => ?_) (fun g30 => ?_)
    · skip
      exact absurd rfl g30
    · skip
      refine .cons (.gT rfl rfl rfl (.mv rfl rfl)) ?_
      refine .cons (.gT rfl rfl rfl (.mv rfl rfl)) ?_
      refine .cons (.gT rfl rfl rfl (St1.neqB rfl rfl rfl rfl (by kernel_rfl) rfl rfl)) ?_
      refine .cons (.pF rfl rfl rfl) ?_
      refine .nil ?_
      refine ks_n ?_
      refine ACode.condT rfl (fun h34 => ?_) (fun h34 => ?_)
      · try simp only [List.length_map, decide_eq_true_eq, decide_eq_false_iff_not, Bool.not_eq_true', Bool.not_eq_false', Bool.not_eq_true, Bool.not_eq_false] at h34
        simp at h34
      · try simp only [List.length_map, decide_eq_true_eq, decide_eq_false_iff_not, Bool.not_eq_true', Bool.not_eq_false', Bool.not_eq_true, Bool.not_eq_false] at h34
        refine ACode.skip ?_
        refine ks_n ?_
        refine ACode.seq ?_
        refine ACode.seq ?_
        refine ACode.drawK (by kernel_rfl) (by kernel_rfl) ?_
        refine .cons (.bN 9 rfl rfl rfl rfl rfl rfl) ?_
        refine .cons (.lN 9 rfl rfl rfl) ?_
        refine .cons (.cP [.tmp 36] rfl rfl rfl rfl (toStm_fn (by omega)) rfl) ?_
        refine .cons (.cP [.tmp 35, .tmp 37] rfl rfl rfl rfl (eqStm_fn s s (by omega)) rfl) ?_
        refine .cons (.nt rfl rfl) ?_
        refine .nil ⟨by kernel_rfl, ?_⟩
        refine ks_n ?_
        refine ACode.condT rfl (fun h39 => ?_) (fun h39 => ?_)
        · try simp only [List.length_map, decide_eq_true_eq, decide_eq_false_iff_not, Bool.not_eq_true', Bool.not_eq_false', Bool.not_eq_true, Bool.not_eq_false] at h39
          exact absurd (h39.symm.trans (sameS_refl s)) (by decide)
        · try simp only [List.length_map, decide_eq_true_eq, decide_eq_false_iff_not, Bool.not_eq_true', Bool.not_eq_false', Bool.not_eq_true, Bool.not_eq_false] at h39
          refine ACode.skip ?_
          refine ks_n ?_
          refine ACode.seq ?_
          refine ACode.region ?_
          refine .cons (.asg rfl rfl) ?_
          refine .nil ?_
          refine ks_n ?_
          refine ACode.ret ?_
          refine kf_ret rfl ?_ nobox
          rfl

end Go.Proofs.Ytigdfdhjnadieaa

/- Arguments as a law takes them; conditions: that they read, and the reach. -/
namespace Go.Proofs.Ytigdfdhjnadieaa
set_option linter.unusedVariables false
set_option linter.unusedSimpArgs false
open Go.ChangeShapes Go.WideShapes Go.ChangeAt Go.RowKit

section
variable {H : Type} {enc : TypeId × Value → H} {P : Program} {w : World} {spare : Nat → Bool} {held : Bool} {t : TypeId} {α : Type} {f : α → List D} {ok : α → Prop} {v : Value} {dd : DataW H} {ps : List MemPlace}
theorem op_agg (hop : ∀ n, OpF enc P w spare held n t f ok) (h : DataW.Trod enc P w 0 spare held t v dd ps) (hw : ∀ m ∈ dd.weights P t, m ≤ reachBytes) (hv : ∃ cs, v = .agg cs) : ∃ a, ok a ∧ V1r (fun _ => (0, 0)) (Al (lk [])) (fun b => b < w.heap.size) w (ad (f a)) v := by
  obtain ⟨fuel, hf⟩ := h
  obtain ⟨cs, rfl⟩ := hv
  obtain ⟨a, h1, h2, h3⟩ := hop fuel fuel (Nat.le_refl _) _ _ hf hw
  refine ⟨a, h1, cs.toList, by simp, by rw [List.length_map]; exact h2, fun i c u hc hu => ?_⟩
  rw [List.getElem?_map] at hc
  cases hq : (f a)[i]? with
  | none => rw [hq] at hc; cases hc
  | some d => rw [hq] at hc; cases hc; exact h3 i d u hq hu
theorem op_one {d : α → D} (hop : ∀ n, OpF enc P w spare held n t (fun a => [d a]) ok) (h : DataW.Trod enc P w 0 spare held t v dd ps) (hw : ∀ m ∈ dd.weights P t, m ≤ reachBytes) (hv : v.cells = #[v]) : ∃ a, ok a ∧ V1r (fun _ => (0, 0)) (Al (lk [])) (fun b => b < w.heap.size) w (vD (d a)) v := by
  obtain ⟨fuel, hf⟩ := h
  obtain ⟨a, h1, h2, h3⟩ := hop fuel fuel (Nat.le_refl _) _ _ hf hw
  exact ⟨a, h1, h3 0 _ v rfl (by rw [hv]; rfl)⟩
theorem okWide_agg {r : Reach} {b0 : Nat} {fs : Array Field} (ht : P.underlying t = some (.struct fs)) (h : Value.okWide P w r b0 t v) : ∃ cs, v = .agg cs := by
  unfold Value.okWide at h
  rw [ht] at h
  obtain ⟨cs, e, _⟩ := h
  exact ⟨cs, e⟩
theorem vals1_mk {R : V1 → Value → Prop} {x : V1} {u : Value} (h : R x u) : Vals R [x] [u] := ⟨rfl, fun i y v hy hv => by
  match i, hy, hv with
  | 0, hy, hv => cases hy; cases hv; exact h⟩
theorem vals2_mk {R : V1 → Value → Prop} {x y : V1} {u v : Value} (h : R x u) (h2 : R y v) : Vals R [x, y] [u, v] := .cons h (vals1_mk h2)
theorem vals3_mk {R : V1 → Value → Prop} {x y z : V1} {u v t : Value} (h : R x u) (h2 : R y v) (h3 : R z t) : Vals R [x, y, z] [u, v, t] := .cons h (vals2_mk h2 h3)
end
end Go.Proofs.Ytigdfdhjnadieaa
