/- Part 6 of 6 of the proof: laws on memory and data, then what the functions compute, in the order in which they build on each other; conditions: those that each theorem names. -/
import Derived.Test.YtigdfdhjnadieaaP5

/- Statements: mutated draws; condition: bytes. -/
namespace Go.Proofs.Ytigdfdhjnadieaa
set_option linter.unusedVariables false
set_option linter.unusedSimpArgs false
open Go.RowKit

theorem two_box {σ : St} {k1 k2 : Nat} {e1 e2 : TypeId} {s1 s2 : Nat} {r1 r2 : List (List C)} (h1 : lk σ (.b k1) = .b e1 s1 r1) (h2 : lk σ (.b k2) = .b e2 s2 r2) : ∀ k e sz rows, lk [(.b k1, .b e1 s1 r1), (.u k1, .u), (.b k2, .b e2 s2 r2), (.u k2, .u)] (.b k) = .b e sz rows → lk σ (.b k) = .b e sz rows := fun k e sz rows h => by
  by_cases hk : k = k1
  · subst hk; rw [lk_same] at h; rw [h1]; exact h
  · rw [lk_other _ _ _ _ (by simpa using fun e => hk e.symm), lk_other _ _ _ _ (by simp)] at h
    exact one_box h2 k e sz rows h
theorem two_num {σ : St} {k1 k2 : Nat} {e1 e2 : TypeId} {s1 s2 : Nat} {r1 r2 : List (List C)} (hk : (Nat.ble 100 k1 && Nat.ble 100 k2) = true) : ∀ k, k < 100 → Al (lk [(.b k1, .b e1 s1 r1), (.u k1, .u), (.b k2, .b e2 s2 r2), (.u k2, .u)]) k → Al (lk σ) k := fun k h ⟨e, sz, rows, h1⟩ => by
  rw [Bool.and_eq_true] at hk
  have a1 := Nat.le_of_ble_eq_true hk.1
  rw [lk_other _ _ _ _ (by simp; omega), lk_other _ _ _ _ (by simp)] at h1
  exact one_num hk.2 k h ⟨e, sz, rows, h1⟩
theorem outS_two {inv : Inv} {k1 k2 : Nat} {e1 e2 : TypeId} {s1 s2 : Nat} {r1 r2 : List (List D)} : outS inv [(.b k1, .b e1 s1 (dR r1)), (.u k1, .u), (.b k2, .b e2 s2 (dR r2)), (.u k2, .u)] = [(.b (asc inv k1), .b e1 s1 (dR r1)), (.u (asc inv k1), .u), (.b (asc inv k2), .b e2 s2 (dR r2)), (.u (asc inv k2), .u)] := by simp [outS, renR_dR]

set_option maxRecDepth 100000 in
set_option maxHeartbeats 1600000 in
theorem l3CopyAcc_own (a : Acc) (h0 : 0 < a.2.length) (ha : a.2.length ≤ 1073741824) (hq : ∀ x ∈ a.2, x.1.length ≤ 1073741824) : Fn Try.prog 104 [] [ad (rC a)] (.o (.agg [.d (dS a.1), .own 101 2 a.2.length])) [(.b 101, .b 28 2 (dR (a.2.map rA))), (.u 101, .u)] := by
  refine Fn.of_code Try.func104 rfl rfl HB.nil rfl rfl HB.nil.data rfl (one_num rfl) ?_
  refine ACode.seq ?_
  refine ACode.region ?_
  refine .cons (St1.boxP rfl rfl rfl rfl rfl rfl) ?_
  refine .cons (.al 102 [.string ByteArray.empty, .slice none 0 0] rfl rfl rfl) ?_
  refine .nil ?_
  refine ks_n ?_
  refine ACode.seq ?_
  refine ACode.region ?_
  refine .cons (.fP 0 0 false rfl rfl) ?_
  refine .cons (.l1 1 rfl rfl) ?_
  refine .cons (.bu [(0, .tmp 6)] [(0, 1), (1, 1)] [.string ByteArray.empty, .slice none 0 0] rfl rfl rfl rfl rfl) ?_
  refine .cons (.al 103 [.string ByteArray.empty, .slice none 0 0] rfl rfl rfl) ?_
  refine .cons (.sT 2 true rfl rfl rfl rfl rfl rfl rfl) ?_
  refine .nil ?_
  refine ks_n ?_
  refine ACode.seq ?_
  refine ACode.seq ?_
  refine ACode.region ?_
  refine .cons (.asg rfl rfl) ?_
  refine .nil ?_
  refine ks_n ?_
  refine ACode.block ?_
  refine .loopK (fun m σ => (∃ i : Nat, m = a.2.length - i ∧ (i = 0) ∧ σ = [(.t 1, .v (.o (.c (.ptr (rC a))))), (.t 2, .v (.o (.c (.box 110 2 0 0)))), (.t 3, .v (.o (.c (.box 111 2 0 0)))), (.t 4, .v (.o (nat1 (i : Nat)))), (.b 110, .b 25 2 [[.d (dS ByteArray.empty), .d (.val (.slice none 0 0))]]), (.u 110, .u), (.b 111, .b 25 2 [[.d (dS a.1), .d (.val (.slice none 0 0))]]), (.u 111, .u)]) ∨ (∃ i : Nat, m = a.2.length - i ∧ (1 ≤ i) ∧ (i ≤ a.2.length) ∧ σ = [(.t 1, .v (.o (.c (.ptr (rC a))))), (.t 2, .v (.o (.c (.box 110 2 0 0)))), (.t 3, .v (.o (.c (.box 111 2 0 0)))), (.t 4, .v (.o (nat1 (i : Nat)))), (.b 110, .b 25 2 [[.d (dS ByteArray.empty), .d (.val (.slice none 0 0))]]), (.u 110, .u), (.b 112, .b 28 2 (dR ((a.2.take i).map rA))), (.u 112, .u), (.b 111, .b 25 2 [[.d (dS a.1), .own 112 2 (i)]]), (.u 111, .u)])) [(110, 102), (111, 103)] (.inl ⟨0, rfl, rfl, rfl⟩) ⟨ks rfl .dt, ks rfl (.c .bx), ks rfl (.c .bx), ks rfl .dt, kb 102 rfl (.cons (.cons .dt (.cons .dt Ctos.nil)) .nil), kb 103 rfl (.cons (.cons .dt (.cons .dt Ctos.nil)) .nil), trivial⟩ ?_
  rintro m σ (⟨i, hm0, rfl, rfl⟩ | ⟨i, hm0, hi1, hi2, rfl⟩)
  · skip
    refine ACode.seq ?_
    refine ACode.seq ?_
    refine ACode.region ?_
    refine .cons (.mv rfl rfl) ?_
    refine .cons (.fP 1 0 false rfl rfl) ?_
    refine .cons (.l1 1 rfl rfl) ?_
    refine .cons (.ln 28 2 32 rfl rfl rfl) ?_
    refine .cons (.ls rfl rfl rfl) ?_
    refine .nil ?_
    refine ks_n ?_
    refine .cD rfl (fun h12 => ?_) (fun h12 => ?_)
    · skip
      obtain ⟨x, hx1⟩ : ∃ x, a.2[0]? = some x := ⟨_, List.getElem?_eq_getElem (by omega)⟩
      refine ACode.skip ?_
      refine ks_n ?_
      refine ACode.seq ?_
      refine ACode.block ?_
      refine ACode.drawK (by kernel_rfl) (by kernel_rfl) ?_
      refine .cons (.fB 1 0 false rfl rfl rfl) ?_
      refine .cons (.b1 1 rfl rfl rfl rfl rfl rfl) ?_
      refine .cons (.fP 1 0 false rfl rfl) ?_
      refine .cons (.l1 1 rfl rfl) ?_
      refine .cons (.mv rfl rfl) ?_
      refine .cons (.xL 28 2 32 rfl rfl rfl rfl rfl) ?_
      refine .cons (.lN 2 rfl rfl rfl) ?_
      refine .cons (.cP [.tmp 21] rfl rfl rfl rfl (l3CopyAff_fn (hq x (List.mem_of_getElem? hx1))) rfl) ?_
      refine .cons (.li 28 1 0 [.tmp 22] rfl rfl rfl rfl rfl rfl) ?_
      refine .cons (St1.appN (k' := 124) (e := 28) (sz := 1) (by' := 32) rfl rfl rfl rfl rfl (by kernel_rfl) rfl rfl rfl (by simp) (by first | (simp [dR]; done) | (simp [dR]; omega)) rfl rfl) ?_
      refine .cons (.fB 1 0 false rfl rfl rfl) ?_
      refine .cons (.sT 1 false rfl rfl rfl rfl rfl rfl rfl) ?_
      refine .nil ⟨by kernel_rfl, ?_⟩
      refine kb_n ?_
      refine ks_n ?_
      refine ACode.region ?_
      refine .cons (.mv rfl rfl) ?_
      refine .cons (.pl rfl rfl rfl) ?_
      refine .cons (.asg rfl rfl) ?_
      refine .nil ?_
      refine kl_k [(110, 110), (111, 111), (112, 124)] (.inr ⟨1, rfl, by omega, by omega, rfl⟩) ⟨ks rfl .dt, ks rfl (.c .bx), ks rfl (.c .bx), ks rfl .dt, kb 110 rfl (.cons (.cons .dt (.cons .dt Ctos.nil)) .nil), kb 124 rfl (.dt rfl (by first | exact dR_take (rA) hx1 | exact dR_take1 (rA) hx1 | rfl | (simp [dR]; done))), kb 111 rfl (.cons (.cons .dt (.cons .ow Ctos.nil)) .nil), trivial⟩
    · skip
      omega
  · skip
    refine ACode.seq ?_
    refine ACode.seq ?_
    refine ACode.region ?_
    refine .cons (.mv rfl rfl) ?_
    refine .cons (.fP 1 0 false rfl rfl) ?_
    refine .cons (.l1 1 rfl rfl) ?_
    refine .cons (.ln 28 2 32 rfl rfl rfl) ?_
    refine .cons (.ls rfl rfl rfl) ?_
    refine .nil ?_
    refine ks_n ?_
    refine .cD rfl (fun h12 => ?_) (fun h12 => ?_)
    · skip
      obtain ⟨x, hx1⟩ : ∃ x, a.2[i]? = some x := ⟨_, List.getElem?_eq_getElem (by omega)⟩
      refine ACode.skip ?_
      refine ks_n ?_
      refine ACode.seq ?_
      refine ACode.block ?_
      refine ACode.drawK (by kernel_rfl) (by kernel_rfl) ?_
      refine .cons (.fB 1 0 false rfl rfl rfl) ?_
      refine .cons (.b1 1 rfl rfl rfl rfl rfl rfl) ?_
      refine .cons (.fP 1 0 false rfl rfl) ?_
      refine .cons (.l1 1 rfl rfl) ?_
      refine .cons (.mv rfl rfl) ?_
      refine .cons (.xL 28 2 32 rfl rfl rfl rfl rfl) ?_
      refine .cons (.lN 2 rfl rfl rfl) ?_
      refine .cons (.cP [.tmp 21] rfl rfl rfl rfl (l3CopyAff_fn (hq x (List.mem_of_getElem? hx1))) rfl) ?_
      refine .cons (.li 28 1 0 [.tmp 22] rfl rfl rfl rfl rfl rfl) ?_
      refine .cons (St1.appB (k' := 124) (e := 28) (sz := 1) (by' := 32) rfl rfl rfl rfl rfl (by kernel_rfl) rfl rfl rfl rfl (by first | (simp [dR]; done) | (simp [dR]; omega)) (by first | (simp [dR]; done) | (simp [dR]; omega)) rfl rfl rfl) ?_
      refine .cons (.fB 1 0 false rfl rfl rfl) ?_
      refine .cons (.sT 1 false rfl rfl rfl rfl rfl rfl rfl) ?_
      refine .nil ⟨by kernel_rfl, ?_⟩
      refine kb_n ?_
      refine ks_n ?_
      refine ACode.region ?_
      refine .cons (.mv rfl rfl) ?_
      refine .cons (.pl rfl rfl rfl) ?_
      refine .cons (.asg rfl rfl) ?_
      refine .nil ?_
      refine kl_k [(110, 110), (111, 111), (112, 124)] (.inr ⟨i + 1, rfl, by omega, by omega, rfl⟩) ⟨ks rfl .dt, ks rfl (.c .bx), ks rfl (.c .bx), ks rfl .dt, kb 110 rfl (.cons (.cons .dt (.cons .dt Ctos.nil)) .nil), kb 124 rfl (.dt rfl (by first | exact dR_take (rA) hx1 | exact dR_take1 (rA) hx1 | rfl | (simp [dR]; done))), kb 111 rfl (.cons (.cons .dt (.cons .ow Ctos.nil)) .nil), trivial⟩
    · skip
      obtain rfl : i = a.2.length := by omega
      refine ACode.exit ?_
      refine ks_e ?_
      refine kl_e ?_
      refine kb_hit ?_
      refine ks_n ?_
      refine ACode.seq ?_
      refine ACode.region ?_
      refine .cons (.bN 2 rfl rfl rfl rfl rfl rfl) ?_
      refine .cons (.sT 2 true rfl rfl rfl rfl rfl rfl rfl) ?_
      refine .nil ?_
      refine ks_n ?_
      refine ACode.ret ?_
      refine kf_wret [(.t 2, .v (.o (.c (.box 100 2 0 0)))), (.b 101, .b 28 2 (dR (a.2.map rA))), (.u 101, .u), (.b 100, .b 25 2 [[.d (dS a.1), .own 101 2 (a.2.length)]]), (.u 100, .u)] (Wk.keep [(100, 110), (101, 112)] rfl rfl ⟨ks rfl (.c .bx), kb 112 rfl (.dt rfl (by rw [List.take_length])), kb 110 rfl (.cons (.cons .dt (.cons .ow Ctos.nil)) .nil), trivial⟩) rfl ?_ (one_box rfl)
      rfl

set_option maxRecDepth 100000 in
set_option maxHeartbeats 1600000 in
theorem l3CopyEx_own (e : Ex) (hi : e.i.1.length ≤ 1073741824) (hr : e.r.2.length ≤ 1073741824) (hq : ∀ x ∈ e.r.2, x.1.length ≤ 1073741824) (hk : e.ks.length ≤ 1073741824) (hz : ∀ x ∈ e.ks, szE x ≤ 1073741824) (h0 : 0 < e.ks.length) : Fn Try.prog 142 [] [ad (rX e)] (.o (.agg [.d (dI e.k), .d (dI e.n), .d (dIs e.i.1), .d (dI e.i.2), .d (dS e.r.1), .d (dAs e.r.2), .own 101 7 e.ks.length])) [(.b 101, .b 31 7 (dR (e.ks.map rE))), (.u 101, .u)] := by
  refine Fn.of_code Try.func142 rfl rfl HB.nil rfl rfl HB.nil.data rfl (one_num rfl) ?_
  refine ACode.seq ?_
  refine ACode.region ?_
  refine .cons (St1.boxP rfl rfl rfl rfl rfl rfl) ?_
  refine .cons (.al 102 [.int .i64 0, .int .i64 0, .slice none 0 0, .int .i64 0, .string ByteArray.empty, .slice none 0 0, .slice none 0 0] rfl rfl rfl) ?_
  refine .nil ?_
  refine ks_n ?_
  refine ACode.seq ?_
  refine ACode.drawK (by kernel_rfl) (by kernel_rfl) ?_
  refine .cons (.fP 0 0 false rfl rfl) ?_
  refine .cons (.l1 1 rfl rfl) ?_
  refine .cons (.fP 1 0 false rfl rfl) ?_
  refine .cons (.l1 1 rfl rfl) ?_
  refine .cons (.fP 2 1 true rfl rfl) ?_
  refine .cons (.lN 2 rfl rfl rfl) ?_
  refine .cons (.cP [.tmp 10] rfl rfl rfl rfl (l3CopyAff_fn hi) rfl) ?_
  refine .cons (.fP 4 1 true rfl rfl) ?_
  refine .cons (.lN 2 rfl rfl rfl) ?_
  refine .cons (.cP [.tmp 13] rfl rfl rfl rfl (l3CopyAcc_fn e.r hr hq) rfl) ?_
  refine .cons (.bu [(0, .tmp 6), (1, .tmp 8), (2, .tmp 11), (3, .tmp 14)] [(0, 1), (1, 1), (2, 2), (4, 2), (6, 1)] [.int .i64 0, .int .i64 0, .slice none 0 0, .int .i64 0, .string ByteArray.empty, .slice none 0 0, .slice none 0 0] rfl rfl rfl rfl rfl) ?_
  refine .cons (.al 103 [.int .i64 0, .int .i64 0, .slice none 0 0, .int .i64 0, .string ByteArray.empty, .slice none 0 0, .slice none 0 0] rfl rfl rfl) ?_
  refine .cons (.sT 7 true rfl rfl rfl rfl rfl rfl rfl) ?_
  refine .nil ⟨by kernel_rfl, ?_⟩
  refine ks_n ?_
  refine ACode.seq ?_
  refine ACode.seq ?_
  refine ACode.region ?_
  refine .cons (.asg rfl rfl) ?_
  refine .nil ?_
  refine ks_n ?_
  refine ACode.block ?_
  refine .loopK (fun m σ => (∃ i : Nat, m = e.ks.length - i ∧ (i = 0) ∧ σ = [(.t 1, .v (.o (.c (.ptr (rX e))))), (.t 2, .v (.o (.c (.box 110 7 0 0)))), (.t 3, .v (.o (.c (.box 111 7 0 0)))), (.t 4, .v (.o (nat1 (i : Nat)))), (.b 110, .b 31 7 [[.d (dI 0), .d (dI 0), .d (.val (.slice none 0 0)), .d (dI 0), .d (dS ByteArray.empty), .d (.val (.slice none 0 0)), .d (.val (.slice none 0 0))]]), (.u 110, .u), (.b 111, .b 31 7 [[.d (dI e.k), .d (dI e.n), .d (dIs e.i.1), .d (dI e.i.2), .d (dS e.r.1), .d (dAs e.r.2), .d (.val (.slice none 0 0))]]), (.u 111, .u)]) ∨ (∃ i : Nat, m = e.ks.length - i ∧ (1 ≤ i) ∧ (i ≤ e.ks.length) ∧ σ = [(.t 1, .v (.o (.c (.ptr (rX e))))), (.t 2, .v (.o (.c (.box 110 7 0 0)))), (.t 3, .v (.o (.c (.box 111 7 0 0)))), (.t 4, .v (.o (nat1 (i : Nat)))), (.b 110, .b 31 7 [[.d (dI 0), .d (dI 0), .d (.val (.slice none 0 0)), .d (dI 0), .d (dS ByteArray.empty), .d (.val (.slice none 0 0)), .d (.val (.slice none 0 0))]]), (.u 110, .u), (.b 112, .b 31 7 (dR ((e.ks.take i).map fun x => rX x))), (.u 112, .u), (.b 111, .b 31 7 [[.d (dI e.k), .d (dI e.n), .d (dIs e.i.1), .d (dI e.i.2), .d (dS e.r.1), .d (dAs e.r.2), .own 112 7 (i)]]), (.u 111, .u)])) [(110, 102), (111, 103)] (.inl ⟨0, rfl, rfl, rfl⟩) ⟨ks rfl .dt, ks rfl (.c .bx), ks rfl (.c .bx), ks rfl .dt, kb 102 rfl (.cons (.cons .dt (.cons .dt (.cons .dt (.cons .dt (.cons .dt (.cons .dt (.cons .dt Ctos.nil))))))) .nil), kb 103 rfl (.cons (.cons .dt (.cons .dt (.cons .dt (.cons .dt (.cons .dt (.cons .dt (.cons .dt Ctos.nil))))))) .nil), trivial⟩ ?_
  rintro m σ (⟨i, hm0, rfl, rfl⟩ | ⟨i, hm0, hi1, hi2, rfl⟩)
  · skip
    refine ACode.seq ?_
    refine ACode.seq ?_
    refine ACode.region ?_
    refine .cons (.mv rfl rfl) ?_
    refine .cons (.fP 6 0 false rfl rfl) ?_
    refine .cons (.l1 1 rfl rfl) ?_
    refine .cons (.ln 31 7 112 rfl rfl rfl) ?_
    refine .cons (.ls rfl rfl rfl) ?_
    refine .nil ?_
    refine ks_n ?_
    refine .cD rfl (fun h20 => ?_) (fun h20 => ?_)
    · skip
      obtain ⟨x, hx1⟩ : ∃ x, e.ks[0]? = some x := ⟨_, List.getElem?_eq_getElem (by omega)⟩
      refine ACode.skip ?_
      refine ks_n ?_
      refine ACode.seq ?_
      refine ACode.block ?_
      refine ACode.drawK (by kernel_rfl) (by kernel_rfl) ?_
      refine .cons (.fB 6 0 false rfl rfl rfl) ?_
      refine .cons (.b1 1 rfl rfl rfl rfl rfl rfl) ?_
      refine .cons (.fP 6 0 false rfl rfl) ?_
      refine .cons (.l1 1 rfl rfl) ?_
      refine .cons (.mv rfl rfl) ?_
      refine .cons (.xL 31 7 112 rfl rfl rfl rfl rfl (rE_at hx1)) ?_
      refine .cons (.lN 7 rfl rfl rfl) ?_
      refine .cons (.cP [.tmp 29] rfl rfl rfl rfl (l3CopyEx_fn x (hz x (List.mem_of_getElem? hx1))) rfl) ?_
      refine .cons (.li 31 6 0 [.tmp 30] rfl rfl rfl rfl rfl rfl) ?_
      refine .cons (St1.appN (k' := 132) (e := 31) (sz := 6) (by' := 112) rfl rfl rfl rfl rfl (by kernel_rfl) rfl rfl rfl (by simp) (by first | (simp [dR]; done) | (simp [dR]; omega)) rfl rfl) ?_
      refine .cons (.fB 6 0 false rfl rfl rfl) ?_
      refine .cons (.sT 1 false rfl rfl rfl rfl rfl rfl rfl) ?_
      refine .nil ⟨by kernel_rfl, ?_⟩
      refine kb_n ?_
      refine ks_n ?_
      refine ACode.region ?_
      refine .cons (.mv rfl rfl) ?_
      refine .cons (.pl rfl rfl rfl) ?_
      refine .cons (.asg rfl rfl) ?_
      refine .nil ?_
      refine kl_k [(110, 110), (111, 111), (112, 132)] (.inr ⟨1, rfl, by omega, by omega, rfl⟩) ⟨ks rfl .dt, ks rfl (.c .bx), ks rfl (.c .bx), ks rfl .dt, kb 110 rfl (.cons (.cons .dt (.cons .dt (.cons .dt (.cons .dt (.cons .dt (.cons .dt (.cons .dt Ctos.nil))))))) .nil), kb 132 rfl (.dt rfl (by first | exact dR_take (fun x => rX x) hx1 | exact dR_take1 (fun x => rX x) hx1 | rfl | (simp [dR]; done))), kb 111 rfl (.cons (.cons .dt (.cons .dt (.cons .dt (.cons .dt (.cons .dt (.cons .dt (.cons .ow Ctos.nil))))))) .nil), trivial⟩
    · skip
      omega
  · skip
    refine ACode.seq ?_
    refine ACode.seq ?_
    refine ACode.region ?_
    refine .cons (.mv rfl rfl) ?_
    refine .cons (.fP 6 0 false rfl rfl) ?_
    refine .cons (.l1 1 rfl rfl) ?_
    refine .cons (.ln 31 7 112 rfl rfl rfl) ?_
    refine .cons (.ls rfl rfl rfl) ?_
    refine .nil ?_
    refine ks_n ?_
    refine .cD rfl (fun h20 => ?_) (fun h20 => ?_)
    · skip
      obtain ⟨x, hx1⟩ : ∃ x, e.ks[i]? = some x := ⟨_, List.getElem?_eq_getElem (by omega)⟩
      refine ACode.skip ?_
      refine ks_n ?_
      refine ACode.seq ?_
      refine ACode.block ?_
      refine ACode.drawK (by kernel_rfl) (by kernel_rfl) ?_
      refine .cons (.fB 6 0 false rfl rfl rfl) ?_
      refine .cons (.b1 1 rfl rfl rfl rfl rfl rfl) ?_
      refine .cons (.fP 6 0 false rfl rfl) ?_
      refine .cons (.l1 1 rfl rfl) ?_
      refine .cons (.mv rfl rfl) ?_
      refine .cons (.xL 31 7 112 rfl rfl rfl rfl rfl (rE_at hx1)) ?_
      refine .cons (.lN 7 rfl rfl rfl) ?_
      refine .cons (.cP [.tmp 29] rfl rfl rfl rfl (l3CopyEx_fn x (hz x (List.mem_of_getElem? hx1))) rfl) ?_
      refine .cons (.li 31 6 0 [.tmp 30] rfl rfl rfl rfl rfl rfl) ?_
      refine .cons (St1.appB (k' := 132) (e := 31) (sz := 6) (by' := 112) rfl rfl rfl rfl rfl (by kernel_rfl) rfl rfl rfl rfl (by first | (simp [dR]; done) | (simp [dR]; omega)) (by first | (simp [dR]; done) | (simp [dR]; omega)) rfl rfl rfl) ?_
      refine .cons (.fB 6 0 false rfl rfl rfl) ?_
      refine .cons (.sT 1 false rfl rfl rfl rfl rfl rfl rfl) ?_
      refine .nil ⟨by kernel_rfl, ?_⟩
      refine kb_n ?_
      refine ks_n ?_
      refine ACode.region ?_
      refine .cons (.mv rfl rfl) ?_
      refine .cons (.pl rfl rfl rfl) ?_
      refine .cons (.asg rfl rfl) ?_
      refine .nil ?_
      refine kl_k [(110, 110), (111, 111), (112, 132)] (.inr ⟨i + 1, rfl, by omega, by omega, rfl⟩) ⟨ks rfl .dt, ks rfl (.c .bx), ks rfl (.c .bx), ks rfl .dt, kb 110 rfl (.cons (.cons .dt (.cons .dt (.cons .dt (.cons .dt (.cons .dt (.cons .dt (.cons .dt Ctos.nil))))))) .nil), kb 132 rfl (.dt rfl (by first | exact dR_take (fun x => rX x) hx1 | exact dR_take1 (fun x => rX x) hx1 | rfl | (simp [dR]; done))), kb 111 rfl (.cons (.cons .dt (.cons .dt (.cons .dt (.cons .dt (.cons .dt (.cons .dt (.cons .ow Ctos.nil))))))) .nil), trivial⟩
    · skip
      obtain rfl : i = e.ks.length := by omega
      refine ACode.exit ?_
      refine ks_e ?_
      refine kl_e ?_
      refine kb_hit ?_
      refine ks_n ?_
      refine ACode.seq ?_
      refine ACode.region ?_
      refine .cons (.bN 7 rfl rfl rfl rfl rfl rfl) ?_
      refine .cons (.sT 7 true rfl rfl rfl rfl rfl rfl rfl) ?_
      refine .nil ?_
      refine ks_n ?_
      refine ACode.ret ?_
      refine kf_wret [(.t 2, .v (.o (.c (.box 100 7 0 0)))), (.b 101, .b 31 7 (dR (e.ks.map rE))), (.u 101, .u), (.b 100, .b 31 7 [[.d (dI e.k), .d (dI e.n), .d (dIs e.i.1), .d (dI e.i.2), .d (dS e.r.1), .d (dAs e.r.2), .own 101 7 (e.ks.length)]]), (.u 100, .u)] (Wk.keep [(100, 110), (101, 112)] rfl rfl ⟨ks rfl (.c .bx), kb 112 rfl (.dt rfl (by first | exact (dR_ex id _).trans (by rw [List.map_id]) | (rw [List.take_length]; done))), kb 110 rfl (.cons (.cons .dt (.cons .dt (.cons .dt (.cons .dt (.cons .dt (.cons .dt (.cons .ow Ctos.nil))))))) .nil), trivial⟩) rfl ?_ (one_box rfl)
      rfl

set_option maxRecDepth 100000 in
set_option maxHeartbeats 1600000 in
theorem l3CopyEx_nil (e : Ex) (hi : e.i.1.length ≤ 1073741824) (hr : e.r.2.length ≤ 1073741824) (hq : ∀ x ∈ e.r.2, x.1.length ≤ 1073741824) (hk : e.ks.length ≤ 1073741824) (hz : ∀ x ∈ e.ks, szE x ≤ 1073741824) (h0 : e.ks.length = 0) : Fn Try.prog 142 [] [ad (rX e)] (.o (.agg [.d (dI e.k), .d (dI e.n), .d (dIs e.i.1), .d (dI e.i.2), .d (dS e.r.1), .d (dAs e.r.2), .d (.val (.slice none 0 0))])) [] := by
  refine Fn.code0 Try.func142 rfl rfl rfl rfl ?_
  refine ACode.seq ?_
  refine ACode.region ?_
  refine .cons (St1.boxP rfl rfl rfl rfl rfl rfl) ?_
  refine .cons (.al 102 [.int .i64 0, .int .i64 0, .slice none 0 0, .int .i64 0, .string ByteArray.empty, .slice none 0 0, .slice none 0 0] rfl rfl rfl) ?_
  refine .nil ?_
  refine ks_n ?_
  refine ACode.seq ?_
  refine ACode.drawK (by kernel_rfl) (by kernel_rfl) ?_
  refine .cons (.fP 0 0 false rfl rfl) ?_
  refine .cons (.l1 1 rfl rfl) ?_
  refine .cons (.fP 1 0 false rfl rfl) ?_
  refine .cons (.l1 1 rfl rfl) ?_
  refine .cons (.fP 2 1 true rfl rfl) ?_
  refine .cons (.lN 2 rfl rfl rfl) ?_
  refine .cons (.cP [.tmp 10] rfl rfl rfl rfl (l3CopyAff_fn hi) rfl) ?_
  refine .cons (.fP 4 1 true rfl rfl) ?_
  refine .cons (.lN 2 rfl rfl rfl) ?_
  refine .cons (.cP [.tmp 13] rfl rfl rfl rfl (l3CopyAcc_fn e.r hr hq) rfl) ?_
  refine .cons (.bu [(0, .tmp 6), (1, .tmp 8), (2, .tmp 11), (3, .tmp 14)] [(0, 1), (1, 1), (2, 2), (4, 2), (6, 1)] [.int .i64 0, .int .i64 0, .slice none 0 0, .int .i64 0, .string ByteArray.empty, .slice none 0 0, .slice none 0 0] rfl rfl rfl rfl rfl) ?_
  refine .cons (.al 103 [.int .i64 0, .int .i64 0, .slice none 0 0, .int .i64 0, .string ByteArray.empty, .slice none 0 0, .slice none 0 0] rfl rfl rfl) ?_
  refine .cons (.sT 7 true rfl rfl rfl rfl rfl rfl rfl) ?_
  refine .nil ⟨by kernel_rfl, ?_⟩
  refine ks_n ?_
  refine ACode.seq ?_
  refine ACode.seq ?_
  refine ACode.region ?_
  refine .cons (.asg rfl rfl) ?_
  refine .nil ?_
  refine ks_n ?_
  refine ACode.block ?_
  refine .loopK (fun m σ => (∃ i : Nat, m = e.ks.length - i ∧ (i = 0) ∧ σ = [(.t 1, .v (.o (.c (.ptr (rX e))))), (.t 2, .v (.o (.c (.box 110 7 0 0)))), (.t 3, .v (.o (.c (.box 111 7 0 0)))), (.t 4, .v (.o (nat1 (i : Nat)))), (.b 110, .b 31 7 [[.d (dI 0), .d (dI 0), .d (.val (.slice none 0 0)), .d (dI 0), .d (dS ByteArray.empty), .d (.val (.slice none 0 0)), .d (.val (.slice none 0 0))]]), (.u 110, .u), (.b 111, .b 31 7 [[.d (dI e.k), .d (dI e.n), .d (dIs e.i.1), .d (dI e.i.2), .d (dS e.r.1), .d (dAs e.r.2), .d (.val (.slice none 0 0))]]), (.u 111, .u)]) ∨ (∃ i : Nat, m = e.ks.length - i ∧ (1 ≤ i) ∧ (i ≤ e.ks.length) ∧ σ = [(.t 1, .v (.o (.c (.ptr (rX e))))), (.t 2, .v (.o (.c (.box 110 7 0 0)))), (.t 3, .v (.o (.c (.box 111 7 0 0)))), (.t 4, .v (.o (nat1 (i : Nat)))), (.b 110, .b 31 7 [[.d (dI 0), .d (dI 0), .d (.val (.slice none 0 0)), .d (dI 0), .d (dS ByteArray.empty), .d (.val (.slice none 0 0)), .d (.val (.slice none 0 0))]]), (.u 110, .u), (.b 112, .b 31 7 (dR ((e.ks.take i).map fun x => rX x))), (.u 112, .u), (.b 111, .b 31 7 [[.d (dI e.k), .d (dI e.n), .d (dIs e.i.1), .d (dI e.i.2), .d (dS e.r.1), .d (dAs e.r.2), .own 112 7 (i)]]), (.u 111, .u)])) [(110, 102), (111, 103)] (.inl ⟨0, rfl, rfl, rfl⟩) ⟨ks rfl .dt, ks rfl (.c .bx), ks rfl (.c .bx), ks rfl .dt, kb 102 rfl (.cons (.cons .dt (.cons .dt (.cons .dt (.cons .dt (.cons .dt (.cons .dt (.cons .dt Ctos.nil))))))) .nil), kb 103 rfl (.cons (.cons .dt (.cons .dt (.cons .dt (.cons .dt (.cons .dt (.cons .dt (.cons .dt Ctos.nil))))))) .nil), trivial⟩ ?_
  rintro m σ (⟨i, hm0, rfl, rfl⟩ | ⟨i, hm0, hi1, hi2, rfl⟩)
  · skip
    refine ACode.seq ?_
    refine ACode.seq ?_
    refine ACode.region ?_
    refine .cons (.mv rfl rfl) ?_
    refine .cons (.fP 6 0 false rfl rfl) ?_
    refine .cons (.l1 1 rfl rfl) ?_
    refine .cons (.ln 31 7 112 rfl rfl rfl) ?_
    refine .cons (.ls rfl rfl rfl) ?_
    refine .nil ?_
    refine ks_n ?_
    refine .cD rfl (fun h20 => ?_) (fun h20 => ?_)
    · skip
      omega
    · skip
      have hn : e.ks = [] := List.eq_nil_of_length_eq_zero (by omega)
      refine ACode.exit ?_
      refine ks_e ?_
      refine kl_e ?_
      refine kb_hit ?_
      refine ks_n ?_
      refine ACode.seq ?_
      refine ACode.region ?_
      refine .cons (.bN 7 rfl rfl rfl rfl rfl rfl) ?_
      refine .cons (.sT 7 true rfl rfl rfl rfl rfl rfl rfl) ?_
      refine .nil ?_
      refine ks_n ?_
      refine ACode.ret ?_
      refine kf_wret [(.t 2, .v (.o (.c (.box 100 7 0 0)))), (.b 100, .b 31 7 [[.d (dI e.k), .d (dI e.n), .d (dIs e.i.1), .d (dI e.i.2), .d (dS e.r.1), .d (dAs e.r.2), .d (.val (.slice none 0 0))]]), (.u 100, .u)] (Wk.keep [(100, 110)] rfl rfl ⟨ks rfl (.c .bx), kb 110 rfl (.cons (.cons .dt (.cons .dt (.cons .dt (.cons .dt (.cons .dt (.cons .dt (.cons .dt Ctos.nil))))))) .nil), trivial⟩) rfl ?_ nobox
      rfl
  · skip
    refine ACode.seq ?_
    refine ACode.seq ?_
    refine ACode.region ?_
    refine .cons (.mv rfl rfl) ?_
    refine .cons (.fP 6 0 false rfl rfl) ?_
    refine .cons (.l1 1 rfl rfl) ?_
    refine .cons (.ln 31 7 112 rfl rfl rfl) ?_
    refine .cons (.ls rfl rfl rfl) ?_
    refine .nil ?_
    refine ks_n ?_
    refine .cD rfl (fun h20 => ?_) (fun h20 => ?_)
    · skip
      omega
    · skip
      omega

set_option maxRecDepth 100000 in
set_option maxHeartbeats 1600000 in
theorem l3Copy_nil (s : Stm) (hs : szS s ≤ 1073741824) (h1 : 0 < s.1.2.length) (h0 : s.2.ks.length = 0) : Fn Try.prog 94 [] [ad (rS s)] (.o (.agg [.d (dS s.1.1), .own 101 2 s.1.2.length, .d (dI s.2.k), .d (dI s.2.n), .d (dIs s.2.i.1), .d (dI s.2.i.2), .d (dS s.2.r.1), .d (dAs s.2.r.2), .d (.val (.slice none 0 0))])) [(.b 101, .b 28 2 (dR (s.1.2.map rA))), (.u 101, .u)] := by
  have hs3 := hs
  rw [szS, szC] at hs
  have hl := szAs_len s.1.2
  have hE := szE_eq s.2
  have hC : szC s.2.r = s.2.r.1.size + szAs s.2.r.2 := rfl
  have hl2 := szAs_len s.2.r.2
  refine Fn.of_code Try.func94 rfl rfl HB.nil rfl rfl HB.nil.data rfl (one_num rfl) ?_
  refine ACode.seq ?_
  refine ACode.region ?_
  refine .cons (St1.boxP rfl rfl rfl rfl rfl rfl) ?_
  refine .cons (.al 102 [.string ByteArray.empty, .slice none 0 0, .int .i64 0, .int .i64 0, .slice none 0 0, .int .i64 0, .string ByteArray.empty, .slice none 0 0, .slice none 0 0] rfl rfl rfl) ?_
  refine .nil ?_
  refine ks_n ?_
  refine ACode.seq ?_
  refine ACode.drawK (by kernel_rfl) (by kernel_rfl) ?_
  refine .cons (.fP 0 1 true rfl rfl) ?_
  refine .cons (.lN 2 rfl rfl rfl) ?_
  refine .cons (.cO [.tmp 4] [(101, 605)] rfl rfl rfl rfl (l3CopyAcc_own s.1 h1 (by omega) (fun x hx => by have := szAs_mem hx; omega)) rfl trivial flatS.nil (flatS.nil.cons rfl) HB.nil.data outS_one) ?_
  refine .cons (.fP 2 6 true rfl rfl) ?_
  refine .cons (.lN 7 rfl rfl rfl) ?_
  refine .cons (.cP [.tmp 7] rfl rfl rfl rfl (l3CopyEx_nil s.2 (by omega) (by omega) (fun x hx => by have := szAs_mem hx; omega) (by omega) (fun x hx => by have := szEs_mem hx; omega) h0) rfl) ?_
  refine .cons (.bu [(0, .tmp 5), (1, .tmp 8)] [(0, 2), (2, 7)] [.string ByteArray.empty, .slice none 0 0, .int .i64 0, .int .i64 0, .slice none 0 0, .int .i64 0, .string ByteArray.empty, .slice none 0 0, .slice none 0 0] rfl rfl rfl rfl rfl) ?_
  refine .cons (.sT 9 true rfl rfl rfl rfl rfl rfl rfl) ?_
  refine .nil ⟨by kernel_rfl, ?_⟩
  refine ks_n ?_
  refine ACode.ret ?_
  refine kf_wret [(.t 2, .v (.o (.c (.box 100 9 0 0)))), (.b 101, .b 28 2 (dR (s.1.2.map rA))), (.u 101, .u), (.b 100, .b 33 9 [[.d (dS s.1.1), .own 101 2 (s.1.2.length), .d (dI s.2.k), .d (dI s.2.n), .d (dIs s.2.i.1), .d (dI s.2.i.2), .d (dS s.2.r.1), .d (dAs s.2.r.2), .d (.val (.slice none 0 0))]]), (.u 100, .u)] (Wk.keep [(100, 102), (101, 605)] rfl rfl ⟨ks rfl (.c .bx), kb 605 rfl (.dt rfl), kb 102 rfl (.cons (.cons .dt (.cons .ow (.cons .dt (.cons .dt (.cons .dt (.cons .dt (.cons .dt (.cons .dt (.cons .dt Ctos.nil))))))))) .nil), trivial⟩) rfl ?_ (one_box rfl)
  rfl

set_option maxRecDepth 100000 in
set_option maxHeartbeats 1600000 in
theorem l3Copy_own (s : Stm) (hs : szS s ≤ 1073741824) (h1 : 0 < s.1.2.length) (h0 : 0 < s.2.ks.length) : Fn Try.prog 94 [] [ad (rS s)] (.o (.agg [.d (dS s.1.1), .own 101 2 s.1.2.length, .d (dI s.2.k), .d (dI s.2.n), .d (dIs s.2.i.1), .d (dI s.2.i.2), .d (dS s.2.r.1), .d (dAs s.2.r.2), .own 102 7 s.2.ks.length])) [(.b 101, .b 28 2 (dR (s.1.2.map rA))), (.u 101, .u), (.b 102, .b 31 7 (dR (s.2.ks.map rE))), (.u 102, .u)] := by
  have hs3 := hs
  rw [szS, szC] at hs
  have hl := szAs_len s.1.2
  have hE := szE_eq s.2
  have hC : szC s.2.r = s.2.r.1.size + szAs s.2.r.2 := rfl
  have hl2 := szAs_len s.2.r.2
  refine Fn.of_code Try.func94 rfl rfl HB.nil rfl rfl (HB.nil.data).data rfl (two_num rfl) ?_
  refine ACode.seq ?_
  refine ACode.region ?_
  refine .cons (St1.boxP rfl rfl rfl rfl rfl rfl) ?_
  refine .cons (.al 102 [.string ByteArray.empty, .slice none 0 0, .int .i64 0, .int .i64 0, .slice none 0 0, .int .i64 0, .string ByteArray.empty, .slice none 0 0, .slice none 0 0] rfl rfl rfl) ?_
  refine .nil ?_
  refine ks_n ?_
  refine ACode.seq ?_
  refine ACode.drawK (by kernel_rfl) (by kernel_rfl) ?_
  refine .cons (.fP 0 1 true rfl rfl) ?_
  refine .cons (.lN 2 rfl rfl rfl) ?_
  refine .cons (.cO [.tmp 4] [(101, 605)] rfl rfl rfl rfl (l3CopyAcc_own s.1 h1 (by omega) (fun x hx => by have := szAs_mem hx; omega)) rfl trivial flatS.nil (flatS.nil.cons rfl) HB.nil.data outS_one) ?_
  refine .cons (.fP 2 6 true rfl rfl) ?_
  refine .cons (.lN 7 rfl rfl rfl) ?_
  refine .cons (.cO [.tmp 7] [(101, 708)] rfl rfl rfl rfl (l3CopyEx_own s.2 (by omega) (by omega) (fun x hx => by have := szAs_mem hx; omega) (by omega) (fun x hx => by have := szEs_mem hx; omega) h0) rfl trivial flatS.nil (flatS.nil.cons rfl) HB.nil.data outS_one) ?_
  refine .cons (.bu [(0, .tmp 5), (1, .tmp 8)] [(0, 2), (2, 7)] [.string ByteArray.empty, .slice none 0 0, .int .i64 0, .int .i64 0, .slice none 0 0, .int .i64 0, .string ByteArray.empty, .slice none 0 0, .slice none 0 0] rfl rfl rfl rfl rfl) ?_
  refine .cons (.sT 9 true rfl rfl rfl rfl rfl rfl rfl) ?_
  refine .nil ⟨by kernel_rfl, ?_⟩
  refine ks_n ?_
  refine ACode.ret ?_
  refine kf_wret [(.t 2, .v (.o (.c (.box 100 9 0 0)))), (.b 101, .b 28 2 (dR (s.1.2.map rA))), (.u 101, .u), (.b 102, .b 31 7 (dR (s.2.ks.map rE))), (.u 102, .u), (.b 100, .b 33 9 [[.d (dS s.1.1), .own 101 2 (s.1.2.length), .d (dI s.2.k), .d (dI s.2.n), .d (dIs s.2.i.1), .d (dI s.2.i.2), .d (dS s.2.r.1), .d (dAs s.2.r.2), .own 102 7 (s.2.ks.length)]]), (.u 100, .u)] (Wk.keep [(100, 102), (101, 605), (102, 708)] rfl rfl ⟨ks rfl (.c .bx), kb 605 rfl (.dt rfl), kb 708 rfl (.dt rfl), kb 102 rfl (.cons (.cons .dt (.cons .ow (.cons .dt (.cons .dt (.cons .dt (.cons .dt (.cons .dt (.cons .dt (.cons .ow Ctos.nil))))))))) .nil), trivial⟩) rfl ?_ (two_box rfl rfl)
  rfl

def setK (e : Ex) (k : Int) : Ex := .mk k e.n e.i e.r e.ks
def setN (e : Ex) (n : Int) : Ex := .mk e.k n e.i e.r e.ks
def addK (e : Ex) (x : Ex) : Ex := .mk e.k e.n e.i e.r (e.ks ++ [x])
/-- A statement, sometimes made invalid. -/
def mutD (bs : List Int) (p : Nat) (s : Stm) : Stm × Nat :=
  if pickV bs p 40 = 0 then (((ofV bs (p + 1) [⟨#[69]⟩, ByteArray.empty, ⟨#[65, 66]⟩, ⟨#[97]⟩], s.1.2), s.2), p + 1 + 1)
  else if pickV bs p 40 = 1 then (((s.1.1, s.1.2 ++ [varA 3, zA]), s.2), p + 1)
  else if pickV bs p 40 = 2 then ((s.1, setK s.2 (numV bs (p + 1) [0, 7, 1, 4, 2])), p + 1 + 1)
  else if pickV bs p 40 = 3 then ((s.1, setN s.2 (numV bs (p + 1) [100, -1, 1])), p + 1 + 1)
  else if pickV bs p 40 = 4 then ((s.1, addK s.2 (.mk 1 0 zA0 zC0 [])), p + 1)
  else (s, p + 1)

set_option maxRecDepth 100000 in
set_option maxHeartbeats 1600000 in
theorem mut_nil {bs : List Int} (hb : Bytes bs) {p : Nat} (hp : p ≤ 100000000) (s : Stm) (hs : szS s ≤ 1073741824) (h1 : 0 < s.1.2.length) (h0 : s.2.ks.length = 0) : Fn Try.prog 49 (hbR bs p) [vR, ad (rS s)] (.o (ad (rS (mutD bs p s).1))) (hbR bs (mutD bs p s).2) := by
  have hsz := hs
  rw [szS, szC] at hsz
  have hl := szAs_len s.1.2
  have hE := szE_eq s.2
  obtain ⟨r, hr⟩ : ∃ r, r = mutD bs p s := ⟨_, rfl⟩
  rw [← hr]
  have hR := hr
  unfold mutD at hR
  refine Fn.of_code Try.func49 rfl rfl (hbR_HB _ _) rfl rfl (hbR_HB _ _) rfl (hbR_num _ _ _) ?_
  refine ACode.seq ?_
  refine ACode.region ?_
  refine .cons (St1.boxP rfl rfl rfl rfl rfl rfl) ?_
  refine .cons (.al 104 [.string ByteArray.empty, .slice none 0 0, .int .i64 0, .int .i64 0, .slice none 0 0, .int .i64 0, .string ByteArray.empty, .slice none 0 0, .slice none 0 0] rfl rfl rfl) ?_
  refine .nil ?_
  refine ks_n ?_
  refine ACode.seq ?_
  refine ACode.region ?_
  refine .cons (.lN 9 rfl rfl rfl) ?_
  refine .cons (.cO [.tmp 6] [(101, 107)] rfl rfl rfl rfl (l3Copy_nil s hs h1 h0) rfl trivial flatS.nil (flatS.nil.cons rfl) HB.nil.data outS_one) ?_
  refine .cons (.al 105 [.string ByteArray.empty, .slice none 0 0, .int .i64 0, .int .i64 0, .slice none 0 0, .int .i64 0, .string ByteArray.empty, .slice none 0 0, .slice none 0 0] rfl rfl rfl) ?_
  refine .cons (.sT 9 true rfl rfl rfl rfl rfl rfl rfl) ?_
  refine .nil ?_
  refine ks_n ?_
  refine ACode.seq ?_
  refine ACode.seq ?_
  refine ACode.region ?_
  refine .cons (.mv rfl rfl) ?_
  refine .cons (.cR [.tmp 8, .const (.int .i64 (40))] 0 rfl rfl rfl rfl (pick_fn hb (by omega) 40) rfl ⟨rfl, trivial⟩) ?_
  refine .nil ?_
  refine ks_n ?_
  refine ACode.block ?_
  refine ACode.seq ?_
  refine ACode.region ?_
  refine .cons (.eq rfl rfl rfl) ?_
  refine .cons (.asg rfl rfl) ?_
  refine .nil ?_
  refine ks_n ?_
  refine .cD rfl (fun h10 => ?_) (fun h10 => ?_)
  · skip
    refine ACode.region ?_
    refine .cons (.mv rfl rfl) ?_
    refine .cons (.li 9 0 3 [.const (.string ⟨#[69]⟩), .const (.string ⟨#[]⟩), .const (.string ⟨#[65, 66]⟩), .const (.string ⟨#[97]⟩)] rfl rfl rfl rfl rfl rfl) ?_
    refine .cons (.cR [.tmp 12, .tmp 13] 0 rfl rfl rfl rfl (of_fn hb (by omega) [⟨#[69]⟩, ByteArray.empty, ⟨#[65, 66]⟩, ⟨#[97]⟩] (by simp)) rfl ⟨rfl, trivial⟩) ?_
    refine .cons (.fB 0 1 true rfl rfl rfl) ?_
    refine .cons (.fB 0 0 false rfl rfl rfl) ?_
    refine .cons (.sT 1 false rfl rfl rfl rfl rfl rfl rfl) ?_
    refine .nil ?_
    refine kb_n ?_
    refine ks_n ?_
    refine ACode.seq ?_
    refine ACode.region ?_
    refine .cons (.bN 9 rfl rfl rfl rfl rfl rfl) ?_
    refine .cons (.sT 9 true rfl rfl rfl rfl rfl rfl rfl) ?_
    refine .nil ?_
    refine ks_n ?_
    refine ACode.ret ?_
    first | rw [if_pos h10] at hR | rw [if_neg h10, if_pos h17] at hR | rw [if_neg h10, if_neg h17, if_pos h28] at hR | rw [if_neg h10, if_neg h17, if_neg h28, if_pos h35] at hR | rw [if_neg h10, if_neg h17, if_neg h28, if_neg h35, if_pos h42] at hR | rw [if_neg h10, if_neg h17, if_neg h28, if_neg h35, if_neg h42] at hR
    refine kf_wret [(.t 4, .v (.o (.c (.box 100 9 0 0)))), (.b 0, .b 113 2 (dR ([rRd bs r.2]))), (.u 0, .u), (.b 100, .b 33 9 [[.d (dS r.1.1.1), .d (dAs r.1.1.2), .d (dI r.1.2.k), .d (dI r.1.2.n), .d (dIs r.1.2.i.1), .d (dI r.1.2.i.2), .d (dS r.1.2.r.1), .d (dAs r.1.2.r.2), .d (dEs r.1.2.ks)]]), (.u 100, .u)] (Wk.keep [(0, 0), (100, 104)] rfl rfl ⟨ks rfl (.c .bx), kb 0 rfl (.dt rfl (by first | rfl | (rw [hR]; done) | (rw [hR]; rfl))), kb 104 rfl (.cons (.cons (.dt (by first | rfl | (rw [hR]; done) | (rw [hR]; rfl))) (.cons (.fz rfl (by first | (rw [hR]; exact (dR_app _ [rA (varA 3), rA zA]).trans (by rw [List.map_append]; rfl)) | (rw [hR]; show _ = dR ((s.2.ks ++ [_]).map rE); rw [List.map_append, rE_one, ← dR_app]; rfl) | (rw [hR]; show _ = dR ((s.2.ks ++ [_]).map rE); rw [List.eq_nil_of_length_eq_zero h0, List.nil_append, rE_one]; rfl) | (rw [hR]; done) | (rw [hR]; rfl) | (rw [hR]; simp [dR]; done) | (rw [hR]; simp [dR]; rfl) | (rw [hR]; rw [dR_app]; simp; done) | (rw [hR]; simp [setK, setN]; rfl)) (by first | (rw [hR]; show _ = ((s.2.ks ++ [_]).map rE).length; rw [List.length_map, List.length_append]; first | rfl | (rw [h0]; rfl)) | (rw [hR]; rfl) | (rw [hR]; simp; done) | (rw [hR]; simp; rfl) | (rw [hR]; simp [setK, setN, addK, Ex.ks]; done)) (by first | omega | (simp; done) | (simp; omega))) (.cons (.dt (by first | rfl | (rw [hR]; done) | (rw [hR]; rfl))) (.cons (.dt (by first | rfl | (rw [hR]; done) | (rw [hR]; rfl))) (.cons (.dt (by first | rfl | (rw [hR]; done) | (rw [hR]; rfl))) (.cons (.dt (by first | rfl | (rw [hR]; done) | (rw [hR]; rfl))) (.cons (.dt (by first | rfl | (rw [hR]; done) | (rw [hR]; rfl))) (.cons (.dt (by first | rfl | (rw [hR]; done) | (rw [hR]; rfl))) (.cons (Cto.nilE 7 (by first | (rw [hR]; done) | (rw [hR]; rfl) | (rw [hR]; show dEs s.2.ks = _; rw [List.eq_nil_of_length_eq_zero h0]; rfl))) Ctos.nil))))))))) .nil), trivial⟩) rfl ?_ (hbR_box rfl)
    rfl
  · skip
    refine ACode.seq ?_
    refine ACode.region ?_
    refine .cons (.eq rfl rfl rfl) ?_
    refine .cons (.asg rfl rfl) ?_
    refine .nil ?_
    refine ks_n ?_
    refine .cD rfl (fun h17 => ?_) (fun h17 => ?_)
    · skip
      refine ACode.drawK (by kernel_rfl) (by kernel_rfl) ?_
      refine .cons (.fB 0 1 true rfl rfl rfl) ?_
      refine .cons (.fB 1 0 false rfl rfl rfl) ?_
      refine .cons (.b1 1 rfl rfl rfl rfl rfl rfl) ?_
      refine .cons (.cP [.const (.int .i64 (3))] rfl rfl rfl rfl (l1Var_fn 3 (by omega)) rfl) ?_
      refine .cons (.cP [] rfl rfl rfl rfl (l1Zero_fn) rfl) ?_
      refine .cons (.li 28 1 1 [.tmp 22, .tmp 23] rfl rfl rfl rfl rfl rfl) ?_
      refine .cons (St1.appB (k' := 125) (e := 28) (sz := 1) (by' := 32) rfl rfl rfl rfl rfl (by kernel_rfl) rfl rfl rfl rfl (by simp [dR]) (by simp [dR]; omega) rfl rfl rfl) ?_
      refine .cons (.fB 0 1 true rfl rfl rfl) ?_
      refine .cons (.fB 1 0 false rfl rfl rfl) ?_
      refine .cons (.sT 1 false rfl rfl rfl rfl rfl rfl rfl) ?_
      refine .nil ⟨by kernel_rfl, ?_⟩
      refine kb_n ?_
      refine ks_n ?_
      refine ACode.seq ?_
      refine ACode.region ?_
      refine .cons (.bN 9 rfl rfl rfl rfl rfl rfl) ?_
      refine .cons (.sT 9 true rfl rfl rfl rfl rfl rfl rfl) ?_
      refine .nil ?_
      refine ks_n ?_
      refine ACode.ret ?_
      first | rw [if_pos h10] at hR | rw [if_neg h10, if_pos h17] at hR | rw [if_neg h10, if_neg h17, if_pos h28] at hR | rw [if_neg h10, if_neg h17, if_neg h28, if_pos h35] at hR | rw [if_neg h10, if_neg h17, if_neg h28, if_neg h35, if_pos h42] at hR | rw [if_neg h10, if_neg h17, if_neg h28, if_neg h35, if_neg h42] at hR
      refine kf_wret [(.t 4, .v (.o (.c (.box 100 9 0 0)))), (.b 0, .b 113 2 (dR ([rRd bs r.2]))), (.u 0, .u), (.b 100, .b 33 9 [[.d (dS r.1.1.1), .d (dAs r.1.1.2), .d (dI r.1.2.k), .d (dI r.1.2.n), .d (dIs r.1.2.i.1), .d (dI r.1.2.i.2), .d (dS r.1.2.r.1), .d (dAs r.1.2.r.2), .d (dEs r.1.2.ks)]]), (.u 100, .u)] (Wk.keep [(0, 0), (100, 104)] rfl rfl ⟨ks rfl (.c .bx), kb 0 rfl (.dt rfl (by first | rfl | (rw [hR]; done) | (rw [hR]; rfl))), kb 104 rfl (.cons (.cons (.dt (by first | rfl | (rw [hR]; done) | (rw [hR]; rfl))) (.cons (.fz rfl (by first | (rw [hR]; exact (dR_app _ [rA (varA 3), rA zA]).trans (by rw [List.map_append]; rfl)) | (rw [hR]; show _ = dR ((s.2.ks ++ [_]).map rE); rw [List.map_append, rE_one, ← dR_app]; rfl) | (rw [hR]; show _ = dR ((s.2.ks ++ [_]).map rE); rw [List.eq_nil_of_length_eq_zero h0, List.nil_append, rE_one]; rfl) | (rw [hR]; done) | (rw [hR]; rfl) | (rw [hR]; simp [dR]; done) | (rw [hR]; simp [dR]; rfl) | (rw [hR]; rw [dR_app]; simp; done) | (rw [hR]; simp [setK, setN]; rfl)) (by first | (rw [hR]; show _ = ((s.2.ks ++ [_]).map rE).length; rw [List.length_map, List.length_append]; first | rfl | (rw [h0]; rfl)) | (rw [hR]; rfl) | (rw [hR]; simp; done) | (rw [hR]; simp; rfl) | (rw [hR]; simp [setK, setN, addK, Ex.ks]; done)) (by first | omega | (simp; done) | (simp; omega))) (.cons (.dt (by first | rfl | (rw [hR]; done) | (rw [hR]; rfl))) (.cons (.dt (by first | rfl | (rw [hR]; done) | (rw [hR]; rfl))) (.cons (.dt (by first | rfl | (rw [hR]; done) | (rw [hR]; rfl))) (.cons (.dt (by first | rfl | (rw [hR]; done) | (rw [hR]; rfl))) (.cons (.dt (by first | rfl | (rw [hR]; done) | (rw [hR]; rfl))) (.cons (.dt (by first | rfl | (rw [hR]; done) | (rw [hR]; rfl))) (.cons (Cto.nilE 7 (by first | (rw [hR]; done) | (rw [hR]; rfl) | (rw [hR]; show dEs s.2.ks = _; rw [List.eq_nil_of_length_eq_zero h0]; rfl))) Ctos.nil))))))))) .nil), trivial⟩) rfl ?_ (hbR_box rfl)
      rfl
    · skip
      refine ACode.seq ?_
      refine ACode.region ?_
      refine .cons (.eq rfl rfl rfl) ?_
      refine .cons (.asg rfl rfl) ?_
      refine .nil ?_
      refine ks_n ?_
      refine .cD rfl (fun h28 => ?_) (fun h28 => ?_)
      · skip
        refine ACode.region ?_
        refine .cons (.mv rfl rfl) ?_
        refine .cons (.li 3 0 4 [.const (.int .i64 (0)), .const (.int .i64 (7)), .const (.int .i64 (1)), .const (.int .i64 (4)), .const (.int .i64 (2))] rfl rfl rfl rfl rfl rfl) ?_
        refine .cons (.cR [.tmp 30, .tmp 31] 0 rfl rfl rfl rfl (num_fn hb (by omega) [0, 7, 1, 4, 2] (by simp)) rfl ⟨rfl, trivial⟩) ?_
        refine .cons (.fB 2 6 true rfl rfl rfl) ?_
        refine .cons (.fB 0 0 false rfl rfl rfl) ?_
        refine .cons (.sT 1 false rfl rfl rfl rfl rfl rfl rfl) ?_
        refine .nil ?_
        refine kb_n ?_
        refine ks_n ?_
        refine ACode.seq ?_
        refine ACode.region ?_
        refine .cons (.bN 9 rfl rfl rfl rfl rfl rfl) ?_
        refine .cons (.sT 9 true rfl rfl rfl rfl rfl rfl rfl) ?_
        refine .nil ?_
        refine ks_n ?_
        refine ACode.ret ?_
        first | rw [if_pos h10] at hR | rw [if_neg h10, if_pos h17] at hR | rw [if_neg h10, if_neg h17, if_pos h28] at hR | rw [if_neg h10, if_neg h17, if_neg h28, if_pos h35] at hR | rw [if_neg h10, if_neg h17, if_neg h28, if_neg h35, if_pos h42] at hR | rw [if_neg h10, if_neg h17, if_neg h28, if_neg h35, if_neg h42] at hR
        refine kf_wret [(.t 4, .v (.o (.c (.box 100 9 0 0)))), (.b 0, .b 113 2 (dR ([rRd bs r.2]))), (.u 0, .u), (.b 100, .b 33 9 [[.d (dS r.1.1.1), .d (dAs r.1.1.2), .d (dI r.1.2.k), .d (dI r.1.2.n), .d (dIs r.1.2.i.1), .d (dI r.1.2.i.2), .d (dS r.1.2.r.1), .d (dAs r.1.2.r.2), .d (dEs r.1.2.ks)]]), (.u 100, .u)] (Wk.keep [(0, 0), (100, 104)] rfl rfl ⟨ks rfl (.c .bx), kb 0 rfl (.dt rfl (by first | rfl | (rw [hR]; done) | (rw [hR]; rfl))), kb 104 rfl (.cons (.cons (.dt (by first | rfl | (rw [hR]; done) | (rw [hR]; rfl))) (.cons (.fz rfl (by first | (rw [hR]; exact (dR_app _ [rA (varA 3), rA zA]).trans (by rw [List.map_append]; rfl)) | (rw [hR]; show _ = dR ((s.2.ks ++ [_]).map rE); rw [List.map_append, rE_one, ← dR_app]; rfl) | (rw [hR]; show _ = dR ((s.2.ks ++ [_]).map rE); rw [List.eq_nil_of_length_eq_zero h0, List.nil_append, rE_one]; rfl) | (rw [hR]; done) | (rw [hR]; rfl) | (rw [hR]; simp [dR]; done) | (rw [hR]; simp [dR]; rfl) | (rw [hR]; rw [dR_app]; simp; done) | (rw [hR]; simp [setK, setN]; rfl)) (by first | (rw [hR]; show _ = ((s.2.ks ++ [_]).map rE).length; rw [List.length_map, List.length_append]; first | rfl | (rw [h0]; rfl)) | (rw [hR]; rfl) | (rw [hR]; simp; done) | (rw [hR]; simp; rfl) | (rw [hR]; simp [setK, setN, addK, Ex.ks]; done)) (by first | omega | (simp; done) | (simp; omega))) (.cons (.dt (by first | rfl | (rw [hR]; done) | (rw [hR]; rfl))) (.cons (.dt (by first | rfl | (rw [hR]; done) | (rw [hR]; rfl))) (.cons (.dt (by first | rfl | (rw [hR]; done) | (rw [hR]; rfl))) (.cons (.dt (by first | rfl | (rw [hR]; done) | (rw [hR]; rfl))) (.cons (.dt (by first | rfl | (rw [hR]; done) | (rw [hR]; rfl))) (.cons (.dt (by first | rfl | (rw [hR]; done) | (rw [hR]; rfl))) (.cons (Cto.nilE 7 (by first | (rw [hR]; done) | (rw [hR]; rfl) | (rw [hR]; show dEs s.2.ks = _; rw [List.eq_nil_of_length_eq_zero h0]; rfl))) Ctos.nil))))))))) .nil), trivial⟩) rfl ?_ (hbR_box rfl)
        rfl
      · skip
        refine ACode.seq ?_
        refine ACode.region ?_
        refine .cons (.eq rfl rfl rfl) ?_
        refine .cons (.asg rfl rfl) ?_
        refine .nil ?_
        refine ks_n ?_
        refine .cD rfl (fun h35 => ?_) (fun h35 => ?_)
        · skip
          refine ACode.region ?_
          refine .cons (.mv rfl rfl) ?_
          refine .cons (.li 3 0 2 [.const (.int .i64 (100)), .const (.int .i64 (-1)), .const (.int .i64 (1))] rfl rfl rfl rfl rfl rfl) ?_
          refine .cons (.cR [.tmp 37, .tmp 38] 0 rfl rfl rfl rfl (num_fn hb (by omega) [100, -1, 1] (by simp)) rfl ⟨rfl, trivial⟩) ?_
          refine .cons (.fB 2 6 true rfl rfl rfl) ?_
          refine .cons (.fB 1 0 false rfl rfl rfl) ?_
          refine .cons (.sT 1 false rfl rfl rfl rfl rfl rfl rfl) ?_
          refine .nil ?_
          refine kb_n ?_
          refine ks_n ?_
          refine ACode.seq ?_
          refine ACode.region ?_
          refine .cons (.bN 9 rfl rfl rfl rfl rfl rfl) ?_
          refine .cons (.sT 9 true rfl rfl rfl rfl rfl rfl rfl) ?_
          refine .nil ?_
          refine ks_n ?_
          refine ACode.ret ?_
          first | rw [if_pos h10] at hR | rw [if_neg h10, if_pos h17] at hR | rw [if_neg h10, if_neg h17, if_pos h28] at hR | rw [if_neg h10, if_neg h17, if_neg h28, if_pos h35] at hR | rw [if_neg h10, if_neg h17, if_neg h28, if_neg h35, if_pos h42] at hR | rw [if_neg h10, if_neg h17, if_neg h28, if_neg h35, if_neg h42] at hR
          refine kf_wret [(.t 4, .v (.o (.c (.box 100 9 0 0)))), (.b 0, .b 113 2 (dR ([rRd bs r.2]))), (.u 0, .u), (.b 100, .b 33 9 [[.d (dS r.1.1.1), .d (dAs r.1.1.2), .d (dI r.1.2.k), .d (dI r.1.2.n), .d (dIs r.1.2.i.1), .d (dI r.1.2.i.2), .d (dS r.1.2.r.1), .d (dAs r.1.2.r.2), .d (dEs r.1.2.ks)]]), (.u 100, .u)] (Wk.keep [(0, 0), (100, 104)] rfl rfl ⟨ks rfl (.c .bx), kb 0 rfl (.dt rfl (by first | rfl | (rw [hR]; done) | (rw [hR]; rfl))), kb 104 rfl (.cons (.cons (.dt (by first | rfl | (rw [hR]; done) | (rw [hR]; rfl))) (.cons (.fz rfl (by first | (rw [hR]; exact (dR_app _ [rA (varA 3), rA zA]).trans (by rw [List.map_append]; rfl)) | (rw [hR]; show _ = dR ((s.2.ks ++ [_]).map rE); rw [List.map_append, rE_one, ← dR_app]; rfl) | (rw [hR]; show _ = dR ((s.2.ks ++ [_]).map rE); rw [List.eq_nil_of_length_eq_zero h0, List.nil_append, rE_one]; rfl) | (rw [hR]; done) | (rw [hR]; rfl) | (rw [hR]; simp [dR]; done) | (rw [hR]; simp [dR]; rfl) | (rw [hR]; rw [dR_app]; simp; done) | (rw [hR]; simp [setK, setN]; rfl)) (by first | (rw [hR]; show _ = ((s.2.ks ++ [_]).map rE).length; rw [List.length_map, List.length_append]; first | rfl | (rw [h0]; rfl)) | (rw [hR]; rfl) | (rw [hR]; simp; done) | (rw [hR]; simp; rfl) | (rw [hR]; simp [setK, setN, addK, Ex.ks]; done)) (by first | omega | (simp; done) | (simp; omega))) (.cons (.dt (by first | rfl | (rw [hR]; done) | (rw [hR]; rfl))) (.cons (.dt (by first | rfl | (rw [hR]; done) | (rw [hR]; rfl))) (.cons (.dt (by first | rfl | (rw [hR]; done) | (rw [hR]; rfl))) (.cons (.dt (by first | rfl | (rw [hR]; done) | (rw [hR]; rfl))) (.cons (.dt (by first | rfl | (rw [hR]; done) | (rw [hR]; rfl))) (.cons (.dt (by first | rfl | (rw [hR]; done) | (rw [hR]; rfl))) (.cons (Cto.nilE 7 (by first | (rw [hR]; done) | (rw [hR]; rfl) | (rw [hR]; show dEs s.2.ks = _; rw [List.eq_nil_of_length_eq_zero h0]; rfl))) Ctos.nil))))))))) .nil), trivial⟩) rfl ?_ (hbR_box rfl)
          rfl
        · skip
          refine ACode.seq ?_
          refine ACode.region ?_
          refine .cons (.eq rfl rfl rfl) ?_
          refine .cons (.asg rfl rfl) ?_
          refine .nil ?_
          refine ks_n ?_
          refine .cD rfl (fun h42 => ?_) (fun h42 => ?_)
          · skip
            refine ACode.region ?_
            refine .cons (.fB 2 6 true rfl rfl rfl) ?_
            refine .cons (.fB 6 0 false rfl rfl rfl) ?_
            refine .cons (.b1 1 rfl rfl rfl rfl rfl rfl) ?_
            refine .cons (.buZ [(0, .const (.int .i64 (1)))] [(0, 1), (1, 1), (2, 2), (4, 2), (6, 1)] [.int .i64 0, .int .i64 0, .slice none 0 0, .int .i64 0, .string ByteArray.empty, .slice none 0 0, .slice none 0 0] [dI 0, dI 0, .list 1 [], dI 0, dS ByteArray.empty, .list 2 [], .list 7 []] rfl rfl (.val rfl (.val rfl (.list _ (.val rfl (.val rfl (.list _ (.list _ ZR.nil))))))) rfl rfl) ?_
            refine .cons (.li 31 6 0 [.tmp 47] rfl rfl rfl rfl rfl rfl) ?_
            refine .cons (St1.appN (k' := 149) (e := 31) (sz := 6) (by' := 112) rfl rfl rfl rfl rfl (by kernel_rfl) rfl rfl rfl (by simp) (by simp) rfl rfl) ?_
            refine .cons (.fB 2 6 true rfl rfl rfl) ?_
            refine .cons (.fB 6 0 false rfl rfl rfl) ?_
            refine .cons (.sT 1 false rfl rfl rfl rfl rfl rfl rfl) ?_
            refine .nil ?_
            refine kb_n ?_
            refine ks_n ?_
            refine ACode.seq ?_
            refine ACode.region ?_
            refine .cons (.bN 9 rfl rfl rfl rfl rfl rfl) ?_
            refine .cons (.sT 9 true rfl rfl rfl rfl rfl rfl rfl) ?_
            refine .nil ?_
            refine ks_n ?_
            refine ACode.ret ?_
            first | rw [if_pos h10] at hR | rw [if_neg h10, if_pos h17] at hR | rw [if_neg h10, if_neg h17, if_pos h28] at hR | rw [if_neg h10, if_neg h17, if_neg h28, if_pos h35] at hR | rw [if_neg h10, if_neg h17, if_neg h28, if_neg h35, if_pos h42] at hR | rw [if_neg h10, if_neg h17, if_neg h28, if_neg h35, if_neg h42] at hR
            refine kf_wret [(.t 4, .v (.o (.c (.box 100 9 0 0)))), (.b 0, .b 113 2 (dR ([rRd bs r.2]))), (.u 0, .u), (.b 100, .b 33 9 [[.d (dS r.1.1.1), .d (dAs r.1.1.2), .d (dI r.1.2.k), .d (dI r.1.2.n), .d (dIs r.1.2.i.1), .d (dI r.1.2.i.2), .d (dS r.1.2.r.1), .d (dAs r.1.2.r.2), .d (dEs r.1.2.ks)]]), (.u 100, .u)] (Wk.keep [(0, 0), (100, 104)] rfl rfl ⟨ks rfl (.c .bx), kb 0 rfl (.dt rfl (by first | rfl | (rw [hR]; done) | (rw [hR]; rfl))), kb 104 rfl (.cons (.cons (.dt (by first | rfl | (rw [hR]; done) | (rw [hR]; rfl))) (.cons (.fz rfl (by first | (rw [hR]; exact (dR_app _ [rA (varA 3), rA zA]).trans (by rw [List.map_append]; rfl)) | (rw [hR]; show _ = dR ((s.2.ks ++ [_]).map rE); rw [List.map_append, rE_one, ← dR_app]; rfl) | (rw [hR]; show _ = dR ((s.2.ks ++ [_]).map rE); rw [List.eq_nil_of_length_eq_zero h0, List.nil_append, rE_one]; rfl) | (rw [hR]; done) | (rw [hR]; rfl) | (rw [hR]; simp [dR]; done) | (rw [hR]; simp [dR]; rfl) | (rw [hR]; rw [dR_app]; simp; done) | (rw [hR]; simp [setK, setN]; rfl)) (by first | (rw [hR]; show _ = ((s.2.ks ++ [_]).map rE).length; rw [List.length_map, List.length_append]; first | rfl | (rw [h0]; rfl)) | (rw [hR]; rfl) | (rw [hR]; simp; done) | (rw [hR]; simp; rfl) | (rw [hR]; simp [setK, setN, addK, Ex.ks]; done)) (by first | omega | (simp; done) | (simp; omega))) (.cons (.dt (by first | rfl | (rw [hR]; done) | (rw [hR]; rfl))) (.cons (.dt (by first | rfl | (rw [hR]; done) | (rw [hR]; rfl))) (.cons (.dt (by first | rfl | (rw [hR]; done) | (rw [hR]; rfl))) (.cons (.dt (by first | rfl | (rw [hR]; done) | (rw [hR]; rfl))) (.cons (.dt (by first | rfl | (rw [hR]; done) | (rw [hR]; rfl))) (.cons (.dt (by first | rfl | (rw [hR]; done) | (rw [hR]; rfl))) (.cons (.fz rfl (by first | (rw [hR]; exact (dR_app _ [rA (varA 3), rA zA]).trans (by rw [List.map_append]; rfl)) | (rw [hR]; show _ = dR ((s.2.ks ++ [_]).map rE); rw [List.map_append, rE_one, ← dR_app]; rfl) | (rw [hR]; show _ = dR ((s.2.ks ++ [_]).map rE); rw [List.eq_nil_of_length_eq_zero h0, List.nil_append, rE_one]; rfl) | (rw [hR]; done) | (rw [hR]; rfl) | (rw [hR]; simp [dR]; done) | (rw [hR]; simp [dR]; rfl) | (rw [hR]; rw [dR_app]; simp; done) | (rw [hR]; simp [setK, setN]; rfl)) (by first | (rw [hR]; show _ = ((s.2.ks ++ [_]).map rE).length; rw [List.length_map, List.length_append]; first | rfl | (rw [h0]; rfl)) | (rw [hR]; rfl) | (rw [hR]; simp; done) | (rw [hR]; simp; rfl) | (rw [hR]; simp [setK, setN, addK, Ex.ks]; done)) (by first | omega | (simp; done) | (simp; omega))) Ctos.nil))))))))) .nil), trivial⟩) rfl ?_ (hbR_box rfl)
            rfl
          · skip
            refine ACode.skip ?_
            refine kb_n ?_
            refine ks_n ?_
            refine ACode.seq ?_
            refine ACode.region ?_
            refine .cons (.bN 9 rfl rfl rfl rfl rfl rfl) ?_
            refine .cons (.sT 9 true rfl rfl rfl rfl rfl rfl rfl) ?_
            refine .nil ?_
            refine ks_n ?_
            refine ACode.ret ?_
            first | rw [if_pos h10] at hR | rw [if_neg h10, if_pos h17] at hR | rw [if_neg h10, if_neg h17, if_pos h28] at hR | rw [if_neg h10, if_neg h17, if_neg h28, if_pos h35] at hR | rw [if_neg h10, if_neg h17, if_neg h28, if_neg h35, if_pos h42] at hR | rw [if_neg h10, if_neg h17, if_neg h28, if_neg h35, if_neg h42] at hR
            refine kf_wret [(.t 4, .v (.o (.c (.box 100 9 0 0)))), (.b 0, .b 113 2 (dR ([rRd bs r.2]))), (.u 0, .u), (.b 100, .b 33 9 [[.d (dS r.1.1.1), .d (dAs r.1.1.2), .d (dI r.1.2.k), .d (dI r.1.2.n), .d (dIs r.1.2.i.1), .d (dI r.1.2.i.2), .d (dS r.1.2.r.1), .d (dAs r.1.2.r.2), .d (dEs r.1.2.ks)]]), (.u 100, .u)] (Wk.keep [(0, 0), (100, 104)] rfl rfl ⟨ks rfl (.c .bx), kb 0 rfl (.dt rfl (by first | rfl | (rw [hR]; done) | (rw [hR]; rfl))), kb 104 rfl (.cons (.cons (.dt (by first | rfl | (rw [hR]; done) | (rw [hR]; rfl))) (.cons (.fz rfl (by first | (rw [hR]; exact (dR_app _ [rA (varA 3), rA zA]).trans (by rw [List.map_append]; rfl)) | (rw [hR]; show _ = dR ((s.2.ks ++ [_]).map rE); rw [List.map_append, rE_one, ← dR_app]; rfl) | (rw [hR]; show _ = dR ((s.2.ks ++ [_]).map rE); rw [List.eq_nil_of_length_eq_zero h0, List.nil_append, rE_one]; rfl) | (rw [hR]; done) | (rw [hR]; rfl) | (rw [hR]; simp [dR]; done) | (rw [hR]; simp [dR]; rfl) | (rw [hR]; rw [dR_app]; simp; done) | (rw [hR]; simp [setK, setN]; rfl)) (by first | (rw [hR]; show _ = ((s.2.ks ++ [_]).map rE).length; rw [List.length_map, List.length_append]; first | rfl | (rw [h0]; rfl)) | (rw [hR]; rfl) | (rw [hR]; simp; done) | (rw [hR]; simp; rfl) | (rw [hR]; simp [setK, setN, addK, Ex.ks]; done)) (by first | omega | (simp; done) | (simp; omega))) (.cons (.dt (by first | rfl | (rw [hR]; done) | (rw [hR]; rfl))) (.cons (.dt (by first | rfl | (rw [hR]; done) | (rw [hR]; rfl))) (.cons (.dt (by first | rfl | (rw [hR]; done) | (rw [hR]; rfl))) (.cons (.dt (by first | rfl | (rw [hR]; done) | (rw [hR]; rfl))) (.cons (.dt (by first | rfl | (rw [hR]; done) | (rw [hR]; rfl))) (.cons (.dt (by first | rfl | (rw [hR]; done) | (rw [hR]; rfl))) (.cons (Cto.nilE 7 (by first | (rw [hR]; done) | (rw [hR]; rfl) | (rw [hR]; show dEs s.2.ks = _; rw [List.eq_nil_of_length_eq_zero h0]; rfl))) Ctos.nil))))))))) .nil), trivial⟩) rfl ?_ (hbR_box rfl)
            rfl

set_option maxRecDepth 100000 in
set_option maxHeartbeats 1600000 in
theorem mut_own {bs : List Int} (hb : Bytes bs) {p : Nat} (hp : p ≤ 100000000) (s : Stm) (hs : szS s ≤ 1073741824) (h1 : 0 < s.1.2.length) (h0 : 0 < s.2.ks.length) : Fn Try.prog 49 (hbR bs p) [vR, ad (rS s)] (.o (ad (rS (mutD bs p s).1))) (hbR bs (mutD bs p s).2) := by
  have hsz := hs
  rw [szS, szC] at hsz
  have hl := szAs_len s.1.2
  have hE := szE_eq s.2
  obtain ⟨r, hr⟩ : ∃ r, r = mutD bs p s := ⟨_, rfl⟩
  rw [← hr]
  have hR := hr
  unfold mutD at hR
  refine Fn.of_code Try.func49 rfl rfl (hbR_HB _ _) rfl rfl (hbR_HB _ _) rfl (hbR_num _ _ _) ?_
  refine ACode.seq ?_
  refine ACode.region ?_
  refine .cons (St1.boxP rfl rfl rfl rfl rfl rfl) ?_
  refine .cons (.al 104 [.string ByteArray.empty, .slice none 0 0, .int .i64 0, .int .i64 0, .slice none 0 0, .int .i64 0, .string ByteArray.empty, .slice none 0 0, .slice none 0 0] rfl rfl rfl) ?_
  refine .nil ?_
  refine ks_n ?_
  refine ACode.seq ?_
  refine ACode.region ?_
  refine .cons (.lN 9 rfl rfl rfl) ?_
  refine .cons (.cO [.tmp 6] [(101, 107), (102, 607)] rfl rfl rfl rfl (l3Copy_own s hs h1 h0) rfl trivial flatS.nil ((flatS.nil.cons rfl).cons rfl) (HB.nil.data).data outS_two) ?_
  refine .cons (.al 105 [.string ByteArray.empty, .slice none 0 0, .int .i64 0, .int .i64 0, .slice none 0 0, .int .i64 0, .string ByteArray.empty, .slice none 0 0, .slice none 0 0] rfl rfl rfl) ?_
  refine .cons (.sT 9 true rfl rfl rfl rfl rfl rfl rfl) ?_
  refine .nil ?_
  refine ks_n ?_
  refine ACode.seq ?_
  refine ACode.seq ?_
  refine ACode.region ?_
  refine .cons (.mv rfl rfl) ?_
  refine .cons (.cR [.tmp 8, .const (.int .i64 (40))] 0 rfl rfl rfl rfl (pick_fn hb (by omega) 40) rfl ⟨rfl, trivial⟩) ?_
  refine .nil ?_
  refine ks_n ?_
  refine ACode.block ?_
  refine ACode.seq ?_
  refine ACode.region ?_
  refine .cons (.eq rfl rfl rfl) ?_
  refine .cons (.asg rfl rfl) ?_
  refine .nil ?_
  refine ks_n ?_
  refine .cD rfl (fun h10 => ?_) (fun h10 => ?_)
  · skip
    refine ACode.region ?_
    refine .cons (.mv rfl rfl) ?_
    refine .cons (.li 9 0 3 [.const (.string ⟨#[69]⟩), .const (.string ⟨#[]⟩), .const (.string ⟨#[65, 66]⟩), .const (.string ⟨#[97]⟩)] rfl rfl rfl rfl rfl rfl) ?_
    refine .cons (.cR [.tmp 12, .tmp 13] 0 rfl rfl rfl rfl (of_fn hb (by omega) [⟨#[69]⟩, ByteArray.empty, ⟨#[65, 66]⟩, ⟨#[97]⟩] (by simp)) rfl ⟨rfl, trivial⟩) ?_
    refine .cons (.fB 0 1 true rfl rfl rfl) ?_
    refine .cons (.fB 0 0 false rfl rfl rfl) ?_
    refine .cons (.sT 1 false rfl rfl rfl rfl rfl rfl rfl) ?_
    refine .nil ?_
    refine kb_n ?_
    refine ks_n ?_
    refine ACode.seq ?_
    refine ACode.region ?_
    refine .cons (.bN 9 rfl rfl rfl rfl rfl rfl) ?_
    refine .cons (.sT 9 true rfl rfl rfl rfl rfl rfl rfl) ?_
    refine .nil ?_
    refine ks_n ?_
    refine ACode.ret ?_
    first | rw [if_pos h10] at hR | rw [if_neg h10, if_pos h17] at hR | rw [if_neg h10, if_neg h17, if_pos h28] at hR | rw [if_neg h10, if_neg h17, if_neg h28, if_pos h35] at hR | rw [if_neg h10, if_neg h17, if_neg h28, if_neg h35, if_pos h42] at hR | rw [if_neg h10, if_neg h17, if_neg h28, if_neg h35, if_neg h42] at hR
    refine kf_wret [(.t 4, .v (.o (.c (.box 100 9 0 0)))), (.b 0, .b 113 2 (dR ([rRd bs r.2]))), (.u 0, .u), (.b 100, .b 33 9 [[.d (dS r.1.1.1), .d (dAs r.1.1.2), .d (dI r.1.2.k), .d (dI r.1.2.n), .d (dIs r.1.2.i.1), .d (dI r.1.2.i.2), .d (dS r.1.2.r.1), .d (dAs r.1.2.r.2), .d (dEs r.1.2.ks)]]), (.u 100, .u)] (Wk.keep [(0, 0), (100, 104)] rfl rfl ⟨ks rfl (.c .bx), kb 0 rfl (.dt rfl (by first | rfl | (rw [hR]; done) | (rw [hR]; rfl))), kb 104 rfl (.cons (.cons (.dt (by first | rfl | (rw [hR]; done) | (rw [hR]; rfl))) (.cons (.fz rfl (by first | (rw [hR]; exact (dR_app _ [rA (varA 3), rA zA]).trans (by rw [List.map_append]; rfl)) | (rw [hR]; show _ = dR ((s.2.ks ++ [_]).map rE); rw [List.map_append, rE_one, ← dR_app]; rfl) | (rw [hR]; show _ = dR ((s.2.ks ++ [_]).map rE); rw [List.eq_nil_of_length_eq_zero h0, List.nil_append, rE_one]; rfl) | (rw [hR]; done) | (rw [hR]; rfl) | (rw [hR]; simp [dR]; done) | (rw [hR]; simp [dR]; rfl) | (rw [hR]; rw [dR_app]; simp; done) | (rw [hR]; simp [setK, setN]; rfl)) (by first | (rw [hR]; show _ = ((s.2.ks ++ [_]).map rE).length; rw [List.length_map, List.length_append]; first | rfl | (rw [h0]; rfl)) | (rw [hR]; rfl) | (rw [hR]; simp; done) | (rw [hR]; simp; rfl) | (rw [hR]; simp [setK, setN, addK, Ex.ks]; done)) (by first | omega | (simp; done) | (simp; omega))) (.cons (.dt (by first | rfl | (rw [hR]; done) | (rw [hR]; rfl))) (.cons (.dt (by first | rfl | (rw [hR]; done) | (rw [hR]; rfl))) (.cons (.dt (by first | rfl | (rw [hR]; done) | (rw [hR]; rfl))) (.cons (.dt (by first | rfl | (rw [hR]; done) | (rw [hR]; rfl))) (.cons (.dt (by first | rfl | (rw [hR]; done) | (rw [hR]; rfl))) (.cons (.dt (by first | rfl | (rw [hR]; done) | (rw [hR]; rfl))) (.cons (.fz rfl (by first | (rw [hR]; exact (dR_app _ [rA (varA 3), rA zA]).trans (by rw [List.map_append]; rfl)) | (rw [hR]; show _ = dR ((s.2.ks ++ [_]).map rE); rw [List.map_append, rE_one, ← dR_app]; rfl) | (rw [hR]; show _ = dR ((s.2.ks ++ [_]).map rE); rw [List.eq_nil_of_length_eq_zero h0, List.nil_append, rE_one]; rfl) | (rw [hR]; done) | (rw [hR]; rfl) | (rw [hR]; simp [dR]; done) | (rw [hR]; simp [dR]; rfl) | (rw [hR]; rw [dR_app]; simp; done) | (rw [hR]; simp [setK, setN]; rfl)) (by first | (rw [hR]; show _ = ((s.2.ks ++ [_]).map rE).length; rw [List.length_map, List.length_append]; first | rfl | (rw [h0]; rfl)) | (rw [hR]; rfl) | (rw [hR]; simp; done) | (rw [hR]; simp; rfl) | (rw [hR]; simp [setK, setN, addK, Ex.ks]; done)) (by first | omega | (simp; done) | (simp; omega))) Ctos.nil))))))))) .nil), trivial⟩) rfl ?_ (hbR_box rfl)
    rfl
  · skip
    refine ACode.seq ?_
    refine ACode.region ?_
    refine .cons (.eq rfl rfl rfl) ?_
    refine .cons (.asg rfl rfl) ?_
    refine .nil ?_
    refine ks_n ?_
    refine .cD rfl (fun h17 => ?_) (fun h17 => ?_)
    · skip
      refine ACode.drawK (by kernel_rfl) (by kernel_rfl) ?_
      refine .cons (.fB 0 1 true rfl rfl rfl) ?_
      refine .cons (.fB 1 0 false rfl rfl rfl) ?_
      refine .cons (.b1 1 rfl rfl rfl rfl rfl rfl) ?_
      refine .cons (.cP [.const (.int .i64 (3))] rfl rfl rfl rfl (l1Var_fn 3 (by omega)) rfl) ?_
      refine .cons (.cP [] rfl rfl rfl rfl (l1Zero_fn) rfl) ?_
      refine .cons (.li 28 1 1 [.tmp 22, .tmp 23] rfl rfl rfl rfl rfl rfl) ?_
      refine .cons (St1.appB (k' := 125) (e := 28) (sz := 1) (by' := 32) rfl rfl rfl rfl rfl (by kernel_rfl) rfl rfl rfl rfl (by simp [dR]) (by simp [dR]; omega) rfl rfl rfl) ?_
      refine .cons (.fB 0 1 true rfl rfl rfl) ?_
      refine .cons (.fB 1 0 false rfl rfl rfl) ?_
      refine .cons (.sT 1 false rfl rfl rfl rfl rfl rfl rfl) ?_
      refine .nil ⟨by kernel_rfl, ?_⟩
      refine kb_n ?_
      refine ks_n ?_
      refine ACode.seq ?_
      refine ACode.region ?_
      refine .cons (.bN 9 rfl rfl rfl rfl rfl rfl) ?_
      refine .cons (.sT 9 true rfl rfl rfl rfl rfl rfl rfl) ?_
      refine .nil ?_
      refine ks_n ?_
      refine ACode.ret ?_
      first | rw [if_pos h10] at hR | rw [if_neg h10, if_pos h17] at hR | rw [if_neg h10, if_neg h17, if_pos h28] at hR | rw [if_neg h10, if_neg h17, if_neg h28, if_pos h35] at hR | rw [if_neg h10, if_neg h17, if_neg h28, if_neg h35, if_pos h42] at hR | rw [if_neg h10, if_neg h17, if_neg h28, if_neg h35, if_neg h42] at hR
      refine kf_wret [(.t 4, .v (.o (.c (.box 100 9 0 0)))), (.b 0, .b 113 2 (dR ([rRd bs r.2]))), (.u 0, .u), (.b 100, .b 33 9 [[.d (dS r.1.1.1), .d (dAs r.1.1.2), .d (dI r.1.2.k), .d (dI r.1.2.n), .d (dIs r.1.2.i.1), .d (dI r.1.2.i.2), .d (dS r.1.2.r.1), .d (dAs r.1.2.r.2), .d (dEs r.1.2.ks)]]), (.u 100, .u)] (Wk.keep [(0, 0), (100, 104)] rfl rfl ⟨ks rfl (.c .bx), kb 0 rfl (.dt rfl (by first | rfl | (rw [hR]; done) | (rw [hR]; rfl))), kb 104 rfl (.cons (.cons (.dt (by first | rfl | (rw [hR]; done) | (rw [hR]; rfl))) (.cons (.fz rfl (by first | (rw [hR]; exact (dR_app _ [rA (varA 3), rA zA]).trans (by rw [List.map_append]; rfl)) | (rw [hR]; show _ = dR ((s.2.ks ++ [_]).map rE); rw [List.map_append, rE_one, ← dR_app]; rfl) | (rw [hR]; show _ = dR ((s.2.ks ++ [_]).map rE); rw [List.eq_nil_of_length_eq_zero h0, List.nil_append, rE_one]; rfl) | (rw [hR]; done) | (rw [hR]; rfl) | (rw [hR]; simp [dR]; done) | (rw [hR]; simp [dR]; rfl) | (rw [hR]; rw [dR_app]; simp; done) | (rw [hR]; simp [setK, setN]; rfl)) (by first | (rw [hR]; show _ = ((s.2.ks ++ [_]).map rE).length; rw [List.length_map, List.length_append]; first | rfl | (rw [h0]; rfl)) | (rw [hR]; rfl) | (rw [hR]; simp; done) | (rw [hR]; simp; rfl) | (rw [hR]; simp [setK, setN, addK, Ex.ks]; done)) (by first | omega | (simp; done) | (simp; omega))) (.cons (.dt (by first | rfl | (rw [hR]; done) | (rw [hR]; rfl))) (.cons (.dt (by first | rfl | (rw [hR]; done) | (rw [hR]; rfl))) (.cons (.dt (by first | rfl | (rw [hR]; done) | (rw [hR]; rfl))) (.cons (.dt (by first | rfl | (rw [hR]; done) | (rw [hR]; rfl))) (.cons (.dt (by first | rfl | (rw [hR]; done) | (rw [hR]; rfl))) (.cons (.dt (by first | rfl | (rw [hR]; done) | (rw [hR]; rfl))) (.cons (.fz rfl (by first | (rw [hR]; exact (dR_app _ [rA (varA 3), rA zA]).trans (by rw [List.map_append]; rfl)) | (rw [hR]; show _ = dR ((s.2.ks ++ [_]).map rE); rw [List.map_append, rE_one, ← dR_app]; rfl) | (rw [hR]; show _ = dR ((s.2.ks ++ [_]).map rE); rw [List.eq_nil_of_length_eq_zero h0, List.nil_append, rE_one]; rfl) | (rw [hR]; done) | (rw [hR]; rfl) | (rw [hR]; simp [dR]; done) | (rw [hR]; simp [dR]; rfl) | (rw [hR]; rw [dR_app]; simp; done) | (rw [hR]; simp [setK, setN]; rfl)) (by first | (rw [hR]; show _ = ((s.2.ks ++ [_]).map rE).length; rw [List.length_map, List.length_append]; first | rfl | (rw [h0]; rfl)) | (rw [hR]; rfl) | (rw [hR]; simp; done) | (rw [hR]; simp; rfl) | (rw [hR]; simp [setK, setN, addK, Ex.ks]; done)) (by first | omega | (simp; done) | (simp; omega))) Ctos.nil))))))))) .nil), trivial⟩) rfl ?_ (hbR_box rfl)
      rfl
    · skip
      refine ACode.seq ?_
      refine ACode.region ?_
      refine .cons (.eq rfl rfl rfl) ?_
      refine .cons (.asg rfl rfl) ?_
      refine .nil ?_
      refine ks_n ?_
      refine .cD rfl (fun h28 => ?_) (fun h28 => ?_)
      · skip
        refine ACode.region ?_
        refine .cons (.mv rfl rfl) ?_
        refine .cons (.li 3 0 4 [.const (.int .i64 (0)), .const (.int .i64 (7)), .const (.int .i64 (1)), .const (.int .i64 (4)), .const (.int .i64 (2))] rfl rfl rfl rfl rfl rfl) ?_
        refine .cons (.cR [.tmp 30, .tmp 31] 0 rfl rfl rfl rfl (num_fn hb (by omega) [0, 7, 1, 4, 2] (by simp)) rfl ⟨rfl, trivial⟩) ?_
        refine .cons (.fB 2 6 true rfl rfl rfl) ?_
        refine .cons (.fB 0 0 false rfl rfl rfl) ?_
        refine .cons (.sT 1 false rfl rfl rfl rfl rfl rfl rfl) ?_
        refine .nil ?_
        refine kb_n ?_
        refine ks_n ?_
        refine ACode.seq ?_
        refine ACode.region ?_
        refine .cons (.bN 9 rfl rfl rfl rfl rfl rfl) ?_
        refine .cons (.sT 9 true rfl rfl rfl rfl rfl rfl rfl) ?_
        refine .nil ?_
        refine ks_n ?_
        refine ACode.ret ?_
        first | rw [if_pos h10] at hR | rw [if_neg h10, if_pos h17] at hR | rw [if_neg h10, if_neg h17, if_pos h28] at hR | rw [if_neg h10, if_neg h17, if_neg h28, if_pos h35] at hR | rw [if_neg h10, if_neg h17, if_neg h28, if_neg h35, if_pos h42] at hR | rw [if_neg h10, if_neg h17, if_neg h28, if_neg h35, if_neg h42] at hR
        refine kf_wret [(.t 4, .v (.o (.c (.box 100 9 0 0)))), (.b 0, .b 113 2 (dR ([rRd bs r.2]))), (.u 0, .u), (.b 100, .b 33 9 [[.d (dS r.1.1.1), .d (dAs r.1.1.2), .d (dI r.1.2.k), .d (dI r.1.2.n), .d (dIs r.1.2.i.1), .d (dI r.1.2.i.2), .d (dS r.1.2.r.1), .d (dAs r.1.2.r.2), .d (dEs r.1.2.ks)]]), (.u 100, .u)] (Wk.keep [(0, 0), (100, 104)] rfl rfl ⟨ks rfl (.c .bx), kb 0 rfl (.dt rfl (by first | rfl | (rw [hR]; done) | (rw [hR]; rfl))), kb 104 rfl (.cons (.cons (.dt (by first | rfl | (rw [hR]; done) | (rw [hR]; rfl))) (.cons (.fz rfl (by first | (rw [hR]; exact (dR_app _ [rA (varA 3), rA zA]).trans (by rw [List.map_append]; rfl)) | (rw [hR]; show _ = dR ((s.2.ks ++ [_]).map rE); rw [List.map_append, rE_one, ← dR_app]; rfl) | (rw [hR]; show _ = dR ((s.2.ks ++ [_]).map rE); rw [List.eq_nil_of_length_eq_zero h0, List.nil_append, rE_one]; rfl) | (rw [hR]; done) | (rw [hR]; rfl) | (rw [hR]; simp [dR]; done) | (rw [hR]; simp [dR]; rfl) | (rw [hR]; rw [dR_app]; simp; done) | (rw [hR]; simp [setK, setN]; rfl)) (by first | (rw [hR]; show _ = ((s.2.ks ++ [_]).map rE).length; rw [List.length_map, List.length_append]; first | rfl | (rw [h0]; rfl)) | (rw [hR]; rfl) | (rw [hR]; simp; done) | (rw [hR]; simp; rfl) | (rw [hR]; simp [setK, setN, addK, Ex.ks]; done)) (by first | omega | (simp; done) | (simp; omega))) (.cons (.dt (by first | rfl | (rw [hR]; done) | (rw [hR]; rfl))) (.cons (.dt (by first | rfl | (rw [hR]; done) | (rw [hR]; rfl))) (.cons (.dt (by first | rfl | (rw [hR]; done) | (rw [hR]; rfl))) (.cons (.dt (by first | rfl | (rw [hR]; done) | (rw [hR]; rfl))) (.cons (.dt (by first | rfl | (rw [hR]; done) | (rw [hR]; rfl))) (.cons (.dt (by first | rfl | (rw [hR]; done) | (rw [hR]; rfl))) (.cons (.fz rfl (by first | (rw [hR]; exact (dR_app _ [rA (varA 3), rA zA]).trans (by rw [List.map_append]; rfl)) | (rw [hR]; show _ = dR ((s.2.ks ++ [_]).map rE); rw [List.map_append, rE_one, ← dR_app]; rfl) | (rw [hR]; show _ = dR ((s.2.ks ++ [_]).map rE); rw [List.eq_nil_of_length_eq_zero h0, List.nil_append, rE_one]; rfl) | (rw [hR]; done) | (rw [hR]; rfl) | (rw [hR]; simp [dR]; done) | (rw [hR]; simp [dR]; rfl) | (rw [hR]; rw [dR_app]; simp; done) | (rw [hR]; simp [setK, setN]; rfl)) (by first | (rw [hR]; show _ = ((s.2.ks ++ [_]).map rE).length; rw [List.length_map, List.length_append]; first | rfl | (rw [h0]; rfl)) | (rw [hR]; rfl) | (rw [hR]; simp; done) | (rw [hR]; simp; rfl) | (rw [hR]; simp [setK, setN, addK, Ex.ks]; done)) (by first | omega | (simp; done) | (simp; omega))) Ctos.nil))))))))) .nil), trivial⟩) rfl ?_ (hbR_box rfl)
        rfl
      · skip
        refine ACode.seq ?_
        refine ACode.region ?_
        refine .cons (.eq rfl rfl rfl) ?_
        refine .cons (.asg rfl rfl) ?_
        refine .nil ?_
        refine ks_n ?_
        refine .cD rfl (fun h35 => ?_) (fun h35 => ?_)
        · skip
          refine ACode.region ?_
          refine .cons (.mv rfl rfl) ?_
          refine .cons (.li 3 0 2 [.const (.int .i64 (100)), .const (.int .i64 (-1)), .const (.int .i64 (1))] rfl rfl rfl rfl rfl rfl) ?_
          refine .cons (.cR [.tmp 37, .tmp 38] 0 rfl rfl rfl rfl (num_fn hb (by omega) [100, -1, 1] (by simp)) rfl ⟨rfl, trivial⟩) ?_
          refine .cons (.fB 2 6 true rfl rfl rfl) ?_
          refine .cons (.fB 1 0 false rfl rfl rfl) ?_
          refine .cons (.sT 1 false rfl rfl rfl rfl rfl rfl rfl) ?_
          refine .nil ?_
          refine kb_n ?_
          refine ks_n ?_
          refine ACode.seq ?_
          refine ACode.region ?_
          refine .cons (.bN 9 rfl rfl rfl rfl rfl rfl) ?_
          refine .cons (.sT 9 true rfl rfl rfl rfl rfl rfl rfl) ?_
          refine .nil ?_
          refine ks_n ?_
          refine ACode.ret ?_
          first | rw [if_pos h10] at hR | rw [if_neg h10, if_pos h17] at hR | rw [if_neg h10, if_neg h17, if_pos h28] at hR | rw [if_neg h10, if_neg h17, if_neg h28, if_pos h35] at hR | rw [if_neg h10, if_neg h17, if_neg h28, if_neg h35, if_pos h42] at hR | rw [if_neg h10, if_neg h17, if_neg h28, if_neg h35, if_neg h42] at hR
          refine kf_wret [(.t 4, .v (.o (.c (.box 100 9 0 0)))), (.b 0, .b 113 2 (dR ([rRd bs r.2]))), (.u 0, .u), (.b 100, .b 33 9 [[.d (dS r.1.1.1), .d (dAs r.1.1.2), .d (dI r.1.2.k), .d (dI r.1.2.n), .d (dIs r.1.2.i.1), .d (dI r.1.2.i.2), .d (dS r.1.2.r.1), .d (dAs r.1.2.r.2), .d (dEs r.1.2.ks)]]), (.u 100, .u)] (Wk.keep [(0, 0), (100, 104)] rfl rfl ⟨ks rfl (.c .bx), kb 0 rfl (.dt rfl (by first | rfl | (rw [hR]; done) | (rw [hR]; rfl))), kb 104 rfl (.cons (.cons (.dt (by first | rfl | (rw [hR]; done) | (rw [hR]; rfl))) (.cons (.fz rfl (by first | (rw [hR]; exact (dR_app _ [rA (varA 3), rA zA]).trans (by rw [List.map_append]; rfl)) | (rw [hR]; show _ = dR ((s.2.ks ++ [_]).map rE); rw [List.map_append, rE_one, ← dR_app]; rfl) | (rw [hR]; show _ = dR ((s.2.ks ++ [_]).map rE); rw [List.eq_nil_of_length_eq_zero h0, List.nil_append, rE_one]; rfl) | (rw [hR]; done) | (rw [hR]; rfl) | (rw [hR]; simp [dR]; done) | (rw [hR]; simp [dR]; rfl) | (rw [hR]; rw [dR_app]; simp; done) | (rw [hR]; simp [setK, setN]; rfl)) (by first | (rw [hR]; show _ = ((s.2.ks ++ [_]).map rE).length; rw [List.length_map, List.length_append]; first | rfl | (rw [h0]; rfl)) | (rw [hR]; rfl) | (rw [hR]; simp; done) | (rw [hR]; simp; rfl) | (rw [hR]; simp [setK, setN, addK, Ex.ks]; done)) (by first | omega | (simp; done) | (simp; omega))) (.cons (.dt (by first | rfl | (rw [hR]; done) | (rw [hR]; rfl))) (.cons (.dt (by first | rfl | (rw [hR]; done) | (rw [hR]; rfl))) (.cons (.dt (by first | rfl | (rw [hR]; done) | (rw [hR]; rfl))) (.cons (.dt (by first | rfl | (rw [hR]; done) | (rw [hR]; rfl))) (.cons (.dt (by first | rfl | (rw [hR]; done) | (rw [hR]; rfl))) (.cons (.dt (by first | rfl | (rw [hR]; done) | (rw [hR]; rfl))) (.cons (.fz rfl (by first | (rw [hR]; exact (dR_app _ [rA (varA 3), rA zA]).trans (by rw [List.map_append]; rfl)) | (rw [hR]; show _ = dR ((s.2.ks ++ [_]).map rE); rw [List.map_append, rE_one, ← dR_app]; rfl) | (rw [hR]; show _ = dR ((s.2.ks ++ [_]).map rE); rw [List.eq_nil_of_length_eq_zero h0, List.nil_append, rE_one]; rfl) | (rw [hR]; done) | (rw [hR]; rfl) | (rw [hR]; simp [dR]; done) | (rw [hR]; simp [dR]; rfl) | (rw [hR]; rw [dR_app]; simp; done) | (rw [hR]; simp [setK, setN]; rfl)) (by first | (rw [hR]; show _ = ((s.2.ks ++ [_]).map rE).length; rw [List.length_map, List.length_append]; first | rfl | (rw [h0]; rfl)) | (rw [hR]; rfl) | (rw [hR]; simp; done) | (rw [hR]; simp; rfl) | (rw [hR]; simp [setK, setN, addK, Ex.ks]; done)) (by first | omega | (simp; done) | (simp; omega))) Ctos.nil))))))))) .nil), trivial⟩) rfl ?_ (hbR_box rfl)
          rfl
        · skip
          refine ACode.seq ?_
          refine ACode.region ?_
          refine .cons (.eq rfl rfl rfl) ?_
          refine .cons (.asg rfl rfl) ?_
          refine .nil ?_
          refine ks_n ?_
          refine .cD rfl (fun h42 => ?_) (fun h42 => ?_)
          · skip
            refine ACode.region ?_
            refine .cons (.fB 2 6 true rfl rfl rfl) ?_
            refine .cons (.fB 6 0 false rfl rfl rfl) ?_
            refine .cons (.b1 1 rfl rfl rfl rfl rfl rfl) ?_
            refine .cons (.buZ [(0, .const (.int .i64 (1)))] [(0, 1), (1, 1), (2, 2), (4, 2), (6, 1)] [.int .i64 0, .int .i64 0, .slice none 0 0, .int .i64 0, .string ByteArray.empty, .slice none 0 0, .slice none 0 0] [dI 0, dI 0, .list 1 [], dI 0, dS ByteArray.empty, .list 2 [], .list 7 []] rfl rfl (.val rfl (.val rfl (.list _ (.val rfl (.val rfl (.list _ (.list _ ZR.nil))))))) rfl rfl) ?_
            refine .cons (.li 31 6 0 [.tmp 47] rfl rfl rfl rfl rfl rfl) ?_
            refine .cons (St1.appB (k' := 149) (e := 31) (sz := 6) (by' := 112) rfl rfl rfl rfl rfl (by kernel_rfl) rfl rfl rfl rfl (by simp [dR]) (by simp [dR]; omega) rfl rfl rfl) ?_
            refine .cons (.fB 2 6 true rfl rfl rfl) ?_
            refine .cons (.fB 6 0 false rfl rfl rfl) ?_
            refine .cons (.sT 1 false rfl rfl rfl rfl rfl rfl rfl) ?_
            refine .nil ?_
            refine kb_n ?_
            refine ks_n ?_
            refine ACode.seq ?_
            refine ACode.region ?_
            refine .cons (.bN 9 rfl rfl rfl rfl rfl rfl) ?_
            refine .cons (.sT 9 true rfl rfl rfl rfl rfl rfl rfl) ?_
            refine .nil ?_
            refine ks_n ?_
            refine ACode.ret ?_
            first | rw [if_pos h10] at hR | rw [if_neg h10, if_pos h17] at hR | rw [if_neg h10, if_neg h17, if_pos h28] at hR | rw [if_neg h10, if_neg h17, if_neg h28, if_pos h35] at hR | rw [if_neg h10, if_neg h17, if_neg h28, if_neg h35, if_pos h42] at hR | rw [if_neg h10, if_neg h17, if_neg h28, if_neg h35, if_neg h42] at hR
            refine kf_wret [(.t 4, .v (.o (.c (.box 100 9 0 0)))), (.b 0, .b 113 2 (dR ([rRd bs r.2]))), (.u 0, .u), (.b 100, .b 33 9 [[.d (dS r.1.1.1), .d (dAs r.1.1.2), .d (dI r.1.2.k), .d (dI r.1.2.n), .d (dIs r.1.2.i.1), .d (dI r.1.2.i.2), .d (dS r.1.2.r.1), .d (dAs r.1.2.r.2), .d (dEs r.1.2.ks)]]), (.u 100, .u)] (Wk.keep [(0, 0), (100, 104)] rfl rfl ⟨ks rfl (.c .bx), kb 0 rfl (.dt rfl (by first | rfl | (rw [hR]; done) | (rw [hR]; rfl))), kb 104 rfl (.cons (.cons (.dt (by first | rfl | (rw [hR]; done) | (rw [hR]; rfl))) (.cons (.fz rfl (by first | (rw [hR]; exact (dR_app _ [rA (varA 3), rA zA]).trans (by rw [List.map_append]; rfl)) | (rw [hR]; show _ = dR ((s.2.ks ++ [_]).map rE); rw [List.map_append, rE_one, ← dR_app]; rfl) | (rw [hR]; show _ = dR ((s.2.ks ++ [_]).map rE); rw [List.eq_nil_of_length_eq_zero h0, List.nil_append, rE_one]; rfl) | (rw [hR]; done) | (rw [hR]; rfl) | (rw [hR]; simp [dR]; done) | (rw [hR]; simp [dR]; rfl) | (rw [hR]; rw [dR_app]; simp; done) | (rw [hR]; simp [setK, setN]; rfl)) (by first | (rw [hR]; show _ = ((s.2.ks ++ [_]).map rE).length; rw [List.length_map, List.length_append]; first | rfl | (rw [h0]; rfl)) | (rw [hR]; rfl) | (rw [hR]; simp; done) | (rw [hR]; simp; rfl) | (rw [hR]; simp [setK, setN, addK, Ex.ks]; done)) (by first | omega | (simp; done) | (simp; omega))) (.cons (.dt (by first | rfl | (rw [hR]; done) | (rw [hR]; rfl))) (.cons (.dt (by first | rfl | (rw [hR]; done) | (rw [hR]; rfl))) (.cons (.dt (by first | rfl | (rw [hR]; done) | (rw [hR]; rfl))) (.cons (.dt (by first | rfl | (rw [hR]; done) | (rw [hR]; rfl))) (.cons (.dt (by first | rfl | (rw [hR]; done) | (rw [hR]; rfl))) (.cons (.dt (by first | rfl | (rw [hR]; done) | (rw [hR]; rfl))) (.cons (.fz rfl (by first | (rw [hR]; exact (dR_app _ [rA (varA 3), rA zA]).trans (by rw [List.map_append]; rfl)) | (rw [hR]; show _ = dR ((s.2.ks ++ [_]).map rE); rw [List.map_append, rE_one, ← dR_app]; rfl) | (rw [hR]; show _ = dR ((s.2.ks ++ [_]).map rE); rw [List.eq_nil_of_length_eq_zero h0, List.nil_append, rE_one]; rfl) | (rw [hR]; done) | (rw [hR]; rfl) | (rw [hR]; simp [dR]; done) | (rw [hR]; simp [dR]; rfl) | (rw [hR]; rw [dR_app]; simp; done) | (rw [hR]; simp [setK, setN]; rfl)) (by first | (rw [hR]; show _ = ((s.2.ks ++ [_]).map rE).length; rw [List.length_map, List.length_append]; first | rfl | (rw [h0]; rfl)) | (rw [hR]; rfl) | (rw [hR]; simp; done) | (rw [hR]; simp; rfl) | (rw [hR]; simp [setK, setN, addK, Ex.ks]; done)) (by first | omega | (simp; done) | (simp; omega))) Ctos.nil))))))))) .nil), trivial⟩) rfl ?_ (hbR_box rfl)
            rfl
          · skip
            refine ACode.skip ?_
            refine kb_n ?_
            refine ks_n ?_
            refine ACode.seq ?_
            refine ACode.region ?_
            refine .cons (.bN 9 rfl rfl rfl rfl rfl rfl) ?_
            refine .cons (.sT 9 true rfl rfl rfl rfl rfl rfl rfl) ?_
            refine .nil ?_
            refine ks_n ?_
            refine ACode.ret ?_
            first | rw [if_pos h10] at hR | rw [if_neg h10, if_pos h17] at hR | rw [if_neg h10, if_neg h17, if_pos h28] at hR | rw [if_neg h10, if_neg h17, if_neg h28, if_pos h35] at hR | rw [if_neg h10, if_neg h17, if_neg h28, if_neg h35, if_pos h42] at hR | rw [if_neg h10, if_neg h17, if_neg h28, if_neg h35, if_neg h42] at hR
            refine kf_wret [(.t 4, .v (.o (.c (.box 100 9 0 0)))), (.b 0, .b 113 2 (dR ([rRd bs r.2]))), (.u 0, .u), (.b 100, .b 33 9 [[.d (dS r.1.1.1), .d (dAs r.1.1.2), .d (dI r.1.2.k), .d (dI r.1.2.n), .d (dIs r.1.2.i.1), .d (dI r.1.2.i.2), .d (dS r.1.2.r.1), .d (dAs r.1.2.r.2), .d (dEs r.1.2.ks)]]), (.u 100, .u)] (Wk.keep [(0, 0), (100, 104)] rfl rfl ⟨ks rfl (.c .bx), kb 0 rfl (.dt rfl (by first | rfl | (rw [hR]; done) | (rw [hR]; rfl))), kb 104 rfl (.cons (.cons (.dt (by first | rfl | (rw [hR]; done) | (rw [hR]; rfl))) (.cons (.fz rfl (by first | (rw [hR]; exact (dR_app _ [rA (varA 3), rA zA]).trans (by rw [List.map_append]; rfl)) | (rw [hR]; show _ = dR ((s.2.ks ++ [_]).map rE); rw [List.map_append, rE_one, ← dR_app]; rfl) | (rw [hR]; show _ = dR ((s.2.ks ++ [_]).map rE); rw [List.eq_nil_of_length_eq_zero h0, List.nil_append, rE_one]; rfl) | (rw [hR]; done) | (rw [hR]; rfl) | (rw [hR]; simp [dR]; done) | (rw [hR]; simp [dR]; rfl) | (rw [hR]; rw [dR_app]; simp; done) | (rw [hR]; simp [setK, setN]; rfl)) (by first | (rw [hR]; show _ = ((s.2.ks ++ [_]).map rE).length; rw [List.length_map, List.length_append]; first | rfl | (rw [h0]; rfl)) | (rw [hR]; rfl) | (rw [hR]; simp; done) | (rw [hR]; simp; rfl) | (rw [hR]; simp [setK, setN, addK, Ex.ks]; done)) (by first | omega | (simp; done) | (simp; omega))) (.cons (.dt (by first | rfl | (rw [hR]; done) | (rw [hR]; rfl))) (.cons (.dt (by first | rfl | (rw [hR]; done) | (rw [hR]; rfl))) (.cons (.dt (by first | rfl | (rw [hR]; done) | (rw [hR]; rfl))) (.cons (.dt (by first | rfl | (rw [hR]; done) | (rw [hR]; rfl))) (.cons (.dt (by first | rfl | (rw [hR]; done) | (rw [hR]; rfl))) (.cons (.dt (by first | rfl | (rw [hR]; done) | (rw [hR]; rfl))) (.cons (.fz rfl (by first | (rw [hR]; exact (dR_app _ [rA (varA 3), rA zA]).trans (by rw [List.map_append]; rfl)) | (rw [hR]; show _ = dR ((s.2.ks ++ [_]).map rE); rw [List.map_append, rE_one, ← dR_app]; rfl) | (rw [hR]; show _ = dR ((s.2.ks ++ [_]).map rE); rw [List.eq_nil_of_length_eq_zero h0, List.nil_append, rE_one]; rfl) | (rw [hR]; done) | (rw [hR]; rfl) | (rw [hR]; simp [dR]; done) | (rw [hR]; simp [dR]; rfl) | (rw [hR]; rw [dR_app]; simp; done) | (rw [hR]; simp [setK, setN]; rfl)) (by first | (rw [hR]; show _ = ((s.2.ks ++ [_]).map rE).length; rw [List.length_map, List.length_append]; first | rfl | (rw [h0]; rfl)) | (rw [hR]; rfl) | (rw [hR]; simp; done) | (rw [hR]; simp; rfl) | (rw [hR]; simp [setK, setN, addK, Ex.ks]; done)) (by first | omega | (simp; done) | (simp; omega))) Ctos.nil))))))))) .nil), trivial⟩) rfl ?_ (hbR_box rfl)
            rfl

theorem l3Mutate_fn {bs : List Int} (hb : Bytes bs) {p : Nat} (hp : p ≤ 100000000) (s : Stm) (hs : szS s ≤ 1073741824) (h1 : 0 < s.1.2.length) : Fn Try.prog 49 (hbR bs p) [vR, ad (rS s)] (.o (ad (rS (mutD bs p s).1))) (hbR bs (mutD bs p s).2) := by
  by_cases h : s.2.ks.length = 0
  · exact mut_nil hb hp s hs h1 h
  · exact mut_own hb hp s hs h1 (by omega)

end Go.Proofs.Ytigdfdhjnadieaa

/- Statements: draws of the arguments of laws; condition: bytes. -/
namespace Go.Proofs.Ytigdfdhjnadieaa
set_option linter.unusedVariables false
set_option linter.unusedSimpArgs false
open Go.RowKit

theorem szA_mut (bs : List Int) (p : Nat) (s : Stm) : p ≤ (mutD bs p s).2 ∧ (mutD bs p s).2 ≤ p + 2 ∧ szS (mutD bs p s).1 ≤ szS s + 20 ∧ s.1.2.length ≤ (mutD bs p s).1.1.2.length := by
  have hE := szE_eq s.2
  have key : ∀ (a : List Ex) (x : Ex), szEs (a ++ [x]) = szEs a + szE x := by
    intro a x
    induction a with
    | nil => simp [szEs]
    | cons y a ih => rw [List.cons_append, szEs, szEs, ih]; omega
  unfold mutD
  split
  · refine ⟨by dsimp only; omega, by dsimp only; omega, ?_, Nat.le_refl _⟩
    have h := ofV_size bs (p + 1) [⟨#[69]⟩, ByteArray.empty, ⟨#[65, 66]⟩, ⟨#[97]⟩] (by decide)
    simp only [szS, szC]; omega
  · split
    · refine ⟨by dsimp only; omega, by dsimp only; omega, ?_, by simp⟩
      simp only [szS, szC, szAs, List.length_append, List.map_append, List.sum_append, List.length_cons, List.length_nil, List.map_cons, List.map_nil, List.sum_cons, List.sum_nil, varA, zA, List.length_set]; omega
    · split
      · refine ⟨by dsimp only; omega, by dsimp only; omega, ?_, Nat.le_refl _⟩
        simp only [szS, setK, szE_mk]; omega
      · split
        · refine ⟨by dsimp only; omega, by dsimp only; omega, ?_, Nat.le_refl _⟩
          simp only [szS, setN, szE_mk]; omega
        · split
          · refine ⟨by dsimp only; omega, by dsimp only; omega, ?_, Nat.le_refl _⟩
            have h0 : szC zC0 = 0 := by decide
            have h1 : zA0.1.length = 0 := rfl
            simp only [szS, addK, szE_mk, key, List.length_append, List.length_cons, List.length_nil, szEs, h0, h1]
            omega
          · exact ⟨by dsimp only; omega, by dsimp only; omega, by dsimp only; omega, Nat.le_refl _⟩
/-- A drawn statement with what the laws need of it. -/
theorem stm_ok {bs : List Int} (hb : Bytes bs) {d : Nat} (hd : d ≤ 4) {p : Nat} (hp : p ≤ 50000000) : ∃ (s : Stm) (q : Nat), p ≤ q ∧ q ≤ p + 300 ∧ szS s ≤ 300 ∧ 0 < s.1.2.length ∧ Fn Try.prog 50 (hbR bs p) [vR, nat1 (d : Nat)] (.o (ad (rS s))) (hbR bs q) := by
  obtain ⟨h1, h2, h3, h4⟩ := stmD_bd hb hd p (by omega)
  exact ⟨_, _, h1, by omega, by omega, h4, l3Stmt_fn hb (by omega) d hd⟩
theorem stmC_ok {bs : List Int} (hb : Bytes bs) {d : Nat} (hd : d ≤ 4) {p : Nat} (hp : p ≤ 50000000) : ∃ (s : Stm) (q : Nat), p ≤ q ∧ q ≤ p + 600 ∧ szS s ≤ 300 ∧ 0 < s.1.2.length ∧ Fn Try.prog 102 (hbR bs p) [vR, nat1 (d : Nat)] (.o (ad (rS s))) (hbR bs q) := by
  obtain ⟨h1, h2, h3, h4⟩ := stmC_bd hb hd p (by omega)
  exact ⟨_, _, h1, by omega, by omega, h4, l13Stmt_fn hb (by omega) d hd⟩
theorem mut_ok {bs : List Int} (hb : Bytes bs) {p : Nat} (hp : p ≤ 100000000) {s : Stm} {m : Nat} (hs : szS s ≤ m) (hm : m ≤ 1000000) (h1 : 0 < s.1.2.length) : ∃ (t : Stm) (q : Nat), p ≤ q ∧ q ≤ p + 2 ∧ szS t ≤ m + 20 ∧ 0 < t.1.2.length ∧ Fn Try.prog 49 (hbR bs p) [vR, ad (rS s)] (.o (ad (rS t))) (hbR bs q) := by
  obtain ⟨a1, a2, a3, a4⟩ := szA_mut bs p s
  exact ⟨_, _, a1, a2, by omega, by omega, l3Mutate_fn hb hp s (by omega) h1⟩
theorem pick4 {bs : List Int} (hb : Bytes bs) (p : Nat) (hp : p ≤ 1099511627776) : ∃ d : Nat, pickV bs p 4 = (d : Int) ∧ d ≤ 4 := by
  have h := pickV_bd hb hp 4
  have h2 := h.2 (by omega)
  exact ⟨(pickV bs p 4).toNat, by omega, by omega⟩

set_option maxRecDepth 100000 in
set_option maxHeartbeats 1600000 in
theorem drawSV_core {bs : List Int} (hb : Bytes (bs.take 2000)) {s t : Stm} {q q2 : Nat} {d : Nat} (hd : pickV (bs.take 2000) 0 4 = (d : Int)) (hq : q2 ≤ 1000000) (hF : Fn Try.prog 50 (hbR (bs.take 2000) 1) [vR, nat1 (d : Nat)] (.o (ad (rS s))) (hbR (bs.take 2000) q)) (hM : Fn Try.prog 49 (hbR (bs.take 2000) q) [vR, ad (rS s)] (.o (ad (rS t))) (hbR (bs.take 2000) q2)) : Fn Try.prog 15 [] [vD (dYs bs)] (.tup [ad (rS t), nat1 (numV (bs.take 2000) q2 [2, 1, 3, 0, 4, -1, 5])]) [] := by
  refine Fn.code0 Try.func15 rfl rfl rfl rfl ?_
  refine ACode.seq ?_
  refine ACode.region ?_
  refine .cons (.al 102 [.string ByteArray.empty, .slice none 0 0, .int .i64 0, .int .i64 0, .slice none 0 0, .int .i64 0, .string ByteArray.empty, .slice none 0 0, .slice none 0 0] rfl rfl rfl) ?_
  refine .cons (.asg rfl rfl) ?_
  refine .nil ?_
  refine ks_n ?_
  refine ACode.seq ?_
  refine ACode.region ?_
  refine .cons (.mv rfl rfl) ?_
  refine .cons (.cO [.tmp 6] [(100, 107)] rfl rfl rfl rfl (l16Open_fn bs) rfl trivial flatS.nil (flatS.nil.cons rfl) HB.nil.data outS_one) ?_
  refine .cons (.asg rfl rfl) ?_
  refine .nil ?_
  refine ks_n ?_
  refine ACode.seq ?_
  refine ACode.region ?_
  refine .cons (.mv rfl rfl) ?_
  refine .cons (.mv rfl rfl) ?_
  refine .cons (.mv rfl rfl) ?_
  refine .cons (.cR [.tmp 10, .const (.int .i64 (4))] 107 rfl rfl rfl rfl (hd ▸ pick_fn hb (p := 0) (by omega) 4) rfl ⟨rfl, trivial⟩) ?_
  refine .cons (.cR [.tmp 9, .tmp 11] 107 rfl rfl rfl rfl (hF) rfl ⟨rfl, trivial⟩) ?_
  refine .cons (.cR [.tmp 8, .tmp 12] 107 rfl rfl rfl rfl (hM) rfl ⟨rfl, trivial⟩) ?_
  refine .cons (.al 105 [.string ByteArray.empty, .slice none 0 0, .int .i64 0, .int .i64 0, .slice none 0 0, .int .i64 0, .string ByteArray.empty, .slice none 0 0, .slice none 0 0] rfl rfl rfl) ?_
  refine .cons (.sT 9 true rfl rfl rfl rfl rfl rfl rfl) ?_
  refine .nil ?_
  refine ks_n ?_
  refine ACode.seq ?_
  refine ACode.drawK (by kernel_rfl) (by kernel_rfl) ?_
  refine .cons (.bN 9 rfl rfl rfl rfl rfl rfl) ?_
  refine .cons (.mv rfl rfl) ?_
  refine .cons (.li 3 0 6 [.const (.int .i64 (2)), .const (.int .i64 (1)), .const (.int .i64 (3)), .const (.int .i64 (0)), .const (.int .i64 (4)), .const (.int .i64 (-1)), .const (.int .i64 (5))] rfl rfl rfl rfl rfl rfl) ?_
  refine .cons (.cR [.tmp 15, .tmp 16] 107 rfl rfl rfl rfl (num_fn hb (by omega) [2, 1, 3, 0, 4, -1, 5] (by simp)) rfl ⟨rfl, trivial⟩) ?_
  refine .cons (.sT 9 true rfl rfl rfl rfl rfl rfl rfl) ?_
  refine .cons (.asg rfl rfl) ?_
  refine .nil ⟨by kernel_rfl, ?_⟩
  refine ks_n ?_
  refine ACode.ret ?_
  refine kf_ret rfl ?_ nobox
  rfl

theorem drawSV_fn {bs : List Int} (hb : Bytes (bs.take 2000)) : ∃ (t : Stm) (d : Int), szS t ≤ 400 ∧ 0 < t.1.2.length ∧ (-1 ≤ d ∧ d ≤ 5) ∧ Fn Try.prog 15 [] [vD (dYs bs)] (.tup [ad (rS t), nat1 d]) [] := by
  obtain ⟨d, hd, hd4⟩ := pick4 hb 0 (by omega)
  obtain ⟨s, q, h1, h2, h3, h4, hF⟩ := stm_ok hb hd4 (p := 1) (by omega)
  obtain ⟨t, q2, g1, g2, g3, g4, hM⟩ := mut_ok hb (p := q) (by omega) h3 (by omega) h4
  have hm := numV_mem hb (p := q2) (by omega) (xs := [2, 1, 3, 0, 4, -1, 5]) (by simp)
  simp only [List.mem_cons, List.not_mem_nil, or_false] at hm
  exact ⟨t, _, by omega, g4, by omega, drawSV_core hb hd (by omega) hF hM⟩

set_option maxRecDepth 100000 in
set_option maxHeartbeats 1600000 in
theorem drawFS_core {bs : List Int} {t : Stm} {d : Int} (hD : Fn Try.prog 15 [] [vD (dYs bs)] (.tup [ad (rS t), nat1 d]) []) : Fn Try.prog 65 [] [vD (dYs bs)] (.o (ad (rS t))) [] := by
  refine Fn.code0 Try.func65 rfl rfl rfl rfl ?_
  refine ACode.seq ?_
  refine ACode.region ?_
  refine .cons (.al 102 [.string ByteArray.empty, .slice none 0 0, .int .i64 0, .int .i64 0, .slice none 0 0, .int .i64 0, .string ByteArray.empty, .slice none 0 0, .slice none 0 0] rfl rfl rfl) ?_
  refine .nil ?_
  refine ks_n ?_
  refine ACode.seq ?_
  refine ACode.region ?_
  refine .cons (.mv rfl rfl) ?_
  refine .cons (.cP [.tmp 6] rfl rfl rfl rfl (hD) rfl) ?_
  refine .cons (.mv rfl rfl) ?_
  refine .cons (.ex rfl rfl rfl) ?_
  refine .cons (.ex rfl rfl rfl) ?_
  refine .cons (.al 103 [.string ByteArray.empty, .slice none 0 0, .int .i64 0, .int .i64 0, .slice none 0 0, .int .i64 0, .string ByteArray.empty, .slice none 0 0, .slice none 0 0] rfl rfl rfl) ?_
  refine .cons (.sT 9 true rfl rfl rfl rfl rfl rfl rfl) ?_
  refine .cons (.asg rfl rfl) ?_
  refine .nil ?_
  refine ks_n ?_
  refine ACode.seq ?_
  refine ACode.region ?_
  refine .cons (.bN 9 rfl rfl rfl rfl rfl rfl) ?_
  refine .cons (.sT 9 true rfl rfl rfl rfl rfl rfl rfl) ?_
  refine .nil ?_
  refine ks_n ?_
  refine ACode.ret ?_
  refine kf_ret rfl ?_ nobox
  rfl

set_option maxRecDepth 100000 in
set_option maxHeartbeats 1600000 in
theorem drawSR_core {bs : List Int} {t : Stm} (hD : Fn Try.prog 65 [] [vD (dYs bs)] (.o (ad (rS t))) []) : Fn Try.prog 23 [] [vD (dYs bs)] (.o (ad (rS t))) [] := by
  refine Fn.code0 Try.func23 rfl rfl rfl rfl ?_
  refine ACode.seq ?_
  refine ACode.region ?_
  refine .cons (.al 102 [.string ByteArray.empty, .slice none 0 0, .int .i64 0, .int .i64 0, .slice none 0 0, .int .i64 0, .string ByteArray.empty, .slice none 0 0, .slice none 0 0] rfl rfl rfl) ?_
  refine .nil ?_
  refine ks_n ?_
  refine ACode.seq ?_
  refine ACode.region ?_
  refine .cons (.mv rfl rfl) ?_
  refine .cons (.cP [.tmp 3] rfl rfl rfl rfl (hD) rfl) ?_
  refine .cons (.sT 9 true rfl rfl rfl rfl rfl rfl rfl) ?_
  refine .nil ?_
  refine ks_n ?_
  refine ACode.ret ?_
  refine kf_ret rfl ?_ nobox
  rfl

set_option maxRecDepth 100000 in
set_option maxHeartbeats 1600000 in
theorem drawFo_core {bs : List Int} (hb : Bytes (bs.take 2000)) {s t : Stm} {q q2 : Nat} {d : Nat} (hd : pickV (bs.take 2000) 0 4 = (d : Int)) (hF : Fn Try.prog 102 (hbR (bs.take 2000) 1) [vR, nat1 (d : Nat)] (.o (ad (rS s))) (hbR (bs.take 2000) q)) (hM : Fn Try.prog 49 (hbR (bs.take 2000) q) [vR, ad (rS s)] (.o (ad (rS t))) (hbR (bs.take 2000) q2)) : Fn Try.prog 45 [] [vD (dYs bs)] (.o (ad (rS t))) [] := by
  refine Fn.code0 Try.func45 rfl rfl rfl rfl ?_
  refine ACode.seq ?_
  refine ACode.region ?_
  refine .cons (.al 102 [.string ByteArray.empty, .slice none 0 0, .int .i64 0, .int .i64 0, .slice none 0 0, .int .i64 0, .string ByteArray.empty, .slice none 0 0, .slice none 0 0] rfl rfl rfl) ?_
  refine .nil ?_
  refine ks_n ?_
  refine ACode.seq ?_
  refine ACode.region ?_
  refine .cons (.mv rfl rfl) ?_
  refine .cons (.cO [.tmp 4] [(100, 105)] rfl rfl rfl rfl (l16Open_fn bs) rfl trivial flatS.nil (flatS.nil.cons rfl) HB.nil.data outS_one) ?_
  refine .cons (.asg rfl rfl) ?_
  refine .nil ?_
  refine ks_n ?_
  refine ACode.seq ?_
  refine ACode.region ?_
  refine .cons (.mv rfl rfl) ?_
  refine .cons (.mv rfl rfl) ?_
  refine .cons (.mv rfl rfl) ?_
  refine .cons (.cR [.tmp 8, .const (.int .i64 (4))] 105 rfl rfl rfl rfl (hd ▸ pick_fn hb (p := 0) (by omega) 4) rfl ⟨rfl, trivial⟩) ?_
  refine .cons (.cR [.tmp 7, .tmp 9] 105 rfl rfl rfl rfl (hF) rfl ⟨rfl, trivial⟩) ?_
  refine .cons (.cR [.tmp 6, .tmp 10] 105 rfl rfl rfl rfl (hM) rfl ⟨rfl, trivial⟩) ?_
  refine .cons (.sT 9 true rfl rfl rfl rfl rfl rfl rfl) ?_
  refine .nil ?_
  refine ks_n ?_
  refine ACode.ret ?_
  refine kf_ret rfl ?_ nobox
  rfl

set_option maxRecDepth 100000 in
set_option maxHeartbeats 1600000 in
theorem drawCO_core {bs : List Int} {t : Stm} (hD : Fn Try.prog 45 [] [vD (dYs bs)] (.o (ad (rS t))) []) : Fn Try.prog 20 [] [vD (dYs bs)] (.o (ad (rS t))) [] := by
  refine Fn.code0 Try.func20 rfl rfl rfl rfl ?_
  refine ACode.seq ?_
  refine ACode.region ?_
  refine .cons (.al 102 [.string ByteArray.empty, .slice none 0 0, .int .i64 0, .int .i64 0, .slice none 0 0, .int .i64 0, .string ByteArray.empty, .slice none 0 0, .slice none 0 0] rfl rfl rfl) ?_
  refine .nil ?_
  refine ks_n ?_
  refine ACode.seq ?_
  refine ACode.region ?_
  refine .cons (.mv rfl rfl) ?_
  refine .cons (.cP [.tmp 3] rfl rfl rfl rfl (hD) rfl) ?_
  refine .cons (.sT 9 true rfl rfl rfl rfl rfl rfl rfl) ?_
  refine .nil ?_
  refine ks_n ?_
  refine ACode.ret ?_
  refine kf_ret rfl ?_ nobox
  rfl

theorem drawSR_fn {bs : List Int} (hb : Bytes (bs.take 2000)) : ∃ t : Stm, szS t ≤ 400 ∧ 0 < t.1.2.length ∧ Fn Try.prog 23 [] [vD (dYs bs)] (.o (ad (rS t))) [] := by
  obtain ⟨t, d, h1, h2, _, hD⟩ := drawSV_fn hb
  exact ⟨t, h1, h2, drawSR_core (drawFS_core hD)⟩
theorem drawFo_fn {bs : List Int} (hb : Bytes (bs.take 2000)) : ∃ t : Stm, szS t ≤ 400 ∧ 0 < t.1.2.length ∧ Fn Try.prog 45 [] [vD (dYs bs)] (.o (ad (rS t))) [] := by
  obtain ⟨d, hd, hd4⟩ := pick4 hb 0 (by omega)
  obtain ⟨s, q, h1, h2, h3, h4, hF⟩ := stmC_ok hb hd4 (p := 1) (by omega)
  obtain ⟨t, q2, g1, g2, g3, g4, hM⟩ := mut_ok hb (p := q) (by omega) h3 (by omega) h4
  exact ⟨t, by omega, g4, drawFo_core hb hd hF hM⟩

set_option maxRecDepth 100000 in
set_option maxHeartbeats 1600000 in
theorem drawSb_core {bs : List Int} (hb : Bytes (bs.take 2000)) {s t : Stm} {q q2 : Nat} {d : Nat} (hF : Fn Try.prog 50 (hbR (bs.take 2000) 0) [vR, nat1 3] (.o (ad (rS s))) (hbR (bs.take 2000) q)) (hM : Fn Try.prog 49 (hbR (bs.take 2000) q) [vR, ad (rS s)] (.o (ad (rS t))) (hbR (bs.take 2000) q2)) (hq : q2 ≤ 1000000) (hd : pickV (bs.take 2000) (q2 + 1) 4 = (d : Int)) (hd4 : d ≤ 4) : Fn Try.prog 30 [] [vD (dYs bs)] (.tup [ad (rS t), nat1 (numV (bs.take 2000) q2 [0, 1, 2, 3, -1, 4]), ad (rA (amD (bs.take 2000) (drD (bs.take 2000) (q2 + 1 + 1) d).2 (drD (bs.take 2000) (q2 + 1 + 1) d).1).1)]) [] := by
  have hl := drD_len (bs.take 2000) (q2 + 1 + 1) d
  refine Fn.code0 Try.func30 rfl rfl rfl rfl ?_
  refine ACode.seq ?_
  refine ACode.region ?_
  refine .cons (.al 102 [.string ByteArray.empty, .slice none 0 0, .int .i64 0, .int .i64 0, .slice none 0 0, .int .i64 0, .string ByteArray.empty, .slice none 0 0, .slice none 0 0] rfl rfl rfl) ?_
  refine .cons (.asg rfl rfl) ?_
  refine .cons (.al 104 [.slice none 0 0, .int .i64 0] rfl rfl rfl) ?_
  refine .nil ?_
  refine ks_n ?_
  refine ACode.seq ?_
  refine ACode.region ?_
  refine .cons (.mv rfl rfl) ?_
  refine .cons (.cO [.tmp 8] [(100, 109)] rfl rfl rfl rfl (l16Open_fn bs) rfl trivial flatS.nil (flatS.nil.cons rfl) HB.nil.data outS_one) ?_
  refine .cons (.asg rfl rfl) ?_
  refine .nil ?_
  refine ks_n ?_
  refine ACode.seq ?_
  refine ACode.region ?_
  refine .cons (.mv rfl rfl) ?_
  refine .cons (.mv rfl rfl) ?_
  refine .cons (.cR [.tmp 11, .const (.int .i64 (3))] 109 rfl rfl rfl rfl (hF) rfl ⟨rfl, trivial⟩) ?_
  refine .cons (.cR [.tmp 10, .tmp 12] 109 rfl rfl rfl rfl (hM) rfl ⟨rfl, trivial⟩) ?_
  refine .cons (.al 106 [.string ByteArray.empty, .slice none 0 0, .int .i64 0, .int .i64 0, .slice none 0 0, .int .i64 0, .string ByteArray.empty, .slice none 0 0, .slice none 0 0] rfl rfl rfl) ?_
  refine .cons (.sT 9 true rfl rfl rfl rfl rfl rfl rfl) ?_
  refine .nil ?_
  refine ks_n ?_
  refine ACode.seq ?_
  refine ACode.region ?_
  refine .cons (.mv rfl rfl) ?_
  refine .cons (.li 3 0 5 [.const (.int .i64 (0)), .const (.int .i64 (1)), .const (.int .i64 (2)), .const (.int .i64 (3)), .const (.int .i64 (-1)), .const (.int .i64 (4))] rfl rfl rfl rfl rfl rfl) ?_
  refine .cons (.cR [.tmp 14, .tmp 15] 109 rfl rfl rfl rfl (num_fn hb (by omega) [0, 1, 2, 3, -1, 4] (by simp)) rfl ⟨rfl, trivial⟩) ?_
  refine .cons (.asg rfl rfl) ?_
  refine .nil ?_
  refine ks_n ?_
  refine ACode.seq ?_
  refine ACode.drawK (by kernel_rfl) (by kernel_rfl) ?_
  refine .cons (.bN 9 rfl rfl rfl rfl rfl rfl) ?_
  refine .cons (.mv rfl rfl) ?_
  refine .cons (.mv rfl rfl) ?_
  refine .cons (.mv rfl rfl) ?_
  refine .cons (.mv rfl rfl) ?_
  refine .cons (.cR [.tmp 21, .const (.int .i64 (4))] 109 rfl rfl rfl rfl (hd ▸ pick_fn hb (by omega) 4) rfl ⟨rfl, trivial⟩) ?_
  refine .cons (.cR [.tmp 20, .tmp 22] 109 rfl rfl rfl rfl (l1Draw_fn hb (by omega) d hd4) rfl ⟨rfl, trivial⟩) ?_
  refine .cons (.cR [.tmp 19, .tmp 23] 109 rfl rfl rfl rfl (l1Mutate_fn hb (by omega) (by omega)) rfl ⟨rfl, trivial⟩) ?_
  refine .cons (.sT 9 true rfl rfl rfl rfl rfl rfl rfl) ?_
  refine .cons (.asg rfl rfl) ?_
  refine .cons (.sT 2 true rfl rfl rfl rfl rfl rfl rfl) ?_
  refine .nil ⟨by kernel_rfl, ?_⟩
  refine ks_n ?_
  refine ACode.ret ?_
  refine kf_ret rfl ?_ nobox
  rfl

theorem drawSb_fn {bs : List Int} (hb : Bytes (bs.take 2000)) : ∃ (t : Stm) (v : Int) (a : Aff), szS t ≤ 400 ∧ 0 < t.1.2.length ∧ (-1 ≤ v ∧ v ≤ 4) ∧ a.1.length ≤ 10 ∧ Fn Try.prog 30 [] [vD (dYs bs)] (.tup [ad (rS t), nat1 v, ad (rA a)]) [] := by
  obtain ⟨s, q, h1, h2, h3, h4, hF⟩ := stm_ok hb (d := 3) (by omega) (p := 0) (by omega)
  obtain ⟨t, q2, g1, g2, g3, g4, hM⟩ := mut_ok hb (p := q) (by omega) h3 (by omega) h4
  obtain ⟨d, hd, hd4⟩ := pick4 hb (q2 + 1) (by omega)
  have hm := numV_mem hb (p := q2) (by omega) (xs := [0, 1, 2, 3, -1, 4]) (by simp)
  simp only [List.mem_cons, List.not_mem_nil, or_false] at hm
  have hl := drD_len (bs.take 2000) (q2 + 1 + 1) d
  have ha := (amD_len (bs.take 2000) (drD (bs.take 2000) (q2 + 1 + 1) d).2 (drD (bs.take 2000) (q2 + 1 + 1) d).1).1
  exact ⟨t, _, _, by omega, g4, by omega, by omega, drawSb_core hb hF hM (by omega) hd hd4⟩

set_option maxRecDepth 100000 in
set_option maxHeartbeats 1600000 in
theorem drawPt_core {bs : List Int} (hb : Bytes (bs.take 2000)) {s t : Stm} {q q2 : Nat} (hF : Fn Try.prog 50 (hbR (bs.take 2000) 0) [vR, nat1 2] (.o (ad (rS s))) (hbR (bs.take 2000) q)) (hM : Fn Try.prog 49 (hbR (bs.take 2000) q) [vR, ad (rS s)] (.o (ad (rS t))) (hbR (bs.take 2000) q2)) (hq : q2 ≤ 1000000) : Fn Try.prog 36 [] [vD (dYs bs)] (.tup [ad (rS t), vD (dIs (if pickV (bs.take 2000) (q2 + 1 + 1) 12 = 0 then [numV (bs.take 2000) q2 [0, 1, 2, 3, -1, 99], numV (bs.take 2000) (q2 + 1) [0, 1, 2, 4, 100]].take 1 else [numV (bs.take 2000) q2 [0, 1, 2, 3, -1, 99], numV (bs.take 2000) (q2 + 1) [0, 1, 2, 4, 100]]))]) [] := by
  refine Fn.code0 Try.func36 rfl rfl rfl rfl ?_
  refine ACode.seq ?_
  refine ACode.region ?_
  refine .cons (.al 102 [.string ByteArray.empty, .slice none 0 0, .int .i64 0, .int .i64 0, .slice none 0 0, .int .i64 0, .string ByteArray.empty, .slice none 0 0, .slice none 0 0] rfl rfl rfl) ?_
  refine .cons (.asg rfl rfl) ?_
  refine .nil ?_
  refine ks_n ?_
  refine ACode.seq ?_
  refine ACode.region ?_
  refine .cons (.mv rfl rfl) ?_
  refine .cons (.cO [.tmp 7] [(100, 108)] rfl rfl rfl rfl (l16Open_fn bs) rfl trivial flatS.nil (flatS.nil.cons rfl) HB.nil.data outS_one) ?_
  refine .cons (.asg rfl rfl) ?_
  refine .nil ?_
  refine ks_n ?_
  refine ACode.seq ?_
  refine ACode.region ?_
  refine .cons (.mv rfl rfl) ?_
  refine .cons (.mv rfl rfl) ?_
  refine .cons (.cR [.tmp 10, .const (.int .i64 (2))] 108 rfl rfl rfl rfl (hF) rfl ⟨rfl, trivial⟩) ?_
  refine .cons (.cR [.tmp 9, .tmp 11] 108 rfl rfl rfl rfl (hM) rfl ⟨rfl, trivial⟩) ?_
  refine .cons (.al 105 [.string ByteArray.empty, .slice none 0 0, .int .i64 0, .int .i64 0, .slice none 0 0, .int .i64 0, .string ByteArray.empty, .slice none 0 0, .slice none 0 0] rfl rfl rfl) ?_
  refine .cons (.sT 9 true rfl rfl rfl rfl rfl rfl rfl) ?_
  refine .nil ?_
  refine ks_n ?_
  refine ACode.seq ?_
  refine ACode.region ?_
  refine .cons (.mv rfl rfl) ?_
  refine .cons (.li 3 0 5 [.const (.int .i64 (0)), .const (.int .i64 (1)), .const (.int .i64 (2)), .const (.int .i64 (3)), .const (.int .i64 (-1)), .const (.int .i64 (99))] rfl rfl rfl rfl rfl rfl) ?_
  refine .cons (.cR [.tmp 13, .tmp 14] 108 rfl rfl rfl rfl (num_fn hb (by omega) [0, 1, 2, 3, -1, 99] (by simp)) rfl ⟨rfl, trivial⟩) ?_
  refine .cons (.mv rfl rfl) ?_
  refine .cons (.li 3 0 4 [.const (.int .i64 (0)), .const (.int .i64 (1)), .const (.int .i64 (2)), .const (.int .i64 (4)), .const (.int .i64 (100))] rfl rfl rfl rfl rfl rfl) ?_
  refine .cons (.cR [.tmp 16, .tmp 17] 108 rfl rfl rfl rfl (num_fn hb (by omega) [0, 1, 2, 4, 100] (by simp)) rfl ⟨rfl, trivial⟩) ?_
  refine .cons (.li 3 0 1 [.tmp 15, .tmp 18] rfl rfl rfl rfl rfl rfl) ?_
  refine .cons (.asg rfl rfl) ?_
  refine .nil ?_
  refine ks_n ?_
  refine ACode.seq ?_
  refine ACode.seq ?_
  refine ACode.region ?_
  refine .cons (.mv rfl rfl) ?_
  refine .cons (.cR [.tmp 20, .const (.int .i64 (12))] 108 rfl rfl rfl rfl (pick_fn hb (by omega) 12) rfl ⟨rfl, trivial⟩) ?_
  refine .cons (.eq rfl rfl rfl) ?_
  refine .nil ?_
  refine ks_n ?_
  refine .cD rfl (fun h22 => ?_) (fun h22 => ?_)
  · skip
    refine ACode.seq ?_
    refine ACode.drawK (by kernel_rfl) (by kernel_rfl) ?_
    refine .cons (.bN 9 rfl rfl rfl rfl rfl rfl) ?_
    refine .cons (.mv rfl rfl) ?_
    refine .cons (St1.sliceTo (e := 3) (sz := 1) (by' := 8) (k := 1) rfl rfl rfl rfl (by kernel_rfl) rfl rfl rfl (by first | rfl | omega) (Nat.succ_le_succ (Nat.zero_le _))) ?_
    refine .cons (.sT 9 true rfl rfl rfl rfl rfl rfl rfl) ?_
    refine .cons (.asg rfl rfl) ?_
    refine .nil ⟨by kernel_rfl, ?_⟩
    refine ks_n ?_
    refine ACode.ret ?_
    refine ks_r ?_
    refine kf_ret rfl ?_ nobox
    rw [if_pos h22]; rfl
  · skip
    refine ACode.skip ?_
    refine ks_n ?_
    refine ACode.seq ?_
    refine ACode.region ?_
    refine .cons (.bN 9 rfl rfl rfl rfl rfl rfl) ?_
    refine .cons (.mv rfl rfl) ?_
    refine .cons (.sT 9 true rfl rfl rfl rfl rfl rfl rfl) ?_
    refine .cons (.asg rfl rfl) ?_
    refine .nil ?_
    refine ks_n ?_
    refine ACode.ret ?_
    refine kf_ret rfl ?_ nobox
    rw [if_neg h22]; rfl

theorem drawPt_fn {bs : List Int} (hb : Bytes (bs.take 2000)) : ∃ (t : Stm) (x : List Int), szS t ≤ 400 ∧ 0 < t.1.2.length ∧ x.length ≤ 2 ∧ (∀ n ∈ x, -1 ≤ n ∧ n ≤ 100) ∧ Fn Try.prog 36 [] [vD (dYs bs)] (.tup [ad (rS t), vD (dIs x)]) [] := by
  obtain ⟨s, q, h1, h2, h3, h4, hF⟩ := stm_ok hb (d := 2) (by omega) (p := 0) (by omega)
  obtain ⟨t, q2, g1, g2, g3, g4, hM⟩ := mut_ok hb (p := q) (by omega) h3 (by omega) h4
  have hm := numV_mem hb (p := q2) (by omega) (xs := [0, 1, 2, 3, -1, 99]) (by simp)
  have hm2 := numV_mem hb (p := q2 + 1) (by omega) (xs := [0, 1, 2, 4, 100]) (by simp)
  simp only [List.mem_cons, List.not_mem_nil, or_false] at hm hm2
  refine ⟨t, _, by omega, g4, ?_, ?_, drawPt_core hb hF hM (by omega)⟩
  · split <;> simp
  · intro n hn
    have : n = numV (bs.take 2000) q2 [0, 1, 2, 3, -1, 99] ∨ n = numV (bs.take 2000) (q2 + 1) [0, 1, 2, 4, 100] := by
      split at hn
      · simp at hn; exact .inl hn
      · simpa using hn
    rcases this with rfl | rfl <;> omega

end Go.Proofs.Ytigdfdhjnadieaa

/- Plain laws of statements: maps over their affine parts; no condition. -/
namespace Go.Proofs.Ytigdfdhjnadieaa
set_option linter.unusedVariables false
set_option linter.unusedSimpArgs false
open Go.RowKit

theorem mapE_congr' {f g : Aff → Aff} : ∀ e : Ex, (∀ x ∈ affsE e, f x = g x) → mapE f e = mapE g e := by
  refine Ex.rec' fun e ih h => ?_
  rw [mapE_eq, mapE_eq]
  congr 1
  · split
    · next h2 => exact h _ (affsE_i h2)
    · rfl
  · split
    · next h2 => rw [mapC, mapC]; exact Prod.ext rfl (List.map_congr_left fun x hx => h x (affsE_r h2 hx))
    · rfl
  · exact List.map_congr_left fun x hx => ih x hx fun y hy => h y (affsE_k hx hy)
theorem mapE_congr {f g : Aff → Aff} {e : Ex} (h : ∀ x ∈ affsE e, f x = g x) : mapE f e = mapE g e := mapE_congr' e h
theorem mapS_congr {f g : Aff → Aff} {s : Stm} (h : ∀ x ∈ affsS s, f x = g x) : mapS f s = mapS g s := by
  rw [mapS, mapS, mapE_congr (fun x hx => h x (by rw [affsS]; simp [hx]))]
  rw [mapC, mapC]
  exact Prod.ext (Prod.ext rfl (List.map_congr_left fun x hx => h x (by rw [affsS]; simp [hx]))) rfl
theorem mapC_comp (f g : Aff → Aff) (a : Acc) : mapC g (mapC f a) = mapC (fun x => g (f x)) a := by
  simp [mapC, Function.comp_def]
theorem mapE_comp (f g : Aff → Aff) : ∀ e : Ex, mapE g (mapE f e) = mapE (fun x => g (f x)) e := by
  refine Ex.rec' fun e ih => ?_
  obtain ⟨k, n, i, r, ks⟩ := e
  simp only [mapE, mapEs_map, List.map_map]
  congr 1
  · split <;> rfl
  · split
    · exact mapC_comp f g r
    · rfl
  · exact List.map_congr_left fun x hx => ih x hx
theorem mapS_comp (f g : Aff → Aff) (s : Stm) : mapS g (mapS f s) = mapS (fun x => g (f x)) s := by
  rw [mapS, mapS, mapS, mapC_comp, mapE_comp]
theorem rdE_map (g : Aff → Aff) : ∀ e : Ex, rdE (mapE g e) = (rdE e).map (mapC g) := by
  refine Ex.rec' fun e ih => ?_
  obtain ⟨k, n, i, r, ks⟩ := e
  simp only [mapE, mapEs_map, rdE, List.map_append]
  replace ih : ∀ x ∈ ks, rdE (mapE g x) = (rdE x).map (mapC g) := ih
  congr 1
  · split <;> simp
  · induction ks with
    | nil => rfl
    | cons y l ihl =>
      rw [List.map_cons, rdEs, rdEs, List.map_append, ih y (by simp), ihl fun x hx => ih x (by simp [hx])]
theorem rdE_aff {a : Acc} : ∀ e : Ex, a ∈ rdE e → ∀ x ∈ a.2, x ∈ affsE e := by
  refine Ex.rec' fun e ih h x hx => ?_
  rw [rdE_eq] at h
  rcases List.mem_append.1 h with h | h
  · split at h
    · next h3 => rw [List.mem_singleton] at h; subst h; exact affsE_r h3 hx
    · cases h
  · have : ∀ l : List Ex, a ∈ rdEs l → ∃ y ∈ l, a ∈ rdE y := by
      intro l
      induction l with
      | nil => intro h; cases h
      | cons y l ihl =>
        intro h
        rw [rdEs] at h
        rcases List.mem_append.1 h with h | h
        · exact ⟨y, by simp, h⟩
        · obtain ⟨z, h1, h2⟩ := ihl h; exact ⟨z, by simp [h1], h2⟩
    obtain ⟨y, hy, hay⟩ := this _ h
    exact affsE_k hy (ih y hy hay x hx)
theorem getD_set4 (a : List Int) (i j : Nat) (v : Int) (h : j < a.length) : (a.set i v).getD j 0 = if i = j then v else a.getD j 0 := by
  rw [List.getD_eq_getElem?_getD, List.getD_eq_getElem?_getD, List.getElem?_set]
  split
  · next e => subst e; rw [if_pos h]; rfl
  · rfl
theorem subst_const (x : Aff) (v : Nat) (m : Int) (h : x.1.length = 4) : affSubst x v ([0, 0, 0, 0], m) = (x.1.set v 0, x.2 + x.1.getD v 0 * m) := by
  obtain ⟨l, n⟩ := x
  match l, h with
  | [a, b, c, d], _ =>
    match v with
    | 0 => simp [affSubst, affSum]
    | 1 => simp [affSubst, affSum]
    | 2 => simp [affSubst, affSum]
    | 3 => simp [affSubst, affSum]
    | v + 4 => simp [affSubst, affSum]
theorem subst_swap (x : Aff) (m n : Int) (h : x.1.length = 4) : affSubst (affSubst x 0 ([0, 0, 0, 0], m)) 1 ([0, 0, 0, 0], n) = affSubst (affSubst x 1 ([0, 0, 0, 0], n)) 0 ([0, 0, 0, 0], m) := by
  rw [subst_const x 0 m h, subst_const x 1 n h, subst_const _ _ _ (by simp [h]), subst_const _ _ _ (by simp [h])]
  obtain ⟨l, k⟩ := x
  match l, h with
  | [a, b, c, d], _ => simp; omega
theorem subst_id (x : Aff) (v : Nat) (h : x.1.length = 4) (hv : v < 4) : affSubst x v (([0, 0, 0, 0] : List Int).set v 1, 0) = x := by
  obtain ⟨l, n⟩ := x
  match l, h with
  | [a, b, c, d], _ =>
    match v, hv with
    | 0, _ => simp [affSubst, affSum]
    | 1, _ => simp [affSubst, affSum]
    | 2, _ => simp [affSubst, affSum]
    | 3, _ => simp [affSubst, affSum]
theorem rdS_len (s : Stm) : (rdS s).length ≤ 12 := by
  rw [rdS]
  split
  · next h => exact Nat.le_trans (rdE_len _) (stmtV_ex h).2.2.1
  · exact Nat.zero_le _
theorem rdE_sz {a : Acc} : ∀ e : Ex, a ∈ rdE e → szC a ≤ szE e := by
  refine Ex.rec' fun e ih h => ?_
  have he := szE_eq e
  rw [rdE_eq] at h
  rcases List.mem_append.1 h with h | h
  · split at h
    · rw [List.mem_singleton] at h; subst h; omega
    · cases h
  · have : ∀ l : List Ex, a ∈ rdEs l → ∃ y ∈ l, a ∈ rdE y := by
      intro l
      induction l with
      | nil => intro h; cases h
      | cons y l ihl =>
        intro h
        rw [rdEs] at h
        rcases List.mem_append.1 h with h | h
        · exact ⟨y, by simp, h⟩
        · obtain ⟨z, h1, h2⟩ := ihl h; exact ⟨z, by simp [h1], h2⟩
    obtain ⟨y, hy, hay⟩ := this _ h
    have := ih y hy hay
    have := szEs_mem hy
    omega
theorem rdS_sz {s : Stm} {a : Acc} (h : a ∈ rdS s) : a.2.length ≤ szS s := by
  rw [rdS] at h
  split at h
  · have := rdE_sz _ h
    have h2 := szAs_len a.2
    rw [szC] at this
    rw [szS]; omega
  · cases h
theorem sameS_self (s : Stm) : sameS s s = true := sameS_iff.2 rfl
theorem stm_len {d : Int} {s : Stm} (h : stmtV d s = true) : ∀ x ∈ affsS s, x.1.length = 4 := fun x hx => affV_len (stmtV_aff h x hx).1
theorem affs_map {g : Aff → Aff} : ∀ {e : Ex}, ∀ a ∈ affsE (mapE g e), ∃ b ∈ affsE e, a = g b := by
  intro e
  induction e using Ex.rec' with
  | h e ih =>
    intro a ha
    rw [mapE_eq, affsE] at ha
    rcases List.mem_append.1 ha with ha | ha
    · split at ha
      · next hk => rw [List.mem_singleton] at ha; exact ⟨e.i, affsE_i hk, by simpa [hk] using ha⟩
      · cases ha
    · rcases List.mem_append.1 ha with ha | ha
      · split at ha
        · next hk =>
          have ha : a ∈ (mapC g e.r).2 := by simpa [hk] using ha
          rw [mapC] at ha
          obtain ⟨b, hb, rfl⟩ := List.mem_map.1 ha
          exact ⟨b, affsE_r hk hb, rfl⟩
        · cases ha
      · obtain ⟨y, hy, hay⟩ := affsEs_of ha
        obtain ⟨z, hz, rfl⟩ := List.mem_map.1 hy
        obtain ⟨b, hb, e⟩ := ih z hz a hay
        exact ⟨b, affsE_k hz hb, e⟩
theorem affsS_map {g : Aff → Aff} {s : Stm} : ∀ a ∈ affsS (mapS g s), ∃ b ∈ affsS s, a = g b := by
  intro a ha
  rw [affsS, mapS] at ha
  rcases List.mem_append.1 ha with ha | ha
  · obtain ⟨b, hb, rfl⟩ := List.mem_map.1 ha
    exact ⟨b, by rw [affsS]; simp [hb], rfl⟩
  · obtain ⟨b, hb, e⟩ := affs_map a ha
    exact ⟨b, by rw [affsS]; simp [hb], e⟩
end Go.Proofs.Ytigdfdhjnadieaa

/- Statements: the reads, in a slice of their own; condition: small lists. -/
namespace Go.Proofs.Ytigdfdhjnadieaa
set_option linter.unusedVariables false
set_option linter.unusedSimpArgs false
open Go.RowKit

theorem kid_nil {e x : Ex} (h : rdE e = []) (hx : x ∈ e.ks) : rdE x = [] := by
  rw [rdE_eq] at h
  have h2 := (List.append_eq_nil_iff.1 h).2
  revert h2 hx
  generalize e.ks = l
  intro hx h2
  induction l with
  | nil => cases hx
  | cons y l ih =>
    rw [rdEs, List.append_eq_nil_iff] at h2
    rcases List.mem_cons.1 hx with rfl | hx
    · exact h2.1
    · exact ih hx h2.2

set_option maxRecDepth 100000 in
set_option maxHeartbeats 1600000 in
theorem reads_own (e : Ex) {d L : Nat} (hv : exV d L e = true) (hcn : cntE e ≤ 64) (hne : 0 < (rdE e).length) (ih : ∀ x ∈ e.ks, Fn Try.prog 66 [] [ad (rX x)] (.o (vD (dCs (rdE x)))) []) : Fn Try.prog 66 [] [ad (rX e)] (.o (.c (.own 100 2 (rdE e).length))) [(.b 100, .b 25 2 (dR ((rdE e).map rC))), (.u 100, .u)] := by
  have hkl := (exV_kids hv).1
  refine Fn.of_code Try.func66 rfl rfl HB.nil rfl rfl HB.nil.data rfl (one_num rfl) ?_
  refine ACode.seq ?_
  refine ACode.region ?_
  refine .cons (St1.boxP rfl rfl rfl rfl rfl rfl) ?_
  refine .cons (.asg rfl rfl) ?_
  refine .nil ?_
  refine ks_n ?_
  refine ACode.seq ?_
  refine ACode.seq ?_
  refine ACode.region ?_
  refine .cons (.fP 0 0 false rfl rfl) ?_
  refine .cons (.l1 1 rfl rfl) ?_
  refine .cons (.eq rfl rfl rfl) ?_
  refine .nil ?_
  refine ks_n ?_
  refine .cD rfl (fun h8 => ?_) (fun h8 => ?_)
  · skip
    refine ACode.seq ?_
    refine ACode.region ?_
    refine .cons (.fP 4 1 true rfl rfl) ?_
    refine .cons (.lN 2 rfl rfl rfl) ?_
    refine .cons (St1.litB (k' := 111) (e := 25) (sz := 1) (m := 0) (xs := [.tmp 10]) rfl rfl rfl rfl rfl (by kernel_rfl) rfl rfl rfl rfl rfl) ?_
    refine .cons (.asg rfl rfl) ?_
    refine .nil ?_
    refine ks_n ?_
    refine ACode.ret ?_
    refine ks_r ?_
    refine kf_wret [(.t 2, .v (.o (.c (.own 100 2 ((rdE e).length))))), (.b 100, .b 25 2 (dR ((rdE e).map rC))), (.u 100, .u)] (Wk.keep [(100, 111)] rfl rfl ⟨ks rfl (.c (.ow (by rw [rdE_eq, if_pos h8, leaf_nil hv (by omega)]; rfl))), kb 111 rfl (.dt rfl (by rw [rdE_eq, if_pos h8, leaf_nil hv (by omega)]; rfl)), trivial⟩) rfl ?_ (one_box rfl)
    rfl
  · skip
    refine ACode.skip ?_
    refine ks_n ?_
    refine ACode.seq ?_
    refine ACode.region ?_
    refine .cons (.asg rfl rfl) ?_
    refine .nil ?_
    refine ks_n ?_
    refine ACode.seq ?_
    refine ACode.seq ?_
    refine ACode.region ?_
    refine .cons (.fP 6 0 false rfl rfl) ?_
    refine .cons (.l1 1 rfl rfl) ?_
    refine .cons (.ln 31 7 112 rfl rfl rfl) ?_
    refine .cons (.mv rfl rfl) ?_
    refine .nil ?_
    refine ks_n ?_
    refine ACode.block ?_
    refine .loopK (fun m σ => (∃ i : Nat, m = e.ks.length - i ∧ (i ≤ e.ks.length) ∧ (rdEs (e.ks.take i) = []) ∧ σ = [(.t 1, .v (.o (.c (.ptr (rX e))))), (.t 2, .v (.o (.c (.d (.val (.slice none 0 0)))))), (.t 3, .v (.o (.c (.d (.val (.slice none 0 0)))))), (.t 13, .v (.o (vD (dEs e.ks)))), (.t 14, .v (.o (nat1 (e.ks.length : Nat)))), (.t 15, .v (.o (nat1 (i : Nat))))]) ∨ (∃ i : Nat, m = e.ks.length - i ∧ (i ≤ e.ks.length) ∧ (0 < (rdEs (e.ks.take i)).length) ∧ σ = [(.t 1, .v (.o (.c (.ptr (rX e))))), (.t 2, .v (.o (.c (.d (.val (.slice none 0 0)))))), (.t 3, .v (.o (.c (.own 110 2 ((rdEs (e.ks.take i)).length))))), (.t 13, .v (.o (vD (dEs e.ks)))), (.t 14, .v (.o (nat1 (e.ks.length : Nat)))), (.t 15, .v (.o (nat1 (i : Nat)))), (.b 110, .b 25 2 (dR ((rdEs (e.ks.take i)).map rC))), (.u 110, .u)])) [] (.inl ⟨0, rfl, by omega, by simp [rdEs], rfl⟩) ⟨ks rfl .dt, ks rfl .dt, ks rfl .dt, ks rfl .dt, ks rfl .dt, ks rfl .dt, trivial⟩ ?_
    rintro m σ (⟨i, hm0, hi, h0, rfl⟩ | ⟨i, hm0, hi, h0, rfl⟩)
    · skip
      refine ACode.seq ?_
      refine ACode.region ?_
      refine .cons (.ls rfl rfl rfl) ?_
      refine .nil ?_
      refine ks_n ?_
      refine ACode.seq ?_
      refine .cD rfl (fun h16 => ?_) (fun h16 => ?_)
      · skip
        obtain ⟨x, hx1⟩ : ∃ x, e.ks[i]? = some x := ⟨_, List.getElem?_eq_getElem (by omega)⟩
        have hmx := List.mem_of_getElem? hx1
        have hT := rdEs_take hx1
        have h64 := kids64 (i := i + 1) hcn
        refine ACode.skip ?_
        refine ks_n ?_
        refine ACode.seq ?_
        refine ACode.block ?_
        refine ACode.seq ?_
        refine ACode.region ?_
        refine .cons (.xL 31 7 112 rfl rfl rfl rfl rfl (rE_at hx1)) ?_
        refine .cons (.lN 7 rfl rfl rfl) ?_
        refine .cons (.al 105 [.int .i64 0, .int .i64 0, .slice none 0 0, .int .i64 0, .string ByteArray.empty, .slice none 0 0, .slice none 0 0] rfl rfl rfl) ?_
        refine .cons (.sT 7 true rfl rfl rfl rfl rfl rfl rfl) ?_
        refine .nil ?_
        refine ks_n ?_
        by_cases hsp : rdE x = []
        · skip
          refine ACode.region ?_
          refine .cons (.mv rfl rfl) ?_
          refine .cons (.bN 7 rfl rfl rfl rfl rfl rfl) ?_
          refine .cons (.cP [.tmp 20] rfl rfl rfl rfl (ih x hmx) rfl) ?_
          refine .cons (St1.appNE (e := 25) (sz := 1) (by' := 40) rfl rfl rfl rfl rfl (by kernel_rfl) rfl (congrArg (fun l => some (V.o (vD (dCs l)))) hsp)) ?_
          refine .cons (.asg rfl rfl) ?_
          refine .nil ?_
          refine kb_n ?_
          refine ks_n ?_
          refine ACode.region ?_
          refine .cons (.pl rfl rfl rfl) ?_
          refine .cons (.mv rfl rfl) ?_
          refine .nil ?_
          refine kl_k [] (.inl ⟨i + 1, rfl, by omega, by rw [hT, h0, hsp]; rfl, rfl⟩) ⟨ks rfl .dt, ks rfl .dt, ks rfl .dt, ks rfl .dt, ks rfl .dt, ks rfl .dt, trivial⟩
        · skip
          refine ACode.region ?_
          refine .cons (.mv rfl rfl) ?_
          refine .cons (.bN 7 rfl rfl rfl rfl rfl rfl) ?_
          refine .cons (.cP [.tmp 20] rfl rfl rfl rfl (ih x hmx) rfl) ?_
          refine .cons (St1.appN (k' := 122) (e := 25) (sz := 1) (by' := 40) rfl rfl rfl rfl rfl (by kernel_rfl) rfl rfl rfl (by rw [List.length_map]; exact List.length_pos_iff.2 hsp) (by rw [hT, List.length_append] at h64; simp [dR]; omega) rfl rfl) ?_
          refine .cons (.asg rfl rfl) ?_
          refine .nil ?_
          refine kb_n ?_
          refine ks_n ?_
          refine ACode.region ?_
          refine .cons (.pl rfl rfl rfl) ?_
          refine .cons (.mv rfl rfl) ?_
          refine .nil ?_
          refine kl_k [(110, 122)] (.inr ⟨i + 1, rfl, by omega, by rw [hT, List.length_append]; have := List.length_pos_iff.2 hsp; omega, rfl⟩) ⟨ks rfl .dt, ks rfl .dt, ks rfl (.c (.ow (by first | (simp [rdEs]; done) | (rw [hT, List.length_append, List.length_map]; done) | (rw [hT, h0, List.length_map]; rfl) | (simp [hT, h0]; done)))), ks rfl .dt, ks rfl .dt, ks rfl .dt, kb 122 rfl (.dt rfl (by first | (rw [hT, ← dR_apC]; done) | (rw [hT, h0]; rfl) | (rw [hT, dR_apC]; done) | (simp [dR, hT, h0]; done))), trivial⟩
      · skip
        exact absurd hne (by rw [rdE_eq, if_neg h8, ← List.take_of_length_le (l := e.ks) (i := i) (by omega), List.nil_append, h0]; simp)
    · skip
      refine ACode.seq ?_
      refine ACode.region ?_
      refine .cons (.ls rfl rfl rfl) ?_
      refine .nil ?_
      refine ks_n ?_
      refine ACode.seq ?_
      refine .cD rfl (fun h16 => ?_) (fun h16 => ?_)
      · skip
        obtain ⟨x, hx1⟩ : ∃ x, e.ks[i]? = some x := ⟨_, List.getElem?_eq_getElem (by omega)⟩
        have hmx := List.mem_of_getElem? hx1
        have hT := rdEs_take hx1
        have h64 := kids64 (i := i + 1) hcn
        refine ACode.skip ?_
        refine ks_n ?_
        refine ACode.seq ?_
        refine ACode.block ?_
        refine ACode.seq ?_
        refine ACode.region ?_
        refine .cons (.xL 31 7 112 rfl rfl rfl rfl rfl (rE_at hx1)) ?_
        refine .cons (.lN 7 rfl rfl rfl) ?_
        refine .cons (.al 105 [.int .i64 0, .int .i64 0, .slice none 0 0, .int .i64 0, .string ByteArray.empty, .slice none 0 0, .slice none 0 0] rfl rfl rfl) ?_
        refine .cons (.sT 7 true rfl rfl rfl rfl rfl rfl rfl) ?_
        refine .nil ?_
        refine ks_n ?_
        refine ACode.region ?_
        refine .cons (.mv rfl rfl) ?_
        refine .cons (.bN 7 rfl rfl rfl rfl rfl rfl) ?_
        refine .cons (.cP [.tmp 20] rfl rfl rfl rfl (ih x hmx) rfl) ?_
        refine .cons (St1.appB (k' := 122) (e := 25) (sz := 1) (by' := 40) rfl rfl rfl rfl rfl (by kernel_rfl) rfl rfl rfl rfl (by simp [dR]) (by rw [hT, List.length_append] at h64; simp [dR]; omega) rfl rfl rfl) ?_
        refine .cons (.asg rfl rfl) ?_
        refine .nil ?_
        refine kb_n ?_
        refine ks_n ?_
        refine ACode.region ?_
        refine .cons (.pl rfl rfl rfl) ?_
        refine .cons (.mv rfl rfl) ?_
        refine .nil ?_
        refine kl_k [(110, 122)] (.inr ⟨i + 1, rfl, by omega, by rw [hT, List.length_append]; omega, rfl⟩) ⟨ks rfl .dt, ks rfl .dt, ks rfl (.c (.ow (by first | (simp [rdEs]; done) | (rw [hT, List.length_append, List.length_map]; done) | (rw [hT, h0, List.length_map]; rfl) | (simp [hT, h0]; done)))), ks rfl .dt, ks rfl .dt, ks rfl .dt, kb 122 rfl (.dt rfl (by first | (rw [hT, ← dR_apC]; done) | (rw [hT, h0]; rfl) | (rw [hT, dR_apC]; done) | (simp [dR, hT, h0]; done))), trivial⟩
      · skip
        have hR : rdEs (e.ks.take i) = rdE e := by rw [List.take_of_length_le (by omega), rdE_eq, if_neg h8]; rfl
        refine ACode.exit ?_
        refine ks_e ?_
        refine kl_e ?_
        refine kb_hit ?_
        refine ks_n ?_
        refine ACode.seq ?_
        refine ACode.region ?_
        refine .cons (.mv rfl rfl) ?_
        refine .cons (.asg rfl rfl) ?_
        refine .nil ?_
        refine ks_n ?_
        refine ACode.ret ?_
        refine kf_wret [(.t 2, .v (.o (.c (.own 100 2 ((rdE e).length))))), (.b 100, .b 25 2 (dR ((rdE e).map rC))), (.u 100, .u)] (Wk.keep [(100, 110)] rfl rfl ⟨ks rfl (.c (.ow (by rw [hR]))), kb 110 rfl (.dt rfl (by rw [hR])), trivial⟩) rfl ?_ (one_box rfl)
        rfl

set_option maxRecDepth 100000 in
set_option maxHeartbeats 1600000 in
theorem reads_nil (e : Ex) {d L : Nat} (hv : exV d L e = true) (hcn : cntE e ≤ 64) (hn : rdE e = []) (ih : ∀ x ∈ e.ks, Fn Try.prog 66 [] [ad (rX x)] (.o (vD (dCs (rdE x)))) []) : Fn Try.prog 66 [] [ad (rX e)] (.o (.c (.d (.val (.slice none 0 0))))) [] := by
  have hkl := (exV_kids hv).1
  refine Fn.code0 Try.func66 rfl rfl rfl rfl ?_
  refine ACode.seq ?_
  refine ACode.region ?_
  refine .cons (St1.boxP rfl rfl rfl rfl rfl rfl) ?_
  refine .cons (.asg rfl rfl) ?_
  refine .nil ?_
  refine ks_n ?_
  refine ACode.seq ?_
  refine ACode.seq ?_
  refine ACode.region ?_
  refine .cons (.fP 0 0 false rfl rfl) ?_
  refine .cons (.l1 1 rfl rfl) ?_
  refine .cons (.eq rfl rfl rfl) ?_
  refine .nil ?_
  refine ks_n ?_
  refine .cD rfl (fun h8 => ?_) (fun h8 => ?_)
  · skip
    exact absurd hn (by rw [rdE_eq, if_pos h8]; simp)
  · skip
    refine ACode.skip ?_
    refine ks_n ?_
    refine ACode.seq ?_
    refine ACode.region ?_
    refine .cons (.asg rfl rfl) ?_
    refine .nil ?_
    refine ks_n ?_
    refine ACode.seq ?_
    refine ACode.seq ?_
    refine ACode.region ?_
    refine .cons (.fP 6 0 false rfl rfl) ?_
    refine .cons (.l1 1 rfl rfl) ?_
    refine .cons (.ln 31 7 112 rfl rfl rfl) ?_
    refine .cons (.mv rfl rfl) ?_
    refine .nil ?_
    refine ks_n ?_
    refine ACode.block ?_
    refine .loopK (fun m σ => (∃ i : Nat, m = e.ks.length - i ∧ (i ≤ e.ks.length) ∧ (rdEs (e.ks.take i) = []) ∧ σ = [(.t 1, .v (.o (.c (.ptr (rX e))))), (.t 2, .v (.o (.c (.d (.val (.slice none 0 0)))))), (.t 3, .v (.o (.c (.d (.val (.slice none 0 0)))))), (.t 13, .v (.o (vD (dEs e.ks)))), (.t 14, .v (.o (nat1 (e.ks.length : Nat)))), (.t 15, .v (.o (nat1 (i : Nat))))])) [] ⟨0, rfl, by omega, by simp [rdEs], rfl⟩ ⟨ks rfl .dt, ks rfl .dt, ks rfl .dt, ks rfl .dt, ks rfl .dt, ks rfl .dt, trivial⟩ ?_
    rintro m σ ⟨i, hm0, hi, h0, rfl⟩
    refine ACode.seq ?_
    refine ACode.region ?_
    refine .cons (.ls rfl rfl rfl) ?_
    refine .nil ?_
    refine ks_n ?_
    refine ACode.seq ?_
    refine .cD rfl (fun h16 => ?_) (fun h16 => ?_)
    · skip
      obtain ⟨x, hx1⟩ : ∃ x, e.ks[i]? = some x := ⟨_, List.getElem?_eq_getElem (by omega)⟩
      have hmx := List.mem_of_getElem? hx1
      have hT := rdEs_take hx1
      have h64 := kids64 (i := i + 1) hcn
      have hxn : rdE x = [] := kid_nil hn hmx
      refine ACode.skip ?_
      refine ks_n ?_
      refine ACode.seq ?_
      refine ACode.block ?_
      refine ACode.seq ?_
      refine ACode.region ?_
      refine .cons (.xL 31 7 112 rfl rfl rfl rfl rfl (rE_at hx1)) ?_
      refine .cons (.lN 7 rfl rfl rfl) ?_
      refine .cons (.al 105 [.int .i64 0, .int .i64 0, .slice none 0 0, .int .i64 0, .string ByteArray.empty, .slice none 0 0, .slice none 0 0] rfl rfl rfl) ?_
      refine .cons (.sT 7 true rfl rfl rfl rfl rfl rfl rfl) ?_
      refine .nil ?_
      refine ks_n ?_
      refine ACode.region ?_
      refine .cons (.mv rfl rfl) ?_
      refine .cons (.bN 7 rfl rfl rfl rfl rfl rfl) ?_
      refine .cons (.cP [.tmp 20] rfl rfl rfl rfl (ih x hmx) rfl) ?_
      refine .cons (St1.appNE (e := 25) (sz := 1) (by' := 40) rfl rfl rfl rfl rfl (by kernel_rfl) rfl (congrArg (fun l => some (V.o (vD (dCs l)))) hxn)) ?_
      refine .cons (.asg rfl rfl) ?_
      refine .nil ?_
      refine kb_n ?_
      refine ks_n ?_
      refine ACode.region ?_
      refine .cons (.pl rfl rfl rfl) ?_
      refine .cons (.mv rfl rfl) ?_
      refine .nil ?_
      refine kl_k [] ⟨i + 1, rfl, by omega, by rw [hT, h0, hxn]; rfl, rfl⟩ ⟨ks rfl .dt, ks rfl .dt, ks rfl .dt, ks rfl .dt, ks rfl .dt, ks rfl .dt, trivial⟩
    · skip
      refine ACode.exit ?_
      refine ks_e ?_
      refine kl_e ?_
      refine kb_hit ?_
      refine ks_n ?_
      refine ACode.seq ?_
      refine ACode.region ?_
      refine .cons (.mv rfl rfl) ?_
      refine .cons (.asg rfl rfl) ?_
      refine .nil ?_
      refine ks_n ?_
      refine ACode.ret ?_
      refine kf_ret rfl ?_ nobox
      rfl

theorem reads_ownS {s : Stm} (hv : stmtV 4 s = true) (hne : 0 < (rdS s).length) : Fn Try.prog 66 [] [ad (rX (mapS id s).2)] (.o (.c (.own 100 2 (rdS s).length))) [(.b 100, .b 25 2 (dR ((rdS s).map rC))), (.u 100, .u)] := by
  have e : rdS s = rdE s.2 := if_pos hv
  rw [mapS_id hv]; rw [e] at hne ⊢
  have h := (stmtV_ex hv).1
  exact reads_own s.2 h (cnt64 h (by omega)) hne fun x hx => reads_fn (L := 4) x (by omega) ((exV_kids h).2 x hx)
theorem reads_nilS {s : Stm} (hv : stmtV 4 s = true) (hn : (rdS s).length = 0) : Fn Try.prog 66 [] [ad (rX (mapS id s).2)] (.o (.c (.d (.val (.slice none 0 0))))) [] := by
  have e : rdS s = rdE s.2 := if_pos hv
  rw [mapS_id hv]; rw [e] at hn
  have h := (stmtV_ex hv).1
  exact reads_nil s.2 h (cnt64 h (by omega)) (List.eq_nil_of_length_eq_zero hn) fun x hx => reads_fn (L := 4) x (by omega) ((exV_kids h).2 x hx)

set_option maxRecDepth 100000 in
set_option maxHeartbeats 1600000 in
theorem implReads_own (s : Stm) (hs : szS s ≤ 1073741824) (hne : 0 < (rdS s).length) : Fn Try.prog 24 [] [ad (rS s)] (.o (.c (.own 100 2 (rdS s).length))) [(.b 100, .b 25 2 (dR ((rdS s).map rC))), (.u 100, .u)] := by
  refine Fn.of_code Try.func24 rfl rfl HB.nil rfl rfl HB.nil.data rfl (one_num rfl) ?_
  refine ACode.seq ?_
  refine ACode.region ?_
  refine .cons (St1.boxP rfl rfl rfl rfl rfl rfl) ?_
  refine .cons (.asg rfl rfl) ?_
  refine .nil ?_
  refine ks_n ?_
  refine ACode.seq ?_
  refine ACode.seq ?_
  refine ACode.region ?_
  refine .cons (.lN 9 rfl rfl rfl) ?_
  refine .cons (.cP [.tmp 3] rfl rfl rfl rfl (isStmt_fn s (by omega)) rfl) ?_
  refine .cons (.nt rfl rfl) ?_
  refine .nil ?_
  refine ks_n ?_
  refine ACode.condT rfl (fun h5 => ?_) (fun h5 => ?_)
  · try simp only [List.length_map, decide_eq_true_eq, decide_eq_false_iff_not, Bool.not_eq_true', Bool.not_eq_false', Bool.not_eq_true, Bool.not_eq_false] at h5
    exact absurd hne (by rw [rdS, h5]; simp)
  · try simp only [List.length_map, decide_eq_true_eq, decide_eq_false_iff_not, Bool.not_eq_true', Bool.not_eq_false', Bool.not_eq_true, Bool.not_eq_false] at h5
    refine ACode.skip ?_
    refine ks_n ?_
    refine ACode.seq ?_
    refine ACode.region ?_
    refine .cons (.lN 9 rfl rfl rfl) ?_
    refine .cons (.cP [.tmp 6] rfl rfl rfl rfl (ownStmt_fn s hs) rfl) ?_
    refine .cons (.fN 2 7 rfl rfl) ?_
    refine .cons (.cO [.tmp 8] [(100, 109)] rfl rfl rfl rfl (reads_ownS h5 hne) rfl trivial flatS.nil (flatS.nil.cons rfl) HB.nil.data outS_one) ?_
    refine .cons (.asg rfl rfl) ?_
    refine .nil ?_
    refine ks_n ?_
    refine ACode.ret ?_
    refine kf_wret [(.t 2, .v (.o (.c (.own 100 2 ((rdS s).length))))), (.b 100, .b 25 2 (dR ((rdS s).map rC))), (.u 100, .u)] (Wk.keep [(100, 109)] rfl rfl ⟨ks rfl (.c (.ow rfl)), kb 109 rfl (.dt rfl rfl), trivial⟩) rfl ?_ (one_box rfl)
    rfl

set_option maxRecDepth 100000 in
set_option maxHeartbeats 1600000 in
theorem implReads_nil (s : Stm) (hs : szS s ≤ 1073741824) (hn : (rdS s).length = 0) : Fn Try.prog 24 [] [ad (rS s)] (.o (.c (.d (.val (.slice none 0 0))))) [] := by
  refine Fn.of_code Try.func24 rfl rfl HB.nil rfl rfl HB.nil rfl nonum ?_
  refine ACode.seq ?_
  refine ACode.region ?_
  refine .cons (St1.boxP rfl rfl rfl rfl rfl rfl) ?_
  refine .cons (.asg rfl rfl) ?_
  refine .nil ?_
  refine ks_n ?_
  refine ACode.seq ?_
  refine ACode.seq ?_
  refine ACode.region ?_
  refine .cons (.lN 9 rfl rfl rfl) ?_
  refine .cons (.cP [.tmp 3] rfl rfl rfl rfl (isStmt_fn s (by omega)) rfl) ?_
  refine .cons (.nt rfl rfl) ?_
  refine .nil ?_
  refine ks_n ?_
  refine ACode.condT rfl (fun h5 => ?_) (fun h5 => ?_)
  · try simp only [List.length_map, decide_eq_true_eq, decide_eq_false_iff_not, Bool.not_eq_true', Bool.not_eq_false', Bool.not_eq_true, Bool.not_eq_false] at h5
    refine ACode.seq ?_
    refine ACode.region ?_
    refine .cons (.asg rfl rfl) ?_
    refine .nil ?_
    refine ks_n ?_
    refine ACode.ret ?_
    refine ks_r ?_
    refine kf_ret rfl ?_ nobox
    rfl
  · try simp only [List.length_map, decide_eq_true_eq, decide_eq_false_iff_not, Bool.not_eq_true', Bool.not_eq_false', Bool.not_eq_true, Bool.not_eq_false] at h5
    refine ACode.skip ?_
    refine ks_n ?_
    refine ACode.seq ?_
    refine ACode.region ?_
    refine .cons (.lN 9 rfl rfl rfl) ?_
    refine .cons (.cP [.tmp 6] rfl rfl rfl rfl (ownStmt_fn s hs) rfl) ?_
    refine .cons (.fN 2 7 rfl rfl) ?_
    refine .cons (.cP [.tmp 8] rfl rfl rfl rfl (reads_nilS h5 hn) rfl) ?_
    refine .cons (.asg rfl rfl) ?_
    refine .nil ?_
    refine ks_n ?_
    refine ACode.ret ?_
    refine kf_ret rfl ?_ nobox
    rfl

end Go.Proofs.Ytigdfdhjnadieaa

/- Law FnStmtSum; condition: bytes. -/
namespace Go.Proofs.Ytigdfdhjnadieaa
set_option linter.unusedVariables false
set_option linter.unusedSimpArgs false
open Go.RowKit

/-- The sum of two statements' sides, at the first one's place. -/
def sumS (s t : Stm) : Stm := (s.1, .mk 4 0 ([], 0) (ByteArray.empty, []) [s.2, t.2])
theorem sumS_rows (s t : Stm) : [[C.d (dS s.1.1), .d (dAs s.1.2), .d (dI 4), .d (dI 0), .d (.list 1 []), .d (dI 0), .d (dS ByteArray.empty), .d (.list 2 []), .d (.list 7 [rX s.2, rX t.2])]] = dR [rS (sumS s t)] := by
  rw [show [rX s.2, rX t.2] = [s.2, t.2].map rE by simp [rE_eq]]; rfl
def accS (z : Acc) : Stm := (z, .mk 0 0 ([], 0) (ByteArray.empty, []) [])
theorem sum_reads {s t : Stm} (h : stmtV 4 (sumS s t) = true) (ht : stmtV 4 t = true) : rdS (sumS s t) = rdS s ++ rdS t := by
  obtain ⟨h1, h2, h3, _, _⟩ := stmtV_ex h
  obtain ⟨_, hk⟩ := exV_kids h1
  have hs : exV 4 5 s.2 = true := exV_up (hk s.2 (by simp [sumS, Ex.ks]))
  have hc : cntE (sumS s t).2 = 1 + (cntE s.2 + (cntE t.2 + 0)) := by rw [sumS, cntE, cntEs, cntEs, cntEs]
  have hsv : stmtV 4 s = true := by
    rw [stmtV_s (by omega), show accV (4 : Int).toNat s.1 = true from h2, show exV (4 : Int).toNat 5 s.2 = true from hs, decide_eq_true (by omega)]; rfl
  rw [rdS, rdS, rdS, if_pos h, if_pos hsv, if_pos ht, sumS, rdE, if_neg (by decide), rdEs, rdEs, rdEs]
  simp
theorem accS_sz {s : Stm} {a : Acc} (h : a ∈ rdS s) : szS (accS a) ≤ szS s := by
  rw [rdS] at h
  split at h
  · have := rdE_sz _ h
    have e : szS (accS a) = szC a := by simp [szS, accS, szE, szEs, szC, szAs]
    rw [e, szS]; omega
  · cases h
theorem sumS_sz {s t : Stm} {m n : Nat} (hs : szS s ≤ m) (ht : szS t ≤ n) : szS (sumS s t) ≤ m + n + 2 := by
  simp only [szS, sumS, szE, szEs, szC, szAs] at *
  simp
  omega

set_option maxRecDepth 100000 in
set_option maxHeartbeats 1600000 in
theorem stmtSum_o {bs bs2 : List Int} (hl : bs.length ≤ 1048576) (hl2 : bs2.length ≤ 1048576) {s t : Stm} (hs : szS s ≤ 400) (ht : szS t ≤ 400) (hD : Fn Try.prog 23 [] [vD (dYs bs)] (.o (ad (rS s))) []) (hD2 : Fn Try.prog 23 [] [vD (dYs bs2)] (.o (ad (rS t))) []) (hne : 0 < (rdS s).length) : Fn Try.prog 5 [] [vD (dYs bs), vD (dYs bs2)] (.o (bo1 true)) [] := by
  have z1 := sumS_sz hs ht
  have z2 := rdS_len s
  have z3 := rdS_len t
  have z4 := rdS_len (sumS s t)
  refine Fn.code0 Try.func5 rfl rfl rfl rfl ?_
  refine ACode.seq ?_
  refine ACode.region ?_
  refine .cons (.asg rfl rfl) ?_
  refine .nil ?_
  refine ks_n ?_
  refine ACode.seq ?_
  refine ACode.seq ?_
  refine ACode.region ?_
  refine .cons (.mv rfl rfl) ?_
  refine .cons (.ln 5 1 1 rfl rfl rfl) ?_
  refine .cons (.gt rfl rfl rfl) ?_
  refine .cons (.mv rfl rfl) ?_
  refine .cD 15 rfl (fun g15 => ?_) (fun g15 => ?_)
  · skip
    refine .cons (.gF rfl rfl rfl) ?_
    refine .cons (.gF rfl rfl rfl) ?_
    refine .cons (.gF rfl rfl rfl) ?_
    refine .cons (.pT rfl rfl rfl) ?_
    refine .nil ?_
    refine ks_n ?_
    refine ACode.condT rfl (fun _ => ?_) (fun h => by first | (cases h; done) | (simp [*] at h; done) | (exfalso; simp_all; done))
    refine ACode.seq ?_
    refine ACode.region ?_
    refine .cons (.asg rfl rfl) ?_
    refine .nil ?_
    refine ks_n ?_
    refine ACode.ret ?_
    refine ks_r ?_
    refine kf_ret rfl ?_ nobox
    first | rfl | (exfalso; omega) | (exfalso; simp_all only [beq_self_eq_true, sameS_self, Bool.true_eq_false, reduceCtorEq]; done) | exact leafB (decide_eq_true (by omega)) | with_reducible exact leafB (sameS_self _) | exact leafB (by simp) | (exfalso; simp_all [sameS_self]; done) | grind
  · skip
    refine .cons (.gT rfl rfl rfl (.mv rfl rfl)) ?_
    refine .cons (.gT rfl rfl rfl (.ln 5 1 1 rfl rfl rfl)) ?_
    refine .cons (.gT rfl rfl rfl (.gt rfl rfl rfl)) ?_
    refine .cons (.pF rfl rfl rfl) ?_
    refine .nil ?_
    refine ks_n ?_
    refine ACode.condT rfl (fun h19 => ?_) (fun h19 => ?_)
    · try simp only [List.length_map, decide_eq_true_eq, decide_eq_false_iff_not, Bool.not_eq_true', Bool.not_eq_false', Bool.not_eq_true, Bool.not_eq_false] at h19
      omega
    · try simp only [List.length_map, decide_eq_true_eq, decide_eq_false_iff_not, Bool.not_eq_true', Bool.not_eq_false', Bool.not_eq_true, Bool.not_eq_false] at h19
      refine ACode.skip ?_
      refine ks_n ?_
      refine ACode.seq ?_
      refine ACode.region ?_
      refine .cons (.mv rfl rfl) ?_
      refine .cons (.cP [.tmp 20] rfl rfl rfl rfl (hD) rfl) ?_
      refine .cons (.al 105 [.string ByteArray.empty, .slice none 0 0, .int .i64 0, .int .i64 0, .slice none 0 0, .int .i64 0, .string ByteArray.empty, .slice none 0 0, .slice none 0 0] rfl rfl rfl) ?_
      refine .cons (.sT 9 true rfl rfl rfl rfl rfl rfl rfl) ?_
      refine .nil ?_
      refine ks_n ?_
      refine ACode.seq ?_
      refine ACode.region ?_
      refine .cons (.mv rfl rfl) ?_
      refine .cons (.cP [.tmp 22] rfl rfl rfl rfl (hD2) rfl) ?_
      refine .cons (.al 106 [.string ByteArray.empty, .slice none 0 0, .int .i64 0, .int .i64 0, .slice none 0 0, .int .i64 0, .string ByteArray.empty, .slice none 0 0, .slice none 0 0] rfl rfl rfl) ?_
      refine .cons (.sT 9 true rfl rfl rfl rfl rfl rfl rfl) ?_
      refine .nil ?_
      refine ks_n ?_
      refine ACode.seq ?_
      refine ACode.region ?_
      refine .cons (.fB 0 1 true rfl rfl rfl) ?_
      refine .cons (.bN 2 rfl rfl rfl rfl rfl rfl) ?_
      refine .cons (.fB 2 6 true rfl rfl rfl) ?_
      refine .cons (.bN 7 rfl rfl rfl rfl rfl rfl) ?_
      refine .cons (.fB 2 6 true rfl rfl rfl) ?_
      refine .cons (.bN 7 rfl rfl rfl rfl rfl rfl) ?_
      refine .cons (.li 31 6 1 [.tmp 27, .tmp 29] rfl rfl rfl rfl rfl rfl) ?_
      refine .cons (.buZ [(0, .const (.int .i64 (4))), (4, .tmp 30)] [(0, 1), (1, 1), (2, 2), (4, 2), (6, 1)] [.int .i64 0, .int .i64 0, .slice none 0 0, .int .i64 0, .string ByteArray.empty, .slice none 0 0, .slice none 0 0] [dI 0, dI 0, .list 1 [], dI 0, dS ByteArray.empty, .list 2 [], .list 7 []] rfl rfl (.val rfl (.val rfl (.list _ (.val rfl (.val rfl (.list _ (.list _ ZR.nil))))))) rfl rfl) ?_
      refine .cons (.bu [(0, .tmp 25), (1, .tmp 31)] [(0, 2), (2, 7)] [.string ByteArray.empty, .slice none 0 0, .int .i64 0, .int .i64 0, .slice none 0 0, .int .i64 0, .string ByteArray.empty, .slice none 0 0, .slice none 0 0] rfl rfl rfl rfl rfl) ?_
      refine .cons (.al 107 [.string ByteArray.empty, .slice none 0 0, .int .i64 0, .int .i64 0, .slice none 0 0, .int .i64 0, .string ByteArray.empty, .slice none 0 0, .slice none 0 0] rfl rfl rfl) ?_
      refine .cons (.sT 9 true rfl rfl rfl rfl rfl rfl rfl) ?_
      refine .nil ?_
      refine ks_n ?_
      refine ACode.seq ?_
      refine .keep [(.t 5, .v (.o (.c (.box 760 9 0 0)))), (.t 6, .v (.o (.c (.box 761 9 0 0)))), (.t 7, .v (.o (.c (.box 762 9 0 0)))), (.b 760, .b 33 9 (dR ([rS s]))), (.u 760, .u), (.b 761, .b 33 9 (dR ([rS t]))), (.u 761, .u), (.b 762, .b 33 9 (dR ([rS (sumS s t)]))), (.u 762, .u)] [(760, 105), (761, 106), (762, 107)] ⟨ks rfl (.c .bx), ks rfl (.c .bx), ks rfl (.c .bx), kb 105 rfl (.dt rfl), kb 106 rfl (.dt rfl), kb 107 rfl (.dt rfl (sumS_rows s t)), trivial⟩ ?_
      refine ACode.region ?_
      refine .cons (.bN 9 rfl rfl rfl rfl rfl rfl) ?_
      refine .cons (.cO [.tmp 33] [(100, 134)] rfl rfl rfl rfl (implReads_own s (by omega) hne) rfl trivial flatS.nil (flatS.nil.cons rfl) HB.nil.data outS_one) ?_
      refine .cons (.asg rfl rfl) ?_
      refine .nil ?_
      refine ks_n ?_
      refine ACode.seq ?_
      refine ACode.seq ?_
      refine ACode.region ?_
      refine .cons (.mv rfl rfl) ?_
      refine .cons (.lB 25 2 40 rfl rfl rfl rfl) ?_
      refine .cons (.bN 9 rfl rfl rfl rfl rfl rfl) ?_
      refine .cons (.cP [.tmp 37] rfl rfl rfl rfl (specReads_fn s (by omega)) rfl) ?_
      refine .cons (.ln 25 2 40 rfl rfl rfl) ?_
      refine .cons (.ne rfl rfl rfl) ?_
      refine .cons (.mv rfl rfl) ?_
      refine .cND 41 rfl (fun g41 => ?_) (fun g41 => ?_)
      · skip
        refine .cons (.gF rfl rfl rfl) ?_
        refine .cons (.gF rfl rfl rfl) ?_
        refine .cons (.gF rfl rfl rfl) ?_
        refine .cons (.pT rfl rfl rfl) ?_
        refine .cons (.mv rfl rfl) ?_
        refine .cons (.gF rfl rfl rfl) ?_
        refine .cons (.gF rfl rfl rfl) ?_
        refine .cons (.gF rfl rfl rfl) ?_
        refine .cons (.pT rfl rfl rfl) ?_
        refine .nil ?_
        refine ks_n ?_
        refine ACode.condT rfl (fun _ => ?_) (fun h => by first | (cases h; done) | (simp [*] at h; done) | (exfalso; simp_all; done))
        refine ACode.seq ?_
        refine ACode.region ?_
        refine .cons (.mv rfl rfl) ?_
        refine .cons (.lB 25 2 40 rfl rfl rfl rfl) ?_
        refine .cons (.bN 9 rfl rfl rfl rfl rfl rfl) ?_
        refine .cons (.cP [.tmp 53] rfl rfl rfl rfl (specReads_fn s (by omega)) rfl) ?_
        refine .cons (.ln 25 2 40 rfl rfl rfl) ?_
        refine .cons (.eq rfl rfl rfl) ?_
        refine .cons (.asg rfl rfl) ?_
        refine .nil ?_
        refine ks_n ?_
        refine ACode.ret ?_
        refine ks_r ?_
        refine kf_ret rfl ?_ nobox
        first | rfl | (exfalso; omega) | (exfalso; simp_all only [beq_self_eq_true, sameS_self, Bool.true_eq_false, reduceCtorEq]; done) | exact leafB (decide_eq_true (by omega)) | with_reducible exact leafB (sameS_self _) | exact leafB (by simp) | (exfalso; simp_all [sameS_self]; done) | grind
      · skip
        refine .cons (.gT rfl rfl rfl (.bN 9 rfl rfl rfl rfl rfl rfl)) ?_
        refine .cons (.gT rfl rfl rfl (.cP [.tmp 42, .const (.int .i64 (4))] rfl rfl rfl rfl (implStmtV_fn 4 (sumS s t) (by omega)) rfl)) ?_
        refine .cons (.gT rfl rfl rfl (.nt rfl rfl)) ?_
        refine .cons (.pF rfl rfl rfl) ?_
        refine .cons (.mv rfl rfl) ?_
        refine AOps.cases 46 _ rfl (fun g46 => ?_) (fun g46 => ?_)
        · try simp only [List.length_map, decide_eq_true_eq, decide_eq_false_iff_not, Bool.not_eq_true', Bool.not_eq_false', Bool.not_eq_true, Bool.not_eq_false] at g46
          refine .cons (.gF rfl rfl rfl) ?_
          refine .cons (.gF rfl rfl rfl) ?_
          refine .cons (.gF rfl rfl rfl) ?_
          refine .cons (.pT rfl rfl rfl) ?_
          refine .nil ?_
          refine ks_n ?_
          refine ACode.condT rfl (fun _ => ?_) (fun h => by first | (cases h; done) | (simp [*] at h; done) | (exfalso; simp_all; done))
          refine ACode.seq ?_
          refine ACode.region ?_
          refine .cons (.mv rfl rfl) ?_
          refine .cons (.lB 25 2 40 rfl rfl rfl rfl) ?_
          refine .cons (.bN 9 rfl rfl rfl rfl rfl rfl) ?_
          refine .cons (.cP [.tmp 53] rfl rfl rfl rfl (specReads_fn s (by omega)) rfl) ?_
          refine .cons (.ln 25 2 40 rfl rfl rfl) ?_
          refine .cons (.eq rfl rfl rfl) ?_
          refine .cons (.asg rfl rfl) ?_
          refine .nil ?_
          refine ks_n ?_
          refine ACode.ret ?_
          refine ks_r ?_
          refine kf_ret rfl ?_ nobox
          first | rfl | (exfalso; omega) | (exfalso; simp_all only [beq_self_eq_true, sameS_self, Bool.true_eq_false, reduceCtorEq]; done) | exact leafB (decide_eq_true (by omega)) | with_reducible exact leafB (sameS_self _) | exact leafB (by simp) | (exfalso; simp_all [sameS_self]; done) | grind
        · try simp only [List.length_map, decide_eq_true_eq, decide_eq_false_iff_not, Bool.not_eq_true', Bool.not_eq_false', Bool.not_eq_true, Bool.not_eq_false] at g46
          refine .cons (.gT rfl rfl rfl (.bN 9 rfl rfl rfl rfl rfl rfl)) ?_
          refine .cons (.gT rfl rfl rfl (.cP [.tmp 47, .const (.int .i64 (4))] rfl rfl rfl rfl (implStmtV_fn 4 t (by omega)) rfl)) ?_
          refine .cons (.gT rfl rfl rfl (.nt rfl rfl)) ?_
          refine .cons (.pF rfl rfl rfl) ?_
          refine .nil ?_
          refine ks_n ?_
          refine ACode.condT rfl (fun h50 => ?_) (fun h50 => ?_)
          · try simp only [List.length_map, decide_eq_true_eq, decide_eq_false_iff_not, Bool.not_eq_true', Bool.not_eq_false', Bool.not_eq_true, Bool.not_eq_false] at h50
            refine ACode.seq ?_
            refine ACode.region ?_
            refine .cons (.mv rfl rfl) ?_
            refine .cons (.lB 25 2 40 rfl rfl rfl rfl) ?_
            refine .cons (.bN 9 rfl rfl rfl rfl rfl rfl) ?_
            refine .cons (.cP [.tmp 53] rfl rfl rfl rfl (specReads_fn s (by omega)) rfl) ?_
            refine .cons (.ln 25 2 40 rfl rfl rfl) ?_
            refine .cons (.eq rfl rfl rfl) ?_
            refine .cons (.asg rfl rfl) ?_
            refine .nil ?_
            refine ks_n ?_
            refine ACode.ret ?_
            refine ks_r ?_
            refine kf_ret rfl ?_ nobox
            first | rfl | (exfalso; omega) | (exfalso; simp_all only [beq_self_eq_true, sameS_self, Bool.true_eq_false, reduceCtorEq]; done) | exact leafB (decide_eq_true (by omega)) | with_reducible exact leafB (sameS_self _) | exact leafB (by simp) | (exfalso; simp_all [sameS_self]; done) | grind
          · try simp only [List.length_map, decide_eq_true_eq, decide_eq_false_iff_not, Bool.not_eq_true', Bool.not_eq_false', Bool.not_eq_true, Bool.not_eq_false] at h50
            have hsum := sum_reads g46 h50
            have hsl := congrArg List.length hsum
            refine ACode.skip ?_
            refine ks_n ?_
            refine ACode.seq ?_
            refine ACode.region ?_
            refine .cons (.mv rfl rfl) ?_
            refine .cons (.bN 9 rfl rfl rfl rfl rfl rfl) ?_
            refine .cons (.cP [.tmp 58] rfl rfl rfl rfl (implReads_fn t (by omega)) rfl) ?_
            refine .cons (St1.appB (k' := 160) (e := 25) (sz := 1) (by' := 40) rfl rfl rfl rfl rfl (by kernel_rfl) rfl rfl rfl rfl (by simp [dR]) (by simp [dR]; omega) rfl rfl rfl) ?_
            refine .cons (.asg rfl rfl) ?_
            refine .nil ?_
            refine ks_n ?_
            refine ACode.seq ?_
            refine ACode.region ?_
            refine .cons (.bN 9 rfl rfl rfl rfl rfl rfl) ?_
            refine .cons (.cP [.tmp 61] rfl rfl rfl rfl (implReads_fn (sumS s t) (by omega)) rfl) ?_
            refine .cons (.asg rfl rfl) ?_
            refine .nil ?_
            refine ks_n ?_
            refine ACode.seq ?_
            refine ACode.seq ?_
            refine ACode.region ?_
            refine .cons (.asg rfl rfl) ?_
            refine .nil ?_
            refine ks_n ?_
            refine ACode.block ?_
            refine .loopK (fun m σ => (∃ i : Nat, m = (rdS s ++ rdS t).length - i ∧ (i ≤ (rdS s ++ rdS t).length) ∧ (True) ∧ σ = [(.t 7, .v (.o (.c (.box 110 9 0 0)))), (.t 9, .v (.o (.c (.own 111 2 ((rdS s ++ rdS t).length))))), (.t 10, .v (.o (vD (dCs (rdS (sumS s t)))))), (.t 11, .v (.o (nat1 (i : Nat)))), (.b 110, .b 33 9 (dR ([rS (sumS s t)]))), (.u 110, .u), (.b 111, .b 25 2 (dR ((rdS s ++ rdS t).map rC))), (.u 111, .u)])) [(110, 762), (111, 160)] ⟨0, rfl, by omega, trivial, rfl⟩ ⟨ks rfl (.c .bx), ks rfl (.c (.ow (by simp))), ks rfl .dt, ks rfl .dt, kb 762 rfl (.dt rfl), kb 160 rfl (.dt rfl (by first | rfl | exact dR_apC _ _ | (rw [List.map_append, ← dR_apC]; done))), trivial⟩ ?_
            rintro m σ ⟨i, hm0, hi, hF, rfl⟩
            refine ACode.seq ?_
            refine ACode.seq ?_
            refine ACode.region ?_
            refine .cons (.mv rfl rfl) ?_
            refine .cons (.mv rfl rfl) ?_
            refine .cons (.lB 25 2 40 rfl rfl rfl rfl) ?_
            refine .cons (.ls rfl rfl rfl) ?_
            refine .nil ?_
            refine ks_n ?_
            refine .cD rfl (fun h66 => ?_) (fun h66 => ?_)
            · skip
              obtain ⟨z, hx2⟩ : ∃ x, (rdS s ++ rdS t)[i]? = some x := ⟨_, List.getElem?_eq_getElem (by omega)⟩
              have hx1 : (rdS (sumS s t))[i]? = some z := by rw [hsum]; exact hx2
              refine ACode.skip ?_
              refine ks_n ?_
              refine ACode.seq ?_
              refine ACode.block ?_
              refine ACode.seq ?_
              refine ACode.drawK (by kernel_rfl) (by kernel_rfl) ?_
              refine .cons (.mv rfl rfl) ?_
              refine .cons (.ln 25 2 40 rfl rfl rfl) ?_
              refine .cons (.mv rfl rfl) ?_
              refine .cons (.lB 25 2 40 rfl rfl rfl rfl) ?_
              refine .cons (.ne rfl rfl rfl) ?_
              refine .cons (.mv rfl rfl) ?_
              refine .cND 74 rfl (fun g74 => ?_) (fun g74 => ?_)
              · skip
                refine .cons (.gF rfl rfl rfl) ?_
                refine .cons (.gF rfl rfl rfl) ?_
                refine .cons (.gF rfl rfl rfl) ?_
                refine .cons (.gF rfl rfl rfl) ?_
                refine .cons (.gF rfl rfl rfl) ?_
                refine .cons (.gF rfl rfl rfl) ?_
                refine .cons (.gF rfl rfl rfl) ?_
                refine .cons (.gF rfl rfl rfl) ?_
                refine .cons (.gF rfl rfl rfl) ?_
                refine .cons (.gF rfl rfl rfl) ?_
                refine .cons (.gF rfl rfl rfl) ?_
                refine .cons (.gF rfl rfl rfl) ?_
                refine .cons (.pT rfl rfl rfl) ?_
                refine .nil ⟨by kernel_rfl, ?_⟩
                refine ks_n ?_
                refine ACode.condT rfl (fun _ => ?_) (fun h => by first | (cases h; done) | (simp [*] at h; done) | (exfalso; simp_all; done))
                refine ACode.seq ?_
                refine ACode.region ?_
                refine .cons (.asg rfl rfl) ?_
                refine .nil ?_
                refine ks_n ?_
                refine ACode.ret ?_
                refine kb_r ?_
                refine ks_r ?_
                refine kl_r ?_
                refine kb_r ?_
                refine ks_r ?_
                refine kf_ret rfl ?_ nobox
                first | rfl | (exfalso; omega) | (exfalso; simp_all only [beq_self_eq_true, sameS_self, Bool.true_eq_false, reduceCtorEq]; done) | exact leafB (decide_eq_true (by omega)) | with_reducible exact leafB (sameS_self _) | exact leafB (by simp) | (exfalso; simp_all [sameS_self]; done) | grind
              · skip
                refine .cons (.gT rfl rfl rfl (.mv rfl rfl)) ?_
                refine .cons (.gT rfl rfl rfl (.mv rfl rfl)) ?_
                refine .cons (.gT rfl rfl rfl (.xL 25 2 40 rfl rfl rfl rfl rfl (map_at hx1))) ?_
                refine .cons (.gT rfl rfl rfl (.lN 2 rfl rfl rfl)) ?_
                refine .cons (.gT rfl rfl rfl (.buZ [(0, .tmp 78)] [(0, 2), (2, 7)] [.string ByteArray.empty, .slice none 0 0, .int .i64 0, .int .i64 0, .slice none 0 0, .int .i64 0, .string ByteArray.empty, .slice none 0 0, .slice none 0 0] [dS ByteArray.empty, .list 2 [], dI 0, dI 0, .list 1 [], dI 0, dS ByteArray.empty, .list 2 [], .list 7 []] rfl rfl (.val rfl (.list _ (.val rfl (.val rfl (.list _ (.val rfl (.val rfl (.list _ (.list _ ZR.nil))))))))) rfl rfl)) ?_
                refine .cons (.gT rfl rfl rfl (.mv rfl rfl)) ?_
                refine .cons (.gT rfl rfl rfl (.mv rfl rfl)) ?_
                refine .cons (.gT rfl rfl rfl (.xB 25 2 40 rfl rfl rfl rfl rfl rfl)) ?_
                refine .cons (.gT rfl rfl rfl (.bN 2 rfl rfl rfl rfl (dR_at (map_at hx2)) rfl)) ?_
                refine .cons (.gT rfl rfl rfl (.buZ [(0, .tmp 83)] [(0, 2), (2, 7)] [.string ByteArray.empty, .slice none 0 0, .int .i64 0, .int .i64 0, .slice none 0 0, .int .i64 0, .string ByteArray.empty, .slice none 0 0, .slice none 0 0] [dS ByteArray.empty, .list 2 [], dI 0, dI 0, .list 1 [], dI 0, dS ByteArray.empty, .list 2 [], .list 7 []] rfl rfl (.val rfl (.list _ (.val rfl (.val rfl (.list _ (.val rfl (.val rfl (.list _ (.list _ ZR.nil))))))))) rfl rfl)) ?_
                refine .cons (.gT rfl rfl rfl (.cP [.tmp 79, .tmp 84] rfl rfl rfl rfl (implStmtSame_fn (accS z) (accS z) (by have := accS_sz (List.mem_of_getElem? hx1); omega)) rfl)) ?_
                refine .cons (.gT rfl rfl rfl (.nt rfl rfl)) ?_
                refine .cons (.pF rfl rfl rfl) ?_
                refine .nil ⟨by kernel_rfl, ?_⟩
                refine ks_n ?_
                refine ACode.condT rfl (fun h87 => ?_) (fun h87 => ?_)
                · try simp only [List.length_map, decide_eq_true_eq, decide_eq_false_iff_not, Bool.not_eq_true', Bool.not_eq_false', Bool.not_eq_true, Bool.not_eq_false] at h87
                  refine ACode.seq ?_
                  refine ACode.region ?_
                  refine .cons (.asg rfl rfl) ?_
                  refine .nil ?_
                  refine ks_n ?_
                  refine ACode.ret ?_
                  refine kb_r ?_
                  refine ks_r ?_
                  refine kl_r ?_
                  refine kb_r ?_
                  refine ks_r ?_
                  refine kf_ret rfl ?_ nobox
                  first | rfl | (exfalso; omega) | (exfalso; simp_all only [beq_self_eq_true, sameS_self, Bool.true_eq_false, reduceCtorEq]; done) | exact leafB (decide_eq_true (by omega)) | with_reducible exact leafB (sameS_self _) | exact leafB (by simp) | (exfalso; simp_all [sameS_self]; done) | grind
                · try simp only [List.length_map, decide_eq_true_eq, decide_eq_false_iff_not, Bool.not_eq_true', Bool.not_eq_false', Bool.not_eq_true, Bool.not_eq_false] at h87
                  refine ACode.skip ?_
                  refine kb_n ?_
                  refine ks_n ?_
                  refine ACode.region ?_
                  refine .cons (.mv rfl rfl) ?_
                  refine .cons (.pl rfl rfl rfl) ?_
                  refine .cons (.asg rfl rfl) ?_
                  refine .nil ?_
                  refine kl_k [(110, 110), (111, 111)] ⟨i + 1, rfl, by omega, trivial, rfl⟩ ⟨ks rfl (.c .bx), ks rfl (.c (.ow (by simp))), ks rfl .dt, ks rfl .dt, kb 110 rfl (.dt rfl), kb 111 rfl (.dt rfl (by first | rfl | exact dR_apC _ _ | (rw [List.map_append, ← dR_apC]; done))), trivial⟩
            · skip
              refine ACode.exit ?_
              refine ks_e ?_
              refine kl_e ?_
              refine kb_hit ?_
              refine ks_n ?_
              refine ACode.seq ?_
              refine ACode.region ?_
              refine .cons (.mv rfl rfl) ?_
              refine .cons (.ln 25 2 40 rfl rfl rfl) ?_
              refine .cons (.mv rfl rfl) ?_
              refine .cons (.lB 25 2 40 rfl rfl rfl rfl) ?_
              refine .cons (.eq rfl rfl rfl) ?_
              refine .cons (.asg rfl rfl) ?_
              refine .nil ?_
              refine ks_n ?_
              refine ACode.ret ?_
              refine kf_ret rfl ?_ nobox
              first | rfl | (exfalso; omega) | (exfalso; simp_all only [beq_self_eq_true, sameS_self, Bool.true_eq_false, reduceCtorEq]; done) | exact leafB (decide_eq_true (by omega)) | with_reducible exact leafB (sameS_self _) | exact leafB (by simp) | (exfalso; simp_all [sameS_self]; done) | grind

set_option maxRecDepth 100000 in
set_option maxHeartbeats 1600000 in
theorem stmtSum_n1 {bs bs2 : List Int} (hl : bs.length ≤ 1048576) (hl2 : bs2.length ≤ 1048576) {s t : Stm} (hs : szS s ≤ 400) (ht : szS t ≤ 400) (hD : Fn Try.prog 23 [] [vD (dYs bs)] (.o (ad (rS s))) []) (hD2 : Fn Try.prog 23 [] [vD (dYs bs2)] (.o (ad (rS t))) []) (hz : (rdS s).length = 0) (hne : 0 < (rdS t).length) : Fn Try.prog 5 [] [vD (dYs bs), vD (dYs bs2)] (.o (bo1 true)) [] := by
  have z1 := sumS_sz hs ht
  have z2 := rdS_len s
  have z3 := rdS_len t
  have z4 := rdS_len (sumS s t)
  refine Fn.code0 Try.func5 rfl rfl rfl rfl ?_
  refine ACode.seq ?_
  refine ACode.region ?_
  refine .cons (.asg rfl rfl) ?_
  refine .nil ?_
  refine ks_n ?_
  refine ACode.seq ?_
  refine ACode.seq ?_
  refine ACode.region ?_
  refine .cons (.mv rfl rfl) ?_
  refine .cons (.ln 5 1 1 rfl rfl rfl) ?_
  refine .cons (.gt rfl rfl rfl) ?_
  refine .cons (.mv rfl rfl) ?_
  refine .cD 15 rfl (fun g15 => ?_) (fun g15 => ?_)
  · skip
    refine .cons (.gF rfl rfl rfl) ?_
    refine .cons (.gF rfl rfl rfl) ?_
    refine .cons (.gF rfl rfl rfl) ?_
    refine .cons (.pT rfl rfl rfl) ?_
    refine .nil ?_
    refine ks_n ?_
    refine ACode.condT rfl (fun _ => ?_) (fun h => by first | (cases h; done) | (simp [*] at h; done) | (exfalso; simp_all; done))
    refine ACode.seq ?_
    refine ACode.region ?_
    refine .cons (.asg rfl rfl) ?_
    refine .nil ?_
    refine ks_n ?_
    refine ACode.ret ?_
    refine ks_r ?_
    refine kf_ret rfl ?_ nobox
    first | rfl | (exfalso; omega) | (exfalso; simp_all only [beq_self_eq_true, sameS_self, Bool.true_eq_false, reduceCtorEq]; done) | exact leafB (decide_eq_true (by omega)) | with_reducible exact leafB (sameS_self _) | exact leafB (by simp) | (exfalso; simp_all [sameS_self]; done) | grind
  · skip
    refine .cons (.gT rfl rfl rfl (.mv rfl rfl)) ?_
    refine .cons (.gT rfl rfl rfl (.ln 5 1 1 rfl rfl rfl)) ?_
    refine .cons (.gT rfl rfl rfl (.gt rfl rfl rfl)) ?_
    refine .cons (.pF rfl rfl rfl) ?_
    refine .nil ?_
    refine ks_n ?_
    refine ACode.condT rfl (fun h19 => ?_) (fun h19 => ?_)
    · try simp only [List.length_map, decide_eq_true_eq, decide_eq_false_iff_not, Bool.not_eq_true', Bool.not_eq_false', Bool.not_eq_true, Bool.not_eq_false] at h19
      omega
    · try simp only [List.length_map, decide_eq_true_eq, decide_eq_false_iff_not, Bool.not_eq_true', Bool.not_eq_false', Bool.not_eq_true, Bool.not_eq_false] at h19
      refine ACode.skip ?_
      refine ks_n ?_
      refine ACode.seq ?_
      refine ACode.region ?_
      refine .cons (.mv rfl rfl) ?_
      refine .cons (.cP [.tmp 20] rfl rfl rfl rfl (hD) rfl) ?_
      refine .cons (.al 105 [.string ByteArray.empty, .slice none 0 0, .int .i64 0, .int .i64 0, .slice none 0 0, .int .i64 0, .string ByteArray.empty, .slice none 0 0, .slice none 0 0] rfl rfl rfl) ?_
      refine .cons (.sT 9 true rfl rfl rfl rfl rfl rfl rfl) ?_
      refine .nil ?_
      refine ks_n ?_
      refine ACode.seq ?_
      refine ACode.region ?_
      refine .cons (.mv rfl rfl) ?_
      refine .cons (.cP [.tmp 22] rfl rfl rfl rfl (hD2) rfl) ?_
      refine .cons (.al 106 [.string ByteArray.empty, .slice none 0 0, .int .i64 0, .int .i64 0, .slice none 0 0, .int .i64 0, .string ByteArray.empty, .slice none 0 0, .slice none 0 0] rfl rfl rfl) ?_
      refine .cons (.sT 9 true rfl rfl rfl rfl rfl rfl rfl) ?_
      refine .nil ?_
      refine ks_n ?_
      refine ACode.seq ?_
      refine ACode.region ?_
      refine .cons (.fB 0 1 true rfl rfl rfl) ?_
      refine .cons (.bN 2 rfl rfl rfl rfl rfl rfl) ?_
      refine .cons (.fB 2 6 true rfl rfl rfl) ?_
      refine .cons (.bN 7 rfl rfl rfl rfl rfl rfl) ?_
      refine .cons (.fB 2 6 true rfl rfl rfl) ?_
      refine .cons (.bN 7 rfl rfl rfl rfl rfl rfl) ?_
      refine .cons (.li 31 6 1 [.tmp 27, .tmp 29] rfl rfl rfl rfl rfl rfl) ?_
      refine .cons (.buZ [(0, .const (.int .i64 (4))), (4, .tmp 30)] [(0, 1), (1, 1), (2, 2), (4, 2), (6, 1)] [.int .i64 0, .int .i64 0, .slice none 0 0, .int .i64 0, .string ByteArray.empty, .slice none 0 0, .slice none 0 0] [dI 0, dI 0, .list 1 [], dI 0, dS ByteArray.empty, .list 2 [], .list 7 []] rfl rfl (.val rfl (.val rfl (.list _ (.val rfl (.val rfl (.list _ (.list _ ZR.nil))))))) rfl rfl) ?_
      refine .cons (.bu [(0, .tmp 25), (1, .tmp 31)] [(0, 2), (2, 7)] [.string ByteArray.empty, .slice none 0 0, .int .i64 0, .int .i64 0, .slice none 0 0, .int .i64 0, .string ByteArray.empty, .slice none 0 0, .slice none 0 0] rfl rfl rfl rfl rfl) ?_
      refine .cons (.al 107 [.string ByteArray.empty, .slice none 0 0, .int .i64 0, .int .i64 0, .slice none 0 0, .int .i64 0, .string ByteArray.empty, .slice none 0 0, .slice none 0 0] rfl rfl rfl) ?_
      refine .cons (.sT 9 true rfl rfl rfl rfl rfl rfl rfl) ?_
      refine .nil ?_
      refine ks_n ?_
      refine ACode.seq ?_
      refine .keep [(.t 5, .v (.o (.c (.box 760 9 0 0)))), (.t 6, .v (.o (.c (.box 761 9 0 0)))), (.t 7, .v (.o (.c (.box 762 9 0 0)))), (.b 760, .b 33 9 (dR ([rS s]))), (.u 760, .u), (.b 761, .b 33 9 (dR ([rS t]))), (.u 761, .u), (.b 762, .b 33 9 (dR ([rS (sumS s t)]))), (.u 762, .u)] [(760, 105), (761, 106), (762, 107)] ⟨ks rfl (.c .bx), ks rfl (.c .bx), ks rfl (.c .bx), kb 105 rfl (.dt rfl), kb 106 rfl (.dt rfl), kb 107 rfl (.dt rfl (sumS_rows s t)), trivial⟩ ?_
      refine ACode.region ?_
      refine .cons (.bN 9 rfl rfl rfl rfl rfl rfl) ?_
      refine .cons (.cP [.tmp 33] rfl rfl rfl rfl (implReads_nil s (by omega) hz) rfl) ?_
      refine .cons (.asg rfl rfl) ?_
      refine .nil ?_
      refine ks_n ?_
      refine ACode.seq ?_
      refine ACode.seq ?_
      refine ACode.region ?_
      refine .cons (.mv rfl rfl) ?_
      refine .cons (St1.lenN (e := 25) (m := 2) (by' := 40) rfl rfl rfl rfl rfl (by kernel_rfl) rfl) ?_
      refine .cons (.bN 9 rfl rfl rfl rfl rfl rfl) ?_
      refine .cons (.cP [.tmp 37] rfl rfl rfl rfl (specReads_fn s (by omega)) rfl) ?_
      refine .cons (.ln 25 2 40 rfl rfl rfl) ?_
      refine .cons (.ne rfl rfl rfl) ?_
      refine .cons (.mv rfl rfl) ?_
      refine .cND 41 rfl (fun g41 => ?_) (fun g41 => ?_)
      · skip
        refine .cons (.gF rfl rfl rfl) ?_
        refine .cons (.gF rfl rfl rfl) ?_
        refine .cons (.gF rfl rfl rfl) ?_
        refine .cons (.pT rfl rfl rfl) ?_
        refine .cons (.mv rfl rfl) ?_
        refine .cons (.gF rfl rfl rfl) ?_
        refine .cons (.gF rfl rfl rfl) ?_
        refine .cons (.gF rfl rfl rfl) ?_
        refine .cons (.pT rfl rfl rfl) ?_
        refine .nil ?_
        refine ks_n ?_
        refine ACode.condT rfl (fun _ => ?_) (fun h => by first | (cases h; done) | (simp [*] at h; done) | (exfalso; simp_all; done))
        refine ACode.seq ?_
        refine ACode.region ?_
        refine .cons (.mv rfl rfl) ?_
        refine .cons (St1.lenN (e := 25) (m := 2) (by' := 40) rfl rfl rfl rfl rfl (by kernel_rfl) rfl) ?_
        refine .cons (.bN 9 rfl rfl rfl rfl rfl rfl) ?_
        refine .cons (.cP [.tmp 53] rfl rfl rfl rfl (specReads_fn s (by omega)) rfl) ?_
        refine .cons (.ln 25 2 40 rfl rfl rfl) ?_
        refine .cons (.eq rfl rfl rfl) ?_
        refine .cons (.asg rfl rfl) ?_
        refine .nil ?_
        refine ks_n ?_
        refine ACode.ret ?_
        refine ks_r ?_
        refine kf_ret rfl ?_ nobox
        first | rfl | (exfalso; omega) | (exfalso; simp_all only [beq_self_eq_true, sameS_self, Bool.true_eq_false, reduceCtorEq]; done) | exact leafB (decide_eq_true (by omega)) | with_reducible exact leafB (sameS_self _) | exact leafB (by simp) | (exfalso; simp_all [sameS_self]; done) | grind
      · skip
        refine .cons (.gT rfl rfl rfl (.bN 9 rfl rfl rfl rfl rfl rfl)) ?_
        refine .cons (.gT rfl rfl rfl (.cP [.tmp 42, .const (.int .i64 (4))] rfl rfl rfl rfl (implStmtV_fn 4 (sumS s t) (by omega)) rfl)) ?_
        refine .cons (.gT rfl rfl rfl (.nt rfl rfl)) ?_
        refine .cons (.pF rfl rfl rfl) ?_
        refine .cons (.mv rfl rfl) ?_
        refine AOps.cases 46 _ rfl (fun g46 => ?_) (fun g46 => ?_)
        · try simp only [List.length_map, decide_eq_true_eq, decide_eq_false_iff_not, Bool.not_eq_true', Bool.not_eq_false', Bool.not_eq_true, Bool.not_eq_false] at g46
          refine .cons (.gF rfl rfl rfl) ?_
          refine .cons (.gF rfl rfl rfl) ?_
          refine .cons (.gF rfl rfl rfl) ?_
          refine .cons (.pT rfl rfl rfl) ?_
          refine .nil ?_
          refine ks_n ?_
          refine ACode.condT rfl (fun _ => ?_) (fun h => by first | (cases h; done) | (simp [*] at h; done) | (exfalso; simp_all; done))
          refine ACode.seq ?_
          refine ACode.region ?_
          refine .cons (.mv rfl rfl) ?_
          refine .cons (St1.lenN (e := 25) (m := 2) (by' := 40) rfl rfl rfl rfl rfl (by kernel_rfl) rfl) ?_
          refine .cons (.bN 9 rfl rfl rfl rfl rfl rfl) ?_
          refine .cons (.cP [.tmp 53] rfl rfl rfl rfl (specReads_fn s (by omega)) rfl) ?_
          refine .cons (.ln 25 2 40 rfl rfl rfl) ?_
          refine .cons (.eq rfl rfl rfl) ?_
          refine .cons (.asg rfl rfl) ?_
          refine .nil ?_
          refine ks_n ?_
          refine ACode.ret ?_
          refine ks_r ?_
          refine kf_ret rfl ?_ nobox
          first | rfl | (exfalso; omega) | (exfalso; simp_all only [beq_self_eq_true, sameS_self, Bool.true_eq_false, reduceCtorEq]; done) | exact leafB (decide_eq_true (by omega)) | with_reducible exact leafB (sameS_self _) | exact leafB (by simp) | (exfalso; simp_all [sameS_self]; done) | grind
        · try simp only [List.length_map, decide_eq_true_eq, decide_eq_false_iff_not, Bool.not_eq_true', Bool.not_eq_false', Bool.not_eq_true, Bool.not_eq_false] at g46
          refine .cons (.gT rfl rfl rfl (.bN 9 rfl rfl rfl rfl rfl rfl)) ?_
          refine .cons (.gT rfl rfl rfl (.cP [.tmp 47, .const (.int .i64 (4))] rfl rfl rfl rfl (implStmtV_fn 4 t (by omega)) rfl)) ?_
          refine .cons (.gT rfl rfl rfl (.nt rfl rfl)) ?_
          refine .cons (.pF rfl rfl rfl) ?_
          refine .nil ?_
          refine ks_n ?_
          refine ACode.condT rfl (fun h50 => ?_) (fun h50 => ?_)
          · try simp only [List.length_map, decide_eq_true_eq, decide_eq_false_iff_not, Bool.not_eq_true', Bool.not_eq_false', Bool.not_eq_true, Bool.not_eq_false] at h50
            refine ACode.seq ?_
            refine ACode.region ?_
            refine .cons (.mv rfl rfl) ?_
            refine .cons (St1.lenN (e := 25) (m := 2) (by' := 40) rfl rfl rfl rfl rfl (by kernel_rfl) rfl) ?_
            refine .cons (.bN 9 rfl rfl rfl rfl rfl rfl) ?_
            refine .cons (.cP [.tmp 53] rfl rfl rfl rfl (specReads_fn s (by omega)) rfl) ?_
            refine .cons (.ln 25 2 40 rfl rfl rfl) ?_
            refine .cons (.eq rfl rfl rfl) ?_
            refine .cons (.asg rfl rfl) ?_
            refine .nil ?_
            refine ks_n ?_
            refine ACode.ret ?_
            refine ks_r ?_
            refine kf_ret rfl ?_ nobox
            first | rfl | (exfalso; omega) | (exfalso; simp_all only [beq_self_eq_true, sameS_self, Bool.true_eq_false, reduceCtorEq]; done) | exact leafB (decide_eq_true (by omega)) | with_reducible exact leafB (sameS_self _) | exact leafB (by simp) | (exfalso; simp_all [sameS_self]; done) | grind
          · try simp only [List.length_map, decide_eq_true_eq, decide_eq_false_iff_not, Bool.not_eq_true', Bool.not_eq_false', Bool.not_eq_true, Bool.not_eq_false] at h50
            have hsum := sum_reads g46 h50
            rw [List.eq_nil_of_length_eq_zero hz, List.nil_append] at hsum
            have hsl := congrArg List.length hsum
            refine ACode.skip ?_
            refine ks_n ?_
            refine ACode.seq ?_
            refine ACode.region ?_
            refine .cons (.mv rfl rfl) ?_
            refine .cons (.bN 9 rfl rfl rfl rfl rfl rfl) ?_
            refine .cons (.cP [.tmp 58] rfl rfl rfl rfl (implReads_fn t (by omega)) rfl) ?_
            refine .cons (St1.appND (e := 25) (sz := 1) (by' := 40) rfl rfl rfl rfl rfl (by kernel_rfl) rfl rfl rfl (by rw [List.length_map]; omega)) ?_
            refine .cons (.asg rfl rfl) ?_
            refine .nil ?_
            refine ks_n ?_
            refine ACode.seq ?_
            refine ACode.region ?_
            refine .cons (.bN 9 rfl rfl rfl rfl rfl rfl) ?_
            refine .cons (.cP [.tmp 61] rfl rfl rfl rfl (implReads_fn (sumS s t) (by omega)) rfl) ?_
            refine .cons (.asg rfl rfl) ?_
            refine .nil ?_
            refine ks_n ?_
            refine ACode.seq ?_
            refine ACode.seq ?_
            refine ACode.region ?_
            refine .cons (.asg rfl rfl) ?_
            refine .nil ?_
            refine ks_n ?_
            refine ACode.block ?_
            refine .loopK (fun m σ => (∃ i : Nat, m = (rdS t).length - i ∧ (i ≤ (rdS t).length) ∧ (True) ∧ σ = [(.t 7, .v (.o (.c (.box 110 9 0 0)))), (.t 9, .v (.o (vD (dCs (rdS t))))), (.t 10, .v (.o (vD (dCs (rdS (sumS s t)))))), (.t 11, .v (.o (nat1 (i : Nat)))), (.b 110, .b 33 9 (dR ([rS (sumS s t)]))), (.u 110, .u)])) [(110, 762)] ⟨0, rfl, by omega, trivial, rfl⟩ ⟨ks rfl (.c .bx), ks rfl .dt, ks rfl .dt, ks rfl .dt, kb 762 rfl (.dt rfl), trivial⟩ ?_
            rintro m σ ⟨i, hm0, hi, hF, rfl⟩
            refine ACode.seq ?_
            refine ACode.seq ?_
            refine ACode.region ?_
            refine .cons (.mv rfl rfl) ?_
            refine .cons (.mv rfl rfl) ?_
            refine .cons (.ln 25 2 40 rfl rfl rfl) ?_
            refine .cons (.ls rfl rfl rfl) ?_
            refine .nil ?_
            refine ks_n ?_
            refine .cD rfl (fun h66 => ?_) (fun h66 => ?_)
            · skip
              obtain ⟨z, hx2⟩ : ∃ x, (rdS t)[i]? = some x := ⟨_, List.getElem?_eq_getElem (by omega)⟩
              have hx1 : (rdS (sumS s t))[i]? = some z := by rw [hsum]; exact hx2
              refine ACode.skip ?_
              refine ks_n ?_
              refine ACode.seq ?_
              refine ACode.block ?_
              refine ACode.seq ?_
              refine ACode.drawK (by kernel_rfl) (by kernel_rfl) ?_
              refine .cons (.mv rfl rfl) ?_
              refine .cons (.ln 25 2 40 rfl rfl rfl) ?_
              refine .cons (.mv rfl rfl) ?_
              refine .cons (.ln 25 2 40 rfl rfl rfl) ?_
              refine .cons (.ne rfl rfl rfl) ?_
              refine .cons (.mv rfl rfl) ?_
              refine .cND 74 rfl (fun g74 => ?_) (fun g74 => ?_)
              · skip
                refine .cons (.gF rfl rfl rfl) ?_
                refine .cons (.gF rfl rfl rfl) ?_
                refine .cons (.gF rfl rfl rfl) ?_
                refine .cons (.gF rfl rfl rfl) ?_
                refine .cons (.gF rfl rfl rfl) ?_
                refine .cons (.gF rfl rfl rfl) ?_
                refine .cons (.gF rfl rfl rfl) ?_
                refine .cons (.gF rfl rfl rfl) ?_
                refine .cons (.gF rfl rfl rfl) ?_
                refine .cons (.gF rfl rfl rfl) ?_
                refine .cons (.gF rfl rfl rfl) ?_
                refine .cons (.gF rfl rfl rfl) ?_
                refine .cons (.pT rfl rfl rfl) ?_
                refine .nil ⟨by kernel_rfl, ?_⟩
                refine ks_n ?_
                refine ACode.condT rfl (fun _ => ?_) (fun h => by first | (cases h; done) | (simp [*] at h; done) | (exfalso; simp_all; done))
                refine ACode.seq ?_
                refine ACode.region ?_
                refine .cons (.asg rfl rfl) ?_
                refine .nil ?_
                refine ks_n ?_
                refine ACode.ret ?_
                refine kb_r ?_
                refine ks_r ?_
                refine kl_r ?_
                refine kb_r ?_
                refine ks_r ?_
                refine kf_ret rfl ?_ nobox
                first | rfl | (exfalso; omega) | (exfalso; simp_all only [beq_self_eq_true, sameS_self, Bool.true_eq_false, reduceCtorEq]; done) | exact leafB (decide_eq_true (by omega)) | with_reducible exact leafB (sameS_self _) | exact leafB (by simp) | (exfalso; simp_all [sameS_self]; done) | grind
              · skip
                refine .cons (.gT rfl rfl rfl (.mv rfl rfl)) ?_
                refine .cons (.gT rfl rfl rfl (.mv rfl rfl)) ?_
                refine .cons (.gT rfl rfl rfl (.xL 25 2 40 rfl rfl rfl rfl rfl (map_at hx1))) ?_
                refine .cons (.gT rfl rfl rfl (.lN 2 rfl rfl rfl)) ?_
                refine .cons (.gT rfl rfl rfl (.buZ [(0, .tmp 78)] [(0, 2), (2, 7)] [.string ByteArray.empty, .slice none 0 0, .int .i64 0, .int .i64 0, .slice none 0 0, .int .i64 0, .string ByteArray.empty, .slice none 0 0, .slice none 0 0] [dS ByteArray.empty, .list 2 [], dI 0, dI 0, .list 1 [], dI 0, dS ByteArray.empty, .list 2 [], .list 7 []] rfl rfl (.val rfl (.list _ (.val rfl (.val rfl (.list _ (.val rfl (.val rfl (.list _ (.list _ ZR.nil))))))))) rfl rfl)) ?_
                refine .cons (.gT rfl rfl rfl (.mv rfl rfl)) ?_
                refine .cons (.gT rfl rfl rfl (.mv rfl rfl)) ?_
                refine .cons (.gT rfl rfl rfl (.xL 25 2 40 rfl rfl rfl rfl rfl (map_at hx2))) ?_
                refine .cons (.gT rfl rfl rfl (.lN 2 rfl rfl rfl)) ?_
                refine .cons (.gT rfl rfl rfl (.buZ [(0, .tmp 83)] [(0, 2), (2, 7)] [.string ByteArray.empty, .slice none 0 0, .int .i64 0, .int .i64 0, .slice none 0 0, .int .i64 0, .string ByteArray.empty, .slice none 0 0, .slice none 0 0] [dS ByteArray.empty, .list 2 [], dI 0, dI 0, .list 1 [], dI 0, dS ByteArray.empty, .list 2 [], .list 7 []] rfl rfl (.val rfl (.list _ (.val rfl (.val rfl (.list _ (.val rfl (.val rfl (.list _ (.list _ ZR.nil))))))))) rfl rfl)) ?_
                refine .cons (.gT rfl rfl rfl (.cP [.tmp 79, .tmp 84] rfl rfl rfl rfl (implStmtSame_fn (accS z) (accS z) (by have := accS_sz (List.mem_of_getElem? hx1); omega)) rfl)) ?_
                refine .cons (.gT rfl rfl rfl (.nt rfl rfl)) ?_
                refine .cons (.pF rfl rfl rfl) ?_
                refine .nil ⟨by kernel_rfl, ?_⟩
                refine ks_n ?_
                refine ACode.condT rfl (fun h87 => ?_) (fun h87 => ?_)
                · try simp only [List.length_map, decide_eq_true_eq, decide_eq_false_iff_not, Bool.not_eq_true', Bool.not_eq_false', Bool.not_eq_true, Bool.not_eq_false] at h87
                  refine ACode.seq ?_
                  refine ACode.region ?_
                  refine .cons (.asg rfl rfl) ?_
                  refine .nil ?_
                  refine ks_n ?_
                  refine ACode.ret ?_
                  refine kb_r ?_
                  refine ks_r ?_
                  refine kl_r ?_
                  refine kb_r ?_
                  refine ks_r ?_
                  refine kf_ret rfl ?_ nobox
                  first | rfl | (exfalso; omega) | (exfalso; simp_all only [beq_self_eq_true, sameS_self, Bool.true_eq_false, reduceCtorEq]; done) | exact leafB (decide_eq_true (by omega)) | with_reducible exact leafB (sameS_self _) | exact leafB (by simp) | (exfalso; simp_all [sameS_self]; done) | grind
                · try simp only [List.length_map, decide_eq_true_eq, decide_eq_false_iff_not, Bool.not_eq_true', Bool.not_eq_false', Bool.not_eq_true, Bool.not_eq_false] at h87
                  refine ACode.skip ?_
                  refine kb_n ?_
                  refine ks_n ?_
                  refine ACode.region ?_
                  refine .cons (.mv rfl rfl) ?_
                  refine .cons (.pl rfl rfl rfl) ?_
                  refine .cons (.asg rfl rfl) ?_
                  refine .nil ?_
                  refine kl_k [(110, 110)] ⟨i + 1, rfl, by omega, trivial, rfl⟩ ⟨ks rfl (.c .bx), ks rfl .dt, ks rfl .dt, ks rfl .dt, kb 110 rfl (.dt rfl), trivial⟩
            · skip
              refine ACode.exit ?_
              refine ks_e ?_
              refine kl_e ?_
              refine kb_hit ?_
              refine ks_n ?_
              refine ACode.seq ?_
              refine ACode.region ?_
              refine .cons (.mv rfl rfl) ?_
              refine .cons (.ln 25 2 40 rfl rfl rfl) ?_
              refine .cons (.mv rfl rfl) ?_
              refine .cons (.ln 25 2 40 rfl rfl rfl) ?_
              refine .cons (.eq rfl rfl rfl) ?_
              refine .cons (.asg rfl rfl) ?_
              refine .nil ?_
              refine ks_n ?_
              refine ACode.ret ?_
              refine kf_ret rfl ?_ nobox
              first | rfl | (exfalso; omega) | (exfalso; simp_all only [beq_self_eq_true, sameS_self, Bool.true_eq_false, reduceCtorEq]; done) | exact leafB (decide_eq_true (by omega)) | with_reducible exact leafB (sameS_self _) | exact leafB (by simp) | (exfalso; simp_all [sameS_self]; done) | grind

set_option maxRecDepth 100000 in
set_option maxHeartbeats 1600000 in
theorem stmtSum_n0 {bs bs2 : List Int} (hl : bs.length ≤ 1048576) (hl2 : bs2.length ≤ 1048576) {s t : Stm} (hs : szS s ≤ 400) (ht : szS t ≤ 400) (hD : Fn Try.prog 23 [] [vD (dYs bs)] (.o (ad (rS s))) []) (hD2 : Fn Try.prog 23 [] [vD (dYs bs2)] (.o (ad (rS t))) []) (hz : (rdS s).length = 0) (hz2 : rdS t = []) : Fn Try.prog 5 [] [vD (dYs bs), vD (dYs bs2)] (.o (bo1 true)) [] := by
  have z1 := sumS_sz hs ht
  have z2 := rdS_len s
  have z3 := rdS_len t
  have z4 := rdS_len (sumS s t)
  refine Fn.code0 Try.func5 rfl rfl rfl rfl ?_
  refine ACode.seq ?_
  refine ACode.region ?_
  refine .cons (.asg rfl rfl) ?_
  refine .nil ?_
  refine ks_n ?_
  refine ACode.seq ?_
  refine ACode.seq ?_
  refine ACode.region ?_
  refine .cons (.mv rfl rfl) ?_
  refine .cons (.ln 5 1 1 rfl rfl rfl) ?_
  refine .cons (.gt rfl rfl rfl) ?_
  refine .cons (.mv rfl rfl) ?_
  refine .cD 15 rfl (fun g15 => ?_) (fun g15 => ?_)
  · skip
    refine .cons (.gF rfl rfl rfl) ?_
    refine .cons (.gF rfl rfl rfl) ?_
    refine .cons (.gF rfl rfl rfl) ?_
    refine .cons (.pT rfl rfl rfl) ?_
    refine .nil ?_
    refine ks_n ?_
    refine ACode.condT rfl (fun _ => ?_) (fun h => by first | (cases h; done) | (simp [*] at h; done) | (exfalso; simp_all; done))
    refine ACode.seq ?_
    refine ACode.region ?_
    refine .cons (.asg rfl rfl) ?_
    refine .nil ?_
    refine ks_n ?_
    refine ACode.ret ?_
    refine ks_r ?_
    refine kf_ret rfl ?_ nobox
    first | rfl | (exfalso; omega) | (exfalso; simp_all only [beq_self_eq_true, sameS_self, Bool.true_eq_false, reduceCtorEq]; done) | exact leafB (decide_eq_true (by omega)) | with_reducible exact leafB (sameS_self _) | exact leafB (by simp) | (exfalso; simp_all [sameS_self]; done) | grind
  · skip
    refine .cons (.gT rfl rfl rfl (.mv rfl rfl)) ?_
    refine .cons (.gT rfl rfl rfl (.ln 5 1 1 rfl rfl rfl)) ?_
    refine .cons (.gT rfl rfl rfl (.gt rfl rfl rfl)) ?_
    refine .cons (.pF rfl rfl rfl) ?_
    refine .nil ?_
    refine ks_n ?_
    refine ACode.condT rfl (fun h19 => ?_) (fun h19 => ?_)
    · try simp only [List.length_map, decide_eq_true_eq, decide_eq_false_iff_not, Bool.not_eq_true', Bool.not_eq_false', Bool.not_eq_true, Bool.not_eq_false] at h19
      omega
    · try simp only [List.length_map, decide_eq_true_eq, decide_eq_false_iff_not, Bool.not_eq_true', Bool.not_eq_false', Bool.not_eq_true, Bool.not_eq_false] at h19
      refine ACode.skip ?_
      refine ks_n ?_
      refine ACode.seq ?_
      refine ACode.region ?_
      refine .cons (.mv rfl rfl) ?_
      refine .cons (.cP [.tmp 20] rfl rfl rfl rfl (hD) rfl) ?_
      refine .cons (.al 105 [.string ByteArray.empty, .slice none 0 0, .int .i64 0, .int .i64 0, .slice none 0 0, .int .i64 0, .string ByteArray.empty, .slice none 0 0, .slice none 0 0] rfl rfl rfl) ?_
      refine .cons (.sT 9 true rfl rfl rfl rfl rfl rfl rfl) ?_
      refine .nil ?_
      refine ks_n ?_
      refine ACode.seq ?_
      refine ACode.region ?_
      refine .cons (.mv rfl rfl) ?_
      refine .cons (.cP [.tmp 22] rfl rfl rfl rfl (hD2) rfl) ?_
      refine .cons (.al 106 [.string ByteArray.empty, .slice none 0 0, .int .i64 0, .int .i64 0, .slice none 0 0, .int .i64 0, .string ByteArray.empty, .slice none 0 0, .slice none 0 0] rfl rfl rfl) ?_
      refine .cons (.sT 9 true rfl rfl rfl rfl rfl rfl rfl) ?_
      refine .nil ?_
      refine ks_n ?_
      refine ACode.seq ?_
      refine ACode.region ?_
      refine .cons (.fB 0 1 true rfl rfl rfl) ?_
      refine .cons (.bN 2 rfl rfl rfl rfl rfl rfl) ?_
      refine .cons (.fB 2 6 true rfl rfl rfl) ?_
      refine .cons (.bN 7 rfl rfl rfl rfl rfl rfl) ?_
      refine .cons (.fB 2 6 true rfl rfl rfl) ?_
      refine .cons (.bN 7 rfl rfl rfl rfl rfl rfl) ?_
      refine .cons (.li 31 6 1 [.tmp 27, .tmp 29] rfl rfl rfl rfl rfl rfl) ?_
      refine .cons (.buZ [(0, .const (.int .i64 (4))), (4, .tmp 30)] [(0, 1), (1, 1), (2, 2), (4, 2), (6, 1)] [.int .i64 0, .int .i64 0, .slice none 0 0, .int .i64 0, .string ByteArray.empty, .slice none 0 0, .slice none 0 0] [dI 0, dI 0, .list 1 [], dI 0, dS ByteArray.empty, .list 2 [], .list 7 []] rfl rfl (.val rfl (.val rfl (.list _ (.val rfl (.val rfl (.list _ (.list _ ZR.nil))))))) rfl rfl) ?_
      refine .cons (.bu [(0, .tmp 25), (1, .tmp 31)] [(0, 2), (2, 7)] [.string ByteArray.empty, .slice none 0 0, .int .i64 0, .int .i64 0, .slice none 0 0, .int .i64 0, .string ByteArray.empty, .slice none 0 0, .slice none 0 0] rfl rfl rfl rfl rfl) ?_
      refine .cons (.al 107 [.string ByteArray.empty, .slice none 0 0, .int .i64 0, .int .i64 0, .slice none 0 0, .int .i64 0, .string ByteArray.empty, .slice none 0 0, .slice none 0 0] rfl rfl rfl) ?_
      refine .cons (.sT 9 true rfl rfl rfl rfl rfl rfl rfl) ?_
      refine .nil ?_
      refine ks_n ?_
      refine ACode.seq ?_
      refine .keep [(.t 5, .v (.o (.c (.box 760 9 0 0)))), (.t 6, .v (.o (.c (.box 761 9 0 0)))), (.t 7, .v (.o (.c (.box 762 9 0 0)))), (.b 760, .b 33 9 (dR ([rS s]))), (.u 760, .u), (.b 761, .b 33 9 (dR ([rS t]))), (.u 761, .u), (.b 762, .b 33 9 (dR ([rS (sumS s t)]))), (.u 762, .u)] [(760, 105), (761, 106), (762, 107)] ⟨ks rfl (.c .bx), ks rfl (.c .bx), ks rfl (.c .bx), kb 105 rfl (.dt rfl), kb 106 rfl (.dt rfl), kb 107 rfl (.dt rfl (sumS_rows s t)), trivial⟩ ?_
      refine ACode.region ?_
      refine .cons (.bN 9 rfl rfl rfl rfl rfl rfl) ?_
      refine .cons (.cP [.tmp 33] rfl rfl rfl rfl (implReads_nil s (by omega) hz) rfl) ?_
      refine .cons (.asg rfl rfl) ?_
      refine .nil ?_
      refine ks_n ?_
      refine ACode.seq ?_
      refine ACode.seq ?_
      refine ACode.region ?_
      refine .cons (.mv rfl rfl) ?_
      refine .cons (St1.lenN (e := 25) (m := 2) (by' := 40) rfl rfl rfl rfl rfl (by kernel_rfl) rfl) ?_
      refine .cons (.bN 9 rfl rfl rfl rfl rfl rfl) ?_
      refine .cons (.cP [.tmp 37] rfl rfl rfl rfl (specReads_fn s (by omega)) rfl) ?_
      refine .cons (.ln 25 2 40 rfl rfl rfl) ?_
      refine .cons (.ne rfl rfl rfl) ?_
      refine .cons (.mv rfl rfl) ?_
      refine .cND 41 rfl (fun g41 => ?_) (fun g41 => ?_)
      · skip
        refine .cons (.gF rfl rfl rfl) ?_
        refine .cons (.gF rfl rfl rfl) ?_
        refine .cons (.gF rfl rfl rfl) ?_
        refine .cons (.pT rfl rfl rfl) ?_
        refine .cons (.mv rfl rfl) ?_
        refine .cons (.gF rfl rfl rfl) ?_
        refine .cons (.gF rfl rfl rfl) ?_
        refine .cons (.gF rfl rfl rfl) ?_
        refine .cons (.pT rfl rfl rfl) ?_
        refine .nil ?_
        refine ks_n ?_
        refine ACode.condT rfl (fun _ => ?_) (fun h => by first | (cases h; done) | (simp [*] at h; done) | (exfalso; simp_all; done))
        refine ACode.seq ?_
        refine ACode.region ?_
        refine .cons (.mv rfl rfl) ?_
        refine .cons (St1.lenN (e := 25) (m := 2) (by' := 40) rfl rfl rfl rfl rfl (by kernel_rfl) rfl) ?_
        refine .cons (.bN 9 rfl rfl rfl rfl rfl rfl) ?_
        refine .cons (.cP [.tmp 53] rfl rfl rfl rfl (specReads_fn s (by omega)) rfl) ?_
        refine .cons (.ln 25 2 40 rfl rfl rfl) ?_
        refine .cons (.eq rfl rfl rfl) ?_
        refine .cons (.asg rfl rfl) ?_
        refine .nil ?_
        refine ks_n ?_
        refine ACode.ret ?_
        refine ks_r ?_
        refine kf_ret rfl ?_ nobox
        first | rfl | (exfalso; omega) | (exfalso; simp_all only [beq_self_eq_true, sameS_self, Bool.true_eq_false, reduceCtorEq]; done) | exact leafB (decide_eq_true (by omega)) | with_reducible exact leafB (sameS_self _) | exact leafB (by simp) | (exfalso; simp_all [sameS_self]; done) | grind
      · skip
        refine .cons (.gT rfl rfl rfl (.bN 9 rfl rfl rfl rfl rfl rfl)) ?_
        refine .cons (.gT rfl rfl rfl (.cP [.tmp 42, .const (.int .i64 (4))] rfl rfl rfl rfl (implStmtV_fn 4 (sumS s t) (by omega)) rfl)) ?_
        refine .cons (.gT rfl rfl rfl (.nt rfl rfl)) ?_
        refine .cons (.pF rfl rfl rfl) ?_
        refine .cons (.mv rfl rfl) ?_
        refine AOps.cases 46 _ rfl (fun g46 => ?_) (fun g46 => ?_)
        · try simp only [List.length_map, decide_eq_true_eq, decide_eq_false_iff_not, Bool.not_eq_true', Bool.not_eq_false', Bool.not_eq_true, Bool.not_eq_false] at g46
          refine .cons (.gF rfl rfl rfl) ?_
          refine .cons (.gF rfl rfl rfl) ?_
          refine .cons (.gF rfl rfl rfl) ?_
          refine .cons (.pT rfl rfl rfl) ?_
          refine .nil ?_
          refine ks_n ?_
          refine ACode.condT rfl (fun _ => ?_) (fun h => by first | (cases h; done) | (simp [*] at h; done) | (exfalso; simp_all; done))
          refine ACode.seq ?_
          refine ACode.region ?_
          refine .cons (.mv rfl rfl) ?_
          refine .cons (St1.lenN (e := 25) (m := 2) (by' := 40) rfl rfl rfl rfl rfl (by kernel_rfl) rfl) ?_
          refine .cons (.bN 9 rfl rfl rfl rfl rfl rfl) ?_
          refine .cons (.cP [.tmp 53] rfl rfl rfl rfl (specReads_fn s (by omega)) rfl) ?_
          refine .cons (.ln 25 2 40 rfl rfl rfl) ?_
          refine .cons (.eq rfl rfl rfl) ?_
          refine .cons (.asg rfl rfl) ?_
          refine .nil ?_
          refine ks_n ?_
          refine ACode.ret ?_
          refine ks_r ?_
          refine kf_ret rfl ?_ nobox
          first | rfl | (exfalso; omega) | (exfalso; simp_all only [beq_self_eq_true, sameS_self, Bool.true_eq_false, reduceCtorEq]; done) | exact leafB (decide_eq_true (by omega)) | with_reducible exact leafB (sameS_self _) | exact leafB (by simp) | (exfalso; simp_all [sameS_self]; done) | grind
        · try simp only [List.length_map, decide_eq_true_eq, decide_eq_false_iff_not, Bool.not_eq_true', Bool.not_eq_false', Bool.not_eq_true, Bool.not_eq_false] at g46
          refine .cons (.gT rfl rfl rfl (.bN 9 rfl rfl rfl rfl rfl rfl)) ?_
          refine .cons (.gT rfl rfl rfl (.cP [.tmp 47, .const (.int .i64 (4))] rfl rfl rfl rfl (implStmtV_fn 4 t (by omega)) rfl)) ?_
          refine .cons (.gT rfl rfl rfl (.nt rfl rfl)) ?_
          refine .cons (.pF rfl rfl rfl) ?_
          refine .nil ?_
          refine ks_n ?_
          refine ACode.condT rfl (fun h50 => ?_) (fun h50 => ?_)
          · try simp only [List.length_map, decide_eq_true_eq, decide_eq_false_iff_not, Bool.not_eq_true', Bool.not_eq_false', Bool.not_eq_true, Bool.not_eq_false] at h50
            refine ACode.seq ?_
            refine ACode.region ?_
            refine .cons (.mv rfl rfl) ?_
            refine .cons (St1.lenN (e := 25) (m := 2) (by' := 40) rfl rfl rfl rfl rfl (by kernel_rfl) rfl) ?_
            refine .cons (.bN 9 rfl rfl rfl rfl rfl rfl) ?_
            refine .cons (.cP [.tmp 53] rfl rfl rfl rfl (specReads_fn s (by omega)) rfl) ?_
            refine .cons (.ln 25 2 40 rfl rfl rfl) ?_
            refine .cons (.eq rfl rfl rfl) ?_
            refine .cons (.asg rfl rfl) ?_
            refine .nil ?_
            refine ks_n ?_
            refine ACode.ret ?_
            refine ks_r ?_
            refine kf_ret rfl ?_ nobox
            first | rfl | (exfalso; omega) | (exfalso; simp_all only [beq_self_eq_true, sameS_self, Bool.true_eq_false, reduceCtorEq]; done) | exact leafB (decide_eq_true (by omega)) | with_reducible exact leafB (sameS_self _) | exact leafB (by simp) | (exfalso; simp_all [sameS_self]; done) | grind
          · try simp only [List.length_map, decide_eq_true_eq, decide_eq_false_iff_not, Bool.not_eq_true', Bool.not_eq_false', Bool.not_eq_true, Bool.not_eq_false] at h50
            have hsum := sum_reads g46 h50
            rw [List.eq_nil_of_length_eq_zero hz, List.nil_append] at hsum
            rw [hz2] at hsum
            have hsl := congrArg List.length hsum
            simp only [List.length_nil] at hsl
            refine ACode.skip ?_
            refine ks_n ?_
            refine ACode.seq ?_
            refine ACode.region ?_
            refine .cons (.mv rfl rfl) ?_
            refine .cons (.bN 9 rfl rfl rfl rfl rfl rfl) ?_
            refine .cons (.cP [.tmp 58] rfl rfl rfl rfl (implReads_fn t (by omega)) rfl) ?_
            refine .cons (St1.appNE (e := 25) (sz := 1) (by' := 40) rfl rfl rfl rfl rfl (by kernel_rfl) rfl (congrArg (fun l => some (V.o (vD (dCs l)))) hz2)) ?_
            refine .cons (.asg rfl rfl) ?_
            refine .nil ?_
            refine ks_n ?_
            refine ACode.seq ?_
            refine ACode.region ?_
            refine .cons (.bN 9 rfl rfl rfl rfl rfl rfl) ?_
            refine .cons (.cP [.tmp 61] rfl rfl rfl rfl (implReads_fn (sumS s t) (by omega)) rfl) ?_
            refine .cons (.asg rfl rfl) ?_
            refine .nil ?_
            refine ks_n ?_
            refine ACode.seq ?_
            refine ACode.seq ?_
            refine ACode.region ?_
            refine .cons (.asg rfl rfl) ?_
            refine .nil ?_
            refine ks_n ?_
            refine ACode.block ?_
            refine .loopK (fun m σ => (∃ i : Nat, m = ([] : List Acc).length - i ∧ (i ≤ ([] : List Acc).length) ∧ (True) ∧ σ = [(.t 7, .v (.o (.c (.box 110 9 0 0)))), (.t 9, .v (.o (.c (.d (.val (.slice none 0 0)))))), (.t 10, .v (.o (vD (dCs (rdS (sumS s t)))))), (.t 11, .v (.o (nat1 (i : Nat)))), (.b 110, .b 33 9 (dR ([rS (sumS s t)]))), (.u 110, .u)])) [(110, 762)] ⟨0, rfl, by omega, trivial, rfl⟩ ⟨ks rfl (.c .bx), ks rfl .dt, ks rfl .dt, ks rfl .dt, kb 762 rfl (.dt rfl), trivial⟩ ?_
            rintro m σ ⟨i, hm0, hi, hF, rfl⟩
            refine ACode.seq ?_
            refine ACode.seq ?_
            refine ACode.region ?_
            refine .cons (.mv rfl rfl) ?_
            refine .cons (.mv rfl rfl) ?_
            refine .cons (St1.lenN (e := 25) (m := 2) (by' := 40) rfl rfl rfl rfl rfl (by kernel_rfl) rfl) ?_
            refine .cons (.ls rfl rfl rfl) ?_
            refine .nil ?_
            refine ks_n ?_
            refine .cD rfl (fun h66 => ?_) (fun h66 => ?_)
            · skip
              omega
            · skip
              refine ACode.exit ?_
              refine ks_e ?_
              refine kl_e ?_
              refine kb_hit ?_
              refine ks_n ?_
              refine ACode.seq ?_
              refine ACode.region ?_
              refine .cons (.mv rfl rfl) ?_
              refine .cons (.ln 25 2 40 rfl rfl rfl) ?_
              refine .cons (.mv rfl rfl) ?_
              refine .cons (St1.lenN (e := 25) (m := 2) (by' := 40) rfl rfl rfl rfl rfl (by kernel_rfl) rfl) ?_
              refine .cons (.eq rfl rfl rfl) ?_
              refine .cons (.asg rfl rfl) ?_
              refine .nil ?_
              refine ks_n ?_
              refine ACode.ret ?_
              refine kf_ret rfl ?_ nobox
              first | rfl | (exfalso; omega) | (exfalso; simp_all only [beq_self_eq_true, sameS_self, Bool.true_eq_false, reduceCtorEq]; done) | exact leafB (decide_eq_true (by omega)) | with_reducible exact leafB (sameS_self _) | exact leafB (by simp) | (exfalso; simp_all [sameS_self]; done) | grind

set_option maxRecDepth 100000 in
set_option maxHeartbeats 1600000 in
theorem stmtSum_big (a : Option Addr) (n c : Nat) (a2 : Option Addr) (n2 c2 : Nat) (hn : 1048576 < n ∨ 1048576 < n2) : Fn Try.prog 5 [] [vX a n c, vX a2 n2 c2] (.o (bo1 true)) [] := by
  refine Fn.code0 Try.func5 rfl rfl rfl rfl ?_
  refine ACode.seq ?_
  refine ACode.region ?_
  refine .cons (.asg rfl rfl) ?_
  refine .nil ?_
  refine ks_n ?_
  refine ACode.seq ?_
  refine ACode.seq ?_
  refine ACode.region ?_
  refine .cons (.mv rfl rfl) ?_
  refine .cons (St1.lenN (e := 5) (m := 1) (by' := 1) rfl rfl rfl rfl rfl (by kernel_rfl) rfl) ?_
  refine .cons (.gt rfl rfl rfl) ?_
  refine .cons (.mv rfl rfl) ?_
  refine .cD 15 rfl (fun g15 => ?_) (fun g15 => ?_)
  · skip
    refine .cons (.gF rfl rfl rfl) ?_
    refine .cons (.gF rfl rfl rfl) ?_
    refine .cons (.gF rfl rfl rfl) ?_
    refine .cons (.pT rfl rfl rfl) ?_
    refine .nil ?_
    refine ks_n ?_
    refine ACode.condT rfl (fun _ => ?_) (fun h => by first | (cases h; done) | (simp [*] at h; done) | (exfalso; simp_all; done))
    refine ACode.seq ?_
    refine ACode.region ?_
    refine .cons (.asg rfl rfl) ?_
    refine .nil ?_
    refine ks_n ?_
    refine ACode.ret ?_
    refine ks_r ?_
    refine kf_ret rfl ?_ nobox
    rfl
  · skip
    refine .cons (.gT rfl rfl rfl (.mv rfl rfl)) ?_
    refine .cons (.gT rfl rfl rfl (St1.lenN (e := 5) (m := 1) (by' := 1) rfl rfl rfl rfl rfl (by kernel_rfl) rfl)) ?_
    refine .cons (.gT rfl rfl rfl (.gt rfl rfl rfl)) ?_
    refine .cons (.pF rfl rfl rfl) ?_
    refine .nil ?_
    refine ks_n ?_
    refine ACode.condT rfl (fun h19 => ?_) (fun h19 => ?_)
    · try simp only [List.length_map, decide_eq_true_eq, decide_eq_false_iff_not, Bool.not_eq_true', Bool.not_eq_false', Bool.not_eq_true, Bool.not_eq_false] at h19
      refine ACode.seq ?_
      refine ACode.region ?_
      refine .cons (.asg rfl rfl) ?_
      refine .nil ?_
      refine ks_n ?_
      refine ACode.ret ?_
      refine ks_r ?_
      refine kf_ret rfl ?_ nobox
      rfl
    · try simp only [List.length_map, decide_eq_true_eq, decide_eq_false_iff_not, Bool.not_eq_true', Bool.not_eq_false', Bool.not_eq_true, Bool.not_eq_false] at h19
      omega

theorem lawStmtSum (a : Option Addr) (n c : Nat) (bs : List Int) (a2 : Option Addr) (n2 c2 : Nat) (bs2 : List Int) (w : World) (hx : n ≤ 1048576 → Sl Sh.byte (fun b => b < w.heap.size) w (.slice a n c) bs) (hbs : ∀ x ∈ bs, 0 ≤ x ∧ x ≤ 255) (hx2 : n2 ≤ 1048576 → Sl Sh.byte (fun b => b < w.heap.size) w (.slice a2 n2 c2) bs2) (hbs2 : ∀ x ∈ bs2, 0 ≤ x ∧ x ≤ 255) : Truth Try.prog 5 #[.slice a n c, .slice a2 n2 c2] w :=
  law2 ⟨hx, hbs⟩ ⟨hx2, hbs2⟩ (fun h => stmtSum_big a n c a2 n2 c2 h) (fun hl hl2 hb hb2 => by
    obtain ⟨s, h1, _, h3⟩ := drawSR_fn hb
    obtain ⟨t, g1, _, g3⟩ := drawSR_fn hb2
    by_cases e : 0 < (rdS s).length
    · exact stmtSum_o hl hl2 h1 g1 h3 g3 e
    · by_cases e2 : 0 < (rdS t).length
      · exact stmtSum_n1 hl hl2 h1 g1 h3 g3 (by omega) e2
      · exact stmtSum_n0 hl hl2 h1 g1 h3 g3 (by omega) (List.eq_nil_of_length_eq_zero (by omega)))

end Go.Proofs.Ytigdfdhjnadieaa

/- Law FnFoldReads; condition: bytes. -/
namespace Go.Proofs.Ytigdfdhjnadieaa
set_option linter.unusedVariables false
set_option linter.unusedSimpArgs false
open Go.RowKit

theorem acc_self (z : Acc) : sameS (accS z) (accS z) = true := sameS_self _
theorem acc_ne {x y : Acc} (h : sameS (accS x) (accS y) = false) : x ≠ y := fun e => by rw [e, acc_self] at h; cases h
theorem acc_eq {x y : Acc} (h : sameS (accS x) (accS y) = true) : x = y := congrArg Prod.fst (sameS_iff.1 h)
theorem fold_reads {d L : Nat} {e : Ex} (h : exV d L e = true) : (rdE (foldE e)).Sublist (rdE e) := by
  refine fold_ind (d := d) (p := fun L e X => (rdE X).Sublist (rdE e)) (fun L n e _ _ _ => ?_) (fun L e _ _ _ => List.Sublist.refl _) (fun L e x y X _ _ hks h => ?_) (fun L e x y Y _ _ hks h => ?_) (fun L e x y _ hk hks h1 h2 _ => ?_) h
  · have : rdE (numE n) = [] := by rw [rdE_eq]; rfl
    rw [this]; exact List.nil_sublist _
  · rw [rdE_eq e, hks, rdEs]
    exact (h.trans (List.sublist_append_left _ _)).trans (List.sublist_append_right _ _)
  · rw [rdE_eq e, hks, rdEs, rdEs]
    exact ((h.trans (List.sublist_append_left _ _)).trans (List.sublist_append_right _ _)).trans (List.sublist_append_right _ _)
  · have h3 : rdE (outE e.k (foldE x) (foldE y)) = rdE (foldE x) ++ (rdE (foldE y) ++ []) := by
      rw [rdE_eq]
      have hn : ¬ (outE e.k (foldE x) (foldE y)).k = 3 := by show ¬ e.k = 3; omega
      rw [if_neg hn]
      show [] ++ rdEs [foldE x, foldE y] = _
      rw [rdEs, rdEs, rdEs]; rfl
    rw [h3, rdE_eq e, if_neg (by omega), hks, rdEs, rdEs, rdEs, List.nil_append]
    exact h1.append (h2.append (List.Sublist.refl _))
theorem foldS_reads {s : Stm} (h : stmtV 4 s = true) : (rdS (foldS s)).Sublist (rdS s) := by
  rw [rdS, rdS, if_pos h, if_pos (foldS_ok h)]
  exact fold_reads (stmtV_ex h).1
theorem fold_sz {d L : Nat} {e : Ex} (h : exV d L e = true) : szE (foldE e) ≤ szE e := by
  refine fold_ind (d := d) (p := fun L e X => szE X ≤ szE e) (fun L n e _ _ _ => ?_) (fun L e _ _ _ => Nat.le_refl _) (fun L e x y X _ _ hks h => ?_) (fun L e x y Y _ _ hks h => ?_) (fun L e x y _ hk hks h1 h2 _ => ?_) h
  · have : szE (numE n) = 0 := by simp [numE, szE, szC, szAs, szEs]
    rw [this]; exact Nat.zero_le _
  · rw [szE_eq e, hks, szEs, szEs, szEs]; omega
  · rw [szE_eq e, hks, szEs, szEs, szEs]; omega
  · have h3 : szE (outE e.k (foldE x) (foldE y)) = 2 + (szE (foldE x) + (szE (foldE y) + 0)) := by
      rw [outE, szE, szEs, szEs, szEs]; simp [szC, szAs]
    rw [h3, szE_eq e, hks, szEs, szEs, szEs]; simp; omega
theorem foldS_sz {s : Stm} (h : stmtV 4 s = true) : szS (foldS s) ≤ szS s := by
  have := fold_sz (stmtV_ex h).1
  show szC s.1 + szE (foldE s.2) ≤ szC s.1 + szE s.2; omega
theorem foldT_ok {s : Stm} (h : (foldT s).2 = true) : stmtV 4 s = true ∧ (foldT s).1 = foldS s := by
  rw [foldT] at h ⊢
  split at h
  · next hv => rw [if_pos hv]; exact ⟨hv, rfl⟩
  · cases h
theorem foldT_sz {s : Stm} {m : Nat} (h : szS s ≤ m) : szS (foldT s).1 ≤ m := by
  rw [foldT]
  split
  · next hv => exact Nat.le_trans (foldS_sz hv) h
  · exact Nat.zero_le _
theorem sub_step {α : Type} {Y X : List α} {i k : Nat} {x y : α} (h : (Y.drop k).Sublist (X.drop i)) (hx : X[i]? = some x) (hy : Y[k]? = some y) : (x = y → (Y.drop (k + 1)).Sublist (X.drop (i + 1))) ∧ (x ≠ y → (Y.drop k).Sublist (X.drop (i + 1))) := by
  have ex : X.drop i = x :: X.drop (i + 1) := by
    have hl := (List.getElem?_eq_some_iff.1 hx).1
    rw [List.drop_eq_getElem_cons hl]; congr 1; exact (List.getElem?_eq_some_iff.1 hx).2
  have ey : Y.drop k = y :: Y.drop (k + 1) := by
    have hl := (List.getElem?_eq_some_iff.1 hy).1
    rw [List.drop_eq_getElem_cons hl]; congr 1; exact (List.getElem?_eq_some_iff.1 hy).2
  rw [ex, ey] at h
  refine ⟨fun e => ?_, fun hne => ?_⟩
  · subst e; exact List.cons_sublist_cons.1 h
  · rw [ey]
    cases h with
    | cons _ h => exact h
    | cons_cons _ h => exact absurd rfl hne
theorem sub_end {α : Type} {Y X : List α} {i k : Nat} (h : (Y.drop k).Sublist (X.drop i)) (hk : k ≤ Y.length) (hi : X.length ≤ i) : k = Y.length := by
  have := h.length_le
  rw [List.length_drop, List.length_drop] at this
  omega

set_option maxRecDepth 100000 in
set_option maxHeartbeats 1600000 in
theorem foldReads_core {bs : List Int} (hl : bs.length ≤ 1048576) {s : Stm} (hs : szS s ≤ 400) (hD : Fn Try.prog 45 [] [vD (dYs bs)] (.o (ad (rS s))) [])  : Fn Try.prog 13 [] [vD (dYs bs)] (.o (bo1 true)) [] := by
  have z1 : szS (foldT s).1 ≤ 400 := foldT_sz hs
  have z2 := rdS_len s
  have z3 := rdS_len (foldT s).1
  refine Fn.code0 Try.func13 rfl rfl rfl rfl ?_
  refine ACode.seq ?_
  refine ACode.region ?_
  refine .cons (.asg rfl rfl) ?_
  refine .nil ?_
  refine ks_n ?_
  refine ACode.seq ?_
  refine ACode.seq ?_
  refine ACode.region ?_
  refine .cons (.mv rfl rfl) ?_
  refine .cons (.ln 5 1 1 rfl rfl rfl) ?_
  refine .cons (.gt rfl rfl rfl) ?_
  refine .nil ?_
  refine ks_n ?_
  refine .cD rfl (fun h14 => ?_) (fun h14 => ?_)
  · skip
    omega
  · skip
    refine ACode.skip ?_
    refine ks_n ?_
    refine ACode.seq ?_
    refine ACode.region ?_
    refine .cons (.mv rfl rfl) ?_
    refine .cons (.cP [.tmp 15] rfl rfl rfl rfl (hD) rfl) ?_
    refine .cons (.al 103 [.string ByteArray.empty, .slice none 0 0, .int .i64 0, .int .i64 0, .slice none 0 0, .int .i64 0, .string ByteArray.empty, .slice none 0 0, .slice none 0 0] rfl rfl rfl) ?_
    refine .cons (.sT 9 true rfl rfl rfl rfl rfl rfl rfl) ?_
    refine .nil ?_
    refine ks_n ?_
    refine ACode.seq ?_
    refine ACode.region ?_
    refine .cons (.bN 9 rfl rfl rfl rfl rfl rfl) ?_
    refine .cons (.cP [.tmp 18] rfl rfl rfl rfl (implFold_fn s (by omega)) rfl) ?_
    refine .cons (.mv rfl rfl) ?_
    refine .cons (.ex rfl rfl rfl) ?_
    refine .cons (.ex rfl rfl rfl) ?_
    refine .cons (.al 104 [.string ByteArray.empty, .slice none 0 0, .int .i64 0, .int .i64 0, .slice none 0 0, .int .i64 0, .string ByteArray.empty, .slice none 0 0, .slice none 0 0] rfl rfl rfl) ?_
    refine .cons (.sT 9 true rfl rfl rfl rfl rfl rfl rfl) ?_
    refine .cons (.asg rfl rfl) ?_
    refine .nil ?_
    refine ks_n ?_
    refine ACode.seq ?_
    refine ACode.region ?_
    refine .cons (.bN 9 rfl rfl rfl rfl rfl rfl) ?_
    refine .cons (.cP [.tmp 23] rfl rfl rfl rfl (specFold_fn s (by omega)) rfl) ?_
    refine .cons (.mv rfl rfl) ?_
    refine .cons (.ex rfl rfl rfl) ?_
    refine .cons (.ex rfl rfl rfl) ?_
    refine .cons (.al 106 [.string ByteArray.empty, .slice none 0 0, .int .i64 0, .int .i64 0, .slice none 0 0, .int .i64 0, .string ByteArray.empty, .slice none 0 0, .slice none 0 0] rfl rfl rfl) ?_
    refine .cons (.sT 9 true rfl rfl rfl rfl rfl rfl rfl) ?_
    refine .cons (.asg rfl rfl) ?_
    refine .nil ?_
    refine ks_n ?_
    refine ACode.seq ?_
    refine ACode.seq ?_
    refine ACode.region ?_
    refine .cons (.mv rfl rfl) ?_
    refine .cons (.mv rfl rfl) ?_
    refine .cons (St1.neqB rfl rfl rfl rfl (by kernel_rfl) rfl rfl) ?_
    refine .cons (.mv rfl rfl) ?_
    refine AOps.cases 30 _ rfl (fun g30 => ?_) (fun g30 => ?_)
    · try simp only [List.length_map, decide_eq_true_eq, decide_eq_false_iff_not, Bool.not_eq_true', Bool.not_eq_false', Bool.not_eq_true, Bool.not_eq_false] at g30
      refine .cons (.gF rfl rfl rfl) ?_
      refine .cons (.gF rfl rfl rfl) ?_
      refine .cons (.gF rfl rfl rfl) ?_
      refine .cons (.gF rfl rfl rfl) ?_
      refine .cons (.pT rfl rfl rfl) ?_
      refine .cons (.mv rfl rfl) ?_
      refine .cons (.gF rfl rfl rfl) ?_
      refine .cons (.gF rfl rfl rfl) ?_
      refine .cons (.pT rfl rfl rfl) ?_
      refine .nil ?_
      refine ks_n ?_
      refine ACode.condT rfl (fun _ => ?_) (fun h => by first | (cases h; done) | (simp [*] at h; done) | (exfalso; simp_all; done))
      refine ACode.seq ?_
      refine ACode.region ?_
      refine .cons (.mv rfl rfl) ?_
      refine .cons (.mv rfl rfl) ?_
      refine .cons (St1.eqlB rfl rfl rfl rfl (by kernel_rfl) rfl rfl) ?_
      refine .cons (.mv rfl rfl) ?_
      refine AOps.cases 43 _ rfl (fun g43 => ?_) (fun g43 => ?_)
      · try simp only [List.length_map, decide_eq_true_eq, decide_eq_false_iff_not, Bool.not_eq_true', Bool.not_eq_false', Bool.not_eq_true, Bool.not_eq_false] at g43
        refine .cons (.gT rfl rfl rfl (.bN 9 rfl rfl rfl rfl rfl rfl)) ?_
        refine .cons (.gT rfl rfl rfl (.bN 9 rfl rfl rfl rfl rfl rfl)) ?_
        refine .cons (.gT rfl rfl rfl (.cP [.tmp 44, .tmp 45] rfl rfl rfl rfl (implStmtSame_fn (foldT s).1 (foldT s).1 (by omega)) rfl)) ?_
        refine .cons (.pT rfl rfl rfl) ?_
        refine .cons (.asg rfl rfl) ?_
        refine .nil ?_
        refine ks_n ?_
        refine ACode.ret ?_
        refine ks_r ?_
        refine kf_ret rfl ?_ nobox
        first | rfl | exact leafB (decide_eq_true (by have := sub_end hF hk (by omega); omega)) | first | rfl | (exfalso; omega) | (exfalso; simp_all only [beq_self_eq_true, sameS_self, Bool.true_eq_false, reduceCtorEq]; done) | exact leafB (decide_eq_true (by omega)) | with_reducible exact leafB (sameS_self _) | exact leafB (by simp) | (exfalso; simp_all [sameS_self]; done) | grind
      · try simp only [List.length_map, decide_eq_true_eq, decide_eq_false_iff_not, Bool.not_eq_true', Bool.not_eq_false', Bool.not_eq_true, Bool.not_eq_false] at g43
        refine .cons (.gF rfl rfl rfl) ?_
        refine .cons (.gF rfl rfl rfl) ?_
        refine .cons (.gF rfl rfl rfl) ?_
        refine .cons (.pF rfl rfl rfl) ?_
        refine .cons (.asg rfl rfl) ?_
        refine .nil ?_
        refine ks_n ?_
        refine ACode.ret ?_
        refine ks_r ?_
        refine kf_ret rfl ?_ nobox
        first | rfl | exact leafB (decide_eq_true (by have := sub_end hF hk (by omega); omega)) | first | rfl | (exfalso; omega) | (exfalso; simp_all only [beq_self_eq_true, sameS_self, Bool.true_eq_false, reduceCtorEq]; done) | exact leafB (decide_eq_true (by omega)) | with_reducible exact leafB (sameS_self _) | exact leafB (by simp) | (exfalso; simp_all [sameS_self]; done) | grind
    · try simp only [List.length_map, decide_eq_true_eq, decide_eq_false_iff_not, Bool.not_eq_true', Bool.not_eq_false', Bool.not_eq_true, Bool.not_eq_false] at g30
      refine .cons (.gT rfl rfl rfl (.bN 9 rfl rfl rfl rfl rfl rfl)) ?_
      refine .cons (.gT rfl rfl rfl (.bN 9 rfl rfl rfl rfl rfl rfl)) ?_
      refine .cons (.gT rfl rfl rfl (.cP [.tmp 31, .tmp 32] rfl rfl rfl rfl (implStmtSame_fn (foldT s).1 (foldT s).1 (by omega)) rfl)) ?_
      refine .cons (.gT rfl rfl rfl (.nt rfl rfl)) ?_
      refine .cons (.pF rfl rfl rfl) ?_
      refine .cons (.mv rfl rfl) ?_
      refine AOps.cases 36 _ rfl (fun g36 => ?_) (fun g36 => ?_)
      · try simp only [List.length_map, decide_eq_true_eq, decide_eq_false_iff_not, Bool.not_eq_true', Bool.not_eq_false', Bool.not_eq_true, Bool.not_eq_false] at g36
        refine .cons (.gF rfl rfl rfl) ?_
        refine .cons (.gF rfl rfl rfl) ?_
        refine .cons (.pT rfl rfl rfl) ?_
        refine .nil ?_
        refine ks_n ?_
        refine ACode.condT rfl (fun _ => ?_) (fun h => by first | (cases h; done) | (simp [*] at h; done) | (exfalso; simp_all; done))
        refine ACode.seq ?_
        refine ACode.region ?_
        refine .cons (.mv rfl rfl) ?_
        refine .cons (.mv rfl rfl) ?_
        refine .cons (St1.eqlB rfl rfl rfl rfl (by kernel_rfl) rfl rfl) ?_
        refine .cons (.mv rfl rfl) ?_
        refine AOps.cases 43 _ rfl (fun g43 => ?_) (fun g43 => ?_)
        · try simp only [List.length_map, decide_eq_true_eq, decide_eq_false_iff_not, Bool.not_eq_true', Bool.not_eq_false', Bool.not_eq_true, Bool.not_eq_false] at g43
          refine .cons (.gT rfl rfl rfl (.bN 9 rfl rfl rfl rfl rfl rfl)) ?_
          refine .cons (.gT rfl rfl rfl (.bN 9 rfl rfl rfl rfl rfl rfl)) ?_
          refine .cons (.gT rfl rfl rfl (.cP [.tmp 44, .tmp 45] rfl rfl rfl rfl (implStmtSame_fn (foldT s).1 (foldT s).1 (by omega)) rfl)) ?_
          refine .cons (.pT rfl rfl rfl) ?_
          refine .cons (.asg rfl rfl) ?_
          refine .nil ?_
          refine ks_n ?_
          refine ACode.ret ?_
          refine ks_r ?_
          refine kf_ret rfl ?_ nobox
          first | rfl | exact leafB (decide_eq_true (by have := sub_end hF hk (by omega); omega)) | first | rfl | (exfalso; omega) | (exfalso; simp_all only [beq_self_eq_true, sameS_self, Bool.true_eq_false, reduceCtorEq]; done) | exact leafB (decide_eq_true (by omega)) | with_reducible exact leafB (sameS_self _) | exact leafB (by simp) | (exfalso; simp_all [sameS_self]; done) | grind
        · try simp only [List.length_map, decide_eq_true_eq, decide_eq_false_iff_not, Bool.not_eq_true', Bool.not_eq_false', Bool.not_eq_true, Bool.not_eq_false] at g43
          refine .cons (.gF rfl rfl rfl) ?_
          refine .cons (.gF rfl rfl rfl) ?_
          refine .cons (.gF rfl rfl rfl) ?_
          refine .cons (.pF rfl rfl rfl) ?_
          refine .cons (.asg rfl rfl) ?_
          refine .nil ?_
          refine ks_n ?_
          refine ACode.ret ?_
          refine ks_r ?_
          refine kf_ret rfl ?_ nobox
          first | rfl | exact leafB (decide_eq_true (by have := sub_end hF hk (by omega); omega)) | first | rfl | (exfalso; omega) | (exfalso; simp_all only [beq_self_eq_true, sameS_self, Bool.true_eq_false, reduceCtorEq]; done) | exact leafB (decide_eq_true (by omega)) | with_reducible exact leafB (sameS_self _) | exact leafB (by simp) | (exfalso; simp_all [sameS_self]; done) | grind
      · try simp only [List.length_map, decide_eq_true_eq, decide_eq_false_iff_not, Bool.not_eq_true', Bool.not_eq_false', Bool.not_eq_true, Bool.not_eq_false] at g36
        refine .cons (.gT rfl rfl rfl (.mv rfl rfl)) ?_
        refine .cons (.gT rfl rfl rfl (.nt rfl rfl)) ?_
        refine .cons (.pF rfl rfl rfl) ?_
        refine .nil ?_
        refine ks_n ?_
        refine ACode.condT rfl (fun h39 => ?_) (fun h39 => ?_)
        · try simp only [List.length_map, decide_eq_true_eq, decide_eq_false_iff_not, Bool.not_eq_true', Bool.not_eq_false', Bool.not_eq_true, Bool.not_eq_false] at h39
          refine ACode.seq ?_
          refine ACode.region ?_
          refine .cons (.mv rfl rfl) ?_
          refine .cons (.mv rfl rfl) ?_
          refine .cons (St1.eqlB rfl rfl rfl rfl (by kernel_rfl) rfl rfl) ?_
          refine .cons (.mv rfl rfl) ?_
          refine AOps.cases 43 _ rfl (fun g43 => ?_) (fun g43 => ?_)
          · try simp only [List.length_map, decide_eq_true_eq, decide_eq_false_iff_not, Bool.not_eq_true', Bool.not_eq_false', Bool.not_eq_true, Bool.not_eq_false] at g43
            refine .cons (.gT rfl rfl rfl (.bN 9 rfl rfl rfl rfl rfl rfl)) ?_
            refine .cons (.gT rfl rfl rfl (.bN 9 rfl rfl rfl rfl rfl rfl)) ?_
            refine .cons (.gT rfl rfl rfl (.cP [.tmp 44, .tmp 45] rfl rfl rfl rfl (implStmtSame_fn (foldT s).1 (foldT s).1 (by omega)) rfl)) ?_
            refine .cons (.pT rfl rfl rfl) ?_
            refine .cons (.asg rfl rfl) ?_
            refine .nil ?_
            refine ks_n ?_
            refine ACode.ret ?_
            refine ks_r ?_
            refine kf_ret rfl ?_ nobox
            first | rfl | exact leafB (decide_eq_true (by have := sub_end hF hk (by omega); omega)) | first | rfl | (exfalso; omega) | (exfalso; simp_all only [beq_self_eq_true, sameS_self, Bool.true_eq_false, reduceCtorEq]; done) | exact leafB (decide_eq_true (by omega)) | with_reducible exact leafB (sameS_self _) | exact leafB (by simp) | (exfalso; simp_all [sameS_self]; done) | grind
          · try simp only [List.length_map, decide_eq_true_eq, decide_eq_false_iff_not, Bool.not_eq_true', Bool.not_eq_false', Bool.not_eq_true, Bool.not_eq_false] at g43
            refine .cons (.gF rfl rfl rfl) ?_
            refine .cons (.gF rfl rfl rfl) ?_
            refine .cons (.gF rfl rfl rfl) ?_
            refine .cons (.pF rfl rfl rfl) ?_
            refine .cons (.asg rfl rfl) ?_
            refine .nil ?_
            refine ks_n ?_
            refine ACode.ret ?_
            refine ks_r ?_
            refine kf_ret rfl ?_ nobox
            first | rfl | exact leafB (decide_eq_true (by have := sub_end hF hk (by omega); omega)) | first | rfl | (exfalso; omega) | (exfalso; simp_all only [beq_self_eq_true, sameS_self, Bool.true_eq_false, reduceCtorEq]; done) | exact leafB (decide_eq_true (by omega)) | with_reducible exact leafB (sameS_self _) | exact leafB (by simp) | (exfalso; simp_all [sameS_self]; done) | grind
        · try simp only [List.length_map, decide_eq_true_eq, decide_eq_false_iff_not, Bool.not_eq_true', Bool.not_eq_false', Bool.not_eq_true, Bool.not_eq_false] at h39
          have hsub : (rdS (foldT s).1).Sublist (rdS s) := by rw [(foldT_ok h39).2]; exact foldS_reads (foldT_ok h39).1
          refine ACode.skip ?_
          refine ks_n ?_
          refine ACode.seq ?_
          refine ACode.region ?_
          refine .cons (.bN 9 rfl rfl rfl rfl rfl rfl) ?_
          refine .cons (.cP [.tmp 48] rfl rfl rfl rfl (implReads_fn s (by omega)) rfl) ?_
          refine .cons (.asg rfl rfl) ?_
          refine .nil ?_
          refine ks_n ?_
          refine ACode.seq ?_
          refine ACode.region ?_
          refine .cons (.bN 9 rfl rfl rfl rfl rfl rfl) ?_
          refine .cons (.cP [.tmp 50] rfl rfl rfl rfl (implReads_fn (foldT s).1 (by omega)) rfl) ?_
          refine .cons (.asg rfl rfl) ?_
          refine .nil ?_
          refine ks_n ?_
          refine ACode.seq ?_
          refine ACode.region ?_
          refine .cons (.asg rfl rfl) ?_
          refine .nil ?_
          refine ks_n ?_
          refine ACode.seq ?_
          refine ACode.seq ?_
          refine ACode.region ?_
          refine .cons (.asg rfl rfl) ?_
          refine .nil ?_
          refine ks_n ?_
          refine ACode.block ?_
          refine .loopK (fun m σ => (∃ (i k : Nat), m = (rdS s).length - i ∧ (i ≤ (rdS s).length) ∧ (k ≤ (rdS (foldT s).1).length) ∧ (((rdS (foldT s).1).drop k).Sublist ((rdS s).drop i)) ∧ σ = [(.t 8, .v (.o (vD (dCs (rdS s))))), (.t 9, .v (.o (vD (dCs (rdS (foldT s).1))))), (.t 10, .v (.o (nat1 (k : Nat)))), (.t 11, .v (.o (nat1 (i : Nat))))])) [] ⟨0, 0, rfl, by omega, by omega, hsub, rfl⟩ ⟨ks rfl .dt, ks rfl .dt, ks rfl .dt, ks rfl .dt, trivial⟩ ?_
          rintro m σ ⟨i, k, hm0, hi, hk, hF, rfl⟩
          refine ACode.seq ?_
          refine ACode.seq ?_
          refine ACode.region ?_
          refine .cons (.mv rfl rfl) ?_
          refine .cons (.mv rfl rfl) ?_
          refine .cons (.ln 25 2 40 rfl rfl rfl) ?_
          refine .cons (.ls rfl rfl rfl) ?_
          refine .cons (.mv rfl rfl) ?_
          refine .cD 56 rfl (fun g56 => ?_) (fun g56 => ?_)
          · skip
            refine .cons (.gT rfl rfl rfl (.mv rfl rfl)) ?_
            refine .cons (.gT rfl rfl rfl (.mv rfl rfl)) ?_
            refine .cons (.gT rfl rfl rfl (.ln 25 2 40 rfl rfl rfl)) ?_
            refine .cons (.gT rfl rfl rfl (.ls rfl rfl rfl)) ?_
            refine .cons (.pT rfl rfl rfl) ?_
            refine .nil ?_
            refine ks_n ?_
            refine ACode.condT rfl (fun h61 => ?_) (fun h61 => ?_)
            · try simp only [List.length_map, decide_eq_true_eq, decide_eq_false_iff_not, Bool.not_eq_true', Bool.not_eq_false', Bool.not_eq_true, Bool.not_eq_false] at h61
              obtain ⟨x, hx1⟩ : ∃ x, (rdS s)[i]? = some x := ⟨_, List.getElem?_eq_getElem (by omega)⟩
              obtain ⟨y, hy1⟩ : ∃ x, (rdS (foldT s).1)[k]? = some x := ⟨_, List.getElem?_eq_getElem (by omega)⟩
              refine ACode.skip ?_
              refine ks_n ?_
              refine ACode.seq ?_
              refine ACode.block ?_
              refine ACode.seq ?_
              refine ACode.drawK (by kernel_rfl) (by kernel_rfl) ?_
              refine .cons (.mv rfl rfl) ?_
              refine .cons (.mv rfl rfl) ?_
              refine .cons (.xL 25 2 40 rfl rfl rfl rfl rfl (map_at hx1)) ?_
              refine .cons (.lN 2 rfl rfl rfl) ?_
              refine .cons (.buZ [(0, .tmp 67)] [(0, 2), (2, 7)] [.string ByteArray.empty, .slice none 0 0, .int .i64 0, .int .i64 0, .slice none 0 0, .int .i64 0, .string ByteArray.empty, .slice none 0 0, .slice none 0 0] [dS ByteArray.empty, .list 2 [], dI 0, dI 0, .list 1 [], dI 0, dS ByteArray.empty, .list 2 [], .list 7 []] rfl rfl (.val rfl (.list _ (.val rfl (.val rfl (.list _ (.val rfl (.val rfl (.list _ (.list _ ZR.nil))))))))) rfl rfl) ?_
              refine .cons (.mv rfl rfl) ?_
              refine .cons (.mv rfl rfl) ?_
              refine .cons (.xL 25 2 40 rfl rfl rfl rfl rfl (map_at hy1)) ?_
              refine .cons (.lN 2 rfl rfl rfl) ?_
              refine .cons (.buZ [(0, .tmp 72)] [(0, 2), (2, 7)] [.string ByteArray.empty, .slice none 0 0, .int .i64 0, .int .i64 0, .slice none 0 0, .int .i64 0, .string ByteArray.empty, .slice none 0 0, .slice none 0 0] [dS ByteArray.empty, .list 2 [], dI 0, dI 0, .list 1 [], dI 0, dS ByteArray.empty, .list 2 [], .list 7 []] rfl rfl (.val rfl (.list _ (.val rfl (.val rfl (.list _ (.val rfl (.val rfl (.list _ (.list _ ZR.nil))))))))) rfl rfl) ?_
              refine .cons (.cP [.tmp 68, .tmp 73] rfl rfl rfl rfl (implStmtSame_fn (accS x) (accS y) (by have := accS_sz (List.mem_of_getElem? hx1); omega)) rfl) ?_
              refine .nil ⟨by kernel_rfl, ?_⟩
              refine ks_n ?_
              refine ACode.condT rfl (fun h74 => ?_) (fun h74 => ?_)
              · try simp only [List.length_map, decide_eq_true_eq, decide_eq_false_iff_not, Bool.not_eq_true', Bool.not_eq_false', Bool.not_eq_true, Bool.not_eq_false] at h74
                refine ACode.region ?_
                refine .cons (.mv rfl rfl) ?_
                refine .cons (.pl rfl rfl rfl) ?_
                refine .cons (.asg rfl rfl) ?_
                refine .nil ?_
                refine kb_n ?_
                refine ks_n ?_
                refine ACode.region ?_
                refine .cons (.mv rfl rfl) ?_
                refine .cons (.pl rfl rfl rfl) ?_
                refine .cons (.asg rfl rfl) ?_
                refine .nil ?_
                refine kl_k [] ⟨i + 1, k + 1, rfl, by omega, by omega, (sub_step hF hx1 hy1).1 (acc_eq h74), rfl⟩ ⟨ks rfl .dt, ks rfl .dt, ks rfl .dt, ks rfl .dt, trivial⟩
              · try simp only [List.length_map, decide_eq_true_eq, decide_eq_false_iff_not, Bool.not_eq_true', Bool.not_eq_false', Bool.not_eq_true, Bool.not_eq_false] at h74
                refine ACode.skip ?_
                refine kb_n ?_
                refine ks_n ?_
                refine ACode.region ?_
                refine .cons (.mv rfl rfl) ?_
                refine .cons (.pl rfl rfl rfl) ?_
                refine .cons (.asg rfl rfl) ?_
                refine .nil ?_
                refine kl_k [] ⟨i + 1, k, rfl, by omega, by omega, (sub_step hF hx1 hy1).2 (acc_ne h74), rfl⟩ ⟨ks rfl .dt, ks rfl .dt, ks rfl .dt, ks rfl .dt, trivial⟩
            · try simp only [List.length_map, decide_eq_true_eq, decide_eq_false_iff_not, Bool.not_eq_true', Bool.not_eq_false', Bool.not_eq_true, Bool.not_eq_false] at h61
              refine ACode.exit ?_
              refine ks_e ?_
              refine kl_e ?_
              refine kb_hit ?_
              refine ks_n ?_
              refine ACode.seq ?_
              refine ACode.region ?_
              refine .cons (.mv rfl rfl) ?_
              refine .cons (.mv rfl rfl) ?_
              refine .cons (.ln 25 2 40 rfl rfl rfl) ?_
              refine .cons (.eq rfl rfl rfl) ?_
              refine .cons (.asg rfl rfl) ?_
              refine .nil ?_
              refine ks_n ?_
              refine ACode.ret ?_
              refine kf_ret rfl ?_ nobox
              first | rfl | exact leafB (decide_eq_true (by have := sub_end hF hk (by omega); omega)) | first | rfl | (exfalso; omega) | (exfalso; simp_all only [beq_self_eq_true, sameS_self, Bool.true_eq_false, reduceCtorEq]; done) | exact leafB (decide_eq_true (by omega)) | with_reducible exact leafB (sameS_self _) | exact leafB (by simp) | (exfalso; simp_all [sameS_self]; done) | grind
          · skip
            refine .cons (.gF rfl rfl rfl) ?_
            refine .cons (.gF rfl rfl rfl) ?_
            refine .cons (.gF rfl rfl rfl) ?_
            refine .cons (.gF rfl rfl rfl) ?_
            refine .cons (.pF rfl rfl rfl) ?_
            refine .nil ?_
            refine ks_n ?_
            refine ACode.condT rfl (fun h => by first | (cases h; done) | (simp [*] at h; done) | (exfalso; simp_all; done)) (fun _ => ?_)
            refine ACode.exit ?_
            refine ks_e ?_
            refine kl_e ?_
            refine kb_hit ?_
            refine ks_n ?_
            refine ACode.seq ?_
            refine ACode.region ?_
            refine .cons (.mv rfl rfl) ?_
            refine .cons (.mv rfl rfl) ?_
            refine .cons (.ln 25 2 40 rfl rfl rfl) ?_
            refine .cons (.eq rfl rfl rfl) ?_
            refine .cons (.asg rfl rfl) ?_
            refine .nil ?_
            refine ks_n ?_
            refine ACode.ret ?_
            refine kf_ret rfl ?_ nobox
            first | rfl | exact leafB (decide_eq_true (by have := sub_end hF hk (by omega); omega)) | first | rfl | (exfalso; omega) | (exfalso; simp_all only [beq_self_eq_true, sameS_self, Bool.true_eq_false, reduceCtorEq]; done) | exact leafB (decide_eq_true (by omega)) | with_reducible exact leafB (sameS_self _) | exact leafB (by simp) | (exfalso; simp_all [sameS_self]; done) | grind

set_option maxRecDepth 100000 in
set_option maxHeartbeats 1600000 in
theorem foldReads_big (a : Option Addr) (n c : Nat) (hn : 1048576 < n) : Fn Try.prog 13 [] [vX a n c] (.o (bo1 true)) [] := by
  refine Fn.code0 Try.func13 rfl rfl rfl rfl ?_
  refine ACode.seq ?_
  refine ACode.region ?_
  refine .cons (.asg rfl rfl) ?_
  refine .nil ?_
  refine ks_n ?_
  refine ACode.seq ?_
  refine ACode.seq ?_
  refine ACode.region ?_
  refine .cons (.mv rfl rfl) ?_
  refine .cons (St1.lenN (e := 5) (m := 1) (by' := 1) rfl rfl rfl rfl rfl (by kernel_rfl) rfl) ?_
  refine .cons (.gt rfl rfl rfl) ?_
  refine .nil ?_
  refine ks_n ?_
  refine .cD rfl (fun h14 => ?_) (fun h14 => ?_)
  · skip
    refine ACode.seq ?_
    refine ACode.region ?_
    refine .cons (.asg rfl rfl) ?_
    refine .nil ?_
    refine ks_n ?_
    refine ACode.ret ?_
    refine ks_r ?_
    refine kf_ret rfl ?_ nobox
    rfl
  · skip
    omega

theorem lawFoldReads (a : Option Addr) (n c : Nat) (bs : List Int) (w : World) (hx : n ≤ 1048576 → Sl Sh.byte (fun b => b < w.heap.size) w (.slice a n c) bs) (hbs : ∀ x ∈ bs, 0 ≤ x ∧ x ≤ 255) : Truth Try.prog 13 #[.slice a n c] w :=
  law1 ⟨hx, hbs⟩ (fun h => foldReads_big a n c h) (fun hl hb => by
    obtain ⟨s, h1, h2, h3⟩ := drawFo_fn hb
    exact foldReads_core hl h1 h3)

end Go.Proofs.Ytigdfdhjnadieaa
