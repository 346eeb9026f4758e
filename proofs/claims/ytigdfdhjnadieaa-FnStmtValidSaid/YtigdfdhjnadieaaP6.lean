/- Part 6 of 6 of the proof: laws on memory and data, then what the functions compute, in the order in which they build on each other; conditions: those that each theorem names. -/
import Derived.Test.YtigdfdhjnadieaaP5

/- Statements: mutated draws; condition: bytes. -/
namespace Go.Proofs.Ytigdfdhjnadieaa
set_option linter.unusedVariables false
set_option linter.unusedSimpArgs false
open Go.RowKit

theorem two_box {σ : St} {k1 k2 : Nat} {e1 e2 : TypeId} {s1 s2 : Nat} {r1 r2 : List (List C)} (h1 : lk σ (.b k1) = .b e1 s1 r1) (h2 : lk σ (.b k2) = .b e2 s2 r2) : ∀ k e sz rows, lk [(.b k1, .b e1 s1 r1), (.u k1, .u), (.b k2, .b e2 s2 r2), (.u k2, .u)] (.b k) = .b e sz rows → lk σ (.b k) = .b e sz rows := fun k e sz rows h => by
  by_cases hk : k = k1
  · subst hk; rw [lk_same] at h; rw [h1]; exact h
  · rw [lk_other _ _ _ _ (by simpa using fun e => hk e.symm), lk_other _ _ _ _ (by simp)] at h
    exact one_box h2 k e sz rows h
theorem two_num {σ : St} {k1 k2 : Nat} {e1 e2 : TypeId} {s1 s2 : Nat} {r1 r2 : List (List C)} (hk : (Nat.ble 100 k1 && Nat.ble 100 k2) = true) : ∀ k, k < 100 → Al (lk [(.b k1, .b e1 s1 r1), (.u k1, .u), (.b k2, .b e2 s2 r2), (.u k2, .u)]) k → Al (lk σ) k := fun k h ⟨e, sz, rows, h1⟩ => by
  rw [Bool.and_eq_true] at hk
  have a1 := Nat.le_of_ble_eq_true hk.1
  rw [lk_other _ _ _ _ (by simp; omega), lk_other _ _ _ _ (by simp)] at h1
  exact one_num hk.2 k h ⟨e, sz, rows, h1⟩
theorem outS_two {inv : Inv} {k1 k2 : Nat} {e1 e2 : TypeId} {s1 s2 : Nat} {r1 r2 : List (List D)} : outS inv [(.b k1, .b e1 s1 (dR r1)), (.u k1, .u), (.b k2, .b e2 s2 (dR r2)), (.u k2, .u)] = [(.b (asc inv k1), .b e1 s1 (dR r1)), (.u (asc inv k1), .u), (.b (asc inv k2), .b e2 s2 (dR r2)), (.u (asc inv k2), .u)] := by simp [outS, renR_dR]

set_option maxRecDepth 100000 in
set_option maxHeartbeats 1600000 in
theorem l3CopyAcc_own (a : Acc) (h0 : 0 < a.2.length) (ha : a.2.length ≤ 1073741824) (hq : ∀ x ∈ a.2, x.1.length ≤ 1073741824) : Fn Try.prog 104 [] [ad (rC a)] (.o (.agg [.d (dS a.1), .own 101 2 a.2.length])) [(.b 101, .b 28 2 (dR (a.2.map rA))), (.u 101, .u)] := by
  refine Fn.of_code Try.func104 rfl rfl HB.nil rfl rfl HB.nil.data rfl (one_num rfl) ?_
  refine ACode.seq ?_
  refine ACode.region ?_
  refine .cons (St1.boxP rfl rfl rfl rfl rfl rfl) ?_
  refine .cons (.al 102 [.string ByteArray.empty, .slice none 0 0] rfl rfl rfl) ?_
  refine .nil ?_
  refine ks_n ?_
  refine ACode.seq ?_
  refine ACode.region ?_
  refine .cons (.fP 0 0 false rfl rfl) ?_
  refine .cons (.l1 1 rfl rfl) ?_
  refine .cons (.bu [(0, .tmp 6)] [(0, 1), (1, 1)] [.string ByteArray.empty, .slice none 0 0] rfl rfl rfl rfl rfl) ?_
  refine .cons (.al 103 [.string ByteArray.empty, .slice none 0 0] rfl rfl rfl) ?_
  refine .cons (.sT 2 true rfl rfl rfl rfl rfl rfl rfl) ?_
  refine .nil ?_
  refine ks_n ?_
  refine ACode.seq ?_
  refine ACode.seq ?_
  refine ACode.region ?_
  refine .cons (.asg rfl rfl) ?_
  refine .nil ?_
  refine ks_n ?_
  refine ACode.block ?_
  refine .loopK (fun m σ => (∃ i : Nat, m = a.2.length - i ∧ (i = 0) ∧ σ = [(.t 1, .v (.o (.c (.ptr (rC a))))), (.t 2, .v (.o (.c (.box 110 2 0 0)))), (.t 3, .v (.o (.c (.box 111 2 0 0)))), (.t 4, .v (.o (nat1 (i : Nat)))), (.b 110, .b 25 2 [[.d (dS ByteArray.empty), .d (.val (.slice none 0 0))]]), (.u 110, .u), (.b 111, .b 25 2 [[.d (dS a.1), .d (.val (.slice none 0 0))]]), (.u 111, .u)]) ∨ (∃ i : Nat, m = a.2.length - i ∧ (1 ≤ i) ∧ (i ≤ a.2.length) ∧ σ = [(.t 1, .v (.o (.c (.ptr (rC a))))), (.t 2, .v (.o (.c (.box 110 2 0 0)))), (.t 3, .v (.o (.c (.box 111 2 0 0)))), (.t 4, .v (.o (nat1 (i : Nat)))), (.b 110, .b 25 2 [[.d (dS ByteArray.empty), .d (.val (.slice none 0 0))]]), (.u 110, .u), (.b 112, .b 28 2 (dR ((a.2.take i).map rA))), (.u 112, .u), (.b 111, .b 25 2 [[.d (dS a.1), .own 112 2 (i)]]), (.u 111, .u)])) [(110, 102), (111, 103)] (.inl ⟨0, rfl, rfl, rfl⟩) ⟨ks rfl .dt, ks rfl (.c .bx), ks rfl (.c .bx), ks rfl .dt, kb 102 rfl (.cons (.cons .dt (.cons .dt Ctos.nil)) .nil), kb 103 rfl (.cons (.cons .dt (.cons .dt Ctos.nil)) .nil), trivial⟩ ?_
  rintro m σ (⟨i, hm0, rfl, rfl⟩ | ⟨i, hm0, hi1, hi2, rfl⟩)
  · skip
    refine ACode.seq ?_
    refine ACode.seq ?_
    refine ACode.region ?_
    refine .cons (.mv rfl rfl) ?_
    refine .cons (.fP 1 0 false rfl rfl) ?_
    refine .cons (.l1 1 rfl rfl) ?_
    refine .cons (.ln 28 2 32 rfl rfl rfl) ?_
    refine .cons (.ls rfl rfl rfl) ?_
    refine .nil ?_
    refine ks_n ?_
    refine .cD rfl (fun h12 => ?_) (fun h12 => ?_)
    · skip
      obtain ⟨x, hx1⟩ : ∃ x, a.2[0]? = some x := ⟨_, List.getElem?_eq_getElem (by omega)⟩
      refine ACode.skip ?_
      refine ks_n ?_
      refine ACode.seq ?_
      refine ACode.block ?_
      refine ACode.drawK (by kernel_rfl) (by kernel_rfl) ?_
      refine .cons (.fB 1 0 false rfl rfl rfl) ?_
      refine .cons (.b1 1 rfl rfl rfl rfl rfl rfl) ?_
      refine .cons (.fP 1 0 false rfl rfl) ?_
      refine .cons (.l1 1 rfl rfl) ?_
      refine .cons (.mv rfl rfl) ?_
      refine .cons (.xL 28 2 32 rfl rfl rfl rfl rfl) ?_
      refine .cons (.lN 2 rfl rfl rfl) ?_
      refine .cons (.cP [.tmp 21] rfl rfl rfl rfl (l3CopyAff_fn (hq x (List.mem_of_getElem? hx1))) rfl) ?_
      refine .cons (.li 28 1 0 [.tmp 22] rfl rfl rfl rfl rfl rfl) ?_
      refine .cons (St1.appN (k' := 124) (e := 28) (sz := 1) (by' := 32) rfl rfl rfl rfl rfl (by kernel_rfl) rfl rfl rfl (by simp) (by first | (simp [dR]; done) | (simp [dR]; omega)) rfl rfl) ?_
      refine .cons (.fB 1 0 false rfl rfl rfl) ?_
      refine .cons (.sT 1 false rfl rfl rfl rfl rfl rfl rfl) ?_
      refine .nil ⟨by kernel_rfl, ?_⟩
      refine kb_n ?_
      refine ks_n ?_
      refine ACode.region ?_
      refine .cons (.mv rfl rfl) ?_
      refine .cons (.pl rfl rfl rfl) ?_
      refine .cons (.asg rfl rfl) ?_
      refine .nil ?_
      refine kl_k [(110, 110), (111, 111), (112, 124)] (.inr ⟨1, rfl, by omega, by omega, rfl⟩) ⟨ks rfl .dt, ks rfl (.c .bx), ks rfl (.c .bx), ks rfl .dt, kb 110 rfl (.cons (.cons .dt (.cons .dt Ctos.nil)) .nil), kb 124 rfl (.dt rfl (by first | exact dR_take (rA) hx1 | exact dR_take1 (rA) hx1 | rfl | (simp [dR]; done))), kb 111 rfl (.cons (.cons .dt (.cons .ow Ctos.nil)) .nil), trivial⟩
    · skip
      omega
  · skip
    refine ACode.seq ?_
    refine ACode.seq ?_
    refine ACode.region ?_
    refine .cons (.mv rfl rfl) ?_
    refine .cons (.fP 1 0 false rfl rfl) ?_
    refine .cons (.l1 1 rfl rfl) ?_
    refine .cons (.ln 28 2 32 rfl rfl rfl) ?_
    refine .cons (.ls rfl rfl rfl) ?_
    refine .nil ?_
    refine ks_n ?_
    refine .cD rfl (fun h12 => ?_) (fun h12 => ?_)
    · skip
      obtain ⟨x, hx1⟩ : ∃ x, a.2[i]? = some x := ⟨_, List.getElem?_eq_getElem (by omega)⟩
      refine ACode.skip ?_
      refine ks_n ?_
      refine ACode.seq ?_
      refine ACode.block ?_
      refine ACode.drawK (by kernel_rfl) (by kernel_rfl) ?_
      refine .cons (.fB 1 0 false rfl rfl rfl) ?_
      refine .cons (.b1 1 rfl rfl rfl rfl rfl rfl) ?_
      refine .cons (.fP 1 0 false rfl rfl) ?_
      refine .cons (.l1 1 rfl rfl) ?_
      refine .cons (.mv rfl rfl) ?_
      refine .cons (.xL 28 2 32 rfl rfl rfl rfl rfl) ?_
      refine .cons (.lN 2 rfl rfl rfl) ?_
      refine .cons (.cP [.tmp 21] rfl rfl rfl rfl (l3CopyAff_fn (hq x (List.mem_of_getElem? hx1))) rfl) ?_
      refine .cons (.li 28 1 0 [.tmp 22] rfl rfl rfl rfl rfl rfl) ?_
      refine .cons (St1.appB (k' := 124) (e := 28) (sz := 1) (by' := 32) rfl rfl rfl rfl rfl (by kernel_rfl) rfl rfl rfl rfl (by first | (simp [dR]; done) | (simp [dR]; omega)) (by first | (simp [dR]; done) | (simp [dR]; omega)) rfl rfl rfl) ?_
      refine .cons (.fB 1 0 false rfl rfl rfl) ?_
      refine .cons (.sT 1 false rfl rfl rfl rfl rfl rfl rfl) ?_
      refine .nil ⟨by kernel_rfl, ?_⟩
      refine kb_n ?_
      refine ks_n ?_
      refine ACode.region ?_
      refine .cons (.mv rfl rfl) ?_
      refine .cons (.pl rfl rfl rfl) ?_
      refine .cons (.asg rfl rfl) ?_
      refine .nil ?_
      refine kl_k [(110, 110), (111, 111), (112, 124)] (.inr ⟨i + 1, rfl, by omega, by omega, rfl⟩) ⟨ks rfl .dt, ks rfl (.c .bx), ks rfl (.c .bx), ks rfl .dt, kb 110 rfl (.cons (.cons .dt (.cons .dt Ctos.nil)) .nil), kb 124 rfl (.dt rfl (by first | exact dR_take (rA) hx1 | exact dR_take1 (rA) hx1 | rfl | (simp [dR]; done))), kb 111 rfl (.cons (.cons .dt (.cons .ow Ctos.nil)) .nil), trivial⟩
    · skip
      obtain rfl : i = a.2.length := by omega
      refine ACode.exit ?_
      refine ks_e ?_
      refine kl_e ?_
      refine kb_hit ?_
      refine ks_n ?_
      refine ACode.seq ?_
      refine ACode.region ?_
      refine .cons (.bN 2 rfl rfl rfl rfl rfl rfl) ?_
      refine .cons (.sT 2 true rfl rfl rfl rfl rfl rfl rfl) ?_
      refine .nil ?_
      refine ks_n ?_
      refine ACode.ret ?_
      refine kf_wret [(.t 2, .v (.o (.c (.box 100 2 0 0)))), (.b 101, .b 28 2 (dR (a.2.map rA))), (.u 101, .u), (.b 100, .b 25 2 [[.d (dS a.1), .own 101 2 (a.2.length)]]), (.u 100, .u)] (Wk.keep [(100, 110), (101, 112)] rfl rfl ⟨ks rfl (.c .bx), kb 112 rfl (.dt rfl (by rw [List.take_length])), kb 110 rfl (.cons (.cons .dt (.cons .ow Ctos.nil)) .nil), trivial⟩) rfl ?_ (one_box rfl)
      rfl

set_option maxRecDepth 100000 in
set_option maxHeartbeats 1600000 in
theorem l3CopyEx_own (e : Ex) (hi : e.i.1.length ≤ 1073741824) (hr : e.r.2.length ≤ 1073741824) (hq : ∀ x ∈ e.r.2, x.1.length ≤ 1073741824) (hk : e.ks.length ≤ 1073741824) (hz : ∀ x ∈ e.ks, szE x ≤ 1073741824) (h0 : 0 < e.ks.length) : Fn Try.prog 142 [] [ad (rX e)] (.o (.agg [.d (dI e.k), .d (dI e.n), .d (dIs e.i.1), .d (dI e.i.2), .d (dS e.r.1), .d (dAs e.r.2), .own 101 7 e.ks.length])) [(.b 101, .b 31 7 (dR (e.ks.map rE))), (.u 101, .u)] := by
  refine Fn.of_code Try.func142 rfl rfl HB.nil rfl rfl HB.nil.data rfl (one_num rfl) ?_
  refine ACode.seq ?_
  refine ACode.region ?_
  refine .cons (St1.boxP rfl rfl rfl rfl rfl rfl) ?_
  refine .cons (.al 102 [.int .i64 0, .int .i64 0, .slice none 0 0, .int .i64 0, .string ByteArray.empty, .slice none 0 0, .slice none 0 0] rfl rfl rfl) ?_
  refine .nil ?_
  refine ks_n ?_
  refine ACode.seq ?_
  refine ACode.drawK (by kernel_rfl) (by kernel_rfl) ?_
  refine .cons (.fP 0 0 false rfl rfl) ?_
  refine .cons (.l1 1 rfl rfl) ?_
  refine .cons (.fP 1 0 false rfl rfl) ?_
  refine .cons (.l1 1 rfl rfl) ?_
  refine .cons (.fP 2 1 true rfl rfl) ?_
  refine .cons (.lN 2 rfl rfl rfl) ?_
  refine .cons (.cP [.tmp 10] rfl rfl rfl rfl (l3CopyAff_fn hi) rfl) ?_
  refine .cons (.fP 4 1 true rfl rfl) ?_
  refine .cons (.lN 2 rfl rfl rfl) ?_
  refine .cons (.cP [.tmp 13] rfl rfl rfl rfl (l3CopyAcc_fn e.r hr hq) rfl) ?_
  refine .cons (.bu [(0, .tmp 6), (1, .tmp 8), (2, .tmp 11), (3, .tmp 14)] [(0, 1), (1, 1), (2, 2), (4, 2), (6, 1)] [.int .i64 0, .int .i64 0, .slice none 0 0, .int .i64 0, .string ByteArray.empty, .slice none 0 0, .slice none 0 0] rfl rfl rfl rfl rfl) ?_
  refine .cons (.al 103 [.int .i64 0, .int .i64 0, .slice none 0 0, .int .i64 0, .string ByteArray.empty, .slice none 0 0, .slice none 0 0] rfl rfl rfl) ?_
  refine .cons (.sT 7 true rfl rfl rfl rfl rfl rfl rfl) ?_
  refine .nil ⟨by kernel_rfl, ?_⟩
  refine ks_n ?_
  refine ACode.seq ?_
  refine ACode.seq ?_
  refine ACode.region ?_
  refine .cons (.asg rfl rfl) ?_
  refine .nil ?_
  refine ks_n ?_
  refine ACode.block ?_
  refine .loopK (fun m σ => (∃ i : Nat, m = e.ks.length - i ∧ (i = 0) ∧ σ = [(.t 1, .v (.o (.c (.ptr (rX e))))), (.t 2, .v (.o (.c (.box 110 7 0 0)))), (.t 3, .v (.o (.c (.box 111 7 0 0)))), (.t 4, .v (.o (nat1 (i : Nat)))), (.b 110, .b 31 7 [[.d (dI 0), .d (dI 0), .d (.val (.slice none 0 0)), .d (dI 0), .d (dS ByteArray.empty), .d (.val (.slice none 0 0)), .d (.val (.slice none 0 0))]]), (.u 110, .u), (.b 111, .b 31 7 [[.d (dI e.k), .d (dI e.n), .d (dIs e.i.1), .d (dI e.i.2), .d (dS e.r.1), .d (dAs e.r.2), .d (.val (.slice none 0 0))]]), (.u 111, .u)]) ∨ (∃ i : Nat, m = e.ks.length - i ∧ (1 ≤ i) ∧ (i ≤ e.ks.length) ∧ σ = [(.t 1, .v (.o (.c (.ptr (rX e))))), (.t 2, .v (.o (.c (.box 110 7 0 0)))), (.t 3, .v (.o (.c (.box 111 7 0 0)))), (.t 4, .v (.o (nat1 (i : Nat)))), (.b 110, .b 31 7 [[.d (dI 0), .d (dI 0), .d (.val (.slice none 0 0)), .d (dI 0), .d (dS ByteArray.empty), .d (.val (.slice none 0 0)), .d (.val (.slice none 0 0))]]), (.u 110, .u), (.b 112, .b 31 7 (dR ((e.ks.take i).map fun x => rX x))), (.u 112, .u), (.b 111, .b 31 7 [[.d (dI e.k), .d (dI e.n), .d (dIs e.i.1), .d (dI e.i.2), .d (dS e.r.1), .d (dAs e.r.2), .own 112 7 (i)]]), (.u 111, .u)])) [(110, 102), (111, 103)] (.inl ⟨0, rfl, rfl, rfl⟩) ⟨ks rfl .dt, ks rfl (.c .bx), ks rfl (.c .bx), ks rfl .dt, kb 102 rfl (.cons (.cons .dt (.cons .dt (.cons .dt (.cons .dt (.cons .dt (.cons .dt (.cons .dt Ctos.nil))))))) .nil), kb 103 rfl (.cons (.cons .dt (.cons .dt (.cons .dt (.cons .dt (.cons .dt (.cons .dt (.cons .dt Ctos.nil))))))) .nil), trivial⟩ ?_
  rintro m σ (⟨i, hm0, rfl, rfl⟩ | ⟨i, hm0, hi1, hi2, rfl⟩)
  · skip
    refine ACode.seq ?_
    refine ACode.seq ?_
    refine ACode.region ?_
    refine .cons (.mv rfl rfl) ?_
    refine .cons (.fP 6 0 false rfl rfl) ?_
    refine .cons (.l1 1 rfl rfl) ?_
    refine .cons (.ln 31 7 112 rfl rfl rfl) ?_
    refine .cons (.ls rfl rfl rfl) ?_
    refine .nil ?_
    refine ks_n ?_
    refine .cD rfl (fun h20 => ?_) (fun h20 => ?_)
    · skip
      obtain ⟨x, hx1⟩ : ∃ x, e.ks[0]? = some x := ⟨_, List.getElem?_eq_getElem (by omega)⟩
      refine ACode.skip ?_
      refine ks_n ?_
      refine ACode.seq ?_
      refine ACode.block ?_
      refine ACode.drawK (by kernel_rfl) (by kernel_rfl) ?_
      refine .cons (.fB 6 0 false rfl rfl rfl) ?_
      refine .cons (.b1 1 rfl rfl rfl rfl rfl rfl) ?_
      refine .cons (.fP 6 0 false rfl rfl) ?_
      refine .cons (.l1 1 rfl rfl) ?_
      refine .cons (.mv rfl rfl) ?_
      refine .cons (.xL 31 7 112 rfl rfl rfl rfl rfl (rE_at hx1)) ?_
      refine .cons (.lN 7 rfl rfl rfl) ?_
      refine .cons (.cP [.tmp 29] rfl rfl rfl rfl (l3CopyEx_fn x (hz x (List.mem_of_getElem? hx1))) rfl) ?_
      refine .cons (.li 31 6 0 [.tmp 30] rfl rfl rfl rfl rfl rfl) ?_
      refine .cons (St1.appN (k' := 132) (e := 31) (sz := 6) (by' := 112) rfl rfl rfl rfl rfl (by kernel_rfl) rfl rfl rfl (by simp) (by first | (simp [dR]; done) | (simp [dR]; omega)) rfl rfl) ?_
      refine .cons (.fB 6 0 false rfl rfl rfl) ?_
      refine .cons (.sT 1 false rfl rfl rfl rfl rfl rfl rfl) ?_
      refine .nil ⟨by kernel_rfl, ?_⟩
      refine kb_n ?_
      refine ks_n ?_
      refine ACode.region ?_
      refine .cons (.mv rfl rfl) ?_
      refine .cons (.pl rfl rfl rfl) ?_
      refine .cons (.asg rfl rfl) ?_
      refine .nil ?_
      refine kl_k [(110, 110), (111, 111), (112, 132)] (.inr ⟨1, rfl, by omega, by omega, rfl⟩) ⟨ks rfl .dt, ks rfl (.c .bx), ks rfl (.c .bx), ks rfl .dt, kb 110 rfl (.cons (.cons .dt (.cons .dt (.cons .dt (.cons .dt (.cons .dt (.cons .dt (.cons .dt Ctos.nil))))))) .nil), kb 132 rfl (.dt rfl (by first | exact dR_take (fun x => rX x) hx1 | exact dR_take1 (fun x => rX x) hx1 | rfl | (simp [dR]; done))), kb 111 rfl (.cons (.cons .dt (.cons .dt (.cons .dt (.cons .dt (.cons .dt (.cons .dt (.cons .ow Ctos.nil))))))) .nil), trivial⟩
    · skip
      omega
  · skip
    refine ACode.seq ?_
    refine ACode.seq ?_
    refine ACode.region ?_
    refine .cons (.mv rfl rfl) ?_
    refine .cons (.fP 6 0 false rfl rfl) ?_
    refine .cons (.l1 1 rfl rfl) ?_
    refine .cons (.ln 31 7 112 rfl rfl rfl) ?_
    refine .cons (.ls rfl rfl rfl) ?_
    refine .nil ?_
    refine ks_n ?_
    refine .cD rfl (fun h20 => ?_) (fun h20 => ?_)
    · skip
      obtain ⟨x, hx1⟩ : ∃ x, e.ks[i]? = some x := ⟨_, List.getElem?_eq_getElem (by omega)⟩
      refine ACode.skip ?_
      refine ks_n ?_
      refine ACode.seq ?_
      refine ACode.block ?_
      refine ACode.drawK (by kernel_rfl) (by kernel_rfl) ?_
      refine .cons (.fB 6 0 false rfl rfl rfl) ?_
      refine .cons (.b1 1 rfl rfl rfl rfl rfl rfl) ?_
      refine .cons (.fP 6 0 false rfl rfl) ?_
      refine .cons (.l1 1 rfl rfl) ?_
      refine .cons (.mv rfl rfl) ?_
      refine .cons (.xL 31 7 112 rfl rfl rfl rfl rfl (rE_at hx1)) ?_
      refine .cons (.lN 7 rfl rfl rfl) ?_
      refine .cons (.cP [.tmp 29] rfl rfl rfl rfl (l3CopyEx_fn x (hz x (List.mem_of_getElem? hx1))) rfl) ?_
      refine .cons (.li 31 6 0 [.tmp 30] rfl rfl rfl rfl rfl rfl) ?_
      refine .cons (St1.appB (k' := 132) (e := 31) (sz := 6) (by' := 112) rfl rfl rfl rfl rfl (by kernel_rfl) rfl rfl rfl rfl (by first | (simp [dR]; done) | (simp [dR]; omega)) (by first | (simp [dR]; done) | (simp [dR]; omega)) rfl rfl rfl) ?_
      refine .cons (.fB 6 0 false rfl rfl rfl) ?_
      refine .cons (.sT 1 false rfl rfl rfl rfl rfl rfl rfl) ?_
      refine .nil ⟨by kernel_rfl, ?_⟩
      refine kb_n ?_
      refine ks_n ?_
      refine ACode.region ?_
      refine .cons (.mv rfl rfl) ?_
      refine .cons (.pl rfl rfl rfl) ?_
      refine .cons (.asg rfl rfl) ?_
      refine .nil ?_
      refine kl_k [(110, 110), (111, 111), (112, 132)] (.inr ⟨i + 1, rfl, by omega, by omega, rfl⟩) ⟨ks rfl .dt, ks rfl (.c .bx), ks rfl (.c .bx), ks rfl .dt, kb 110 rfl (.cons (.cons .dt (.cons .dt (.cons .dt (.cons .dt (.cons .dt (.cons .dt (.cons .dt Ctos.nil))))))) .nil), kb 132 rfl (.dt rfl (by first | exact dR_take (fun x => rX x) hx1 | exact dR_take1 (fun x => rX x) hx1 | rfl | (simp [dR]; done))), kb 111 rfl (.cons (.cons .dt (.cons .dt (.cons .dt (.cons .dt (.cons .dt (.cons .dt (.cons .ow Ctos.nil))))))) .nil), trivial⟩
    · skip
      obtain rfl : i = e.ks.length := by omega
      refine ACode.exit ?_
      refine ks_e ?_
      refine kl_e ?_
      refine kb_hit ?_
      refine ks_n ?_
      refine ACode.seq ?_
      refine ACode.region ?_
      refine .cons (.bN 7 rfl rfl rfl rfl rfl rfl) ?_
      refine .cons (.sT 7 true rfl rfl rfl rfl rfl rfl rfl) ?_
      refine .nil ?_
      refine ks_n ?_
      refine ACode.ret ?_
      refine kf_wret [(.t 2, .v (.o (.c (.box 100 7 0 0)))), (.b 101, .b 31 7 (dR (e.ks.map rE))), (.u 101, .u), (.b 100, .b 31 7 [[.d (dI e.k), .d (dI e.n), .d (dIs e.i.1), .d (dI e.i.2), .d (dS e.r.1), .d (dAs e.r.2), .own 101 7 (e.ks.length)]]), (.u 100, .u)] (Wk.keep [(100, 110), (101, 112)] rfl rfl ⟨ks rfl (.c .bx), kb 112 rfl (.dt rfl (by first | exact (dR_ex id _).trans (by rw [List.map_id]) | (rw [List.take_length]; done))), kb 110 rfl (.cons (.cons .dt (.cons .dt (.cons .dt (.cons .dt (.cons .dt (.cons .dt (.cons .ow Ctos.nil))))))) .nil), trivial⟩) rfl ?_ (one_box rfl)
      rfl

set_option maxRecDepth 100000 in
set_option maxHeartbeats 1600000 in
theorem l3CopyEx_nil (e : Ex) (hi : e.i.1.length ≤ 1073741824) (hr : e.r.2.length ≤ 1073741824) (hq : ∀ x ∈ e.r.2, x.1.length ≤ 1073741824) (hk : e.ks.length ≤ 1073741824) (hz : ∀ x ∈ e.ks, szE x ≤ 1073741824) (h0 : e.ks.length = 0) : Fn Try.prog 142 [] [ad (rX e)] (.o (.agg [.d (dI e.k), .d (dI e.n), .d (dIs e.i.1), .d (dI e.i.2), .d (dS e.r.1), .d (dAs e.r.2), .d (.val (.slice none 0 0))])) [] := by
  refine Fn.code0 Try.func142 rfl rfl rfl rfl ?_
  refine ACode.seq ?_
  refine ACode.region ?_
  refine .cons (St1.boxP rfl rfl rfl rfl rfl rfl) ?_
  refine .cons (.al 102 [.int .i64 0, .int .i64 0, .slice none 0 0, .int .i64 0, .string ByteArray.empty, .slice none 0 0, .slice none 0 0] rfl rfl rfl) ?_
  refine .nil ?_
  refine ks_n ?_
  refine ACode.seq ?_
  refine ACode.drawK (by kernel_rfl) (by kernel_rfl) ?_
  refine .cons (.fP 0 0 false rfl rfl) ?_
  refine .cons (.l1 1 rfl rfl) ?_
  refine .cons (.fP 1 0 false rfl rfl) ?_
  refine .cons (.l1 1 rfl rfl) ?_
  refine .cons (.fP 2 1 true rfl rfl) ?_
  refine .cons (.lN 2 rfl rfl rfl) ?_
  refine .cons (.cP [.tmp 10] rfl rfl rfl rfl (l3CopyAff_fn hi) rfl) ?_
  refine .cons (.fP 4 1 true rfl rfl) ?_
  refine .cons (.lN 2 rfl rfl rfl) ?_
  refine .cons (.cP [.tmp 13] rfl rfl rfl rfl (l3CopyAcc_fn e.r hr hq) rfl) ?_
  refine .cons (.bu [(0, .tmp 6), (1, .tmp 8), (2, .tmp 11), (3, .tmp 14)] [(0, 1), (1, 1), (2, 2), (4, 2), (6, 1)] [.int .i64 0, .int .i64 0, .slice none 0 0, .int .i64 0, .string ByteArray.empty, .slice none 0 0, .slice none 0 0] rfl rfl rfl rfl rfl) ?_
  refine .cons (.al 103 [.int .i64 0, .int .i64 0, .slice none 0 0, .int .i64 0, .string ByteArray.empty, .slice none 0 0, .slice none 0 0] rfl rfl rfl) ?_
  refine .cons (.sT 7 true rfl rfl rfl rfl rfl rfl rfl) ?_
  refine .nil ⟨by kernel_rfl, ?_⟩
  refine ks_n ?_
  refine ACode.seq ?_
  refine ACode.seq ?_
  refine ACode.region ?_
  refine .cons (.asg rfl rfl) ?_
  refine .nil ?_
  refine ks_n ?_
  refine ACode.block ?_
  refine .loopK (fun m σ => (∃ i : Nat, m = e.ks.length - i ∧ (i = 0) ∧ σ = [(.t 1, .v (.o (.c (.ptr (rX e))))), (.t 2, .v (.o (.c (.box 110 7 0 0)))), (.t 3, .v (.o (.c (.box 111 7 0 0)))), (.t 4, .v (.o (nat1 (i : Nat)))), (.b 110, .b 31 7 [[.d (dI 0), .d (dI 0), .d (.val (.slice none 0 0)), .d (dI 0), .d (dS ByteArray.empty), .d (.val (.slice none 0 0)), .d (.val (.slice none 0 0))]]), (.u 110, .u), (.b 111, .b 31 7 [[.d (dI e.k), .d (dI e.n), .d (dIs e.i.1), .d (dI e.i.2), .d (dS e.r.1), .d (dAs e.r.2), .d (.val (.slice none 0 0))]]), (.u 111, .u)]) ∨ (∃ i : Nat, m = e.ks.length - i ∧ (1 ≤ i) ∧ (i ≤ e.ks.length) ∧ σ = [(.t 1, .v (.o (.c (.ptr (rX e))))), (.t 2, .v (.o (.c (.box 110 7 0 0)))), (.t 3, .v (.o (.c (.box 111 7 0 0)))), (.t 4, .v (.o (nat1 (i : Nat)))), (.b 110, .b 31 7 [[.d (dI 0), .d (dI 0), .d (.val (.slice none 0 0)), .d (dI 0), .d (dS ByteArray.empty), .d (.val (.slice none 0 0)), .d (.val (.slice none 0 0))]]), (.u 110, .u), (.b 112, .b 31 7 (dR ((e.ks.take i).map fun x => rX x))), (.u 112, .u), (.b 111, .b 31 7 [[.d (dI e.k), .d (dI e.n), .d (dIs e.i.1), .d (dI e.i.2), .d (dS e.r.1), .d (dAs e.r.2), .own 112 7 (i)]]), (.u 111, .u)])) [(110, 102), (111, 103)] (.inl ⟨0, rfl, rfl, rfl⟩) ⟨ks rfl .dt, ks rfl (.c .bx), ks rfl (.c .bx), ks rfl .dt, kb 102 rfl (.cons (.cons .dt (.cons .dt (.cons .dt (.cons .dt (.cons .dt (.cons .dt (.cons .dt Ctos.nil))))))) .nil), kb 103 rfl (.cons (.cons .dt (.cons .dt (.cons .dt (.cons .dt (.cons .dt (.cons .dt (.cons .dt Ctos.nil))))))) .nil), trivial⟩ ?_
  rintro m σ (⟨i, hm0, rfl, rfl⟩ | ⟨i, hm0, hi1, hi2, rfl⟩)
  · skip
    refine ACode.seq ?_
    refine ACode.seq ?_
    refine ACode.region ?_
    refine .cons (.mv rfl rfl) ?_
    refine .cons (.fP 6 0 false rfl rfl) ?_
    refine .cons (.l1 1 rfl rfl) ?_
    refine .cons (.ln 31 7 112 rfl rfl rfl) ?_
    refine .cons (.ls rfl rfl rfl) ?_
    refine .nil ?_
    refine ks_n ?_
    refine .cD rfl (fun h20 => ?_) (fun h20 => ?_)
    · skip
      omega
    · skip
      have hn : e.ks = [] := List.eq_nil_of_length_eq_zero (by omega)
      refine ACode.exit ?_
      refine ks_e ?_
      refine kl_e ?_
      refine kb_hit ?_
      refine ks_n ?_
      refine ACode.seq ?_
      refine ACode.region ?_
      refine .cons (.bN 7 rfl rfl rfl rfl rfl rfl) ?_
      refine .cons (.sT 7 true rfl rfl rfl rfl rfl rfl rfl) ?_
      refine .nil ?_
      refine ks_n ?_
      refine ACode.ret ?_
      refine kf_wret [(.t 2, .v (.o (.c (.box 100 7 0 0)))), (.b 100, .b 31 7 [[.d (dI e.k), .d (dI e.n), .d (dIs e.i.1), .d (dI e.i.2), .d (dS e.r.1), .d (dAs e.r.2), .d (.val (.slice none 0 0))]]), (.u 100, .u)] (Wk.keep [(100, 110)] rfl rfl ⟨ks rfl (.c .bx), kb 110 rfl (.cons (.cons .dt (.cons .dt (.cons .dt (.cons .dt (.cons .dt (.cons .dt (.cons .dt Ctos.nil))))))) .nil), trivial⟩) rfl ?_ nobox
      rfl
  · skip
    refine ACode.seq ?_
    refine ACode.seq ?_
    refine ACode.region ?_
    refine .cons (.mv rfl rfl) ?_
    refine .cons (.fP 6 0 false rfl rfl) ?_
    refine .cons (.l1 1 rfl rfl) ?_
    refine .cons (.ln 31 7 112 rfl rfl rfl) ?_
    refine .cons (.ls rfl rfl rfl) ?_
    refine .nil ?_
    refine ks_n ?_
    refine .cD rfl (fun h20 => ?_) (fun h20 => ?_)
    · skip
      omega
    · skip
      omega

set_option maxRecDepth 100000 in
set_option maxHeartbeats 1600000 in
theorem l3Copy_nil (s : Stm) (hs : szS s ≤ 1073741824) (h1 : 0 < s.1.2.length) (h0 : s.2.ks.length = 0) : Fn Try.prog 94 [] [ad (rS s)] (.o (.agg [.d (dS s.1.1), .own 101 2 s.1.2.length, .d (dI s.2.k), .d (dI s.2.n), .d (dIs s.2.i.1), .d (dI s.2.i.2), .d (dS s.2.r.1), .d (dAs s.2.r.2), .d (.val (.slice none 0 0))])) [(.b 101, .b 28 2 (dR (s.1.2.map rA))), (.u 101, .u)] := by
  have hs3 := hs
  rw [szS, szC] at hs
  have hl := szAs_len s.1.2
  have hE := szE_eq s.2
  have hC : szC s.2.r = s.2.r.1.size + szAs s.2.r.2 := rfl
  have hl2 := szAs_len s.2.r.2
  refine Fn.of_code Try.func94 rfl rfl HB.nil rfl rfl HB.nil.data rfl (one_num rfl) ?_
  refine ACode.seq ?_
  refine ACode.region ?_
  refine .cons (St1.boxP rfl rfl rfl rfl rfl rfl) ?_
  refine .cons (.al 102 [.string ByteArray.empty, .slice none 0 0, .int .i64 0, .int .i64 0, .slice none 0 0, .int .i64 0, .string ByteArray.empty, .slice none 0 0, .slice none 0 0] rfl rfl rfl) ?_
  refine .nil ?_
  refine ks_n ?_
  refine ACode.seq ?_
  refine ACode.drawK (by kernel_rfl) (by kernel_rfl) ?_
  refine .cons (.fP 0 1 true rfl rfl) ?_
  refine .cons (.lN 2 rfl rfl rfl) ?_
  refine .cons (.cO [.tmp 4] [(101, 605)] rfl rfl rfl rfl (l3CopyAcc_own s.1 h1 (by omega) (fun x hx => by have := szAs_mem hx; omega)) rfl trivial flatS.nil (flatS.nil.cons rfl) HB.nil.data outS_one) ?_
  refine .cons (.fP 2 6 true rfl rfl) ?_
  refine .cons (.lN 7 rfl rfl rfl) ?_
  refine .cons (.cP [.tmp 7] rfl rfl rfl rfl (l3CopyEx_nil s.2 (by omega) (by omega) (fun x hx => by have := szAs_mem hx; omega) (by omega) (fun x hx => by have := szEs_mem hx; omega) h0) rfl) ?_
  refine .cons (.bu [(0, .tmp 5), (1, .tmp 8)] [(0, 2), (2, 7)] [.string ByteArray.empty, .slice none 0 0, .int .i64 0, .int .i64 0, .slice none 0 0, .int .i64 0, .string ByteArray.empty, .slice none 0 0, .slice none 0 0] rfl rfl rfl rfl rfl) ?_
  refine .cons (.sT 9 true rfl rfl rfl rfl rfl rfl rfl) ?_
  refine .nil ⟨by kernel_rfl, ?_⟩
  refine ks_n ?_
  refine ACode.ret ?_
  refine kf_wret [(.t 2, .v (.o (.c (.box 100 9 0 0)))), (.b 101, .b 28 2 (dR (s.1.2.map rA))), (.u 101, .u), (.b 100, .b 33 9 [[.d (dS s.1.1), .own 101 2 (s.1.2.length), .d (dI s.2.k), .d (dI s.2.n), .d (dIs s.2.i.1), .d (dI s.2.i.2), .d (dS s.2.r.1), .d (dAs s.2.r.2), .d (.val (.slice none 0 0))]]), (.u 100, .u)] (Wk.keep [(100, 102), (101, 605)] rfl rfl ⟨ks rfl (.c .bx), kb 605 rfl (.dt rfl), kb 102 rfl (.cons (.cons .dt (.cons .ow (.cons .dt (.cons .dt (.cons .dt (.cons .dt (.cons .dt (.cons .dt (.cons .dt Ctos.nil))))))))) .nil), trivial⟩) rfl ?_ (one_box rfl)
  rfl

set_option maxRecDepth 100000 in
set_option maxHeartbeats 1600000 in
theorem l3Copy_own (s : Stm) (hs : szS s ≤ 1073741824) (h1 : 0 < s.1.2.length) (h0 : 0 < s.2.ks.length) : Fn Try.prog 94 [] [ad (rS s)] (.o (.agg [.d (dS s.1.1), .own 101 2 s.1.2.length, .d (dI s.2.k), .d (dI s.2.n), .d (dIs s.2.i.1), .d (dI s.2.i.2), .d (dS s.2.r.1), .d (dAs s.2.r.2), .own 102 7 s.2.ks.length])) [(.b 101, .b 28 2 (dR (s.1.2.map rA))), (.u 101, .u), (.b 102, .b 31 7 (dR (s.2.ks.map rE))), (.u 102, .u)] := by
  have hs3 := hs
  rw [szS, szC] at hs
  have hl := szAs_len s.1.2
  have hE := szE_eq s.2
  have hC : szC s.2.r = s.2.r.1.size + szAs s.2.r.2 := rfl
  have hl2 := szAs_len s.2.r.2
  refine Fn.of_code Try.func94 rfl rfl HB.nil rfl rfl (HB.nil.data).data rfl (two_num rfl) ?_
  refine ACode.seq ?_
  refine ACode.region ?_
  refine .cons (St1.boxP rfl rfl rfl rfl rfl rfl) ?_
  refine .cons (.al 102 [.string ByteArray.empty, .slice none 0 0, .int .i64 0, .int .i64 0, .slice none 0 0, .int .i64 0, .string ByteArray.empty, .slice none 0 0, .slice none 0 0] rfl rfl rfl) ?_
  refine .nil ?_
  refine ks_n ?_
  refine ACode.seq ?_
  refine ACode.drawK (by kernel_rfl) (by kernel_rfl) ?_
  refine .cons (.fP 0 1 true rfl rfl) ?_
  refine .cons (.lN 2 rfl rfl rfl) ?_
  refine .cons (.cO [.tmp 4] [(101, 605)] rfl rfl rfl rfl (l3CopyAcc_own s.1 h1 (by omega) (fun x hx => by have := szAs_mem hx; omega)) rfl trivial flatS.nil (flatS.nil.cons rfl) HB.nil.data outS_one) ?_
  refine .cons (.fP 2 6 true rfl rfl) ?_
  refine .cons (.lN 7 rfl rfl rfl) ?_
  refine .cons (.cO [.tmp 7] [(101, 708)] rfl rfl rfl rfl (l3CopyEx_own s.2 (by omega) (by omega) (fun x hx => by have := szAs_mem hx; omega) (by omega) (fun x hx => by have := szEs_mem hx; omega) h0) rfl trivial flatS.nil (flatS.nil.cons rfl) HB.nil.data outS_one) ?_
  refine .cons (.bu [(0, .tmp 5), (1, .tmp 8)] [(0, 2), (2, 7)] [.string ByteArray.empty, .slice none 0 0, .int .i64 0, .int .i64 0, .slice none 0 0, .int .i64 0, .string ByteArray.empty, .slice none 0 0, .slice none 0 0] rfl rfl rfl rfl rfl) ?_
  refine .cons (.sT 9 true rfl rfl rfl rfl rfl rfl rfl) ?_
  refine .nil ⟨by kernel_rfl, ?_⟩
  refine ks_n ?_
  refine ACode.ret ?_
  refine kf_wret [(.t 2, .v (.o (.c (.box 100 9 0 0)))), (.b 101, .b 28 2 (dR (s.1.2.map rA))), (.u 101, .u), (.b 102, .b 31 7 (dR (s.2.ks.map rE))), (.u 102, .u), (.b 100, .b 33 9 [[.d (dS s.1.1), .own 101 2 (s.1.2.length), .d (dI s.2.k), .d (dI s.2.n), .d (dIs s.2.i.1), .d (dI s.2.i.2), .d (dS s.2.r.1), .d (dAs s.2.r.2), .own 102 7 (s.2.ks.length)]]), (.u 100, .u)] (Wk.keep [(100, 102), (101, 605), (102, 708)] rfl rfl ⟨ks rfl (.c .bx), kb 605 rfl (.dt rfl), kb 708 rfl (.dt rfl), kb 102 rfl (.cons (.cons .dt (.cons .ow (.cons .dt (.cons .dt (.cons .dt (.cons .dt (.cons .dt (.cons .dt (.cons .ow Ctos.nil))))))))) .nil), trivial⟩) rfl ?_ (two_box rfl rfl)
  rfl

def setK (e : Ex) (k : Int) : Ex := .mk k e.n e.i e.r e.ks
def setN (e : Ex) (n : Int) : Ex := .mk e.k n e.i e.r e.ks
def addK (e : Ex) (x : Ex) : Ex := .mk e.k e.n e.i e.r (e.ks ++ [x])
/-- A statement, sometimes made invalid. -/
def mutD (bs : List Int) (p : Nat) (s : Stm) : Stm × Nat :=
  if pickV bs p 40 = 0 then (((ofV bs (p + 1) [⟨#[69]⟩, ByteArray.empty, ⟨#[65, 66]⟩, ⟨#[97]⟩], s.1.2), s.2), p + 1 + 1)
  else if pickV bs p 40 = 1 then (((s.1.1, s.1.2 ++ [varA 3, zA]), s.2), p + 1)
  else if pickV bs p 40 = 2 then ((s.1, setK s.2 (numV bs (p + 1) [0, 7, 1, 4, 2])), p + 1 + 1)
  else if pickV bs p 40 = 3 then ((s.1, setN s.2 (numV bs (p + 1) [100, -1, 1])), p + 1 + 1)
  else if pickV bs p 40 = 4 then ((s.1, addK s.2 (.mk 1 0 zA0 zC0 [])), p + 1)
  else (s, p + 1)

set_option maxRecDepth 100000 in
set_option maxHeartbeats 1600000 in
theorem mut_nil {bs : List Int} (hb : Bytes bs) {p : Nat} (hp : p ≤ 100000000) (s : Stm) (hs : szS s ≤ 1073741824) (h1 : 0 < s.1.2.length) (h0 : s.2.ks.length = 0) : Fn Try.prog 49 (hbR bs p) [vR, ad (rS s)] (.o (ad (rS (mutD bs p s).1))) (hbR bs (mutD bs p s).2) := by
  have hsz := hs
  rw [szS, szC] at hsz
  have hl := szAs_len s.1.2
  have hE := szE_eq s.2
  obtain ⟨r, hr⟩ : ∃ r, r = mutD bs p s := ⟨_, rfl⟩
  rw [← hr]
  have hR := hr
  unfold mutD at hR
  refine Fn.of_code Try.func49 rfl rfl (hbR_HB _ _) rfl rfl (hbR_HB _ _) rfl (hbR_num _ _ _) ?_
  refine ACode.seq ?_
  refine ACode.region ?_
  refine .cons (St1.boxP rfl rfl rfl rfl rfl rfl) ?_
  refine .cons (.al 104 [.string ByteArray.empty, .slice none 0 0, .int .i64 0, .int .i64 0, .slice none 0 0, .int .i64 0, .string ByteArray.empty, .slice none 0 0, .slice none 0 0] rfl rfl rfl) ?_
  refine .nil ?_
  refine ks_n ?_
  refine ACode.seq ?_
  refine ACode.region ?_
  refine .cons (.lN 9 rfl rfl rfl) ?_
  refine .cons (.cO [.tmp 6] [(101, 107)] rfl rfl rfl rfl (l3Copy_nil s hs h1 h0) rfl trivial flatS.nil (flatS.nil.cons rfl) HB.nil.data outS_one) ?_
  refine .cons (.al 105 [.string ByteArray.empty, .slice none 0 0, .int .i64 0, .int .i64 0, .slice none 0 0, .int .i64 0, .string ByteArray.empty, .slice none 0 0, .slice none 0 0] rfl rfl rfl) ?_
  refine .cons (.sT 9 true rfl rfl rfl rfl rfl rfl rfl) ?_
  refine .nil ?_
  refine ks_n ?_
  refine ACode.seq ?_
  refine ACode.seq ?_
  refine ACode.region ?_
  refine .cons (.mv rfl rfl) ?_
  refine .cons (.cR [.tmp 8, .const (.int .i64 (40))] 0 rfl rfl rfl rfl (pick_fn hb (by omega) 40) rfl ⟨rfl, trivial⟩) ?_
  refine .nil ?_
  refine ks_n ?_
  refine ACode.block ?_
  refine ACode.seq ?_
  refine ACode.region ?_
  refine .cons (.eq rfl rfl rfl) ?_
  refine .cons (.asg rfl rfl) ?_
  refine .nil ?_
  refine ks_n ?_
  refine .cD rfl (fun h10 => ?_) (fun h10 => ?_)
  · skip
    refine ACode.region ?_
    refine .cons (.mv rfl rfl) ?_
    refine .cons (.li 9 0 3 [.const (.string ⟨#[69]⟩), .const (.string ⟨#[]⟩), .const (.string ⟨#[65, 66]⟩), .const (.string ⟨#[97]⟩)] rfl rfl rfl rfl rfl rfl) ?_
    refine .cons (.cR [.tmp 12, .tmp 13] 0 rfl rfl rfl rfl (of_fn hb (by omega) [⟨#[69]⟩, ByteArray.empty, ⟨#[65, 66]⟩, ⟨#[97]⟩] (by simp)) rfl ⟨rfl, trivial⟩) ?_
    refine .cons (.fB 0 1 true rfl rfl rfl) ?_
    refine .cons (.fB 0 0 false rfl rfl rfl) ?_
    refine .cons (.sT 1 false rfl rfl rfl rfl rfl rfl rfl) ?_
    refine .nil ?_
    refine kb_n ?_
    refine ks_n ?_
    refine ACode.seq ?_
    refine ACode.region ?_
    refine .cons (.bN 9 rfl rfl rfl rfl rfl rfl) ?_
    refine .cons (.sT 9 true rfl rfl rfl rfl rfl rfl rfl) ?_
    refine .nil ?_
    refine ks_n ?_
    refine ACode.ret ?_
    first | rw [if_pos h10] at hR | rw [if_neg h10, if_pos h17] at hR | rw [if_neg h10, if_neg h17, if_pos h28] at hR | rw [if_neg h10, if_neg h17, if_neg h28, if_pos h35] at hR | rw [if_neg h10, if_neg h17, if_neg h28, if_neg h35, if_pos h42] at hR | rw [if_neg h10, if_neg h17, if_neg h28, if_neg h35, if_neg h42] at hR
    refine kf_wret [(.t 4, .v (.o (.c (.box 100 9 0 0)))), (.b 0, .b 113 2 (dR ([rRd bs r.2]))), (.u 0, .u), (.b 100, .b 33 9 [[.d (dS r.1.1.1), .d (dAs r.1.1.2), .d (dI r.1.2.k), .d (dI r.1.2.n), .d (dIs r.1.2.i.1), .d (dI r.1.2.i.2), .d (dS r.1.2.r.1), .d (dAs r.1.2.r.2), .d (dEs r.1.2.ks)]]), (.u 100, .u)] (Wk.keep [(0, 0), (100, 104)] rfl rfl ⟨ks rfl (.c .bx), kb 0 rfl (.dt rfl (by first | rfl | (rw [hR]; done) | (rw [hR]; rfl))), kb 104 rfl (.cons (.cons (.dt (by first | rfl | (rw [hR]; done) | (rw [hR]; rfl))) (.cons (.fz rfl (by first | (rw [hR]; exact (dR_app _ [rA (varA 3), rA zA]).trans (by rw [List.map_append]; rfl)) | (rw [hR]; show _ = dR ((s.2.ks ++ [_]).map rE); rw [List.map_append, rE_one, ← dR_app]; rfl) | (rw [hR]; show _ = dR ((s.2.ks ++ [_]).map rE); rw [List.eq_nil_of_length_eq_zero h0, List.nil_append, rE_one]; rfl) | (rw [hR]; done) | (rw [hR]; rfl) | (rw [hR]; simp [dR]; done) | (rw [hR]; simp [dR]; rfl) | (rw [hR]; rw [dR_app]; simp; done) | (rw [hR]; simp [setK, setN]; rfl)) (by first | (rw [hR]; show _ = ((s.2.ks ++ [_]).map rE).length; rw [List.length_map, List.length_append]; first | rfl | (rw [h0]; rfl)) | (rw [hR]; rfl) | (rw [hR]; simp; done) | (rw [hR]; simp; rfl) | (rw [hR]; simp [setK, setN, addK, Ex.ks]; done)) (by first | omega | (simp; done) | (simp; omega))) (.cons (.dt (by first | rfl | (rw [hR]; done) | (rw [hR]; rfl))) (.cons (.dt (by first | rfl | (rw [hR]; done) | (rw [hR]; rfl))) (.cons (.dt (by first | rfl | (rw [hR]; done) | (rw [hR]; rfl))) (.cons (.dt (by first | rfl | (rw [hR]; done) | (rw [hR]; rfl))) (.cons (.dt (by first | rfl | (rw [hR]; done) | (rw [hR]; rfl))) (.cons (.dt (by first | rfl | (rw [hR]; done) | (rw [hR]; rfl))) (.cons (Cto.nilE 7 (by first | (rw [hR]; done) | (rw [hR]; rfl) | (rw [hR]; show dEs s.2.ks = _; rw [List.eq_nil_of_length_eq_zero h0]; rfl))) Ctos.nil))))))))) .nil), trivial⟩) rfl ?_ (hbR_box rfl)
    rfl
  · skip
    refine ACode.seq ?_
    refine ACode.region ?_
    refine .cons (.eq rfl rfl rfl) ?_
    refine .cons (.asg rfl rfl) ?_
    refine .nil ?_
    refine ks_n ?_
    refine .cD rfl (fun h17 => ?_) (fun h17 => ?_)
    · skip
      refine ACode.drawK (by kernel_rfl) (by kernel_rfl) ?_
      refine .cons (.fB 0 1 true rfl rfl rfl) ?_
      refine .cons (.fB 1 0 false rfl rfl rfl) ?_
      refine .cons (.b1 1 rfl rfl rfl rfl rfl rfl) ?_
      refine .cons (.cP [.const (.int .i64 (3))] rfl rfl rfl rfl (l1Var_fn 3 (by omega)) rfl) ?_
      refine .cons (.cP [] rfl rfl rfl rfl (l1Zero_fn) rfl) ?_
      refine .cons (.li 28 1 1 [.tmp 22, .tmp 23] rfl rfl rfl rfl rfl rfl) ?_
      refine .cons (St1.appB (k' := 125) (e := 28) (sz := 1) (by' := 32) rfl rfl rfl rfl rfl (by kernel_rfl) rfl rfl rfl rfl (by simp [dR]) (by simp [dR]; omega) rfl rfl rfl) ?_
      refine .cons (.fB 0 1 true rfl rfl rfl) ?_
      refine .cons (.fB 1 0 false rfl rfl rfl) ?_
      refine .cons (.sT 1 false rfl rfl rfl rfl rfl rfl rfl) ?_
      refine .nil ⟨by kernel_rfl, ?_⟩
      refine kb_n ?_
      refine ks_n ?_
      refine ACode.seq ?_
      refine ACode.region ?_
      refine .cons (.bN 9 rfl rfl rfl rfl rfl rfl) ?_
      refine .cons (.sT 9 true rfl rfl rfl rfl rfl rfl rfl) ?_
      refine .nil ?_
      refine ks_n ?_
      refine ACode.ret ?_
      first | rw [if_pos h10] at hR | rw [if_neg h10, if_pos h17] at hR | rw [if_neg h10, if_neg h17, if_pos h28] at hR | rw [if_neg h10, if_neg h17, if_neg h28, if_pos h35] at hR | rw [if_neg h10, if_neg h17, if_neg h28, if_neg h35, if_pos h42] at hR | rw [if_neg h10, if_neg h17, if_neg h28, if_neg h35, if_neg h42] at hR
      refine kf_wret [(.t 4, .v (.o (.c (.box 100 9 0 0)))), (.b 0, .b 113 2 (dR ([rRd bs r.2]))), (.u 0, .u), (.b 100, .b 33 9 [[.d (dS r.1.1.1), .d (dAs r.1.1.2), .d (dI r.1.2.k), .d (dI r.1.2.n), .d (dIs r.1.2.i.1), .d (dI r.1.2.i.2), .d (dS r.1.2.r.1), .d (dAs r.1.2.r.2), .d (dEs r.1.2.ks)]]), (.u 100, .u)] (Wk.keep [(0, 0), (100, 104)] rfl rfl ⟨ks rfl (.c .bx), kb 0 rfl (.dt rfl (by first | rfl | (rw [hR]; done) | (rw [hR]; rfl))), kb 104 rfl (.cons (.cons (.dt (by first | rfl | (rw [hR]; done) | (rw [hR]; rfl))) (.cons (.fz rfl (by first | (rw [hR]; exact (dR_app _ [rA (varA 3), rA zA]).trans (by rw [List.map_append]; rfl)) | (rw [hR]; show _ = dR ((s.2.ks ++ [_]).map rE); rw [List.map_append, rE_one, ← dR_app]; rfl) | (rw [hR]; show _ = dR ((s.2.ks ++ [_]).map rE); rw [List.eq_nil_of_length_eq_zero h0, List.nil_append, rE_one]; rfl) | (rw [hR]; done) | (rw [hR]; rfl) | (rw [hR]; simp [dR]; done) | (rw [hR]; simp [dR]; rfl) | (rw [hR]; rw [dR_app]; simp; done) | (rw [hR]; simp [setK, setN]; rfl)) (by first | (rw [hR]; show _ = ((s.2.ks ++ [_]).map rE).length; rw [List.length_map, List.length_append]; first | rfl | (rw [h0]; rfl)) | (rw [hR]; rfl) | (rw [hR]; simp; done) | (rw [hR]; simp; rfl) | (rw [hR]; simp [setK, setN, addK, Ex.ks]; done)) (by first | omega | (simp; done) | (simp; omega))) (.cons (.dt (by first | rfl | (rw [hR]; done) | (rw [hR]; rfl))) (.cons (.dt (by first | rfl | (rw [hR]; done) | (rw [hR]; rfl))) (.cons (.dt (by first | rfl | (rw [hR]; done) | (rw [hR]; rfl))) (.cons (.dt (by first | rfl | (rw [hR]; done) | (rw [hR]; rfl))) (.cons (.dt (by first | rfl | (rw [hR]; done) | (rw [hR]; rfl))) (.cons (.dt (by first | rfl | (rw [hR]; done) | (rw [hR]; rfl))) (.cons (Cto.nilE 7 (by first | (rw [hR]; done) | (rw [hR]; rfl) | (rw [hR]; show dEs s.2.ks = _; rw [List.eq_nil_of_length_eq_zero h0]; rfl))) Ctos.nil))))))))) .nil), trivial⟩) rfl ?_ (hbR_box rfl)
      rfl
    · skip
      refine ACode.seq ?_
      refine ACode.region ?_
      refine .cons (.eq rfl rfl rfl) ?_
      refine .cons (.asg rfl rfl) ?_
      refine .nil ?_
      refine ks_n ?_
      refine .cD rfl (fun h28 => ?_) (fun h28 => ?_)
      · skip
        refine ACode.region ?_
        refine .cons (.mv rfl rfl) ?_
        refine .cons (.li 3 0 4 [.const (.int .i64 (0)), .const (.int .i64 (7)), .const (.int .i64 (1)), .const (.int .i64 (4)), .const (.int .i64 (2))] rfl rfl rfl rfl rfl rfl) ?_
        refine .cons (.cR [.tmp 30, .tmp 31] 0 rfl rfl rfl rfl (num_fn hb (by omega) [0, 7, 1, 4, 2] (by simp)) rfl ⟨rfl, trivial⟩) ?_
        refine .cons (.fB 2 6 true rfl rfl rfl) ?_
        refine .cons (.fB 0 0 false rfl rfl rfl) ?_
        refine .cons (.sT 1 false rfl rfl rfl rfl rfl rfl rfl) ?_
        refine .nil ?_
        refine kb_n ?_
        refine ks_n ?_
        refine ACode.seq ?_
        refine ACode.region ?_
        refine .cons (.bN 9 rfl rfl rfl rfl rfl rfl) ?_
        refine .cons (.sT 9 true rfl rfl rfl rfl rfl rfl rfl) ?_
        refine .nil ?_
        refine ks_n ?_
        refine ACode.ret ?_
        first | rw [if_pos h10] at hR | rw [if_neg h10, if_pos h17] at hR | rw [if_neg h10, if_neg h17, if_pos h28] at hR | rw [if_neg h10, if_neg h17, if_neg h28, if_pos h35] at hR | rw [if_neg h10, if_neg h17, if_neg h28, if_neg h35, if_pos h42] at hR | rw [if_neg h10, if_neg h17, if_neg h28, if_neg h35, if_neg h42] at hR
        refine kf_wret [(.t 4, .v (.o (.c (.box 100 9 0 0)))), (.b 0, .b 113 2 (dR ([rRd bs r.2]))), (.u 0, .u), (.b 100, .b 33 9 [[.d (dS r.1.1.1), .d (dAs r.1.1.2), .d (dI r.1.2.k), .d (dI r.1.2.n), .d (dIs r.1.2.i.1), .d (dI r.1.2.i.2), .d (dS r.1.2.r.1), .d (dAs r.1.2.r.2), .d (dEs r.1.2.ks)]]), (.u 100, .u)] (Wk.keep [(0, 0), (100, 104)] rfl rfl ⟨ks rfl (.c .bx), kb 0 rfl (.dt rfl (by first | rfl | (rw [hR]; done) | (rw [hR]; rfl))), kb 104 rfl (.cons (.cons (.dt (by first | rfl | (rw [hR]; done) | (rw [hR]; rfl))) (.cons (.fz rfl (by first | (rw [hR]; exact (dR_app _ [rA (varA 3), rA zA]).trans (by rw [List.map_append]; rfl)) | (rw [hR]; show _ = dR ((s.2.ks ++ [_]).map rE); rw [List.map_append, rE_one, ← dR_app]; rfl) | (rw [hR]; show _ = dR ((s.2.ks ++ [_]).map rE); rw [List.eq_nil_of_length_eq_zero h0, List.nil_append, rE_one]; rfl) | (rw [hR]; done) | (rw [hR]; rfl) | (rw [hR]; simp [dR]; done) | (rw [hR]; simp [dR]; rfl) | (rw [hR]; rw [dR_app]; simp; done) | (rw [hR]; simp [setK, setN]; rfl)) (by first | (rw [hR]; show _ = ((s.2.ks ++ [_]).map rE).length; rw [List.length_map, List.length_append]; first | rfl | (rw [h0]; rfl)) | (rw [hR]; rfl) | (rw [hR]; simp; done) | (rw [hR]; simp; rfl) | (rw [hR]; simp [setK, setN, addK, Ex.ks]; done)) (by first | omega | (simp; done) | (simp; omega))) (.cons (.dt (by first | rfl | (rw [hR]; done) | (rw [hR]; rfl))) (.cons (.dt (by first | rfl | (rw [hR]; done) | (rw [hR]; rfl))) (.cons (.dt (by first | rfl | (rw [hR]; done) | (rw [hR]; rfl))) (.cons (.dt (by first | rfl | (rw [hR]; done) | (rw [hR]; rfl))) (.cons (.dt (by first | rfl | (rw [hR]; done) | (rw [hR]; rfl))) (.cons (.dt (by first | rfl | (rw [hR]; done) | (rw [hR]; rfl))) (.cons (Cto.nilE 7 (by first | (rw [hR]; done) | (rw [hR]; rfl) | (rw [hR]; show dEs s.2.ks = _; rw [List.eq_nil_of_length_eq_zero h0]; rfl))) Ctos.nil))))))))) .nil), trivial⟩) rfl ?_ (hbR_box rfl)
        rfl
      · skip
        refine ACode.seq ?_
        refine ACode.region ?_
        refine .cons (.eq rfl rfl rfl) ?_
        refine .cons (.asg rfl rfl) ?_
        refine .nil ?_
        refine ks_n ?_
        refine .cD rfl (fun h35 => ?_) (fun h35 => ?_)
        · skip
          refine ACode.region ?_
          refine .cons (.mv rfl rfl) ?_
          refine .cons (.li 3 0 2 [.const (.int .i64 (100)), .const (.int .i64 (-1)), .const (.int .i64 (1))] rfl rfl rfl rfl rfl rfl) ?_
          refine .cons (.cR [.tmp 37, .tmp 38] 0 rfl rfl rfl rfl (num_fn hb (by omega) [100, -1, 1] (by simp)) rfl ⟨rfl, trivial⟩) ?_
          refine .cons (.fB 2 6 true rfl rfl rfl) ?_
          refine .cons (.fB 1 0 false rfl rfl rfl) ?_
          refine .cons (.sT 1 false rfl rfl rfl rfl rfl rfl rfl) ?_
          refine .nil ?_
          refine kb_n ?_
          refine ks_n ?_
          refine ACode.seq ?_
          refine ACode.region ?_
          refine .cons (.bN 9 rfl rfl rfl rfl rfl rfl) ?_
          refine .cons (.sT 9 true rfl rfl rfl rfl rfl rfl rfl) ?_
          refine .nil ?_
          refine ks_n ?_
          refine ACode.ret ?_
          first | rw [if_pos h10] at hR | rw [if_neg h10, if_pos h17] at hR | rw [if_neg h10, if_neg h17, if_pos h28] at hR | rw [if_neg h10, if_neg h17, if_neg h28, if_pos h35] at hR | rw [if_neg h10, if_neg h17, if_neg h28, if_neg h35, if_pos h42] at hR | rw [if_neg h10, if_neg h17, if_neg h28, if_neg h35, if_neg h42] at hR
          refine kf_wret [(.t 4, .v (.o (.c (.box 100 9 0 0)))), (.b 0, .b 113 2 (dR ([rRd bs r.2]))), (.u 0, .u), (.b 100, .b 33 9 [[.d (dS r.1.1.1), .d (dAs r.1.1.2), .d (dI r.1.2.k), .d (dI r.1.2.n), .d (dIs r.1.2.i.1), .d (dI r.1.2.i.2), .d (dS r.1.2.r.1), .d (dAs r.1.2.r.2), .d (dEs r.1.2.ks)]]), (.u 100, .u)] (Wk.keep [(0, 0), (100, 104)] rfl rfl ⟨ks rfl (.c .bx), kb 0 rfl (.dt rfl (by first | rfl | (rw [hR]; done) | (rw [hR]; rfl))), kb 104 rfl (.cons (.cons (.dt (by first | rfl | (rw [hR]; done) | (rw [hR]; rfl))) (.cons (.fz rfl (by first | (rw [hR]; exact (dR_app _ [rA (varA 3), rA zA]).trans (by rw [List.map_append]; rfl)) | (rw [hR]; show _ = dR ((s.2.ks ++ [_]).map rE); rw [List.map_append, rE_one, ← dR_app]; rfl) | (rw [hR]; show _ = dR ((s.2.ks ++ [_]).map rE); rw [List.eq_nil_of_length_eq_zero h0, List.nil_append, rE_one]; rfl) | (rw [hR]; done) | (rw [hR]; rfl) | (rw [hR]; simp [dR]; done) | (rw [hR]; simp [dR]; rfl) | (rw [hR]; rw [dR_app]; simp; done) | (rw [hR]; simp [setK, setN]; rfl)) (by first | (rw [hR]; show _ = ((s.2.ks ++ [_]).map rE).length; rw [List.length_map, List.length_append]; first | rfl | (rw [h0]; rfl)) | (rw [hR]; rfl) | (rw [hR]; simp; done) | (rw [hR]; simp; rfl) | (rw [hR]; simp [setK, setN, addK, Ex.ks]; done)) (by first | omega | (simp; done) | (simp; omega))) (.cons (.dt (by first | rfl | (rw [hR]; done) | (rw [hR]; rfl))) (.cons (.dt (by first | rfl | (rw [hR]; done) | (rw [hR]; rfl))) (.cons (.dt (by first | rfl | (rw [hR]; done) | (rw [hR]; rfl))) (.cons (.dt (by first | rfl | (rw [hR]; done) | (rw [hR]; rfl))) (.cons (.dt (by first | rfl | (rw [hR]; done) | (rw [hR]; rfl))) (.cons (.dt (by first | rfl | (rw [hR]; done) | (rw [hR]; rfl))) (.cons (Cto.nilE 7 (by first | (rw [hR]; done) | (rw [hR]; rfl) | (rw [hR]; show dEs s.2.ks = _; rw [List.eq_nil_of_length_eq_zero h0]; rfl))) Ctos.nil))))))))) .nil), trivial⟩) rfl ?_ (hbR_box rfl)
          rfl
        · skip
          refine ACode.seq ?_
          refine ACode.region ?_
          refine .cons (.eq rfl rfl rfl) ?_
          refine .cons (.asg rfl rfl) ?_
          refine .nil ?_
          refine ks_n ?_
          refine .cD rfl (fun h42 => ?_) (fun h42 => ?_)
          · skip
            refine ACode.region ?_
            refine .cons (.fB 2 6 true rfl rfl rfl) ?_
            refine .cons (.fB 6 0 false rfl rfl rfl) ?_
            refine .cons (.b1 1 rfl rfl rfl rfl rfl rfl) ?_
            refine .cons (.buZ [(0, .const (.int .i64 (1)))] [(0, 1), (1, 1), (2, 2), (4, 2), (6, 1)] [.int .i64 0, .int .i64 0, .slice none 0 0, .int .i64 0, .string ByteArray.empty, .slice none 0 0, .slice none 0 0] [dI 0, dI 0, .list 1 [], dI 0, dS ByteArray.empty, .list 2 [], .list 7 []] rfl rfl (.val rfl (.val rfl (.list _ (.val rfl (.val rfl (.list _ (.list _ ZR.nil))))))) rfl rfl) ?_
            refine .cons (.li 31 6 0 [.tmp 47] rfl rfl rfl rfl rfl rfl) ?_
            refine .cons (St1.appN (k' := 149) (e := 31) (sz := 6) (by' := 112) rfl rfl rfl rfl rfl (by kernel_rfl) rfl rfl rfl (by simp) (by simp) rfl rfl) ?_
            refine .cons (.fB 2 6 true rfl rfl rfl) ?_
            refine .cons (.fB 6 0 false rfl rfl rfl) ?_
            refine .cons (.sT 1 false rfl rfl rfl rfl rfl rfl rfl) ?_
            refine .nil ?_
            refine kb_n ?_
            refine ks_n ?_
            refine ACode.seq ?_
            refine ACode.region ?_
            refine .cons (.bN 9 rfl rfl rfl rfl rfl rfl) ?_
            refine .cons (.sT 9 true rfl rfl rfl rfl rfl rfl rfl) ?_
            refine .nil ?_
            refine ks_n ?_
            refine ACode.ret ?_
            first | rw [if_pos h10] at hR | rw [if_neg h10, if_pos h17] at hR | rw [if_neg h10, if_neg h17, if_pos h28] at hR | rw [if_neg h10, if_neg h17, if_neg h28, if_pos h35] at hR | rw [if_neg h10, if_neg h17, if_neg h28, if_neg h35, if_pos h42] at hR | rw [if_neg h10, if_neg h17, if_neg h28, if_neg h35, if_neg h42] at hR
            refine kf_wret [(.t 4, .v (.o (.c (.box 100 9 0 0)))), (.b 0, .b 113 2 (dR ([rRd bs r.2]))), (.u 0, .u), (.b 100, .b 33 9 [[.d (dS r.1.1.1), .d (dAs r.1.1.2), .d (dI r.1.2.k), .d (dI r.1.2.n), .d (dIs r.1.2.i.1), .d (dI r.1.2.i.2), .d (dS r.1.2.r.1), .d (dAs r.1.2.r.2), .d (dEs r.1.2.ks)]]), (.u 100, .u)] (Wk.keep [(0, 0), (100, 104)] rfl rfl ⟨ks rfl (.c .bx), kb 0 rfl (.dt rfl (by first | rfl | (rw [hR]; done) | (rw [hR]; rfl))), kb 104 rfl (.cons (.cons (.dt (by first | rfl | (rw [hR]; done) | (rw [hR]; rfl))) (.cons (.fz rfl (by first | (rw [hR]; exact (dR_app _ [rA (varA 3), rA zA]).trans (by rw [List.map_append]; rfl)) | (rw [hR]; show _ = dR ((s.2.ks ++ [_]).map rE); rw [List.map_append, rE_one, ← dR_app]; rfl) | (rw [hR]; show _ = dR ((s.2.ks ++ [_]).map rE); rw [List.eq_nil_of_length_eq_zero h0, List.nil_append, rE_one]; rfl) | (rw [hR]; done) | (rw [hR]; rfl) | (rw [hR]; simp [dR]; done) | (rw [hR]; simp [dR]; rfl) | (rw [hR]; rw [dR_app]; simp; done) | (rw [hR]; simp [setK, setN]; rfl)) (by first | (rw [hR]; show _ = ((s.2.ks ++ [_]).map rE).length; rw [List.length_map, List.length_append]; first | rfl | (rw [h0]; rfl)) | (rw [hR]; rfl) | (rw [hR]; simp; done) | (rw [hR]; simp; rfl) | (rw [hR]; simp [setK, setN, addK, Ex.ks]; done)) (by first | omega | (simp; done) | (simp; omega))) (.cons (.dt (by first | rfl | (rw [hR]; done) | (rw [hR]; rfl))) (.cons (.dt (by first | rfl | (rw [hR]; done) | (rw [hR]; rfl))) (.cons (.dt (by first | rfl | (rw [hR]; done) | (rw [hR]; rfl))) (.cons (.dt (by first | rfl | (rw [hR]; done) | (rw [hR]; rfl))) (.cons (.dt (by first | rfl | (rw [hR]; done) | (rw [hR]; rfl))) (.cons (.dt (by first | rfl | (rw [hR]; done) | (rw [hR]; rfl))) (.cons (.fz rfl (by first | (rw [hR]; exact (dR_app _ [rA (varA 3), rA zA]).trans (by rw [List.map_append]; rfl)) | (rw [hR]; show _ = dR ((s.2.ks ++ [_]).map rE); rw [List.map_append, rE_one, ← dR_app]; rfl) | (rw [hR]; show _ = dR ((s.2.ks ++ [_]).map rE); rw [List.eq_nil_of_length_eq_zero h0, List.nil_append, rE_one]; rfl) | (rw [hR]; done) | (rw [hR]; rfl) | (rw [hR]; simp [dR]; done) | (rw [hR]; simp [dR]; rfl) | (rw [hR]; rw [dR_app]; simp; done) | (rw [hR]; simp [setK, setN]; rfl)) (by first | (rw [hR]; show _ = ((s.2.ks ++ [_]).map rE).length; rw [List.length_map, List.length_append]; first | rfl | (rw [h0]; rfl)) | (rw [hR]; rfl) | (rw [hR]; simp; done) | (rw [hR]; simp; rfl) | (rw [hR]; simp [setK, setN, addK, Ex.ks]; done)) (by first | omega | (simp; done) | (simp; omega))) Ctos.nil))))))))) .nil), trivial⟩) rfl ?_ (hbR_box rfl)
            rfl
          · skip
            refine ACode.skip ?_
            refine kb_n ?_
            refine ks_n ?_
            refine ACode.seq ?_
            refine ACode.region ?_
            refine .cons (.bN 9 rfl rfl rfl rfl rfl rfl) ?_
            refine .cons (.sT 9 true rfl rfl rfl rfl rfl rfl rfl) ?_
            refine .nil ?_
            refine ks_n ?_
            refine ACode.ret ?_
            first | rw [if_pos h10] at hR | rw [if_neg h10, if_pos h17] at hR | rw [if_neg h10, if_neg h17, if_pos h28] at hR | rw [if_neg h10, if_neg h17, if_neg h28, if_pos h35] at hR | rw [if_neg h10, if_neg h17, if_neg h28, if_neg h35, if_pos h42] at hR | rw [if_neg h10, if_neg h17, if_neg h28, if_neg h35, if_neg h42] at hR
            refine kf_wret [(.t 4, .v (.o (.c (.box 100 9 0 0)))), (.b 0, .b 113 2 (dR ([rRd bs r.2]))), (.u 0, .u), (.b 100, .b 33 9 [[.d (dS r.1.1.1), .d (dAs r.1.1.2), .d (dI r.1.2.k), .d (dI r.1.2.n), .d (dIs r.1.2.i.1), .d (dI r.1.2.i.2), .d (dS r.1.2.r.1), .d (dAs r.1.2.r.2), .d (dEs r.1.2.ks)]]), (.u 100, .u)] (Wk.keep [(0, 0), (100, 104)] rfl rfl ⟨ks rfl (.c .bx), kb 0 rfl (.dt rfl (by first | rfl | (rw [hR]; done) | (rw [hR]; rfl))), kb 104 rfl (.cons (.cons (.dt (by first | rfl | (rw [hR]; done) | (rw [hR]; rfl))) (.cons (.fz rfl (by first | (rw [hR]; exact (dR_app _ [rA (varA 3), rA zA]).trans (by rw [List.map_append]; rfl)) | (rw [hR]; show _ = dR ((s.2.ks ++ [_]).map rE); rw [List.map_append, rE_one, ← dR_app]; rfl) | (rw [hR]; show _ = dR ((s.2.ks ++ [_]).map rE); rw [List.eq_nil_of_length_eq_zero h0, List.nil_append, rE_one]; rfl) | (rw [hR]; done) | (rw [hR]; rfl) | (rw [hR]; simp [dR]; done) | (rw [hR]; simp [dR]; rfl) | (rw [hR]; rw [dR_app]; simp; done) | (rw [hR]; simp [setK, setN]; rfl)) (by first | (rw [hR]; show _ = ((s.2.ks ++ [_]).map rE).length; rw [List.length_map, List.length_append]; first | rfl | (rw [h0]; rfl)) | (rw [hR]; rfl) | (rw [hR]; simp; done) | (rw [hR]; simp; rfl) | (rw [hR]; simp [setK, setN, addK, Ex.ks]; done)) (by first | omega | (simp; done) | (simp; omega))) (.cons (.dt (by first | rfl | (rw [hR]; done) | (rw [hR]; rfl))) (.cons (.dt (by first | rfl | (rw [hR]; done) | (rw [hR]; rfl))) (.cons (.dt (by first | rfl | (rw [hR]; done) | (rw [hR]; rfl))) (.cons (.dt (by first | rfl | (rw [hR]; done) | (rw [hR]; rfl))) (.cons (.dt (by first | rfl | (rw [hR]; done) | (rw [hR]; rfl))) (.cons (.dt (by first | rfl | (rw [hR]; done) | (rw [hR]; rfl))) (.cons (Cto.nilE 7 (by first | (rw [hR]; done) | (rw [hR]; rfl) | (rw [hR]; show dEs s.2.ks = _; rw [List.eq_nil_of_length_eq_zero h0]; rfl))) Ctos.nil))))))))) .nil), trivial⟩) rfl ?_ (hbR_box rfl)
            rfl

set_option maxRecDepth 100000 in
set_option maxHeartbeats 1600000 in
theorem mut_own {bs : List Int} (hb : Bytes bs) {p : Nat} (hp : p ≤ 100000000) (s : Stm) (hs : szS s ≤ 1073741824) (h1 : 0 < s.1.2.length) (h0 : 0 < s.2.ks.length) : Fn Try.prog 49 (hbR bs p) [vR, ad (rS s)] (.o (ad (rS (mutD bs p s).1))) (hbR bs (mutD bs p s).2) := by
  have hsz := hs
  rw [szS, szC] at hsz
  have hl := szAs_len s.1.2
  have hE := szE_eq s.2
  obtain ⟨r, hr⟩ : ∃ r, r = mutD bs p s := ⟨_, rfl⟩
  rw [← hr]
  have hR := hr
  unfold mutD at hR
  refine Fn.of_code Try.func49 rfl rfl (hbR_HB _ _) rfl rfl (hbR_HB _ _) rfl (hbR_num _ _ _) ?_
  refine ACode.seq ?_
  refine ACode.region ?_
  refine .cons (St1.boxP rfl rfl rfl rfl rfl rfl) ?_
  refine .cons (.al 104 [.string ByteArray.empty, .slice none 0 0, .int .i64 0, .int .i64 0, .slice none 0 0, .int .i64 0, .string ByteArray.empty, .slice none 0 0, .slice none 0 0] rfl rfl rfl) ?_
  refine .nil ?_
  refine ks_n ?_
  refine ACode.seq ?_
  refine ACode.region ?_
  refine .cons (.lN 9 rfl rfl rfl) ?_
  refine .cons (.cO [.tmp 6] [(101, 107), (102, 607)] rfl rfl rfl rfl (l3Copy_own s hs h1 h0) rfl trivial flatS.nil ((flatS.nil.cons rfl).cons rfl) (HB.nil.data).data outS_two) ?_
  refine .cons (.al 105 [.string ByteArray.empty, .slice none 0 0, .int .i64 0, .int .i64 0, .slice none 0 0, .int .i64 0, .string ByteArray.empty, .slice none 0 0, .slice none 0 0] rfl rfl rfl) ?_
  refine .cons (.sT 9 true rfl rfl rfl rfl rfl rfl rfl) ?_
  refine .nil ?_
  refine ks_n ?_
  refine ACode.seq ?_
  refine ACode.seq ?_
  refine ACode.region ?_
  refine .cons (.mv rfl rfl) ?_
  refine .cons (.cR [.tmp 8, .const (.int .i64 (40))] 0 rfl rfl rfl rfl (pick_fn hb (by omega) 40) rfl ⟨rfl, trivial⟩) ?_
  refine .nil ?_
  refine ks_n ?_
  refine ACode.block ?_
  refine ACode.seq ?_
  refine ACode.region ?_
  refine .cons (.eq rfl rfl rfl) ?_
  refine .cons (.asg rfl rfl) ?_
  refine .nil ?_
  refine ks_n ?_
  refine .cD rfl (fun h10 => ?_) (fun h10 => ?_)
  · skip
    refine ACode.region ?_
    refine .cons (.mv rfl rfl) ?_
    refine .cons (.li 9 0 3 [.const (.string ⟨#[69]⟩), .const (.string ⟨#[]⟩), .const (.string ⟨#[65, 66]⟩), .const (.string ⟨#[97]⟩)] rfl rfl rfl rfl rfl rfl) ?_
    refine .cons (.cR [.tmp 12, .tmp 13] 0 rfl rfl rfl rfl (of_fn hb (by omega) [⟨#[69]⟩, ByteArray.empty, ⟨#[65, 66]⟩, ⟨#[97]⟩] (by simp)) rfl ⟨rfl, trivial⟩) ?_
    refine .cons (.fB 0 1 true rfl rfl rfl) ?_
    refine .cons (.fB 0 0 false rfl rfl rfl) ?_
    refine .cons (.sT 1 false rfl rfl rfl rfl rfl rfl rfl) ?_
    refine .nil ?_
    refine kb_n ?_
    refine ks_n ?_
    refine ACode.seq ?_
    refine ACode.region ?_
    refine .cons (.bN 9 rfl rfl rfl rfl rfl rfl) ?_
    refine .cons (.sT 9 true rfl rfl rfl rfl rfl rfl rfl) ?_
    refine .nil ?_
    refine ks_n ?_
    refine ACode.ret ?_
    first | rw [if_pos h10] at hR | rw [if_neg h10, if_pos h17] at hR | rw [if_neg h10, if_neg h17, if_pos h28] at hR | rw [if_neg h10, if_neg h17, if_neg h28, if_pos h35] at hR | rw [if_neg h10, if_neg h17, if_neg h28, if_neg h35, if_pos h42] at hR | rw [if_neg h10, if_neg h17, if_neg h28, if_neg h35, if_neg h42] at hR
    refine kf_wret [(.t 4, .v (.o (.c (.box 100 9 0 0)))), (.b 0, .b 113 2 (dR ([rRd bs r.2]))), (.u 0, .u), (.b 100, .b 33 9 [[.d (dS r.1.1.1), .d (dAs r.1.1.2), .d (dI r.1.2.k), .d (dI r.1.2.n), .d (dIs r.1.2.i.1), .d (dI r.1.2.i.2), .d (dS r.1.2.r.1), .d (dAs r.1.2.r.2), .d (dEs r.1.2.ks)]]), (.u 100, .u)] (Wk.keep [(0, 0), (100, 104)] rfl rfl ⟨ks rfl (.c .bx), kb 0 rfl (.dt rfl (by first | rfl | (rw [hR]; done) | (rw [hR]; rfl))), kb 104 rfl (.cons (.cons (.dt (by first | rfl | (rw [hR]; done) | (rw [hR]; rfl))) (.cons (.fz rfl (by first | (rw [hR]; exact (dR_app _ [rA (varA 3), rA zA]).trans (by rw [List.map_append]; rfl)) | (rw [hR]; show _ = dR ((s.2.ks ++ [_]).map rE); rw [List.map_append, rE_one, ← dR_app]; rfl) | (rw [hR]; show _ = dR ((s.2.ks ++ [_]).map rE); rw [List.eq_nil_of_length_eq_zero h0, List.nil_append, rE_one]; rfl) | (rw [hR]; done) | (rw [hR]; rfl) | (rw [hR]; simp [dR]; done) | (rw [hR]; simp [dR]; rfl) | (rw [hR]; rw [dR_app]; simp; done) | (rw [hR]; simp [setK, setN]; rfl)) (by first | (rw [hR]; show _ = ((s.2.ks ++ [_]).map rE).length; rw [List.length_map, List.length_append]; first | rfl | (rw [h0]; rfl)) | (rw [hR]; rfl) | (rw [hR]; simp; done) | (rw [hR]; simp; rfl) | (rw [hR]; simp [setK, setN, addK, Ex.ks]; done)) (by first | omega | (simp; done) | (simp; omega))) (.cons (.dt (by first | rfl | (rw [hR]; done) | (rw [hR]; rfl))) (.cons (.dt (by first | rfl | (rw [hR]; done) | (rw [hR]; rfl))) (.cons (.dt (by first | rfl | (rw [hR]; done) | (rw [hR]; rfl))) (.cons (.dt (by first | rfl | (rw [hR]; done) | (rw [hR]; rfl))) (.cons (.dt (by first | rfl | (rw [hR]; done) | (rw [hR]; rfl))) (.cons (.dt (by first | rfl | (rw [hR]; done) | (rw [hR]; rfl))) (.cons (.fz rfl (by first | (rw [hR]; exact (dR_app _ [rA (varA 3), rA zA]).trans (by rw [List.map_append]; rfl)) | (rw [hR]; show _ = dR ((s.2.ks ++ [_]).map rE); rw [List.map_append, rE_one, ← dR_app]; rfl) | (rw [hR]; show _ = dR ((s.2.ks ++ [_]).map rE); rw [List.eq_nil_of_length_eq_zero h0, List.nil_append, rE_one]; rfl) | (rw [hR]; done) | (rw [hR]; rfl) | (rw [hR]; simp [dR]; done) | (rw [hR]; simp [dR]; rfl) | (rw [hR]; rw [dR_app]; simp; done) | (rw [hR]; simp [setK, setN]; rfl)) (by first | (rw [hR]; show _ = ((s.2.ks ++ [_]).map rE).length; rw [List.length_map, List.length_append]; first | rfl | (rw [h0]; rfl)) | (rw [hR]; rfl) | (rw [hR]; simp; done) | (rw [hR]; simp; rfl) | (rw [hR]; simp [setK, setN, addK, Ex.ks]; done)) (by first | omega | (simp; done) | (simp; omega))) Ctos.nil))))))))) .nil), trivial⟩) rfl ?_ (hbR_box rfl)
    rfl
  · skip
    refine ACode.seq ?_
    refine ACode.region ?_
    refine .cons (.eq rfl rfl rfl) ?_
    refine .cons (.asg rfl rfl) ?_
    refine .nil ?_
    refine ks_n ?_
    refine .cD rfl (fun h17 => ?_) (fun h17 => ?_)
    · skip
      refine ACode.drawK (by kernel_rfl) (by kernel_rfl) ?_
      refine .cons (.fB 0 1 true rfl rfl rfl) ?_
      refine .cons (.fB 1 0 false rfl rfl rfl) ?_
      refine .cons (.b1 1 rfl rfl rfl rfl rfl rfl) ?_
      refine .cons (.cP [.const (.int .i64 (3))] rfl rfl rfl rfl (l1Var_fn 3 (by omega)) rfl) ?_
      refine .cons (.cP [] rfl rfl rfl rfl (l1Zero_fn) rfl) ?_
      refine .cons (.li 28 1 1 [.tmp 22, .tmp 23] rfl rfl rfl rfl rfl rfl) ?_
      refine .cons (St1.appB (k' := 125) (e := 28) (sz := 1) (by' := 32) rfl rfl rfl rfl rfl (by kernel_rfl) rfl rfl rfl rfl (by simp [dR]) (by simp [dR]; omega) rfl rfl rfl) ?_
      refine .cons (.fB 0 1 true rfl rfl rfl) ?_
      refine .cons (.fB 1 0 false rfl rfl rfl) ?_
      refine .cons (.sT 1 false rfl rfl rfl rfl rfl rfl rfl) ?_
      refine .nil ⟨by kernel_rfl, ?_⟩
      refine kb_n ?_
      refine ks_n ?_
      refine ACode.seq ?_
      refine ACode.region ?_
      refine .cons (.bN 9 rfl rfl rfl rfl rfl rfl) ?_
      refine .cons (.sT 9 true rfl rfl rfl rfl rfl rfl rfl) ?_
      refine .nil ?_
      refine ks_n ?_
      refine ACode.ret ?_
      first | rw [if_pos h10] at hR | rw [if_neg h10, if_pos h17] at hR | rw [if_neg h10, if_neg h17, if_pos h28] at hR | rw [if_neg h10, if_neg h17, if_neg h28, if_pos h35] at hR | rw [if_neg h10, if_neg h17, if_neg h28, if_neg h35, if_pos h42] at hR | rw [if_neg h10, if_neg h17, if_neg h28, if_neg h35, if_neg h42] at hR
      refine kf_wret [(.t 4, .v (.o (.c (.box 100 9 0 0)))), (.b 0, .b 113 2 (dR ([rRd bs r.2]))), (.u 0, .u), (.b 100, .b 33 9 [[.d (dS r.1.1.1), .d (dAs r.1.1.2), .d (dI r.1.2.k), .d (dI r.1.2.n), .d (dIs r.1.2.i.1), .d (dI r.1.2.i.2), .d (dS r.1.2.r.1), .d (dAs r.1.2.r.2), .d (dEs r.1.2.ks)]]), (.u 100, .u)] (Wk.keep [(0, 0), (100, 104)] rfl rfl ⟨ks rfl (.c .bx), kb 0 rfl (.dt rfl (by first | rfl | (rw [hR]; done) | (rw [hR]; rfl))), kb 104 rfl (.cons (.cons (.dt (by first | rfl | (rw [hR]; done) | (rw [hR]; rfl))) (.cons (.fz rfl (by first | (rw [hR]; exact (dR_app _ [rA (varA 3), rA zA]).trans (by rw [List.map_append]; rfl)) | (rw [hR]; show _ = dR ((s.2.ks ++ [_]).map rE); rw [List.map_append, rE_one, ← dR_app]; rfl) | (rw [hR]; show _ = dR ((s.2.ks ++ [_]).map rE); rw [List.eq_nil_of_length_eq_zero h0, List.nil_append, rE_one]; rfl) | (rw [hR]; done) | (rw [hR]; rfl) | (rw [hR]; simp [dR]; done) | (rw [hR]; simp [dR]; rfl) | (rw [hR]; rw [dR_app]; simp; done) | (rw [hR]; simp [setK, setN]; rfl)) (by first | (rw [hR]; show _ = ((s.2.ks ++ [_]).map rE).length; rw [List.length_map, List.length_append]; first | rfl | (rw [h0]; rfl)) | (rw [hR]; rfl) | (rw [hR]; simp; done) | (rw [hR]; simp; rfl) | (rw [hR]; simp [setK, setN, addK, Ex.ks]; done)) (by first | omega | (simp; done) | (simp; omega))) (.cons (.dt (by first | rfl | (rw [hR]; done) | (rw [hR]; rfl))) (.cons (.dt (by first | rfl | (rw [hR]; done) | (rw [hR]; rfl))) (.cons (.dt (by first | rfl | (rw [hR]; done) | (rw [hR]; rfl))) (.cons (.dt (by first | rfl | (rw [hR]; done) | (rw [hR]; rfl))) (.cons (.dt (by first | rfl | (rw [hR]; done) | (rw [hR]; rfl))) (.cons (.dt (by first | rfl | (rw [hR]; done) | (rw [hR]; rfl))) (.cons (.fz rfl (by first | (rw [hR]; exact (dR_app _ [rA (varA 3), rA zA]).trans (by rw [List.map_append]; rfl)) | (rw [hR]; show _ = dR ((s.2.ks ++ [_]).map rE); rw [List.map_append, rE_one, ← dR_app]; rfl) | (rw [hR]; show _ = dR ((s.2.ks ++ [_]).map rE); rw [List.eq_nil_of_length_eq_zero h0, List.nil_append, rE_one]; rfl) | (rw [hR]; done) | (rw [hR]; rfl) | (rw [hR]; simp [dR]; done) | (rw [hR]; simp [dR]; rfl) | (rw [hR]; rw [dR_app]; simp; done) | (rw [hR]; simp [setK, setN]; rfl)) (by first | (rw [hR]; show _ = ((s.2.ks ++ [_]).map rE).length; rw [List.length_map, List.length_append]; first | rfl | (rw [h0]; rfl)) | (rw [hR]; rfl) | (rw [hR]; simp; done) | (rw [hR]; simp; rfl) | (rw [hR]; simp [setK, setN, addK, Ex.ks]; done)) (by first | omega | (simp; done) | (simp; omega))) Ctos.nil))))))))) .nil), trivial⟩) rfl ?_ (hbR_box rfl)
      rfl
    · skip
      refine ACode.seq ?_
      refine ACode.region ?_
      refine .cons (.eq rfl rfl rfl) ?_
      refine .cons (.asg rfl rfl) ?_
      refine .nil ?_
      refine ks_n ?_
      refine .cD rfl (fun h28 => ?_) (fun h28 => ?_)
      · skip
        refine ACode.region ?_
        refine .cons (.mv rfl rfl) ?_
        refine .cons (.li 3 0 4 [.const (.int .i64 (0)), .const (.int .i64 (7)), .const (.int .i64 (1)), .const (.int .i64 (4)), .const (.int .i64 (2))] rfl rfl rfl rfl rfl rfl) ?_
        refine .cons (.cR [.tmp 30, .tmp 31] 0 rfl rfl rfl rfl (num_fn hb (by omega) [0, 7, 1, 4, 2] (by simp)) rfl ⟨rfl, trivial⟩) ?_
        refine .cons (.fB 2 6 true rfl rfl rfl) ?_
        refine .cons (.fB 0 0 false rfl rfl rfl) ?_
        refine .cons (.sT 1 false rfl rfl rfl rfl rfl rfl rfl) ?_
        refine .nil ?_
        refine kb_n ?_
        refine ks_n ?_
        refine ACode.seq ?_
        refine ACode.region ?_
        refine .cons (.bN 9 rfl rfl rfl rfl rfl rfl) ?_
        refine .cons (.sT 9 true rfl rfl rfl rfl rfl rfl rfl) ?_
        refine .nil ?_
        refine ks_n ?_
        refine ACode.ret ?_
        first | rw [if_pos h10] at hR | rw [if_neg h10, if_pos h17] at hR | rw [if_neg h10, if_neg h17, if_pos h28] at hR | rw [if_neg h10, if_neg h17, if_neg h28, if_pos h35] at hR | rw [if_neg h10, if_neg h17, if_neg h28, if_neg h35, if_pos h42] at hR | rw [if_neg h10, if_neg h17, if_neg h28, if_neg h35, if_neg h42] at hR
        refine kf_wret [(.t 4, .v (.o (.c (.box 100 9 0 0)))), (.b 0, .b 113 2 (dR ([rRd bs r.2]))), (.u 0, .u), (.b 100, .b 33 9 [[.d (dS r.1.1.1), .d (dAs r.1.1.2), .d (dI r.1.2.k), .d (dI r.1.2.n), .d (dIs r.1.2.i.1), .d (dI r.1.2.i.2), .d (dS r.1.2.r.1), .d (dAs r.1.2.r.2), .d (dEs r.1.2.ks)]]), (.u 100, .u)] (Wk.keep [(0, 0), (100, 104)] rfl rfl ⟨ks rfl (.c .bx), kb 0 rfl (.dt rfl (by first | rfl | (rw [hR]; done) | (rw [hR]; rfl))), kb 104 rfl (.cons (.cons (.dt (by first | rfl | (rw [hR]; done) | (rw [hR]; rfl))) (.cons (.fz rfl (by first | (rw [hR]; exact (dR_app _ [rA (varA 3), rA zA]).trans (by rw [List.map_append]; rfl)) | (rw [hR]; show _ = dR ((s.2.ks ++ [_]).map rE); rw [List.map_append, rE_one, ← dR_app]; rfl) | (rw [hR]; show _ = dR ((s.2.ks ++ [_]).map rE); rw [List.eq_nil_of_length_eq_zero h0, List.nil_append, rE_one]; rfl) | (rw [hR]; done) | (rw [hR]; rfl) | (rw [hR]; simp [dR]; done) | (rw [hR]; simp [dR]; rfl) | (rw [hR]; rw [dR_app]; simp; done) | (rw [hR]; simp [setK, setN]; rfl)) (by first | (rw [hR]; show _ = ((s.2.ks ++ [_]).map rE).length; rw [List.length_map, List.length_append]; first | rfl | (rw [h0]; rfl)) | (rw [hR]; rfl) | (rw [hR]; simp; done) | (rw [hR]; simp; rfl) | (rw [hR]; simp [setK, setN, addK, Ex.ks]; done)) (by first | omega | (simp; done) | (simp; omega))) (.cons (.dt (by first | rfl | (rw [hR]; done) | (rw [hR]; rfl))) (.cons (.dt (by first | rfl | (rw [hR]; done) | (rw [hR]; rfl))) (.cons (.dt (by first | rfl | (rw [hR]; done) | (rw [hR]; rfl))) (.cons (.dt (by first | rfl | (rw [hR]; done) | (rw [hR]; rfl))) (.cons (.dt (by first | rfl | (rw [hR]; done) | (rw [hR]; rfl))) (.cons (.dt (by first | rfl | (rw [hR]; done) | (rw [hR]; rfl))) (.cons (.fz rfl (by first | (rw [hR]; exact (dR_app _ [rA (varA 3), rA zA]).trans (by rw [List.map_append]; rfl)) | (rw [hR]; show _ = dR ((s.2.ks ++ [_]).map rE); rw [List.map_append, rE_one, ← dR_app]; rfl) | (rw [hR]; show _ = dR ((s.2.ks ++ [_]).map rE); rw [List.eq_nil_of_length_eq_zero h0, List.nil_append, rE_one]; rfl) | (rw [hR]; done) | (rw [hR]; rfl) | (rw [hR]; simp [dR]; done) | (rw [hR]; simp [dR]; rfl) | (rw [hR]; rw [dR_app]; simp; done) | (rw [hR]; simp [setK, setN]; rfl)) (by first | (rw [hR]; show _ = ((s.2.ks ++ [_]).map rE).length; rw [List.length_map, List.length_append]; first | rfl | (rw [h0]; rfl)) | (rw [hR]; rfl) | (rw [hR]; simp; done) | (rw [hR]; simp; rfl) | (rw [hR]; simp [setK, setN, addK, Ex.ks]; done)) (by first | omega | (simp; done) | (simp; omega))) Ctos.nil))))))))) .nil), trivial⟩) rfl ?_ (hbR_box rfl)
        rfl
      · skip
        refine ACode.seq ?_
        refine ACode.region ?_
        refine .cons (.eq rfl rfl rfl) ?_
        refine .cons (.asg rfl rfl) ?_
        refine .nil ?_
        refine ks_n ?_
        refine .cD rfl (fun h35 => ?_) (fun h35 => ?_)
        · skip
          refine ACode.region ?_
          refine .cons (.mv rfl rfl) ?_
          refine .cons (.li 3 0 2 [.const (.int .i64 (100)), .const (.int .i64 (-1)), .const (.int .i64 (1))] rfl rfl rfl rfl rfl rfl) ?_
          refine .cons (.cR [.tmp 37, .tmp 38] 0 rfl rfl rfl rfl (num_fn hb (by omega) [100, -1, 1] (by simp)) rfl ⟨rfl, trivial⟩) ?_
          refine .cons (.fB 2 6 true rfl rfl rfl) ?_
          refine .cons (.fB 1 0 false rfl rfl rfl) ?_
          refine .cons (.sT 1 false rfl rfl rfl rfl rfl rfl rfl) ?_
          refine .nil ?_
          refine kb_n ?_
          refine ks_n ?_
          refine ACode.seq ?_
          refine ACode.region ?_
          refine .cons (.bN 9 rfl rfl rfl rfl rfl rfl) ?_
          refine .cons (.sT 9 true rfl rfl rfl rfl rfl rfl rfl) ?_
          refine .nil ?_
          refine ks_n ?_
          refine ACode.ret ?_
          first | rw [if_pos h10] at hR | rw [if_neg h10, if_pos h17] at hR | rw [if_neg h10, if_neg h17, if_pos h28] at hR | rw [if_neg h10, if_neg h17, if_neg h28, if_pos h35] at hR | rw [if_neg h10, if_neg h17, if_neg h28, if_neg h35, if_pos h42] at hR | rw [if_neg h10, if_neg h17, if_neg h28, if_neg h35, if_neg h42] at hR
          refine kf_wret [(.t 4, .v (.o (.c (.box 100 9 0 0)))), (.b 0, .b 113 2 (dR ([rRd bs r.2]))), (.u 0, .u), (.b 100, .b 33 9 [[.d (dS r.1.1.1), .d (dAs r.1.1.2), .d (dI r.1.2.k), .d (dI r.1.2.n), .d (dIs r.1.2.i.1), .d (dI r.1.2.i.2), .d (dS r.1.2.r.1), .d (dAs r.1.2.r.2), .d (dEs r.1.2.ks)]]), (.u 100, .u)] (Wk.keep [(0, 0), (100, 104)] rfl rfl ⟨ks rfl (.c .bx), kb 0 rfl (.dt rfl (by first | rfl | (rw [hR]; done) | (rw [hR]; rfl))), kb 104 rfl (.cons (.cons (.dt (by first | rfl | (rw [hR]; done) | (rw [hR]; rfl))) (.cons (.fz rfl (by first | (rw [hR]; exact (dR_app _ [rA (varA 3), rA zA]).trans (by rw [List.map_append]; rfl)) | (rw [hR]; show _ = dR ((s.2.ks ++ [_]).map rE); rw [List.map_append, rE_one, ← dR_app]; rfl) | (rw [hR]; show _ = dR ((s.2.ks ++ [_]).map rE); rw [List.eq_nil_of_length_eq_zero h0, List.nil_append, rE_one]; rfl) | (rw [hR]; done) | (rw [hR]; rfl) | (rw [hR]; simp [dR]; done) | (rw [hR]; simp [dR]; rfl) | (rw [hR]; rw [dR_app]; simp; done) | (rw [hR]; simp [setK, setN]; rfl)) (by first | (rw [hR]; show _ = ((s.2.ks ++ [_]).map rE).length; rw [List.length_map, List.length_append]; first | rfl | (rw [h0]; rfl)) | (rw [hR]; rfl) | (rw [hR]; simp; done) | (rw [hR]; simp; rfl) | (rw [hR]; simp [setK, setN, addK, Ex.ks]; done)) (by first | omega | (simp; done) | (simp; omega))) (.cons (.dt (by first | rfl | (rw [hR]; done) | (rw [hR]; rfl))) (.cons (.dt (by first | rfl | (rw [hR]; done) | (rw [hR]; rfl))) (.cons (.dt (by first | rfl | (rw [hR]; done) | (rw [hR]; rfl))) (.cons (.dt (by first | rfl | (rw [hR]; done) | (rw [hR]; rfl))) (.cons (.dt (by first | rfl | (rw [hR]; done) | (rw [hR]; rfl))) (.cons (.dt (by first | rfl | (rw [hR]; done) | (rw [hR]; rfl))) (.cons (.fz rfl (by first | (rw [hR]; exact (dR_app _ [rA (varA 3), rA zA]).trans (by rw [List.map_append]; rfl)) | (rw [hR]; show _ = dR ((s.2.ks ++ [_]).map rE); rw [List.map_append, rE_one, ← dR_app]; rfl) | (rw [hR]; show _ = dR ((s.2.ks ++ [_]).map rE); rw [List.eq_nil_of_length_eq_zero h0, List.nil_append, rE_one]; rfl) | (rw [hR]; done) | (rw [hR]; rfl) | (rw [hR]; simp [dR]; done) | (rw [hR]; simp [dR]; rfl) | (rw [hR]; rw [dR_app]; simp; done) | (rw [hR]; simp [setK, setN]; rfl)) (by first | (rw [hR]; show _ = ((s.2.ks ++ [_]).map rE).length; rw [List.length_map, List.length_append]; first | rfl | (rw [h0]; rfl)) | (rw [hR]; rfl) | (rw [hR]; simp; done) | (rw [hR]; simp; rfl) | (rw [hR]; simp [setK, setN, addK, Ex.ks]; done)) (by first | omega | (simp; done) | (simp; omega))) Ctos.nil))))))))) .nil), trivial⟩) rfl ?_ (hbR_box rfl)
          rfl
        · skip
          refine ACode.seq ?_
          refine ACode.region ?_
          refine .cons (.eq rfl rfl rfl) ?_
          refine .cons (.asg rfl rfl) ?_
          refine .nil ?_
          refine ks_n ?_
          refine .cD rfl (fun h42 => ?_) (fun h42 => ?_)
          · skip
            refine ACode.region ?_
            refine .cons (.fB 2 6 true rfl rfl rfl) ?_
            refine .cons (.fB 6 0 false rfl rfl rfl) ?_
            refine .cons (.b1 1 rfl rfl rfl rfl rfl rfl) ?_
            refine .cons (.buZ [(0, .const (.int .i64 (1)))] [(0, 1), (1, 1), (2, 2), (4, 2), (6, 1)] [.int .i64 0, .int .i64 0, .slice none 0 0, .int .i64 0, .string ByteArray.empty, .slice none 0 0, .slice none 0 0] [dI 0, dI 0, .list 1 [], dI 0, dS ByteArray.empty, .list 2 [], .list 7 []] rfl rfl (.val rfl (.val rfl (.list _ (.val rfl (.val rfl (.list _ (.list _ ZR.nil))))))) rfl rfl) ?_
            refine .cons (.li 31 6 0 [.tmp 47] rfl rfl rfl rfl rfl rfl) ?_
            refine .cons (St1.appB (k' := 149) (e := 31) (sz := 6) (by' := 112) rfl rfl rfl rfl rfl (by kernel_rfl) rfl rfl rfl rfl (by simp [dR]) (by simp [dR]; omega) rfl rfl rfl) ?_
            refine .cons (.fB 2 6 true rfl rfl rfl) ?_
            refine .cons (.fB 6 0 false rfl rfl rfl) ?_
            refine .cons (.sT 1 false rfl rfl rfl rfl rfl rfl rfl) ?_
            refine .nil ?_
            refine kb_n ?_
            refine ks_n ?_
            refine ACode.seq ?_
            refine ACode.region ?_
            refine .cons (.bN 9 rfl rfl rfl rfl rfl rfl) ?_
            refine .cons (.sT 9 true rfl rfl rfl rfl rfl rfl rfl) ?_
            refine .nil ?_
            refine ks_n ?_
            refine ACode.ret ?_
            first | rw [if_pos h10] at hR | rw [if_neg h10, if_pos h17] at hR | rw [if_neg h10, if_neg h17, if_pos h28] at hR | rw [if_neg h10, if_neg h17, if_neg h28, if_pos h35] at hR | rw [if_neg h10, if_neg h17, if_neg h28, if_neg h35, if_pos h42] at hR | rw [if_neg h10, if_neg h17, if_neg h28, if_neg h35, if_neg h42] at hR
            refine kf_wret [(.t 4, .v (.o (.c (.box 100 9 0 0)))), (.b 0, .b 113 2 (dR ([rRd bs r.2]))), (.u 0, .u), (.b 100, .b 33 9 [[.d (dS r.1.1.1), .d (dAs r.1.1.2), .d (dI r.1.2.k), .d (dI r.1.2.n), .d (dIs r.1.2.i.1), .d (dI r.1.2.i.2), .d (dS r.1.2.r.1), .d (dAs r.1.2.r.2), .d (dEs r.1.2.ks)]]), (.u 100, .u)] (Wk.keep [(0, 0), (100, 104)] rfl rfl ⟨ks rfl (.c .bx), kb 0 rfl (.dt rfl (by first | rfl | (rw [hR]; done) | (rw [hR]; rfl))), kb 104 rfl (.cons (.cons (.dt (by first | rfl | (rw [hR]; done) | (rw [hR]; rfl))) (.cons (.fz rfl (by first | (rw [hR]; exact (dR_app _ [rA (varA 3), rA zA]).trans (by rw [List.map_append]; rfl)) | (rw [hR]; show _ = dR ((s.2.ks ++ [_]).map rE); rw [List.map_append, rE_one, ← dR_app]; rfl) | (rw [hR]; show _ = dR ((s.2.ks ++ [_]).map rE); rw [List.eq_nil_of_length_eq_zero h0, List.nil_append, rE_one]; rfl) | (rw [hR]; done) | (rw [hR]; rfl) | (rw [hR]; simp [dR]; done) | (rw [hR]; simp [dR]; rfl) | (rw [hR]; rw [dR_app]; simp; done) | (rw [hR]; simp [setK, setN]; rfl)) (by first | (rw [hR]; show _ = ((s.2.ks ++ [_]).map rE).length; rw [List.length_map, List.length_append]; first | rfl | (rw [h0]; rfl)) | (rw [hR]; rfl) | (rw [hR]; simp; done) | (rw [hR]; simp; rfl) | (rw [hR]; simp [setK, setN, addK, Ex.ks]; done)) (by first | omega | (simp; done) | (simp; omega))) (.cons (.dt (by first | rfl | (rw [hR]; done) | (rw [hR]; rfl))) (.cons (.dt (by first | rfl | (rw [hR]; done) | (rw [hR]; rfl))) (.cons (.dt (by first | rfl | (rw [hR]; done) | (rw [hR]; rfl))) (.cons (.dt (by first | rfl | (rw [hR]; done) | (rw [hR]; rfl))) (.cons (.dt (by first | rfl | (rw [hR]; done) | (rw [hR]; rfl))) (.cons (.dt (by first | rfl | (rw [hR]; done) | (rw [hR]; rfl))) (.cons (.fz rfl (by first | (rw [hR]; exact (dR_app _ [rA (varA 3), rA zA]).trans (by rw [List.map_append]; rfl)) | (rw [hR]; show _ = dR ((s.2.ks ++ [_]).map rE); rw [List.map_append, rE_one, ← dR_app]; rfl) | (rw [hR]; show _ = dR ((s.2.ks ++ [_]).map rE); rw [List.eq_nil_of_length_eq_zero h0, List.nil_append, rE_one]; rfl) | (rw [hR]; done) | (rw [hR]; rfl) | (rw [hR]; simp [dR]; done) | (rw [hR]; simp [dR]; rfl) | (rw [hR]; rw [dR_app]; simp; done) | (rw [hR]; simp [setK, setN]; rfl)) (by first | (rw [hR]; show _ = ((s.2.ks ++ [_]).map rE).length; rw [List.length_map, List.length_append]; first | rfl | (rw [h0]; rfl)) | (rw [hR]; rfl) | (rw [hR]; simp; done) | (rw [hR]; simp; rfl) | (rw [hR]; simp [setK, setN, addK, Ex.ks]; done)) (by first | omega | (simp; done) | (simp; omega))) Ctos.nil))))))))) .nil), trivial⟩) rfl ?_ (hbR_box rfl)
            rfl
          · skip
            refine ACode.skip ?_
            refine kb_n ?_
            refine ks_n ?_
            refine ACode.seq ?_
            refine ACode.region ?_
            refine .cons (.bN 9 rfl rfl rfl rfl rfl rfl) ?_
            refine .cons (.sT 9 true rfl rfl rfl rfl rfl rfl rfl) ?_
            refine .nil ?_
            refine ks_n ?_
            refine ACode.ret ?_
            first | rw [if_pos h10] at hR | rw [if_neg h10, if_pos h17] at hR | rw [if_neg h10, if_neg h17, if_pos h28] at hR | rw [if_neg h10, if_neg h17, if_neg h28, if_pos h35] at hR | rw [if_neg h10, if_neg h17, if_neg h28, if_neg h35, if_pos h42] at hR | rw [if_neg h10, if_neg h17, if_neg h28, if_neg h35, if_neg h42] at hR
            refine kf_wret [(.t 4, .v (.o (.c (.box 100 9 0 0)))), (.b 0, .b 113 2 (dR ([rRd bs r.2]))), (.u 0, .u), (.b 100, .b 33 9 [[.d (dS r.1.1.1), .d (dAs r.1.1.2), .d (dI r.1.2.k), .d (dI r.1.2.n), .d (dIs r.1.2.i.1), .d (dI r.1.2.i.2), .d (dS r.1.2.r.1), .d (dAs r.1.2.r.2), .d (dEs r.1.2.ks)]]), (.u 100, .u)] (Wk.keep [(0, 0), (100, 104)] rfl rfl ⟨ks rfl (.c .bx), kb 0 rfl (.dt rfl (by first | rfl | (rw [hR]; done) | (rw [hR]; rfl))), kb 104 rfl (.cons (.cons (.dt (by first | rfl | (rw [hR]; done) | (rw [hR]; rfl))) (.cons (.fz rfl (by first | (rw [hR]; exact (dR_app _ [rA (varA 3), rA zA]).trans (by rw [List.map_append]; rfl)) | (rw [hR]; show _ = dR ((s.2.ks ++ [_]).map rE); rw [List.map_append, rE_one, ← dR_app]; rfl) | (rw [hR]; show _ = dR ((s.2.ks ++ [_]).map rE); rw [List.eq_nil_of_length_eq_zero h0, List.nil_append, rE_one]; rfl) | (rw [hR]; done) | (rw [hR]; rfl) | (rw [hR]; simp [dR]; done) | (rw [hR]; simp [dR]; rfl) | (rw [hR]; rw [dR_app]; simp; done) | (rw [hR]; simp [setK, setN]; rfl)) (by first | (rw [hR]; show _ = ((s.2.ks ++ [_]).map rE).length; rw [List.length_map, List.length_append]; first | rfl | (rw [h0]; rfl)) | (rw [hR]; rfl) | (rw [hR]; simp; done) | (rw [hR]; simp; rfl) | (rw [hR]; simp [setK, setN, addK, Ex.ks]; done)) (by first | omega | (simp; done) | (simp; omega))) (.cons (.dt (by first | rfl | (rw [hR]; done) | (rw [hR]; rfl))) (.cons (.dt (by first | rfl | (rw [hR]; done) | (rw [hR]; rfl))) (.cons (.dt (by first | rfl | (rw [hR]; done) | (rw [hR]; rfl))) (.cons (.dt (by first | rfl | (rw [hR]; done) | (rw [hR]; rfl))) (.cons (.dt (by first | rfl | (rw [hR]; done) | (rw [hR]; rfl))) (.cons (.dt (by first | rfl | (rw [hR]; done) | (rw [hR]; rfl))) (.cons (.fz rfl (by first | (rw [hR]; exact (dR_app _ [rA (varA 3), rA zA]).trans (by rw [List.map_append]; rfl)) | (rw [hR]; show _ = dR ((s.2.ks ++ [_]).map rE); rw [List.map_append, rE_one, ← dR_app]; rfl) | (rw [hR]; show _ = dR ((s.2.ks ++ [_]).map rE); rw [List.eq_nil_of_length_eq_zero h0, List.nil_append, rE_one]; rfl) | (rw [hR]; done) | (rw [hR]; rfl) | (rw [hR]; simp [dR]; done) | (rw [hR]; simp [dR]; rfl) | (rw [hR]; rw [dR_app]; simp; done) | (rw [hR]; simp [setK, setN]; rfl)) (by first | (rw [hR]; show _ = ((s.2.ks ++ [_]).map rE).length; rw [List.length_map, List.length_append]; first | rfl | (rw [h0]; rfl)) | (rw [hR]; rfl) | (rw [hR]; simp; done) | (rw [hR]; simp; rfl) | (rw [hR]; simp [setK, setN, addK, Ex.ks]; done)) (by first | omega | (simp; done) | (simp; omega))) Ctos.nil))))))))) .nil), trivial⟩) rfl ?_ (hbR_box rfl)
            rfl

theorem l3Mutate_fn {bs : List Int} (hb : Bytes bs) {p : Nat} (hp : p ≤ 100000000) (s : Stm) (hs : szS s ≤ 1073741824) (h1 : 0 < s.1.2.length) : Fn Try.prog 49 (hbR bs p) [vR, ad (rS s)] (.o (ad (rS (mutD bs p s).1))) (hbR bs (mutD bs p s).2) := by
  by_cases h : s.2.ks.length = 0
  · exact mut_nil hb hp s hs h1 h
  · exact mut_own hb hp s hs h1 (by omega)

end Go.Proofs.Ytigdfdhjnadieaa

/- Statements: draws of the arguments of laws; condition: bytes. -/
namespace Go.Proofs.Ytigdfdhjnadieaa
set_option linter.unusedVariables false
set_option linter.unusedSimpArgs false
open Go.RowKit

theorem szA_mut (bs : List Int) (p : Nat) (s : Stm) : p ≤ (mutD bs p s).2 ∧ (mutD bs p s).2 ≤ p + 2 ∧ szS (mutD bs p s).1 ≤ szS s + 20 ∧ s.1.2.length ≤ (mutD bs p s).1.1.2.length := by
  have hE := szE_eq s.2
  have key : ∀ (a : List Ex) (x : Ex), szEs (a ++ [x]) = szEs a + szE x := by
    intro a x
    induction a with
    | nil => simp [szEs]
    | cons y a ih => rw [List.cons_append, szEs, szEs, ih]; omega
  unfold mutD
  split
  · refine ⟨by dsimp only; omega, by dsimp only; omega, ?_, Nat.le_refl _⟩
    have h := ofV_size bs (p + 1) [⟨#[69]⟩, ByteArray.empty, ⟨#[65, 66]⟩, ⟨#[97]⟩] (by decide)
    simp only [szS, szC]; omega
  · split
    · refine ⟨by dsimp only; omega, by dsimp only; omega, ?_, by simp⟩
      simp only [szS, szC, szAs, List.length_append, List.map_append, List.sum_append, List.length_cons, List.length_nil, List.map_cons, List.map_nil, List.sum_cons, List.sum_nil, varA, zA, List.length_set]; omega
    · split
      · refine ⟨by dsimp only; omega, by dsimp only; omega, ?_, Nat.le_refl _⟩
        simp only [szS, setK, szE_mk]; omega
      · split
        · refine ⟨by dsimp only; omega, by dsimp only; omega, ?_, Nat.le_refl _⟩
          simp only [szS, setN, szE_mk]; omega
        · split
          · refine ⟨by dsimp only; omega, by dsimp only; omega, ?_, Nat.le_refl _⟩
            have h0 : szC zC0 = 0 := by decide
            have h1 : zA0.1.length = 0 := rfl
            simp only [szS, addK, szE_mk, key, List.length_append, List.length_cons, List.length_nil, szEs, h0, h1]
            omega
          · exact ⟨by dsimp only; omega, by dsimp only; omega, by dsimp only; omega, Nat.le_refl _⟩
/-- A drawn statement with what the laws need of it. -/
theorem stm_ok {bs : List Int} (hb : Bytes bs) {d : Nat} (hd : d ≤ 4) {p : Nat} (hp : p ≤ 50000000) : ∃ (s : Stm) (q : Nat), p ≤ q ∧ q ≤ p + 300 ∧ szS s ≤ 300 ∧ 0 < s.1.2.length ∧ Fn Try.prog 50 (hbR bs p) [vR, nat1 (d : Nat)] (.o (ad (rS s))) (hbR bs q) := by
  obtain ⟨h1, h2, h3, h4⟩ := stmD_bd hb hd p (by omega)
  exact ⟨_, _, h1, by omega, by omega, h4, l3Stmt_fn hb (by omega) d hd⟩
theorem stmC_ok {bs : List Int} (hb : Bytes bs) {d : Nat} (hd : d ≤ 4) {p : Nat} (hp : p ≤ 50000000) : ∃ (s : Stm) (q : Nat), p ≤ q ∧ q ≤ p + 600 ∧ szS s ≤ 300 ∧ 0 < s.1.2.length ∧ Fn Try.prog 102 (hbR bs p) [vR, nat1 (d : Nat)] (.o (ad (rS s))) (hbR bs q) := by
  obtain ⟨h1, h2, h3, h4⟩ := stmC_bd hb hd p (by omega)
  exact ⟨_, _, h1, by omega, by omega, h4, l13Stmt_fn hb (by omega) d hd⟩
theorem mut_ok {bs : List Int} (hb : Bytes bs) {p : Nat} (hp : p ≤ 100000000) {s : Stm} {m : Nat} (hs : szS s ≤ m) (hm : m ≤ 1000000) (h1 : 0 < s.1.2.length) : ∃ (t : Stm) (q : Nat), p ≤ q ∧ q ≤ p + 2 ∧ szS t ≤ m + 20 ∧ 0 < t.1.2.length ∧ Fn Try.prog 49 (hbR bs p) [vR, ad (rS s)] (.o (ad (rS t))) (hbR bs q) := by
  obtain ⟨a1, a2, a3, a4⟩ := szA_mut bs p s
  exact ⟨_, _, a1, a2, by omega, by omega, l3Mutate_fn hb hp s (by omega) h1⟩
theorem pick4 {bs : List Int} (hb : Bytes bs) (p : Nat) (hp : p ≤ 1099511627776) : ∃ d : Nat, pickV bs p 4 = (d : Int) ∧ d ≤ 4 := by
  have h := pickV_bd hb hp 4
  have h2 := h.2 (by omega)
  exact ⟨(pickV bs p 4).toNat, by omega, by omega⟩

set_option maxRecDepth 100000 in
set_option maxHeartbeats 1600000 in
theorem drawSV_core {bs : List Int} (hb : Bytes (bs.take 2000)) {s t : Stm} {q q2 : Nat} {d : Nat} (hd : pickV (bs.take 2000) 0 4 = (d : Int)) (hq : q2 ≤ 1000000) (hF : Fn Try.prog 50 (hbR (bs.take 2000) 1) [vR, nat1 (d : Nat)] (.o (ad (rS s))) (hbR (bs.take 2000) q)) (hM : Fn Try.prog 49 (hbR (bs.take 2000) q) [vR, ad (rS s)] (.o (ad (rS t))) (hbR (bs.take 2000) q2)) : Fn Try.prog 15 [] [vD (dYs bs)] (.tup [ad (rS t), nat1 (numV (bs.take 2000) q2 [2, 1, 3, 0, 4, -1, 5])]) [] := by
  refine Fn.code0 Try.func15 rfl rfl rfl rfl ?_
  refine ACode.seq ?_
  refine ACode.region ?_
  refine .cons (.al 102 [.string ByteArray.empty, .slice none 0 0, .int .i64 0, .int .i64 0, .slice none 0 0, .int .i64 0, .string ByteArray.empty, .slice none 0 0, .slice none 0 0] rfl rfl rfl) ?_
  refine .cons (.asg rfl rfl) ?_
  refine .nil ?_
  refine ks_n ?_
  refine ACode.seq ?_
  refine ACode.region ?_
  refine .cons (.mv rfl rfl) ?_
  refine .cons (.cO [.tmp 6] [(100, 107)] rfl rfl rfl rfl (l16Open_fn bs) rfl trivial flatS.nil (flatS.nil.cons rfl) HB.nil.data outS_one) ?_
  refine .cons (.asg rfl rfl) ?_
  refine .nil ?_
  refine ks_n ?_
  refine ACode.seq ?_
  refine ACode.region ?_
  refine .cons (.mv rfl rfl) ?_
  refine .cons (.mv rfl rfl) ?_
  refine .cons (.mv rfl rfl) ?_
  refine .cons (.cR [.tmp 10, .const (.int .i64 (4))] 107 rfl rfl rfl rfl (hd ▸ pick_fn hb (p := 0) (by omega) 4) rfl ⟨rfl, trivial⟩) ?_
  refine .cons (.cR [.tmp 9, .tmp 11] 107 rfl rfl rfl rfl (hF) rfl ⟨rfl, trivial⟩) ?_
  refine .cons (.cR [.tmp 8, .tmp 12] 107 rfl rfl rfl rfl (hM) rfl ⟨rfl, trivial⟩) ?_
  refine .cons (.al 105 [.string ByteArray.empty, .slice none 0 0, .int .i64 0, .int .i64 0, .slice none 0 0, .int .i64 0, .string ByteArray.empty, .slice none 0 0, .slice none 0 0] rfl rfl rfl) ?_
  refine .cons (.sT 9 true rfl rfl rfl rfl rfl rfl rfl) ?_
  refine .nil ?_
  refine ks_n ?_
  refine ACode.seq ?_
  refine ACode.drawK (by kernel_rfl) (by kernel_rfl) ?_
  refine .cons (.bN 9 rfl rfl rfl rfl rfl rfl) ?_
  refine .cons (.mv rfl rfl) ?_
  refine .cons (.li 3 0 6 [.const (.int .i64 (2)), .const (.int .i64 (1)), .const (.int .i64 (3)), .const (.int .i64 (0)), .const (.int .i64 (4)), .const (.int .i64 (-1)), .const (.int .i64 (5))] rfl rfl rfl rfl rfl rfl) ?_
  refine .cons (.cR [.tmp 15, .tmp 16] 107 rfl rfl rfl rfl (num_fn hb (by omega) [2, 1, 3, 0, 4, -1, 5] (by simp)) rfl ⟨rfl, trivial⟩) ?_
  refine .cons (.sT 9 true rfl rfl rfl rfl rfl rfl rfl) ?_
  refine .cons (.asg rfl rfl) ?_
  refine .nil ⟨by kernel_rfl, ?_⟩
  refine ks_n ?_
  refine ACode.ret ?_
  refine kf_ret rfl ?_ nobox
  rfl

theorem drawSV_fn {bs : List Int} (hb : Bytes (bs.take 2000)) : ∃ (t : Stm) (d : Int), szS t ≤ 400 ∧ 0 < t.1.2.length ∧ (-1 ≤ d ∧ d ≤ 5) ∧ Fn Try.prog 15 [] [vD (dYs bs)] (.tup [ad (rS t), nat1 d]) [] := by
  obtain ⟨d, hd, hd4⟩ := pick4 hb 0 (by omega)
  obtain ⟨s, q, h1, h2, h3, h4, hF⟩ := stm_ok hb hd4 (p := 1) (by omega)
  obtain ⟨t, q2, g1, g2, g3, g4, hM⟩ := mut_ok hb (p := q) (by omega) h3 (by omega) h4
  have hm := numV_mem hb (p := q2) (by omega) (xs := [2, 1, 3, 0, 4, -1, 5]) (by simp)
  simp only [List.mem_cons, List.not_mem_nil, or_false] at hm
  exact ⟨t, _, by omega, g4, by omega, drawSV_core hb hd (by omega) hF hM⟩

set_option maxRecDepth 100000 in
set_option maxHeartbeats 1600000 in
theorem drawFS_core {bs : List Int} {t : Stm} {d : Int} (hD : Fn Try.prog 15 [] [vD (dYs bs)] (.tup [ad (rS t), nat1 d]) []) : Fn Try.prog 65 [] [vD (dYs bs)] (.o (ad (rS t))) [] := by
  refine Fn.code0 Try.func65 rfl rfl rfl rfl ?_
  refine ACode.seq ?_
  refine ACode.region ?_
  refine .cons (.al 102 [.string ByteArray.empty, .slice none 0 0, .int .i64 0, .int .i64 0, .slice none 0 0, .int .i64 0, .string ByteArray.empty, .slice none 0 0, .slice none 0 0] rfl rfl rfl) ?_
  refine .nil ?_
  refine ks_n ?_
  refine ACode.seq ?_
  refine ACode.region ?_
  refine .cons (.mv rfl rfl) ?_
  refine .cons (.cP [.tmp 6] rfl rfl rfl rfl (hD) rfl) ?_
  refine .cons (.mv rfl rfl) ?_
  refine .cons (.ex rfl rfl rfl) ?_
  refine .cons (.ex rfl rfl rfl) ?_
  refine .cons (.al 103 [.string ByteArray.empty, .slice none 0 0, .int .i64 0, .int .i64 0, .slice none 0 0, .int .i64 0, .string ByteArray.empty, .slice none 0 0, .slice none 0 0] rfl rfl rfl) ?_
  refine .cons (.sT 9 true rfl rfl rfl rfl rfl rfl rfl) ?_
  refine .cons (.asg rfl rfl) ?_
  refine .nil ?_
  refine ks_n ?_
  refine ACode.seq ?_
  refine ACode.region ?_
  refine .cons (.bN 9 rfl rfl rfl rfl rfl rfl) ?_
  refine .cons (.sT 9 true rfl rfl rfl rfl rfl rfl rfl) ?_
  refine .nil ?_
  refine ks_n ?_
  refine ACode.ret ?_
  refine kf_ret rfl ?_ nobox
  rfl

set_option maxRecDepth 100000 in
set_option maxHeartbeats 1600000 in
theorem drawSR_core {bs : List Int} {t : Stm} (hD : Fn Try.prog 65 [] [vD (dYs bs)] (.o (ad (rS t))) []) : Fn Try.prog 23 [] [vD (dYs bs)] (.o (ad (rS t))) [] := by
  refine Fn.code0 Try.func23 rfl rfl rfl rfl ?_
  refine ACode.seq ?_
  refine ACode.region ?_
  refine .cons (.al 102 [.string ByteArray.empty, .slice none 0 0, .int .i64 0, .int .i64 0, .slice none 0 0, .int .i64 0, .string ByteArray.empty, .slice none 0 0, .slice none 0 0] rfl rfl rfl) ?_
  refine .nil ?_
  refine ks_n ?_
  refine ACode.seq ?_
  refine ACode.region ?_
  refine .cons (.mv rfl rfl) ?_
  refine .cons (.cP [.tmp 3] rfl rfl rfl rfl (hD) rfl) ?_
  refine .cons (.sT 9 true rfl rfl rfl rfl rfl rfl rfl) ?_
  refine .nil ?_
  refine ks_n ?_
  refine ACode.ret ?_
  refine kf_ret rfl ?_ nobox
  rfl

set_option maxRecDepth 100000 in
set_option maxHeartbeats 1600000 in
theorem drawFo_core {bs : List Int} (hb : Bytes (bs.take 2000)) {s t : Stm} {q q2 : Nat} {d : Nat} (hd : pickV (bs.take 2000) 0 4 = (d : Int)) (hF : Fn Try.prog 102 (hbR (bs.take 2000) 1) [vR, nat1 (d : Nat)] (.o (ad (rS s))) (hbR (bs.take 2000) q)) (hM : Fn Try.prog 49 (hbR (bs.take 2000) q) [vR, ad (rS s)] (.o (ad (rS t))) (hbR (bs.take 2000) q2)) : Fn Try.prog 45 [] [vD (dYs bs)] (.o (ad (rS t))) [] := by
  refine Fn.code0 Try.func45 rfl rfl rfl rfl ?_
  refine ACode.seq ?_
  refine ACode.region ?_
  refine .cons (.al 102 [.string ByteArray.empty, .slice none 0 0, .int .i64 0, .int .i64 0, .slice none 0 0, .int .i64 0, .string ByteArray.empty, .slice none 0 0, .slice none 0 0] rfl rfl rfl) ?_
  refine .nil ?_
  refine ks_n ?_
  refine ACode.seq ?_
  refine ACode.region ?_
  refine .cons (.mv rfl rfl) ?_
  refine .cons (.cO [.tmp 4] [(100, 105)] rfl rfl rfl rfl (l16Open_fn bs) rfl trivial flatS.nil (flatS.nil.cons rfl) HB.nil.data outS_one) ?_
  refine .cons (.asg rfl rfl) ?_
  refine .nil ?_
  refine ks_n ?_
  refine ACode.seq ?_
  refine ACode.region ?_
  refine .cons (.mv rfl rfl) ?_
  refine .cons (.mv rfl rfl) ?_
  refine .cons (.mv rfl rfl) ?_
  refine .cons (.cR [.tmp 8, .const (.int .i64 (4))] 105 rfl rfl rfl rfl (hd ▸ pick_fn hb (p := 0) (by omega) 4) rfl ⟨rfl, trivial⟩) ?_
  refine .cons (.cR [.tmp 7, .tmp 9] 105 rfl rfl rfl rfl (hF) rfl ⟨rfl, trivial⟩) ?_
  refine .cons (.cR [.tmp 6, .tmp 10] 105 rfl rfl rfl rfl (hM) rfl ⟨rfl, trivial⟩) ?_
  refine .cons (.sT 9 true rfl rfl rfl rfl rfl rfl rfl) ?_
  refine .nil ?_
  refine ks_n ?_
  refine ACode.ret ?_
  refine kf_ret rfl ?_ nobox
  rfl

set_option maxRecDepth 100000 in
set_option maxHeartbeats 1600000 in
theorem drawCO_core {bs : List Int} {t : Stm} (hD : Fn Try.prog 45 [] [vD (dYs bs)] (.o (ad (rS t))) []) : Fn Try.prog 20 [] [vD (dYs bs)] (.o (ad (rS t))) [] := by
  refine Fn.code0 Try.func20 rfl rfl rfl rfl ?_
  refine ACode.seq ?_
  refine ACode.region ?_
  refine .cons (.al 102 [.string ByteArray.empty, .slice none 0 0, .int .i64 0, .int .i64 0, .slice none 0 0, .int .i64 0, .string ByteArray.empty, .slice none 0 0, .slice none 0 0] rfl rfl rfl) ?_
  refine .nil ?_
  refine ks_n ?_
  refine ACode.seq ?_
  refine ACode.region ?_
  refine .cons (.mv rfl rfl) ?_
  refine .cons (.cP [.tmp 3] rfl rfl rfl rfl (hD) rfl) ?_
  refine .cons (.sT 9 true rfl rfl rfl rfl rfl rfl rfl) ?_
  refine .nil ?_
  refine ks_n ?_
  refine ACode.ret ?_
  refine kf_ret rfl ?_ nobox
  rfl

theorem drawSR_fn {bs : List Int} (hb : Bytes (bs.take 2000)) : ∃ t : Stm, szS t ≤ 400 ∧ 0 < t.1.2.length ∧ Fn Try.prog 23 [] [vD (dYs bs)] (.o (ad (rS t))) [] := by
  obtain ⟨t, d, h1, h2, _, hD⟩ := drawSV_fn hb
  exact ⟨t, h1, h2, drawSR_core (drawFS_core hD)⟩
theorem drawFo_fn {bs : List Int} (hb : Bytes (bs.take 2000)) : ∃ t : Stm, szS t ≤ 400 ∧ 0 < t.1.2.length ∧ Fn Try.prog 45 [] [vD (dYs bs)] (.o (ad (rS t))) [] := by
  obtain ⟨d, hd, hd4⟩ := pick4 hb 0 (by omega)
  obtain ⟨s, q, h1, h2, h3, h4, hF⟩ := stmC_ok hb hd4 (p := 1) (by omega)
  obtain ⟨t, q2, g1, g2, g3, g4, hM⟩ := mut_ok hb (p := q) (by omega) h3 (by omega) h4
  exact ⟨t, by omega, g4, drawFo_core hb hd hF hM⟩

set_option maxRecDepth 100000 in
set_option maxHeartbeats 1600000 in
theorem drawSb_core {bs : List Int} (hb : Bytes (bs.take 2000)) {s t : Stm} {q q2 : Nat} {d : Nat} (hF : Fn Try.prog 50 (hbR (bs.take 2000) 0) [vR, nat1 3] (.o (ad (rS s))) (hbR (bs.take 2000) q)) (hM : Fn Try.prog 49 (hbR (bs.take 2000) q) [vR, ad (rS s)] (.o (ad (rS t))) (hbR (bs.take 2000) q2)) (hq : q2 ≤ 1000000) (hd : pickV (bs.take 2000) (q2 + 1) 4 = (d : Int)) (hd4 : d ≤ 4) : Fn Try.prog 30 [] [vD (dYs bs)] (.tup [ad (rS t), nat1 (numV (bs.take 2000) q2 [0, 1, 2, 3, -1, 4]), ad (rA (amD (bs.take 2000) (drD (bs.take 2000) (q2 + 1 + 1) d).2 (drD (bs.take 2000) (q2 + 1 + 1) d).1).1)]) [] := by
  have hl := drD_len (bs.take 2000) (q2 + 1 + 1) d
  refine Fn.code0 Try.func30 rfl rfl rfl rfl ?_
  refine ACode.seq ?_
  refine ACode.region ?_
  refine .cons (.al 102 [.string ByteArray.empty, .slice none 0 0, .int .i64 0, .int .i64 0, .slice none 0 0, .int .i64 0, .string ByteArray.empty, .slice none 0 0, .slice none 0 0] rfl rfl rfl) ?_
  refine .cons (.asg rfl rfl) ?_
  refine .cons (.al 104 [.slice none 0 0, .int .i64 0] rfl rfl rfl) ?_
  refine .nil ?_
  refine ks_n ?_
  refine ACode.seq ?_
  refine ACode.region ?_
  refine .cons (.mv rfl rfl) ?_
  refine .cons (.cO [.tmp 8] [(100, 109)] rfl rfl rfl rfl (l16Open_fn bs) rfl trivial flatS.nil (flatS.nil.cons rfl) HB.nil.data outS_one) ?_
  refine .cons (.asg rfl rfl) ?_
  refine .nil ?_
  refine ks_n ?_
  refine ACode.seq ?_
  refine ACode.region ?_
  refine .cons (.mv rfl rfl) ?_
  refine .cons (.mv rfl rfl) ?_
  refine .cons (.cR [.tmp 11, .const (.int .i64 (3))] 109 rfl rfl rfl rfl (hF) rfl ⟨rfl, trivial⟩) ?_
  refine .cons (.cR [.tmp 10, .tmp 12] 109 rfl rfl rfl rfl (hM) rfl ⟨rfl, trivial⟩) ?_
  refine .cons (.al 106 [.string ByteArray.empty, .slice none 0 0, .int .i64 0, .int .i64 0, .slice none 0 0, .int .i64 0, .string ByteArray.empty, .slice none 0 0, .slice none 0 0] rfl rfl rfl) ?_
  refine .cons (.sT 9 true rfl rfl rfl rfl rfl rfl rfl) ?_
  refine .nil ?_
  refine ks_n ?_
  refine ACode.seq ?_
  refine ACode.region ?_
  refine .cons (.mv rfl rfl) ?_
  refine .cons (.li 3 0 5 [.const (.int .i64 (0)), .const (.int .i64 (1)), .const (.int .i64 (2)), .const (.int .i64 (3)), .const (.int .i64 (-1)), .const (.int .i64 (4))] rfl rfl rfl rfl rfl rfl) ?_
  refine .cons (.cR [.tmp 14, .tmp 15] 109 rfl rfl rfl rfl (num_fn hb (by omega) [0, 1, 2, 3, -1, 4] (by simp)) rfl ⟨rfl, trivial⟩) ?_
  refine .cons (.asg rfl rfl) ?_
  refine .nil ?_
  refine ks_n ?_
  refine ACode.seq ?_
  refine ACode.drawK (by kernel_rfl) (by kernel_rfl) ?_
  refine .cons (.bN 9 rfl rfl rfl rfl rfl rfl) ?_
  refine .cons (.mv rfl rfl) ?_
  refine .cons (.mv rfl rfl) ?_
  refine .cons (.mv rfl rfl) ?_
  refine .cons (.mv rfl rfl) ?_
  refine .cons (.cR [.tmp 21, .const (.int .i64 (4))] 109 rfl rfl rfl rfl (hd ▸ pick_fn hb (by omega) 4) rfl ⟨rfl, trivial⟩) ?_
  refine .cons (.cR [.tmp 20, .tmp 22] 109 rfl rfl rfl rfl (l1Draw_fn hb (by omega) d hd4) rfl ⟨rfl, trivial⟩) ?_
  refine .cons (.cR [.tmp 19, .tmp 23] 109 rfl rfl rfl rfl (l1Mutate_fn hb (by omega) (by omega)) rfl ⟨rfl, trivial⟩) ?_
  refine .cons (.sT 9 true rfl rfl rfl rfl rfl rfl rfl) ?_
  refine .cons (.asg rfl rfl) ?_
  refine .cons (.sT 2 true rfl rfl rfl rfl rfl rfl rfl) ?_
  refine .nil ⟨by kernel_rfl, ?_⟩
  refine ks_n ?_
  refine ACode.ret ?_
  refine kf_ret rfl ?_ nobox
  rfl

theorem drawSb_fn {bs : List Int} (hb : Bytes (bs.take 2000)) : ∃ (t : Stm) (v : Int) (a : Aff), szS t ≤ 400 ∧ 0 < t.1.2.length ∧ (-1 ≤ v ∧ v ≤ 4) ∧ a.1.length ≤ 10 ∧ Fn Try.prog 30 [] [vD (dYs bs)] (.tup [ad (rS t), nat1 v, ad (rA a)]) [] := by
  obtain ⟨s, q, h1, h2, h3, h4, hF⟩ := stm_ok hb (d := 3) (by omega) (p := 0) (by omega)
  obtain ⟨t, q2, g1, g2, g3, g4, hM⟩ := mut_ok hb (p := q) (by omega) h3 (by omega) h4
  obtain ⟨d, hd, hd4⟩ := pick4 hb (q2 + 1) (by omega)
  have hm := numV_mem hb (p := q2) (by omega) (xs := [0, 1, 2, 3, -1, 4]) (by simp)
  simp only [List.mem_cons, List.not_mem_nil, or_false] at hm
  have hl := drD_len (bs.take 2000) (q2 + 1 + 1) d
  have ha := (amD_len (bs.take 2000) (drD (bs.take 2000) (q2 + 1 + 1) d).2 (drD (bs.take 2000) (q2 + 1 + 1) d).1).1
  exact ⟨t, _, _, by omega, g4, by omega, by omega, drawSb_core hb hF hM (by omega) hd hd4⟩

set_option maxRecDepth 100000 in
set_option maxHeartbeats 1600000 in
theorem drawPt_core {bs : List Int} (hb : Bytes (bs.take 2000)) {s t : Stm} {q q2 : Nat} (hF : Fn Try.prog 50 (hbR (bs.take 2000) 0) [vR, nat1 2] (.o (ad (rS s))) (hbR (bs.take 2000) q)) (hM : Fn Try.prog 49 (hbR (bs.take 2000) q) [vR, ad (rS s)] (.o (ad (rS t))) (hbR (bs.take 2000) q2)) (hq : q2 ≤ 1000000) : Fn Try.prog 36 [] [vD (dYs bs)] (.tup [ad (rS t), vD (dIs (if pickV (bs.take 2000) (q2 + 1 + 1) 12 = 0 then [numV (bs.take 2000) q2 [0, 1, 2, 3, -1, 99], numV (bs.take 2000) (q2 + 1) [0, 1, 2, 4, 100]].take 1 else [numV (bs.take 2000) q2 [0, 1, 2, 3, -1, 99], numV (bs.take 2000) (q2 + 1) [0, 1, 2, 4, 100]]))]) [] := by
  refine Fn.code0 Try.func36 rfl rfl rfl rfl ?_
  refine ACode.seq ?_
  refine ACode.region ?_
  refine .cons (.al 102 [.string ByteArray.empty, .slice none 0 0, .int .i64 0, .int .i64 0, .slice none 0 0, .int .i64 0, .string ByteArray.empty, .slice none 0 0, .slice none 0 0] rfl rfl rfl) ?_
  refine .cons (.asg rfl rfl) ?_
  refine .nil ?_
  refine ks_n ?_
  refine ACode.seq ?_
  refine ACode.region ?_
  refine .cons (.mv rfl rfl) ?_
  refine .cons (.cO [.tmp 7] [(100, 108)] rfl rfl rfl rfl (l16Open_fn bs) rfl trivial flatS.nil (flatS.nil.cons rfl) HB.nil.data outS_one) ?_
  refine .cons (.asg rfl rfl) ?_
  refine .nil ?_
  refine ks_n ?_
  refine ACode.seq ?_
  refine ACode.region ?_
  refine .cons (.mv rfl rfl) ?_
  refine .cons (.mv rfl rfl) ?_
  refine .cons (.cR [.tmp 10, .const (.int .i64 (2))] 108 rfl rfl rfl rfl (hF) rfl ⟨rfl, trivial⟩) ?_
  refine .cons (.cR [.tmp 9, .tmp 11] 108 rfl rfl rfl rfl (hM) rfl ⟨rfl, trivial⟩) ?_
  refine .cons (.al 105 [.string ByteArray.empty, .slice none 0 0, .int .i64 0, .int .i64 0, .slice none 0 0, .int .i64 0, .string ByteArray.empty, .slice none 0 0, .slice none 0 0] rfl rfl rfl) ?_
  refine .cons (.sT 9 true rfl rfl rfl rfl rfl rfl rfl) ?_
  refine .nil ?_
  refine ks_n ?_
  refine ACode.seq ?_
  refine ACode.region ?_
  refine .cons (.mv rfl rfl) ?_
  refine .cons (.li 3 0 5 [.const (.int .i64 (0)), .const (.int .i64 (1)), .const (.int .i64 (2)), .const (.int .i64 (3)), .const (.int .i64 (-1)), .const (.int .i64 (99))] rfl rfl rfl rfl rfl rfl) ?_
  refine .cons (.cR [.tmp 13, .tmp 14] 108 rfl rfl rfl rfl (num_fn hb (by omega) [0, 1, 2, 3, -1, 99] (by simp)) rfl ⟨rfl, trivial⟩) ?_
  refine .cons (.mv rfl rfl) ?_
  refine .cons (.li 3 0 4 [.const (.int .i64 (0)), .const (.int .i64 (1)), .const (.int .i64 (2)), .const (.int .i64 (4)), .const (.int .i64 (100))] rfl rfl rfl rfl rfl rfl) ?_
  refine .cons (.cR [.tmp 16, .tmp 17] 108 rfl rfl rfl rfl (num_fn hb (by omega) [0, 1, 2, 4, 100] (by simp)) rfl ⟨rfl, trivial⟩) ?_
  refine .cons (.li 3 0 1 [.tmp 15, .tmp 18] rfl rfl rfl rfl rfl rfl) ?_
  refine .cons (.asg rfl rfl) ?_
  refine .nil ?_
  refine ks_n ?_
  refine ACode.seq ?_
  refine ACode.seq ?_
  refine ACode.region ?_
  refine .cons (.mv rfl rfl) ?_
  refine .cons (.cR [.tmp 20, .const (.int .i64 (12))] 108 rfl rfl rfl rfl (pick_fn hb (by omega) 12) rfl ⟨rfl, trivial⟩) ?_
  refine .cons (.eq rfl rfl rfl) ?_
  refine .nil ?_
  refine ks_n ?_
  refine .cD rfl (fun h22 => ?_) (fun h22 => ?_)
  · skip
    refine ACode.seq ?_
    refine ACode.drawK (by kernel_rfl) (by kernel_rfl) ?_
    refine .cons (.bN 9 rfl rfl rfl rfl rfl rfl) ?_
    refine .cons (.mv rfl rfl) ?_
    refine .cons (St1.sliceTo (e := 3) (sz := 1) (by' := 8) (k := 1) rfl rfl rfl rfl (by kernel_rfl) rfl rfl rfl (by first | rfl | omega) (Nat.succ_le_succ (Nat.zero_le _))) ?_
    refine .cons (.sT 9 true rfl rfl rfl rfl rfl rfl rfl) ?_
    refine .cons (.asg rfl rfl) ?_
    refine .nil ⟨by kernel_rfl, ?_⟩
    refine ks_n ?_
    refine ACode.ret ?_
    refine ks_r ?_
    refine kf_ret rfl ?_ nobox
    rw [if_pos h22]; rfl
  · skip
    refine ACode.skip ?_
    refine ks_n ?_
    refine ACode.seq ?_
    refine ACode.region ?_
    refine .cons (.bN 9 rfl rfl rfl rfl rfl rfl) ?_
    refine .cons (.mv rfl rfl) ?_
    refine .cons (.sT 9 true rfl rfl rfl rfl rfl rfl rfl) ?_
    refine .cons (.asg rfl rfl) ?_
    refine .nil ?_
    refine ks_n ?_
    refine ACode.ret ?_
    refine kf_ret rfl ?_ nobox
    rw [if_neg h22]; rfl

theorem drawPt_fn {bs : List Int} (hb : Bytes (bs.take 2000)) : ∃ (t : Stm) (x : List Int), szS t ≤ 400 ∧ 0 < t.1.2.length ∧ x.length ≤ 2 ∧ (∀ n ∈ x, -1 ≤ n ∧ n ≤ 100) ∧ Fn Try.prog 36 [] [vD (dYs bs)] (.tup [ad (rS t), vD (dIs x)]) [] := by
  obtain ⟨s, q, h1, h2, h3, h4, hF⟩ := stm_ok hb (d := 2) (by omega) (p := 0) (by omega)
  obtain ⟨t, q2, g1, g2, g3, g4, hM⟩ := mut_ok hb (p := q) (by omega) h3 (by omega) h4
  have hm := numV_mem hb (p := q2) (by omega) (xs := [0, 1, 2, 3, -1, 99]) (by simp)
  have hm2 := numV_mem hb (p := q2 + 1) (by omega) (xs := [0, 1, 2, 4, 100]) (by simp)
  simp only [List.mem_cons, List.not_mem_nil, or_false] at hm hm2
  refine ⟨t, _, by omega, g4, ?_, ?_, drawPt_core hb hF hM (by omega)⟩
  · split <;> simp
  · intro n hn
    have : n = numV (bs.take 2000) q2 [0, 1, 2, 3, -1, 99] ∨ n = numV (bs.take 2000) (q2 + 1) [0, 1, 2, 4, 100] := by
      split at hn
      · simp at hn; exact .inl hn
      · simpa using hn
    rcases this with rfl | rfl <;> omega

end Go.Proofs.Ytigdfdhjnadieaa

/- Depth of statements; condition: small lists. -/
namespace Go.Proofs.Ytigdfdhjnadieaa
set_option linter.unusedVariables false
set_option linter.unusedSimpArgs false
open Go.RowKit

theorem fold_take {α : Type} {c : Int → α → Int} {n : Int} {l : List α} {i : Nat} {x : α} (h : l[i]? = some x) : (l.take (i + 1)).foldl c n = c ((l.take i).foldl c n) x := by
  rw [List.take_add_one, h, List.foldl_append]; rfl
theorem fold_row {α : Type} {c : Int → α → Int} {n : Int} {l : List α} {i : Nat} {x : α} (h : l[i]? = some x) : dR [rI (c ((l.take i).foldl c n) x)] = dR [rI ((l.take (i + 1)).foldl c n)] := by rw [fold_take h]
theorem fold_row1 {α : Type} {c : Int → α → Int} {n : Int} {l : List α} {x : α} (h : l[0]? = some x) : dR [rI (c n x)] = dR [rI ((l.take 1).foldl c n)] := by
  have := fold_take (c := c) (n := n) h
  rw [this]; rfl

set_option maxRecDepth 100000 in
set_option maxHeartbeats 1600000 in
theorem depth1_fn (x : Aff) (n : Int) : Fn Try.prog 61 (hbI n) [ad (rA x), .c (.box 0 1 0 0)] (.o (ad (rA x))) (hbI (max n (affDepth x : Nat))) := by
  refine Fn.of_code Try.func61 rfl rfl (hbI_HB _) rfl rfl (hbI_HB _) rfl (hbI_num _ _) ?_
  refine ACode.seq ?_
  refine ACode.region ?_
  refine .cons (St1.boxP rfl rfl rfl rfl rfl rfl) ?_
  refine .cons (.al 103 [.slice none 0 0, .int .i64 0] rfl rfl rfl) ?_
  refine .nil ?_
  refine ks_n ?_
  refine ACode.seq ?_
  refine ACode.drawK (by kernel_rfl) (by kernel_rfl) ?_
  refine .cons (.b1 1 rfl rfl rfl rfl rfl rfl) ?_
  refine .cons (.lN 2 rfl rfl rfl) ?_
  refine .cons (.cP [.tmp 5] rfl rfl rfl rfl (depth_fn x) rfl) ?_
  refine .cons (St1.max2 rfl rfl rfl rfl rfl rfl) ?_
  refine .cons (.sT 1 false rfl rfl rfl rfl rfl rfl rfl) ?_
  refine .nil ⟨by kernel_rfl, ?_⟩
  refine ks_n ?_
  refine ACode.seq ?_
  refine ACode.region ?_
  refine .cons (.lN 2 rfl rfl rfl) ?_
  refine .cons (.sT 2 true rfl rfl rfl rfl rfl rfl rfl) ?_
  refine .nil ?_
  refine ks_n ?_
  refine ACode.ret ?_
  refine kf_ret rfl ?_ (hbI_box rfl)
  rfl

set_option maxRecDepth 100000 in
set_option maxHeartbeats 1600000 in
theorem accMapB_fn {f : FuncId} (hc : callable Try.prog f = true) (g : Aff → Aff) (c : Int → Aff → Int) (n : Int) (a : Acc) (ha : a.2.length ≤ 1073741824) (hg : ∀ x ∈ a.2, ∀ n, Fn Try.prog f (hbI n) [ad (rA x), .c (.box 0 1 0 0)] (.o (ad (rA (g x)))) (hbI (c n x))) : Fn Try.prog 120 (hbI n) [ad (rC a), .c (.fb f 0 1)] (.o (ad (rC (mapC g a)))) (hbI (a.2.foldl c n)) := by
  refine Fn.of_code Try.func120 rfl rfl (hbI_HB _) rfl rfl (hbI_HB _) rfl (hbI_num _ _) ?_
  refine ACode.seq ?_
  refine ACode.region ?_
  refine .cons (St1.boxP rfl rfl rfl rfl rfl rfl) ?_
  refine .cons (.al 104 [.string ByteArray.empty, .slice none 0 0] rfl rfl rfl) ?_
  refine .nil ?_
  refine ks_n ?_
  refine ACode.seq ?_
  refine ACode.region ?_
  refine .cons (.fP 0 0 false rfl rfl) ?_
  refine .cons (.l1 1 rfl rfl) ?_
  refine .cons (.bu [(0, .tmp 9)] [(0, 1), (1, 1)] [.string ByteArray.empty, .slice none 0 0] rfl rfl rfl rfl rfl) ?_
  refine .cons (.al 105 [.string ByteArray.empty, .slice none 0 0] rfl rfl rfl) ?_
  refine .cons (.sT 2 true rfl rfl rfl rfl rfl rfl rfl) ?_
  refine .nil ?_
  refine ks_n ?_
  refine ACode.seq ?_
  refine ACode.seq ?_
  refine ACode.region ?_
  refine .cons (.fP 1 0 false rfl rfl) ?_
  refine .cons (.l1 1 rfl rfl) ?_
  refine .cons (.ln 28 2 32 rfl rfl rfl) ?_
  refine .cons (.mv rfl rfl) ?_
  refine .nil ?_
  refine ks_n ?_
  refine ACode.block ?_
  refine .loopK (fun m σ => (∃ i : Nat, m = a.2.length - i ∧ (i = 0) ∧ σ = [(.t 1, .v (.o (.c (.fb f 0 1)))), (.t 2, .v (.o (.c (.ptr (rC a))))), (.t 4, .v (.o (.c (.box 110 2 0 0)))), (.t 5, .v (.o (.c (.box 111 2 0 0)))), (.t 12, .v (.o (vD (dAs a.2)))), (.t 13, .v (.o (nat1 (a.2.length : Nat)))), (.t 14, .v (.o (nat1 (i : Nat)))), (.b 0, .b 3 1 (dR ([rI (n)]))), (.u 0, .u), (.b 110, .b 25 2 [[.d (dS ByteArray.empty), .d (.val (.slice none 0 0))]]), (.u 110, .u), (.b 111, .b 25 2 [[.d (dS a.1), .d (.val (.slice none 0 0))]]), (.u 111, .u)]) ∨ (∃ i : Nat, m = a.2.length - i ∧ (1 ≤ i) ∧ (i ≤ a.2.length) ∧ σ = [(.t 1, .v (.o (.c (.fb f 0 1)))), (.t 2, .v (.o (.c (.ptr (rC a))))), (.t 4, .v (.o (.c (.box 110 2 0 0)))), (.t 5, .v (.o (.c (.box 111 2 0 0)))), (.t 12, .v (.o (vD (dAs a.2)))), (.t 13, .v (.o (nat1 (a.2.length : Nat)))), (.t 14, .v (.o (nat1 (i : Nat)))), (.b 0, .b 3 1 (dR ([rI ((a.2.take i).foldl c n)]))), (.u 0, .u), (.b 110, .b 25 2 [[.d (dS ByteArray.empty), .d (.val (.slice none 0 0))]]), (.u 110, .u), (.b 112, .b 28 2 (dR ((a.2.take i).map fun x => rA (g x)))), (.u 112, .u), (.b 111, .b 25 2 [[.d (dS a.1), .own 112 2 (i)]]), (.u 111, .u)])) [(0, 0), (110, 104), (111, 105)] (.inl ⟨0, rfl, rfl, rfl⟩) ⟨ks rfl (.c (.fb _ _ _ _ (by first | decide | simp))), ks rfl .dt, ks rfl (.c .bx), ks rfl (.c .bx), ks rfl .dt, ks rfl .dt, ks rfl .dt, kb 0 rfl (.dt rfl), kb 104 rfl (.cons (.cons .dt (.cons .dt Ctos.nil)) .nil), kb 105 rfl (.cons (.cons .dt (.cons .dt Ctos.nil)) .nil), trivial⟩ ?_
  rintro m σ (⟨i, hm0, rfl, rfl⟩ | ⟨i, hm0, hi1, hi2, rfl⟩)
  · skip
    refine ACode.seq ?_
    refine ACode.region ?_
    refine .cons (.ls rfl rfl rfl) ?_
    refine .nil ?_
    refine ks_n ?_
    refine ACode.seq ?_
    refine .cD rfl (fun h15 => ?_) (fun h15 => ?_)
    · skip
      obtain ⟨x, hx1⟩ : ∃ x, a.2[0]? = some x := ⟨_, List.getElem?_eq_getElem (by omega)⟩
      refine ACode.skip ?_
      refine ks_n ?_
      refine ACode.seq ?_
      refine ACode.block ?_
      refine ACode.seq ?_
      refine ACode.region ?_
      refine .cons (.xL 28 2 32 rfl rfl rfl rfl rfl) ?_
      refine .cons (.lN 2 rfl rfl rfl) ?_
      refine .cons (.al 107 [.slice none 0 0, .int .i64 0] rfl rfl rfl) ?_
      refine .cons (.sT 2 true rfl rfl rfl rfl rfl rfl rfl) ?_
      refine .nil ?_
      refine ks_n ?_
      refine ACode.drawK (by kernel_rfl) (by kernel_rfl) ?_
      refine .cons (.fB 1 0 false rfl rfl rfl) ?_
      refine .cons (.b1 1 rfl rfl rfl rfl rfl rfl) ?_
      refine .cons (.mv rfl rfl) ?_
      refine .cons (.bN 2 rfl rfl rfl rfl rfl rfl) ?_
      refine .cons (.cX [.tmp 21] [(0, 0)] rfl rfl rfl rfl rfl (hg x (List.mem_of_getElem? hx1) _) rfl ⟨rfl, trivial⟩ (hbI_flat _) (hbI_flat _) (hbI_HB _) outS_one (hcall := hc)) ?_
      refine .cons (.li 28 1 0 [.tmp 22] rfl rfl rfl rfl rfl rfl) ?_
      refine .cons (St1.appN (k' := 124) (e := 28) (sz := 1) (by' := 32) rfl rfl rfl rfl rfl (by kernel_rfl) rfl rfl rfl (by simp) (by first | (simp [dR]; done) | (simp [dR]; omega)) rfl rfl) ?_
      refine .cons (.fB 1 0 false rfl rfl rfl) ?_
      refine .cons (.sT 1 false rfl rfl rfl rfl rfl rfl rfl) ?_
      refine .nil ⟨by kernel_rfl, ?_⟩
      refine kb_n ?_
      refine ks_n ?_
      refine ACode.region ?_
      refine .cons (.pl rfl rfl rfl) ?_
      refine .cons (.mv rfl rfl) ?_
      refine .nil ?_
      refine kl_k [(0, 0), (110, 110), (111, 111), (112, 124)] (.inr ⟨1, rfl, by omega, by omega, rfl⟩) ⟨ks rfl (.c (.fb _ _ _ _ (by first | decide | simp))), ks rfl .dt, ks rfl (.c .bx), ks rfl (.c .bx), ks rfl .dt, ks rfl .dt, ks rfl .dt, kb 0 rfl (.dt rfl (by first | exact fold_row hx1 | exact fold_row1 hx1 | rfl | (simp; done))), kb 110 rfl (.cons (.cons .dt (.cons .dt Ctos.nil)) .nil), kb 124 rfl (.dt rfl (by first | exact dR_take (fun x => rA (g x)) hx1 | exact dR_take1 (fun x => rA (g x)) hx1 | rfl | (simp [dR]; done))), kb 111 rfl (.cons (.cons .dt (.cons .ow Ctos.nil)) .nil), trivial⟩
    · skip
      have hn : a.2 = [] := List.eq_nil_of_length_eq_zero (by omega)
      refine ACode.exit ?_
      refine ks_e ?_
      refine kl_e ?_
      refine kb_hit ?_
      refine ks_n ?_
      refine ACode.seq ?_
      refine ACode.region ?_
      refine .cons (.bN 2 rfl rfl rfl rfl rfl rfl) ?_
      refine .cons (.sT 2 true rfl rfl rfl rfl rfl rfl rfl) ?_
      refine .nil ?_
      refine ks_n ?_
      refine ACode.ret ?_
      refine kf_wret [(.t 4, .v (.o (.c (.box 100 2 0 0)))), (.b 0, .b 3 1 (dR ([rI (a.2.foldl c n)]))), (.u 0, .u), (.b 100, .b 25 2 [[.d (dS a.1), .d (dAs (a.2.map g))]]), (.u 100, .u)] (Wk.keep [(0, 0), (100, 110)] rfl rfl ⟨ks rfl (.c .bx), kb 0 rfl (.dt rfl (by first | rfl | (rw [hn]; rfl) | (rw [List.take_length]; done))), kb 110 rfl (.cons (.cons .dt (.cons (Cto.nilE 2 (by rw [hn]; rfl)) Ctos.nil)) .nil), trivial⟩) rfl ?_ (hbI_box rfl)
      rfl
  · skip
    refine ACode.seq ?_
    refine ACode.region ?_
    refine .cons (.ls rfl rfl rfl) ?_
    refine .nil ?_
    refine ks_n ?_
    refine ACode.seq ?_
    refine .cD rfl (fun h15 => ?_) (fun h15 => ?_)
    · skip
      obtain ⟨x, hx1⟩ : ∃ x, a.2[i]? = some x := ⟨_, List.getElem?_eq_getElem (by omega)⟩
      refine ACode.skip ?_
      refine ks_n ?_
      refine ACode.seq ?_
      refine ACode.block ?_
      refine ACode.seq ?_
      refine ACode.region ?_
      refine .cons (.xL 28 2 32 rfl rfl rfl rfl rfl) ?_
      refine .cons (.lN 2 rfl rfl rfl) ?_
      refine .cons (.al 107 [.slice none 0 0, .int .i64 0] rfl rfl rfl) ?_
      refine .cons (.sT 2 true rfl rfl rfl rfl rfl rfl rfl) ?_
      refine .nil ?_
      refine ks_n ?_
      refine ACode.drawK (by kernel_rfl) (by kernel_rfl) ?_
      refine .cons (.fB 1 0 false rfl rfl rfl) ?_
      refine .cons (.b1 1 rfl rfl rfl rfl rfl rfl) ?_
      refine .cons (.mv rfl rfl) ?_
      refine .cons (.bN 2 rfl rfl rfl rfl rfl rfl) ?_
      refine .cons (.cX [.tmp 21] [(0, 0)] rfl rfl rfl rfl rfl (hg x (List.mem_of_getElem? hx1) _) rfl ⟨rfl, trivial⟩ (hbI_flat _) (hbI_flat _) (hbI_HB _) outS_one (hcall := hc)) ?_
      refine .cons (.li 28 1 0 [.tmp 22] rfl rfl rfl rfl rfl rfl) ?_
      refine .cons (St1.appB (k' := 124) (e := 28) (sz := 1) (by' := 32) rfl rfl rfl rfl rfl (by kernel_rfl) rfl rfl rfl rfl (by first | (simp [dR]; done) | (simp [dR]; omega)) (by first | (simp [dR]; done) | (simp [dR]; omega)) rfl rfl rfl) ?_
      refine .cons (.fB 1 0 false rfl rfl rfl) ?_
      refine .cons (.sT 1 false rfl rfl rfl rfl rfl rfl rfl) ?_
      refine .nil ⟨by kernel_rfl, ?_⟩
      refine kb_n ?_
      refine ks_n ?_
      refine ACode.region ?_
      refine .cons (.pl rfl rfl rfl) ?_
      refine .cons (.mv rfl rfl) ?_
      refine .nil ?_
      refine kl_k [(0, 0), (110, 110), (111, 111), (112, 124)] (.inr ⟨i + 1, rfl, by omega, by omega, rfl⟩) ⟨ks rfl (.c (.fb _ _ _ _ (by first | decide | simp))), ks rfl .dt, ks rfl (.c .bx), ks rfl (.c .bx), ks rfl .dt, ks rfl .dt, ks rfl .dt, kb 0 rfl (.dt rfl (by first | exact fold_row hx1 | exact fold_row1 hx1 | rfl | (simp; done))), kb 110 rfl (.cons (.cons .dt (.cons .dt Ctos.nil)) .nil), kb 124 rfl (.dt rfl (by first | exact dR_take (fun x => rA (g x)) hx1 | exact dR_take1 (fun x => rA (g x)) hx1 | rfl | (simp [dR]; done))), kb 111 rfl (.cons (.cons .dt (.cons .ow Ctos.nil)) .nil), trivial⟩
    · skip
      obtain rfl : i = a.2.length := by omega
      refine ACode.exit ?_
      refine ks_e ?_
      refine kl_e ?_
      refine kb_hit ?_
      refine ks_n ?_
      refine ACode.seq ?_
      refine ACode.region ?_
      refine .cons (.bN 2 rfl rfl rfl rfl rfl rfl) ?_
      refine .cons (.sT 2 true rfl rfl rfl rfl rfl rfl rfl) ?_
      refine .nil ?_
      refine ks_n ?_
      refine ACode.ret ?_
      refine kf_wret [(.t 4, .v (.o (.c (.box 100 2 0 0)))), (.b 0, .b 3 1 (dR ([rI (a.2.foldl c n)]))), (.u 0, .u), (.b 100, .b 25 2 [[.d (dS a.1), .d (dAs (a.2.map g))]]), (.u 100, .u)] (Wk.keep [(0, 0), (100, 110)] rfl rfl ⟨ks rfl (.c .bx), kb 0 rfl (.dt rfl (by first | rfl | (rw [hn]; rfl) | (rw [List.take_length]; done))), kb 110 rfl (.cons (.cons .dt (.cons (.fz rfl (by first | rfl | exact dR_af _ _ | (rw [List.take_length]; done)) (by first | rfl | (simp; done) | (simp; omega)) (by omega)) Ctos.nil)) .nil), trivial⟩) rfl ?_ (hbI_box rfl)
      rfl

def own0 (e : Ex) : List Aff := (if e.k = 2 then [e.i] else []) ++ (if e.k = 3 then e.r.2 else [])
theorem own0_i {c : Int → Aff → Int} {n : Int} {e : Ex} (h : e.k = 2) : (own0 e).foldl c n = c n e.i := by rw [own0, if_pos h, if_neg (by omega)]; rfl
theorem own0_r {c : Int → Aff → Int} {n : Int} {e : Ex} (h : e.k = 3) : (own0 e).foldl c n = e.r.2.foldl c n := by rw [own0, if_neg (by omega), if_pos h]; rfl
theorem own0_n {c : Int → Aff → Int} {n : Int} {e : Ex} (h : ¬ e.k = 2) (h3 : ¬ e.k = 3) : (own0 e).foldl c n = n := by rw [own0, if_neg h, if_neg h3]; rfl
theorem affsE_fold {c : Int → Aff → Int} {n : Int} (e : Ex) : (affsE e).foldl c n = (affsEs e.ks).foldl c ((own0 e).foldl c n) := by rw [affsE_eq, ← List.append_assoc, List.foldl_append]; rfl
theorem affsEs_take {l : List Ex} {i : Nat} {x : Ex} (h : l[i]? = some x) : affsEs (l.take (i + 1)) = affsEs (l.take i) ++ affsE x := by
  rw [List.take_add_one, h]
  generalize l.take i = m
  induction m with
  | nil => simp [affsEs]
  | cons y m ih => rw [List.cons_append, affsEs, affsEs, ih, List.append_assoc]
theorem kid_row {c : Int → Aff → Int} {m : Int} {l : List Ex} {i : Nat} {x : Ex} (h : l[i]? = some x) : dR [rI ((affsE x).foldl c ((affsEs (l.take i)).foldl c m))] = dR [rI ((affsEs (l.take (i + 1))).foldl c m)] := by rw [affsEs_take h, List.foldl_append]
theorem kid_row1 {c : Int → Aff → Int} {m : Int} {l : List Ex} {x : Ex} (h : l[0]? = some x) : dR [rI ((affsE x).foldl c m)] = dR [rI ((affsEs (l.take 1)).foldl c m)] := by
  rw [affsEs_take h, List.foldl_append]; rfl

set_option maxRecDepth 100000 in
set_option maxHeartbeats 1600000 in
theorem exprMapB_one {f : FuncId} (hc : callable Try.prog f = true) (g : Aff → Aff) (c : Int → Aff → Int) (n : Int) (e : Ex) (hr : e.r.2.length ≤ 1073741824) (hk : e.ks.length ≤ 1073741824) (hg : ∀ x ∈ affsE e, ∀ n, Fn Try.prog f (hbI n) [ad (rA x), .c (.box 0 1 0 0)] (.o (ad (rA (g x)))) (hbI (c n x))) (ih : ∀ x ∈ e.ks, ∀ n, Fn Try.prog 121 (hbI n) [ad (rX x), .c (.fb f 0 1)] (.o (ad (rX (mapE g x)))) (hbI ((affsE x).foldl c n))) : Fn Try.prog 121 (hbI n) [ad (rX e), .c (.fb f 0 1)] (.o (ad (rX (mapE g e)))) (hbI ((affsE e).foldl c n)) := by
  refine Fn.of_code Try.func121 rfl rfl (hbI_HB _) rfl rfl (hbI_HB _) rfl (hbI_num _ _) ?_
  refine ACode.seq ?_
  refine ACode.region ?_
  refine .cons (St1.boxP rfl rfl rfl rfl rfl rfl) ?_
  refine .cons (.al 104 [.int .i64 0, .int .i64 0, .slice none 0 0, .int .i64 0, .string ByteArray.empty, .slice none 0 0, .slice none 0 0] rfl rfl rfl) ?_
  refine .nil ?_
  refine ks_n ?_
  refine ACode.seq ?_
  refine ACode.region ?_
  refine .cons (.fP 0 0 false rfl rfl) ?_
  refine .cons (.l1 1 rfl rfl) ?_
  refine .cons (.fP 1 0 false rfl rfl) ?_
  refine .cons (.l1 1 rfl rfl) ?_
  refine .cons (.bu [(0, .tmp 9), (1, .tmp 11)] [(0, 1), (1, 1), (2, 2), (4, 2), (6, 1)] [.int .i64 0, .int .i64 0, .slice none 0 0, .int .i64 0, .string ByteArray.empty, .slice none 0 0, .slice none 0 0] rfl rfl rfl rfl rfl) ?_
  refine .cons (.al 105 [.int .i64 0, .int .i64 0, .slice none 0 0, .int .i64 0, .string ByteArray.empty, .slice none 0 0, .slice none 0 0] rfl rfl rfl) ?_
  refine .cons (.sT 7 true rfl rfl rfl rfl rfl rfl rfl) ?_
  refine .nil ?_
  refine ks_n ?_
  refine ACode.seq ?_
  refine ACode.cut [(.t 1, .v (.o (.c (.fb f 0 1)))), (.t 2, .v (.o (.c (.ptr (rX e))))), (.t 4, .v (.o (.c (.box 810 7 0 0)))), (.t 5, .v (.o (.c (.box 811 7 0 0)))), (.b 0, .b 3 1 (dR ([rI ((own0 e).foldl c n)]))), (.u 0, .u), (.b 810, .b 31 7 [[.d (dI 0), .d (dI 0), .d (.val (.slice none 0 0)), .d (dI 0), .d (dS ByteArray.empty), .d (.val (.slice none 0 0)), .d (.val (.slice none 0 0))]]), (.u 810, .u), (.b 811, .b 31 7 [[.d (dI e.k), .d (dI e.n), .d (dIs (if e.k = 2 then g e.i else ([], 0)).1), .d (dI (if e.k = 2 then g e.i else ([], 0)).2), .d (dS (if e.k = 3 then mapC g e.r else (ByteArray.empty, [])).1), .d (dAs (if e.k = 3 then mapC g e.r else (ByteArray.empty, [])).2), .d (.val (.slice none 0 0))]]), (.u 811, .u)] ?_ ?_
  · skip
    refine ACode.seq ?_
    refine ACode.region ?_
    refine .cons (.fP 0 0 false rfl rfl) ?_
    refine .cons (.l1 1 rfl rfl) ?_
    refine .nil ?_
    refine ks_n ?_
    refine ACode.block ?_
    refine ACode.seq ?_
    refine ACode.region ?_
    refine .cons (.eq rfl rfl rfl) ?_
    refine .cons (.asg rfl rfl) ?_
    refine .nil ?_
    refine ks_n ?_
    refine .cD rfl (fun h15 => ?_) (fun h15 => ?_)
    · skip
      refine ACode.region ?_
      refine .cons (.mv rfl rfl) ?_
      refine .cons (.fP 2 1 true rfl rfl) ?_
      refine .cons (.lN 2 rfl rfl rfl) ?_
      refine .cons (.cX [.tmp 19] [(0, 0)] rfl rfl rfl rfl rfl (hg _ (affsE_i h15) _) rfl ⟨rfl, trivial⟩ (hbI_flat _) (hbI_flat _) (hbI_HB _) outS_one (hcall := hc)) ?_
      refine .cons (.fB 2 1 true rfl rfl rfl) ?_
      refine .cons (.sT 2 true rfl rfl rfl rfl rfl rfl rfl) ?_
      refine .nil ?_
      refine kb_n ?_
      exact kc_n (Wk.keep [(0, 0), (810, 104), (811, 105)] rfl rfl ⟨ks rfl (.c (.fb _ _ _ _ (by first | decide | simp))), ks rfl .dt, ks rfl (.c .bx), ks rfl (.c .bx), kb 0 rfl (.dt rfl (by first | rw [own0_i (by omega)] | rw [own0_r (by omega)] | rw [own0_n (by omega) (by omega)])), kb 104 rfl (.cons (.cons .dt (.cons .dt (.cons .dt (.cons .dt (.cons .dt (.cons .dt (.cons .dt Ctos.nil))))))) .nil), kb 105 rfl (.cons (.cons .dt (.cons .dt (.cons (.dt (by first | rfl | (simp [*]; done) | (simp [*]; rfl))) (.cons (.dt (by first | rfl | (simp [*]; done) | (simp [*]; rfl))) (.cons (.dt (by first | rfl | (simp [*]; done) | (simp [*]; rfl))) (.cons (Cto.nilE 2 (by rw [if_neg (show ¬ e.k = 3 by omega)]; rfl)) (.cons .dt Ctos.nil))))))) .nil), trivial⟩)
    · skip
      refine ACode.seq ?_
      refine ACode.region ?_
      refine .cons (.eq rfl rfl rfl) ?_
      refine .cons (.asg rfl rfl) ?_
      refine .nil ?_
      refine ks_n ?_
      refine .cD rfl (fun h22 => ?_) (fun h22 => ?_)
      · skip
        refine ACode.region ?_
        refine .cons (.fP 4 1 true rfl rfl) ?_
        refine .cons (.lN 2 rfl rfl rfl) ?_
        refine .cons (.mv rfl rfl) ?_
        refine .cons (.cO [.tmp 25, .tmp 26] [(0, 0)] rfl rfl rfl rfl (accMapB_fn hc g c n e.r hr (fun x hx => hg x (affsE_r h22 hx))) rfl ⟨rfl, trivial⟩ (hbI_flat _) (hbI_flat _) (hbI_HB _) outS_one) ?_
        refine .cons (.fB 4 1 true rfl rfl rfl) ?_
        refine .cons (.sT 2 true rfl rfl rfl rfl rfl rfl rfl) ?_
        refine .nil ?_
        refine kb_n ?_
        exact kc_n (Wk.keep [(0, 0), (810, 104), (811, 105)] rfl rfl ⟨ks rfl (.c (.fb _ _ _ _ (by first | decide | simp))), ks rfl .dt, ks rfl (.c .bx), ks rfl (.c .bx), kb 0 rfl (.dt rfl (by first | rw [own0_i (by omega)] | rw [own0_r (by omega)] | rw [own0_n (by omega) (by omega)])), kb 104 rfl (.cons (.cons .dt (.cons .dt (.cons .dt (.cons .dt (.cons .dt (.cons .dt (.cons .dt Ctos.nil))))))) .nil), kb 105 rfl (.cons (.cons .dt (.cons .dt (.cons (Cto.nilE 1 (by rw [if_neg (show ¬ e.k = 2 by omega)]; rfl)) (.cons (.dt (by first | rfl | (simp [*]; done) | (simp [*]; rfl))) (.cons (.dt (by first | rfl | (simp [*]; done) | (simp [*]; rfl))) (.cons (.dt (by first | rfl | (simp [*]; done) | (simp [*]; rfl))) (.cons .dt Ctos.nil))))))) .nil), trivial⟩)
      · skip
        refine ACode.skip ?_
        refine kb_n ?_
        exact kc_n (Wk.keep [(0, 0), (810, 104), (811, 105)] rfl rfl ⟨ks rfl (.c (.fb _ _ _ _ (by first | decide | simp))), ks rfl .dt, ks rfl (.c .bx), ks rfl (.c .bx), kb 0 rfl (.dt rfl (by first | rw [own0_i (by omega)] | rw [own0_r (by omega)] | rw [own0_n (by omega) (by omega)])), kb 104 rfl (.cons (.cons .dt (.cons .dt (.cons .dt (.cons .dt (.cons .dt (.cons .dt (.cons .dt Ctos.nil))))))) .nil), kb 105 rfl (.cons (.cons .dt (.cons .dt (.cons (Cto.nilE 1 (by rw [if_neg (show ¬ e.k = 2 by omega)]; rfl)) (.cons (.dt (by first | rfl | (simp [*]; done) | (simp [*]; rfl))) (.cons (.dt (by first | rfl | (simp [*]; done) | (simp [*]; rfl))) (.cons (Cto.nilE 2 (by rw [if_neg (show ¬ e.k = 3 by omega)]; rfl)) (.cons .dt Ctos.nil))))))) .nil), trivial⟩)
  refine ks_n ?_
  refine ACode.seq ?_
  refine ACode.seq ?_
  refine ACode.region ?_
  refine .cons (.fP 6 0 false rfl rfl) ?_
  refine .cons (.l1 1 rfl rfl) ?_
  refine .cons (.ln 31 7 112 rfl rfl rfl) ?_
  refine .cons (.mv rfl rfl) ?_
  refine .nil ?_
  refine ks_n ?_
  refine ACode.block ?_
  refine .loopK (fun m σ => (∃ i : Nat, m = e.ks.length - i ∧ (i = 0) ∧ σ = [(.t 1, .v (.o (.c (.fb f 0 1)))), (.t 2, .v (.o (.c (.ptr (rX e))))), (.t 4, .v (.o (.c (.box 110 7 0 0)))), (.t 5, .v (.o (.c (.box 111 7 0 0)))), (.t 30, .v (.o (vD (dEs e.ks)))), (.t 31, .v (.o (nat1 (e.ks.length : Nat)))), (.t 32, .v (.o (nat1 (i : Nat)))), (.b 0, .b 3 1 (dR ([rI ((own0 e).foldl c n)]))), (.u 0, .u), (.b 110, .b 31 7 [[.d (dI 0), .d (dI 0), .d (.val (.slice none 0 0)), .d (dI 0), .d (dS ByteArray.empty), .d (.val (.slice none 0 0)), .d (.val (.slice none 0 0))]]), (.u 110, .u), (.b 111, .b 31 7 [[.d (dI e.k), .d (dI e.n), .d (dIs (if e.k = 2 then g e.i else ([], 0)).1), .d (dI (if e.k = 2 then g e.i else ([], 0)).2), .d (dS (if e.k = 3 then mapC g e.r else (ByteArray.empty, [])).1), .d (dAs (if e.k = 3 then mapC g e.r else (ByteArray.empty, [])).2), .d (.val (.slice none 0 0))]]), (.u 111, .u)]) ∨ (∃ i : Nat, m = e.ks.length - i ∧ (1 ≤ i) ∧ (i ≤ e.ks.length) ∧ σ = [(.t 1, .v (.o (.c (.fb f 0 1)))), (.t 2, .v (.o (.c (.ptr (rX e))))), (.t 4, .v (.o (.c (.box 110 7 0 0)))), (.t 5, .v (.o (.c (.box 111 7 0 0)))), (.t 30, .v (.o (vD (dEs e.ks)))), (.t 31, .v (.o (nat1 (e.ks.length : Nat)))), (.t 32, .v (.o (nat1 (i : Nat)))), (.b 0, .b 3 1 (dR ([rI ((affsEs (e.ks.take i)).foldl c ((own0 e).foldl c n))]))), (.u 0, .u), (.b 110, .b 31 7 [[.d (dI 0), .d (dI 0), .d (.val (.slice none 0 0)), .d (dI 0), .d (dS ByteArray.empty), .d (.val (.slice none 0 0)), .d (.val (.slice none 0 0))]]), (.u 110, .u), (.b 112, .b 31 7 (dR ((e.ks.take i).map fun x => rX (mapE g x)))), (.u 112, .u), (.b 111, .b 31 7 [[.d (dI e.k), .d (dI e.n), .d (dIs (if e.k = 2 then g e.i else ([], 0)).1), .d (dI (if e.k = 2 then g e.i else ([], 0)).2), .d (dS (if e.k = 3 then mapC g e.r else (ByteArray.empty, [])).1), .d (dAs (if e.k = 3 then mapC g e.r else (ByteArray.empty, [])).2), .own 112 7 (i)]]), (.u 111, .u)])) [(0, 0), (110, 810), (111, 811)] (.inl ⟨0, rfl, rfl, rfl⟩) ⟨ks rfl (.c (.fb _ _ _ _ (by first | decide | simp))), ks rfl .dt, ks rfl (.c .bx), ks rfl (.c .bx), ks rfl .dt, ks rfl .dt, ks rfl .dt, kb 0 rfl (.dt rfl), kb 810 rfl (.cons (.cons .dt (.cons .dt (.cons .dt (.cons .dt (.cons .dt (.cons .dt (.cons .dt Ctos.nil))))))) .nil), kb 811 rfl (.cons (.cons .dt (.cons .dt (.cons (.dt (by first | rfl | (simp [*]; done) | (simp [*]; rfl))) (.cons (.dt (by first | rfl | (simp [*]; done) | (simp [*]; rfl))) (.cons (.dt (by first | rfl | (simp [*]; done) | (simp [*]; rfl))) (.cons (.dt (by first | rfl | (simp [*]; done) | (simp [*]; rfl))) (.cons .dt Ctos.nil))))))) .nil), trivial⟩ ?_
  rintro m σ (⟨i, hm0, rfl, rfl⟩ | ⟨i, hm0, hi1, hi2, rfl⟩)
  · skip
    refine ACode.seq ?_
    refine ACode.region ?_
    refine .cons (.ls rfl rfl rfl) ?_
    refine .nil ?_
    refine ks_n ?_
    refine ACode.seq ?_
    refine .cD rfl (fun h33 => ?_) (fun h33 => ?_)
    · skip
      obtain ⟨x, hx1⟩ : ∃ x, e.ks[0]? = some x := ⟨_, List.getElem?_eq_getElem (by omega)⟩
      refine ACode.skip ?_
      refine ks_n ?_
      refine ACode.seq ?_
      refine ACode.block ?_
      refine ACode.seq ?_
      refine ACode.region ?_
      refine .cons (.xL 31 7 112 rfl rfl rfl rfl rfl (rE_at hx1)) ?_
      refine .cons (.lN 7 rfl rfl rfl) ?_
      refine .cons (.al 107 [.int .i64 0, .int .i64 0, .slice none 0 0, .int .i64 0, .string ByteArray.empty, .slice none 0 0, .slice none 0 0] rfl rfl rfl) ?_
      refine .cons (.sT 7 true rfl rfl rfl rfl rfl rfl rfl) ?_
      refine .nil ?_
      refine ks_n ?_
      refine ACode.drawK (by kernel_rfl) (by kernel_rfl) ?_
      refine .cons (.fB 6 0 false rfl rfl rfl) ?_
      refine .cons (.b1 1 rfl rfl rfl rfl rfl rfl) ?_
      refine .cons (.bN 7 rfl rfl rfl rfl rfl rfl) ?_
      refine .cons (.mv rfl rfl) ?_
      refine .cons (.cO [.tmp 38, .tmp 39] [(0, 0)] rfl rfl rfl rfl (ih x (List.mem_of_getElem? hx1) _) rfl ⟨rfl, trivial⟩ (hbI_flat _) (hbI_flat _) (hbI_HB _) outS_one) ?_
      refine .cons (.li 31 6 0 [.tmp 40] rfl rfl rfl rfl rfl rfl) ?_
      refine .cons (St1.appN (k' := 142) (e := 31) (sz := 6) (by' := 112) rfl rfl rfl rfl rfl (by kernel_rfl) rfl rfl rfl (by simp) (by first | (simp [dR]; done) | (simp [dR]; omega)) rfl rfl) ?_
      refine .cons (.fB 6 0 false rfl rfl rfl) ?_
      refine .cons (.sT 1 false rfl rfl rfl rfl rfl rfl rfl) ?_
      refine .nil ⟨by kernel_rfl, ?_⟩
      refine kb_n ?_
      refine ks_n ?_
      refine ACode.region ?_
      refine .cons (.pl rfl rfl rfl) ?_
      refine .cons (.mv rfl rfl) ?_
      refine .nil ?_
      refine kl_k [(0, 0), (110, 110), (111, 111), (112, 142)] (.inr ⟨1, rfl, by omega, by omega, rfl⟩) ⟨ks rfl (.c (.fb _ _ _ _ (by first | decide | simp))), ks rfl .dt, ks rfl (.c .bx), ks rfl (.c .bx), ks rfl .dt, ks rfl .dt, ks rfl .dt, kb 0 rfl (.dt rfl (by first | exact kid_row hx1 | exact kid_row1 hx1 | rfl | (simp; done))), kb 110 rfl (.cons (.cons .dt (.cons .dt (.cons .dt (.cons .dt (.cons .dt (.cons .dt (.cons .dt Ctos.nil))))))) .nil), kb 142 rfl (.dt rfl (by first | exact dR_take (fun x => rX (mapE g x)) hx1 | exact dR_take1 (fun x => rX (mapE g x)) hx1 | rfl | (simp [dR]; done))), kb 111 rfl (.cons (.cons .dt (.cons .dt (.cons (.dt (by first | rfl | (simp [*]; done) | (simp [*]; rfl))) (.cons (.dt (by first | rfl | (simp [*]; done) | (simp [*]; rfl))) (.cons (.dt (by first | rfl | (simp [*]; done) | (simp [*]; rfl))) (.cons (.dt (by first | rfl | (simp [*]; done) | (simp [*]; rfl))) (.cons .ow Ctos.nil))))))) .nil), trivial⟩
    · skip
      have hn : e.ks = [] := List.eq_nil_of_length_eq_zero (by omega)
      refine ACode.exit ?_
      refine ks_e ?_
      refine kl_e ?_
      refine kb_hit ?_
      refine ks_n ?_
      refine ACode.seq ?_
      refine ACode.region ?_
      refine .cons (.bN 7 rfl rfl rfl rfl rfl rfl) ?_
      refine .cons (.sT 7 true rfl rfl rfl rfl rfl rfl rfl) ?_
      refine .nil ?_
      refine ks_n ?_
      refine ACode.ret ?_
      refine kf_wret [(.t 4, .v (.o (.c (.box 100 7 0 0)))), (.b 0, .b 3 1 (dR ([rI ((affsE e).foldl c n)]))), (.u 0, .u), (.b 100, .b 31 7 [[.d (dI e.k), .d (dI e.n), .d (dIs (if e.k = 2 then g e.i else ([], 0)).1), .d (dI (if e.k = 2 then g e.i else ([], 0)).2), .d (dS (if e.k = 3 then mapC g e.r else (ByteArray.empty, [])).1), .d (dAs (if e.k = 3 then mapC g e.r else (ByteArray.empty, [])).2), .d (dEs (e.ks.map (mapE g)))]]), (.u 100, .u)] (Wk.keep [(0, 0), (100, 110)] rfl rfl ⟨ks rfl (.c .bx), kb 0 rfl (.dt rfl (by rw [affsE_fold]; first | rfl | (rw [hn]; rfl) | (rw [List.take_length]; done))), kb 110 rfl (.cons (.cons .dt (.cons .dt (.cons (.dt (by first | rfl | (simp [*]; done) | (simp [*]; rfl))) (.cons (.dt (by first | rfl | (simp [*]; done) | (simp [*]; rfl))) (.cons (.dt (by first | rfl | (simp [*]; done) | (simp [*]; rfl))) (.cons (.dt (by first | rfl | (simp [*]; done) | (simp [*]; rfl))) (.cons (Cto.nilE 7 (by rw [hn]; rfl)) Ctos.nil))))))) .nil), trivial⟩) rfl ?_ (hbI_box rfl)
      rw [rX_map]; rfl
  · skip
    refine ACode.seq ?_
    refine ACode.region ?_
    refine .cons (.ls rfl rfl rfl) ?_
    refine .nil ?_
    refine ks_n ?_
    refine ACode.seq ?_
    refine .cD rfl (fun h33 => ?_) (fun h33 => ?_)
    · skip
      obtain ⟨x, hx1⟩ : ∃ x, e.ks[i]? = some x := ⟨_, List.getElem?_eq_getElem (by omega)⟩
      refine ACode.skip ?_
      refine ks_n ?_
      refine ACode.seq ?_
      refine ACode.block ?_
      refine ACode.seq ?_
      refine ACode.region ?_
      refine .cons (.xL 31 7 112 rfl rfl rfl rfl rfl (rE_at hx1)) ?_
      refine .cons (.lN 7 rfl rfl rfl) ?_
      refine .cons (.al 107 [.int .i64 0, .int .i64 0, .slice none 0 0, .int .i64 0, .string ByteArray.empty, .slice none 0 0, .slice none 0 0] rfl rfl rfl) ?_
      refine .cons (.sT 7 true rfl rfl rfl rfl rfl rfl rfl) ?_
      refine .nil ?_
      refine ks_n ?_
      refine ACode.drawK (by kernel_rfl) (by kernel_rfl) ?_
      refine .cons (.fB 6 0 false rfl rfl rfl) ?_
      refine .cons (.b1 1 rfl rfl rfl rfl rfl rfl) ?_
      refine .cons (.bN 7 rfl rfl rfl rfl rfl rfl) ?_
      refine .cons (.mv rfl rfl) ?_
      refine .cons (.cO [.tmp 38, .tmp 39] [(0, 0)] rfl rfl rfl rfl (ih x (List.mem_of_getElem? hx1) _) rfl ⟨rfl, trivial⟩ (hbI_flat _) (hbI_flat _) (hbI_HB _) outS_one) ?_
      refine .cons (.li 31 6 0 [.tmp 40] rfl rfl rfl rfl rfl rfl) ?_
      refine .cons (St1.appB (k' := 142) (e := 31) (sz := 6) (by' := 112) rfl rfl rfl rfl rfl (by kernel_rfl) rfl rfl rfl rfl (by first | (simp [dR]; done) | (simp [dR]; omega)) (by first | (simp [dR]; done) | (simp [dR]; omega)) rfl rfl rfl) ?_
      refine .cons (.fB 6 0 false rfl rfl rfl) ?_
      refine .cons (.sT 1 false rfl rfl rfl rfl rfl rfl rfl) ?_
      refine .nil ⟨by kernel_rfl, ?_⟩
      refine kb_n ?_
      refine ks_n ?_
      refine ACode.region ?_
      refine .cons (.pl rfl rfl rfl) ?_
      refine .cons (.mv rfl rfl) ?_
      refine .nil ?_
      refine kl_k [(0, 0), (110, 110), (111, 111), (112, 142)] (.inr ⟨i + 1, rfl, by omega, by omega, rfl⟩) ⟨ks rfl (.c (.fb _ _ _ _ (by first | decide | simp))), ks rfl .dt, ks rfl (.c .bx), ks rfl (.c .bx), ks rfl .dt, ks rfl .dt, ks rfl .dt, kb 0 rfl (.dt rfl (by first | exact kid_row hx1 | exact kid_row1 hx1 | rfl | (simp; done))), kb 110 rfl (.cons (.cons .dt (.cons .dt (.cons .dt (.cons .dt (.cons .dt (.cons .dt (.cons .dt Ctos.nil))))))) .nil), kb 142 rfl (.dt rfl (by first | exact dR_take (fun x => rX (mapE g x)) hx1 | exact dR_take1 (fun x => rX (mapE g x)) hx1 | rfl | (simp [dR]; done))), kb 111 rfl (.cons (.cons .dt (.cons .dt (.cons (.dt (by first | rfl | (simp [*]; done) | (simp [*]; rfl))) (.cons (.dt (by first | rfl | (simp [*]; done) | (simp [*]; rfl))) (.cons (.dt (by first | rfl | (simp [*]; done) | (simp [*]; rfl))) (.cons (.dt (by first | rfl | (simp [*]; done) | (simp [*]; rfl))) (.cons .ow Ctos.nil))))))) .nil), trivial⟩
    · skip
      obtain rfl : i = e.ks.length := by omega
      refine ACode.exit ?_
      refine ks_e ?_
      refine kl_e ?_
      refine kb_hit ?_
      refine ks_n ?_
      refine ACode.seq ?_
      refine ACode.region ?_
      refine .cons (.bN 7 rfl rfl rfl rfl rfl rfl) ?_
      refine .cons (.sT 7 true rfl rfl rfl rfl rfl rfl rfl) ?_
      refine .nil ?_
      refine ks_n ?_
      refine ACode.ret ?_
      refine kf_wret [(.t 4, .v (.o (.c (.box 100 7 0 0)))), (.b 0, .b 3 1 (dR ([rI ((affsE e).foldl c n)]))), (.u 0, .u), (.b 100, .b 31 7 [[.d (dI e.k), .d (dI e.n), .d (dIs (if e.k = 2 then g e.i else ([], 0)).1), .d (dI (if e.k = 2 then g e.i else ([], 0)).2), .d (dS (if e.k = 3 then mapC g e.r else (ByteArray.empty, [])).1), .d (dAs (if e.k = 3 then mapC g e.r else (ByteArray.empty, [])).2), .d (dEs (e.ks.map (mapE g)))]]), (.u 100, .u)] (Wk.keep [(0, 0), (100, 110)] rfl rfl ⟨ks rfl (.c .bx), kb 0 rfl (.dt rfl (by rw [affsE_fold]; first | rfl | (rw [hn]; rfl) | (rw [List.take_length]; done))), kb 110 rfl (.cons (.cons .dt (.cons .dt (.cons (.dt (by first | rfl | (simp [*]; done) | (simp [*]; rfl))) (.cons (.dt (by first | rfl | (simp [*]; done) | (simp [*]; rfl))) (.cons (.dt (by first | rfl | (simp [*]; done) | (simp [*]; rfl))) (.cons (.dt (by first | rfl | (simp [*]; done) | (simp [*]; rfl))) (.cons (.fz rfl (by first | rfl | exact dR_ex _ _ | (rw [List.take_length]; done)) (by first | rfl | (simp; done) | (simp; omega)) (by omega)) Ctos.nil))))))) .nil), trivial⟩) rfl ?_ (hbI_box rfl)
      rw [rX_map]; rfl

theorem exprMapB_fn {f : FuncId} (hc : callable Try.prog f = true) (g : Aff → Aff) (c : Int → Aff → Int) : ∀ (e : Ex) (n : Int), szE e ≤ 1073741824 → (∀ x ∈ affsE e, ∀ n, Fn Try.prog f (hbI n) [ad (rA x), .c (.box 0 1 0 0)] (.o (ad (rA (g x)))) (hbI (c n x))) → Fn Try.prog 121 (hbI n) [ad (rX e), .c (.fb f 0 1)] (.o (ad (rX (mapE g e)))) (hbI ((affsE e).foldl c n)) := by
  intro e
  induction e using Ex.rec' with
  | h e ih =>
    intro n hs hg
    rw [szE_eq, szC] at hs
    have := szAs_len e.r.2
    exact exprMapB_one hc g c n e (by omega) (by omega) hg fun x hx n => ih x hx n (by have := szEs_mem hx; omega) fun a ha => hg a (affsE_k hx ha)

set_option maxRecDepth 100000 in
set_option maxHeartbeats 1600000 in
theorem stmtMapB_fn {f : FuncId} (hc : callable Try.prog f = true) (g : Aff → Aff) (c : Int → Aff → Int) (n : Int) (s : Stm) (hs : szS s ≤ 1073741824) (hg : ∀ x ∈ affsS s, ∀ n, Fn Try.prog f (hbI n) [ad (rA x), .c (.box 0 1 0 0)] (.o (ad (rA (g x)))) (hbI (c n x))) : Fn Try.prog 60 (hbI n) [ad (rS s), .c (.fb f 0 1)] (.o (ad (rS (mapS g s)))) (hbI ((affsS s).foldl c n)) := by
  have h1 : s.1.2.length ≤ 1073741824 := by rw [szS, szC] at hs; have := szAs_len s.1.2; omega
  have h2 : szE s.2 ≤ 1073741824 := by rw [szS] at hs; omega
  refine Fn.of_code Try.func60 rfl rfl (hbI_HB _) rfl rfl (hbI_HB _) rfl (hbI_num _ _) ?_
  refine ACode.seq ?_
  refine ACode.region ?_
  refine .cons (St1.boxP rfl rfl rfl rfl rfl rfl) ?_
  refine .cons (.al 104 [.string ByteArray.empty, .slice none 0 0, .int .i64 0, .int .i64 0, .slice none 0 0, .int .i64 0, .string ByteArray.empty, .slice none 0 0, .slice none 0 0] rfl rfl rfl) ?_
  refine .nil ?_
  refine ks_n ?_
  refine ACode.seq ?_
  refine ACode.drawK (by kernel_rfl) (by kernel_rfl) ?_
  refine .cons (.fP 0 1 true rfl rfl) ?_
  refine .cons (.lN 2 rfl rfl rfl) ?_
  refine .cons (.mv rfl rfl) ?_
  refine .cons (.cO [.tmp 6, .tmp 7] [(0, 0)] rfl rfl rfl rfl (accMapB_fn hc g c n s.1 h1 (fun x hx => hg x (by rw [affsS]; exact List.mem_append_left _ hx))) rfl ⟨rfl, trivial⟩ (hbI_flat _) (hbI_flat _) (hbI_HB _) outS_one) ?_
  refine .cons (.fP 2 6 true rfl rfl) ?_
  refine .cons (.lN 7 rfl rfl rfl) ?_
  refine .cons (.mv rfl rfl) ?_
  refine .cons (.cO [.tmp 10, .tmp 11] [(0, 0)] rfl rfl rfl rfl (exprMapB_fn hc g c s.2 _ h2 (fun x hx => hg x (by rw [affsS]; exact List.mem_append_right _ hx))) rfl ⟨rfl, trivial⟩ (hbI_flat _) (hbI_flat _) (hbI_HB _) outS_one) ?_
  refine .cons (.bu [(0, .tmp 8), (1, .tmp 12)] [(0, 2), (2, 7)] [.string ByteArray.empty, .slice none 0 0, .int .i64 0, .int .i64 0, .slice none 0 0, .int .i64 0, .string ByteArray.empty, .slice none 0 0, .slice none 0 0] rfl rfl rfl rfl rfl) ?_
  refine .cons (.sT 9 true rfl rfl rfl rfl rfl rfl rfl) ?_
  refine .nil ⟨by kernel_rfl, ?_⟩
  refine ks_n ?_
  refine ACode.ret ?_
  refine kf_ret rfl ?_ (hbI_box (by rw [affsS, List.foldl_append]; rfl))
  rfl

def depC (n : Int) (x : Aff) : Int := max n (affDepth x : Nat)
/-- The depth of a statement. -/
def depS (s : Stm) : Int := if stmtV 4 s = true then (affsS s).foldl depC 0 else 0

set_option maxRecDepth 100000 in
set_option maxHeartbeats 1600000 in
theorem implDepth_fn (s : Stm) (hs : szS s ≤ 1073741824) : Fn Try.prog 18 [] [ad (rS s)] (.o (nat1 (depS s))) [] := by
  refine Fn.code0 Try.func18 rfl rfl rfl rfl ?_
  refine ACode.seq ?_
  refine ACode.region ?_
  refine .cons (St1.boxP rfl rfl rfl rfl rfl rfl) ?_
  refine .cons (.asg rfl rfl) ?_
  refine .nil ?_
  refine ks_n ?_
  refine ACode.seq ?_
  refine ACode.seq ?_
  refine ACode.region ?_
  refine .cons (.lN 9 rfl rfl rfl) ?_
  refine .cons (.cP [.tmp 4] rfl rfl rfl rfl (isStmt_fn s (by omega)) rfl) ?_
  refine .cons (.nt rfl rfl) ?_
  refine .nil ?_
  refine ks_n ?_
  refine ACode.condT rfl (fun h6 => ?_) (fun h6 => ?_)
  · try simp only [List.length_map, decide_eq_true_eq, decide_eq_false_iff_not, Bool.not_eq_true', Bool.not_eq_false', Bool.not_eq_true, Bool.not_eq_false] at h6
    refine ACode.seq ?_
    refine ACode.region ?_
    refine .cons (.asg rfl rfl) ?_
    refine .nil ?_
    refine ks_n ?_
    refine ACode.ret ?_
    refine ks_r ?_
    refine kf_wret [(.t 2, .v (.o (nat1 (depS s))))] (Wk.keep [] rfl rfl ⟨ks rfl (.dt (by rw [depS, h6]; rfl)), trivial⟩) rfl ?_ nobox
    rfl
  · try simp only [List.length_map, decide_eq_true_eq, decide_eq_false_iff_not, Bool.not_eq_true', Bool.not_eq_false', Bool.not_eq_true, Bool.not_eq_false] at h6
    refine ACode.skip ?_
    refine ks_n ?_
    refine ACode.seq ?_
    refine ACode.region ?_
    refine .cons (.al 103 [.int .i64 0] rfl rfl rfl) ?_
    refine .cons (.sT 1 false rfl rfl rfl rfl rfl rfl rfl) ?_
    refine .nil ?_
    refine ks_n ?_
    refine ACode.seq ?_
    refine ACode.region ?_
    refine .cons (.lN 9 rfl rfl rfl) ?_
    refine .cons (St1.makeFuncB rfl rfl rfl rfl rfl rfl rfl) ?_
    refine .cons (.cO [.tmp 7, .tmp 8] [(0, 103)] rfl rfl rfl rfl (stmtMapB_fn (f := 61) (by kernel_rfl) id depC 0 s hs (fun x _ n => depth1_fn x n)) rfl ⟨rfl, trivial⟩ (hbI_flat _) (hbI_flat _) (hbI_HB _) outS_one) ?_
    refine .nil ?_
    refine ks_n ?_
    refine ACode.seq ?_
    refine ACode.region ?_
    refine .cons (.b1 1 rfl rfl rfl rfl rfl rfl) ?_
    refine .cons (.asg rfl rfl) ?_
    refine .nil ?_
    refine ks_n ?_
    refine ACode.ret ?_
    refine kf_wret [(.t 2, .v (.o (nat1 (depS s))))] (Wk.keep [] rfl rfl ⟨ks rfl (.dt (by rw [depS, h6]; rfl)), trivial⟩) rfl ?_ nobox
    rfl

end Go.Proofs.Ytigdfdhjnadieaa

/- Plain laws of statements: maps over their affine parts; no condition. -/
namespace Go.Proofs.Ytigdfdhjnadieaa
set_option linter.unusedVariables false
set_option linter.unusedSimpArgs false
open Go.RowKit

theorem mapE_congr' {f g : Aff → Aff} : ∀ e : Ex, (∀ x ∈ affsE e, f x = g x) → mapE f e = mapE g e := by
  refine Ex.rec' fun e ih h => ?_
  rw [mapE_eq, mapE_eq]
  congr 1
  · split
    · next h2 => exact h _ (affsE_i h2)
    · rfl
  · split
    · next h2 => rw [mapC, mapC]; exact Prod.ext rfl (List.map_congr_left fun x hx => h x (affsE_r h2 hx))
    · rfl
  · exact List.map_congr_left fun x hx => ih x hx fun y hy => h y (affsE_k hx hy)
theorem mapE_congr {f g : Aff → Aff} {e : Ex} (h : ∀ x ∈ affsE e, f x = g x) : mapE f e = mapE g e := mapE_congr' e h
theorem mapS_congr {f g : Aff → Aff} {s : Stm} (h : ∀ x ∈ affsS s, f x = g x) : mapS f s = mapS g s := by
  rw [mapS, mapS, mapE_congr (fun x hx => h x (by rw [affsS]; simp [hx]))]
  rw [mapC, mapC]
  exact Prod.ext (Prod.ext rfl (List.map_congr_left fun x hx => h x (by rw [affsS]; simp [hx]))) rfl
theorem mapC_comp (f g : Aff → Aff) (a : Acc) : mapC g (mapC f a) = mapC (fun x => g (f x)) a := by
  simp [mapC, Function.comp_def]
theorem mapE_comp (f g : Aff → Aff) : ∀ e : Ex, mapE g (mapE f e) = mapE (fun x => g (f x)) e := by
  refine Ex.rec' fun e ih => ?_
  obtain ⟨k, n, i, r, ks⟩ := e
  simp only [mapE, mapEs_map, List.map_map]
  congr 1
  · split <;> rfl
  · split
    · exact mapC_comp f g r
    · rfl
  · exact List.map_congr_left fun x hx => ih x hx
theorem mapS_comp (f g : Aff → Aff) (s : Stm) : mapS g (mapS f s) = mapS (fun x => g (f x)) s := by
  rw [mapS, mapS, mapS, mapC_comp, mapE_comp]
theorem rdE_map (g : Aff → Aff) : ∀ e : Ex, rdE (mapE g e) = (rdE e).map (mapC g) := by
  refine Ex.rec' fun e ih => ?_
  obtain ⟨k, n, i, r, ks⟩ := e
  simp only [mapE, mapEs_map, rdE, List.map_append]
  replace ih : ∀ x ∈ ks, rdE (mapE g x) = (rdE x).map (mapC g) := ih
  congr 1
  · split <;> simp
  · induction ks with
    | nil => rfl
    | cons y l ihl =>
      rw [List.map_cons, rdEs, rdEs, List.map_append, ih y (by simp), ihl fun x hx => ih x (by simp [hx])]
theorem rdE_aff {a : Acc} : ∀ e : Ex, a ∈ rdE e → ∀ x ∈ a.2, x ∈ affsE e := by
  refine Ex.rec' fun e ih h x hx => ?_
  rw [rdE_eq] at h
  rcases List.mem_append.1 h with h | h
  · split at h
    · next h3 => rw [List.mem_singleton] at h; subst h; exact affsE_r h3 hx
    · cases h
  · have : ∀ l : List Ex, a ∈ rdEs l → ∃ y ∈ l, a ∈ rdE y := by
      intro l
      induction l with
      | nil => intro h; cases h
      | cons y l ihl =>
        intro h
        rw [rdEs] at h
        rcases List.mem_append.1 h with h | h
        · exact ⟨y, by simp, h⟩
        · obtain ⟨z, h1, h2⟩ := ihl h; exact ⟨z, by simp [h1], h2⟩
    obtain ⟨y, hy, hay⟩ := this _ h
    exact affsE_k hy (ih y hy hay x hx)
theorem getD_set4 (a : List Int) (i j : Nat) (v : Int) (h : j < a.length) : (a.set i v).getD j 0 = if i = j then v else a.getD j 0 := by
  rw [List.getD_eq_getElem?_getD, List.getD_eq_getElem?_getD, List.getElem?_set]
  split
  · next e => subst e; rw [if_pos h]; rfl
  · rfl
theorem subst_const (x : Aff) (v : Nat) (m : Int) (h : x.1.length = 4) : affSubst x v ([0, 0, 0, 0], m) = (x.1.set v 0, x.2 + x.1.getD v 0 * m) := by
  obtain ⟨l, n⟩ := x
  match l, h with
  | [a, b, c, d], _ =>
    match v with
    | 0 => simp [affSubst, affSum]
    | 1 => simp [affSubst, affSum]
    | 2 => simp [affSubst, affSum]
    | 3 => simp [affSubst, affSum]
    | v + 4 => simp [affSubst, affSum]
theorem subst_swap (x : Aff) (m n : Int) (h : x.1.length = 4) : affSubst (affSubst x 0 ([0, 0, 0, 0], m)) 1 ([0, 0, 0, 0], n) = affSubst (affSubst x 1 ([0, 0, 0, 0], n)) 0 ([0, 0, 0, 0], m) := by
  rw [subst_const x 0 m h, subst_const x 1 n h, subst_const _ _ _ (by simp [h]), subst_const _ _ _ (by simp [h])]
  obtain ⟨l, k⟩ := x
  match l, h with
  | [a, b, c, d], _ => simp; omega
theorem subst_id (x : Aff) (v : Nat) (h : x.1.length = 4) (hv : v < 4) : affSubst x v (([0, 0, 0, 0] : List Int).set v 1, 0) = x := by
  obtain ⟨l, n⟩ := x
  match l, h with
  | [a, b, c, d], _ =>
    match v, hv with
    | 0, _ => simp [affSubst, affSum]
    | 1, _ => simp [affSubst, affSum]
    | 2, _ => simp [affSubst, affSum]
    | 3, _ => simp [affSubst, affSum]
theorem rdS_len (s : Stm) : (rdS s).length ≤ 12 := by
  rw [rdS]
  split
  · next h => exact Nat.le_trans (rdE_len _) (stmtV_ex h).2.2.1
  · exact Nat.zero_le _
theorem rdE_sz {a : Acc} : ∀ e : Ex, a ∈ rdE e → szC a ≤ szE e := by
  refine Ex.rec' fun e ih h => ?_
  have he := szE_eq e
  rw [rdE_eq] at h
  rcases List.mem_append.1 h with h | h
  · split at h
    · rw [List.mem_singleton] at h; subst h; omega
    · cases h
  · have : ∀ l : List Ex, a ∈ rdEs l → ∃ y ∈ l, a ∈ rdE y := by
      intro l
      induction l with
      | nil => intro h; cases h
      | cons y l ihl =>
        intro h
        rw [rdEs] at h
        rcases List.mem_append.1 h with h | h
        · exact ⟨y, by simp, h⟩
        · obtain ⟨z, h1, h2⟩ := ihl h; exact ⟨z, by simp [h1], h2⟩
    obtain ⟨y, hy, hay⟩ := this _ h
    have := ih y hy hay
    have := szEs_mem hy
    omega
theorem rdS_sz {s : Stm} {a : Acc} (h : a ∈ rdS s) : a.2.length ≤ szS s := by
  rw [rdS] at h
  split at h
  · have := rdE_sz _ h
    have h2 := szAs_len a.2
    rw [szC] at this
    rw [szS]; omega
  · cases h
theorem sameS_self (s : Stm) : sameS s s = true := sameS_iff.2 rfl
theorem stm_len {d : Int} {s : Stm} (h : stmtV d s = true) : ∀ x ∈ affsS s, x.1.length = 4 := fun x hx => affV_len (stmtV_aff h x hx).1
theorem affs_map {g : Aff → Aff} : ∀ {e : Ex}, ∀ a ∈ affsE (mapE g e), ∃ b ∈ affsE e, a = g b := by
  intro e
  induction e using Ex.rec' with
  | h e ih =>
    intro a ha
    rw [mapE_eq, affsE] at ha
    rcases List.mem_append.1 ha with ha | ha
    · split at ha
      · next hk => rw [List.mem_singleton] at ha; exact ⟨e.i, affsE_i hk, by simpa [hk] using ha⟩
      · cases ha
    · rcases List.mem_append.1 ha with ha | ha
      · split at ha
        · next hk =>
          have ha : a ∈ (mapC g e.r).2 := by simpa [hk] using ha
          rw [mapC] at ha
          obtain ⟨b, hb, rfl⟩ := List.mem_map.1 ha
          exact ⟨b, affsE_r hk hb, rfl⟩
        · cases ha
      · obtain ⟨y, hy, hay⟩ := affsEs_of ha
        obtain ⟨z, hz, rfl⟩ := List.mem_map.1 hy
        obtain ⟨b, hb, e⟩ := ih z hz a hay
        exact ⟨b, affsE_k hz hb, e⟩
theorem affsS_map {g : Aff → Aff} {s : Stm} : ∀ a ∈ affsS (mapS g s), ∃ b ∈ affsS s, a = g b := by
  intro a ha
  rw [affsS, mapS] at ha
  rcases List.mem_append.1 ha with ha | ha
  · obtain ⟨b, hb, rfl⟩ := List.mem_map.1 ha
    exact ⟨b, by rw [affsS]; simp [hb], rfl⟩
  · obtain ⟨b, hb, e⟩ := affs_map a ha
    exact ⟨b, by rw [affsS]; simp [hb], e⟩
end Go.Proofs.Ytigdfdhjnadieaa

/- Plain laws of statements: depth and validity; no condition. -/
namespace Go.Proofs.Ytigdfdhjnadieaa
set_option linter.unusedVariables false
set_option linter.unusedSimpArgs false
open Go.RowKit

theorem depC_le {l : List Aff} : ∀ {n m : Int}, (l.foldl depC n ≤ m ↔ n ≤ m ∧ ∀ x ∈ l, (affDepth x : Int) ≤ m) := by
  induction l with
  | nil => intro n m; simp
  | cons y l ih =>
    intro n m
    rw [List.foldl_cons, ih, depC]
    constructor
    · rintro ⟨h1, h2⟩
      refine ⟨by omega, fun x hx => ?_⟩
      rcases List.mem_cons.1 hx with rfl | hx
      · omega
      · exact h2 x hx
    · rintro ⟨h1, h2⟩
      have := h2 y (by simp)
      exact ⟨by omega, fun x hx => h2 x (by simp [hx])⟩
theorem depC_ge {l : List Aff} : ∀ {n : Int}, n ≤ l.foldl depC n := fun {n} => ((depC_le (l := l) (n := n) (m := l.foldl depC n)).1 (Int.le_refl _)).1
theorem accV_dep {d D : Nat} {a : Acc} (h : accV D a = true) : accV d a = true ↔ ∀ x ∈ a.2, affDepth x ≤ d := by
  simp only [accV, sideV, bndV, Bool.and_eq_true, List.all_eq_true, decide_eq_true_eq] at *
  exact ⟨fun h2 x hx => (h2.2.1.1 x hx).2, fun h2 => ⟨h.1, ⟨⟨fun x hx => ⟨(h.2.1.1 x hx).1, h2 x hx⟩, h.2.1.2⟩, h.2.2⟩⟩⟩
theorem fldV_dep {d D : Nat} {k n : Int} {i : Aff} {r : Acc} (h : fldV D k n i r = true) : fldV d k n i r = true ↔ ((k = 2 → affDepth i ≤ d) ∧ (k = 3 → ∀ x ∈ r.2, affDepth x ≤ d)) := by
  unfold fldV at *
  split at h
  · next h1 => rw [if_pos h1, h]; exact iff_of_true rfl ⟨fun h2 => by omega, fun h2 => by omega⟩
  · next h1 =>
    rw [if_neg h1]
    split at h
    · next h2 =>
      rw [if_pos h2]
      simp only [Bool.and_eq_true, decide_eq_true_eq] at h ⊢
      exact ⟨fun h3 => ⟨fun _ => h3.1.2.2, fun h4 => by omega⟩, fun h3 => ⟨⟨h.1.1, h.1.2.1, h3.1 h2⟩, h.2⟩⟩
    · next h2 =>
      rw [if_neg h2]
      split at h
      · next h3 =>
        rw [if_pos h3]
        simp only [Bool.and_eq_true] at h ⊢
        exact ⟨fun h4 => ⟨fun h5 => absurd h5 h2, fun _ => (accV_dep h.2).1 h4.2⟩, fun h4 => ⟨h.1, (accV_dep h.2).2 (h4.2 h3)⟩⟩
      · next h3 => rw [if_neg h3, h]; exact iff_of_true rfl ⟨fun h4 => absurd h4 h2, fun h4 => absurd h4 h3⟩
theorem exV_dep {d D : Nat} : ∀ {L : Nat} {e : Ex}, exV D L e = true → (exV d L e = true ↔ ∀ x ∈ affsE e, affDepth x ≤ d)
  | 0, e, h => by cases h
  | L + 1, e, h => by
    rw [exV, Bool.and_eq_true, Bool.and_eq_true, List.all_eq_true] at h
    rw [exV, Bool.and_eq_true, Bool.and_eq_true, List.all_eq_true, fldV_dep h.1.2, affsE_eq]
    constructor
    · rintro ⟨⟨_, h1, h2⟩, h3⟩ x hx
      rcases List.mem_append.1 hx with hx | hx
      · split at hx
        · next hk => rw [List.mem_singleton] at hx; subst hx; exact h1 hk
        · cases hx
      · rcases List.mem_append.1 hx with hx | hx
        · split at hx
          · next hk => exact h2 hk x hx
          · cases hx
        · obtain ⟨y, hy, hxy⟩ := affsEs_of hx
          exact (exV_dep (h.2 y hy)).1 (h3 y hy) x hxy
    · intro h1
      refine ⟨⟨h.1.1, fun hk => h1 _ (by rw [if_pos hk]; simp), fun hk x hx => h1 _ (by rw [if_pos hk]; simp [hx])⟩, fun y hy => (exV_dep (h.2 y hy)).2 fun x hx => h1 x ?_⟩
      exact List.mem_append_right _ (List.mem_append_right _ (affsEs_mem hy x hx))
theorem stmtV_dep {s : Stm} {D n : Int} (hv : stmtV D s = true) (hn : 0 ≤ n ∧ n ≤ 4) : stmtV n s = true ↔ (affsS s).foldl depC 0 ≤ n := by
  obtain ⟨h1, h2, h3, h4, h5⟩ := stmtV_ex hv
  rw [stmtV_s hn, Bool.and_eq_true, Bool.and_eq_true, decide_eq_true_eq, accV_dep h2, exV_dep h1, depC_le]
  constructor
  · rintro ⟨⟨a, b⟩, _⟩
    refine ⟨hn.1, fun x hx => ?_⟩
    rw [affsS] at hx
    rcases List.mem_append.1 hx with hx | hx
    · have := a x hx; omega
    · have := b x hx; omega
  · rintro ⟨_, a⟩
    refine ⟨⟨fun x hx => ?_, fun x hx => ?_⟩, h3⟩
    · have := a x (by rw [affsS]; simp [hx]); omega
    · have := a x (by rw [affsS]; simp [hx]); omega
theorem stmtV_up {s : Stm} {d : Int} (h : stmtV d s = true) : stmtV 4 s = true := by
  have h5 := (stmtV_ex h).2.2.2
  have := (stmtV_dep h h5).1 h
  exact (stmtV_dep h (by omega)).2 (by omega)
theorem depS_eq {s : Stm} (h : stmtV 4 s = true) : depS s = (affsS s).foldl depC 0 := if_pos h
theorem depS_bd {s : Stm} : 0 ≤ depS s ∧ depS s ≤ 4 := by
  rw [depS]
  split
  · next h => exact ⟨depC_ge, (stmtV_dep h (by omega)).1 h⟩
  · omega
theorem stmtV_iff {s : Stm} (h : stmtV 4 s = true) {n : Int} (hn : 0 ≤ n ∧ n ≤ 4) : stmtV n s = true ↔ depS s ≤ n := by rw [depS_eq h]; exact stmtV_dep h hn
theorem depS_le {s : Stm} (h : stmtV 4 s = true) {m : Int} (hm : 0 ≤ m) : depS s ≤ m ↔ ∀ x ∈ affsS s, (affDepth x : Int) ≤ m := by
  rw [depS_eq h, depC_le]; exact ⟨fun h => h.2, fun h => ⟨hm, h⟩⟩
end Go.Proofs.Ytigdfdhjnadieaa

/- Depth of statements, of the reference; condition: small lists. -/
namespace Go.Proofs.Ytigdfdhjnadieaa
set_option linter.unusedVariables false
set_option linter.unusedSimpArgs false
open Go.RowKit

theorem dep_found {s : Stm} (h : stmtV 4 s = true) {i : Nat} (hi : i ≤ 4) (hj : (i : Int) ≤ depS s) (hx : stmtV (i : Nat) s = true) : depS s = i := by
  have := (stmtV_iff h (n := (i : Int)) (by omega)).1 hx
  omega
theorem dep_next {s : Stm} (h : stmtV 4 s = true) {i : Nat} (hi : i < 4) (hx : stmtV (i : Nat) s = false) : ((i + 1 : Nat) : Int) ≤ depS s := by
  have h2 := stmtV_iff h (n := (i : Int)) (by omega)
  rw [hx] at h2
  have : ¬ depS s ≤ (i : Int) := fun h3 => by cases h2.2 h3
  omega

set_option maxRecDepth 100000 in
set_option maxHeartbeats 1600000 in
theorem specDepth_fn (s : Stm) (hs : szS s ≤ 1073741824) : Fn Try.prog 19 [] [ad (rS s)] (.o (nat1 (depS s))) [] := by
  have hdb := depS_bd (s := s)
  refine Fn.code0 Try.func19 rfl rfl rfl rfl ?_
  refine ACode.seq ?_
  refine ACode.region ?_
  refine .cons (St1.boxP rfl rfl rfl rfl rfl rfl) ?_
  refine .cons (.asg rfl rfl) ?_
  refine .nil ?_
  refine ks_n ?_
  refine ACode.seq ?_
  refine ACode.seq ?_
  refine ACode.region ?_
  refine .cons (.lN 9 rfl rfl rfl) ?_
  refine .cons (.cP [.tmp 4, .const (.int .i64 (4))] rfl rfl rfl rfl (specStmtV_fn 4 s (by omega)) rfl) ?_
  refine .cons (.nt rfl rfl) ?_
  refine .nil ?_
  refine ks_n ?_
  refine ACode.condT rfl (fun h6 => ?_) (fun h6 => ?_)
  · try simp only [List.length_map, decide_eq_true_eq, decide_eq_false_iff_not, Bool.not_eq_true', Bool.not_eq_false', Bool.not_eq_true, Bool.not_eq_false] at h6
    refine ACode.seq ?_
    refine ACode.region ?_
    refine .cons (.asg rfl rfl) ?_
    refine .nil ?_
    refine ks_n ?_
    refine ACode.ret ?_
    refine ks_r ?_
    refine kf_wret [(.t 2, .v (.o (nat1 (depS s))))] (Wk.keep [] rfl rfl ⟨ks rfl (.dt (by rw [depS, h6]; rfl)), trivial⟩) rfl ?_ nobox
    rfl
  · try simp only [List.length_map, decide_eq_true_eq, decide_eq_false_iff_not, Bool.not_eq_true', Bool.not_eq_false', Bool.not_eq_true, Bool.not_eq_false] at h6
    refine ACode.skip ?_
    refine ks_n ?_
    refine ACode.seq ?_
    refine ACode.region ?_
    refine .cons (.asg rfl rfl) ?_
    refine .nil ?_
    refine ks_n ?_
    refine ACode.seq ?_
    refine ACode.block ?_
    refine .loopK (fun m σ => (∃ i : Nat, m = 4 - i ∧ (i ≤ 4) ∧ ((i : Int) ≤ depS s) ∧ σ = [(.t 1, .v (.o (.c (.ptr (rS s))))), (.t 3, .v (.o (nat1 (i : Nat))))])) [] ⟨0, rfl, by omega, by omega, rfl⟩ ⟨ks rfl .dt, ks rfl .dt, trivial⟩ ?_
    rintro m σ ⟨i, hm0, hi, hF, rfl⟩
    refine ACode.seq ?_
    refine ACode.seq ?_
    refine ACode.region ?_
    refine .cons (.mv rfl rfl) ?_
    refine .cons (.ls rfl rfl rfl) ?_
    refine .cons (.mv rfl rfl) ?_
    refine .cD 9 rfl (fun g9 => ?_) (fun g9 => ?_)
    · skip
      refine .cons (.gT rfl rfl rfl (.lN 9 rfl rfl rfl)) ?_
      refine .cons (.gT rfl rfl rfl (.mv rfl rfl)) ?_
      refine .cons (.gT rfl rfl rfl (.cP [.tmp 10, .tmp 11] rfl rfl rfl rfl (specStmtV_fn (i : Nat) s (by omega)) rfl)) ?_
      refine .cons (.gT rfl rfl rfl (.nt rfl rfl)) ?_
      refine .cons (.pT rfl rfl rfl) ?_
      refine .nil ?_
      refine ks_n ?_
      refine ACode.condT rfl (fun h14 => ?_) (fun h14 => ?_)
      · try simp only [List.length_map, decide_eq_true_eq, decide_eq_false_iff_not, Bool.not_eq_true', Bool.not_eq_false', Bool.not_eq_true, Bool.not_eq_false] at h14
        refine ACode.skip ?_
        refine ks_n ?_
        refine ACode.block ?_
        refine ACode.region ?_
        refine .cons (.mv rfl rfl) ?_
        refine .cons (.pl rfl rfl rfl) ?_
        refine .cons (.asg rfl rfl) ?_
        refine .nil ?_
        refine kb_n ?_
        refine kl_k [] ⟨i + 1, rfl, by omega, by exact dep_next h6 (by omega) (by assumption), rfl⟩ ⟨ks rfl .dt, ks rfl .dt, trivial⟩
      · try simp only [List.length_map, decide_eq_true_eq, decide_eq_false_iff_not, Bool.not_eq_true', Bool.not_eq_false', Bool.not_eq_true, Bool.not_eq_false] at h14
        refine ACode.exit ?_
        refine ks_e ?_
        refine kl_e ?_
        refine kb_hit ?_
        refine ks_n ?_
        refine ACode.seq ?_
        refine ACode.region ?_
        refine .cons (.mv rfl rfl) ?_
        refine .cons (.asg rfl rfl) ?_
        refine .nil ?_
        refine ks_n ?_
        refine ACode.ret ?_
        refine kf_wret [(.t 2, .v (.o (nat1 (depS s))))] (Wk.keep [] rfl rfl ⟨ks rfl (.dt (by first | (rw [dep_found h6 hi hF (by assumption)]; done) | (have : (i : Int) = depS s := by omega); rw [this])), trivial⟩) rfl ?_ nobox
        rfl
    · skip
      refine .cons (.gF rfl rfl rfl) ?_
      refine .cons (.gF rfl rfl rfl) ?_
      refine .cons (.gF rfl rfl rfl) ?_
      refine .cons (.gF rfl rfl rfl) ?_
      refine .cons (.pF rfl rfl rfl) ?_
      refine .nil ?_
      refine ks_n ?_
      refine ACode.condT rfl (fun h => by first | (cases h; done) | (simp [*] at h; done) | (exfalso; simp_all; done)) (fun _ => ?_)
      refine ACode.exit ?_
      refine ks_e ?_
      refine kl_e ?_
      refine kb_hit ?_
      refine ks_n ?_
      refine ACode.seq ?_
      refine ACode.region ?_
      refine .cons (.mv rfl rfl) ?_
      refine .cons (.asg rfl rfl) ?_
      refine .nil ?_
      refine ks_n ?_
      refine ACode.ret ?_
      refine kf_wret [(.t 2, .v (.o (nat1 (depS s))))] (Wk.keep [] rfl rfl ⟨ks rfl (.dt (by first | (rw [dep_found h6 hi hF (by assumption)]; done) | (have : (i : Int) = depS s := by omega); rw [this])), trivial⟩) rfl ?_ nobox
      rfl

end Go.Proofs.Ytigdfdhjnadieaa

/- Law FnStmtValid; condition: bytes. -/
namespace Go.Proofs.Ytigdfdhjnadieaa
set_option linter.unusedVariables false
set_option linter.unusedSimpArgs false
open Go.RowKit

theorem dep_facts {s : Stm} {d : Int} (h : stmtV d s = true) : depS s ≤ d ∧ stmtV (depS s) s = true ∧ (depS s = 0 ∨ stmtV (depS s - 1) s = false) ∧ stmtV 4 s = true := by
  have h4 := stmtV_up h
  have hb := depS_bd (s := s)
  have h5 := (stmtV_ex h).2.2.2
  refine ⟨(stmtV_iff h4 h5).1 h, (stmtV_iff h4 hb).2 (Int.le_refl _), ?_, h4⟩
  by_cases h0 : depS s = 0
  · exact .inl h0
  · refine .inr ?_
    cases h6 : stmtV (depS s - 1) s with
    | false => rfl
    | true => have := (stmtV_iff h4 (n := depS s - 1) (by omega)).1 h6; omega

set_option maxRecDepth 100000 in
set_option maxHeartbeats 1600000 in
theorem stmtValid_core {bs : List Int} (hl : bs.length ≤ 1048576) {s : Stm} {d : Int} (hs : szS s ≤ 400) (hd : -1 ≤ d ∧ d ≤ 5) (hD : Fn Try.prog 15 [] [vD (dYs bs)] (.tup [ad (rS s), nat1 d]) []) : Fn Try.prog 3 [] [vD (dYs bs)] (.o (bo1 true)) [] := by
  have hb := depS_bd (s := s)
  refine Fn.code0 Try.func3 rfl rfl rfl rfl ?_
  refine ACode.seq ?_
  refine ACode.region ?_
  refine .cons (.asg rfl rfl) ?_
  refine .nil ?_
  refine ks_n ?_
  refine ACode.seq ?_
  refine ACode.seq ?_
  refine ACode.region ?_
  refine .cons (.mv rfl rfl) ?_
  refine .cons (.ln 5 1 1 rfl rfl rfl) ?_
  refine .cons (.gt rfl rfl rfl) ?_
  refine .nil ?_
  refine ks_n ?_
  refine .cD rfl (fun h9 => ?_) (fun h9 => ?_)
  · skip
    omega
  · skip
    refine ACode.skip ?_
    refine ks_n ?_
    refine ACode.seq ?_
    refine ACode.region ?_
    refine .cons (.mv rfl rfl) ?_
    refine .cons (.cP [.tmp 11] rfl rfl rfl rfl (hD) rfl) ?_
    refine .cons (.mv rfl rfl) ?_
    refine .cons (.ex rfl rfl rfl) ?_
    refine .cons (.ex rfl rfl rfl) ?_
    refine .cons (.al 103 [.string ByteArray.empty, .slice none 0 0, .int .i64 0, .int .i64 0, .slice none 0 0, .int .i64 0, .string ByteArray.empty, .slice none 0 0, .slice none 0 0] rfl rfl rfl) ?_
    refine .cons (.sT 9 true rfl rfl rfl rfl rfl rfl rfl) ?_
    refine .cons (.asg rfl rfl) ?_
    refine .nil ?_
    refine ks_n ?_
    refine ACode.seq ?_
    refine ACode.region ?_
    refine .cons (.bN 9 rfl rfl rfl rfl rfl rfl) ?_
    refine .cons (.mv rfl rfl) ?_
    refine .cons (.cP [.tmp 15, .tmp 16] rfl rfl rfl rfl (implStmtV_fn d s (by omega)) rfl) ?_
    refine .cons (.asg rfl rfl) ?_
    refine .nil ?_
    refine ks_n ?_
    refine ACode.seq ?_
    refine ACode.seq ?_
    refine ACode.region ?_
    refine .cons (.mv rfl rfl) ?_
    refine .cons (.bN 9 rfl rfl rfl rfl rfl rfl) ?_
    refine .cons (.mv rfl rfl) ?_
    refine .cons (.cP [.tmp 19, .tmp 20] rfl rfl rfl rfl (specStmtV_fn d s (by omega)) rfl) ?_
    refine .cons (St1.neqB rfl rfl rfl rfl (by kernel_rfl) rfl rfl) ?_
    refine .cons (.mv rfl rfl) ?_
    refine AOps.cases 23 _ rfl (fun g23 => ?_) (fun g23 => ?_)
    · try simp only [List.length_map, decide_eq_true_eq, decide_eq_false_iff_not, Bool.not_eq_true', Bool.not_eq_false', Bool.not_eq_true, Bool.not_eq_false] at g23
      refine .cons (.gF rfl rfl rfl) ?_
      refine .cons (.gF rfl rfl rfl) ?_
      refine .cons (.pT rfl rfl rfl) ?_
      refine .nil ?_
      refine ks_n ?_
      refine ACode.condT rfl (fun _ => ?_) (fun h => by first | (cases h; done) | (simp [*] at h; done) | (exfalso; simp_all; done))
      refine ACode.seq ?_
      refine ACode.region ?_
      refine .cons (.mv rfl rfl) ?_
      refine .cons (.bN 9 rfl rfl rfl rfl rfl rfl) ?_
      refine .cons (.mv rfl rfl) ?_
      refine .cons (.cP [.tmp 28, .tmp 29] rfl rfl rfl rfl (specStmtV_fn d s (by omega)) rfl) ?_
      refine .cons (St1.eqlB rfl rfl rfl rfl (by kernel_rfl) rfl rfl) ?_
      refine .cons (.asg rfl rfl) ?_
      refine .nil ?_
      refine ks_n ?_
      refine ACode.ret ?_
      refine ks_r ?_
      refine kf_ret rfl ?_ nobox
      first | rfl | (exfalso; omega) | exact leafB f4 | (exfalso; simp_all; done) | first | rfl | (exfalso; omega) | (exfalso; simp_all only [beq_self_eq_true, sameS_self, Bool.true_eq_false, reduceCtorEq]; done) | exact leafB (decide_eq_true (by omega)) | with_reducible exact leafB (sameS_self _) | exact leafB (by simp) | (exfalso; simp_all [sameS_self]; done) | grind
    · try simp only [List.length_map, decide_eq_true_eq, decide_eq_false_iff_not, Bool.not_eq_true', Bool.not_eq_false', Bool.not_eq_true, Bool.not_eq_false] at g23
      refine .cons (.gT rfl rfl rfl (.mv rfl rfl)) ?_
      refine .cons (.gT rfl rfl rfl (.nt rfl rfl)) ?_
      refine .cons (.pF rfl rfl rfl) ?_
      refine .nil ?_
      refine ks_n ?_
      refine ACode.condT rfl (fun h26 => ?_) (fun h26 => ?_)
      · try simp only [List.length_map, decide_eq_true_eq, decide_eq_false_iff_not, Bool.not_eq_true', Bool.not_eq_false', Bool.not_eq_true, Bool.not_eq_false] at h26
        refine ACode.seq ?_
        refine ACode.region ?_
        refine .cons (.mv rfl rfl) ?_
        refine .cons (.bN 9 rfl rfl rfl rfl rfl rfl) ?_
        refine .cons (.mv rfl rfl) ?_
        refine .cons (.cP [.tmp 28, .tmp 29] rfl rfl rfl rfl (specStmtV_fn d s (by omega)) rfl) ?_
        refine .cons (St1.eqlB rfl rfl rfl rfl (by kernel_rfl) rfl rfl) ?_
        refine .cons (.asg rfl rfl) ?_
        refine .nil ?_
        refine ks_n ?_
        refine ACode.ret ?_
        refine ks_r ?_
        refine kf_ret rfl ?_ nobox
        first | rfl | (exfalso; omega) | exact leafB f4 | (exfalso; simp_all; done) | first | rfl | (exfalso; omega) | (exfalso; simp_all only [beq_self_eq_true, sameS_self, Bool.true_eq_false, reduceCtorEq]; done) | exact leafB (decide_eq_true (by omega)) | with_reducible exact leafB (sameS_self _) | exact leafB (by simp) | (exfalso; simp_all [sameS_self]; done) | grind
      · try simp only [List.length_map, decide_eq_true_eq, decide_eq_false_iff_not, Bool.not_eq_true', Bool.not_eq_false', Bool.not_eq_true, Bool.not_eq_false] at h26
        obtain ⟨f1, f2, f3, f4⟩ := dep_facts h26
        refine ACode.skip ?_
        refine ks_n ?_
        refine ACode.seq ?_
        refine ACode.region ?_
        refine .cons (.bN 9 rfl rfl rfl rfl rfl rfl) ?_
        refine .cons (.cP [.tmp 32] rfl rfl rfl rfl (implDepth_fn s (by omega)) rfl) ?_
        refine .cons (.asg rfl rfl) ?_
        refine .nil ?_
        refine ks_n ?_
        refine ACode.seq ?_
        refine ACode.region ?_
        refine .cons (.mv rfl rfl) ?_
        refine .cons (.bN 9 rfl rfl rfl rfl rfl rfl) ?_
        refine .cons (.cP [.tmp 35] rfl rfl rfl rfl (specDepth_fn s (by omega)) rfl) ?_
        refine .cons (.eq rfl rfl rfl) ?_
        refine .cons (.mv rfl rfl) ?_
        refine .cD 38 rfl (fun g38 => ?_) (fun g38 => ?_)
        · skip
          refine .cons (.gT rfl rfl rfl (.mv rfl rfl)) ?_
          refine .cons (.gT rfl rfl rfl (.mv rfl rfl)) ?_
          refine .cons (.gT rfl rfl rfl (.le rfl rfl rfl)) ?_
          refine .cons (.pT rfl rfl rfl) ?_
          refine .cons (.mv rfl rfl) ?_
          refine AOps.cases 43 _ rfl (fun g43 => ?_) (fun g43 => ?_)
          · try simp only [List.length_map, decide_eq_true_eq, decide_eq_false_iff_not, Bool.not_eq_true', Bool.not_eq_false', Bool.not_eq_true, Bool.not_eq_false] at g43
            refine .cons (.gT rfl rfl rfl (.bN 9 rfl rfl rfl rfl rfl rfl)) ?_
            refine .cons (.gT rfl rfl rfl (.mv rfl rfl)) ?_
            refine .cons (.gT rfl rfl rfl (.cP [.tmp 44, .tmp 45] rfl rfl rfl rfl (implStmtV_fn (depS s) s (by omega)) rfl)) ?_
            refine .cons (.pT rfl rfl rfl) ?_
            refine .cons (.mv rfl rfl) ?_
            refine AOps.cases 48 _ rfl (fun g48 => ?_) (fun g48 => ?_)
            · try simp only [List.length_map, decide_eq_true_eq, decide_eq_false_iff_not, Bool.not_eq_true', Bool.not_eq_false', Bool.not_eq_true, Bool.not_eq_false] at g48
              refine .cons (.gT rfl rfl rfl (.mv rfl rfl)) ?_
              refine .cons (.gT rfl rfl rfl (.eq rfl rfl rfl)) ?_
              refine .cons (.gT rfl rfl rfl (.mv rfl rfl)) ?_
              refine .cD 51 rfl (fun g51 => ?_) (fun g51 => ?_)
              · skip
                refine .cons (.gF rfl rfl rfl) ?_
                refine .cons (.gF rfl rfl rfl) ?_
                refine .cons (.gF rfl rfl rfl) ?_
                refine .cons (.gF rfl rfl rfl) ?_
                refine .cons (.gF rfl rfl rfl) ?_
                refine .cons (.gT rfl rfl rfl (.pT rfl rfl rfl)) ?_
                refine .cons (.pT rfl rfl rfl) ?_
                refine .cons (.mv rfl rfl) ?_
                refine .cons (.gT rfl rfl rfl (.bN 9 rfl rfl rfl rfl rfl rfl)) ?_
                refine .cons (.gT rfl rfl rfl (.cP [.tmp 60, .const (.int .i64 (4))] rfl rfl rfl rfl (implStmtV_fn 4 s (by omega)) rfl)) ?_
                refine .cons (.pT rfl rfl rfl) ?_
                refine .cons (.asg rfl rfl) ?_
                refine .nil ?_
                refine ks_n ?_
                refine ACode.ret ?_
                refine kf_ret rfl ?_ nobox
                first | rfl | (exfalso; omega) | exact leafB f4 | (exfalso; simp_all; done) | first | rfl | (exfalso; omega) | (exfalso; simp_all only [beq_self_eq_true, sameS_self, Bool.true_eq_false, reduceCtorEq]; done) | exact leafB (decide_eq_true (by omega)) | with_reducible exact leafB (sameS_self _) | exact leafB (by simp) | (exfalso; simp_all [sameS_self]; done) | grind
              · skip
                refine .cons (.gT rfl rfl rfl (.bN 9 rfl rfl rfl rfl rfl rfl)) ?_
                refine .cons (.gT rfl rfl rfl (.mv rfl rfl)) ?_
                refine .cons (.gT rfl rfl rfl (.sb rfl rfl rfl)) ?_
                refine .cons (.gT rfl rfl rfl (.cP [.tmp 52, .tmp 54] rfl rfl rfl rfl (implStmtV_fn (depS s - 1) s (by omega)) rfl)) ?_
                refine .cons (.gT rfl rfl rfl (.nt rfl rfl)) ?_
                refine .cons (.gT rfl rfl rfl (.pF rfl rfl rfl)) ?_
                refine .cons (.pT rfl rfl rfl) ?_
                refine .cons (.mv rfl rfl) ?_
                refine AOps.cases 59 _ rfl (fun g59 => ?_) (fun g59 => ?_)
                · try simp only [List.length_map, decide_eq_true_eq, decide_eq_false_iff_not, Bool.not_eq_true', Bool.not_eq_false', Bool.not_eq_true, Bool.not_eq_false] at g59
                  refine .cons (.gT rfl rfl rfl (.bN 9 rfl rfl rfl rfl rfl rfl)) ?_
                  refine .cons (.gT rfl rfl rfl (.cP [.tmp 60, .const (.int .i64 (4))] rfl rfl rfl rfl (implStmtV_fn 4 s (by omega)) rfl)) ?_
                  refine .cons (.pT rfl rfl rfl) ?_
                  refine .cons (.asg rfl rfl) ?_
                  refine .nil ?_
                  refine ks_n ?_
                  refine ACode.ret ?_
                  refine kf_ret rfl ?_ nobox
                  first | rfl | (exfalso; omega) | exact leafB f4 | (exfalso; simp_all; done) | first | rfl | (exfalso; omega) | (exfalso; simp_all only [beq_self_eq_true, sameS_self, Bool.true_eq_false, reduceCtorEq]; done) | exact leafB (decide_eq_true (by omega)) | with_reducible exact leafB (sameS_self _) | exact leafB (by simp) | (exfalso; simp_all [sameS_self]; done) | grind
                · try simp only [List.length_map, decide_eq_true_eq, decide_eq_false_iff_not, Bool.not_eq_true', Bool.not_eq_false', Bool.not_eq_true, Bool.not_eq_false] at g59
                  refine .cons (.gF rfl rfl rfl) ?_
                  refine .cons (.gF rfl rfl rfl) ?_
                  refine .cons (.pF rfl rfl rfl) ?_
                  refine .cons (.asg rfl rfl) ?_
                  refine .nil ?_
                  refine ks_n ?_
                  refine ACode.ret ?_
                  refine kf_ret rfl ?_ nobox
                  first | rfl | (exfalso; omega) | exact leafB f4 | (exfalso; simp_all; done) | first | rfl | (exfalso; omega) | (exfalso; simp_all only [beq_self_eq_true, sameS_self, Bool.true_eq_false, reduceCtorEq]; done) | exact leafB (decide_eq_true (by omega)) | with_reducible exact leafB (sameS_self _) | exact leafB (by simp) | (exfalso; simp_all [sameS_self]; done) | grind
            · try simp only [List.length_map, decide_eq_true_eq, decide_eq_false_iff_not, Bool.not_eq_true', Bool.not_eq_false', Bool.not_eq_true, Bool.not_eq_false] at g48
              refine .cons (.gF rfl rfl rfl) ?_
              refine .cons (.gF rfl rfl rfl) ?_
              refine .cons (.gF rfl rfl rfl) ?_
              refine .cons (.gU rfl rfl) ?_
              refine .cons (.gU rfl rfl) ?_
              refine .cons (.gU rfl rfl) ?_
              refine .cons (.gU rfl rfl) ?_
              refine .cons (.gU rfl rfl) ?_
              refine .cons (.gF rfl rfl rfl) ?_
              refine .cons (.pF rfl rfl rfl) ?_
              refine .cons (.mv rfl rfl) ?_
              refine .cons (.gF rfl rfl rfl) ?_
              refine .cons (.gF rfl rfl rfl) ?_
              refine .cons (.pF rfl rfl rfl) ?_
              refine .cons (.asg rfl rfl) ?_
              refine .nil ?_
              refine ks_n ?_
              refine ACode.ret ?_
              refine kf_ret rfl ?_ nobox
              first | rfl | (exfalso; omega) | exact leafB f4 | (exfalso; simp_all; done) | first | rfl | (exfalso; omega) | (exfalso; simp_all only [beq_self_eq_true, sameS_self, Bool.true_eq_false, reduceCtorEq]; done) | exact leafB (decide_eq_true (by omega)) | with_reducible exact leafB (sameS_self _) | exact leafB (by simp) | (exfalso; simp_all [sameS_self]; done) | grind
          · try simp only [List.length_map, decide_eq_true_eq, decide_eq_false_iff_not, Bool.not_eq_true', Bool.not_eq_false', Bool.not_eq_true, Bool.not_eq_false] at g43
            refine .cons (.gF rfl rfl rfl) ?_
            refine .cons (.gF rfl rfl rfl) ?_
            refine .cons (.gF rfl rfl rfl) ?_
            refine .cons (.pF rfl rfl rfl) ?_
            refine .cons (.mv rfl rfl) ?_
            refine .cons (.gF rfl rfl rfl) ?_
            refine .cons (.gF rfl rfl rfl) ?_
            refine .cons (.gF rfl rfl rfl) ?_
            refine .cons (.gU rfl rfl) ?_
            refine .cons (.gU rfl rfl) ?_
            refine .cons (.gU rfl rfl) ?_
            refine .cons (.gU rfl rfl) ?_
            refine .cons (.gU rfl rfl) ?_
            refine .cons (.gF rfl rfl rfl) ?_
            refine .cons (.pF rfl rfl rfl) ?_
            refine .cons (.mv rfl rfl) ?_
            refine .cons (.gF rfl rfl rfl) ?_
            refine .cons (.gF rfl rfl rfl) ?_
            refine .cons (.pF rfl rfl rfl) ?_
            refine .cons (.asg rfl rfl) ?_
            refine .nil ?_
            refine ks_n ?_
            refine ACode.ret ?_
            refine kf_ret rfl ?_ nobox
            first | rfl | (exfalso; omega) | exact leafB f4 | (exfalso; simp_all; done) | first | rfl | (exfalso; omega) | (exfalso; simp_all only [beq_self_eq_true, sameS_self, Bool.true_eq_false, reduceCtorEq]; done) | exact leafB (decide_eq_true (by omega)) | with_reducible exact leafB (sameS_self _) | exact leafB (by simp) | (exfalso; simp_all [sameS_self]; done) | grind
        · skip
          refine .cons (.gF rfl rfl rfl) ?_
          refine .cons (.gF rfl rfl rfl) ?_
          refine .cons (.gF rfl rfl rfl) ?_
          refine .cons (.pF rfl rfl rfl) ?_
          refine .cons (.mv rfl rfl) ?_
          refine .cons (.gF rfl rfl rfl) ?_
          refine .cons (.gF rfl rfl rfl) ?_
          refine .cons (.gF rfl rfl rfl) ?_
          refine .cons (.pF rfl rfl rfl) ?_
          refine .cons (.mv rfl rfl) ?_
          refine .cons (.gF rfl rfl rfl) ?_
          refine .cons (.gF rfl rfl rfl) ?_
          refine .cons (.gF rfl rfl rfl) ?_
          refine .cons (.gU rfl rfl) ?_
          refine .cons (.gU rfl rfl) ?_
          refine .cons (.gU rfl rfl) ?_
          refine .cons (.gU rfl rfl) ?_
          refine .cons (.gU rfl rfl) ?_
          refine .cons (.gF rfl rfl rfl) ?_
          refine .cons (.pF rfl rfl rfl) ?_
          refine .cons (.mv rfl rfl) ?_
          refine .cons (.gF rfl rfl rfl) ?_
          refine .cons (.gF rfl rfl rfl) ?_
          refine .cons (.pF rfl rfl rfl) ?_
          refine .cons (.asg rfl rfl) ?_
          refine .nil ?_
          refine ks_n ?_
          refine ACode.ret ?_
          refine kf_ret rfl ?_ nobox
          first | rfl | (exfalso; omega) | exact leafB f4 | (exfalso; simp_all; done) | first | rfl | (exfalso; omega) | (exfalso; simp_all only [beq_self_eq_true, sameS_self, Bool.true_eq_false, reduceCtorEq]; done) | exact leafB (decide_eq_true (by omega)) | with_reducible exact leafB (sameS_self _) | exact leafB (by simp) | (exfalso; simp_all [sameS_self]; done) | grind

set_option maxRecDepth 100000 in
set_option maxHeartbeats 1600000 in
theorem stmtValid_big (a : Option Addr) (n c : Nat) (hn : 1048576 < n) : Fn Try.prog 3 [] [vX a n c] (.o (bo1 true)) [] := by
  refine Fn.code0 Try.func3 rfl rfl rfl rfl ?_
  refine ACode.seq ?_
  refine ACode.region ?_
  refine .cons (.asg rfl rfl) ?_
  refine .nil ?_
  refine ks_n ?_
  refine ACode.seq ?_
  refine ACode.seq ?_
  refine ACode.region ?_
  refine .cons (.mv rfl rfl) ?_
  refine .cons (St1.lenN (e := 5) (m := 1) (by' := 1) rfl rfl rfl rfl rfl (by kernel_rfl) rfl) ?_
  refine .cons (.gt rfl rfl rfl) ?_
  refine .nil ?_
  refine ks_n ?_
  refine .cD rfl (fun h9 => ?_) (fun h9 => ?_)
  · skip
    refine ACode.seq ?_
    refine ACode.region ?_
    refine .cons (.asg rfl rfl) ?_
    refine .nil ?_
    refine ks_n ?_
    refine ACode.ret ?_
    refine ks_r ?_
    refine kf_ret rfl ?_ nobox
    rfl
  · skip
    omega

theorem lawStmtValid (a : Option Addr) (n c : Nat) (bs : List Int) (w : World) (hx : n ≤ 1048576 → Sl Sh.byte (fun b => b < w.heap.size) w (.slice a n c) bs) (hbs : ∀ x ∈ bs, 0 ≤ x ∧ x ≤ 255) : Truth Try.prog 3 #[.slice a n c] w :=
  law1 ⟨hx, hbs⟩ (fun h => stmtValid_big a n c h) (fun hl hb => by
    obtain ⟨s, d, h1, h2, h3, h4⟩ := drawSV_fn hb
    exact stmtValid_core hl h1 h3 h4)

end Go.Proofs.Ytigdfdhjnadieaa
