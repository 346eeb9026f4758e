/- Part 4 of 6 of the proof: laws on memory and data, then what the functions compute, in the order in which they build on each other; conditions: those that each theorem names. -/
import Derived.Test.YtgcpdpbapgkdjaaP3

/- Copies of nests whose last side is of their own; condition: small nests. -/
namespace Go.Proofs.Ytgcpdpbapgkdjaa
set_option linter.unusedVariables false
set_option linter.unusedSimpArgs false
open Go.RowKit

set_option maxRecDepth 100000 in
set_option maxHeartbeats 1600000 in
theorem l2Copy_last {init : List Lp} {l0 : Lp} (hs : smN (init ++ [l0])) (h0 : l0.2 ≠ []) : Fn Try.prog 90 [] [vD (dLs (init ++ [l0]))] (.o (.c (.own 100 2 (init.length + 1)))) (hbC2 init l0) := by
  obtain ⟨hs1, hs2⟩ := hs
  simp at hs1
  refine Fn.of_code Try.func90 rfl rfl HB.nil rfl rfl (hbC2_HB _ _) rfl (two_num rfl rfl) ?_
  refine ACode.seq ?_
  refine ACode.region ?_
  refine .cons (.asg rfl rfl) ?_
  refine .nil ?_
  refine ks_n ?_
  refine ACode.seq ?_
  refine ACode.region ?_
  refine .cons (St1.lit0 (k' := 110) (e := 67) (sz := 2) (b := true) rfl rfl rfl rfl (by kernel_rfl) rfl rfl) ?_
  refine .cons (.asg rfl rfl) ?_
  refine .nil ?_
  refine ks_n ?_
  refine ACode.seq ?_
  refine ACode.seq ?_
  refine ACode.region ?_
  refine .cons (.asg rfl rfl) ?_
  refine .nil ?_
  refine ks_n ?_
  refine ACode.block ?_
  refine .loopK (fun m σ => (∃ i : Nat, m = init.length + 1 - i ∧ (i ≤ init.length) ∧ σ = [(.t 0, .v (.o (vD (dLs (init ++ [l0]))))), (.t 3, .v (.o (.c (.own 110 2 (i))))), (.t 4, .v (.o (nat1 (i : Nat)))), (.b 110, .b 67 2 (dR ((init.take i).map rL))), (.u 110, .u)]) ∨ (∃ i : Nat, m = init.length + 1 - i ∧ (i = init.length + 1) ∧ σ = [(.t 0, .v (.o (vD (dLs (init ++ [l0]))))), (.t 3, .v (.o (.c (.own 110 2 (init.length + 1))))), (.t 4, .v (.o (nat1 (i : Nat)))), (.b 110, .b 67 2 (dR (init.map rL) ++ [[.d (dAs l0.1), .own 111 2 l0.2.length]])), (.u 110, .u), (.b 111, .b 51 2 (dR (l0.2.map rA))), (.u 111, .u)])) [(110, 110)] (.inl ⟨0, rfl, by omega, rfl⟩) ⟨ks rfl .dt, ks rfl (.c .ow), ks rfl .dt, kb 110 rfl (.dt rfl (by first | exact dR_take rL hl | rfl | (rw [List.take_length, dR_app]; done) | (rw [List.take_length]; done) | (simp [dR]; done))), trivial⟩ ?_
  rintro m σ (⟨i, hm0, hi, rfl⟩ | ⟨i, hm0, rfl, rfl⟩)
  · skip
    refine ACode.seq ?_
    refine ACode.seq ?_
    refine ACode.region ?_
    refine .cons (.mv rfl rfl) ?_
    refine .cons (.mv rfl rfl) ?_
    refine .cons (.ln 67 2 48 rfl rfl rfl) ?_
    refine .cons (.ls rfl rfl rfl) ?_
    refine .nil ?_
    refine ks_n ?_
    refine .cD rfl (fun h14 => ?_) (fun h14 => ?_)
    · skip
      refine ACode.skip ?_
      refine ks_n ?_
      refine ACode.seq ?_
      refine ACode.block ?_
      refine ACode.seq ?_
      by_cases hsp : i < init.length
      · skip
        obtain ⟨l, hl⟩ : ∃ l, init[i]? = some l := ⟨_, List.getElem?_eq_getElem hsp⟩
        have hn : (init ++ [l0])[i]? = some l := by rw [List.getElem?_append_left hsp]; exact hl
        obtain ⟨hla, hlb, hlc, hld⟩ := hs2 l (by first | exact List.mem_of_getElem? hn | simp)
        refine ACode.region ?_
        refine .cons (.bu [] [(0, 1), (1, 1)] [.slice none 0 0, .slice none 0 0] rfl rfl rfl rfl rfl) ?_
        refine .cons (.al 105 [.slice none 0 0, .slice none 0 0] rfl rfl rfl) ?_
        refine .cons (.sT 2 true rfl rfl rfl rfl rfl rfl rfl) ?_
        refine .nil ?_
        refine ks_n ?_
        refine ACode.seq ?_
        refine ACode.seq ?_
        refine ACode.region ?_
        refine .cons (.asg rfl rfl) ?_
        refine .nil ?_
        refine ks_n ?_
        refine ACode.block ?_
        refine .loopK (fun m σ => (∃ k : Nat, m = l.1.length - k ∧ (k = 0) ∧ σ = [(.t 0, .v (.o (vD (dLs (init ++ [l0]))))), (.t 3, .v (.o (.c (.own 120 2 (i))))), (.t 4, .v (.o (nat1 ((i : Nat))))), (.t 5, .v (.o (.c (.box 121 2 0 0)))), (.t 6, .v (.o (nat1 (k : Nat)))), (.b 120, .b 67 2 (dR ((init.take i).map rL))), (.u 120, .u), (.b 121, .b 67 2 [[.d (.val (.slice none 0 0)), .d (.val (.slice none 0 0))]]), (.u 121, .u)]) ∨ (∃ k : Nat, m = l.1.length - k ∧ (1 ≤ k) ∧ (k ≤ l.1.length) ∧ σ = [(.t 0, .v (.o (vD (dLs (init ++ [l0]))))), (.t 3, .v (.o (.c (.own 120 2 (i))))), (.t 4, .v (.o (nat1 ((i : Nat))))), (.t 5, .v (.o (.c (.box 121 2 0 0)))), (.t 6, .v (.o (nat1 (k : Nat)))), (.b 120, .b 67 2 (dR ((init.take i).map rL))), (.u 120, .u), (.b 122, .b 51 2 (dR ((l.1.take k).map rA))), (.u 122, .u), (.b 121, .b 67 2 [[.own 122 2 (k), .d (.val (.slice none 0 0))]]), (.u 121, .u)])) [(120, 110), (121, 105)] (.inl ⟨0, rfl, rfl, rfl⟩) ⟨ks rfl .dt, ks rfl (.c .ow), ks rfl .dt, ks rfl (.c .bx), ks rfl .dt, kb 110 rfl (.dt rfl (by first | exact dR_take rL hl | rfl | (rw [List.take_length, dR_app]; done) | (rw [List.take_length]; done) | (simp [dR]; done))), kb 105 rfl (.cons (.cons .dt (.cons .dt Ctos.nil)) .nil), trivial⟩ ?_
        rintro m σ (⟨k, hm0, rfl, rfl⟩ | ⟨k, hm0, hk1, hk2, rfl⟩)
        · skip
          refine ACode.seq ?_
          refine ACode.seq ?_
          refine ACode.region ?_
          refine .cons (.mv rfl rfl) ?_
          refine .cons (.mv rfl rfl) ?_
          refine .cons (.mv rfl rfl) ?_
          refine .cons (.xL 67 2 48 rfl rfl rfl rfl rfl) ?_
          refine .cons (.fP 0 0 false rfl rfl) ?_
          refine .cons (.l1 1 rfl rfl) ?_
          refine .cons (.ln 51 2 32 rfl rfl rfl) ?_
          refine .cons (.ls rfl rfl rfl) ?_
          refine .nil ?_
          refine ks_n ?_
          refine .cD rfl (fun h25 => ?_) (fun h25 => ?_)
          · skip
            obtain ⟨x, hx, hxs⟩ := at_sm hlc (show 0 < l.1.length by omega)
            refine ACode.skip ?_
            refine ks_n ?_
            refine ACode.seq ?_
            refine ACode.block ?_
            refine ACode.seq ?_
            refine ACode.region ?_
            refine .cons (.mv rfl rfl) ?_
            refine .cons (.mv rfl rfl) ?_
            refine .cons (.xL 67 2 48 rfl rfl rfl rfl rfl) ?_
            refine .cons (.fP 0 0 false rfl rfl) ?_
            refine .cons (.l1 1 rfl rfl) ?_
            refine .cons (.mv rfl rfl) ?_
            refine .cons (.xL 51 2 32 rfl rfl rfl rfl rfl) ?_
            refine .cons (.lN 2 rfl rfl rfl) ?_
            refine .cons (.al 107 [.slice none 0 0, .int .i64 0] rfl rfl rfl) ?_
            refine .cons (.sT 2 true rfl rfl rfl rfl rfl rfl rfl) ?_
            refine .nil ?_
            refine ks_n ?_
            refine ACode.drawK (by kernel_rfl) (by kernel_rfl) ?_
            refine .cons (.fB 0 0 false rfl rfl rfl) ?_
            refine .cons (.b1 1 rfl rfl rfl rfl rfl rfl) ?_
            refine .cons (St1.lit0 (k' := 138) (e := 3) (sz := 1) (b := true) rfl rfl rfl rfl (by kernel_rfl) rfl rfl) ?_
            refine .cons (.fB 0 0 false rfl rfl rfl) ?_
            refine .cons (.b1 1 rfl rfl rfl rfl rfl rfl) ?_
            refine .cons (St1.appD (rows := []) (e := 3) (sz := 0) (by' := 8) rfl rfl rfl rfl rfl (by kernel_rfl) rfl rfl rfl rfl rfl (by simp; omega) rfl) ?_
            refine .cons (.fB 1 0 false rfl rfl rfl) ?_
            refine .cons (.b1 1 rfl rfl rfl rfl rfl rfl) ?_
            refine .cons (.bu [(0, .tmp 41), (1, .tmp 43)] [(0, 1), (1, 1)] [.slice none 0 0, .int .i64 0] rfl rfl rfl rfl rfl) ?_
            refine .cons (.li 51 1 0 [.tmp 44] rfl rfl rfl rfl rfl rfl) ?_
            refine .cons (St1.appN (k' := 146) (e := 51) (sz := 1) (by' := 32) rfl rfl rfl rfl rfl (by kernel_rfl) rfl rfl rfl (by simp) (by first | (simp [dR]; done) | (simp [dR]; omega)) rfl rfl) ?_
            refine .cons (.fB 0 0 false rfl rfl rfl) ?_
            refine .cons (.sT 1 false rfl rfl rfl rfl rfl rfl rfl) ?_
            refine .nil ⟨by kernel_rfl, ?_⟩
            refine kb_n ?_
            refine ks_n ?_
            refine ACode.region ?_
            refine .cons (.mv rfl rfl) ?_
            refine .cons (.pl rfl rfl rfl) ?_
            refine .cons (.asg rfl rfl) ?_
            refine .nil ?_
            refine kl_k [(120, 120), (121, 121), (122, 146)] (.inr ⟨1, rfl, by omega, by omega, rfl⟩) ⟨ks rfl .dt, ks rfl (.c .ow), ks rfl .dt, ks rfl (.c .bx), ks rfl .dt, kb 120 rfl (.dt rfl (by first | exact dR_take rL hl | rfl | (rw [List.take_length, dR_app]; done) | (rw [List.take_length]; done) | (simp [dR]; done))), kb 146 rfl (.dt rfl (by first | exact dR_take rA hx | exact dR_take1 rA hx | rfl | (rw [List.take_length]; done) | (simp [dR]; done))), kb 121 rfl (.cons (.cons .ow (.cons .dt Ctos.nil)) .nil), trivial⟩
          · skip
            have hn1 : l.1 = [] := List.eq_nil_of_length_eq_zero (by omega)
            refine ACode.exit ?_
            refine ks_e ?_
            refine kl_e ?_
            refine kb_hit ?_
            refine ks_n ?_
            refine ACode.seq ?_
            refine ACode.seq ?_
            refine ACode.region ?_
            refine .cons (.asg rfl rfl) ?_
            refine .nil ?_
            refine ks_n ?_
            refine ACode.block ?_
            refine .loopK (fun m σ => (∃ q : Nat, m = l.2.length - q ∧ (q = 0) ∧ σ = [(.t 0, .v (.o (vD (dLs (init ++ [l0]))))), (.t 3, .v (.o (.c (.own 130 2 (i))))), (.t 4, .v (.o (nat1 ((i : Nat))))), (.t 5, .v (.o (.c (.box 131 2 0 0)))), (.t 8, .v (.o (nat1 (q : Nat)))), (.b 130, .b 67 2 (dR ((init.take i).map rL))), (.u 130, .u), (.b 131, .b 67 2 [[.d (dAs l.1), .d (.val (.slice none 0 0))]]), (.u 131, .u)]) ∨ (∃ q : Nat, m = l.2.length - q ∧ (1 ≤ q) ∧ (q ≤ l.2.length) ∧ σ = [(.t 0, .v (.o (vD (dLs (init ++ [l0]))))), (.t 3, .v (.o (.c (.own 130 2 (i))))), (.t 4, .v (.o (nat1 ((i : Nat))))), (.t 5, .v (.o (.c (.box 131 2 0 0)))), (.t 8, .v (.o (nat1 (q : Nat)))), (.b 130, .b 67 2 (dR ((init.take i).map rL))), (.u 130, .u), (.b 132, .b 51 2 (dR ((l.2.take q).map rA))), (.u 132, .u), (.b 131, .b 67 2 [[.d (dAs l.1), .own 132 2 (q)]]), (.u 131, .u)])) [(130, 120), (131, 121)] (.inl ⟨0, rfl, rfl, rfl⟩) ⟨ks rfl .dt, ks rfl (.c .ow), ks rfl .dt, ks rfl (.c .bx), ks rfl .dt, kb 120 rfl (.dt rfl (by first | exact dR_take rL hl | rfl | (rw [List.take_length, dR_app]; done) | (rw [List.take_length]; done) | (simp [dR]; done))), kb 121 rfl (.cons (.cons (Cto.nilE 2 (by rw [hn1]; rfl)) (.cons .dt Ctos.nil)) .nil), trivial⟩ ?_
            rintro m σ (⟨q, hm0, rfl, rfl⟩ | ⟨q, hm0, hq1, hq2, rfl⟩)
            · skip
              refine ACode.seq ?_
              refine ACode.seq ?_
              refine ACode.region ?_
              refine .cons (.mv rfl rfl) ?_
              refine .cons (.mv rfl rfl) ?_
              refine .cons (.mv rfl rfl) ?_
              refine .cons (.xL 67 2 48 rfl rfl rfl rfl rfl) ?_
              refine .cons (.fP 1 0 false rfl rfl) ?_
              refine .cons (.l1 1 rfl rfl) ?_
              refine .cons (.ln 51 2 32 rfl rfl rfl) ?_
              refine .cons (.ls rfl rfl rfl) ?_
              refine .nil ?_
              refine ks_n ?_
              refine .cD rfl (fun h55 => ?_) (fun h55 => ?_)
              · skip
                obtain ⟨x, hx, hxs⟩ := at_sm hld (show 0 < l.2.length by omega)
                refine ACode.skip ?_
                refine ks_n ?_
                refine ACode.seq ?_
                refine ACode.block ?_
                refine ACode.seq ?_
                refine ACode.region ?_
                refine .cons (.mv rfl rfl) ?_
                refine .cons (.mv rfl rfl) ?_
                refine .cons (.xL 67 2 48 rfl rfl rfl rfl rfl) ?_
                refine .cons (.fP 1 0 false rfl rfl) ?_
                refine .cons (.l1 1 rfl rfl) ?_
                refine .cons (.mv rfl rfl) ?_
                refine .cons (.xL 51 2 32 rfl rfl rfl rfl rfl) ?_
                refine .cons (.lN 2 rfl rfl rfl) ?_
                refine .cons (.al 109 [.slice none 0 0, .int .i64 0] rfl rfl rfl) ?_
                refine .cons (.sT 2 true rfl rfl rfl rfl rfl rfl rfl) ?_
                refine .nil ?_
                refine ks_n ?_
                refine ACode.drawK (by kernel_rfl) (by kernel_rfl) ?_
                refine .cons (.fB 1 0 false rfl rfl rfl) ?_
                refine .cons (.b1 1 rfl rfl rfl rfl rfl rfl) ?_
                refine .cons (St1.lit0 (k' := 168) (e := 3) (sz := 1) (b := true) rfl rfl rfl rfl (by kernel_rfl) rfl rfl) ?_
                refine .cons (.fB 0 0 false rfl rfl rfl) ?_
                refine .cons (.b1 1 rfl rfl rfl rfl rfl rfl) ?_
                refine .cons (St1.appD (rows := []) (e := 3) (sz := 0) (by' := 8) rfl rfl rfl rfl rfl (by kernel_rfl) rfl rfl rfl rfl rfl (by simp; omega) rfl) ?_
                refine .cons (.fB 1 0 false rfl rfl rfl) ?_
                refine .cons (.b1 1 rfl rfl rfl rfl rfl rfl) ?_
                refine .cons (.bu [(0, .tmp 71), (1, .tmp 73)] [(0, 1), (1, 1)] [.slice none 0 0, .int .i64 0] rfl rfl rfl rfl rfl) ?_
                refine .cons (.li 51 1 0 [.tmp 74] rfl rfl rfl rfl rfl rfl) ?_
                refine .cons (St1.appN (k' := 176) (e := 51) (sz := 1) (by' := 32) rfl rfl rfl rfl rfl (by kernel_rfl) rfl rfl rfl (by simp) (by first | (simp [dR]; done) | (simp [dR]; omega)) rfl rfl) ?_
                refine .cons (.fB 1 0 false rfl rfl rfl) ?_
                refine .cons (.sT 1 false rfl rfl rfl rfl rfl rfl rfl) ?_
                refine .nil ⟨by kernel_rfl, ?_⟩
                refine kb_n ?_
                refine ks_n ?_
                refine ACode.region ?_
                refine .cons (.mv rfl rfl) ?_
                refine .cons (.pl rfl rfl rfl) ?_
                refine .cons (.asg rfl rfl) ?_
                refine .nil ?_
                refine kl_k [(130, 130), (131, 131), (132, 176)] (.inr ⟨1, rfl, by omega, by omega, rfl⟩) ⟨ks rfl .dt, ks rfl (.c .ow), ks rfl .dt, ks rfl (.c .bx), ks rfl .dt, kb 130 rfl (.dt rfl (by first | exact dR_take rL hl | rfl | (rw [List.take_length, dR_app]; done) | (rw [List.take_length]; done) | (simp [dR]; done))), kb 176 rfl (.dt rfl (by first | exact dR_take rA hx | exact dR_take1 rA hx | rfl | (rw [List.take_length]; done) | (simp [dR]; done))), kb 131 rfl (.cons (.cons .dt (.cons .ow Ctos.nil)) .nil), trivial⟩
              · skip
                have hn2 : l.2 = [] := List.eq_nil_of_length_eq_zero (by omega)
                refine ACode.exit ?_
                refine ks_e ?_
                refine kl_e ?_
                refine kb_hit ?_
                refine ks_n ?_
                refine .keep [(.t 0, .v (.o (vD (dLs (init ++ [l0]))))), (.t 3, .v (.o (.c (.own 860 2 (i))))), (.t 4, .v (.o (nat1 ((i : Nat))))), (.t 5, .v (.o (.c (.box 861 2 0 0)))), (.b 860, .b 67 2 (dR ((init.take i).map rL))), (.u 860, .u), (.b 861, .b 67 2 [[.d (dAs l.1), .d (dAs l.2)]]), (.u 861, .u)] [(860, 130), (861, 131)] ⟨ks rfl .dt, ks rfl (.c .ow), ks rfl .dt, ks rfl (.c .bx), kb 130 rfl (.dt rfl (by first | exact dR_take rL hl | rfl | (rw [List.take_length, dR_app]; done) | (rw [List.take_length]; done) | (simp [dR]; done))), kb 131 rfl (.cons (.cons .dt (.cons (Cto.nilE 2 (by rw [hn2]; rfl)) Ctos.nil)) .nil), trivial⟩ ?_
                refine ACode.region ?_
                refine .cons (.mv rfl rfl) ?_
                refine .cons (.bN 2 rfl rfl rfl rfl rfl rfl) ?_
                refine .cons (.li 67 1 0 [.tmp 79] rfl rfl rfl rfl rfl rfl) ?_
                refine .cons (St1.appB (k' := 181) (e := 67) (sz := 1) (by' := 48) rfl rfl rfl rfl rfl (by kernel_rfl) rfl rfl rfl rfl (by first | (simp [dR]; done) | (simp [dR]; omega)) (by first | (simp [dR]; done) | (simp [dR]; omega)) rfl rfl rfl) ?_
                refine .cons (.asg rfl rfl) ?_
                refine .nil ?_
                refine kb_n ?_
                refine ks_n ?_
                refine ACode.region ?_
                refine .cons (.mv rfl rfl) ?_
                refine .cons (.pl rfl rfl rfl) ?_
                refine .cons (.asg rfl rfl) ?_
                refine .nil ?_
                refine kl_k [(110, 181)] (.inl ⟨i + 1, rfl, by omega, rfl⟩) ⟨ks rfl .dt, ks rfl (.c .ow), ks rfl .dt, kb 181 rfl (.dt rfl (by first | exact dR_take rL hl | rfl | (rw [List.take_length, dR_app]; done) | (rw [List.take_length]; done) | (simp [dR]; done))), trivial⟩
            · skip
              refine ACode.seq ?_
              refine ACode.seq ?_
              refine ACode.region ?_
              refine .cons (.mv rfl rfl) ?_
              refine .cons (.mv rfl rfl) ?_
              refine .cons (.mv rfl rfl) ?_
              refine .cons (.xL 67 2 48 rfl rfl rfl rfl rfl) ?_
              refine .cons (.fP 1 0 false rfl rfl) ?_
              refine .cons (.l1 1 rfl rfl) ?_
              refine .cons (.ln 51 2 32 rfl rfl rfl) ?_
              refine .cons (.ls rfl rfl rfl) ?_
              refine .nil ?_
              refine ks_n ?_
              refine .cD rfl (fun h55 => ?_) (fun h55 => ?_)
              · skip
                obtain ⟨x, hx, hxs⟩ := at_sm hld (show q < l.2.length by omega)
                refine ACode.skip ?_
                refine ks_n ?_
                refine ACode.seq ?_
                refine ACode.block ?_
                refine ACode.seq ?_
                refine ACode.region ?_
                refine .cons (.mv rfl rfl) ?_
                refine .cons (.mv rfl rfl) ?_
                refine .cons (.xL 67 2 48 rfl rfl rfl rfl rfl) ?_
                refine .cons (.fP 1 0 false rfl rfl) ?_
                refine .cons (.l1 1 rfl rfl) ?_
                refine .cons (.mv rfl rfl) ?_
                refine .cons (.xL 51 2 32 rfl rfl rfl rfl rfl) ?_
                refine .cons (.lN 2 rfl rfl rfl) ?_
                refine .cons (.al 109 [.slice none 0 0, .int .i64 0] rfl rfl rfl) ?_
                refine .cons (.sT 2 true rfl rfl rfl rfl rfl rfl rfl) ?_
                refine .nil ?_
                refine ks_n ?_
                refine ACode.drawK (by kernel_rfl) (by kernel_rfl) ?_
                refine .cons (.fB 1 0 false rfl rfl rfl) ?_
                refine .cons (.b1 1 rfl rfl rfl rfl rfl rfl) ?_
                refine .cons (St1.lit0 (k' := 168) (e := 3) (sz := 1) (b := true) rfl rfl rfl rfl (by kernel_rfl) rfl rfl) ?_
                refine .cons (.fB 0 0 false rfl rfl rfl) ?_
                refine .cons (.b1 1 rfl rfl rfl rfl rfl rfl) ?_
                refine .cons (St1.appD (rows := []) (e := 3) (sz := 0) (by' := 8) rfl rfl rfl rfl rfl (by kernel_rfl) rfl rfl rfl rfl rfl (by simp; omega) rfl) ?_
                refine .cons (.fB 1 0 false rfl rfl rfl) ?_
                refine .cons (.b1 1 rfl rfl rfl rfl rfl rfl) ?_
                refine .cons (.bu [(0, .tmp 71), (1, .tmp 73)] [(0, 1), (1, 1)] [.slice none 0 0, .int .i64 0] rfl rfl rfl rfl rfl) ?_
                refine .cons (.li 51 1 0 [.tmp 74] rfl rfl rfl rfl rfl rfl) ?_
                refine .cons (St1.appB (k' := 176) (e := 51) (sz := 1) (by' := 32) rfl rfl rfl rfl rfl (by kernel_rfl) rfl rfl rfl rfl (by first | (simp [dR]; done) | (simp [dR]; omega)) (by first | (simp [dR]; done) | (simp [dR]; omega)) rfl rfl rfl) ?_
                refine .cons (.fB 1 0 false rfl rfl rfl) ?_
                refine .cons (.sT 1 false rfl rfl rfl rfl rfl rfl rfl) ?_
                refine .nil ⟨by kernel_rfl, ?_⟩
                refine kb_n ?_
                refine ks_n ?_
                refine ACode.region ?_
                refine .cons (.mv rfl rfl) ?_
                refine .cons (.pl rfl rfl rfl) ?_
                refine .cons (.asg rfl rfl) ?_
                refine .nil ?_
                refine kl_k [(130, 130), (131, 131), (132, 176)] (.inr ⟨q + 1, rfl, by omega, by omega, rfl⟩) ⟨ks rfl .dt, ks rfl (.c .ow), ks rfl .dt, ks rfl (.c .bx), ks rfl .dt, kb 130 rfl (.dt rfl (by first | exact dR_take rL hl | rfl | (rw [List.take_length, dR_app]; done) | (rw [List.take_length]; done) | (simp [dR]; done))), kb 176 rfl (.dt rfl (by first | exact dR_take rA hx | exact dR_take1 rA hx | rfl | (rw [List.take_length]; done) | (simp [dR]; done))), kb 131 rfl (.cons (.cons .dt (.cons .ow Ctos.nil)) .nil), trivial⟩
              · skip
                obtain rfl : q = l.2.length := by omega
                refine ACode.exit ?_
                refine ks_e ?_
                refine kl_e ?_
                refine kb_hit ?_
                refine ks_n ?_
                refine .keep [(.t 0, .v (.o (vD (dLs (init ++ [l0]))))), (.t 3, .v (.o (.c (.own 860 2 (i))))), (.t 4, .v (.o (nat1 ((i : Nat))))), (.t 5, .v (.o (.c (.box 861 2 0 0)))), (.b 860, .b 67 2 (dR ((init.take i).map rL))), (.u 860, .u), (.b 861, .b 67 2 [[.d (dAs l.1), .d (dAs l.2)]]), (.u 861, .u)] [(860, 130), (861, 131)] ⟨ks rfl .dt, ks rfl (.c .ow), ks rfl .dt, ks rfl (.c .bx), kb 130 rfl (.dt rfl (by first | exact dR_take rL hl | rfl | (rw [List.take_length, dR_app]; done) | (rw [List.take_length]; done) | (simp [dR]; done))), kb 131 rfl (.cons (.cons .dt (.cons (.fz rfl (by first | rfl | (rw [List.take_length]; done)) (by first | rfl | (simp; done) | (simp; omega)) (by omega)) Ctos.nil)) .nil), trivial⟩ ?_
                refine ACode.region ?_
                refine .cons (.mv rfl rfl) ?_
                refine .cons (.bN 2 rfl rfl rfl rfl rfl rfl) ?_
                refine .cons (.li 67 1 0 [.tmp 79] rfl rfl rfl rfl rfl rfl) ?_
                refine .cons (St1.appB (k' := 181) (e := 67) (sz := 1) (by' := 48) rfl rfl rfl rfl rfl (by kernel_rfl) rfl rfl rfl rfl (by first | (simp [dR]; done) | (simp [dR]; omega)) (by first | (simp [dR]; done) | (simp [dR]; omega)) rfl rfl rfl) ?_
                refine .cons (.asg rfl rfl) ?_
                refine .nil ?_
                refine kb_n ?_
                refine ks_n ?_
                refine ACode.region ?_
                refine .cons (.mv rfl rfl) ?_
                refine .cons (.pl rfl rfl rfl) ?_
                refine .cons (.asg rfl rfl) ?_
                refine .nil ?_
                refine kl_k [(110, 181)] (.inl ⟨i + 1, rfl, by omega, rfl⟩) ⟨ks rfl .dt, ks rfl (.c .ow), ks rfl .dt, kb 181 rfl (.dt rfl (by first | exact dR_take rL hl | rfl | (rw [List.take_length, dR_app]; done) | (rw [List.take_length]; done) | (simp [dR]; done))), trivial⟩
        · skip
          refine ACode.seq ?_
          refine ACode.seq ?_
          refine ACode.region ?_
          refine .cons (.mv rfl rfl) ?_
          refine .cons (.mv rfl rfl) ?_
          refine .cons (.mv rfl rfl) ?_
          refine .cons (.xL 67 2 48 rfl rfl rfl rfl rfl) ?_
          refine .cons (.fP 0 0 false rfl rfl) ?_
          refine .cons (.l1 1 rfl rfl) ?_
          refine .cons (.ln 51 2 32 rfl rfl rfl) ?_
          refine .cons (.ls rfl rfl rfl) ?_
          refine .nil ?_
          refine ks_n ?_
          refine .cD rfl (fun h25 => ?_) (fun h25 => ?_)
          · skip
            obtain ⟨x, hx, hxs⟩ := at_sm hlc (show k < l.1.length by omega)
            refine ACode.skip ?_
            refine ks_n ?_
            refine ACode.seq ?_
            refine ACode.block ?_
            refine ACode.seq ?_
            refine ACode.region ?_
            refine .cons (.mv rfl rfl) ?_
            refine .cons (.mv rfl rfl) ?_
            refine .cons (.xL 67 2 48 rfl rfl rfl rfl rfl) ?_
            refine .cons (.fP 0 0 false rfl rfl) ?_
            refine .cons (.l1 1 rfl rfl) ?_
            refine .cons (.mv rfl rfl) ?_
            refine .cons (.xL 51 2 32 rfl rfl rfl rfl rfl) ?_
            refine .cons (.lN 2 rfl rfl rfl) ?_
            refine .cons (.al 107 [.slice none 0 0, .int .i64 0] rfl rfl rfl) ?_
            refine .cons (.sT 2 true rfl rfl rfl rfl rfl rfl rfl) ?_
            refine .nil ?_
            refine ks_n ?_
            refine ACode.drawK (by kernel_rfl) (by kernel_rfl) ?_
            refine .cons (.fB 0 0 false rfl rfl rfl) ?_
            refine .cons (.b1 1 rfl rfl rfl rfl rfl rfl) ?_
            refine .cons (St1.lit0 (k' := 138) (e := 3) (sz := 1) (b := true) rfl rfl rfl rfl (by kernel_rfl) rfl rfl) ?_
            refine .cons (.fB 0 0 false rfl rfl rfl) ?_
            refine .cons (.b1 1 rfl rfl rfl rfl rfl rfl) ?_
            refine .cons (St1.appD (rows := []) (e := 3) (sz := 0) (by' := 8) rfl rfl rfl rfl rfl (by kernel_rfl) rfl rfl rfl rfl rfl (by simp; omega) rfl) ?_
            refine .cons (.fB 1 0 false rfl rfl rfl) ?_
            refine .cons (.b1 1 rfl rfl rfl rfl rfl rfl) ?_
            refine .cons (.bu [(0, .tmp 41), (1, .tmp 43)] [(0, 1), (1, 1)] [.slice none 0 0, .int .i64 0] rfl rfl rfl rfl rfl) ?_
            refine .cons (.li 51 1 0 [.tmp 44] rfl rfl rfl rfl rfl rfl) ?_
            refine .cons (St1.appB (k' := 146) (e := 51) (sz := 1) (by' := 32) rfl rfl rfl rfl rfl (by kernel_rfl) rfl rfl rfl rfl (by first | (simp [dR]; done) | (simp [dR]; omega)) (by first | (simp [dR]; done) | (simp [dR]; omega)) rfl rfl rfl) ?_
            refine .cons (.fB 0 0 false rfl rfl rfl) ?_
            refine .cons (.sT 1 false rfl rfl rfl rfl rfl rfl rfl) ?_
            refine .nil ⟨by kernel_rfl, ?_⟩
            refine kb_n ?_
            refine ks_n ?_
            refine ACode.region ?_
            refine .cons (.mv rfl rfl) ?_
            refine .cons (.pl rfl rfl rfl) ?_
            refine .cons (.asg rfl rfl) ?_
            refine .nil ?_
            refine kl_k [(120, 120), (121, 121), (122, 146)] (.inr ⟨k + 1, rfl, by omega, by omega, rfl⟩) ⟨ks rfl .dt, ks rfl (.c .ow), ks rfl .dt, ks rfl (.c .bx), ks rfl .dt, kb 120 rfl (.dt rfl (by first | exact dR_take rL hl | rfl | (rw [List.take_length, dR_app]; done) | (rw [List.take_length]; done) | (simp [dR]; done))), kb 146 rfl (.dt rfl (by first | exact dR_take rA hx | exact dR_take1 rA hx | rfl | (rw [List.take_length]; done) | (simp [dR]; done))), kb 121 rfl (.cons (.cons .ow (.cons .dt Ctos.nil)) .nil), trivial⟩
          · skip
            obtain rfl : k = l.1.length := by omega
            refine ACode.exit ?_
            refine ks_e ?_
            refine kl_e ?_
            refine kb_hit ?_
            refine ks_n ?_
            refine ACode.seq ?_
            refine ACode.seq ?_
            refine ACode.region ?_
            refine .cons (.asg rfl rfl) ?_
            refine .nil ?_
            refine ks_n ?_
            refine ACode.block ?_
            refine .loopK (fun m σ => (∃ q : Nat, m = l.2.length - q ∧ (q = 0) ∧ σ = [(.t 0, .v (.o (vD (dLs (init ++ [l0]))))), (.t 3, .v (.o (.c (.own 130 2 (i))))), (.t 4, .v (.o (nat1 ((i : Nat))))), (.t 5, .v (.o (.c (.box 131 2 0 0)))), (.t 8, .v (.o (nat1 (q : Nat)))), (.b 130, .b 67 2 (dR ((init.take i).map rL))), (.u 130, .u), (.b 131, .b 67 2 [[.d (dAs l.1), .d (.val (.slice none 0 0))]]), (.u 131, .u)]) ∨ (∃ q : Nat, m = l.2.length - q ∧ (1 ≤ q) ∧ (q ≤ l.2.length) ∧ σ = [(.t 0, .v (.o (vD (dLs (init ++ [l0]))))), (.t 3, .v (.o (.c (.own 130 2 (i))))), (.t 4, .v (.o (nat1 ((i : Nat))))), (.t 5, .v (.o (.c (.box 131 2 0 0)))), (.t 8, .v (.o (nat1 (q : Nat)))), (.b 130, .b 67 2 (dR ((init.take i).map rL))), (.u 130, .u), (.b 132, .b 51 2 (dR ((l.2.take q).map rA))), (.u 132, .u), (.b 131, .b 67 2 [[.d (dAs l.1), .own 132 2 (q)]]), (.u 131, .u)])) [(130, 120), (131, 121)] (.inl ⟨0, rfl, rfl, rfl⟩) ⟨ks rfl .dt, ks rfl (.c .ow), ks rfl .dt, ks rfl (.c .bx), ks rfl .dt, kb 120 rfl (.dt rfl (by first | exact dR_take rL hl | rfl | (rw [List.take_length, dR_app]; done) | (rw [List.take_length]; done) | (simp [dR]; done))), kb 121 rfl (.cons (.cons (.fz rfl (by first | rfl | (rw [List.take_length]; done)) (by first | rfl | (simp; done) | (simp; omega)) (by omega)) (.cons .dt Ctos.nil)) .nil), trivial⟩ ?_
            rintro m σ (⟨q, hm0, rfl, rfl⟩ | ⟨q, hm0, hq1, hq2, rfl⟩)
            · skip
              refine ACode.seq ?_
              refine ACode.seq ?_
              refine ACode.region ?_
              refine .cons (.mv rfl rfl) ?_
              refine .cons (.mv rfl rfl) ?_
              refine .cons (.mv rfl rfl) ?_
              refine .cons (.xL 67 2 48 rfl rfl rfl rfl rfl) ?_
              refine .cons (.fP 1 0 false rfl rfl) ?_
              refine .cons (.l1 1 rfl rfl) ?_
              refine .cons (.ln 51 2 32 rfl rfl rfl) ?_
              refine .cons (.ls rfl rfl rfl) ?_
              refine .nil ?_
              refine ks_n ?_
              refine .cD rfl (fun h55 => ?_) (fun h55 => ?_)
              · skip
                obtain ⟨x, hx, hxs⟩ := at_sm hld (show 0 < l.2.length by omega)
                refine ACode.skip ?_
                refine ks_n ?_
                refine ACode.seq ?_
                refine ACode.block ?_
                refine ACode.seq ?_
                refine ACode.region ?_
                refine .cons (.mv rfl rfl) ?_
                refine .cons (.mv rfl rfl) ?_
                refine .cons (.xL 67 2 48 rfl rfl rfl rfl rfl) ?_
                refine .cons (.fP 1 0 false rfl rfl) ?_
                refine .cons (.l1 1 rfl rfl) ?_
                refine .cons (.mv rfl rfl) ?_
                refine .cons (.xL 51 2 32 rfl rfl rfl rfl rfl) ?_
                refine .cons (.lN 2 rfl rfl rfl) ?_
                refine .cons (.al 109 [.slice none 0 0, .int .i64 0] rfl rfl rfl) ?_
                refine .cons (.sT 2 true rfl rfl rfl rfl rfl rfl rfl) ?_
                refine .nil ?_
                refine ks_n ?_
                refine ACode.drawK (by kernel_rfl) (by kernel_rfl) ?_
                refine .cons (.fB 1 0 false rfl rfl rfl) ?_
                refine .cons (.b1 1 rfl rfl rfl rfl rfl rfl) ?_
                refine .cons (St1.lit0 (k' := 168) (e := 3) (sz := 1) (b := true) rfl rfl rfl rfl (by kernel_rfl) rfl rfl) ?_
                refine .cons (.fB 0 0 false rfl rfl rfl) ?_
                refine .cons (.b1 1 rfl rfl rfl rfl rfl rfl) ?_
                refine .cons (St1.appD (rows := []) (e := 3) (sz := 0) (by' := 8) rfl rfl rfl rfl rfl (by kernel_rfl) rfl rfl rfl rfl rfl (by simp; omega) rfl) ?_
                refine .cons (.fB 1 0 false rfl rfl rfl) ?_
                refine .cons (.b1 1 rfl rfl rfl rfl rfl rfl) ?_
                refine .cons (.bu [(0, .tmp 71), (1, .tmp 73)] [(0, 1), (1, 1)] [.slice none 0 0, .int .i64 0] rfl rfl rfl rfl rfl) ?_
                refine .cons (.li 51 1 0 [.tmp 74] rfl rfl rfl rfl rfl rfl) ?_
                refine .cons (St1.appN (k' := 176) (e := 51) (sz := 1) (by' := 32) rfl rfl rfl rfl rfl (by kernel_rfl) rfl rfl rfl (by simp) (by first | (simp [dR]; done) | (simp [dR]; omega)) rfl rfl) ?_
                refine .cons (.fB 1 0 false rfl rfl rfl) ?_
                refine .cons (.sT 1 false rfl rfl rfl rfl rfl rfl rfl) ?_
                refine .nil ⟨by kernel_rfl, ?_⟩
                refine kb_n ?_
                refine ks_n ?_
                refine ACode.region ?_
                refine .cons (.mv rfl rfl) ?_
                refine .cons (.pl rfl rfl rfl) ?_
                refine .cons (.asg rfl rfl) ?_
                refine .nil ?_
                refine kl_k [(130, 130), (131, 131), (132, 176)] (.inr ⟨1, rfl, by omega, by omega, rfl⟩) ⟨ks rfl .dt, ks rfl (.c .ow), ks rfl .dt, ks rfl (.c .bx), ks rfl .dt, kb 130 rfl (.dt rfl (by first | exact dR_take rL hl | rfl | (rw [List.take_length, dR_app]; done) | (rw [List.take_length]; done) | (simp [dR]; done))), kb 176 rfl (.dt rfl (by first | exact dR_take rA hx | exact dR_take1 rA hx | rfl | (rw [List.take_length]; done) | (simp [dR]; done))), kb 131 rfl (.cons (.cons .dt (.cons .ow Ctos.nil)) .nil), trivial⟩
              · skip
                have hn2 : l.2 = [] := List.eq_nil_of_length_eq_zero (by omega)
                refine ACode.exit ?_
                refine ks_e ?_
                refine kl_e ?_
                refine kb_hit ?_
                refine ks_n ?_
                refine .keep [(.t 0, .v (.o (vD (dLs (init ++ [l0]))))), (.t 3, .v (.o (.c (.own 860 2 (i))))), (.t 4, .v (.o (nat1 ((i : Nat))))), (.t 5, .v (.o (.c (.box 861 2 0 0)))), (.b 860, .b 67 2 (dR ((init.take i).map rL))), (.u 860, .u), (.b 861, .b 67 2 [[.d (dAs l.1), .d (dAs l.2)]]), (.u 861, .u)] [(860, 130), (861, 131)] ⟨ks rfl .dt, ks rfl (.c .ow), ks rfl .dt, ks rfl (.c .bx), kb 130 rfl (.dt rfl (by first | exact dR_take rL hl | rfl | (rw [List.take_length, dR_app]; done) | (rw [List.take_length]; done) | (simp [dR]; done))), kb 131 rfl (.cons (.cons .dt (.cons (Cto.nilE 2 (by rw [hn2]; rfl)) Ctos.nil)) .nil), trivial⟩ ?_
                refine ACode.region ?_
                refine .cons (.mv rfl rfl) ?_
                refine .cons (.bN 2 rfl rfl rfl rfl rfl rfl) ?_
                refine .cons (.li 67 1 0 [.tmp 79] rfl rfl rfl rfl rfl rfl) ?_
                refine .cons (St1.appB (k' := 181) (e := 67) (sz := 1) (by' := 48) rfl rfl rfl rfl rfl (by kernel_rfl) rfl rfl rfl rfl (by first | (simp [dR]; done) | (simp [dR]; omega)) (by first | (simp [dR]; done) | (simp [dR]; omega)) rfl rfl rfl) ?_
                refine .cons (.asg rfl rfl) ?_
                refine .nil ?_
                refine kb_n ?_
                refine ks_n ?_
                refine ACode.region ?_
                refine .cons (.mv rfl rfl) ?_
                refine .cons (.pl rfl rfl rfl) ?_
                refine .cons (.asg rfl rfl) ?_
                refine .nil ?_
                refine kl_k [(110, 181)] (.inl ⟨i + 1, rfl, by omega, rfl⟩) ⟨ks rfl .dt, ks rfl (.c .ow), ks rfl .dt, kb 181 rfl (.dt rfl (by first | exact dR_take rL hl | rfl | (rw [List.take_length, dR_app]; done) | (rw [List.take_length]; done) | (simp [dR]; done))), trivial⟩
            · skip
              refine ACode.seq ?_
              refine ACode.seq ?_
              refine ACode.region ?_
              refine .cons (.mv rfl rfl) ?_
              refine .cons (.mv rfl rfl) ?_
              refine .cons (.mv rfl rfl) ?_
              refine .cons (.xL 67 2 48 rfl rfl rfl rfl rfl) ?_
              refine .cons (.fP 1 0 false rfl rfl) ?_
              refine .cons (.l1 1 rfl rfl) ?_
              refine .cons (.ln 51 2 32 rfl rfl rfl) ?_
              refine .cons (.ls rfl rfl rfl) ?_
              refine .nil ?_
              refine ks_n ?_
              refine .cD rfl (fun h55 => ?_) (fun h55 => ?_)
              · skip
                obtain ⟨x, hx, hxs⟩ := at_sm hld (show q < l.2.length by omega)
                refine ACode.skip ?_
                refine ks_n ?_
                refine ACode.seq ?_
                refine ACode.block ?_
                refine ACode.seq ?_
                refine ACode.region ?_
                refine .cons (.mv rfl rfl) ?_
                refine .cons (.mv rfl rfl) ?_
                refine .cons (.xL 67 2 48 rfl rfl rfl rfl rfl) ?_
                refine .cons (.fP 1 0 false rfl rfl) ?_
                refine .cons (.l1 1 rfl rfl) ?_
                refine .cons (.mv rfl rfl) ?_
                refine .cons (.xL 51 2 32 rfl rfl rfl rfl rfl) ?_
                refine .cons (.lN 2 rfl rfl rfl) ?_
                refine .cons (.al 109 [.slice none 0 0, .int .i64 0] rfl rfl rfl) ?_
                refine .cons (.sT 2 true rfl rfl rfl rfl rfl rfl rfl) ?_
                refine .nil ?_
                refine ks_n ?_
                refine ACode.drawK (by kernel_rfl) (by kernel_rfl) ?_
                refine .cons (.fB 1 0 false rfl rfl rfl) ?_
                refine .cons (.b1 1 rfl rfl rfl rfl rfl rfl) ?_
                refine .cons (St1.lit0 (k' := 168) (e := 3) (sz := 1) (b := true) rfl rfl rfl rfl (by kernel_rfl) rfl rfl) ?_
                refine .cons (.fB 0 0 false rfl rfl rfl) ?_
                refine .cons (.b1 1 rfl rfl rfl rfl rfl rfl) ?_
                refine .cons (St1.appD (rows := []) (e := 3) (sz := 0) (by' := 8) rfl rfl rfl rfl rfl (by kernel_rfl) rfl rfl rfl rfl rfl (by simp; omega) rfl) ?_
                refine .cons (.fB 1 0 false rfl rfl rfl) ?_
                refine .cons (.b1 1 rfl rfl rfl rfl rfl rfl) ?_
                refine .cons (.bu [(0, .tmp 71), (1, .tmp 73)] [(0, 1), (1, 1)] [.slice none 0 0, .int .i64 0] rfl rfl rfl rfl rfl) ?_
                refine .cons (.li 51 1 0 [.tmp 74] rfl rfl rfl rfl rfl rfl) ?_
                refine .cons (St1.appB (k' := 176) (e := 51) (sz := 1) (by' := 32) rfl rfl rfl rfl rfl (by kernel_rfl) rfl rfl rfl rfl (by first | (simp [dR]; done) | (simp [dR]; omega)) (by first | (simp [dR]; done) | (simp [dR]; omega)) rfl rfl rfl) ?_
                refine .cons (.fB 1 0 false rfl rfl rfl) ?_
                refine .cons (.sT 1 false rfl rfl rfl rfl rfl rfl rfl) ?_
                refine .nil ⟨by kernel_rfl, ?_⟩
                refine kb_n ?_
                refine ks_n ?_
                refine ACode.region ?_
                refine .cons (.mv rfl rfl) ?_
                refine .cons (.pl rfl rfl rfl) ?_
                refine .cons (.asg rfl rfl) ?_
                refine .nil ?_
                refine kl_k [(130, 130), (131, 131), (132, 176)] (.inr ⟨q + 1, rfl, by omega, by omega, rfl⟩) ⟨ks rfl .dt, ks rfl (.c .ow), ks rfl .dt, ks rfl (.c .bx), ks rfl .dt, kb 130 rfl (.dt rfl (by first | exact dR_take rL hl | rfl | (rw [List.take_length, dR_app]; done) | (rw [List.take_length]; done) | (simp [dR]; done))), kb 176 rfl (.dt rfl (by first | exact dR_take rA hx | exact dR_take1 rA hx | rfl | (rw [List.take_length]; done) | (simp [dR]; done))), kb 131 rfl (.cons (.cons .dt (.cons .ow Ctos.nil)) .nil), trivial⟩
              · skip
                obtain rfl : q = l.2.length := by omega
                refine ACode.exit ?_
                refine ks_e ?_
                refine kl_e ?_
                refine kb_hit ?_
                refine ks_n ?_
                refine .keep [(.t 0, .v (.o (vD (dLs (init ++ [l0]))))), (.t 3, .v (.o (.c (.own 860 2 (i))))), (.t 4, .v (.o (nat1 ((i : Nat))))), (.t 5, .v (.o (.c (.box 861 2 0 0)))), (.b 860, .b 67 2 (dR ((init.take i).map rL))), (.u 860, .u), (.b 861, .b 67 2 [[.d (dAs l.1), .d (dAs l.2)]]), (.u 861, .u)] [(860, 130), (861, 131)] ⟨ks rfl .dt, ks rfl (.c .ow), ks rfl .dt, ks rfl (.c .bx), kb 130 rfl (.dt rfl (by first | exact dR_take rL hl | rfl | (rw [List.take_length, dR_app]; done) | (rw [List.take_length]; done) | (simp [dR]; done))), kb 131 rfl (.cons (.cons .dt (.cons (.fz rfl (by first | rfl | (rw [List.take_length]; done)) (by first | rfl | (simp; done) | (simp; omega)) (by omega)) Ctos.nil)) .nil), trivial⟩ ?_
                refine ACode.region ?_
                refine .cons (.mv rfl rfl) ?_
                refine .cons (.bN 2 rfl rfl rfl rfl rfl rfl) ?_
                refine .cons (.li 67 1 0 [.tmp 79] rfl rfl rfl rfl rfl rfl) ?_
                refine .cons (St1.appB (k' := 181) (e := 67) (sz := 1) (by' := 48) rfl rfl rfl rfl rfl (by kernel_rfl) rfl rfl rfl rfl (by first | (simp [dR]; done) | (simp [dR]; omega)) (by first | (simp [dR]; done) | (simp [dR]; omega)) rfl rfl rfl) ?_
                refine .cons (.asg rfl rfl) ?_
                refine .nil ?_
                refine kb_n ?_
                refine ks_n ?_
                refine ACode.region ?_
                refine .cons (.mv rfl rfl) ?_
                refine .cons (.pl rfl rfl rfl) ?_
                refine .cons (.asg rfl rfl) ?_
                refine .nil ?_
                refine kl_k [(110, 181)] (.inl ⟨i + 1, rfl, by omega, rfl⟩) ⟨ks rfl .dt, ks rfl (.c .ow), ks rfl .dt, kb 181 rfl (.dt rfl (by first | exact dR_take rL hl | rfl | (rw [List.take_length, dR_app]; done) | (rw [List.take_length]; done) | (simp [dR]; done))), trivial⟩
      · skip
        obtain rfl : i = init.length := by omega
        have hn : (init ++ [l0])[init.length]? = some l0 := by simp
        obtain ⟨hla, hlb, hlc, hld⟩ := hs2 l0 (by first | exact List.mem_of_getElem? hn | simp)
        refine ACode.region ?_
        refine .cons (.bu [] [(0, 1), (1, 1)] [.slice none 0 0, .slice none 0 0] rfl rfl rfl rfl rfl) ?_
        refine .cons (.al 105 [.slice none 0 0, .slice none 0 0] rfl rfl rfl) ?_
        refine .cons (.sT 2 true rfl rfl rfl rfl rfl rfl rfl) ?_
        refine .nil ?_
        refine ks_n ?_
        refine ACode.seq ?_
        refine ACode.seq ?_
        refine ACode.region ?_
        refine .cons (.asg rfl rfl) ?_
        refine .nil ?_
        refine ks_n ?_
        refine ACode.block ?_
        refine .loopK (fun m σ => (∃ k : Nat, m = l0.1.length - k ∧ (k = 0) ∧ σ = [(.t 0, .v (.o (vD (dLs (init ++ [l0]))))), (.t 3, .v (.o (.c (.own 120 2 (init.length))))), (.t 4, .v (.o (nat1 ((init.length : Nat))))), (.t 5, .v (.o (.c (.box 121 2 0 0)))), (.t 6, .v (.o (nat1 (k : Nat)))), (.b 120, .b 67 2 (dR ((init.take init.length).map rL))), (.u 120, .u), (.b 121, .b 67 2 [[.d (.val (.slice none 0 0)), .d (.val (.slice none 0 0))]]), (.u 121, .u)]) ∨ (∃ k : Nat, m = l0.1.length - k ∧ (1 ≤ k) ∧ (k ≤ l0.1.length) ∧ σ = [(.t 0, .v (.o (vD (dLs (init ++ [l0]))))), (.t 3, .v (.o (.c (.own 120 2 (init.length))))), (.t 4, .v (.o (nat1 ((init.length : Nat))))), (.t 5, .v (.o (.c (.box 121 2 0 0)))), (.t 6, .v (.o (nat1 (k : Nat)))), (.b 120, .b 67 2 (dR ((init.take init.length).map rL))), (.u 120, .u), (.b 122, .b 51 2 (dR ((l0.1.take k).map rA))), (.u 122, .u), (.b 121, .b 67 2 [[.own 122 2 (k), .d (.val (.slice none 0 0))]]), (.u 121, .u)])) [(120, 110), (121, 105)] (.inl ⟨0, rfl, rfl, rfl⟩) ⟨ks rfl .dt, ks rfl (.c .ow), ks rfl .dt, ks rfl (.c .bx), ks rfl .dt, kb 110 rfl (.dt rfl (by first | exact dR_take rL hl | rfl | (rw [List.take_length, dR_app]; done) | (rw [List.take_length]; done) | (simp [dR]; done))), kb 105 rfl (.cons (.cons .dt (.cons .dt Ctos.nil)) .nil), trivial⟩ ?_
        rintro m σ (⟨k, hm0, rfl, rfl⟩ | ⟨k, hm0, hk1, hk2, rfl⟩)
        · skip
          refine ACode.seq ?_
          refine ACode.seq ?_
          refine ACode.region ?_
          refine .cons (.mv rfl rfl) ?_
          refine .cons (.mv rfl rfl) ?_
          refine .cons (.mv rfl rfl) ?_
          refine .cons (.xL 67 2 48 rfl rfl rfl rfl rfl) ?_
          refine .cons (.fP 0 0 false rfl rfl) ?_
          refine .cons (.l1 1 rfl rfl) ?_
          refine .cons (.ln 51 2 32 rfl rfl rfl) ?_
          refine .cons (.ls rfl rfl rfl) ?_
          refine .nil ?_
          refine ks_n ?_
          refine .cD rfl (fun h25 => ?_) (fun h25 => ?_)
          · skip
            obtain ⟨x, hx, hxs⟩ := at_sm hlc (show 0 < l0.1.length by omega)
            refine ACode.skip ?_
            refine ks_n ?_
            refine ACode.seq ?_
            refine ACode.block ?_
            refine ACode.seq ?_
            refine ACode.region ?_
            refine .cons (.mv rfl rfl) ?_
            refine .cons (.mv rfl rfl) ?_
            refine .cons (.xL 67 2 48 rfl rfl rfl rfl rfl) ?_
            refine .cons (.fP 0 0 false rfl rfl) ?_
            refine .cons (.l1 1 rfl rfl) ?_
            refine .cons (.mv rfl rfl) ?_
            refine .cons (.xL 51 2 32 rfl rfl rfl rfl rfl) ?_
            refine .cons (.lN 2 rfl rfl rfl) ?_
            refine .cons (.al 107 [.slice none 0 0, .int .i64 0] rfl rfl rfl) ?_
            refine .cons (.sT 2 true rfl rfl rfl rfl rfl rfl rfl) ?_
            refine .nil ?_
            refine ks_n ?_
            refine ACode.drawK (by kernel_rfl) (by kernel_rfl) ?_
            refine .cons (.fB 0 0 false rfl rfl rfl) ?_
            refine .cons (.b1 1 rfl rfl rfl rfl rfl rfl) ?_
            refine .cons (St1.lit0 (k' := 138) (e := 3) (sz := 1) (b := true) rfl rfl rfl rfl (by kernel_rfl) rfl rfl) ?_
            refine .cons (.fB 0 0 false rfl rfl rfl) ?_
            refine .cons (.b1 1 rfl rfl rfl rfl rfl rfl) ?_
            refine .cons (St1.appD (rows := []) (e := 3) (sz := 0) (by' := 8) rfl rfl rfl rfl rfl (by kernel_rfl) rfl rfl rfl rfl rfl (by simp; omega) rfl) ?_
            refine .cons (.fB 1 0 false rfl rfl rfl) ?_
            refine .cons (.b1 1 rfl rfl rfl rfl rfl rfl) ?_
            refine .cons (.bu [(0, .tmp 41), (1, .tmp 43)] [(0, 1), (1, 1)] [.slice none 0 0, .int .i64 0] rfl rfl rfl rfl rfl) ?_
            refine .cons (.li 51 1 0 [.tmp 44] rfl rfl rfl rfl rfl rfl) ?_
            refine .cons (St1.appN (k' := 146) (e := 51) (sz := 1) (by' := 32) rfl rfl rfl rfl rfl (by kernel_rfl) rfl rfl rfl (by simp) (by first | (simp [dR]; done) | (simp [dR]; omega)) rfl rfl) ?_
            refine .cons (.fB 0 0 false rfl rfl rfl) ?_
            refine .cons (.sT 1 false rfl rfl rfl rfl rfl rfl rfl) ?_
            refine .nil ⟨by kernel_rfl, ?_⟩
            refine kb_n ?_
            refine ks_n ?_
            refine ACode.region ?_
            refine .cons (.mv rfl rfl) ?_
            refine .cons (.pl rfl rfl rfl) ?_
            refine .cons (.asg rfl rfl) ?_
            refine .nil ?_
            refine kl_k [(120, 120), (121, 121), (122, 146)] (.inr ⟨1, rfl, by omega, by omega, rfl⟩) ⟨ks rfl .dt, ks rfl (.c .ow), ks rfl .dt, ks rfl (.c .bx), ks rfl .dt, kb 120 rfl (.dt rfl (by first | exact dR_take rL hl | rfl | (rw [List.take_length, dR_app]; done) | (rw [List.take_length]; done) | (simp [dR]; done))), kb 146 rfl (.dt rfl (by first | exact dR_take rA hx | exact dR_take1 rA hx | rfl | (rw [List.take_length]; done) | (simp [dR]; done))), kb 121 rfl (.cons (.cons .ow (.cons .dt Ctos.nil)) .nil), trivial⟩
          · skip
            have hn1 : l0.1 = [] := List.eq_nil_of_length_eq_zero (by omega)
            refine ACode.exit ?_
            refine ks_e ?_
            refine kl_e ?_
            refine kb_hit ?_
            refine ks_n ?_
            refine ACode.seq ?_
            refine ACode.seq ?_
            refine ACode.region ?_
            refine .cons (.asg rfl rfl) ?_
            refine .nil ?_
            refine ks_n ?_
            refine ACode.block ?_
            refine .loopK (fun m σ => (∃ q : Nat, m = l0.2.length - q ∧ (q = 0) ∧ σ = [(.t 0, .v (.o (vD (dLs (init ++ [l0]))))), (.t 3, .v (.o (.c (.own 130 2 (init.length))))), (.t 4, .v (.o (nat1 ((init.length : Nat))))), (.t 5, .v (.o (.c (.box 131 2 0 0)))), (.t 8, .v (.o (nat1 (q : Nat)))), (.b 130, .b 67 2 (dR ((init.take init.length).map rL))), (.u 130, .u), (.b 131, .b 67 2 [[.d (dAs l0.1), .d (.val (.slice none 0 0))]]), (.u 131, .u)]) ∨ (∃ q : Nat, m = l0.2.length - q ∧ (1 ≤ q) ∧ (q ≤ l0.2.length) ∧ σ = [(.t 0, .v (.o (vD (dLs (init ++ [l0]))))), (.t 3, .v (.o (.c (.own 130 2 (init.length))))), (.t 4, .v (.o (nat1 ((init.length : Nat))))), (.t 5, .v (.o (.c (.box 131 2 0 0)))), (.t 8, .v (.o (nat1 (q : Nat)))), (.b 130, .b 67 2 (dR ((init.take init.length).map rL))), (.u 130, .u), (.b 132, .b 51 2 (dR ((l0.2.take q).map rA))), (.u 132, .u), (.b 131, .b 67 2 [[.d (dAs l0.1), .own 132 2 (q)]]), (.u 131, .u)])) [(130, 120), (131, 121)] (.inl ⟨0, rfl, rfl, rfl⟩) ⟨ks rfl .dt, ks rfl (.c .ow), ks rfl .dt, ks rfl (.c .bx), ks rfl .dt, kb 120 rfl (.dt rfl (by first | exact dR_take rL hl | rfl | (rw [List.take_length, dR_app]; done) | (rw [List.take_length]; done) | (simp [dR]; done))), kb 121 rfl (.cons (.cons (Cto.nilE 2 (by rw [hn1]; rfl)) (.cons .dt Ctos.nil)) .nil), trivial⟩ ?_
            rintro m σ (⟨q, hm0, rfl, rfl⟩ | ⟨q, hm0, hq1, hq2, rfl⟩)
            · skip
              refine ACode.seq ?_
              refine ACode.seq ?_
              refine ACode.region ?_
              refine .cons (.mv rfl rfl) ?_
              refine .cons (.mv rfl rfl) ?_
              refine .cons (.mv rfl rfl) ?_
              refine .cons (.xL 67 2 48 rfl rfl rfl rfl rfl) ?_
              refine .cons (.fP 1 0 false rfl rfl) ?_
              refine .cons (.l1 1 rfl rfl) ?_
              refine .cons (.ln 51 2 32 rfl rfl rfl) ?_
              refine .cons (.ls rfl rfl rfl) ?_
              refine .nil ?_
              refine ks_n ?_
              refine .cD rfl (fun h55 => ?_) (fun h55 => ?_)
              · skip
                obtain ⟨x, hx, hxs⟩ := at_sm hld (show 0 < l0.2.length by omega)
                refine ACode.skip ?_
                refine ks_n ?_
                refine ACode.seq ?_
                refine ACode.block ?_
                refine ACode.seq ?_
                refine ACode.region ?_
                refine .cons (.mv rfl rfl) ?_
                refine .cons (.mv rfl rfl) ?_
                refine .cons (.xL 67 2 48 rfl rfl rfl rfl rfl) ?_
                refine .cons (.fP 1 0 false rfl rfl) ?_
                refine .cons (.l1 1 rfl rfl) ?_
                refine .cons (.mv rfl rfl) ?_
                refine .cons (.xL 51 2 32 rfl rfl rfl rfl rfl) ?_
                refine .cons (.lN 2 rfl rfl rfl) ?_
                refine .cons (.al 109 [.slice none 0 0, .int .i64 0] rfl rfl rfl) ?_
                refine .cons (.sT 2 true rfl rfl rfl rfl rfl rfl rfl) ?_
                refine .nil ?_
                refine ks_n ?_
                refine ACode.drawK (by kernel_rfl) (by kernel_rfl) ?_
                refine .cons (.fB 1 0 false rfl rfl rfl) ?_
                refine .cons (.b1 1 rfl rfl rfl rfl rfl rfl) ?_
                refine .cons (St1.lit0 (k' := 168) (e := 3) (sz := 1) (b := true) rfl rfl rfl rfl (by kernel_rfl) rfl rfl) ?_
                refine .cons (.fB 0 0 false rfl rfl rfl) ?_
                refine .cons (.b1 1 rfl rfl rfl rfl rfl rfl) ?_
                refine .cons (St1.appD (rows := []) (e := 3) (sz := 0) (by' := 8) rfl rfl rfl rfl rfl (by kernel_rfl) rfl rfl rfl rfl rfl (by simp; omega) rfl) ?_
                refine .cons (.fB 1 0 false rfl rfl rfl) ?_
                refine .cons (.b1 1 rfl rfl rfl rfl rfl rfl) ?_
                refine .cons (.bu [(0, .tmp 71), (1, .tmp 73)] [(0, 1), (1, 1)] [.slice none 0 0, .int .i64 0] rfl rfl rfl rfl rfl) ?_
                refine .cons (.li 51 1 0 [.tmp 74] rfl rfl rfl rfl rfl rfl) ?_
                refine .cons (St1.appN (k' := 176) (e := 51) (sz := 1) (by' := 32) rfl rfl rfl rfl rfl (by kernel_rfl) rfl rfl rfl (by simp) (by first | (simp [dR]; done) | (simp [dR]; omega)) rfl rfl) ?_
                refine .cons (.fB 1 0 false rfl rfl rfl) ?_
                refine .cons (.sT 1 false rfl rfl rfl rfl rfl rfl rfl) ?_
                refine .nil ⟨by kernel_rfl, ?_⟩
                refine kb_n ?_
                refine ks_n ?_
                refine ACode.region ?_
                refine .cons (.mv rfl rfl) ?_
                refine .cons (.pl rfl rfl rfl) ?_
                refine .cons (.asg rfl rfl) ?_
                refine .nil ?_
                refine kl_k [(130, 130), (131, 131), (132, 176)] (.inr ⟨1, rfl, by omega, by omega, rfl⟩) ⟨ks rfl .dt, ks rfl (.c .ow), ks rfl .dt, ks rfl (.c .bx), ks rfl .dt, kb 130 rfl (.dt rfl (by first | exact dR_take rL hl | rfl | (rw [List.take_length, dR_app]; done) | (rw [List.take_length]; done) | (simp [dR]; done))), kb 176 rfl (.dt rfl (by first | exact dR_take rA hx | exact dR_take1 rA hx | rfl | (rw [List.take_length]; done) | (simp [dR]; done))), kb 131 rfl (.cons (.cons .dt (.cons .ow Ctos.nil)) .nil), trivial⟩
              · skip
                exact absurd (List.eq_nil_of_length_eq_zero (by omega)) h0
            · skip
              refine ACode.seq ?_
              refine ACode.seq ?_
              refine ACode.region ?_
              refine .cons (.mv rfl rfl) ?_
              refine .cons (.mv rfl rfl) ?_
              refine .cons (.mv rfl rfl) ?_
              refine .cons (.xL 67 2 48 rfl rfl rfl rfl rfl) ?_
              refine .cons (.fP 1 0 false rfl rfl) ?_
              refine .cons (.l1 1 rfl rfl) ?_
              refine .cons (.ln 51 2 32 rfl rfl rfl) ?_
              refine .cons (.ls rfl rfl rfl) ?_
              refine .nil ?_
              refine ks_n ?_
              refine .cD rfl (fun h55 => ?_) (fun h55 => ?_)
              · skip
                obtain ⟨x, hx, hxs⟩ := at_sm hld (show q < l0.2.length by omega)
                refine ACode.skip ?_
                refine ks_n ?_
                refine ACode.seq ?_
                refine ACode.block ?_
                refine ACode.seq ?_
                refine ACode.region ?_
                refine .cons (.mv rfl rfl) ?_
                refine .cons (.mv rfl rfl) ?_
                refine .cons (.xL 67 2 48 rfl rfl rfl rfl rfl) ?_
                refine .cons (.fP 1 0 false rfl rfl) ?_
                refine .cons (.l1 1 rfl rfl) ?_
                refine .cons (.mv rfl rfl) ?_
                refine .cons (.xL 51 2 32 rfl rfl rfl rfl rfl) ?_
                refine .cons (.lN 2 rfl rfl rfl) ?_
                refine .cons (.al 109 [.slice none 0 0, .int .i64 0] rfl rfl rfl) ?_
                refine .cons (.sT 2 true rfl rfl rfl rfl rfl rfl rfl) ?_
                refine .nil ?_
                refine ks_n ?_
                refine ACode.drawK (by kernel_rfl) (by kernel_rfl) ?_
                refine .cons (.fB 1 0 false rfl rfl rfl) ?_
                refine .cons (.b1 1 rfl rfl rfl rfl rfl rfl) ?_
                refine .cons (St1.lit0 (k' := 168) (e := 3) (sz := 1) (b := true) rfl rfl rfl rfl (by kernel_rfl) rfl rfl) ?_
                refine .cons (.fB 0 0 false rfl rfl rfl) ?_
                refine .cons (.b1 1 rfl rfl rfl rfl rfl rfl) ?_
                refine .cons (St1.appD (rows := []) (e := 3) (sz := 0) (by' := 8) rfl rfl rfl rfl rfl (by kernel_rfl) rfl rfl rfl rfl rfl (by simp; omega) rfl) ?_
                refine .cons (.fB 1 0 false rfl rfl rfl) ?_
                refine .cons (.b1 1 rfl rfl rfl rfl rfl rfl) ?_
                refine .cons (.bu [(0, .tmp 71), (1, .tmp 73)] [(0, 1), (1, 1)] [.slice none 0 0, .int .i64 0] rfl rfl rfl rfl rfl) ?_
                refine .cons (.li 51 1 0 [.tmp 74] rfl rfl rfl rfl rfl rfl) ?_
                refine .cons (St1.appB (k' := 176) (e := 51) (sz := 1) (by' := 32) rfl rfl rfl rfl rfl (by kernel_rfl) rfl rfl rfl rfl (by first | (simp [dR]; done) | (simp [dR]; omega)) (by first | (simp [dR]; done) | (simp [dR]; omega)) rfl rfl rfl) ?_
                refine .cons (.fB 1 0 false rfl rfl rfl) ?_
                refine .cons (.sT 1 false rfl rfl rfl rfl rfl rfl rfl) ?_
                refine .nil ⟨by kernel_rfl, ?_⟩
                refine kb_n ?_
                refine ks_n ?_
                refine ACode.region ?_
                refine .cons (.mv rfl rfl) ?_
                refine .cons (.pl rfl rfl rfl) ?_
                refine .cons (.asg rfl rfl) ?_
                refine .nil ?_
                refine kl_k [(130, 130), (131, 131), (132, 176)] (.inr ⟨q + 1, rfl, by omega, by omega, rfl⟩) ⟨ks rfl .dt, ks rfl (.c .ow), ks rfl .dt, ks rfl (.c .bx), ks rfl .dt, kb 130 rfl (.dt rfl (by first | exact dR_take rL hl | rfl | (rw [List.take_length, dR_app]; done) | (rw [List.take_length]; done) | (simp [dR]; done))), kb 176 rfl (.dt rfl (by first | exact dR_take rA hx | exact dR_take1 rA hx | rfl | (rw [List.take_length]; done) | (simp [dR]; done))), kb 131 rfl (.cons (.cons .dt (.cons .ow Ctos.nil)) .nil), trivial⟩
              · skip
                obtain rfl : q = l0.2.length := by omega
                refine ACode.exit ?_
                refine ks_e ?_
                refine kl_e ?_
                refine kb_hit ?_
                refine ks_n ?_
                refine .keep [(.t 0, .v (.o (vD (dLs (init ++ [l0]))))), (.t 3, .v (.o (.c (.own 860 2 (init.length))))), (.t 4, .v (.o (nat1 ((init.length : Nat))))), (.t 5, .v (.o (.c (.box 861 2 0 0)))), (.b 860, .b 67 2 (dR ((init.take init.length).map rL))), (.u 860, .u), (.b 862, .b 51 2 (dR (l0.2.map rA))), (.u 862, .u), (.b 861, .b 67 2 [[.d (dAs l0.1), .own 862 2 (l0.2.length)]]), (.u 861, .u)] [(860, 130), (861, 131), (862, 132)] ⟨ks rfl .dt, ks rfl (.c .ow), ks rfl .dt, ks rfl (.c .bx), kb 130 rfl (.dt rfl (by first | exact dR_take rL hl | rfl | (rw [List.take_length, dR_app]; done) | (rw [List.take_length]; done) | (simp [dR]; done))), kb 132 rfl (.dt rfl (by first | exact dR_take rA hx | exact dR_take1 rA hx | rfl | (rw [List.take_length]; done) | (simp [dR]; done))), kb 131 rfl (.cons (.cons .dt (.cons .ow Ctos.nil)) .nil), trivial⟩ ?_
                refine ACode.region ?_
                refine .cons (.mv rfl rfl) ?_
                refine .cons (.bN 2 rfl rfl rfl rfl rfl rfl) ?_
                refine .cons (St1.litB (k' := 180) (e := 67) (sz := 1) (m := 0) (xs := [.tmp 79]) rfl rfl rfl rfl rfl (by kernel_rfl) rfl rfl rfl rfl rfl) ?_
                refine .cons (St1.appBB (k' := 181) (e := 67) (sz := 1) (by' := 48) rfl rfl rfl rfl rfl (by kernel_rfl) rfl rfl rfl rfl rfl (by first | (simp [dR]; done) | (simp [dR]; omega)) rfl (by first | (simp [dR]; done) | (simp [dR]; omega)) rfl rfl rfl) ?_
                refine .cons (.asg rfl rfl) ?_
                refine .nil ?_
                refine kb_n ?_
                refine ks_n ?_
                refine ACode.region ?_
                refine .cons (.mv rfl rfl) ?_
                refine .cons (.pl rfl rfl rfl) ?_
                refine .cons (.asg rfl rfl) ?_
                refine .nil ?_
                refine kl_k [(110, 181), (111, 862)] (.inr ⟨init.length + 1, rfl, rfl, rfl⟩) ⟨ks rfl .dt, ks rfl (.c .ow), ks rfl .dt, kb 181 rfl ((by first | exact .app (.dat _ _ _ rfl rfl) (.cons (.cons (.d _ _ rfl) (.cons (.own _ _ _ _ _ (by first | decide | simp) (by first | rfl | omega)) .nil)) .nil) | exact .app (.dat _ _ _ (by rw [List.take_length]) rfl) (.cons (.cons (.d _ _ rfl) (.cons (.own _ _ _ _ _ (by first | decide | simp) (by first | rfl | omega)) .nil)) .nil))), kb 862 rfl (.dt rfl (by first | exact dR_take rA hx | exact dR_take1 rA hx | rfl | (rw [List.take_length]; done) | (simp [dR]; done))), trivial⟩
        · skip
          refine ACode.seq ?_
          refine ACode.seq ?_
          refine ACode.region ?_
          refine .cons (.mv rfl rfl) ?_
          refine .cons (.mv rfl rfl) ?_
          refine .cons (.mv rfl rfl) ?_
          refine .cons (.xL 67 2 48 rfl rfl rfl rfl rfl) ?_
          refine .cons (.fP 0 0 false rfl rfl) ?_
          refine .cons (.l1 1 rfl rfl) ?_
          refine .cons (.ln 51 2 32 rfl rfl rfl) ?_
          refine .cons (.ls rfl rfl rfl) ?_
          refine .nil ?_
          refine ks_n ?_
          refine .cD rfl (fun h25 => ?_) (fun h25 => ?_)
          · skip
            obtain ⟨x, hx, hxs⟩ := at_sm hlc (show k < l0.1.length by omega)
            refine ACode.skip ?_
            refine ks_n ?_
            refine ACode.seq ?_
            refine ACode.block ?_
            refine ACode.seq ?_
            refine ACode.region ?_
            refine .cons (.mv rfl rfl) ?_
            refine .cons (.mv rfl rfl) ?_
            refine .cons (.xL 67 2 48 rfl rfl rfl rfl rfl) ?_
            refine .cons (.fP 0 0 false rfl rfl) ?_
            refine .cons (.l1 1 rfl rfl) ?_
            refine .cons (.mv rfl rfl) ?_
            refine .cons (.xL 51 2 32 rfl rfl rfl rfl rfl) ?_
            refine .cons (.lN 2 rfl rfl rfl) ?_
            refine .cons (.al 107 [.slice none 0 0, .int .i64 0] rfl rfl rfl) ?_
            refine .cons (.sT 2 true rfl rfl rfl rfl rfl rfl rfl) ?_
            refine .nil ?_
            refine ks_n ?_
            refine ACode.drawK (by kernel_rfl) (by kernel_rfl) ?_
            refine .cons (.fB 0 0 false rfl rfl rfl) ?_
            refine .cons (.b1 1 rfl rfl rfl rfl rfl rfl) ?_
            refine .cons (St1.lit0 (k' := 138) (e := 3) (sz := 1) (b := true) rfl rfl rfl rfl (by kernel_rfl) rfl rfl) ?_
            refine .cons (.fB 0 0 false rfl rfl rfl) ?_
            refine .cons (.b1 1 rfl rfl rfl rfl rfl rfl) ?_
            refine .cons (St1.appD (rows := []) (e := 3) (sz := 0) (by' := 8) rfl rfl rfl rfl rfl (by kernel_rfl) rfl rfl rfl rfl rfl (by simp; omega) rfl) ?_
            refine .cons (.fB 1 0 false rfl rfl rfl) ?_
            refine .cons (.b1 1 rfl rfl rfl rfl rfl rfl) ?_
            refine .cons (.bu [(0, .tmp 41), (1, .tmp 43)] [(0, 1), (1, 1)] [.slice none 0 0, .int .i64 0] rfl rfl rfl rfl rfl) ?_
            refine .cons (.li 51 1 0 [.tmp 44] rfl rfl rfl rfl rfl rfl) ?_
            refine .cons (St1.appB (k' := 146) (e := 51) (sz := 1) (by' := 32) rfl rfl rfl rfl rfl (by kernel_rfl) rfl rfl rfl rfl (by first | (simp [dR]; done) | (simp [dR]; omega)) (by first | (simp [dR]; done) | (simp [dR]; omega)) rfl rfl rfl) ?_
            refine .cons (.fB 0 0 false rfl rfl rfl) ?_
            refine .cons (.sT 1 false rfl rfl rfl rfl rfl rfl rfl) ?_
            refine .nil ⟨by kernel_rfl, ?_⟩
            refine kb_n ?_
            refine ks_n ?_
            refine ACode.region ?_
            refine .cons (.mv rfl rfl) ?_
            refine .cons (.pl rfl rfl rfl) ?_
            refine .cons (.asg rfl rfl) ?_
            refine .nil ?_
            refine kl_k [(120, 120), (121, 121), (122, 146)] (.inr ⟨k + 1, rfl, by omega, by omega, rfl⟩) ⟨ks rfl .dt, ks rfl (.c .ow), ks rfl .dt, ks rfl (.c .bx), ks rfl .dt, kb 120 rfl (.dt rfl (by first | exact dR_take rL hl | rfl | (rw [List.take_length, dR_app]; done) | (rw [List.take_length]; done) | (simp [dR]; done))), kb 146 rfl (.dt rfl (by first | exact dR_take rA hx | exact dR_take1 rA hx | rfl | (rw [List.take_length]; done) | (simp [dR]; done))), kb 121 rfl (.cons (.cons .ow (.cons .dt Ctos.nil)) .nil), trivial⟩
          · skip
            obtain rfl : k = l0.1.length := by omega
            refine ACode.exit ?_
            refine ks_e ?_
            refine kl_e ?_
            refine kb_hit ?_
            refine ks_n ?_
            refine ACode.seq ?_
            refine ACode.seq ?_
            refine ACode.region ?_
            refine .cons (.asg rfl rfl) ?_
            refine .nil ?_
            refine ks_n ?_
            refine ACode.block ?_
            refine .loopK (fun m σ => (∃ q : Nat, m = l0.2.length - q ∧ (q = 0) ∧ σ = [(.t 0, .v (.o (vD (dLs (init ++ [l0]))))), (.t 3, .v (.o (.c (.own 130 2 (init.length))))), (.t 4, .v (.o (nat1 ((init.length : Nat))))), (.t 5, .v (.o (.c (.box 131 2 0 0)))), (.t 8, .v (.o (nat1 (q : Nat)))), (.b 130, .b 67 2 (dR ((init.take init.length).map rL))), (.u 130, .u), (.b 131, .b 67 2 [[.d (dAs l0.1), .d (.val (.slice none 0 0))]]), (.u 131, .u)]) ∨ (∃ q : Nat, m = l0.2.length - q ∧ (1 ≤ q) ∧ (q ≤ l0.2.length) ∧ σ = [(.t 0, .v (.o (vD (dLs (init ++ [l0]))))), (.t 3, .v (.o (.c (.own 130 2 (init.length))))), (.t 4, .v (.o (nat1 ((init.length : Nat))))), (.t 5, .v (.o (.c (.box 131 2 0 0)))), (.t 8, .v (.o (nat1 (q : Nat)))), (.b 130, .b 67 2 (dR ((init.take init.length).map rL))), (.u 130, .u), (.b 132, .b 51 2 (dR ((l0.2.take q).map rA))), (.u 132, .u), (.b 131, .b 67 2 [[.d (dAs l0.1), .own 132 2 (q)]]), (.u 131, .u)])) [(130, 120), (131, 121)] (.inl ⟨0, rfl, rfl, rfl⟩) ⟨ks rfl .dt, ks rfl (.c .ow), ks rfl .dt, ks rfl (.c .bx), ks rfl .dt, kb 120 rfl (.dt rfl (by first | exact dR_take rL hl | rfl | (rw [List.take_length, dR_app]; done) | (rw [List.take_length]; done) | (simp [dR]; done))), kb 121 rfl (.cons (.cons (.fz rfl (by first | rfl | (rw [List.take_length]; done)) (by first | rfl | (simp; done) | (simp; omega)) (by omega)) (.cons .dt Ctos.nil)) .nil), trivial⟩ ?_
            rintro m σ (⟨q, hm0, rfl, rfl⟩ | ⟨q, hm0, hq1, hq2, rfl⟩)
            · skip
              refine ACode.seq ?_
              refine ACode.seq ?_
              refine ACode.region ?_
              refine .cons (.mv rfl rfl) ?_
              refine .cons (.mv rfl rfl) ?_
              refine .cons (.mv rfl rfl) ?_
              refine .cons (.xL 67 2 48 rfl rfl rfl rfl rfl) ?_
              refine .cons (.fP 1 0 false rfl rfl) ?_
              refine .cons (.l1 1 rfl rfl) ?_
              refine .cons (.ln 51 2 32 rfl rfl rfl) ?_
              refine .cons (.ls rfl rfl rfl) ?_
              refine .nil ?_
              refine ks_n ?_
              refine .cD rfl (fun h55 => ?_) (fun h55 => ?_)
              · skip
                obtain ⟨x, hx, hxs⟩ := at_sm hld (show 0 < l0.2.length by omega)
                refine ACode.skip ?_
                refine ks_n ?_
                refine ACode.seq ?_
                refine ACode.block ?_
                refine ACode.seq ?_
                refine ACode.region ?_
                refine .cons (.mv rfl rfl) ?_
                refine .cons (.mv rfl rfl) ?_
                refine .cons (.xL 67 2 48 rfl rfl rfl rfl rfl) ?_
                refine .cons (.fP 1 0 false rfl rfl) ?_
                refine .cons (.l1 1 rfl rfl) ?_
                refine .cons (.mv rfl rfl) ?_
                refine .cons (.xL 51 2 32 rfl rfl rfl rfl rfl) ?_
                refine .cons (.lN 2 rfl rfl rfl) ?_
                refine .cons (.al 109 [.slice none 0 0, .int .i64 0] rfl rfl rfl) ?_
                refine .cons (.sT 2 true rfl rfl rfl rfl rfl rfl rfl) ?_
                refine .nil ?_
                refine ks_n ?_
                refine ACode.drawK (by kernel_rfl) (by kernel_rfl) ?_
                refine .cons (.fB 1 0 false rfl rfl rfl) ?_
                refine .cons (.b1 1 rfl rfl rfl rfl rfl rfl) ?_
                refine .cons (St1.lit0 (k' := 168) (e := 3) (sz := 1) (b := true) rfl rfl rfl rfl (by kernel_rfl) rfl rfl) ?_
                refine .cons (.fB 0 0 false rfl rfl rfl) ?_
                refine .cons (.b1 1 rfl rfl rfl rfl rfl rfl) ?_
                refine .cons (St1.appD (rows := []) (e := 3) (sz := 0) (by' := 8) rfl rfl rfl rfl rfl (by kernel_rfl) rfl rfl rfl rfl rfl (by simp; omega) rfl) ?_
                refine .cons (.fB 1 0 false rfl rfl rfl) ?_
                refine .cons (.b1 1 rfl rfl rfl rfl rfl rfl) ?_
                refine .cons (.bu [(0, .tmp 71), (1, .tmp 73)] [(0, 1), (1, 1)] [.slice none 0 0, .int .i64 0] rfl rfl rfl rfl rfl) ?_
                refine .cons (.li 51 1 0 [.tmp 74] rfl rfl rfl rfl rfl rfl) ?_
                refine .cons (St1.appN (k' := 176) (e := 51) (sz := 1) (by' := 32) rfl rfl rfl rfl rfl (by kernel_rfl) rfl rfl rfl (by simp) (by first | (simp [dR]; done) | (simp [dR]; omega)) rfl rfl) ?_
                refine .cons (.fB 1 0 false rfl rfl rfl) ?_
                refine .cons (.sT 1 false rfl rfl rfl rfl rfl rfl rfl) ?_
                refine .nil ⟨by kernel_rfl, ?_⟩
                refine kb_n ?_
                refine ks_n ?_
                refine ACode.region ?_
                refine .cons (.mv rfl rfl) ?_
                refine .cons (.pl rfl rfl rfl) ?_
                refine .cons (.asg rfl rfl) ?_
                refine .nil ?_
                refine kl_k [(130, 130), (131, 131), (132, 176)] (.inr ⟨1, rfl, by omega, by omega, rfl⟩) ⟨ks rfl .dt, ks rfl (.c .ow), ks rfl .dt, ks rfl (.c .bx), ks rfl .dt, kb 130 rfl (.dt rfl (by first | exact dR_take rL hl | rfl | (rw [List.take_length, dR_app]; done) | (rw [List.take_length]; done) | (simp [dR]; done))), kb 176 rfl (.dt rfl (by first | exact dR_take rA hx | exact dR_take1 rA hx | rfl | (rw [List.take_length]; done) | (simp [dR]; done))), kb 131 rfl (.cons (.cons .dt (.cons .ow Ctos.nil)) .nil), trivial⟩
              · skip
                exact absurd (List.eq_nil_of_length_eq_zero (by omega)) h0
            · skip
              refine ACode.seq ?_
              refine ACode.seq ?_
              refine ACode.region ?_
              refine .cons (.mv rfl rfl) ?_
              refine .cons (.mv rfl rfl) ?_
              refine .cons (.mv rfl rfl) ?_
              refine .cons (.xL 67 2 48 rfl rfl rfl rfl rfl) ?_
              refine .cons (.fP 1 0 false rfl rfl) ?_
              refine .cons (.l1 1 rfl rfl) ?_
              refine .cons (.ln 51 2 32 rfl rfl rfl) ?_
              refine .cons (.ls rfl rfl rfl) ?_
              refine .nil ?_
              refine ks_n ?_
              refine .cD rfl (fun h55 => ?_) (fun h55 => ?_)
              · skip
                obtain ⟨x, hx, hxs⟩ := at_sm hld (show q < l0.2.length by omega)
                refine ACode.skip ?_
                refine ks_n ?_
                refine ACode.seq ?_
                refine ACode.block ?_
                refine ACode.seq ?_
                refine ACode.region ?_
                refine .cons (.mv rfl rfl) ?_
                refine .cons (.mv rfl rfl) ?_
                refine .cons (.xL 67 2 48 rfl rfl rfl rfl rfl) ?_
                refine .cons (.fP 1 0 false rfl rfl) ?_
                refine .cons (.l1 1 rfl rfl) ?_
                refine .cons (.mv rfl rfl) ?_
                refine .cons (.xL 51 2 32 rfl rfl rfl rfl rfl) ?_
                refine .cons (.lN 2 rfl rfl rfl) ?_
                refine .cons (.al 109 [.slice none 0 0, .int .i64 0] rfl rfl rfl) ?_
                refine .cons (.sT 2 true rfl rfl rfl rfl rfl rfl rfl) ?_
                refine .nil ?_
                refine ks_n ?_
                refine ACode.drawK (by kernel_rfl) (by kernel_rfl) ?_
                refine .cons (.fB 1 0 false rfl rfl rfl) ?_
                refine .cons (.b1 1 rfl rfl rfl rfl rfl rfl) ?_
                refine .cons (St1.lit0 (k' := 168) (e := 3) (sz := 1) (b := true) rfl rfl rfl rfl (by kernel_rfl) rfl rfl) ?_
                refine .cons (.fB 0 0 false rfl rfl rfl) ?_
                refine .cons (.b1 1 rfl rfl rfl rfl rfl rfl) ?_
                refine .cons (St1.appD (rows := []) (e := 3) (sz := 0) (by' := 8) rfl rfl rfl rfl rfl (by kernel_rfl) rfl rfl rfl rfl rfl (by simp; omega) rfl) ?_
                refine .cons (.fB 1 0 false rfl rfl rfl) ?_
                refine .cons (.b1 1 rfl rfl rfl rfl rfl rfl) ?_
                refine .cons (.bu [(0, .tmp 71), (1, .tmp 73)] [(0, 1), (1, 1)] [.slice none 0 0, .int .i64 0] rfl rfl rfl rfl rfl) ?_
                refine .cons (.li 51 1 0 [.tmp 74] rfl rfl rfl rfl rfl rfl) ?_
                refine .cons (St1.appB (k' := 176) (e := 51) (sz := 1) (by' := 32) rfl rfl rfl rfl rfl (by kernel_rfl) rfl rfl rfl rfl (by first | (simp [dR]; done) | (simp [dR]; omega)) (by first | (simp [dR]; done) | (simp [dR]; omega)) rfl rfl rfl) ?_
                refine .cons (.fB 1 0 false rfl rfl rfl) ?_
                refine .cons (.sT 1 false rfl rfl rfl rfl rfl rfl rfl) ?_
                refine .nil ⟨by kernel_rfl, ?_⟩
                refine kb_n ?_
                refine ks_n ?_
                refine ACode.region ?_
                refine .cons (.mv rfl rfl) ?_
                refine .cons (.pl rfl rfl rfl) ?_
                refine .cons (.asg rfl rfl) ?_
                refine .nil ?_
                refine kl_k [(130, 130), (131, 131), (132, 176)] (.inr ⟨q + 1, rfl, by omega, by omega, rfl⟩) ⟨ks rfl .dt, ks rfl (.c .ow), ks rfl .dt, ks rfl (.c .bx), ks rfl .dt, kb 130 rfl (.dt rfl (by first | exact dR_take rL hl | rfl | (rw [List.take_length, dR_app]; done) | (rw [List.take_length]; done) | (simp [dR]; done))), kb 176 rfl (.dt rfl (by first | exact dR_take rA hx | exact dR_take1 rA hx | rfl | (rw [List.take_length]; done) | (simp [dR]; done))), kb 131 rfl (.cons (.cons .dt (.cons .ow Ctos.nil)) .nil), trivial⟩
              · skip
                obtain rfl : q = l0.2.length := by omega
                refine ACode.exit ?_
                refine ks_e ?_
                refine kl_e ?_
                refine kb_hit ?_
                refine ks_n ?_
                refine .keep [(.t 0, .v (.o (vD (dLs (init ++ [l0]))))), (.t 3, .v (.o (.c (.own 860 2 (init.length))))), (.t 4, .v (.o (nat1 ((init.length : Nat))))), (.t 5, .v (.o (.c (.box 861 2 0 0)))), (.b 860, .b 67 2 (dR ((init.take init.length).map rL))), (.u 860, .u), (.b 862, .b 51 2 (dR (l0.2.map rA))), (.u 862, .u), (.b 861, .b 67 2 [[.d (dAs l0.1), .own 862 2 (l0.2.length)]]), (.u 861, .u)] [(860, 130), (861, 131), (862, 132)] ⟨ks rfl .dt, ks rfl (.c .ow), ks rfl .dt, ks rfl (.c .bx), kb 130 rfl (.dt rfl (by first | exact dR_take rL hl | rfl | (rw [List.take_length, dR_app]; done) | (rw [List.take_length]; done) | (simp [dR]; done))), kb 132 rfl (.dt rfl (by first | exact dR_take rA hx | exact dR_take1 rA hx | rfl | (rw [List.take_length]; done) | (simp [dR]; done))), kb 131 rfl (.cons (.cons .dt (.cons .ow Ctos.nil)) .nil), trivial⟩ ?_
                refine ACode.region ?_
                refine .cons (.mv rfl rfl) ?_
                refine .cons (.bN 2 rfl rfl rfl rfl rfl rfl) ?_
                refine .cons (St1.litB (k' := 180) (e := 67) (sz := 1) (m := 0) (xs := [.tmp 79]) rfl rfl rfl rfl rfl (by kernel_rfl) rfl rfl rfl rfl rfl) ?_
                refine .cons (St1.appBB (k' := 181) (e := 67) (sz := 1) (by' := 48) rfl rfl rfl rfl rfl (by kernel_rfl) rfl rfl rfl rfl rfl (by first | (simp [dR]; done) | (simp [dR]; omega)) rfl (by first | (simp [dR]; done) | (simp [dR]; omega)) rfl rfl rfl) ?_
                refine .cons (.asg rfl rfl) ?_
                refine .nil ?_
                refine kb_n ?_
                refine ks_n ?_
                refine ACode.region ?_
                refine .cons (.mv rfl rfl) ?_
                refine .cons (.pl rfl rfl rfl) ?_
                refine .cons (.asg rfl rfl) ?_
                refine .nil ?_
                refine kl_k [(110, 181), (111, 862)] (.inr ⟨init.length + 1, rfl, rfl, rfl⟩) ⟨ks rfl .dt, ks rfl (.c .ow), ks rfl .dt, kb 181 rfl ((by first | exact .app (.dat _ _ _ rfl rfl) (.cons (.cons (.d _ _ rfl) (.cons (.own _ _ _ _ _ (by first | decide | simp) (by first | rfl | omega)) .nil)) .nil) | exact .app (.dat _ _ _ (by rw [List.take_length]) rfl) (.cons (.cons (.d _ _ rfl) (.cons (.own _ _ _ _ _ (by first | decide | simp) (by first | rfl | omega)) .nil)) .nil))), kb 862 rfl (.dt rfl (by first | exact dR_take rA hx | exact dR_take1 rA hx | rfl | (rw [List.take_length]; done) | (simp [dR]; done))), trivial⟩
    · skip
      simp at h14; omega
  · skip
    refine ACode.seq ?_
    refine ACode.seq ?_
    refine ACode.region ?_
    refine .cons (.mv rfl rfl) ?_
    refine .cons (.mv rfl rfl) ?_
    refine .cons (.ln 67 2 48 rfl rfl rfl) ?_
    refine .cons (.ls rfl rfl rfl) ?_
    refine .nil ?_
    refine ks_n ?_
    refine .cD rfl (fun h14 => ?_) (fun h14 => ?_)
    · skip
      simp at h14
    · skip
      refine ACode.exit ?_
      refine ks_e ?_
      refine kl_e ?_
      refine kb_hit ?_
      refine ks_n ?_
      refine ACode.seq ?_
      refine ACode.region ?_
      refine .cons (.mv rfl rfl) ?_
      refine .cons (.asg rfl rfl) ?_
      refine .nil ?_
      refine ks_n ?_
      refine ACode.ret ?_
      refine kf_wret [(.t 2, .v (.o (.c (.own 100 2 (init.length + 1))))), (.b 100, .b 67 2 (dR (init.map rL) ++ [[.d (dAs l0.1), .own 101 2 l0.2.length]])), (.u 100, .u), (.b 101, .b 51 2 (dR (l0.2.map rA))), (.u 101, .u)] (Wk.keep [(100, 110), (101, 111)] rfl rfl ⟨ks rfl (.c .ow), kb 110 rfl ((by first | exact .app (.dat _ _ _ rfl rfl) (.cons (.cons (.d _ _ rfl) (.cons (.own _ _ _ _ _ (by first | decide | simp) (by first | rfl | omega)) .nil)) .nil) | exact .app (.dat _ _ _ (by rw [List.take_length]) rfl) (.cons (.cons (.d _ _ rfl) (.cons (.own _ _ _ _ _ (by first | decide | simp) (by first | rfl | omega)) .nil)) .nil))), kb 111 rfl (.dt rfl (by first | exact dR_take rA hx | exact dR_take1 rA hx | rfl | (rw [List.take_length]; done) | (simp [dR]; done))), trivial⟩) rfl ?_ (two_box rfl rfl)
      rfl

set_option maxRecDepth 100000 in
set_option maxHeartbeats 1600000 in
theorem l2Copy_lastN {init : List Lp} {l0 : Lp} (hs : smN (init ++ [l0])) (h0 : l0.2 = []) : Fn Try.prog 90 [] [vD (dLs (init ++ [l0]))] (.o (.c (.own 100 2 (init.length + 1)))) [(.b 100, .b 67 2 (dR (init.map rL ++ [[dAs l0.1, .val (.slice none 0 0)]]))), (.u 100, .u)] := by
  obtain ⟨hs1, hs2⟩ := hs
  simp at hs1
  refine Fn.of_code Try.func90 rfl rfl HB.nil rfl rfl HB.nil.data rfl (one_num rfl) ?_
  refine ACode.seq ?_
  refine ACode.region ?_
  refine .cons (.asg rfl rfl) ?_
  refine .nil ?_
  refine ks_n ?_
  refine ACode.seq ?_
  refine ACode.region ?_
  refine .cons (St1.lit0 (k' := 110) (e := 67) (sz := 2) (b := true) rfl rfl rfl rfl (by kernel_rfl) rfl rfl) ?_
  refine .cons (.asg rfl rfl) ?_
  refine .nil ?_
  refine ks_n ?_
  refine ACode.seq ?_
  refine ACode.seq ?_
  refine ACode.region ?_
  refine .cons (.asg rfl rfl) ?_
  refine .nil ?_
  refine ks_n ?_
  refine ACode.block ?_
  refine .loopK (fun m σ => (∃ i : Nat, m = init.length + 1 - i ∧ (i ≤ init.length) ∧ σ = [(.t 0, .v (.o (vD (dLs (init ++ [l0]))))), (.t 3, .v (.o (.c (.own 110 2 (i))))), (.t 4, .v (.o (nat1 (i : Nat)))), (.b 110, .b 67 2 (dR ((init.take i).map rL))), (.u 110, .u)]) ∨ (∃ i : Nat, m = init.length + 1 - i ∧ (i = init.length + 1) ∧ σ = [(.t 0, .v (.o (vD (dLs (init ++ [l0]))))), (.t 3, .v (.o (.c (.own 110 2 (init.length + 1))))), (.t 4, .v (.o (nat1 (i : Nat)))), (.b 110, .b 67 2 (dR (init.map rL ++ [[dAs l0.1, .val (.slice none 0 0)]]))), (.u 110, .u)])) [(110, 110)] (.inl ⟨0, rfl, by omega, rfl⟩) ⟨ks rfl .dt, ks rfl (.c .ow), ks rfl .dt, kb 110 rfl (.dt rfl (by first | exact dR_take rL hl | rfl | (rw [List.take_length, dR_app]; done) | (rw [List.take_length]; done) | (simp [dR]; done))), trivial⟩ ?_
  rintro m σ (⟨i, hm0, hi, rfl⟩ | ⟨i, hm0, rfl, rfl⟩)
  · skip
    refine ACode.seq ?_
    refine ACode.seq ?_
    refine ACode.region ?_
    refine .cons (.mv rfl rfl) ?_
    refine .cons (.mv rfl rfl) ?_
    refine .cons (.ln 67 2 48 rfl rfl rfl) ?_
    refine .cons (.ls rfl rfl rfl) ?_
    refine .nil ?_
    refine ks_n ?_
    refine .cD rfl (fun h14 => ?_) (fun h14 => ?_)
    · skip
      refine ACode.skip ?_
      refine ks_n ?_
      refine ACode.seq ?_
      refine ACode.block ?_
      refine ACode.seq ?_
      by_cases hsp : i < init.length
      · skip
        obtain ⟨l, hl⟩ : ∃ l, init[i]? = some l := ⟨_, List.getElem?_eq_getElem hsp⟩
        have hn : (init ++ [l0])[i]? = some l := by rw [List.getElem?_append_left hsp]; exact hl
        obtain ⟨hla, hlb, hlc, hld⟩ := hs2 l (by first | exact List.mem_of_getElem? hn | simp)
        refine ACode.region ?_
        refine .cons (.bu [] [(0, 1), (1, 1)] [.slice none 0 0, .slice none 0 0] rfl rfl rfl rfl rfl) ?_
        refine .cons (.al 105 [.slice none 0 0, .slice none 0 0] rfl rfl rfl) ?_
        refine .cons (.sT 2 true rfl rfl rfl rfl rfl rfl rfl) ?_
        refine .nil ?_
        refine ks_n ?_
        refine ACode.seq ?_
        refine ACode.seq ?_
        refine ACode.region ?_
        refine .cons (.asg rfl rfl) ?_
        refine .nil ?_
        refine ks_n ?_
        refine ACode.block ?_
        refine .loopK (fun m σ => (∃ k : Nat, m = l.1.length - k ∧ (k = 0) ∧ σ = [(.t 0, .v (.o (vD (dLs (init ++ [l0]))))), (.t 3, .v (.o (.c (.own 120 2 (i))))), (.t 4, .v (.o (nat1 ((i : Nat))))), (.t 5, .v (.o (.c (.box 121 2 0 0)))), (.t 6, .v (.o (nat1 (k : Nat)))), (.b 120, .b 67 2 (dR ((init.take i).map rL))), (.u 120, .u), (.b 121, .b 67 2 [[.d (.val (.slice none 0 0)), .d (.val (.slice none 0 0))]]), (.u 121, .u)]) ∨ (∃ k : Nat, m = l.1.length - k ∧ (1 ≤ k) ∧ (k ≤ l.1.length) ∧ σ = [(.t 0, .v (.o (vD (dLs (init ++ [l0]))))), (.t 3, .v (.o (.c (.own 120 2 (i))))), (.t 4, .v (.o (nat1 ((i : Nat))))), (.t 5, .v (.o (.c (.box 121 2 0 0)))), (.t 6, .v (.o (nat1 (k : Nat)))), (.b 120, .b 67 2 (dR ((init.take i).map rL))), (.u 120, .u), (.b 122, .b 51 2 (dR ((l.1.take k).map rA))), (.u 122, .u), (.b 121, .b 67 2 [[.own 122 2 (k), .d (.val (.slice none 0 0))]]), (.u 121, .u)])) [(120, 110), (121, 105)] (.inl ⟨0, rfl, rfl, rfl⟩) ⟨ks rfl .dt, ks rfl (.c .ow), ks rfl .dt, ks rfl (.c .bx), ks rfl .dt, kb 110 rfl (.dt rfl (by first | exact dR_take rL hl | rfl | (rw [List.take_length, dR_app]; done) | (rw [List.take_length]; done) | (simp [dR]; done))), kb 105 rfl (.cons (.cons .dt (.cons .dt Ctos.nil)) .nil), trivial⟩ ?_
        rintro m σ (⟨k, hm0, rfl, rfl⟩ | ⟨k, hm0, hk1, hk2, rfl⟩)
        · skip
          refine ACode.seq ?_
          refine ACode.seq ?_
          refine ACode.region ?_
          refine .cons (.mv rfl rfl) ?_
          refine .cons (.mv rfl rfl) ?_
          refine .cons (.mv rfl rfl) ?_
          refine .cons (.xL 67 2 48 rfl rfl rfl rfl rfl) ?_
          refine .cons (.fP 0 0 false rfl rfl) ?_
          refine .cons (.l1 1 rfl rfl) ?_
          refine .cons (.ln 51 2 32 rfl rfl rfl) ?_
          refine .cons (.ls rfl rfl rfl) ?_
          refine .nil ?_
          refine ks_n ?_
          refine .cD rfl (fun h25 => ?_) (fun h25 => ?_)
          · skip
            obtain ⟨x, hx, hxs⟩ := at_sm hlc (show 0 < l.1.length by omega)
            refine ACode.skip ?_
            refine ks_n ?_
            refine ACode.seq ?_
            refine ACode.block ?_
            refine ACode.seq ?_
            refine ACode.region ?_
            refine .cons (.mv rfl rfl) ?_
            refine .cons (.mv rfl rfl) ?_
            refine .cons (.xL 67 2 48 rfl rfl rfl rfl rfl) ?_
            refine .cons (.fP 0 0 false rfl rfl) ?_
            refine .cons (.l1 1 rfl rfl) ?_
            refine .cons (.mv rfl rfl) ?_
            refine .cons (.xL 51 2 32 rfl rfl rfl rfl rfl) ?_
            refine .cons (.lN 2 rfl rfl rfl) ?_
            refine .cons (.al 107 [.slice none 0 0, .int .i64 0] rfl rfl rfl) ?_
            refine .cons (.sT 2 true rfl rfl rfl rfl rfl rfl rfl) ?_
            refine .nil ?_
            refine ks_n ?_
            refine ACode.drawK (by kernel_rfl) (by kernel_rfl) ?_
            refine .cons (.fB 0 0 false rfl rfl rfl) ?_
            refine .cons (.b1 1 rfl rfl rfl rfl rfl rfl) ?_
            refine .cons (St1.lit0 (k' := 138) (e := 3) (sz := 1) (b := true) rfl rfl rfl rfl (by kernel_rfl) rfl rfl) ?_
            refine .cons (.fB 0 0 false rfl rfl rfl) ?_
            refine .cons (.b1 1 rfl rfl rfl rfl rfl rfl) ?_
            refine .cons (St1.appD (rows := []) (e := 3) (sz := 0) (by' := 8) rfl rfl rfl rfl rfl (by kernel_rfl) rfl rfl rfl rfl rfl (by simp; omega) rfl) ?_
            refine .cons (.fB 1 0 false rfl rfl rfl) ?_
            refine .cons (.b1 1 rfl rfl rfl rfl rfl rfl) ?_
            refine .cons (.bu [(0, .tmp 41), (1, .tmp 43)] [(0, 1), (1, 1)] [.slice none 0 0, .int .i64 0] rfl rfl rfl rfl rfl) ?_
            refine .cons (.li 51 1 0 [.tmp 44] rfl rfl rfl rfl rfl rfl) ?_
            refine .cons (St1.appN (k' := 146) (e := 51) (sz := 1) (by' := 32) rfl rfl rfl rfl rfl (by kernel_rfl) rfl rfl rfl (by simp) (by first | (simp [dR]; done) | (simp [dR]; omega)) rfl rfl) ?_
            refine .cons (.fB 0 0 false rfl rfl rfl) ?_
            refine .cons (.sT 1 false rfl rfl rfl rfl rfl rfl rfl) ?_
            refine .nil ⟨by kernel_rfl, ?_⟩
            refine kb_n ?_
            refine ks_n ?_
            refine ACode.region ?_
            refine .cons (.mv rfl rfl) ?_
            refine .cons (.pl rfl rfl rfl) ?_
            refine .cons (.asg rfl rfl) ?_
            refine .nil ?_
            refine kl_k [(120, 120), (121, 121), (122, 146)] (.inr ⟨1, rfl, by omega, by omega, rfl⟩) ⟨ks rfl .dt, ks rfl (.c .ow), ks rfl .dt, ks rfl (.c .bx), ks rfl .dt, kb 120 rfl (.dt rfl (by first | exact dR_take rL hl | rfl | (rw [List.take_length, dR_app]; done) | (rw [List.take_length]; done) | (simp [dR]; done))), kb 146 rfl (.dt rfl (by first | exact dR_take rA hx | exact dR_take1 rA hx | rfl | (rw [List.take_length]; done) | (simp [dR]; done))), kb 121 rfl (.cons (.cons .ow (.cons .dt Ctos.nil)) .nil), trivial⟩
          · skip
            have hn1 : l.1 = [] := List.eq_nil_of_length_eq_zero (by omega)
            refine ACode.exit ?_
            refine ks_e ?_
            refine kl_e ?_
            refine kb_hit ?_
            refine ks_n ?_
            refine ACode.seq ?_
            refine ACode.seq ?_
            refine ACode.region ?_
            refine .cons (.asg rfl rfl) ?_
            refine .nil ?_
            refine ks_n ?_
            refine ACode.block ?_
            refine .loopK (fun m σ => (∃ q : Nat, m = l.2.length - q ∧ (q = 0) ∧ σ = [(.t 0, .v (.o (vD (dLs (init ++ [l0]))))), (.t 3, .v (.o (.c (.own 130 2 (i))))), (.t 4, .v (.o (nat1 ((i : Nat))))), (.t 5, .v (.o (.c (.box 131 2 0 0)))), (.t 8, .v (.o (nat1 (q : Nat)))), (.b 130, .b 67 2 (dR ((init.take i).map rL))), (.u 130, .u), (.b 131, .b 67 2 [[.d (dAs l.1), .d (.val (.slice none 0 0))]]), (.u 131, .u)]) ∨ (∃ q : Nat, m = l.2.length - q ∧ (1 ≤ q) ∧ (q ≤ l.2.length) ∧ σ = [(.t 0, .v (.o (vD (dLs (init ++ [l0]))))), (.t 3, .v (.o (.c (.own 130 2 (i))))), (.t 4, .v (.o (nat1 ((i : Nat))))), (.t 5, .v (.o (.c (.box 131 2 0 0)))), (.t 8, .v (.o (nat1 (q : Nat)))), (.b 130, .b 67 2 (dR ((init.take i).map rL))), (.u 130, .u), (.b 132, .b 51 2 (dR ((l.2.take q).map rA))), (.u 132, .u), (.b 131, .b 67 2 [[.d (dAs l.1), .own 132 2 (q)]]), (.u 131, .u)])) [(130, 120), (131, 121)] (.inl ⟨0, rfl, rfl, rfl⟩) ⟨ks rfl .dt, ks rfl (.c .ow), ks rfl .dt, ks rfl (.c .bx), ks rfl .dt, kb 120 rfl (.dt rfl (by first | exact dR_take rL hl | rfl | (rw [List.take_length, dR_app]; done) | (rw [List.take_length]; done) | (simp [dR]; done))), kb 121 rfl (.cons (.cons (Cto.nilE 2 (by rw [hn1]; rfl)) (.cons .dt Ctos.nil)) .nil), trivial⟩ ?_
            rintro m σ (⟨q, hm0, rfl, rfl⟩ | ⟨q, hm0, hq1, hq2, rfl⟩)
            · skip
              refine ACode.seq ?_
              refine ACode.seq ?_
              refine ACode.region ?_
              refine .cons (.mv rfl rfl) ?_
              refine .cons (.mv rfl rfl) ?_
              refine .cons (.mv rfl rfl) ?_
              refine .cons (.xL 67 2 48 rfl rfl rfl rfl rfl) ?_
              refine .cons (.fP 1 0 false rfl rfl) ?_
              refine .cons (.l1 1 rfl rfl) ?_
              refine .cons (.ln 51 2 32 rfl rfl rfl) ?_
              refine .cons (.ls rfl rfl rfl) ?_
              refine .nil ?_
              refine ks_n ?_
              refine .cD rfl (fun h55 => ?_) (fun h55 => ?_)
              · skip
                obtain ⟨x, hx, hxs⟩ := at_sm hld (show 0 < l.2.length by omega)
                refine ACode.skip ?_
                refine ks_n ?_
                refine ACode.seq ?_
                refine ACode.block ?_
                refine ACode.seq ?_
                refine ACode.region ?_
                refine .cons (.mv rfl rfl) ?_
                refine .cons (.mv rfl rfl) ?_
                refine .cons (.xL 67 2 48 rfl rfl rfl rfl rfl) ?_
                refine .cons (.fP 1 0 false rfl rfl) ?_
                refine .cons (.l1 1 rfl rfl) ?_
                refine .cons (.mv rfl rfl) ?_
                refine .cons (.xL 51 2 32 rfl rfl rfl rfl rfl) ?_
                refine .cons (.lN 2 rfl rfl rfl) ?_
                refine .cons (.al 109 [.slice none 0 0, .int .i64 0] rfl rfl rfl) ?_
                refine .cons (.sT 2 true rfl rfl rfl rfl rfl rfl rfl) ?_
                refine .nil ?_
                refine ks_n ?_
                refine ACode.drawK (by kernel_rfl) (by kernel_rfl) ?_
                refine .cons (.fB 1 0 false rfl rfl rfl) ?_
                refine .cons (.b1 1 rfl rfl rfl rfl rfl rfl) ?_
                refine .cons (St1.lit0 (k' := 168) (e := 3) (sz := 1) (b := true) rfl rfl rfl rfl (by kernel_rfl) rfl rfl) ?_
                refine .cons (.fB 0 0 false rfl rfl rfl) ?_
                refine .cons (.b1 1 rfl rfl rfl rfl rfl rfl) ?_
                refine .cons (St1.appD (rows := []) (e := 3) (sz := 0) (by' := 8) rfl rfl rfl rfl rfl (by kernel_rfl) rfl rfl rfl rfl rfl (by simp; omega) rfl) ?_
                refine .cons (.fB 1 0 false rfl rfl rfl) ?_
                refine .cons (.b1 1 rfl rfl rfl rfl rfl rfl) ?_
                refine .cons (.bu [(0, .tmp 71), (1, .tmp 73)] [(0, 1), (1, 1)] [.slice none 0 0, .int .i64 0] rfl rfl rfl rfl rfl) ?_
                refine .cons (.li 51 1 0 [.tmp 74] rfl rfl rfl rfl rfl rfl) ?_
                refine .cons (St1.appN (k' := 176) (e := 51) (sz := 1) (by' := 32) rfl rfl rfl rfl rfl (by kernel_rfl) rfl rfl rfl (by simp) (by first | (simp [dR]; done) | (simp [dR]; omega)) rfl rfl) ?_
                refine .cons (.fB 1 0 false rfl rfl rfl) ?_
                refine .cons (.sT 1 false rfl rfl rfl rfl rfl rfl rfl) ?_
                refine .nil ⟨by kernel_rfl, ?_⟩
                refine kb_n ?_
                refine ks_n ?_
                refine ACode.region ?_
                refine .cons (.mv rfl rfl) ?_
                refine .cons (.pl rfl rfl rfl) ?_
                refine .cons (.asg rfl rfl) ?_
                refine .nil ?_
                refine kl_k [(130, 130), (131, 131), (132, 176)] (.inr ⟨1, rfl, by omega, by omega, rfl⟩) ⟨ks rfl .dt, ks rfl (.c .ow), ks rfl .dt, ks rfl (.c .bx), ks rfl .dt, kb 130 rfl (.dt rfl (by first | exact dR_take rL hl | rfl | (rw [List.take_length, dR_app]; done) | (rw [List.take_length]; done) | (simp [dR]; done))), kb 176 rfl (.dt rfl (by first | exact dR_take rA hx | exact dR_take1 rA hx | rfl | (rw [List.take_length]; done) | (simp [dR]; done))), kb 131 rfl (.cons (.cons .dt (.cons .ow Ctos.nil)) .nil), trivial⟩
              · skip
                have hn2 : l.2 = [] := List.eq_nil_of_length_eq_zero (by omega)
                refine ACode.exit ?_
                refine ks_e ?_
                refine kl_e ?_
                refine kb_hit ?_
                refine ks_n ?_
                refine .keep [(.t 0, .v (.o (vD (dLs (init ++ [l0]))))), (.t 3, .v (.o (.c (.own 860 2 (i))))), (.t 4, .v (.o (nat1 ((i : Nat))))), (.t 5, .v (.o (.c (.box 861 2 0 0)))), (.b 860, .b 67 2 (dR ((init.take i).map rL))), (.u 860, .u), (.b 861, .b 67 2 [[.d (dAs l.1), .d (dAs l.2)]]), (.u 861, .u)] [(860, 130), (861, 131)] ⟨ks rfl .dt, ks rfl (.c .ow), ks rfl .dt, ks rfl (.c .bx), kb 130 rfl (.dt rfl (by first | exact dR_take rL hl | rfl | (rw [List.take_length, dR_app]; done) | (rw [List.take_length]; done) | (simp [dR]; done))), kb 131 rfl (.cons (.cons .dt (.cons (Cto.nilE 2 (by rw [hn2]; rfl)) Ctos.nil)) .nil), trivial⟩ ?_
                refine ACode.region ?_
                refine .cons (.mv rfl rfl) ?_
                refine .cons (.bN 2 rfl rfl rfl rfl rfl rfl) ?_
                refine .cons (.li 67 1 0 [.tmp 79] rfl rfl rfl rfl rfl rfl) ?_
                refine .cons (St1.appB (k' := 181) (e := 67) (sz := 1) (by' := 48) rfl rfl rfl rfl rfl (by kernel_rfl) rfl rfl rfl rfl (by first | (simp [dR]; done) | (simp [dR]; omega)) (by first | (simp [dR]; done) | (simp [dR]; omega)) rfl rfl rfl) ?_
                refine .cons (.asg rfl rfl) ?_
                refine .nil ?_
                refine kb_n ?_
                refine ks_n ?_
                refine ACode.region ?_
                refine .cons (.mv rfl rfl) ?_
                refine .cons (.pl rfl rfl rfl) ?_
                refine .cons (.asg rfl rfl) ?_
                refine .nil ?_
                refine kl_k [(110, 181)] (.inl ⟨i + 1, rfl, by omega, rfl⟩) ⟨ks rfl .dt, ks rfl (.c .ow), ks rfl .dt, kb 181 rfl (.dt rfl (by first | exact dR_take rL hl | rfl | (rw [List.take_length, dR_app]; done) | (rw [List.take_length]; done) | (simp [dR]; done))), trivial⟩
            · skip
              refine ACode.seq ?_
              refine ACode.seq ?_
              refine ACode.region ?_
              refine .cons (.mv rfl rfl) ?_
              refine .cons (.mv rfl rfl) ?_
              refine .cons (.mv rfl rfl) ?_
              refine .cons (.xL 67 2 48 rfl rfl rfl rfl rfl) ?_
              refine .cons (.fP 1 0 false rfl rfl) ?_
              refine .cons (.l1 1 rfl rfl) ?_
              refine .cons (.ln 51 2 32 rfl rfl rfl) ?_
              refine .cons (.ls rfl rfl rfl) ?_
              refine .nil ?_
              refine ks_n ?_
              refine .cD rfl (fun h55 => ?_) (fun h55 => ?_)
              · skip
                obtain ⟨x, hx, hxs⟩ := at_sm hld (show q < l.2.length by omega)
                refine ACode.skip ?_
                refine ks_n ?_
                refine ACode.seq ?_
                refine ACode.block ?_
                refine ACode.seq ?_
                refine ACode.region ?_
                refine .cons (.mv rfl rfl) ?_
                refine .cons (.mv rfl rfl) ?_
                refine .cons (.xL 67 2 48 rfl rfl rfl rfl rfl) ?_
                refine .cons (.fP 1 0 false rfl rfl) ?_
                refine .cons (.l1 1 rfl rfl) ?_
                refine .cons (.mv rfl rfl) ?_
                refine .cons (.xL 51 2 32 rfl rfl rfl rfl rfl) ?_
                refine .cons (.lN 2 rfl rfl rfl) ?_
                refine .cons (.al 109 [.slice none 0 0, .int .i64 0] rfl rfl rfl) ?_
                refine .cons (.sT 2 true rfl rfl rfl rfl rfl rfl rfl) ?_
                refine .nil ?_
                refine ks_n ?_
                refine ACode.drawK (by kernel_rfl) (by kernel_rfl) ?_
                refine .cons (.fB 1 0 false rfl rfl rfl) ?_
                refine .cons (.b1 1 rfl rfl rfl rfl rfl rfl) ?_
                refine .cons (St1.lit0 (k' := 168) (e := 3) (sz := 1) (b := true) rfl rfl rfl rfl (by kernel_rfl) rfl rfl) ?_
                refine .cons (.fB 0 0 false rfl rfl rfl) ?_
                refine .cons (.b1 1 rfl rfl rfl rfl rfl rfl) ?_
                refine .cons (St1.appD (rows := []) (e := 3) (sz := 0) (by' := 8) rfl rfl rfl rfl rfl (by kernel_rfl) rfl rfl rfl rfl rfl (by simp; omega) rfl) ?_
                refine .cons (.fB 1 0 false rfl rfl rfl) ?_
                refine .cons (.b1 1 rfl rfl rfl rfl rfl rfl) ?_
                refine .cons (.bu [(0, .tmp 71), (1, .tmp 73)] [(0, 1), (1, 1)] [.slice none 0 0, .int .i64 0] rfl rfl rfl rfl rfl) ?_
                refine .cons (.li 51 1 0 [.tmp 74] rfl rfl rfl rfl rfl rfl) ?_
                refine .cons (St1.appB (k' := 176) (e := 51) (sz := 1) (by' := 32) rfl rfl rfl rfl rfl (by kernel_rfl) rfl rfl rfl rfl (by first | (simp [dR]; done) | (simp [dR]; omega)) (by first | (simp [dR]; done) | (simp [dR]; omega)) rfl rfl rfl) ?_
                refine .cons (.fB 1 0 false rfl rfl rfl) ?_
                refine .cons (.sT 1 false rfl rfl rfl rfl rfl rfl rfl) ?_
                refine .nil ⟨by kernel_rfl, ?_⟩
                refine kb_n ?_
                refine ks_n ?_
                refine ACode.region ?_
                refine .cons (.mv rfl rfl) ?_
                refine .cons (.pl rfl rfl rfl) ?_
                refine .cons (.asg rfl rfl) ?_
                refine .nil ?_
                refine kl_k [(130, 130), (131, 131), (132, 176)] (.inr ⟨q + 1, rfl, by omega, by omega, rfl⟩) ⟨ks rfl .dt, ks rfl (.c .ow), ks rfl .dt, ks rfl (.c .bx), ks rfl .dt, kb 130 rfl (.dt rfl (by first | exact dR_take rL hl | rfl | (rw [List.take_length, dR_app]; done) | (rw [List.take_length]; done) | (simp [dR]; done))), kb 176 rfl (.dt rfl (by first | exact dR_take rA hx | exact dR_take1 rA hx | rfl | (rw [List.take_length]; done) | (simp [dR]; done))), kb 131 rfl (.cons (.cons .dt (.cons .ow Ctos.nil)) .nil), trivial⟩
              · skip
                obtain rfl : q = l.2.length := by omega
                refine ACode.exit ?_
                refine ks_e ?_
                refine kl_e ?_
                refine kb_hit ?_
                refine ks_n ?_
                refine .keep [(.t 0, .v (.o (vD (dLs (init ++ [l0]))))), (.t 3, .v (.o (.c (.own 860 2 (i))))), (.t 4, .v (.o (nat1 ((i : Nat))))), (.t 5, .v (.o (.c (.box 861 2 0 0)))), (.b 860, .b 67 2 (dR ((init.take i).map rL))), (.u 860, .u), (.b 861, .b 67 2 [[.d (dAs l.1), .d (dAs l.2)]]), (.u 861, .u)] [(860, 130), (861, 131)] ⟨ks rfl .dt, ks rfl (.c .ow), ks rfl .dt, ks rfl (.c .bx), kb 130 rfl (.dt rfl (by first | exact dR_take rL hl | rfl | (rw [List.take_length, dR_app]; done) | (rw [List.take_length]; done) | (simp [dR]; done))), kb 131 rfl (.cons (.cons .dt (.cons (.fz rfl (by first | rfl | (rw [List.take_length]; done)) (by first | rfl | (simp; done) | (simp; omega)) (by omega)) Ctos.nil)) .nil), trivial⟩ ?_
                refine ACode.region ?_
                refine .cons (.mv rfl rfl) ?_
                refine .cons (.bN 2 rfl rfl rfl rfl rfl rfl) ?_
                refine .cons (.li 67 1 0 [.tmp 79] rfl rfl rfl rfl rfl rfl) ?_
                refine .cons (St1.appB (k' := 181) (e := 67) (sz := 1) (by' := 48) rfl rfl rfl rfl rfl (by kernel_rfl) rfl rfl rfl rfl (by first | (simp [dR]; done) | (simp [dR]; omega)) (by first | (simp [dR]; done) | (simp [dR]; omega)) rfl rfl rfl) ?_
                refine .cons (.asg rfl rfl) ?_
                refine .nil ?_
                refine kb_n ?_
                refine ks_n ?_
                refine ACode.region ?_
                refine .cons (.mv rfl rfl) ?_
                refine .cons (.pl rfl rfl rfl) ?_
                refine .cons (.asg rfl rfl) ?_
                refine .nil ?_
                refine kl_k [(110, 181)] (.inl ⟨i + 1, rfl, by omega, rfl⟩) ⟨ks rfl .dt, ks rfl (.c .ow), ks rfl .dt, kb 181 rfl (.dt rfl (by first | exact dR_take rL hl | rfl | (rw [List.take_length, dR_app]; done) | (rw [List.take_length]; done) | (simp [dR]; done))), trivial⟩
        · skip
          refine ACode.seq ?_
          refine ACode.seq ?_
          refine ACode.region ?_
          refine .cons (.mv rfl rfl) ?_
          refine .cons (.mv rfl rfl) ?_
          refine .cons (.mv rfl rfl) ?_
          refine .cons (.xL 67 2 48 rfl rfl rfl rfl rfl) ?_
          refine .cons (.fP 0 0 false rfl rfl) ?_
          refine .cons (.l1 1 rfl rfl) ?_
          refine .cons (.ln 51 2 32 rfl rfl rfl) ?_
          refine .cons (.ls rfl rfl rfl) ?_
          refine .nil ?_
          refine ks_n ?_
          refine .cD rfl (fun h25 => ?_) (fun h25 => ?_)
          · skip
            obtain ⟨x, hx, hxs⟩ := at_sm hlc (show k < l.1.length by omega)
            refine ACode.skip ?_
            refine ks_n ?_
            refine ACode.seq ?_
            refine ACode.block ?_
            refine ACode.seq ?_
            refine ACode.region ?_
            refine .cons (.mv rfl rfl) ?_
            refine .cons (.mv rfl rfl) ?_
            refine .cons (.xL 67 2 48 rfl rfl rfl rfl rfl) ?_
            refine .cons (.fP 0 0 false rfl rfl) ?_
            refine .cons (.l1 1 rfl rfl) ?_
            refine .cons (.mv rfl rfl) ?_
            refine .cons (.xL 51 2 32 rfl rfl rfl rfl rfl) ?_
            refine .cons (.lN 2 rfl rfl rfl) ?_
            refine .cons (.al 107 [.slice none 0 0, .int .i64 0] rfl rfl rfl) ?_
            refine .cons (.sT 2 true rfl rfl rfl rfl rfl rfl rfl) ?_
            refine .nil ?_
            refine ks_n ?_
            refine ACode.drawK (by kernel_rfl) (by kernel_rfl) ?_
            refine .cons (.fB 0 0 false rfl rfl rfl) ?_
            refine .cons (.b1 1 rfl rfl rfl rfl rfl rfl) ?_
            refine .cons (St1.lit0 (k' := 138) (e := 3) (sz := 1) (b := true) rfl rfl rfl rfl (by kernel_rfl) rfl rfl) ?_
            refine .cons (.fB 0 0 false rfl rfl rfl) ?_
            refine .cons (.b1 1 rfl rfl rfl rfl rfl rfl) ?_
            refine .cons (St1.appD (rows := []) (e := 3) (sz := 0) (by' := 8) rfl rfl rfl rfl rfl (by kernel_rfl) rfl rfl rfl rfl rfl (by simp; omega) rfl) ?_
            refine .cons (.fB 1 0 false rfl rfl rfl) ?_
            refine .cons (.b1 1 rfl rfl rfl rfl rfl rfl) ?_
            refine .cons (.bu [(0, .tmp 41), (1, .tmp 43)] [(0, 1), (1, 1)] [.slice none 0 0, .int .i64 0] rfl rfl rfl rfl rfl) ?_
            refine .cons (.li 51 1 0 [.tmp 44] rfl rfl rfl rfl rfl rfl) ?_
            refine .cons (St1.appB (k' := 146) (e := 51) (sz := 1) (by' := 32) rfl rfl rfl rfl rfl (by kernel_rfl) rfl rfl rfl rfl (by first | (simp [dR]; done) | (simp [dR]; omega)) (by first | (simp [dR]; done) | (simp [dR]; omega)) rfl rfl rfl) ?_
            refine .cons (.fB 0 0 false rfl rfl rfl) ?_
            refine .cons (.sT 1 false rfl rfl rfl rfl rfl rfl rfl) ?_
            refine .nil ⟨by kernel_rfl, ?_⟩
            refine kb_n ?_
            refine ks_n ?_
            refine ACode.region ?_
            refine .cons (.mv rfl rfl) ?_
            refine .cons (.pl rfl rfl rfl) ?_
            refine .cons (.asg rfl rfl) ?_
            refine .nil ?_
            refine kl_k [(120, 120), (121, 121), (122, 146)] (.inr ⟨k + 1, rfl, by omega, by omega, rfl⟩) ⟨ks rfl .dt, ks rfl (.c .ow), ks rfl .dt, ks rfl (.c .bx), ks rfl .dt, kb 120 rfl (.dt rfl (by first | exact dR_take rL hl | rfl | (rw [List.take_length, dR_app]; done) | (rw [List.take_length]; done) | (simp [dR]; done))), kb 146 rfl (.dt rfl (by first | exact dR_take rA hx | exact dR_take1 rA hx | rfl | (rw [List.take_length]; done) | (simp [dR]; done))), kb 121 rfl (.cons (.cons .ow (.cons .dt Ctos.nil)) .nil), trivial⟩
          · skip
            obtain rfl : k = l.1.length := by omega
            refine ACode.exit ?_
            refine ks_e ?_
            refine kl_e ?_
            refine kb_hit ?_
            refine ks_n ?_
            refine ACode.seq ?_
            refine ACode.seq ?_
            refine ACode.region ?_
            refine .cons (.asg rfl rfl) ?_
            refine .nil ?_
            refine ks_n ?_
            refine ACode.block ?_
            refine .loopK (fun m σ => (∃ q : Nat, m = l.2.length - q ∧ (q = 0) ∧ σ = [(.t 0, .v (.o (vD (dLs (init ++ [l0]))))), (.t 3, .v (.o (.c (.own 130 2 (i))))), (.t 4, .v (.o (nat1 ((i : Nat))))), (.t 5, .v (.o (.c (.box 131 2 0 0)))), (.t 8, .v (.o (nat1 (q : Nat)))), (.b 130, .b 67 2 (dR ((init.take i).map rL))), (.u 130, .u), (.b 131, .b 67 2 [[.d (dAs l.1), .d (.val (.slice none 0 0))]]), (.u 131, .u)]) ∨ (∃ q : Nat, m = l.2.length - q ∧ (1 ≤ q) ∧ (q ≤ l.2.length) ∧ σ = [(.t 0, .v (.o (vD (dLs (init ++ [l0]))))), (.t 3, .v (.o (.c (.own 130 2 (i))))), (.t 4, .v (.o (nat1 ((i : Nat))))), (.t 5, .v (.o (.c (.box 131 2 0 0)))), (.t 8, .v (.o (nat1 (q : Nat)))), (.b 130, .b 67 2 (dR ((init.take i).map rL))), (.u 130, .u), (.b 132, .b 51 2 (dR ((l.2.take q).map rA))), (.u 132, .u), (.b 131, .b 67 2 [[.d (dAs l.1), .own 132 2 (q)]]), (.u 131, .u)])) [(130, 120), (131, 121)] (.inl ⟨0, rfl, rfl, rfl⟩) ⟨ks rfl .dt, ks rfl (.c .ow), ks rfl .dt, ks rfl (.c .bx), ks rfl .dt, kb 120 rfl (.dt rfl (by first | exact dR_take rL hl | rfl | (rw [List.take_length, dR_app]; done) | (rw [List.take_length]; done) | (simp [dR]; done))), kb 121 rfl (.cons (.cons (.fz rfl (by first | rfl | (rw [List.take_length]; done)) (by first | rfl | (simp; done) | (simp; omega)) (by omega)) (.cons .dt Ctos.nil)) .nil), trivial⟩ ?_
            rintro m σ (⟨q, hm0, rfl, rfl⟩ | ⟨q, hm0, hq1, hq2, rfl⟩)
            · skip
              refine ACode.seq ?_
              refine ACode.seq ?_
              refine ACode.region ?_
              refine .cons (.mv rfl rfl) ?_
              refine .cons (.mv rfl rfl) ?_
              refine .cons (.mv rfl rfl) ?_
              refine .cons (.xL 67 2 48 rfl rfl rfl rfl rfl) ?_
              refine .cons (.fP 1 0 false rfl rfl) ?_
              refine .cons (.l1 1 rfl rfl) ?_
              refine .cons (.ln 51 2 32 rfl rfl rfl) ?_
              refine .cons (.ls rfl rfl rfl) ?_
              refine .nil ?_
              refine ks_n ?_
              refine .cD rfl (fun h55 => ?_) (fun h55 => ?_)
              · skip
                obtain ⟨x, hx, hxs⟩ := at_sm hld (show 0 < l.2.length by omega)
                refine ACode.skip ?_
                refine ks_n ?_
                refine ACode.seq ?_
                refine ACode.block ?_
                refine ACode.seq ?_
                refine ACode.region ?_
                refine .cons (.mv rfl rfl) ?_
                refine .cons (.mv rfl rfl) ?_
                refine .cons (.xL 67 2 48 rfl rfl rfl rfl rfl) ?_
                refine .cons (.fP 1 0 false rfl rfl) ?_
                refine .cons (.l1 1 rfl rfl) ?_
                refine .cons (.mv rfl rfl) ?_
                refine .cons (.xL 51 2 32 rfl rfl rfl rfl rfl) ?_
                refine .cons (.lN 2 rfl rfl rfl) ?_
                refine .cons (.al 109 [.slice none 0 0, .int .i64 0] rfl rfl rfl) ?_
                refine .cons (.sT 2 true rfl rfl rfl rfl rfl rfl rfl) ?_
                refine .nil ?_
                refine ks_n ?_
                refine ACode.drawK (by kernel_rfl) (by kernel_rfl) ?_
                refine .cons (.fB 1 0 false rfl rfl rfl) ?_
                refine .cons (.b1 1 rfl rfl rfl rfl rfl rfl) ?_
                refine .cons (St1.lit0 (k' := 168) (e := 3) (sz := 1) (b := true) rfl rfl rfl rfl (by kernel_rfl) rfl rfl) ?_
                refine .cons (.fB 0 0 false rfl rfl rfl) ?_
                refine .cons (.b1 1 rfl rfl rfl rfl rfl rfl) ?_
                refine .cons (St1.appD (rows := []) (e := 3) (sz := 0) (by' := 8) rfl rfl rfl rfl rfl (by kernel_rfl) rfl rfl rfl rfl rfl (by simp; omega) rfl) ?_
                refine .cons (.fB 1 0 false rfl rfl rfl) ?_
                refine .cons (.b1 1 rfl rfl rfl rfl rfl rfl) ?_
                refine .cons (.bu [(0, .tmp 71), (1, .tmp 73)] [(0, 1), (1, 1)] [.slice none 0 0, .int .i64 0] rfl rfl rfl rfl rfl) ?_
                refine .cons (.li 51 1 0 [.tmp 74] rfl rfl rfl rfl rfl rfl) ?_
                refine .cons (St1.appN (k' := 176) (e := 51) (sz := 1) (by' := 32) rfl rfl rfl rfl rfl (by kernel_rfl) rfl rfl rfl (by simp) (by first | (simp [dR]; done) | (simp [dR]; omega)) rfl rfl) ?_
                refine .cons (.fB 1 0 false rfl rfl rfl) ?_
                refine .cons (.sT 1 false rfl rfl rfl rfl rfl rfl rfl) ?_
                refine .nil ⟨by kernel_rfl, ?_⟩
                refine kb_n ?_
                refine ks_n ?_
                refine ACode.region ?_
                refine .cons (.mv rfl rfl) ?_
                refine .cons (.pl rfl rfl rfl) ?_
                refine .cons (.asg rfl rfl) ?_
                refine .nil ?_
                refine kl_k [(130, 130), (131, 131), (132, 176)] (.inr ⟨1, rfl, by omega, by omega, rfl⟩) ⟨ks rfl .dt, ks rfl (.c .ow), ks rfl .dt, ks rfl (.c .bx), ks rfl .dt, kb 130 rfl (.dt rfl (by first | exact dR_take rL hl | rfl | (rw [List.take_length, dR_app]; done) | (rw [List.take_length]; done) | (simp [dR]; done))), kb 176 rfl (.dt rfl (by first | exact dR_take rA hx | exact dR_take1 rA hx | rfl | (rw [List.take_length]; done) | (simp [dR]; done))), kb 131 rfl (.cons (.cons .dt (.cons .ow Ctos.nil)) .nil), trivial⟩
              · skip
                have hn2 : l.2 = [] := List.eq_nil_of_length_eq_zero (by omega)
                refine ACode.exit ?_
                refine ks_e ?_
                refine kl_e ?_
                refine kb_hit ?_
                refine ks_n ?_
                refine .keep [(.t 0, .v (.o (vD (dLs (init ++ [l0]))))), (.t 3, .v (.o (.c (.own 860 2 (i))))), (.t 4, .v (.o (nat1 ((i : Nat))))), (.t 5, .v (.o (.c (.box 861 2 0 0)))), (.b 860, .b 67 2 (dR ((init.take i).map rL))), (.u 860, .u), (.b 861, .b 67 2 [[.d (dAs l.1), .d (dAs l.2)]]), (.u 861, .u)] [(860, 130), (861, 131)] ⟨ks rfl .dt, ks rfl (.c .ow), ks rfl .dt, ks rfl (.c .bx), kb 130 rfl (.dt rfl (by first | exact dR_take rL hl | rfl | (rw [List.take_length, dR_app]; done) | (rw [List.take_length]; done) | (simp [dR]; done))), kb 131 rfl (.cons (.cons .dt (.cons (Cto.nilE 2 (by rw [hn2]; rfl)) Ctos.nil)) .nil), trivial⟩ ?_
                refine ACode.region ?_
                refine .cons (.mv rfl rfl) ?_
                refine .cons (.bN 2 rfl rfl rfl rfl rfl rfl) ?_
                refine .cons (.li 67 1 0 [.tmp 79] rfl rfl rfl rfl rfl rfl) ?_
                refine .cons (St1.appB (k' := 181) (e := 67) (sz := 1) (by' := 48) rfl rfl rfl rfl rfl (by kernel_rfl) rfl rfl rfl rfl (by first | (simp [dR]; done) | (simp [dR]; omega)) (by first | (simp [dR]; done) | (simp [dR]; omega)) rfl rfl rfl) ?_
                refine .cons (.asg rfl rfl) ?_
                refine .nil ?_
                refine kb_n ?_
                refine ks_n ?_
                refine ACode.region ?_
                refine .cons (.mv rfl rfl) ?_
                refine .cons (.pl rfl rfl rfl) ?_
                refine .cons (.asg rfl rfl) ?_
                refine .nil ?_
                refine kl_k [(110, 181)] (.inl ⟨i + 1, rfl, by omega, rfl⟩) ⟨ks rfl .dt, ks rfl (.c .ow), ks rfl .dt, kb 181 rfl (.dt rfl (by first | exact dR_take rL hl | rfl | (rw [List.take_length, dR_app]; done) | (rw [List.take_length]; done) | (simp [dR]; done))), trivial⟩
            · skip
              refine ACode.seq ?_
              refine ACode.seq ?_
              refine ACode.region ?_
              refine .cons (.mv rfl rfl) ?_
              refine .cons (.mv rfl rfl) ?_
              refine .cons (.mv rfl rfl) ?_
              refine .cons (.xL 67 2 48 rfl rfl rfl rfl rfl) ?_
              refine .cons (.fP 1 0 false rfl rfl) ?_
              refine .cons (.l1 1 rfl rfl) ?_
              refine .cons (.ln 51 2 32 rfl rfl rfl) ?_
              refine .cons (.ls rfl rfl rfl) ?_
              refine .nil ?_
              refine ks_n ?_
              refine .cD rfl (fun h55 => ?_) (fun h55 => ?_)
              · skip
                obtain ⟨x, hx, hxs⟩ := at_sm hld (show q < l.2.length by omega)
                refine ACode.skip ?_
                refine ks_n ?_
                refine ACode.seq ?_
                refine ACode.block ?_
                refine ACode.seq ?_
                refine ACode.region ?_
                refine .cons (.mv rfl rfl) ?_
                refine .cons (.mv rfl rfl) ?_
                refine .cons (.xL 67 2 48 rfl rfl rfl rfl rfl) ?_
                refine .cons (.fP 1 0 false rfl rfl) ?_
                refine .cons (.l1 1 rfl rfl) ?_
                refine .cons (.mv rfl rfl) ?_
                refine .cons (.xL 51 2 32 rfl rfl rfl rfl rfl) ?_
                refine .cons (.lN 2 rfl rfl rfl) ?_
                refine .cons (.al 109 [.slice none 0 0, .int .i64 0] rfl rfl rfl) ?_
                refine .cons (.sT 2 true rfl rfl rfl rfl rfl rfl rfl) ?_
                refine .nil ?_
                refine ks_n ?_
                refine ACode.drawK (by kernel_rfl) (by kernel_rfl) ?_
                refine .cons (.fB 1 0 false rfl rfl rfl) ?_
                refine .cons (.b1 1 rfl rfl rfl rfl rfl rfl) ?_
                refine .cons (St1.lit0 (k' := 168) (e := 3) (sz := 1) (b := true) rfl rfl rfl rfl (by kernel_rfl) rfl rfl) ?_
                refine .cons (.fB 0 0 false rfl rfl rfl) ?_
                refine .cons (.b1 1 rfl rfl rfl rfl rfl rfl) ?_
                refine .cons (St1.appD (rows := []) (e := 3) (sz := 0) (by' := 8) rfl rfl rfl rfl rfl (by kernel_rfl) rfl rfl rfl rfl rfl (by simp; omega) rfl) ?_
                refine .cons (.fB 1 0 false rfl rfl rfl) ?_
                refine .cons (.b1 1 rfl rfl rfl rfl rfl rfl) ?_
                refine .cons (.bu [(0, .tmp 71), (1, .tmp 73)] [(0, 1), (1, 1)] [.slice none 0 0, .int .i64 0] rfl rfl rfl rfl rfl) ?_
                refine .cons (.li 51 1 0 [.tmp 74] rfl rfl rfl rfl rfl rfl) ?_
                refine .cons (St1.appB (k' := 176) (e := 51) (sz := 1) (by' := 32) rfl rfl rfl rfl rfl (by kernel_rfl) rfl rfl rfl rfl (by first | (simp [dR]; done) | (simp [dR]; omega)) (by first | (simp [dR]; done) | (simp [dR]; omega)) rfl rfl rfl) ?_
                refine .cons (.fB 1 0 false rfl rfl rfl) ?_
                refine .cons (.sT 1 false rfl rfl rfl rfl rfl rfl rfl) ?_
                refine .nil ⟨by kernel_rfl, ?_⟩
                refine kb_n ?_
                refine ks_n ?_
                refine ACode.region ?_
                refine .cons (.mv rfl rfl) ?_
                refine .cons (.pl rfl rfl rfl) ?_
                refine .cons (.asg rfl rfl) ?_
                refine .nil ?_
                refine kl_k [(130, 130), (131, 131), (132, 176)] (.inr ⟨q + 1, rfl, by omega, by omega, rfl⟩) ⟨ks rfl .dt, ks rfl (.c .ow), ks rfl .dt, ks rfl (.c .bx), ks rfl .dt, kb 130 rfl (.dt rfl (by first | exact dR_take rL hl | rfl | (rw [List.take_length, dR_app]; done) | (rw [List.take_length]; done) | (simp [dR]; done))), kb 176 rfl (.dt rfl (by first | exact dR_take rA hx | exact dR_take1 rA hx | rfl | (rw [List.take_length]; done) | (simp [dR]; done))), kb 131 rfl (.cons (.cons .dt (.cons .ow Ctos.nil)) .nil), trivial⟩
              · skip
                obtain rfl : q = l.2.length := by omega
                refine ACode.exit ?_
                refine ks_e ?_
                refine kl_e ?_
                refine kb_hit ?_
                refine ks_n ?_
                refine .keep [(.t 0, .v (.o (vD (dLs (init ++ [l0]))))), (.t 3, .v (.o (.c (.own 860 2 (i))))), (.t 4, .v (.o (nat1 ((i : Nat))))), (.t 5, .v (.o (.c (.box 861 2 0 0)))), (.b 860, .b 67 2 (dR ((init.take i).map rL))), (.u 860, .u), (.b 861, .b 67 2 [[.d (dAs l.1), .d (dAs l.2)]]), (.u 861, .u)] [(860, 130), (861, 131)] ⟨ks rfl .dt, ks rfl (.c .ow), ks rfl .dt, ks rfl (.c .bx), kb 130 rfl (.dt rfl (by first | exact dR_take rL hl | rfl | (rw [List.take_length, dR_app]; done) | (rw [List.take_length]; done) | (simp [dR]; done))), kb 131 rfl (.cons (.cons .dt (.cons (.fz rfl (by first | rfl | (rw [List.take_length]; done)) (by first | rfl | (simp; done) | (simp; omega)) (by omega)) Ctos.nil)) .nil), trivial⟩ ?_
                refine ACode.region ?_
                refine .cons (.mv rfl rfl) ?_
                refine .cons (.bN 2 rfl rfl rfl rfl rfl rfl) ?_
                refine .cons (.li 67 1 0 [.tmp 79] rfl rfl rfl rfl rfl rfl) ?_
                refine .cons (St1.appB (k' := 181) (e := 67) (sz := 1) (by' := 48) rfl rfl rfl rfl rfl (by kernel_rfl) rfl rfl rfl rfl (by first | (simp [dR]; done) | (simp [dR]; omega)) (by first | (simp [dR]; done) | (simp [dR]; omega)) rfl rfl rfl) ?_
                refine .cons (.asg rfl rfl) ?_
                refine .nil ?_
                refine kb_n ?_
                refine ks_n ?_
                refine ACode.region ?_
                refine .cons (.mv rfl rfl) ?_
                refine .cons (.pl rfl rfl rfl) ?_
                refine .cons (.asg rfl rfl) ?_
                refine .nil ?_
                refine kl_k [(110, 181)] (.inl ⟨i + 1, rfl, by omega, rfl⟩) ⟨ks rfl .dt, ks rfl (.c .ow), ks rfl .dt, kb 181 rfl (.dt rfl (by first | exact dR_take rL hl | rfl | (rw [List.take_length, dR_app]; done) | (rw [List.take_length]; done) | (simp [dR]; done))), trivial⟩
      · skip
        obtain rfl : i = init.length := by omega
        have hn : (init ++ [l0])[init.length]? = some l0 := by simp
        obtain ⟨hla, hlb, hlc, hld⟩ := hs2 l0 (by first | exact List.mem_of_getElem? hn | simp)
        refine ACode.region ?_
        refine .cons (.bu [] [(0, 1), (1, 1)] [.slice none 0 0, .slice none 0 0] rfl rfl rfl rfl rfl) ?_
        refine .cons (.al 105 [.slice none 0 0, .slice none 0 0] rfl rfl rfl) ?_
        refine .cons (.sT 2 true rfl rfl rfl rfl rfl rfl rfl) ?_
        refine .nil ?_
        refine ks_n ?_
        refine ACode.seq ?_
        refine ACode.seq ?_
        refine ACode.region ?_
        refine .cons (.asg rfl rfl) ?_
        refine .nil ?_
        refine ks_n ?_
        refine ACode.block ?_
        refine .loopK (fun m σ => (∃ k : Nat, m = l0.1.length - k ∧ (k = 0) ∧ σ = [(.t 0, .v (.o (vD (dLs (init ++ [l0]))))), (.t 3, .v (.o (.c (.own 120 2 (init.length))))), (.t 4, .v (.o (nat1 ((init.length : Nat))))), (.t 5, .v (.o (.c (.box 121 2 0 0)))), (.t 6, .v (.o (nat1 (k : Nat)))), (.b 120, .b 67 2 (dR ((init.take init.length).map rL))), (.u 120, .u), (.b 121, .b 67 2 [[.d (.val (.slice none 0 0)), .d (.val (.slice none 0 0))]]), (.u 121, .u)]) ∨ (∃ k : Nat, m = l0.1.length - k ∧ (1 ≤ k) ∧ (k ≤ l0.1.length) ∧ σ = [(.t 0, .v (.o (vD (dLs (init ++ [l0]))))), (.t 3, .v (.o (.c (.own 120 2 (init.length))))), (.t 4, .v (.o (nat1 ((init.length : Nat))))), (.t 5, .v (.o (.c (.box 121 2 0 0)))), (.t 6, .v (.o (nat1 (k : Nat)))), (.b 120, .b 67 2 (dR ((init.take init.length).map rL))), (.u 120, .u), (.b 122, .b 51 2 (dR ((l0.1.take k).map rA))), (.u 122, .u), (.b 121, .b 67 2 [[.own 122 2 (k), .d (.val (.slice none 0 0))]]), (.u 121, .u)])) [(120, 110), (121, 105)] (.inl ⟨0, rfl, rfl, rfl⟩) ⟨ks rfl .dt, ks rfl (.c .ow), ks rfl .dt, ks rfl (.c .bx), ks rfl .dt, kb 110 rfl (.dt rfl (by first | exact dR_take rL hl | rfl | (rw [List.take_length, dR_app]; done) | (rw [List.take_length]; done) | (simp [dR]; done))), kb 105 rfl (.cons (.cons .dt (.cons .dt Ctos.nil)) .nil), trivial⟩ ?_
        rintro m σ (⟨k, hm0, rfl, rfl⟩ | ⟨k, hm0, hk1, hk2, rfl⟩)
        · skip
          refine ACode.seq ?_
          refine ACode.seq ?_
          refine ACode.region ?_
          refine .cons (.mv rfl rfl) ?_
          refine .cons (.mv rfl rfl) ?_
          refine .cons (.mv rfl rfl) ?_
          refine .cons (.xL 67 2 48 rfl rfl rfl rfl rfl) ?_
          refine .cons (.fP 0 0 false rfl rfl) ?_
          refine .cons (.l1 1 rfl rfl) ?_
          refine .cons (.ln 51 2 32 rfl rfl rfl) ?_
          refine .cons (.ls rfl rfl rfl) ?_
          refine .nil ?_
          refine ks_n ?_
          refine .cD rfl (fun h25 => ?_) (fun h25 => ?_)
          · skip
            obtain ⟨x, hx, hxs⟩ := at_sm hlc (show 0 < l0.1.length by omega)
            refine ACode.skip ?_
            refine ks_n ?_
            refine ACode.seq ?_
            refine ACode.block ?_
            refine ACode.seq ?_
            refine ACode.region ?_
            refine .cons (.mv rfl rfl) ?_
            refine .cons (.mv rfl rfl) ?_
            refine .cons (.xL 67 2 48 rfl rfl rfl rfl rfl) ?_
            refine .cons (.fP 0 0 false rfl rfl) ?_
            refine .cons (.l1 1 rfl rfl) ?_
            refine .cons (.mv rfl rfl) ?_
            refine .cons (.xL 51 2 32 rfl rfl rfl rfl rfl) ?_
            refine .cons (.lN 2 rfl rfl rfl) ?_
            refine .cons (.al 107 [.slice none 0 0, .int .i64 0] rfl rfl rfl) ?_
            refine .cons (.sT 2 true rfl rfl rfl rfl rfl rfl rfl) ?_
            refine .nil ?_
            refine ks_n ?_
            refine ACode.drawK (by kernel_rfl) (by kernel_rfl) ?_
            refine .cons (.fB 0 0 false rfl rfl rfl) ?_
            refine .cons (.b1 1 rfl rfl rfl rfl rfl rfl) ?_
            refine .cons (St1.lit0 (k' := 138) (e := 3) (sz := 1) (b := true) rfl rfl rfl rfl (by kernel_rfl) rfl rfl) ?_
            refine .cons (.fB 0 0 false rfl rfl rfl) ?_
            refine .cons (.b1 1 rfl rfl rfl rfl rfl rfl) ?_
            refine .cons (St1.appD (rows := []) (e := 3) (sz := 0) (by' := 8) rfl rfl rfl rfl rfl (by kernel_rfl) rfl rfl rfl rfl rfl (by simp; omega) rfl) ?_
            refine .cons (.fB 1 0 false rfl rfl rfl) ?_
            refine .cons (.b1 1 rfl rfl rfl rfl rfl rfl) ?_
            refine .cons (.bu [(0, .tmp 41), (1, .tmp 43)] [(0, 1), (1, 1)] [.slice none 0 0, .int .i64 0] rfl rfl rfl rfl rfl) ?_
            refine .cons (.li 51 1 0 [.tmp 44] rfl rfl rfl rfl rfl rfl) ?_
            refine .cons (St1.appN (k' := 146) (e := 51) (sz := 1) (by' := 32) rfl rfl rfl rfl rfl (by kernel_rfl) rfl rfl rfl (by simp) (by first | (simp [dR]; done) | (simp [dR]; omega)) rfl rfl) ?_
            refine .cons (.fB 0 0 false rfl rfl rfl) ?_
            refine .cons (.sT 1 false rfl rfl rfl rfl rfl rfl rfl) ?_
            refine .nil ⟨by kernel_rfl, ?_⟩
            refine kb_n ?_
            refine ks_n ?_
            refine ACode.region ?_
            refine .cons (.mv rfl rfl) ?_
            refine .cons (.pl rfl rfl rfl) ?_
            refine .cons (.asg rfl rfl) ?_
            refine .nil ?_
            refine kl_k [(120, 120), (121, 121), (122, 146)] (.inr ⟨1, rfl, by omega, by omega, rfl⟩) ⟨ks rfl .dt, ks rfl (.c .ow), ks rfl .dt, ks rfl (.c .bx), ks rfl .dt, kb 120 rfl (.dt rfl (by first | exact dR_take rL hl | rfl | (rw [List.take_length, dR_app]; done) | (rw [List.take_length]; done) | (simp [dR]; done))), kb 146 rfl (.dt rfl (by first | exact dR_take rA hx | exact dR_take1 rA hx | rfl | (rw [List.take_length]; done) | (simp [dR]; done))), kb 121 rfl (.cons (.cons .ow (.cons .dt Ctos.nil)) .nil), trivial⟩
          · skip
            have hn1 : l0.1 = [] := List.eq_nil_of_length_eq_zero (by omega)
            refine ACode.exit ?_
            refine ks_e ?_
            refine kl_e ?_
            refine kb_hit ?_
            refine ks_n ?_
            refine ACode.seq ?_
            refine ACode.seq ?_
            refine ACode.region ?_
            refine .cons (.asg rfl rfl) ?_
            refine .nil ?_
            refine ks_n ?_
            refine ACode.block ?_
            refine .loopK (fun m σ => (∃ q : Nat, m = l0.2.length - q ∧ (q = 0) ∧ σ = [(.t 0, .v (.o (vD (dLs (init ++ [l0]))))), (.t 3, .v (.o (.c (.own 130 2 (init.length))))), (.t 4, .v (.o (nat1 ((init.length : Nat))))), (.t 5, .v (.o (.c (.box 131 2 0 0)))), (.t 8, .v (.o (nat1 (q : Nat)))), (.b 130, .b 67 2 (dR ((init.take init.length).map rL))), (.u 130, .u), (.b 131, .b 67 2 [[.d (dAs l0.1), .d (.val (.slice none 0 0))]]), (.u 131, .u)])) [(130, 120), (131, 121)] ⟨0, rfl, rfl, rfl⟩ ⟨ks rfl .dt, ks rfl (.c .ow), ks rfl .dt, ks rfl (.c .bx), ks rfl .dt, kb 120 rfl (.dt rfl (by first | exact dR_take rL hl | rfl | (rw [List.take_length, dR_app]; done) | (rw [List.take_length]; done) | (simp [dR]; done))), kb 121 rfl (.cons (.cons (Cto.nilE 2 (by rw [hn1]; rfl)) (.cons .dt Ctos.nil)) .nil), trivial⟩ ?_
            rintro m σ ⟨q, hm0, rfl, rfl⟩
            refine ACode.seq ?_
            refine ACode.seq ?_
            refine ACode.region ?_
            refine .cons (.mv rfl rfl) ?_
            refine .cons (.mv rfl rfl) ?_
            refine .cons (.mv rfl rfl) ?_
            refine .cons (.xL 67 2 48 rfl rfl rfl rfl rfl) ?_
            refine .cons (.fP 1 0 false rfl rfl) ?_
            refine .cons (.l1 1 rfl rfl) ?_
            refine .cons (.ln 51 2 32 rfl rfl rfl) ?_
            refine .cons (.ls rfl rfl rfl) ?_
            refine .nil ?_
            refine ks_n ?_
            refine .cD rfl (fun h55 => ?_) (fun h55 => ?_)
            · skip
              rw [h0] at h55; simp at h55
            · skip
              have hn2 : l0.2 = [] := List.eq_nil_of_length_eq_zero (by omega)
              refine ACode.exit ?_
              refine ks_e ?_
              refine kl_e ?_
              refine kb_hit ?_
              refine ks_n ?_
              refine .keep [(.t 0, .v (.o (vD (dLs (init ++ [l0]))))), (.t 3, .v (.o (.c (.own 860 2 (init.length))))), (.t 4, .v (.o (nat1 ((init.length : Nat))))), (.t 5, .v (.o (.c (.box 861 2 0 0)))), (.b 860, .b 67 2 (dR ((init.take init.length).map rL))), (.u 860, .u), (.b 861, .b 67 2 [[.d (dAs l0.1), .d (.val (.slice none 0 0))]]), (.u 861, .u)] [(860, 130), (861, 131)] ⟨ks rfl .dt, ks rfl (.c .ow), ks rfl .dt, ks rfl (.c .bx), kb 130 rfl (.dt rfl (by first | exact dR_take rL hl | rfl | (rw [List.take_length, dR_app]; done) | (rw [List.take_length]; done) | (simp [dR]; done))), kb 131 rfl (.cons (.cons .dt (.cons .dt Ctos.nil)) .nil), trivial⟩ ?_
              refine ACode.region ?_
              refine .cons (.mv rfl rfl) ?_
              refine .cons (.bN 2 rfl rfl rfl rfl rfl rfl) ?_
              refine .cons (.li 67 1 0 [.tmp 79] rfl rfl rfl rfl rfl rfl) ?_
              refine .cons (St1.appB (k' := 181) (e := 67) (sz := 1) (by' := 48) rfl rfl rfl rfl rfl (by kernel_rfl) rfl rfl rfl rfl (by first | (simp [dR]; done) | (simp [dR]; omega)) (by first | (simp [dR]; done) | (simp [dR]; omega)) rfl rfl rfl) ?_
              refine .cons (.asg rfl rfl) ?_
              refine .nil ?_
              refine kb_n ?_
              refine ks_n ?_
              refine ACode.region ?_
              refine .cons (.mv rfl rfl) ?_
              refine .cons (.pl rfl rfl rfl) ?_
              refine .cons (.asg rfl rfl) ?_
              refine .nil ?_
              refine kl_k [(110, 181)] (.inr ⟨init.length + 1, rfl, rfl, rfl⟩) ⟨ks rfl .dt, ks rfl (.c .ow), ks rfl .dt, kb 181 rfl (.dt rfl (by first | exact dR_take rL hl | rfl | (rw [List.take_length, dR_app]; done) | (rw [List.take_length]; done) | (simp [dR]; done))), trivial⟩
        · skip
          refine ACode.seq ?_
          refine ACode.seq ?_
          refine ACode.region ?_
          refine .cons (.mv rfl rfl) ?_
          refine .cons (.mv rfl rfl) ?_
          refine .cons (.mv rfl rfl) ?_
          refine .cons (.xL 67 2 48 rfl rfl rfl rfl rfl) ?_
          refine .cons (.fP 0 0 false rfl rfl) ?_
          refine .cons (.l1 1 rfl rfl) ?_
          refine .cons (.ln 51 2 32 rfl rfl rfl) ?_
          refine .cons (.ls rfl rfl rfl) ?_
          refine .nil ?_
          refine ks_n ?_
          refine .cD rfl (fun h25 => ?_) (fun h25 => ?_)
          · skip
            obtain ⟨x, hx, hxs⟩ := at_sm hlc (show k < l0.1.length by omega)
            refine ACode.skip ?_
            refine ks_n ?_
            refine ACode.seq ?_
            refine ACode.block ?_
            refine ACode.seq ?_
            refine ACode.region ?_
            refine .cons (.mv rfl rfl) ?_
            refine .cons (.mv rfl rfl) ?_
            refine .cons (.xL 67 2 48 rfl rfl rfl rfl rfl) ?_
            refine .cons (.fP 0 0 false rfl rfl) ?_
            refine .cons (.l1 1 rfl rfl) ?_
            refine .cons (.mv rfl rfl) ?_
            refine .cons (.xL 51 2 32 rfl rfl rfl rfl rfl) ?_
            refine .cons (.lN 2 rfl rfl rfl) ?_
            refine .cons (.al 107 [.slice none 0 0, .int .i64 0] rfl rfl rfl) ?_
            refine .cons (.sT 2 true rfl rfl rfl rfl rfl rfl rfl) ?_
            refine .nil ?_
            refine ks_n ?_
            refine ACode.drawK (by kernel_rfl) (by kernel_rfl) ?_
            refine .cons (.fB 0 0 false rfl rfl rfl) ?_
            refine .cons (.b1 1 rfl rfl rfl rfl rfl rfl) ?_
            refine .cons (St1.lit0 (k' := 138) (e := 3) (sz := 1) (b := true) rfl rfl rfl rfl (by kernel_rfl) rfl rfl) ?_
            refine .cons (.fB 0 0 false rfl rfl rfl) ?_
            refine .cons (.b1 1 rfl rfl rfl rfl rfl rfl) ?_
            refine .cons (St1.appD (rows := []) (e := 3) (sz := 0) (by' := 8) rfl rfl rfl rfl rfl (by kernel_rfl) rfl rfl rfl rfl rfl (by simp; omega) rfl) ?_
            refine .cons (.fB 1 0 false rfl rfl rfl) ?_
            refine .cons (.b1 1 rfl rfl rfl rfl rfl rfl) ?_
            refine .cons (.bu [(0, .tmp 41), (1, .tmp 43)] [(0, 1), (1, 1)] [.slice none 0 0, .int .i64 0] rfl rfl rfl rfl rfl) ?_
            refine .cons (.li 51 1 0 [.tmp 44] rfl rfl rfl rfl rfl rfl) ?_
            refine .cons (St1.appB (k' := 146) (e := 51) (sz := 1) (by' := 32) rfl rfl rfl rfl rfl (by kernel_rfl) rfl rfl rfl rfl (by first | (simp [dR]; done) | (simp [dR]; omega)) (by first | (simp [dR]; done) | (simp [dR]; omega)) rfl rfl rfl) ?_
            refine .cons (.fB 0 0 false rfl rfl rfl) ?_
            refine .cons (.sT 1 false rfl rfl rfl rfl rfl rfl rfl) ?_
            refine .nil ⟨by kernel_rfl, ?_⟩
            refine kb_n ?_
            refine ks_n ?_
            refine ACode.region ?_
            refine .cons (.mv rfl rfl) ?_
            refine .cons (.pl rfl rfl rfl) ?_
            refine .cons (.asg rfl rfl) ?_
            refine .nil ?_
            refine kl_k [(120, 120), (121, 121), (122, 146)] (.inr ⟨k + 1, rfl, by omega, by omega, rfl⟩) ⟨ks rfl .dt, ks rfl (.c .ow), ks rfl .dt, ks rfl (.c .bx), ks rfl .dt, kb 120 rfl (.dt rfl (by first | exact dR_take rL hl | rfl | (rw [List.take_length, dR_app]; done) | (rw [List.take_length]; done) | (simp [dR]; done))), kb 146 rfl (.dt rfl (by first | exact dR_take rA hx | exact dR_take1 rA hx | rfl | (rw [List.take_length]; done) | (simp [dR]; done))), kb 121 rfl (.cons (.cons .ow (.cons .dt Ctos.nil)) .nil), trivial⟩
          · skip
            obtain rfl : k = l0.1.length := by omega
            refine ACode.exit ?_
            refine ks_e ?_
            refine kl_e ?_
            refine kb_hit ?_
            refine ks_n ?_
            refine ACode.seq ?_
            refine ACode.seq ?_
            refine ACode.region ?_
            refine .cons (.asg rfl rfl) ?_
            refine .nil ?_
            refine ks_n ?_
            refine ACode.block ?_
            refine .loopK (fun m σ => (∃ q : Nat, m = l0.2.length - q ∧ (q = 0) ∧ σ = [(.t 0, .v (.o (vD (dLs (init ++ [l0]))))), (.t 3, .v (.o (.c (.own 130 2 (init.length))))), (.t 4, .v (.o (nat1 ((init.length : Nat))))), (.t 5, .v (.o (.c (.box 131 2 0 0)))), (.t 8, .v (.o (nat1 (q : Nat)))), (.b 130, .b 67 2 (dR ((init.take init.length).map rL))), (.u 130, .u), (.b 131, .b 67 2 [[.d (dAs l0.1), .d (.val (.slice none 0 0))]]), (.u 131, .u)])) [(130, 120), (131, 121)] ⟨0, rfl, rfl, rfl⟩ ⟨ks rfl .dt, ks rfl (.c .ow), ks rfl .dt, ks rfl (.c .bx), ks rfl .dt, kb 120 rfl (.dt rfl (by first | exact dR_take rL hl | rfl | (rw [List.take_length, dR_app]; done) | (rw [List.take_length]; done) | (simp [dR]; done))), kb 121 rfl (.cons (.cons (.fz rfl (by first | rfl | (rw [List.take_length]; done)) (by first | rfl | (simp; done) | (simp; omega)) (by omega)) (.cons .dt Ctos.nil)) .nil), trivial⟩ ?_
            rintro m σ ⟨q, hm0, rfl, rfl⟩
            refine ACode.seq ?_
            refine ACode.seq ?_
            refine ACode.region ?_
            refine .cons (.mv rfl rfl) ?_
            refine .cons (.mv rfl rfl) ?_
            refine .cons (.mv rfl rfl) ?_
            refine .cons (.xL 67 2 48 rfl rfl rfl rfl rfl) ?_
            refine .cons (.fP 1 0 false rfl rfl) ?_
            refine .cons (.l1 1 rfl rfl) ?_
            refine .cons (.ln 51 2 32 rfl rfl rfl) ?_
            refine .cons (.ls rfl rfl rfl) ?_
            refine .nil ?_
            refine ks_n ?_
            refine .cD rfl (fun h55 => ?_) (fun h55 => ?_)
            · skip
              rw [h0] at h55; simp at h55
            · skip
              have hn2 : l0.2 = [] := List.eq_nil_of_length_eq_zero (by omega)
              refine ACode.exit ?_
              refine ks_e ?_
              refine kl_e ?_
              refine kb_hit ?_
              refine ks_n ?_
              refine .keep [(.t 0, .v (.o (vD (dLs (init ++ [l0]))))), (.t 3, .v (.o (.c (.own 860 2 (init.length))))), (.t 4, .v (.o (nat1 ((init.length : Nat))))), (.t 5, .v (.o (.c (.box 861 2 0 0)))), (.b 860, .b 67 2 (dR ((init.take init.length).map rL))), (.u 860, .u), (.b 861, .b 67 2 [[.d (dAs l0.1), .d (.val (.slice none 0 0))]]), (.u 861, .u)] [(860, 130), (861, 131)] ⟨ks rfl .dt, ks rfl (.c .ow), ks rfl .dt, ks rfl (.c .bx), kb 130 rfl (.dt rfl (by first | exact dR_take rL hl | rfl | (rw [List.take_length, dR_app]; done) | (rw [List.take_length]; done) | (simp [dR]; done))), kb 131 rfl (.cons (.cons .dt (.cons .dt Ctos.nil)) .nil), trivial⟩ ?_
              refine ACode.region ?_
              refine .cons (.mv rfl rfl) ?_
              refine .cons (.bN 2 rfl rfl rfl rfl rfl rfl) ?_
              refine .cons (.li 67 1 0 [.tmp 79] rfl rfl rfl rfl rfl rfl) ?_
              refine .cons (St1.appB (k' := 181) (e := 67) (sz := 1) (by' := 48) rfl rfl rfl rfl rfl (by kernel_rfl) rfl rfl rfl rfl (by first | (simp [dR]; done) | (simp [dR]; omega)) (by first | (simp [dR]; done) | (simp [dR]; omega)) rfl rfl rfl) ?_
              refine .cons (.asg rfl rfl) ?_
              refine .nil ?_
              refine kb_n ?_
              refine ks_n ?_
              refine ACode.region ?_
              refine .cons (.mv rfl rfl) ?_
              refine .cons (.pl rfl rfl rfl) ?_
              refine .cons (.asg rfl rfl) ?_
              refine .nil ?_
              refine kl_k [(110, 181)] (.inr ⟨init.length + 1, rfl, rfl, rfl⟩) ⟨ks rfl .dt, ks rfl (.c .ow), ks rfl .dt, kb 181 rfl (.dt rfl (by first | exact dR_take rL hl | rfl | (rw [List.take_length, dR_app]; done) | (rw [List.take_length]; done) | (simp [dR]; done))), trivial⟩
    · skip
      simp at h14; omega
  · skip
    refine ACode.seq ?_
    refine ACode.seq ?_
    refine ACode.region ?_
    refine .cons (.mv rfl rfl) ?_
    refine .cons (.mv rfl rfl) ?_
    refine .cons (.ln 67 2 48 rfl rfl rfl) ?_
    refine .cons (.ls rfl rfl rfl) ?_
    refine .nil ?_
    refine ks_n ?_
    refine .cD rfl (fun h14 => ?_) (fun h14 => ?_)
    · skip
      simp at h14
    · skip
      refine ACode.exit ?_
      refine ks_e ?_
      refine kl_e ?_
      refine kb_hit ?_
      refine ks_n ?_
      refine ACode.seq ?_
      refine ACode.region ?_
      refine .cons (.mv rfl rfl) ?_
      refine .cons (.asg rfl rfl) ?_
      refine .nil ?_
      refine ks_n ?_
      refine ACode.ret ?_
      refine kf_wret [(.t 2, .v (.o (.c (.own 100 2 (init.length + 1))))), (.b 100, .b 67 2 (dR (init.map rL ++ [[dAs l0.1, .val (.slice none 0 0)]]))), (.u 100, .u)] (Wk.keep [(100, 110)] rfl rfl ⟨ks rfl (.c .ow), kb 110 rfl (.dt rfl (by first | exact dR_take rL hl | rfl | (rw [List.take_length, dR_app]; done) | (rw [List.take_length]; done) | (simp [dR]; done))), trivial⟩) rfl ?_ (one_box rfl)
      rfl

end Go.Proofs.Ytgcpdpbapgkdjaa

/- Changed nests; condition: small nests. -/
namespace Go.Proofs.Ytgcpdpbapgkdjaa
set_option linter.unusedVariables false
set_option linter.unusedSimpArgs false
open Go.RowKit

theorem outS_C1 {inv : Inv} {l0 : Lp} {rest : List Lp} : outS inv (hbC1 l0 rest) = [(.b (asc inv 100), .b 67 2 ([.own (asc inv 101) 2 l0.1.length, .d (dAs l0.2)] :: dR (rest.map rL))), (.u (asc inv 100), .u), (.b (asc inv 101), .b 51 2 (dR (l0.1.map rA))), (.u (asc inv 101), .u)] := by
  show [(Res.b (asc inv 100), RC.b _ 2 ([C.own (asc inv 101) 2 l0.1.length, C.d (dAs l0.2)] :: renR (asc inv) (dR (rest.map rL)))), (.u (asc inv 100), .u), (.b (asc inv 101), .b _ 2 (renR (asc inv) (dR (l0.1.map rA)))), (.u (asc inv 101), .u)] = _
  rw [renR_dR, renR_dR]
theorem outS_C2 {inv : Inv} {init : List Lp} {l0 : Lp} : outS inv (hbC2 init l0) = [(.b (asc inv 100), .b 67 2 (dR (init.map rL) ++ [[.d (dAs l0.1), .own (asc inv 101) 2 l0.2.length]])), (.u (asc inv 100), .u), (.b (asc inv 101), .b 51 2 (dR (l0.2.map rA))), (.u (asc inv 101), .u)] := by
  show [(Res.b (asc inv 100), RC.b _ 2 (renR (asc inv) (dR (init.map rL) ++ [[.d (dAs l0.1), .own 101 2 l0.2.length]]))), (.u (asc inv 100), .u), (.b (asc inv 101), .b _ 2 (renR (asc inv) (dR (l0.2.map rA)))), (.u (asc inv 101), .u)] = _
  have e : renR (asc inv) (dR (init.map rL) ++ [[.d (dAs l0.1), .own 101 2 l0.2.length]]) = renR (asc inv) (dR (init.map rL)) ++ [[.d (dAs l0.1), .own (asc inv 101) 2 l0.2.length]] := List.map_append
  rw [e, renR_dR, renR_dR]
theorem row_lastL (init : List Lp) (l : Lp) : (init ++ [l])[init.length]? = some l := by simp
theorem row_last (init : List Lp) (r : List C) : (dR (init.map rL) ++ [r])[init.length]? = some r := by simp [dR]
theorem set_last (init : List Lp) (r r' : List C) : (dR (init.map rL) ++ [r]).set init.length r' = dR (init.map rL) ++ [r'] := by simp [dR]
theorem set_lastD (init : List Lp) (r : List D) (r' : List C) : (dR (init.map rL ++ [r])).set init.length r' = dR (init.map rL) ++ [r'] := by simp [dR]
theorem set_lastL (init : List Lp) (l : Lp) (r' : List C) : (dR ((init ++ [l]).map rL)).set init.length r' = dR (init.map rL) ++ [r'] := by simp [dR]
theorem row_lastD (init : List Lp) (r : List D) : (init.map rL ++ [r])[init.length]? = some r := by simp

set_option maxRecDepth 100000 in
set_option maxHeartbeats 1600000 in
theorem mut_nil {bs : List Int} (hb : Bytes bs) {p : Nat} (hp : p ≤ 100000000) (hs : smN []) : Fn Try.prog 46 (hbR bs p) [vR, vD (dLs [])] (.o (vD (dLs ([])))) (hbR bs p) := by
  have hs0 := hs
  obtain ⟨hs1, hs2⟩ := hs
  refine Fn.of_code Try.func46 rfl rfl (hbR_HB _ _) rfl rfl (hbR_HB _ _) rfl (hbR_num _ _ _) ?_
  refine ACode.seq ?_
  refine ACode.region ?_
  refine .cons (.asg rfl rfl) ?_
  refine .nil ?_
  refine ks_n ?_
  refine ACode.seq ?_
  refine ACode.region ?_
  refine .cons (.mv rfl rfl) ?_
  refine .cons (.cO [.tmp 7] [(100, 108)] rfl rfl rfl rfl (l2Copy_own hs0) rfl trivial flatS.nil (flatS.nil.cons rfl) HB.nil.data outS_one) ?_
  refine .cons (.asg rfl rfl) ?_
  refine .nil ?_
  refine ks_n ?_
  refine ACode.seq ?_
  refine ACode.region ?_
  refine .cons (.mv rfl rfl) ?_
  refine .cons (.lB 67 2 48 rfl rfl rfl rfl) ?_
  refine .cons (.asg rfl rfl) ?_
  refine .nil ?_
  refine ks_n ?_
  refine ACode.seq ?_
  refine ACode.seq ?_
  refine ACode.region ?_
  refine .cons (.mv rfl rfl) ?_
  refine .cons (.eq rfl rfl rfl) ?_
  refine .nil ?_
  refine ks_n ?_
  refine .cD rfl (fun h12 => ?_) (fun h12 => ?_)
  · skip
    refine ACode.seq ?_
    refine ACode.region ?_
    refine .cons (.mv rfl rfl) ?_
    refine .cons (.asg rfl rfl) ?_
    refine .nil ?_
    refine ks_n ?_
    refine ACode.ret ?_
    refine ks_r ?_
    refine kf_wret [(.t 4, .v (.o (vD (dLs ([]))))), (.b 0, .b 105 2 (dR ([rRd bs p]))), (.u 0, .u)] (Wk.keep [(0, 0)] rfl rfl ⟨ks rfl (.c (.fz rfl (by first | rfl | (simp [dR]; done) | (simp [dR]; rfl)) (by first | rfl | (simp; done) | (simp; omega)) (by first | omega | (simp; omega) | (simp; done)))), kb 0 rfl (.dt rfl), trivial⟩) rfl ?_ (hbR_box rfl)
    rfl
  · skip
    simp at h12

set_option maxRecDepth 100000 in
set_option maxHeartbeats 1600000 in
theorem mut_no {bs : List Int} (hb : Bytes bs) {p : Nat} (hp : p ≤ 100000000) {l0 : Lp} {rest : List Lp} (hs : smN (l0 :: rest)) (hk : pickV bs p 40 ≠ 0 ∧ pickV bs p 40 ≠ 1 ∧ pickV bs p 40 ≠ 2 ∧ pickV bs p 40 ≠ 3 ∧ pickV bs p 40 ≠ 4) : Fn Try.prog 46 (hbR bs p) [vR, vD (dLs (l0 :: rest))] (.o (vD (dLs (l0 :: rest)))) (hbR bs (p + 1)) := by
  have hs0 := hs
  obtain ⟨hs1, hs2⟩ := hs
  simp only [List.length_append, List.length_cons, List.length_nil] at hs1
  refine Fn.of_code Try.func46 rfl rfl (hbR_HB _ _) rfl rfl (hbR_HB _ _) rfl (hbR_num _ _ _) ?_
  refine ACode.seq ?_
  refine ACode.region ?_
  refine .cons (.asg rfl rfl) ?_
  refine .nil ?_
  refine ks_n ?_
  refine ACode.seq ?_
  refine ACode.region ?_
  refine .cons (.mv rfl rfl) ?_
  refine .cons (.cO [.tmp 7] [(100, 108)] rfl rfl rfl rfl (l2Copy_own hs0) rfl trivial flatS.nil (flatS.nil.cons rfl) HB.nil.data outS_one) ?_
  refine .cons (.asg rfl rfl) ?_
  refine .nil ?_
  refine ks_n ?_
  refine ACode.seq ?_
  refine ACode.region ?_
  refine .cons (.mv rfl rfl) ?_
  refine .cons (.lB 67 2 48 rfl rfl rfl rfl) ?_
  refine .cons (.asg rfl rfl) ?_
  refine .nil ?_
  refine ks_n ?_
  refine ACode.seq ?_
  refine ACode.seq ?_
  refine ACode.region ?_
  refine .cons (.mv rfl rfl) ?_
  refine .cons (.eq rfl rfl rfl) ?_
  refine .nil ?_
  refine ks_n ?_
  refine .cD rfl (fun h12 => ?_) (fun h12 => ?_)
  · skip
    first | omega | (simp only [List.length_append, List.length_cons, List.length_nil] at h12; omega)
  · skip
    refine ACode.skip ?_
    refine ks_n ?_
    refine ACode.seq ?_
    refine ACode.seq ?_
    refine ACode.region ?_
    refine .cons (.mv rfl rfl) ?_
    refine .cons (.cR [.tmp 14, .const (.int .i64 (40))] 0 rfl rfl rfl rfl (pick_fn hb (by omega) 40) rfl ⟨rfl, trivial⟩) ?_
    refine .nil ?_
    refine ks_n ?_
    refine ACode.block ?_
    refine ACode.seq ?_
    refine ACode.region ?_
    refine .cons (.eq rfl rfl rfl) ?_
    refine .cons (.asg rfl rfl) ?_
    refine .nil ?_
    refine ks_n ?_
    refine .cD rfl (fun h16 => ?_) (fun h16 => ?_)
    · skip
      omega
    · skip
      refine ACode.seq ?_
      refine ACode.region ?_
      refine .cons (.eq rfl rfl rfl) ?_
      refine .cons (.asg rfl rfl) ?_
      refine .nil ?_
      refine ks_n ?_
      refine .cD rfl (fun h30 => ?_) (fun h30 => ?_)
      · skip
        omega
      · skip
        refine ACode.seq ?_
        refine ACode.region ?_
        refine .cons (.eq rfl rfl rfl) ?_
        refine .cons (.asg rfl rfl) ?_
        refine .nil ?_
        refine ks_n ?_
        refine .cD rfl (fun h37 => ?_) (fun h37 => ?_)
        · skip
          omega
        · skip
          refine ACode.seq ?_
          refine ACode.region ?_
          refine .cons (.eq rfl rfl rfl) ?_
          refine .cons (.asg rfl rfl) ?_
          refine .nil ?_
          refine ks_n ?_
          refine .cD rfl (fun h54 => ?_) (fun h54 => ?_)
          · skip
            omega
          · skip
            refine ACode.seq ?_
            refine ACode.region ?_
            refine .cons (.eq rfl rfl rfl) ?_
            refine .cons (.asg rfl rfl) ?_
            refine .nil ?_
            refine ks_n ?_
            refine .cD rfl (fun h61 => ?_) (fun h61 => ?_)
            · skip
              omega
            · skip
              refine ACode.skip ?_
              refine kb_n ?_
              refine ks_n ?_
              refine ACode.seq ?_
              refine ACode.region ?_
              refine .cons (.mv rfl rfl) ?_
              refine .cons (.asg rfl rfl) ?_
              refine .nil ?_
              refine ks_n ?_
              refine ACode.ret ?_
              refine kf_wret [(.t 4, .v (.o (vD (dLs (l0 :: rest))))), (.b 0, .b 105 2 (dR ([rRd bs (p + 1)]))), (.u 0, .u)] (Wk.keep [(0, 0)] rfl rfl ⟨ks rfl (.c (.fz rfl (by first | rfl | (simp [dR]; done) | (simp [dR]; rfl)) (by first | rfl | (simp; done) | (simp; omega)) (by first | omega | (simp; omega) | (simp; done)))), kb 0 rfl (.dt rfl), trivial⟩) rfl ?_ (hbR_box rfl)
              rfl

set_option maxRecDepth 100000 in
set_option maxHeartbeats 1600000 in
theorem mut_1 {bs : List Int} (hb : Bytes bs) {p : Nat} (hp : p ≤ 100000000) {init : List Lp} {l0 : Lp} (hs : smN (init ++ [l0])) (hk : pickV bs p 40 = 1) : Fn Try.prog 46 (hbR bs p) [vR, vD (dLs (init ++ [l0]))] (.o (vD (dLs (init ++ [(l0.1, [])])))) (hbR bs (p + 1)) := by
  have hs0 := hs
  obtain ⟨hs1, hs2⟩ := hs
  simp only [List.length_append, List.length_cons, List.length_nil] at hs1
  refine Fn.of_code Try.func46 rfl rfl (hbR_HB _ _) rfl rfl (hbR_HB _ _) rfl (hbR_num _ _ _) ?_
  refine ACode.seq ?_
  refine ACode.region ?_
  refine .cons (.asg rfl rfl) ?_
  refine .nil ?_
  refine ks_n ?_
  refine ACode.seq ?_
  refine ACode.region ?_
  refine .cons (.mv rfl rfl) ?_
  refine .cons (.cO [.tmp 7] [(100, 108)] rfl rfl rfl rfl (l2Copy_own hs0) rfl trivial flatS.nil (flatS.nil.cons rfl) HB.nil.data outS_one) ?_
  refine .cons (.asg rfl rfl) ?_
  refine .nil ?_
  refine ks_n ?_
  refine ACode.seq ?_
  refine ACode.region ?_
  refine .cons (.mv rfl rfl) ?_
  refine .cons (.lB 67 2 48 rfl rfl rfl rfl) ?_
  refine .cons (.asg rfl rfl) ?_
  refine .nil ?_
  refine ks_n ?_
  refine ACode.seq ?_
  refine ACode.seq ?_
  refine ACode.region ?_
  refine .cons (.mv rfl rfl) ?_
  refine .cons (.eq rfl rfl rfl) ?_
  refine .nil ?_
  refine ks_n ?_
  refine .cD rfl (fun h12 => ?_) (fun h12 => ?_)
  · skip
    first | omega | (simp only [List.length_append, List.length_cons, List.length_nil] at h12; omega)
  · skip
    refine ACode.skip ?_
    refine ks_n ?_
    refine ACode.seq ?_
    refine ACode.seq ?_
    refine ACode.region ?_
    refine .cons (.mv rfl rfl) ?_
    refine .cons (.cR [.tmp 14, .const (.int .i64 (40))] 0 rfl rfl rfl rfl (pick_fn hb (by omega) 40) rfl ⟨rfl, trivial⟩) ?_
    refine .nil ?_
    refine ks_n ?_
    refine ACode.block ?_
    refine ACode.seq ?_
    refine ACode.region ?_
    refine .cons (.eq rfl rfl rfl) ?_
    refine .cons (.asg rfl rfl) ?_
    refine .nil ?_
    refine ks_n ?_
    refine .cD rfl (fun h16 => ?_) (fun h16 => ?_)
    · skip
      omega
    · skip
      refine ACode.seq ?_
      refine ACode.region ?_
      refine .cons (.eq rfl rfl rfl) ?_
      refine .cons (.asg rfl rfl) ?_
      refine .nil ?_
      refine ks_n ?_
      refine .cD rfl (fun h30 => ?_) (fun h30 => ?_)
      · skip
        refine ACode.region ?_
        refine .cons (.mv rfl rfl) ?_
        refine .cons (.mv rfl rfl) ?_
        refine .cons (.sb rfl rfl rfl (by simp; omega)) ?_
        refine .cons (.xB 67 2 48 (i := init.length) rfl rfl rfl rfl rfl (by first | (simp; done) | (simp; omega) | omega) (by first | (simp; done) | omega)) ?_
        refine .cons (.fB 1 0 false rfl rfl rfl) ?_
        refine .cons (.sT 1 false rfl rfl rfl rfl (dR_at (map_at (row_lastL _ _))) rfl rfl) ?_
        refine .nil ?_
        refine kb_n ?_
        refine ks_n ?_
        refine ACode.seq ?_
        refine .keep [(.t 0, .v (.o (.c (.box 0 2 0 0)))), (.t 5, .v (.o (.c (.own 870 2 (init.length + 1))))), (.b 0, .b 105 2 (dR ([rRd bs (p + 1)]))), (.u 0, .u), (.b 870, .b 67 2 (dR (init.map rL) ++ dR [rL (l0.1, [])])), (.u 870, .u)] [(0, 0), (870, 108)] ⟨ks rfl (.c .bx), ks rfl (.c .ow), kb 0 rfl (.dt rfl), kb 108 rfl (.eq (set_lastL _ _ _) rfl (.app (.dat _ _ (init.map rL) rfl rfl) (.cons (.cons (.d _ _ rfl) (.cons (.nil 2) .nil)) .nil))), trivial⟩ ?_
        refine ACode.region ?_
        refine .cons (.mv rfl rfl) ?_
        refine .cons (.asg rfl rfl) ?_
        refine .nil ?_
        refine ks_n ?_
        refine ACode.ret ?_
        refine kf_wret [(.t 4, .v (.o (vD (dLs (init ++ [(l0.1, [])]))))), (.b 0, .b 105 2 (dR ([rRd bs (p + 1)]))), (.u 0, .u)] (Wk.keep [(0, 0)] rfl rfl ⟨ks rfl (.c (.fz rfl (by first | rfl | (simp [dR]; done) | (simp [dR]; rfl)) (by first | rfl | (simp; done) | (simp; omega)) (by first | omega | (simp; omega) | (simp; done)))), kb 0 rfl (.dt rfl), trivial⟩) rfl ?_ (hbR_box rfl)
        rfl
      · skip
        omega

set_option maxRecDepth 100000 in
set_option maxHeartbeats 1600000 in
theorem mut_3 {bs : List Int} (hb : Bytes bs) {p : Nat} (hp : p ≤ 100000000) {l0 : Lp} {rest : List Lp} (hs : smN (l0 :: rest)) (hk : pickV bs p 40 = 3) : Fn Try.prog 46 (hbR bs p) [vR, vD (dLs (l0 :: rest))] (.o (vD (dLs ((l0.1, [cA 99]) :: rest)))) (hbR bs (p + 1)) := by
  have hs0 := hs
  obtain ⟨hs1, hs2⟩ := hs
  simp only [List.length_append, List.length_cons, List.length_nil] at hs1
  refine Fn.of_code Try.func46 rfl rfl (hbR_HB _ _) rfl rfl (hbR_HB _ _) rfl (hbR_num _ _ _) ?_
  refine ACode.seq ?_
  refine ACode.region ?_
  refine .cons (.asg rfl rfl) ?_
  refine .nil ?_
  refine ks_n ?_
  refine ACode.seq ?_
  refine ACode.region ?_
  refine .cons (.mv rfl rfl) ?_
  refine .cons (.cO [.tmp 7] [(100, 108)] rfl rfl rfl rfl (l2Copy_own hs0) rfl trivial flatS.nil (flatS.nil.cons rfl) HB.nil.data outS_one) ?_
  refine .cons (.asg rfl rfl) ?_
  refine .nil ?_
  refine ks_n ?_
  refine ACode.seq ?_
  refine ACode.region ?_
  refine .cons (.mv rfl rfl) ?_
  refine .cons (.lB 67 2 48 rfl rfl rfl rfl) ?_
  refine .cons (.asg rfl rfl) ?_
  refine .nil ?_
  refine ks_n ?_
  refine ACode.seq ?_
  refine ACode.seq ?_
  refine ACode.region ?_
  refine .cons (.mv rfl rfl) ?_
  refine .cons (.eq rfl rfl rfl) ?_
  refine .nil ?_
  refine ks_n ?_
  refine .cD rfl (fun h12 => ?_) (fun h12 => ?_)
  · skip
    first | omega | (simp only [List.length_append, List.length_cons, List.length_nil] at h12; omega)
  · skip
    refine ACode.skip ?_
    refine ks_n ?_
    refine ACode.seq ?_
    refine ACode.seq ?_
    refine ACode.region ?_
    refine .cons (.mv rfl rfl) ?_
    refine .cons (.cR [.tmp 14, .const (.int .i64 (40))] 0 rfl rfl rfl rfl (pick_fn hb (by omega) 40) rfl ⟨rfl, trivial⟩) ?_
    refine .nil ?_
    refine ks_n ?_
    refine ACode.block ?_
    refine ACode.seq ?_
    refine ACode.region ?_
    refine .cons (.eq rfl rfl rfl) ?_
    refine .cons (.asg rfl rfl) ?_
    refine .nil ?_
    refine ks_n ?_
    refine .cD rfl (fun h16 => ?_) (fun h16 => ?_)
    · skip
      omega
    · skip
      refine ACode.seq ?_
      refine ACode.region ?_
      refine .cons (.eq rfl rfl rfl) ?_
      refine .cons (.asg rfl rfl) ?_
      refine .nil ?_
      refine ks_n ?_
      refine .cD rfl (fun h30 => ?_) (fun h30 => ?_)
      · skip
        omega
      · skip
        refine ACode.seq ?_
        refine ACode.region ?_
        refine .cons (.eq rfl rfl rfl) ?_
        refine .cons (.asg rfl rfl) ?_
        refine .nil ?_
        refine ks_n ?_
        refine .cD rfl (fun h37 => ?_) (fun h37 => ?_)
        · skip
          omega
        · skip
          refine ACode.seq ?_
          refine ACode.region ?_
          refine .cons (.eq rfl rfl rfl) ?_
          refine .cons (.asg rfl rfl) ?_
          refine .nil ?_
          refine ks_n ?_
          refine .cD rfl (fun h54 => ?_) (fun h54 => ?_)
          · skip
            refine ACode.region ?_
            refine .cons (.mv rfl rfl) ?_
            refine .cons (.cP [.const (.int .i64 (99))] rfl rfl rfl rfl (l1Const_fn 99) rfl) ?_
            refine .cons (.li 51 1 0 [.tmp 57] rfl rfl rfl rfl rfl rfl) ?_
            refine .cons (.xB 67 2 48 (i := 0) rfl rfl rfl rfl rfl rfl (by simp)) ?_
            refine .cons (.fB 1 0 false rfl rfl rfl) ?_
            refine .cons (.sT 1 false rfl rfl rfl rfl rfl rfl rfl) ?_
            refine .nil ?_
            refine kb_n ?_
            refine ks_n ?_
            refine ACode.seq ?_
            refine .keep [(.t 0, .v (.o (.c (.box 0 2 0 0)))), (.t 5, .v (.o (.c (.own 870 2 (rest.length + 1))))), (.b 0, .b 105 2 (dR ([rRd bs (p + 1)]))), (.u 0, .u), (.b 870, .b 67 2 (dR (((l0.1, [cA 99]) :: rest).map rL))), (.u 870, .u)] [(0, 0), (870, 108)] ⟨ks rfl (.c .bx), ks rfl (.c .ow), kb 0 rfl (.dt rfl), kb 108 rfl (.dt rfl rfl), trivial⟩ ?_
            refine ACode.region ?_
            refine .cons (.mv rfl rfl) ?_
            refine .cons (.asg rfl rfl) ?_
            refine .nil ?_
            refine ks_n ?_
            refine ACode.ret ?_
            refine kf_wret [(.t 4, .v (.o (vD (dLs ((l0.1, [cA 99]) :: rest))))), (.b 0, .b 105 2 (dR ([rRd bs (p + 1)]))), (.u 0, .u)] (Wk.keep [(0, 0)] rfl rfl ⟨ks rfl (.c (.fz rfl (by first | rfl | (simp [dR]; done) | (simp [dR]; rfl)) (by first | rfl | (simp; done) | (simp; omega)) (by first | omega | (simp; omega) | (simp; done)))), kb 0 rfl (.dt rfl), trivial⟩) rfl ?_ (hbR_box rfl)
            rfl
          · skip
            omega

set_option maxRecDepth 100000 in
set_option maxHeartbeats 1600000 in
theorem mut_4 {bs : List Int} (hb : Bytes bs) {p : Nat} (hp : p ≤ 100000000) {l0 : Lp} {rest : List Lp} (hs : smN (l0 :: rest)) (hk : pickV bs p 40 = 4) : Fn Try.prog 46 (hbR bs p) [vR, vD (dLs (l0 :: rest))] (.o (vD (dLs (l0 :: (rest ++ List.replicate (4 - rest.length) l0))))) (hbR bs (p + 1)) := by
  have hs0 := hs
  obtain ⟨hs1, hs2⟩ := hs
  simp only [List.length_append, List.length_cons, List.length_nil] at hs1
  refine Fn.of_code Try.func46 rfl rfl (hbR_HB _ _) rfl rfl (hbR_HB _ _) rfl (hbR_num _ _ _) ?_
  refine ACode.seq ?_
  refine ACode.region ?_
  refine .cons (.asg rfl rfl) ?_
  refine .nil ?_
  refine ks_n ?_
  refine ACode.seq ?_
  refine ACode.region ?_
  refine .cons (.mv rfl rfl) ?_
  refine .cons (.cO [.tmp 7] [(100, 108)] rfl rfl rfl rfl (l2Copy_own hs0) rfl trivial flatS.nil (flatS.nil.cons rfl) HB.nil.data outS_one) ?_
  refine .cons (.asg rfl rfl) ?_
  refine .nil ?_
  refine ks_n ?_
  refine ACode.seq ?_
  refine ACode.region ?_
  refine .cons (.mv rfl rfl) ?_
  refine .cons (.lB 67 2 48 rfl rfl rfl rfl) ?_
  refine .cons (.asg rfl rfl) ?_
  refine .nil ?_
  refine ks_n ?_
  refine ACode.seq ?_
  refine ACode.seq ?_
  refine ACode.region ?_
  refine .cons (.mv rfl rfl) ?_
  refine .cons (.eq rfl rfl rfl) ?_
  refine .nil ?_
  refine ks_n ?_
  refine .cD rfl (fun h12 => ?_) (fun h12 => ?_)
  · skip
    first | omega | (simp only [List.length_append, List.length_cons, List.length_nil] at h12; omega)
  · skip
    refine ACode.skip ?_
    refine ks_n ?_
    refine ACode.seq ?_
    refine ACode.seq ?_
    refine ACode.region ?_
    refine .cons (.mv rfl rfl) ?_
    refine .cons (.cR [.tmp 14, .const (.int .i64 (40))] 0 rfl rfl rfl rfl (pick_fn hb (by omega) 40) rfl ⟨rfl, trivial⟩) ?_
    refine .nil ?_
    refine ks_n ?_
    refine ACode.block ?_
    refine ACode.seq ?_
    refine ACode.region ?_
    refine .cons (.eq rfl rfl rfl) ?_
    refine .cons (.asg rfl rfl) ?_
    refine .nil ?_
    refine ks_n ?_
    refine .cD rfl (fun h16 => ?_) (fun h16 => ?_)
    · skip
      omega
    · skip
      refine ACode.seq ?_
      refine ACode.region ?_
      refine .cons (.eq rfl rfl rfl) ?_
      refine .cons (.asg rfl rfl) ?_
      refine .nil ?_
      refine ks_n ?_
      refine .cD rfl (fun h30 => ?_) (fun h30 => ?_)
      · skip
        omega
      · skip
        refine ACode.seq ?_
        refine ACode.region ?_
        refine .cons (.eq rfl rfl rfl) ?_
        refine .cons (.asg rfl rfl) ?_
        refine .nil ?_
        refine ks_n ?_
        refine .cD rfl (fun h37 => ?_) (fun h37 => ?_)
        · skip
          omega
        · skip
          refine ACode.seq ?_
          refine ACode.region ?_
          refine .cons (.eq rfl rfl rfl) ?_
          refine .cons (.asg rfl rfl) ?_
          refine .nil ?_
          refine ks_n ?_
          refine .cD rfl (fun h54 => ?_) (fun h54 => ?_)
          · skip
            omega
          · skip
            refine ACode.seq ?_
            refine ACode.region ?_
            refine .cons (.eq rfl rfl rfl) ?_
            refine .cons (.asg rfl rfl) ?_
            refine .nil ?_
            refine ks_n ?_
            refine .cD rfl (fun h61 => ?_) (fun h61 => ?_)
            · skip
              refine ACode.block ?_
              refine .loopK (fun m σ => (∃ j : Nat, m = 5 - (rest.length + 1 + j) ∧ (j ≤ 4 - rest.length) ∧ σ = [(.t 0, .v (.o (.c (.box 0 2 0 0)))), (.t 5, .v (.o (.c (.own 110 2 (rest.length + 1 + j))))), (.b 0, .b 105 2 (dR ([rRd bs (p + 1)]))), (.u 0, .u), (.b 110, .b 67 2 (dR ((l0 :: (rest ++ List.replicate j l0)).map rL))), (.u 110, .u)])) [(0, 0), (110, 108)] ⟨0, rfl, by omega, rfl⟩ ⟨ks rfl (.c .bx), ks rfl (.c .ow), kb 0 rfl (.dt rfl), kb 108 rfl (.dt rfl (by first | (simp [dR]; done) | (simp only [List.replicate_succ']; simp [dR]; done) | (simp [dR, List.replicate_succ']; rfl))), trivial⟩ ?_
              rintro m σ ⟨j, hm0, hj, rfl⟩
              refine ACode.seq ?_
              refine ACode.seq ?_
              refine ACode.region ?_
              refine .cons (.mv rfl rfl) ?_
              refine .cons (.lB 67 2 48 rfl rfl rfl rfl) ?_
              refine .cons (.le rfl rfl rfl) ?_
              refine .nil ?_
              refine ks_n ?_
              refine .cD rfl (fun h65 => ?_) (fun h65 => ?_)
              · skip
                refine ACode.skip ?_
                refine ks_n ?_
                refine ACode.block ?_
                refine ACode.region ?_
                refine .cons (.mv rfl rfl) ?_
                refine .cons (.mv rfl rfl) ?_
                refine .cons (.xB 67 2 48 (i := 0) rfl rfl rfl rfl rfl rfl (by omega)) ?_
                refine .cons (.bN 2 rfl rfl rfl rfl rfl rfl) ?_
                refine .cons (.li 67 1 0 [.tmp 69] rfl rfl rfl rfl rfl rfl) ?_
                refine .cons (St1.appB (k' := 171) (e := 67) (sz := 1) (by' := 48) rfl rfl rfl rfl rfl (by kernel_rfl) rfl rfl rfl rfl (by first | (simp [dR]; done) | (simp [dR]; omega)) (by first | (simp [dR]; done) | (simp [dR]; omega)) rfl rfl rfl) ?_
                refine .cons (.asg rfl rfl) ?_
                refine .nil ?_
                refine kb_n ?_
                refine kl_k [(0, 0), (110, 171)] ⟨j + 1, rfl, by omega, rfl⟩ ⟨ks rfl (.c .bx), ks rfl (.c .ow), kb 0 rfl (.dt rfl), kb 171 rfl (.dt rfl (by first | (simp [dR]; done) | (simp only [List.replicate_succ']; simp [dR]; done) | (simp [dR, List.replicate_succ']; rfl))), trivial⟩
              · skip
                obtain rfl : j = 4 - rest.length := by omega
                refine ACode.exit ?_
                refine ks_e ?_
                refine kl_e ?_
                refine kb_hit ?_
                refine kb_n ?_
                refine ks_n ?_
                refine ACode.seq ?_
                refine ACode.region ?_
                refine .cons (.mv rfl rfl) ?_
                refine .cons (.asg rfl rfl) ?_
                refine .nil ?_
                refine ks_n ?_
                refine ACode.ret ?_
                refine kf_wret [(.t 4, .v (.o (vD (dLs (l0 :: (rest ++ List.replicate (4 - rest.length) l0)))))), (.b 0, .b 105 2 (dR ([rRd bs (p + 1)]))), (.u 0, .u)] (Wk.keep [(0, 0)] rfl rfl ⟨ks rfl (.c (.fz rfl rfl (by simp; omega) (by first | omega | (simp; omega) | (simp; done)))), kb 0 rfl (.dt rfl), trivial⟩) rfl ?_ (hbR_box rfl)
                rfl
            · skip
              omega

set_option maxRecDepth 100000 in
set_option maxHeartbeats 1600000 in
theorem mut_0 {bs : List Int} (hb : Bytes bs) {p : Nat} (hp : p ≤ 100000000) {l0 : Lp} {rest : List Lp} (hs : smN (l0 :: rest)) (h0 : l0.1 ≠ []) (hk : pickV bs p 40 = 0) : Fn Try.prog 46 (hbR bs p) [vR, vD (dLs (l0 :: rest))] (.o (vD (dLs ((l0.1 ++ [varA (pickV bs (p + 1) 2).toNat], l0.2) :: rest)))) (hbR bs (p + 1 + 1)) := by
  have hs0 := hs
  obtain ⟨hs1, hs2⟩ := hs
  simp only [List.length_append, List.length_cons, List.length_nil] at hs1
  refine Fn.of_code Try.func46 rfl rfl (hbR_HB _ _) rfl rfl (hbR_HB _ _) rfl (hbR_num _ _ _) ?_
  refine ACode.seq ?_
  refine ACode.region ?_
  refine .cons (.asg rfl rfl) ?_
  refine .nil ?_
  refine ks_n ?_
  refine ACode.seq ?_
  refine ACode.region ?_
  refine .cons (.mv rfl rfl) ?_
  refine .cons (.cO [.tmp 7] [(100, 108), (101, 608)] rfl rfl rfl rfl (l2Copy_first hs0 h0) rfl trivial flatS.nil (hbC1_flat _ _) (hbC1_HB _ _) outS_C1) ?_
  refine .cons (.asg rfl rfl) ?_
  refine .nil ?_
  refine ks_n ?_
  refine ACode.seq ?_
  refine ACode.region ?_
  refine .cons (.mv rfl rfl) ?_
  refine .cons (.lB 67 2 48 rfl rfl rfl rfl) ?_
  refine .cons (.asg rfl rfl) ?_
  refine .nil ?_
  refine ks_n ?_
  refine ACode.seq ?_
  refine ACode.seq ?_
  refine ACode.region ?_
  refine .cons (.mv rfl rfl) ?_
  refine .cons (.eq rfl rfl rfl) ?_
  refine .nil ?_
  refine ks_n ?_
  refine .cD rfl (fun h12 => ?_) (fun h12 => ?_)
  · skip
    first | omega | (simp only [List.length_append, List.length_cons, List.length_nil] at h12; omega)
  · skip
    refine ACode.skip ?_
    refine ks_n ?_
    refine ACode.seq ?_
    refine ACode.seq ?_
    refine ACode.region ?_
    refine .cons (.mv rfl rfl) ?_
    refine .cons (.cR [.tmp 14, .const (.int .i64 (40))] 0 rfl rfl rfl rfl (pick_fn hb (by omega) 40) rfl ⟨rfl, trivial⟩) ?_
    refine .nil ?_
    refine ks_n ?_
    refine ACode.block ?_
    refine ACode.seq ?_
    refine ACode.region ?_
    refine .cons (.eq rfl rfl rfl) ?_
    refine .cons (.asg rfl rfl) ?_
    refine .nil ?_
    refine ks_n ?_
    refine .cD rfl (fun h16 => ?_) (fun h16 => ?_)
    · skip
      have hv : 0 ≤ pickV bs (p + 1) 2 ∧ pickV bs (p + 1) 2 < 4 := by have h := pickV_bd hb (show p + 1 ≤ 1099511627776 by omega) 2; have h2 := h.2 (by omega); omega
      obtain ⟨hla, hlb, hlc, hld⟩ := hs2 l0 (by simp)
      refine ACode.drawK (by kernel_rfl) (by kernel_rfl) ?_
      refine .cons (.mv rfl rfl) ?_
      refine .cons (.mv rfl rfl) ?_
      refine .cons (.xB 67 2 48 (i := 0) rfl rfl rfl rfl rfl rfl (by omega)) ?_
      refine .cons (.fB 0 0 false rfl rfl rfl) ?_
      refine .cons (.b1 1 rfl rfl rfl rfl rfl rfl) ?_
      refine .cons (.mv rfl rfl) ?_
      refine .cons (.cR [.tmp 23, .const (.int .i64 (2))] 0 rfl rfl rfl rfl (pick_fn hb (by omega) 2) rfl ⟨rfl, trivial⟩) ?_
      refine .cons (.cP [.tmp 24] rfl rfl rfl rfl (l1Var_fn _ hv) rfl) ?_
      refine .cons (.li 51 1 0 [.tmp 25] rfl rfl rfl rfl rfl rfl) ?_
      refine .cons (St1.appB (k' := 127) (e := 51) (sz := 1) (by' := 32) rfl rfl rfl rfl rfl (by kernel_rfl) rfl rfl rfl rfl (by first | (simp [dR]; done) | (simp [dR]; omega)) (by first | (simp [dR]; done) | (simp [dR]; omega)) rfl rfl rfl) ?_
      refine .cons (.xB 67 2 48 (i := 0) rfl rfl rfl rfl rfl rfl (by omega)) ?_
      refine .cons (.fB 0 0 false rfl rfl rfl) ?_
      refine .cons (.sT 1 false rfl rfl rfl rfl rfl rfl rfl) ?_
      refine .nil ⟨by kernel_rfl, ?_⟩
      refine kb_n ?_
      refine ks_n ?_
      refine ACode.seq ?_
      refine .keep [(.t 0, .v (.o (.c (.box 0 2 0 0)))), (.t 5, .v (.o (.c (.own 870 2 (rest.length + 1))))), (.b 0, .b 105 2 (dR ([rRd bs (p + 1 + 1)]))), (.u 0, .u), (.b 870, .b 67 2 (dR (((l0.1 ++ [varA (pickV bs (p + 1) 2).toNat], l0.2) :: rest).map rL))), (.u 870, .u)] [(0, 0), (870, 108)] ⟨ks rfl (.c .bx), ks rfl (.c .ow), kb 0 rfl (.dt rfl), kb 108 rfl (.cons (.cons (.frz _ _ _ _ _ _ rfl (by simp [dR]; first | rfl | exact ⟨rfl, rfl⟩) rfl rfl (by first | rfl | (simp; done)) (by first | omega | (simp; omega))) (.cons (.d _ _ rfl) .nil)) (.dat _ _ (rest.map rL) rfl rfl)), trivial⟩ ?_
      refine ACode.region ?_
      refine .cons (.mv rfl rfl) ?_
      refine .cons (.asg rfl rfl) ?_
      refine .nil ?_
      refine ks_n ?_
      refine ACode.ret ?_
      refine kf_wret [(.t 4, .v (.o (vD (dLs ((l0.1 ++ [varA (pickV bs (p + 1) 2).toNat], l0.2) :: rest))))), (.b 0, .b 105 2 (dR ([rRd bs (p + 1 + 1)]))), (.u 0, .u)] (Wk.keep [(0, 0)] rfl rfl ⟨ks rfl (.c (.fz rfl (by first | rfl | (simp [dR]; done) | (simp [dR]; rfl)) (by first | rfl | (simp; done) | (simp; omega)) (by first | omega | (simp; omega) | (simp; done)))), kb 0 rfl (.dt rfl), trivial⟩) rfl ?_ (hbR_box rfl)
      rfl
    · skip
      omega

set_option maxRecDepth 100000 in
set_option maxHeartbeats 1600000 in
theorem mut_2 {bs : List Int} (hb : Bytes bs) {p : Nat} (hp : p ≤ 100000000) {init : List Lp} {l0 : Lp} (hs : smN (init ++ [l0])) (h0 : l0.2 ≠ []) (hk : pickV bs p 40 = 2) : Fn Try.prog 46 (hbR bs p) [vR, vD (dLs (init ++ [l0]))] (.o (vD (dLs (init ++ [(l0.1, l0.2 ++ [cA 1, cA 2])])))) (hbR bs (p + 1)) := by
  have hs0 := hs
  obtain ⟨hs1, hs2⟩ := hs
  simp only [List.length_append, List.length_cons, List.length_nil] at hs1
  refine Fn.of_code Try.func46 rfl rfl (hbR_HB _ _) rfl rfl (hbR_HB _ _) rfl (hbR_num _ _ _) ?_
  refine ACode.seq ?_
  refine ACode.region ?_
  refine .cons (.asg rfl rfl) ?_
  refine .nil ?_
  refine ks_n ?_
  refine ACode.seq ?_
  refine ACode.region ?_
  refine .cons (.mv rfl rfl) ?_
  refine .cons (.cO [.tmp 7] [(100, 108), (101, 608)] rfl rfl rfl rfl (l2Copy_last hs0 h0) rfl trivial flatS.nil (hbC2_flat _ _) (hbC2_HB _ _) outS_C2) ?_
  refine .cons (.asg rfl rfl) ?_
  refine .nil ?_
  refine ks_n ?_
  refine ACode.seq ?_
  refine ACode.region ?_
  refine .cons (.mv rfl rfl) ?_
  refine .cons (.lB 67 2 48 rfl rfl rfl rfl) ?_
  refine .cons (.asg rfl rfl) ?_
  refine .nil ?_
  refine ks_n ?_
  refine ACode.seq ?_
  refine ACode.seq ?_
  refine ACode.region ?_
  refine .cons (.mv rfl rfl) ?_
  refine .cons (.eq rfl rfl rfl) ?_
  refine .nil ?_
  refine ks_n ?_
  refine .cD rfl (fun h12 => ?_) (fun h12 => ?_)
  · skip
    first | omega | (simp only [List.length_append, List.length_cons, List.length_nil] at h12; omega)
  · skip
    refine ACode.skip ?_
    refine ks_n ?_
    refine ACode.seq ?_
    refine ACode.seq ?_
    refine ACode.region ?_
    refine .cons (.mv rfl rfl) ?_
    refine .cons (.cR [.tmp 14, .const (.int .i64 (40))] 0 rfl rfl rfl rfl (pick_fn hb (by omega) 40) rfl ⟨rfl, trivial⟩) ?_
    refine .nil ?_
    refine ks_n ?_
    refine ACode.block ?_
    refine ACode.seq ?_
    refine ACode.region ?_
    refine .cons (.eq rfl rfl rfl) ?_
    refine .cons (.asg rfl rfl) ?_
    refine .nil ?_
    refine ks_n ?_
    refine .cD rfl (fun h16 => ?_) (fun h16 => ?_)
    · skip
      omega
    · skip
      refine ACode.seq ?_
      refine ACode.region ?_
      refine .cons (.eq rfl rfl rfl) ?_
      refine .cons (.asg rfl rfl) ?_
      refine .nil ?_
      refine ks_n ?_
      refine .cD rfl (fun h30 => ?_) (fun h30 => ?_)
      · skip
        omega
      · skip
        refine ACode.seq ?_
        refine ACode.region ?_
        refine .cons (.eq rfl rfl rfl) ?_
        refine .cons (.asg rfl rfl) ?_
        refine .nil ?_
        refine ks_n ?_
        refine .cD rfl (fun h37 => ?_) (fun h37 => ?_)
        · skip
          obtain ⟨hla, hlb, hlc, hld⟩ := hs2 l0 (by simp)
          refine ACode.drawK (by kernel_rfl) (by kernel_rfl) ?_
          refine .cons (.mv rfl rfl) ?_
          refine .cons (.mv rfl rfl) ?_
          refine .cons (.sb rfl rfl rfl) ?_
          refine .cons (.mv rfl rfl) ?_
          refine .cons (.mv rfl rfl) ?_
          refine .cons (.sb rfl rfl rfl) ?_
          refine .cons (.xB 67 2 48 (i := init.length) rfl rfl rfl rfl rfl (by first | (simp; done) | (simp; omega) | omega) (by omega)) ?_
          refine .cons (.fB 1 0 false rfl rfl rfl) ?_
          refine .cons (.b1 1 rfl rfl rfl rfl (row_last _ _) rfl) ?_
          refine .cons (.cP [.const (.int .i64 (1))] rfl rfl rfl rfl (l1Const_fn 1) rfl) ?_
          refine .cons (.cP [.const (.int .i64 (2))] rfl rfl rfl rfl (l1Const_fn 2) rfl) ?_
          refine .cons (.li 51 1 1 [.tmp 48, .tmp 49] rfl rfl rfl rfl rfl rfl) ?_
          refine .cons (St1.appB (k' := 151) (e := 51) (sz := 1) (by' := 32) rfl rfl rfl rfl rfl (by kernel_rfl) rfl rfl rfl rfl (by first | (simp [dR]; done) | (simp [dR]; omega)) (by first | (simp [dR]; done) | (simp [dR]; omega)) rfl rfl rfl) ?_
          refine .cons (.xB 67 2 48 (i := init.length) rfl rfl rfl rfl rfl (by first | (simp; done) | (simp; omega) | omega) (by omega)) ?_
          refine .cons (.fB 1 0 false rfl rfl rfl) ?_
          refine .cons (.sT 1 false rfl rfl rfl rfl (row_last _ _) rfl rfl) ?_
          refine .nil ⟨by kernel_rfl, ?_⟩
          refine kb_n ?_
          refine ks_n ?_
          refine ACode.seq ?_
          refine .keep [(.t 0, .v (.o (.c (.box 0 2 0 0)))), (.t 5, .v (.o (.c (.own 870 2 (init.length + 1))))), (.b 0, .b 105 2 (dR ([rRd bs (p + 1)]))), (.u 0, .u), (.b 870, .b 67 2 (dR (init.map rL) ++ dR [rL (l0.1, l0.2 ++ [cA 1, cA 2])])), (.u 870, .u)] [(0, 0), (870, 108)] ⟨ks rfl (.c .bx), ks rfl (.c .ow), kb 0 rfl (.dt rfl), kb 108 rfl (.eq (set_last _ _ _) rfl (.app (.dat _ _ (init.map rL) rfl rfl) (.cons (.cons (.d _ _ rfl) (.cons (.frz _ _ _ _ _ _ rfl (by simp [dR]; first | rfl | exact ⟨rfl, rfl⟩) rfl rfl (by first | rfl | (simp; done)) (by first | omega | (simp; omega))) .nil)) .nil))), trivial⟩ ?_
          refine ACode.region ?_
          refine .cons (.mv rfl rfl) ?_
          refine .cons (.asg rfl rfl) ?_
          refine .nil ?_
          refine ks_n ?_
          refine ACode.ret ?_
          refine kf_wret [(.t 4, .v (.o (vD (dLs (init ++ [(l0.1, l0.2 ++ [cA 1, cA 2])]))))), (.b 0, .b 105 2 (dR ([rRd bs (p + 1)]))), (.u 0, .u)] (Wk.keep [(0, 0)] rfl rfl ⟨ks rfl (.c (.fz rfl (by first | rfl | (simp [dR]; done) | (simp [dR]; rfl)) (by first | rfl | (simp; done) | (simp; omega)) (by first | omega | (simp; omega) | (simp; done)))), kb 0 rfl (.dt rfl), trivial⟩) rfl ?_ (hbR_box rfl)
          rfl
        · skip
          omega

set_option maxRecDepth 100000 in
set_option maxHeartbeats 1600000 in
theorem mut_2N {bs : List Int} (hb : Bytes bs) {p : Nat} (hp : p ≤ 100000000) {init : List Lp} {l0 : Lp} (hs : smN (init ++ [l0])) (h0 : l0.2 = []) (hk : pickV bs p 40 = 2) : Fn Try.prog 46 (hbR bs p) [vR, vD (dLs (init ++ [l0]))] (.o (vD (dLs (init ++ [(l0.1, [cA 1, cA 2])])))) (hbR bs (p + 1)) := by
  have hs0 := hs
  obtain ⟨hs1, hs2⟩ := hs
  simp only [List.length_append, List.length_cons, List.length_nil] at hs1
  refine Fn.of_code Try.func46 rfl rfl (hbR_HB _ _) rfl rfl (hbR_HB _ _) rfl (hbR_num _ _ _) ?_
  refine ACode.seq ?_
  refine ACode.region ?_
  refine .cons (.asg rfl rfl) ?_
  refine .nil ?_
  refine ks_n ?_
  refine ACode.seq ?_
  refine ACode.region ?_
  refine .cons (.mv rfl rfl) ?_
  refine .cons (.cO [.tmp 7] [(100, 108)] rfl rfl rfl rfl (l2Copy_lastN hs0 h0) rfl trivial flatS.nil (flatS.nil.cons rfl) HB.nil.data outS_one) ?_
  refine .cons (.asg rfl rfl) ?_
  refine .nil ?_
  refine ks_n ?_
  refine ACode.seq ?_
  refine ACode.region ?_
  refine .cons (.mv rfl rfl) ?_
  refine .cons (.lB 67 2 48 rfl rfl rfl rfl) ?_
  refine .cons (.asg rfl rfl) ?_
  refine .nil ?_
  refine ks_n ?_
  refine ACode.seq ?_
  refine ACode.seq ?_
  refine ACode.region ?_
  refine .cons (.mv rfl rfl) ?_
  refine .cons (.eq rfl rfl rfl) ?_
  refine .nil ?_
  refine ks_n ?_
  refine .cD rfl (fun h12 => ?_) (fun h12 => ?_)
  · skip
    first | omega | (simp only [List.length_append, List.length_cons, List.length_nil] at h12; omega)
  · skip
    refine ACode.skip ?_
    refine ks_n ?_
    refine ACode.seq ?_
    refine ACode.seq ?_
    refine ACode.region ?_
    refine .cons (.mv rfl rfl) ?_
    refine .cons (.cR [.tmp 14, .const (.int .i64 (40))] 0 rfl rfl rfl rfl (pick_fn hb (by omega) 40) rfl ⟨rfl, trivial⟩) ?_
    refine .nil ?_
    refine ks_n ?_
    refine ACode.block ?_
    refine ACode.seq ?_
    refine ACode.region ?_
    refine .cons (.eq rfl rfl rfl) ?_
    refine .cons (.asg rfl rfl) ?_
    refine .nil ?_
    refine ks_n ?_
    refine .cD rfl (fun h16 => ?_) (fun h16 => ?_)
    · skip
      omega
    · skip
      refine ACode.seq ?_
      refine ACode.region ?_
      refine .cons (.eq rfl rfl rfl) ?_
      refine .cons (.asg rfl rfl) ?_
      refine .nil ?_
      refine ks_n ?_
      refine .cD rfl (fun h30 => ?_) (fun h30 => ?_)
      · skip
        omega
      · skip
        refine ACode.seq ?_
        refine ACode.region ?_
        refine .cons (.eq rfl rfl rfl) ?_
        refine .cons (.asg rfl rfl) ?_
        refine .nil ?_
        refine ks_n ?_
        refine .cD rfl (fun h37 => ?_) (fun h37 => ?_)
        · skip
          refine ACode.drawK (by kernel_rfl) (by kernel_rfl) ?_
          refine .cons (.mv rfl rfl) ?_
          refine .cons (.mv rfl rfl) ?_
          refine .cons (.sb rfl rfl rfl) ?_
          refine .cons (.mv rfl rfl) ?_
          refine .cons (.mv rfl rfl) ?_
          refine .cons (.sb rfl rfl rfl) ?_
          refine .cons (.xB 67 2 48 (i := init.length) rfl rfl rfl rfl rfl (by first | (simp; done) | (simp; omega) | omega) (by omega)) ?_
          refine .cons (.fB 1 0 false rfl rfl rfl) ?_
          refine .cons (.b1 1 rfl rfl rfl rfl (dR_at (row_lastD _ _)) rfl) ?_
          refine .cons (.cP [.const (.int .i64 (1))] rfl rfl rfl rfl (l1Const_fn 1) rfl) ?_
          refine .cons (.cP [.const (.int .i64 (2))] rfl rfl rfl rfl (l1Const_fn 2) rfl) ?_
          refine .cons (.li 51 1 1 [.tmp 48, .tmp 49] rfl rfl rfl rfl rfl rfl) ?_
          refine .cons (St1.appND (e := 51) (sz := 1) (by' := 32) rfl rfl rfl rfl rfl (by kernel_rfl) rfl rfl rfl (by simp)) ?_
          refine .cons (.xB 67 2 48 (i := init.length) rfl rfl rfl rfl rfl (by first | (simp; done) | (simp; omega) | omega) (by omega)) ?_
          refine .cons (.fB 1 0 false rfl rfl rfl) ?_
          refine .cons (.sT 1 false rfl rfl rfl rfl (dR_at (row_lastD _ _)) rfl rfl) ?_
          refine .nil ⟨by kernel_rfl, ?_⟩
          refine kb_n ?_
          refine ks_n ?_
          refine ACode.seq ?_
          refine .keep [(.t 0, .v (.o (.c (.box 0 2 0 0)))), (.t 5, .v (.o (.c (.own 870 2 (init.length + 1))))), (.b 0, .b 105 2 (dR ([rRd bs (p + 1)]))), (.u 0, .u), (.b 870, .b 67 2 (dR (init.map rL ++ [rL (l0.1, [cA 1, cA 2])]))), (.u 870, .u)] [(0, 0), (870, 108)] ⟨ks rfl (.c .bx), ks rfl (.c .ow), kb 0 rfl (.dt rfl), kb 108 rfl (.dt rfl ((set_lastD _ _ _).trans (by simp [dR]; rfl))), trivial⟩ ?_
          refine ACode.region ?_
          refine .cons (.mv rfl rfl) ?_
          refine .cons (.asg rfl rfl) ?_
          refine .nil ?_
          refine ks_n ?_
          refine ACode.ret ?_
          refine kf_wret [(.t 4, .v (.o (vD (dLs (init ++ [(l0.1, [cA 1, cA 2])]))))), (.b 0, .b 105 2 (dR ([rRd bs (p + 1)]))), (.u 0, .u)] (Wk.keep [(0, 0)] rfl rfl ⟨ks rfl (.c (.fz rfl (by first | rfl | (simp [dR]; done) | (simp [dR]; rfl)) (by first | rfl | (simp; done) | (simp; omega)) (by first | omega | (simp; omega) | (simp; done)))), kb 0 rfl (.dt rfl), trivial⟩) rfl ?_ (hbR_box rfl)
          rfl
        · skip
          omega

end Go.Proofs.Ytgcpdpbapgkdjaa

/- Drawn nests are small, changed ones too; condition: small nests. -/
namespace Go.Proofs.Ytgcpdpbapgkdjaa
set_option linter.unusedVariables false
set_option linter.unusedSimpArgs false
open Go.RowKit

def okL (k : Nat) (l : Lp) : Prop := l.1 ≠ [] ∧ l.1.length ≤ k ∧ l.2.length ≤ k ∧ (∀ a ∈ l.1, a.1.length ≤ 4) ∧ ∀ a ∈ l.2, a.1.length ≤ 4
def okN (k : Nat) (ns : List Lp) : Prop := ns.length ≤ k ∧ ∀ l ∈ ns, okL k l
theorem okL.mono {k m : Nat} {l : Lp} (h : okL k l) (hm : k ≤ m) : okL m l := ⟨h.1, Nat.le_trans h.2.1 hm, Nat.le_trans h.2.2.1 hm, h.2.2.2⟩
theorem okN.sm {k : Nat} {ns : List Lp} (h : okN k ns) (hk : k ≤ 100) : smN ns :=
  ⟨Nat.le_trans h.1 hk, fun l hl => by
    obtain ⟨_, h1, h2, h3, h4⟩ := h.2 l hl
    exact ⟨Nat.le_trans h1 hk, Nat.le_trans h2 hk, fun a ha => Nat.le_trans (h3 a ha) (by omega), fun a ha => Nat.le_trans (h4 a ha) (by omega)⟩⟩
theorem okN.cons {k : Nat} {l : Lp} {ns : List Lp} (h : okN k (l :: ns)) : okL k l ∧ ns.length + 1 ≤ k ∧ ∀ x ∈ ns, okL k x := ⟨h.2 l (by simp), by simpa using h.1, fun x hx => h.2 x (by simp [hx])⟩
theorem one4 {a : Aff} (h : a.1.length = 4) : ∀ x ∈ [a], x.1.length ≤ 4 := fun x hx => by rw [List.mem_singleton.1 hx, h]; exact Nat.le_refl 4
theorem two4 {a b : Aff} (h : a.1.length = 4) (h' : b.1.length = 4) : ∀ x ∈ [a, b], x.1.length ≤ 4 := fun x hx => by
  rcases List.mem_cons.1 hx with rfl | hx
  · rw [h]; exact Nat.le_refl 4
  · exact one4 h' x hx
theorem varA_len (v : Nat) : (varA v).1.length = 4 := by simp [varA]
theorem loopE_ok {bs : List Int} {lo hi : Aff} (h : lo.1.length = 4) (h' : hi.1.length = 4) (p : Nat) : okL 2 (loopE bs lo hi p).1 := by
  unfold loopE
  split
  · exact ⟨by simp, by simp, by simp, one4 h, two4 h' rfl⟩
  · split
    · exact ⟨by simp, by simp, by simp, two4 h rfl, one4 h'⟩
    · exact ⟨by simp, by simp, by simp, one4 h, one4 h'⟩
theorem loopD_ok (bs : List Int) (p d : Nat) : okL 2 (loopD bs p d).1 := by
  unfold loopD
  split
  · split
    · split
      · exact loopE_ok (varA_len _) rfl _
      · exact loopE_ok rfl (by simp [cmbA, cmbTo]) _
    · exact loopE_ok rfl rfl _
  · exact loopE_ok rfl rfl _
theorem nestE_ok (bs : List Int) : ∀ (n : Nat) (ns : List Lp) (p : Nat), (∀ l ∈ ns, okL 2 l) → (nestE bs n ns p).1.length = ns.length + n ∧ (∀ l ∈ (nestE bs n ns p).1, okL 2 l) ∧ (nestE bs n ns p).2 ≤ p + 7 * n
  | 0, ns, p, h => ⟨rfl, h, Nat.le_refl _⟩
  | n + 1, ns, p, h => by
    rw [nestE_step]
    obtain ⟨h1, h2, h3⟩ := nestE_ok bs n (ns ++ [(loopD bs p ns.length).1]) (loopD bs p ns.length).2 (fun l hl => by
      rcases List.mem_append.1 hl with hl | hl
      · exact h l hl
      · rw [List.mem_singleton.1 hl]; exact loopD_ok _ _ _)
    refine ⟨by rw [h1]; simp; omega, h2, ?_⟩
    have := loopD_p bs p ns.length
    omega
theorem nestD_ok {bs : List Int} (hb : Bytes bs) {p : Nat} (hp : p ≤ 1099511627776) : okN 3 (nestD bs p).1 ∧ (nestD bs p).2 ≤ p + 22 := by
  have hm := numV_mem hb (p := p) hp (xs := [2, 1, 2, 3]) (by simp)
  obtain ⟨h1, h2, h3⟩ := nestE_ok bs (numV bs p [2, 1, 2, 3]).toNat [] (p + 1) (by simp)
  have h4 : (numV bs p [2, 1, 2, 3]).toNat ≤ 3 := by simp at hm; omega
  exact ⟨⟨by rw [nestD, h1]; simpa using h4, fun l hl => (h2 l hl).mono (by omega)⟩, by rw [nestD]; omega⟩
theorem okN.cons' {k : Nat} {l : Lp} {ns : List Lp} (hl : okL k l) (hn : ns.length + 1 ≤ k) (h : ∀ x ∈ ns, okL k x) : okN k (l :: ns) := ⟨by simpa using hn, fun x hx => by
  rcases List.mem_cons.1 hx with rfl | hx
  · exact hl
  · exact h x hx⟩
theorem okN.last' {k : Nat} {l : Lp} {ns : List Lp} (hl : okL k l) (hn : ns.length + 1 ≤ k) (h : ∀ x ∈ ns, okL k x) : okN k (ns ++ [l]) := ⟨by simpa using hn, fun x hx => by
  rcases List.mem_append.1 hx with hx | hx
  · exact h x hx
  · rw [List.mem_singleton.1 hx]; exact hl⟩
theorem app4 {a b : List Aff} (h : ∀ x ∈ a, x.1.length ≤ 4) (h' : ∀ x ∈ b, x.1.length ≤ 4) : ∀ x ∈ a ++ b, x.1.length ≤ 4 := fun x hx => (List.mem_append.1 hx).elim (h x) (h' x)
theorem l2Mutate_fn {bs : List Int} (hb : Bytes bs) {p : Nat} (hp : p ≤ 100000000) {k : Nat} {ns : List Lp} (hs : okN k ns) (hk : k ≤ 90) :
    ∃ ns' q, okN (k + 5) ns' ∧ q ≤ p + 2 ∧ (ns'.length = ns.length ∨ 4 < ns'.length) ∧ Fn Try.prog 46 (hbR bs p) [vR, vD (dLs ns)] (.o (vD (dLs ns'))) (hbR bs q) := by
  have hsm := hs.sm (by omega)
  rcases List.eq_nil_or_concat ns with rfl | ⟨init, z, e⟩
  · exact ⟨[], p, ⟨by simp, by simp⟩, by omega, .inl rfl, mut_nil hb hp hsm⟩
  cases ns with
  | nil => simp at e
  | cons l0 rest =>
    obtain ⟨c1, c2, c3⟩ := hs.cons
    have e1 : l0 :: rest = init ++ [z] := by rw [e]; simp
    have hi : init.length = rest.length := by have := congrArg List.length e1; simp at this; omega
    have hz : okL k z := hs.2 z (by rw [e1]; simp)
    have hin : ∀ x ∈ init, okL (k + 5) x := fun x hx => (hs.2 x (by rw [e1]; simp [hx])).mono (by omega)
    have hrest : ∀ x ∈ rest, okL (k + 5) x := fun x hx => (c3 x hx).mono (by omega)
    obtain ⟨u1, u2, u3, u4, u5⟩ := c1
    obtain ⟨z1, z2, z3, z4, z5⟩ := hz
    by_cases h0 : pickV bs p 40 = 0
    · exact ⟨(l0.1 ++ [varA (pickV bs (p + 1) 2).toNat], l0.2) :: rest, p + 1 + 1, .cons' ⟨by simp, by simp; omega, by show l0.2.length ≤ _; omega, app4 u4 (one4 (varA_len _)), u5⟩ (by omega) hrest, by omega, .inl rfl, mut_0 hb hp hsm u1 h0⟩
    by_cases h1 : pickV bs p 40 = 1
    · refine ⟨init ++ [(z.1, [])], p + 1, .last' ⟨z1, by show z.1.length ≤ _; omega, by simp, z4, by simp⟩ (by omega) hin, by omega, .inl (by simp; omega), ?_⟩
      rw [e1] at hsm ⊢
      exact mut_1 hb hp hsm h1
    by_cases h2 : pickV bs p 40 = 2
    · by_cases h3 : z.2 = []
      · refine ⟨init ++ [(z.1, [cA 1, cA 2])], p + 1, .last' ⟨z1, by show z.1.length ≤ _; omega, by simp, z4, two4 rfl rfl⟩ (by omega) hin, by omega, .inl (by simp; omega), ?_⟩
        rw [e1] at hsm ⊢
        exact mut_2N hb hp hsm h3 h2
      · refine ⟨init ++ [(z.1, z.2 ++ [cA 1, cA 2])], p + 1, .last' ⟨z1, by show z.1.length ≤ _; omega, by simp; omega, z4, app4 z5 (two4 rfl rfl)⟩ (by omega) hin, by omega, .inl (by simp; omega), ?_⟩
        rw [e1] at hsm ⊢
        exact mut_2 hb hp hsm h3 h2
    by_cases h3 : pickV bs p 40 = 3
    · exact ⟨(l0.1, [cA 99]) :: rest, p + 1, .cons' ⟨u1, by show l0.1.length ≤ _; omega, by simp, u4, one4 rfl⟩ (by omega) hrest, by omega, .inl rfl, mut_3 hb hp hsm h3⟩
    have hl0 : okL (k + 5) l0 := ⟨u1, by omega, by omega, u4, u5⟩
    by_cases h4 : pickV bs p 40 = 4
    · refine ⟨l0 :: (rest ++ List.replicate (4 - rest.length) l0), p + 1, .cons' hl0 (by simp; omega) (fun x hx => ?_), by omega, by simp; omega, mut_4 hb hp hsm h4⟩
      rcases List.mem_append.1 hx with hx | hx
      · exact hrest x hx
      · rw [List.eq_of_mem_replicate hx]; exact hl0
    · exact ⟨l0 :: rest, p + 1, .cons' hl0 (by omega) hrest, by omega, .inl rfl, mut_no hb hp hsm ⟨h0, h1, h2, h3, h4⟩⟩
end Go.Proofs.Ytgcpdpbapgkdjaa

/- Laws on lists that walks compare or search; contracts of affine expressions over data; no condition. -/
namespace Go.Proofs.Ytgcpdpbapgkdjaa
set_option linter.unusedVariables false
set_option linter.unusedSimpArgs false
open Go.RowKit

section
variable {α : Type}
def eqF (p : α → α → Bool) : List α → List α → Bool
  | [], [] => true
  | x :: xs, y :: ys => p x y && eqF p xs ys
  | _, _ => false
theorem drop_at {l : List α} {i : Nat} {x : α} (h : l[i]? = some x) : l.drop i = x :: l.drop (i + 1) := by
  obtain ⟨h1, rfl⟩ := List.getElem?_eq_some_iff.1 h
  exact List.drop_eq_getElem_cons h1
theorem eqF_drop {p : α → α → Bool} {a b : List α} {i : Nat} {x y : α} (h1 : a[i]? = some x) (h2 : b[i]? = some y) : eqF p (a.drop i) (b.drop i) = (p x y && eqF p (a.drop (i + 1)) (b.drop (i + 1))) := by rw [drop_at h1, drop_at h2]; rfl
theorem eqF_len {p : α → α → Bool} : ∀ {a b : List α}, a.length ≠ b.length → eqF p a b = false
  | [], [], h => absurd rfl h
  | [], _ :: _, _ => rfl
  | _ :: _, [], _ => rfl
  | x :: a, y :: b, h => by rw [eqF, eqF_len (fun e => h (by simp [e])), Bool.and_false]
theorem eqF_end {p : α → α → Bool} {a b : List α} (h : a.length = b.length) : eqF p (a.drop a.length) (b.drop a.length) = true := by rw [List.drop_length, h, List.drop_length]; rfl
theorem eqF_eq {p : α → α → Bool} (hp : ∀ x y, p x y = true ↔ x = y) : ∀ {a b : List α}, eqF p a b = true ↔ a = b
  | [], [] => by simp [eqF]
  | [], _ :: _ => by simp [eqF]
  | _ :: _, [] => by simp [eqF]
  | x :: a, y :: b => by rw [eqF, Bool.and_eq_true, hp, eqF_eq hp, List.cons.injEq]
def idxG (p : α → Bool) (i : Nat) : List α → Int
  | [] => -1
  | x :: l => if p x then (i : Int) else idxG p (i + 1) l
def idxF (p : α → Bool) (l : List α) : Int := idxG p 0 l
theorem idxG_drop {p : α → Bool} {l : List α} {i : Nat} {x : α} (h : l[i]? = some x) : idxG p i (l.drop i) = if p x then (i : Int) else idxG p (i + 1) (l.drop (i + 1)) := by rw [drop_at h]; rfl
theorem idxG_any {p : α → Bool} : ∀ {l : List α} {i : Nat}, decide (0 ≤ idxG p i l) = l.any p
  | [], i => rfl
  | x :: l, i => by
    rw [idxG, List.any_cons]
    cases h : p x
    · rw [Bool.false_or]; simpa using idxG_any
    · simp
theorem all_drop {p : α → Bool} {l : List α} {i : Nat} {x : α} (h : l[i]? = some x) : (l.drop i).all p = (p x && (l.drop (i + 1)).all p) := by rw [drop_at h]; rfl
end
theorem sameOf_dec (x y : Aff) : sameOf x y = decide (x = y) := by
  by_cases h : x = y
  · rw [decide_eq_true h]; exact (sameOf_iff x y).2 h
  · rw [decide_eq_false h]
    cases e : sameOf x y
    · rfl
    · exact absurd ((sameOf_iff x y).1 e) h
section
variable {P : Program} {f : FuncId} {x y : Aff} {n : Int}
theorem implSame_fn (x y : Aff) : Fn Try.prog 50 [] [ad (rA x), ad (rA y)] (.o (bo1 (decide (x = y)))) [] :=
  Fn.pure fun B bx al w vs hv => by
    obtain ⟨u, v, rfl, h1, h2⟩ := vals2 hv
    rw [← sameOf_dec]
    exact (implSame_any B B u v x y w (dr_aff h1) (dr_aff h2)).mono fun e w' ⟨h1, h2⟩ => ⟨_, h1, h2, .val _ rfl⟩
theorem specSame_fn (x y : Aff) : Fn Try.prog 93 [] [ad (rA x), ad (rA y)] (.o (bo1 (decide (x = y)))) [] :=
  Fn.pure fun B bx al w vs hv => by
    obtain ⟨u, v, rfl, h1, h2⟩ := vals2 hv
    rw [← sameOf_dec]
    exact (specSame_any B B u v x y w (dr_aff h1) (dr_aff h2)).mono fun e w' ⟨h1, h2⟩ => ⟨_, h1, h2, .val _ rfl⟩
theorem implAffV_fn (x : Aff) : Fn Try.prog 81 [] [ad (rA x)] (.o (bo1 (affV x))) [] :=
  Fn.pure fun B bx al w vs hv => by
    obtain ⟨v, rfl, h⟩ := vals1 hv
    exact (implAffV_any B v x w (dr_aff h)).mono fun e w' ⟨h1, h2⟩ => ⟨_, h1, h2, .val _ rfl⟩
theorem depth_fn (x : Aff) : Fn Try.prog 82 [] [ad (rA x)] (.o (nat1 (affDepth x : Nat))) [] :=
  Fn.pure fun B bx al w vs hv => by
    obtain ⟨v, rfl, h⟩ := vals1 hv
    exact (depth_any B v x w (dr_aff h)).mono fun e w' ⟨h1, h2⟩ => ⟨_, h1, h2, .val _ rfl⟩
theorem sl_form {B : Nat → Prop} {w : World} {v : Value} {xs : List Int} (h : Sl Sh.int B w v xs) : ∃ a n c, v = .slice a n c ∧ n = xs.length := by
  obtain ⟨a, c, rfl, _⟩ := h
  exact ⟨a, _, c, rfl, rfl⟩
theorem eval_fn {x : Aff} {p : List Int} (hV : affV x = true) (hS : Small p) (hn : p.length ≤ 4) : Fn Try.prog 83 [] [ad (rA x), vD (dIs p)] (.o (nat1 (affEval x p))) [] :=
  Fn.pure fun B bx al w vs hv => by
    obtain ⟨u, v, rfl, h1, h2⟩ := vals2 hv
    have h3 := dr_ints h2
    obtain ⟨a, n, c, rfl, rfl⟩ := sl_form h3
    exact (eval_any B B u x a _ c p w (dr_aff h1) h3 hV hS hn).mono fun e w' ⟨h1, h2⟩ => ⟨_, h1, h2, .val _ rfl⟩
theorem l1Eval_fn {x : Aff} {p : List Int} (hV : affV x = true) (hS : Small p) (hn : p.length ≤ 4) : Fn Try.prog 78 [] [ad (rA x), vD (dIs p)] (.o (nat1 (affEval x p))) [] :=
  Fn.pure fun B bx al w vs hv => by
    obtain ⟨u, v, rfl, h1, h2⟩ := vals2 hv
    have h3 := dr_ints h2
    obtain ⟨a, n, c, rfl, rfl⟩ := sl_form h3
    exact (l1Eval_any B B u x a _ c p w (dr_aff h1) h3 hV hS hn).mono fun e w' ⟨h1, h2⟩ => ⟨_, h1, h2, .val _ rfl⟩
theorem isPoint_fn (p : List Int) : Fn Try.prog 67 [] [vD (dIs p)] (.o (bo1 (isPt p))) [] :=
  Fn.pure fun B bx al w vs hv => by
    obtain ⟨v, rfl, h⟩ := vals1 hv
    have h3 := dr_ints h
    obtain ⟨a, n, c, rfl, rfl⟩ := sl_form h3
    exact (isPoint_any B a _ c p w h3).mono fun e w' ⟨h1, h2⟩ => ⟨_, h1, by rw [← h2]; exact Below.refl _ _, .val _ rfl⟩
theorem l1Point_fn (p : List Int) : Fn Try.prog 70 [] [vD (dIs p)] (.o (bo1 (isPt p))) [] :=
  Fn.pure fun B bx al w vs hv => by
    obtain ⟨v, rfl, h⟩ := vals1 hv
    have h3 := dr_ints h
    obtain ⟨a, n, c, rfl, rfl⟩ := sl_form h3
    exact (l1Point_any B a _ c p w h3).mono fun e w' ⟨h1, h2⟩ => ⟨_, h1, by rw [← h2]; exact Below.refl _ _, .val _ rfl⟩
end
end Go.Proofs.Ytgcpdpbapgkdjaa

/- Searching and comparing slices by a function; condition: what the function answers. -/
namespace Go.Proofs.Ytgcpdpbapgkdjaa
set_option linter.unusedVariables false
set_option linter.unusedSimpArgs false
open Go.RowKit

set_option maxRecDepth 100000 in
set_option maxHeartbeats 1600000 in
theorem eqf_lp {f : FuncId} {cap : List (List D)} (hc : callable Try.prog f = true) (p : Lp → Lp → Bool) (xs ys : List Lp) (hx : xs.length ≤ 1099511627776) (hf : ∀ x ∈ xs, ∀ y ∈ ys, Fn Try.prog f [] (ad (rL x) :: ad (rL y) :: cap.map fun c => .c (.ptr c)) (.o (bo1 (p x y))) []) : Fn Try.prog 47 [] [vD (.list 2 (xs.map rL)), vD (.list 2 (ys.map rL)), .c (.fn f cap)] (.o (bo1 (eqF p xs ys))) [] := by
  refine Fn.code0 Try.func47 rfl rfl rfl rfl ?_
  refine ACode.seq ?_
  refine ACode.region ?_
  refine .cons (.asg rfl rfl) ?_
  refine .nil ?_
  refine ks_n ?_
  refine ACode.seq ?_
  refine ACode.seq ?_
  refine ACode.region ?_
  refine .cons (.mv rfl rfl) ?_
  refine .cons (.ln 67 2 48 rfl rfl rfl) ?_
  refine .cons (.mv rfl rfl) ?_
  refine .cons (.ln 67 2 48 rfl rfl rfl) ?_
  refine .cons (.ne rfl rfl rfl) ?_
  refine .nil ?_
  refine ks_n ?_
  refine .cND rfl (fun h14 => ?_) (fun h14 => ?_)
  · skip
    refine ACode.seq ?_
    refine ACode.region ?_
    refine .cons (.asg rfl rfl) ?_
    refine .nil ?_
    refine ks_n ?_
    refine ACode.ret ?_
    refine ks_r ?_
    refine kf_ret rfl ?_ nobox
    exact leafB (eqF_len (by omega)).symm
  · skip
    refine ACode.skip ?_
    refine ks_n ?_
    refine ACode.seq ?_
    refine ACode.seq ?_
    refine ACode.region ?_
    refine .cons (.mv rfl rfl) ?_
    refine .cons (.ln 67 2 48 rfl rfl rfl) ?_
    refine .cons (.mv rfl rfl) ?_
    refine .nil ?_
    refine ks_n ?_
    refine ACode.block ?_
    refine .loopK (fun m σ => (∃ i : Nat, m = xs.length - i ∧ (i ≤ xs.length) ∧ (eqF p xs ys = eqF p (xs.drop i) (ys.drop i)) ∧ σ = [(.t 1, .v (.o (vD (.list 2 (ys.map rL))))), (.t 2, .v (.o (.c (.fn f cap)))), (.t 15, .v (.o (vD (.list 2 (xs.map rL))))), (.t 16, .v (.o (nat1 (xs.length : Nat)))), (.t 17, .v (.o (nat1 (i : Nat))))])) [] ⟨0, rfl, by omega, by simp, rfl⟩ ⟨ks rfl .dt, ks rfl .dt, ks rfl .dt, ks rfl .dt, ks rfl .dt, trivial⟩ ?_
    rintro m σ ⟨i, hm0, hi, hF, rfl⟩
    refine ACode.seq ?_
    refine ACode.region ?_
    refine .cons (.ls rfl rfl rfl) ?_
    refine .nil ?_
    refine ks_n ?_
    refine ACode.seq ?_
    refine .cD rfl (fun h18 => ?_) (fun h18 => ?_)
    · skip
      obtain ⟨x, hx1⟩ : ∃ x, xs[i]? = some x := ⟨_, List.getElem?_eq_getElem (by omega)⟩
      obtain ⟨y, hy1⟩ : ∃ x, ys[i]? = some x := ⟨_, List.getElem?_eq_getElem (by omega)⟩
      refine ACode.skip ?_
      refine ks_n ?_
      refine ACode.seq ?_
      refine ACode.block ?_
      refine ACode.seq ?_
      refine ACode.region ?_
      refine .cons (.mv rfl rfl) ?_
      refine .cons (.xL 67 2 48 rfl rfl rfl rfl rfl) ?_
      refine .cons (.lN 2 rfl rfl rfl) ?_
      refine .cons (.al 108 [.slice none 0 0, .slice none 0 0] rfl rfl rfl) ?_
      refine .cons (.asg rfl rfl) ?_
      refine .cons (.sT 2 true rfl rfl rfl rfl rfl rfl rfl) ?_
      refine .nil ?_
      refine ks_n ?_
      refine ACode.seq ?_
      refine ACode.region ?_
      refine .cons (.mv rfl rfl) ?_
      refine .cons (.mv rfl rfl) ?_
      refine .cons (.xL 67 2 48 rfl rfl rfl rfl rfl) ?_
      refine .cons (.lN 2 rfl rfl rfl) ?_
      refine .cons (.al 109 [.slice none 0 0, .slice none 0 0] rfl rfl rfl) ?_
      refine .cons (.sT 2 true rfl rfl rfl rfl rfl rfl rfl) ?_
      refine .nil ?_
      refine ks_n ?_
      refine ACode.seq ?_
      refine ACode.region ?_
      refine .cons (.mv rfl rfl) ?_
      refine .cons (.bN 2 rfl rfl rfl rfl rfl rfl) ?_
      refine .cons (.bN 2 rfl rfl rfl rfl rfl rfl) ?_
      refine .cons (.cP [.tmp 27, .tmp 28] rfl rfl rfl rfl (hf x (List.mem_of_getElem? hx1) y (List.mem_of_getElem? hy1)) rfl hc) ?_
      refine .cons (.nt rfl rfl) ?_
      refine .nil ?_
      refine ks_n ?_
      refine ACode.condT rfl (fun h30 => ?_) (fun h30 => ?_)
      · try simp only [List.length_map, decide_eq_true_eq, decide_eq_false_iff_not, Bool.not_eq_true', Bool.not_eq_false', Bool.not_eq_true, Bool.not_eq_false] at h30
        have g := h30
        refine ACode.seq ?_
        refine ACode.region ?_
        refine .cons (.asg rfl rfl) ?_
        refine .nil ?_
        refine ks_n ?_
        refine ACode.ret ?_
        refine kb_r ?_
        refine ks_r ?_
        refine kl_r ?_
        refine kb_r ?_
        refine ks_r ?_
        refine kf_ret rfl ?_ nobox
        exact leafB (by rw [hF, eqF_drop hx1 hy1, g]; rfl)
      · try simp only [List.length_map, decide_eq_true_eq, decide_eq_false_iff_not, Bool.not_eq_true', Bool.not_eq_false', Bool.not_eq_true, Bool.not_eq_false] at h30
        have g := h30
        refine ACode.skip ?_
        refine kb_n ?_
        refine ks_n ?_
        refine ACode.region ?_
        refine .cons (.pl rfl rfl rfl) ?_
        refine .cons (.mv rfl rfl) ?_
        refine .nil ?_
        refine kl_k [] ⟨i + 1, rfl, by omega, by rw [hF, eqF_drop hx1 hy1, g, Bool.true_and], rfl⟩ ⟨ks rfl .dt, ks rfl .dt, ks rfl .dt, ks rfl .dt, ks rfl .dt, trivial⟩
    · skip
      refine ACode.exit ?_
      refine ks_e ?_
      refine kl_e ?_
      refine kb_hit ?_
      refine ks_n ?_
      refine ACode.seq ?_
      refine ACode.region ?_
      refine .cons (.asg rfl rfl) ?_
      refine .nil ?_
      refine ks_n ?_
      refine ACode.ret ?_
      refine kf_ret rfl ?_ nobox
      exact leafB (by rw [hF, show i = xs.length by omega, eqF_end (by omega)])

set_option maxRecDepth 100000 in
set_option maxHeartbeats 1600000 in
theorem eqf_aff {f : FuncId} {cap : List (List D)} (hc : callable Try.prog f = true) (p : Aff → Aff → Bool) (xs ys : List Aff) (hx : xs.length ≤ 1099511627776) (hf : ∀ x ∈ xs, ∀ y ∈ ys, Fn Try.prog f [] (ad (rA x) :: ad (rA y) :: cap.map fun c => .c (.ptr c)) (.o (bo1 (p x y))) []) : Fn Try.prog 49 [] [vD (.list 2 (xs.map rA)), vD (.list 2 (ys.map rA)), .c (.fn f cap)] (.o (bo1 (eqF p xs ys))) [] := by
  refine Fn.code0 Try.func49 rfl rfl rfl rfl ?_
  refine ACode.seq ?_
  refine ACode.region ?_
  refine .cons (.asg rfl rfl) ?_
  refine .nil ?_
  refine ks_n ?_
  refine ACode.seq ?_
  refine ACode.seq ?_
  refine ACode.region ?_
  refine .cons (.mv rfl rfl) ?_
  refine .cons (.ln 51 2 32 rfl rfl rfl) ?_
  refine .cons (.mv rfl rfl) ?_
  refine .cons (.ln 51 2 32 rfl rfl rfl) ?_
  refine .cons (.ne rfl rfl rfl) ?_
  refine .nil ?_
  refine ks_n ?_
  refine .cND rfl (fun h14 => ?_) (fun h14 => ?_)
  · skip
    refine ACode.seq ?_
    refine ACode.region ?_
    refine .cons (.asg rfl rfl) ?_
    refine .nil ?_
    refine ks_n ?_
    refine ACode.ret ?_
    refine ks_r ?_
    refine kf_ret rfl ?_ nobox
    exact leafB (eqF_len (by omega)).symm
  · skip
    refine ACode.skip ?_
    refine ks_n ?_
    refine ACode.seq ?_
    refine ACode.seq ?_
    refine ACode.region ?_
    refine .cons (.mv rfl rfl) ?_
    refine .cons (.ln 51 2 32 rfl rfl rfl) ?_
    refine .cons (.mv rfl rfl) ?_
    refine .nil ?_
    refine ks_n ?_
    refine ACode.block ?_
    refine .loopK (fun m σ => (∃ i : Nat, m = xs.length - i ∧ (i ≤ xs.length) ∧ (eqF p xs ys = eqF p (xs.drop i) (ys.drop i)) ∧ σ = [(.t 1, .v (.o (vD (.list 2 (ys.map rA))))), (.t 2, .v (.o (.c (.fn f cap)))), (.t 15, .v (.o (vD (.list 2 (xs.map rA))))), (.t 16, .v (.o (nat1 (xs.length : Nat)))), (.t 17, .v (.o (nat1 (i : Nat))))])) [] ⟨0, rfl, by omega, by simp, rfl⟩ ⟨ks rfl .dt, ks rfl .dt, ks rfl .dt, ks rfl .dt, ks rfl .dt, trivial⟩ ?_
    rintro m σ ⟨i, hm0, hi, hF, rfl⟩
    refine ACode.seq ?_
    refine ACode.region ?_
    refine .cons (.ls rfl rfl rfl) ?_
    refine .nil ?_
    refine ks_n ?_
    refine ACode.seq ?_
    refine .cD rfl (fun h18 => ?_) (fun h18 => ?_)
    · skip
      obtain ⟨x, hx1⟩ : ∃ x, xs[i]? = some x := ⟨_, List.getElem?_eq_getElem (by omega)⟩
      obtain ⟨y, hy1⟩ : ∃ x, ys[i]? = some x := ⟨_, List.getElem?_eq_getElem (by omega)⟩
      refine ACode.skip ?_
      refine ks_n ?_
      refine ACode.seq ?_
      refine ACode.block ?_
      refine ACode.seq ?_
      refine ACode.region ?_
      refine .cons (.mv rfl rfl) ?_
      refine .cons (.xL 51 2 32 rfl rfl rfl rfl rfl) ?_
      refine .cons (.lN 2 rfl rfl rfl) ?_
      refine .cons (.al 108 [.slice none 0 0, .int .i64 0] rfl rfl rfl) ?_
      refine .cons (.asg rfl rfl) ?_
      refine .cons (.sT 2 true rfl rfl rfl rfl rfl rfl rfl) ?_
      refine .nil ?_
      refine ks_n ?_
      refine ACode.seq ?_
      refine ACode.region ?_
      refine .cons (.mv rfl rfl) ?_
      refine .cons (.mv rfl rfl) ?_
      refine .cons (.xL 51 2 32 rfl rfl rfl rfl rfl) ?_
      refine .cons (.lN 2 rfl rfl rfl) ?_
      refine .cons (.al 109 [.slice none 0 0, .int .i64 0] rfl rfl rfl) ?_
      refine .cons (.sT 2 true rfl rfl rfl rfl rfl rfl rfl) ?_
      refine .nil ?_
      refine ks_n ?_
      refine ACode.seq ?_
      refine ACode.region ?_
      refine .cons (.mv rfl rfl) ?_
      refine .cons (.bN 2 rfl rfl rfl rfl rfl rfl) ?_
      refine .cons (.bN 2 rfl rfl rfl rfl rfl rfl) ?_
      refine .cons (.cP [.tmp 27, .tmp 28] rfl rfl rfl rfl (hf x (List.mem_of_getElem? hx1) y (List.mem_of_getElem? hy1)) rfl hc) ?_
      refine .cons (.nt rfl rfl) ?_
      refine .nil ?_
      refine ks_n ?_
      refine ACode.condT rfl (fun h30 => ?_) (fun h30 => ?_)
      · try simp only [List.length_map, decide_eq_true_eq, decide_eq_false_iff_not, Bool.not_eq_true', Bool.not_eq_false', Bool.not_eq_true, Bool.not_eq_false] at h30
        have g := h30
        refine ACode.seq ?_
        refine ACode.region ?_
        refine .cons (.asg rfl rfl) ?_
        refine .nil ?_
        refine ks_n ?_
        refine ACode.ret ?_
        refine kb_r ?_
        refine ks_r ?_
        refine kl_r ?_
        refine kb_r ?_
        refine ks_r ?_
        refine kf_ret rfl ?_ nobox
        exact leafB (by rw [hF, eqF_drop hx1 hy1, g]; rfl)
      · try simp only [List.length_map, decide_eq_true_eq, decide_eq_false_iff_not, Bool.not_eq_true', Bool.not_eq_false', Bool.not_eq_true, Bool.not_eq_false] at h30
        have g := h30
        refine ACode.skip ?_
        refine kb_n ?_
        refine ks_n ?_
        refine ACode.region ?_
        refine .cons (.pl rfl rfl rfl) ?_
        refine .cons (.mv rfl rfl) ?_
        refine .nil ?_
        refine kl_k [] ⟨i + 1, rfl, by omega, by rw [hF, eqF_drop hx1 hy1, g, Bool.true_and], rfl⟩ ⟨ks rfl .dt, ks rfl .dt, ks rfl .dt, ks rfl .dt, ks rfl .dt, trivial⟩
    · skip
      refine ACode.exit ?_
      refine ks_e ?_
      refine kl_e ?_
      refine kb_hit ?_
      refine ks_n ?_
      refine ACode.seq ?_
      refine ACode.region ?_
      refine .cons (.asg rfl rfl) ?_
      refine .nil ?_
      refine ks_n ?_
      refine ACode.ret ?_
      refine kf_ret rfl ?_ nobox
      exact leafB (by rw [hF, show i = xs.length by omega, eqF_end (by omega)])

set_option maxRecDepth 100000 in
set_option maxHeartbeats 1600000 in
theorem idx_aff {f : FuncId} {cap : List (List D)} (hc : callable Try.prog f = true) (p : Aff → Bool) (xs : List Aff) (hx : xs.length ≤ 1099511627776) (hf : ∀ x ∈ xs, Fn Try.prog f [] (ad (rA x) :: cap.map fun c => .c (.ptr c)) (.o (bo1 (p x))) []) : Fn Try.prog 111 [] [vD (.list 2 (xs.map rA)), .c (.fn f cap)] (.o (nat1 (idxF p xs))) [] := by
  refine Fn.code0 Try.func111 rfl rfl rfl rfl ?_
  refine ACode.seq ?_
  refine ACode.region ?_
  refine .cons (.asg rfl rfl) ?_
  refine .nil ?_
  refine ks_n ?_
  refine ACode.seq ?_
  refine ACode.seq ?_
  refine ACode.region ?_
  refine .cons (.mv rfl rfl) ?_
  refine .cons (.ln 51 2 32 rfl rfl rfl) ?_
  refine .cons (.mv rfl rfl) ?_
  refine .nil ?_
  refine ks_n ?_
  refine ACode.block ?_
  refine .loopK (fun m σ => (∃ i : Nat, m = xs.length - i ∧ (i ≤ xs.length) ∧ (idxF p xs = idxG p i (xs.drop i)) ∧ σ = [(.t 0, .v (.o (vD (.list 2 (xs.map rA))))), (.t 1, .v (.o (.c (.fn f cap)))), (.t 7, .v (.o (nat1 (xs.length : Nat)))), (.t 8, .v (.o (nat1 (i : Nat))))])) [] ⟨0, rfl, by omega, rfl, rfl⟩ ⟨ks rfl .dt, ks rfl .dt, ks rfl .dt, ks rfl .dt, trivial⟩ ?_
  rintro m σ ⟨i, hm0, hi, hF, rfl⟩
  refine ACode.seq ?_
  refine ACode.region ?_
  refine .cons (.ls rfl rfl rfl) ?_
  refine .nil ?_
  refine ks_n ?_
  refine ACode.seq ?_
  refine .cD rfl (fun h9 => ?_) (fun h9 => ?_)
  · skip
    obtain ⟨x, hx1⟩ : ∃ x, xs[i]? = some x := ⟨_, List.getElem?_eq_getElem (by omega)⟩
    refine ACode.skip ?_
    refine ks_n ?_
    refine ACode.seq ?_
    refine ACode.block ?_
    refine ACode.seq ?_
    refine ACode.region ?_
    refine .cons (.mv rfl rfl) ?_
    refine .cons (.asg rfl rfl) ?_
    refine .nil ?_
    refine ks_n ?_
    refine ACode.seq ?_
    refine ACode.region ?_
    refine .cons (.mv rfl rfl) ?_
    refine .cons (.mv rfl rfl) ?_
    refine .cons (.mv rfl rfl) ?_
    refine .cons (.xL 51 2 32 rfl rfl rfl rfl rfl) ?_
    refine .cons (.lN 2 rfl rfl rfl) ?_
    refine .cons (.cP [.tmp 15] rfl rfl rfl rfl (hf x (List.mem_of_getElem? hx1)) rfl hc) ?_
    refine .nil ?_
    refine ks_n ?_
    refine ACode.condT rfl (fun h16 => ?_) (fun h16 => ?_)
    · try simp only [List.length_map, decide_eq_true_eq, decide_eq_false_iff_not, Bool.not_eq_true', Bool.not_eq_false', Bool.not_eq_true, Bool.not_eq_false] at h16
      refine ACode.seq ?_
      refine ACode.region ?_
      refine .cons (.mv rfl rfl) ?_
      refine .cons (.asg rfl rfl) ?_
      refine .nil ?_
      refine ks_n ?_
      refine ACode.ret ?_
      refine kb_r ?_
      refine ks_r ?_
      refine kl_r ?_
      refine kb_r ?_
      refine ks_r ?_
      refine kf_ret rfl ?_ nobox
      exact leafI (by rw [hF, idxG_drop hx1, h16]; rfl)
    · try simp only [List.length_map, decide_eq_true_eq, decide_eq_false_iff_not, Bool.not_eq_true', Bool.not_eq_false', Bool.not_eq_true, Bool.not_eq_false] at h16
      refine ACode.skip ?_
      refine kb_n ?_
      refine ks_n ?_
      refine ACode.region ?_
      refine .cons (.pl rfl rfl rfl) ?_
      refine .cons (.mv rfl rfl) ?_
      refine .nil ?_
      refine kl_k [] ⟨i + 1, rfl, by omega, by rw [hF, idxG_drop hx1, h16]; rfl, rfl⟩ ⟨ks rfl .dt, ks rfl .dt, ks rfl .dt, ks rfl .dt, trivial⟩
  · skip
    refine ACode.exit ?_
    refine ks_e ?_
    refine kl_e ?_
    refine kb_hit ?_
    refine ks_n ?_
    refine ACode.seq ?_
    refine ACode.region ?_
    refine .cons (.asg rfl rfl) ?_
    refine .nil ?_
    refine ks_n ?_
    refine ACode.ret ?_
    refine kf_ret rfl ?_ nobox
    exact leafI (by rw [hF, List.drop_of_length_le (by omega)]; rfl)

set_option maxRecDepth 100000 in
set_option maxHeartbeats 1600000 in
theorem cnt_aff {f : FuncId} {cap : List (List D)} (hc : callable Try.prog f = true) (p : Aff → Bool) (xs : List Aff) (hx : xs.length ≤ 1099511627776) (hf : ∀ x ∈ xs, Fn Try.prog f [] (ad (rA x) :: cap.map fun c => .c (.ptr c)) (.o (bo1 (p x))) []) : Fn Try.prog 96 [] [vD (.list 2 (xs.map rA)), .c (.fn f cap)] (.o (bo1 (xs.any p))) [] := by
  refine Fn.code0 Try.func96 rfl rfl rfl rfl ?_
  refine ACode.seq ?_
  refine ACode.region ?_
  refine .cons (.asg rfl rfl) ?_
  refine .nil ?_
  refine ks_n ?_
  refine ACode.seq ?_
  refine ACode.region ?_
  refine .cons (.mv rfl rfl) ?_
  refine .cons (.mv rfl rfl) ?_
  refine .cons (.cP [.tmp 5, .tmp 6] rfl rfl rfl rfl (idx_aff hc p xs hx hf) rfl) ?_
  refine .cons (.ge rfl rfl rfl) ?_
  refine .cons (.asg rfl rfl) ?_
  refine .nil ?_
  refine ks_n ?_
  refine ACode.ret ?_
  refine kf_ret rfl ?_ nobox
  exact leafB idxG_any

set_option maxRecDepth 100000 in
set_option maxHeartbeats 1600000 in
theorem idx_lp {f : FuncId} {cap : List (List D)} (hc : callable Try.prog f = true) (p : Lp → Bool) (xs : List Lp) (hx : xs.length ≤ 1099511627776) (hf : ∀ x ∈ xs, Fn Try.prog f [] (ad (rL x) :: cap.map fun c => .c (.ptr c)) (.o (bo1 (p x))) []) : Fn Try.prog 98 [] [vD (.list 2 (xs.map rL)), .c (.fn f cap)] (.o (nat1 (idxF p xs))) [] := by
  refine Fn.code0 Try.func98 rfl rfl rfl rfl ?_
  refine ACode.seq ?_
  refine ACode.region ?_
  refine .cons (.asg rfl rfl) ?_
  refine .nil ?_
  refine ks_n ?_
  refine ACode.seq ?_
  refine ACode.seq ?_
  refine ACode.region ?_
  refine .cons (.mv rfl rfl) ?_
  refine .cons (.ln 67 2 48 rfl rfl rfl) ?_
  refine .cons (.mv rfl rfl) ?_
  refine .nil ?_
  refine ks_n ?_
  refine ACode.block ?_
  refine .loopK (fun m σ => (∃ i : Nat, m = xs.length - i ∧ (i ≤ xs.length) ∧ (idxF p xs = idxG p i (xs.drop i)) ∧ σ = [(.t 0, .v (.o (vD (.list 2 (xs.map rL))))), (.t 1, .v (.o (.c (.fn f cap)))), (.t 7, .v (.o (nat1 (xs.length : Nat)))), (.t 8, .v (.o (nat1 (i : Nat))))])) [] ⟨0, rfl, by omega, rfl, rfl⟩ ⟨ks rfl .dt, ks rfl .dt, ks rfl .dt, ks rfl .dt, trivial⟩ ?_
  rintro m σ ⟨i, hm0, hi, hF, rfl⟩
  refine ACode.seq ?_
  refine ACode.region ?_
  refine .cons (.ls rfl rfl rfl) ?_
  refine .nil ?_
  refine ks_n ?_
  refine ACode.seq ?_
  refine .cD rfl (fun h9 => ?_) (fun h9 => ?_)
  · skip
    obtain ⟨x, hx1⟩ : ∃ x, xs[i]? = some x := ⟨_, List.getElem?_eq_getElem (by omega)⟩
    refine ACode.skip ?_
    refine ks_n ?_
    refine ACode.seq ?_
    refine ACode.block ?_
    refine ACode.seq ?_
    refine ACode.region ?_
    refine .cons (.mv rfl rfl) ?_
    refine .cons (.asg rfl rfl) ?_
    refine .nil ?_
    refine ks_n ?_
    refine ACode.seq ?_
    refine ACode.region ?_
    refine .cons (.mv rfl rfl) ?_
    refine .cons (.mv rfl rfl) ?_
    refine .cons (.mv rfl rfl) ?_
    refine .cons (.xL 67 2 48 rfl rfl rfl rfl rfl) ?_
    refine .cons (.lN 2 rfl rfl rfl) ?_
    refine .cons (.cP [.tmp 15] rfl rfl rfl rfl (hf x (List.mem_of_getElem? hx1)) rfl hc) ?_
    refine .nil ?_
    refine ks_n ?_
    refine ACode.condT rfl (fun h16 => ?_) (fun h16 => ?_)
    · try simp only [List.length_map, decide_eq_true_eq, decide_eq_false_iff_not, Bool.not_eq_true', Bool.not_eq_false', Bool.not_eq_true, Bool.not_eq_false] at h16
      refine ACode.seq ?_
      refine ACode.region ?_
      refine .cons (.mv rfl rfl) ?_
      refine .cons (.asg rfl rfl) ?_
      refine .nil ?_
      refine ks_n ?_
      refine ACode.ret ?_
      refine kb_r ?_
      refine ks_r ?_
      refine kl_r ?_
      refine kb_r ?_
      refine ks_r ?_
      refine kf_ret rfl ?_ nobox
      exact leafI (by rw [hF, idxG_drop hx1, h16]; rfl)
    · try simp only [List.length_map, decide_eq_true_eq, decide_eq_false_iff_not, Bool.not_eq_true', Bool.not_eq_false', Bool.not_eq_true, Bool.not_eq_false] at h16
      refine ACode.skip ?_
      refine kb_n ?_
      refine ks_n ?_
      refine ACode.region ?_
      refine .cons (.pl rfl rfl rfl) ?_
      refine .cons (.mv rfl rfl) ?_
      refine .nil ?_
      refine kl_k [] ⟨i + 1, rfl, by omega, by rw [hF, idxG_drop hx1, h16]; rfl, rfl⟩ ⟨ks rfl .dt, ks rfl .dt, ks rfl .dt, ks rfl .dt, trivial⟩
  · skip
    refine ACode.exit ?_
    refine ks_e ?_
    refine kl_e ?_
    refine kb_hit ?_
    refine ks_n ?_
    refine ACode.seq ?_
    refine ACode.region ?_
    refine .cons (.asg rfl rfl) ?_
    refine .nil ?_
    refine ks_n ?_
    refine ACode.ret ?_
    refine kf_ret rfl ?_ nobox
    exact leafI (by rw [hF, List.drop_of_length_le (by omega)]; rfl)

set_option maxRecDepth 100000 in
set_option maxHeartbeats 1600000 in
theorem cnt_lp {f : FuncId} {cap : List (List D)} (hc : callable Try.prog f = true) (p : Lp → Bool) (xs : List Lp) (hx : xs.length ≤ 1099511627776) (hf : ∀ x ∈ xs, Fn Try.prog f [] (ad (rL x) :: cap.map fun c => .c (.ptr c)) (.o (bo1 (p x))) []) : Fn Try.prog 61 [] [vD (.list 2 (xs.map rL)), .c (.fn f cap)] (.o (bo1 (xs.any p))) [] := by
  refine Fn.code0 Try.func61 rfl rfl rfl rfl ?_
  refine ACode.seq ?_
  refine ACode.region ?_
  refine .cons (.asg rfl rfl) ?_
  refine .nil ?_
  refine ks_n ?_
  refine ACode.seq ?_
  refine ACode.region ?_
  refine .cons (.mv rfl rfl) ?_
  refine .cons (.mv rfl rfl) ?_
  refine .cons (.cP [.tmp 5, .tmp 6] rfl rfl rfl rfl (idx_lp hc p xs hx hf) rfl) ?_
  refine .cons (.ge rfl rfl rfl) ?_
  refine .cons (.asg rfl rfl) ?_
  refine .nil ?_
  refine ks_n ?_
  refine ACode.ret ?_
  refine kf_ret rfl ?_ nobox
  exact leafB idxG_any

set_option maxRecDepth 100000 in
set_option maxHeartbeats 1600000 in
theorem idx_int {f : FuncId} {cap : List (List D)} (hc : callable Try.prog f = true) (p : Int → Bool) (xs : List Int) (hx : xs.length ≤ 1099511627776) (hf : ∀ x ∈ xs, Fn Try.prog f [] (nat1 x :: cap.map fun c => .c (.ptr c)) (.o (bo1 (p x))) []) : Fn Try.prog 94 [] [vD (.list 1 (xs.map rI)), .c (.fn f cap)] (.o (nat1 (idxF p xs))) [] := by
  refine Fn.code0 Try.func94 rfl rfl rfl rfl ?_
  refine ACode.seq ?_
  refine ACode.region ?_
  refine .cons (.asg rfl rfl) ?_
  refine .nil ?_
  refine ks_n ?_
  refine ACode.seq ?_
  refine ACode.seq ?_
  refine ACode.region ?_
  refine .cons (.mv rfl rfl) ?_
  refine .cons (.ln 3 1 8 rfl rfl rfl) ?_
  refine .cons (.mv rfl rfl) ?_
  refine .nil ?_
  refine ks_n ?_
  refine ACode.block ?_
  refine .loopK (fun m σ => (∃ i : Nat, m = xs.length - i ∧ (i ≤ xs.length) ∧ (idxF p xs = idxG p i (xs.drop i)) ∧ σ = [(.t 0, .v (.o (vD (.list 1 (xs.map rI))))), (.t 1, .v (.o (.c (.fn f cap)))), (.t 7, .v (.o (nat1 (xs.length : Nat)))), (.t 8, .v (.o (nat1 (i : Nat))))])) [] ⟨0, rfl, by omega, rfl, rfl⟩ ⟨ks rfl .dt, ks rfl .dt, ks rfl .dt, ks rfl .dt, trivial⟩ ?_
  rintro m σ ⟨i, hm0, hi, hF, rfl⟩
  refine ACode.seq ?_
  refine ACode.region ?_
  refine .cons (.ls rfl rfl rfl) ?_
  refine .nil ?_
  refine ks_n ?_
  refine ACode.seq ?_
  refine .cD rfl (fun h9 => ?_) (fun h9 => ?_)
  · skip
    obtain ⟨x, hx1⟩ : ∃ x, xs[i]? = some x := ⟨_, List.getElem?_eq_getElem (by omega)⟩
    refine ACode.skip ?_
    refine ks_n ?_
    refine ACode.seq ?_
    refine ACode.block ?_
    refine ACode.seq ?_
    refine ACode.region ?_
    refine .cons (.mv rfl rfl) ?_
    refine .cons (.asg rfl rfl) ?_
    refine .nil ?_
    refine ks_n ?_
    refine ACode.seq ?_
    refine ACode.region ?_
    refine .cons (.mv rfl rfl) ?_
    refine .cons (.mv rfl rfl) ?_
    refine .cons (.mv rfl rfl) ?_
    refine .cons (.xL 3 1 8 rfl rfl rfl rfl rfl) ?_
    refine .cons (.l1 1 rfl rfl) ?_
    refine .cons (.cP [.tmp 15] rfl rfl rfl rfl (hf x (List.mem_of_getElem? hx1)) rfl hc) ?_
    refine .nil ?_
    refine ks_n ?_
    refine ACode.condT rfl (fun h16 => ?_) (fun h16 => ?_)
    · try simp only [List.length_map, decide_eq_true_eq, decide_eq_false_iff_not, Bool.not_eq_true', Bool.not_eq_false', Bool.not_eq_true, Bool.not_eq_false] at h16
      refine ACode.seq ?_
      refine ACode.region ?_
      refine .cons (.mv rfl rfl) ?_
      refine .cons (.asg rfl rfl) ?_
      refine .nil ?_
      refine ks_n ?_
      refine ACode.ret ?_
      refine kb_r ?_
      refine ks_r ?_
      refine kl_r ?_
      refine kb_r ?_
      refine ks_r ?_
      refine kf_ret rfl ?_ nobox
      exact leafI (by rw [hF, idxG_drop hx1, h16]; rfl)
    · try simp only [List.length_map, decide_eq_true_eq, decide_eq_false_iff_not, Bool.not_eq_true', Bool.not_eq_false', Bool.not_eq_true, Bool.not_eq_false] at h16
      refine ACode.skip ?_
      refine kb_n ?_
      refine ks_n ?_
      refine ACode.region ?_
      refine .cons (.pl rfl rfl rfl) ?_
      refine .cons (.mv rfl rfl) ?_
      refine .nil ?_
      refine kl_k [] ⟨i + 1, rfl, by omega, by rw [hF, idxG_drop hx1, h16]; rfl, rfl⟩ ⟨ks rfl .dt, ks rfl .dt, ks rfl .dt, ks rfl .dt, trivial⟩
  · skip
    refine ACode.exit ?_
    refine ks_e ?_
    refine kl_e ?_
    refine kb_hit ?_
    refine ks_n ?_
    refine ACode.seq ?_
    refine ACode.region ?_
    refine .cons (.asg rfl rfl) ?_
    refine .nil ?_
    refine ks_n ?_
    refine ACode.ret ?_
    refine kf_ret rfl ?_ nobox
    exact leafI (by rw [hF, List.drop_of_length_le (by omega)]; rfl)

set_option maxRecDepth 100000 in
set_option maxHeartbeats 1600000 in
theorem cnt_int {f : FuncId} {cap : List (List D)} (hc : callable Try.prog f = true) (p : Int → Bool) (xs : List Int) (hx : xs.length ≤ 1099511627776) (hf : ∀ x ∈ xs, Fn Try.prog f [] (nat1 x :: cap.map fun c => .c (.ptr c)) (.o (bo1 (p x))) []) : Fn Try.prog 53 [] [vD (.list 1 (xs.map rI)), .c (.fn f cap)] (.o (bo1 (xs.any p))) [] := by
  refine Fn.code0 Try.func53 rfl rfl rfl rfl ?_
  refine ACode.seq ?_
  refine ACode.region ?_
  refine .cons (.asg rfl rfl) ?_
  refine .nil ?_
  refine ks_n ?_
  refine ACode.seq ?_
  refine ACode.region ?_
  refine .cons (.mv rfl rfl) ?_
  refine .cons (.mv rfl rfl) ?_
  refine .cons (.cP [.tmp 5, .tmp 6] rfl rfl rfl rfl (idx_int hc p xs hx hf) rfl) ?_
  refine .cons (.ge rfl rfl rfl) ?_
  refine .cons (.asg rfl rfl) ?_
  refine .nil ?_
  refine ks_n ?_
  refine ACode.ret ?_
  refine kf_ret rfl ?_ nobox
  exact leafB idxG_any

end Go.Proofs.Ytgcpdpbapgkdjaa

/- Validity and equality of nests as functions of lists; condition: none. -/
namespace Go.Proofs.Ytgcpdpbapgkdjaa
set_option linter.unusedVariables false
set_option linter.unusedSimpArgs false
open Go.RowKit

theorem eqF_dec {α : Type} [DecidableEq α] (a b : List α) : eqF (fun x y => decide (x = y)) a b = decide (a = b) := by
  rw [Bool.eq_iff_iff, decide_eq_true_eq, eqF_eq (fun x y => by simp)]
theorem nany {α : Type} (p : α → Bool) (l : List α) : (!l.any fun x => !p x) = l.all p := by
  rw [Bool.eq_iff_iff]; simp
theorem bnd_no {d : Nat} {x : Aff} (h : affV x = false ∨ d < affDepth x) : bndV d x = false := by
  rw [bndV, Bool.and_eq_false_iff]
  exact h.imp id fun h => decide_eq_false (by omega)
theorem bnd_yes {d : Nat} {x : Aff} (h : affV x = true) (h2 : ¬ d < affDepth x) : bndV d x = true := by
  rw [bndV, Bool.and_eq_true]
  exact ⟨h, decide_eq_true (by omega)⟩
theorem side_len {d : Nat} {xs : List Aff} {b : Bool} (h : xs.all (bndV d) = true) (hb : b = (decide (1 ≤ xs.length) && decide (xs.length ≤ 2))) : b = sideV d xs := by
  rw [sideV, h, Bool.true_and]; exact hb
def nestG (i : Nat) : List Lp → Bool
  | [] => true
  | l :: r => (sideV i l.1 && sideV i l.2) && nestG (i + 1) r
def nsV (ns : List Lp) : Bool := decide (ns.length ≤ 4) && nestG 0 ns
theorem nestG_drop {ns : List Lp} {i : Nat} {l : Lp} (h : ns[i]? = some l) : nestG i (ns.drop i) = ((sideV i l.1 && sideV i l.2) && nestG (i + 1) (ns.drop (i + 1))) := by rw [drop_at h]; rfl
theorem nsV_at {ns : List Lp} (h : nsV ns = true) : ns.length ≤ 4 ∧ ∀ (i : Nat) l, ns[i]? = some l → sideV i l.1 = true ∧ sideV i l.2 = true := by
  rw [nsV, Bool.and_eq_true, decide_eq_true_eq] at h
  refine ⟨h.1, ?_⟩
  have key : ∀ (ms : List Lp) (k : Nat), nestG k ms = true → ∀ (i : Nat) l, ms[i]? = some l → sideV (k + i) l.1 = true ∧ sideV (k + i) l.2 = true := by
    intro ms
    induction ms with
    | nil => intro k _ i l h; simp at h
    | cons m ms ih =>
      intro k hk i l hl
      rw [nestG, Bool.and_eq_true, Bool.and_eq_true] at hk
      cases i with
      | zero => simp at hl; subst hl; exact hk.1
      | succ i =>
        have := ih (k + 1) hk.2 i l (by simpa using hl)
        rwa [show k + 1 + i = k + (i + 1) by omega] at this
  intro i l hl
  have := key ns 0 h.2 i l hl
  rwa [Nat.zero_add] at this
def lpFlat (l : Lp) : Bool := l.1.all flatA && l.2.all flatA
def nsRect (ns : List Lp) : Bool := ns.all lpFlat && nsV ns
end Go.Proofs.Ytgcpdpbapgkdjaa

/- Validity and equality of nests; condition: small nests. -/
namespace Go.Proofs.Ytgcpdpbapgkdjaa
set_option linter.unusedVariables false
set_option linter.unusedSimpArgs false
open Go.RowKit

theorem eqfA_fn (xs ys : List Aff) (hx : xs.length ≤ 1099511627776) : Fn Try.prog 49 [] [vD (dAs xs), vD (dAs ys), .c (.fn 50 [])] (.o (bo1 (decide (xs = ys)))) [] := by
  rw [← eqF_dec]
  exact eqf_aff (cap := []) (by kernel_rfl) _ xs ys hx (fun x _ y _ => implSame_fn x y)

set_option maxRecDepth 100000 in
set_option maxHeartbeats 1600000 in
theorem nsSame1_fn (x y : Lp) (hx : x.1.length ≤ 1099511627776 ∧ x.2.length ≤ 1099511627776) : Fn Try.prog 48 [] [ad (rL x), ad (rL y)] (.o (bo1 (decide (x = y)))) [] := by
  refine Fn.code0 Try.func48 rfl rfl rfl rfl ?_
  refine ACode.seq ?_
  refine ACode.region ?_
  refine .cons (St1.boxP rfl rfl rfl rfl rfl rfl) ?_
  refine .cons (St1.boxP rfl rfl rfl rfl rfl rfl) ?_
  refine .cons (.asg rfl rfl) ?_
  refine .nil ?_
  refine ks_n ?_
  refine ACode.seq ?_
  refine ACode.region ?_
  refine .cons (.fP 0 0 false rfl rfl) ?_
  refine .cons (.l1 1 rfl rfl) ?_
  refine .cons (.fP 0 0 false rfl rfl) ?_
  refine .cons (.l1 1 rfl rfl) ?_
  refine .cons (.cP [.tmp 6, .tmp 8, .func 50] rfl rfl rfl rfl (eqfA_fn _ _ hx.1) rfl) ?_
  refine .cons (.mv rfl rfl) ?_
  refine AOps.cases 10 _ rfl (fun g10 => ?_) (fun g10 => ?_)
  · try simp only [List.length_map, decide_eq_true_eq, decide_eq_false_iff_not, Bool.not_eq_true', Bool.not_eq_false', Bool.not_eq_true, Bool.not_eq_false] at g10
    refine .cons (.gT rfl rfl rfl (.fP 1 0 false rfl rfl)) ?_
    refine .cons (.gT rfl rfl rfl (.l1 1 rfl rfl)) ?_
    refine .cons (.gT rfl rfl rfl (.fP 1 0 false rfl rfl)) ?_
    refine .cons (.gT rfl rfl rfl (.l1 1 rfl rfl)) ?_
    refine .cons (.gT rfl rfl rfl (.cP [.tmp 12, .tmp 14, .func 50] rfl rfl rfl rfl (eqfA_fn _ _ hx.2) rfl)) ?_
    refine .cons (.pT rfl rfl rfl) ?_
    refine .cons (.asg rfl rfl) ?_
    refine .nil ?_
    refine ks_n ?_
    refine ACode.ret ?_
    refine kf_ret rfl ?_ nobox
    exact leafB (by rw [Bool.eq_iff_iff]; simp [Prod.ext_iff, *])
  · try simp only [List.length_map, decide_eq_true_eq, decide_eq_false_iff_not, Bool.not_eq_true', Bool.not_eq_false', Bool.not_eq_true, Bool.not_eq_false] at g10
    refine .cons (.gF rfl rfl rfl) ?_
    refine .cons (.gF rfl rfl rfl) ?_
    refine .cons (.gF rfl rfl rfl) ?_
    refine .cons (.gF rfl rfl rfl) ?_
    refine .cons (.gF rfl rfl rfl) ?_
    refine .cons (.pF rfl rfl rfl) ?_
    refine .cons (.asg rfl rfl) ?_
    refine .nil ?_
    refine ks_n ?_
    refine ACode.ret ?_
    refine kf_ret rfl ?_ nobox
    exact leafB (by rw [Bool.eq_iff_iff]; simp [Prod.ext_iff, *])

set_option maxRecDepth 100000 in
set_option maxHeartbeats 1600000 in
theorem implNestSame_fn (ns ms : List Lp) (hs : smN ns) : Fn Try.prog 14 [] [vD (dLs ns), vD (dLs ms)] (.o (bo1 (decide (ns = ms)))) [] := by
  refine Fn.code0 Try.func14 rfl rfl rfl rfl ?_
  refine ACode.seq ?_
  refine ACode.region ?_
  refine .cons (.asg rfl rfl) ?_
  refine .nil ?_
  refine ks_n ?_
  refine ACode.seq ?_
  refine ACode.region ?_
  refine .cons (.mv rfl rfl) ?_
  refine .cons (.mv rfl rfl) ?_
  refine .cons (.cP [.tmp 5, .tmp 6, .func 48] rfl rfl rfl rfl (eqf_lp (f := 48) (cap := []) (by kernel_rfl) (fun x y => decide (x = y)) ns ms (Nat.le_trans hs.1 (by omega)) (fun x hx y _ => nsSame1_fn x y ⟨Nat.le_trans (hs.2 x hx).1 (by omega), Nat.le_trans (hs.2 x hx).2.1 (by omega)⟩)) rfl) ?_
  refine .cons (.asg rfl rfl) ?_
  refine .nil ?_
  refine ks_n ?_
  refine ACode.ret ?_
  refine kf_ret rfl ?_ nobox
  exact leafB (eqF_dec _ _)

set_option maxRecDepth 100000 in
set_option maxHeartbeats 1600000 in
theorem l2SideSame_fn (xs ys : List Aff) (hx : xs.length ≤ 1099511627776) : Fn Try.prog 51 [] [vD (dAs xs), vD (dAs ys)] (.o (bo1 (decide (xs = ys)))) [] := by
  rw [← eqF_dec]
  refine Fn.code0 Try.func51 rfl rfl rfl rfl ?_
  refine ACode.seq ?_
  refine ACode.region ?_
  refine .cons (.asg rfl rfl) ?_
  refine .nil ?_
  refine ks_n ?_
  refine ACode.seq ?_
  refine ACode.seq ?_
  refine ACode.region ?_
  refine .cons (.mv rfl rfl) ?_
  refine .cons (.ln 51 2 32 rfl rfl rfl) ?_
  refine .cons (.mv rfl rfl) ?_
  refine .cons (.ln 51 2 32 rfl rfl rfl) ?_
  refine .cons (.ne rfl rfl rfl) ?_
  refine .nil ?_
  refine ks_n ?_
  refine .cND rfl (fun h10 => ?_) (fun h10 => ?_)
  · skip
    refine ACode.seq ?_
    refine ACode.region ?_
    refine .cons (.asg rfl rfl) ?_
    refine .nil ?_
    refine ks_n ?_
    refine ACode.ret ?_
    refine ks_r ?_
    refine kf_ret rfl ?_ nobox
    exact leafB (eqF_len (by omega)).symm
  · skip
    refine ACode.skip ?_
    refine ks_n ?_
    refine ACode.seq ?_
    refine ACode.seq ?_
    refine ACode.region ?_
    refine .cons (.asg rfl rfl) ?_
    refine .nil ?_
    refine ks_n ?_
    refine ACode.block ?_
    refine .loopK (fun m σ => (∃ i : Nat, m = xs.length - i ∧ (i ≤ xs.length) ∧ (eqF (fun x y => decide (x = y)) xs ys = eqF (fun x y => decide (x = y)) (xs.drop i) (ys.drop i)) ∧ σ = [(.t 0, .v (.o (vD (dAs xs)))), (.t 1, .v (.o (vD (dAs ys)))), (.t 5, .v (.o (nat1 (i : Nat))))])) [] ⟨0, rfl, by omega, by simp, rfl⟩ ⟨ks rfl .dt, ks rfl .dt, ks rfl .dt, trivial⟩ ?_
    rintro m σ ⟨i, hm0, hi, hF, rfl⟩
    refine ACode.seq ?_
    refine ACode.seq ?_
    refine ACode.region ?_
    refine .cons (.mv rfl rfl) ?_
    refine .cons (.mv rfl rfl) ?_
    refine .cons (.ln 51 2 32 rfl rfl rfl) ?_
    refine .cons (.ls rfl rfl rfl) ?_
    refine .nil ?_
    refine ks_n ?_
    refine .cD rfl (fun h14 => ?_) (fun h14 => ?_)
    · skip
      obtain ⟨x, hx1⟩ : ∃ x, xs[i]? = some x := ⟨_, List.getElem?_eq_getElem (by omega)⟩
      obtain ⟨y, hy1⟩ : ∃ x, ys[i]? = some x := ⟨_, List.getElem?_eq_getElem (by omega)⟩
      refine ACode.skip ?_
      refine ks_n ?_
      refine ACode.seq ?_
      refine ACode.block ?_
      refine ACode.seq ?_
      refine ACode.drawK (by kernel_rfl) (by kernel_rfl) ?_
      refine .cons (.mv rfl rfl) ?_
      refine .cons (.mv rfl rfl) ?_
      refine .cons (.xL 51 2 32 rfl rfl rfl rfl rfl) ?_
      refine .cons (.lN 2 rfl rfl rfl) ?_
      refine .cons (.mv rfl rfl) ?_
      refine .cons (.mv rfl rfl) ?_
      refine .cons (.xL 51 2 32 rfl rfl rfl rfl rfl) ?_
      refine .cons (.lN 2 rfl rfl rfl) ?_
      refine .cons (.cP [.tmp 20, .tmp 24] rfl rfl rfl rfl (specSame_fn x y) rfl) ?_
      refine .cons (.nt rfl rfl) ?_
      refine .nil ⟨by kernel_rfl, ?_⟩
      refine ks_n ?_
      refine ACode.condT rfl (fun h26 => ?_) (fun h26 => ?_)
      · try simp only [List.length_map, decide_eq_true_eq, decide_eq_false_iff_not, Bool.not_eq_true', Bool.not_eq_false', Bool.not_eq_true, Bool.not_eq_false] at h26
        refine ACode.seq ?_
        refine ACode.region ?_
        refine .cons (.asg rfl rfl) ?_
        refine .nil ?_
        refine ks_n ?_
        refine ACode.ret ?_
        refine kb_r ?_
        refine ks_r ?_
        refine kl_r ?_
        refine kb_r ?_
        refine ks_r ?_
        refine kf_ret rfl ?_ nobox
        exact leafB (by rw [hF, eqF_drop hx1 hy1, decide_eq_false h26]; rfl)
      · try simp only [List.length_map, decide_eq_true_eq, decide_eq_false_iff_not, Bool.not_eq_true', Bool.not_eq_false', Bool.not_eq_true, Bool.not_eq_false] at h26
        refine ACode.skip ?_
        refine kb_n ?_
        refine ks_n ?_
        refine ACode.region ?_
        refine .cons (.mv rfl rfl) ?_
        refine .cons (.pl rfl rfl rfl) ?_
        refine .cons (.asg rfl rfl) ?_
        refine .nil ?_
        refine kl_k [] ⟨i + 1, rfl, by omega, by rw [hF, eqF_drop hx1 hy1, decide_eq_true h26, Bool.true_and], rfl⟩ ⟨ks rfl .dt, ks rfl .dt, ks rfl .dt, trivial⟩
    · skip
      refine ACode.exit ?_
      refine ks_e ?_
      refine kl_e ?_
      refine kb_hit ?_
      refine ks_n ?_
      refine ACode.seq ?_
      refine ACode.region ?_
      refine .cons (.asg rfl rfl) ?_
      refine .nil ?_
      refine ks_n ?_
      refine ACode.ret ?_
      refine kf_ret rfl ?_ nobox
      exact leafB (by rw [hF, show i = xs.length by omega, eqF_end (by omega)])

set_option maxRecDepth 100000 in
set_option maxHeartbeats 1600000 in
theorem specNestSame_fn (ns ms : List Lp) (hs : smN ns) : Fn Try.prog 15 [] [vD (dLs ns), vD (dLs ms)] (.o (bo1 (decide (ns = ms)))) [] := by
  rw [← eqF_dec]
  have hn := hs.1
  refine Fn.code0 Try.func15 rfl rfl rfl rfl ?_
  refine ACode.seq ?_
  refine ACode.region ?_
  refine .cons (.asg rfl rfl) ?_
  refine .nil ?_
  refine ks_n ?_
  refine ACode.seq ?_
  refine ACode.seq ?_
  refine ACode.region ?_
  refine .cons (.mv rfl rfl) ?_
  refine .cons (.ln 67 2 48 rfl rfl rfl) ?_
  refine .cons (.mv rfl rfl) ?_
  refine .cons (.ln 67 2 48 rfl rfl rfl) ?_
  refine .cons (.ne rfl rfl rfl) ?_
  refine .nil ?_
  refine ks_n ?_
  refine .cND rfl (fun h10 => ?_) (fun h10 => ?_)
  · skip
    refine ACode.seq ?_
    refine ACode.region ?_
    refine .cons (.asg rfl rfl) ?_
    refine .nil ?_
    refine ks_n ?_
    refine ACode.ret ?_
    refine ks_r ?_
    refine kf_ret rfl ?_ nobox
    exact leafB (eqF_len (by omega)).symm
  · skip
    refine ACode.skip ?_
    refine ks_n ?_
    refine ACode.seq ?_
    refine ACode.seq ?_
    refine ACode.region ?_
    refine .cons (.asg rfl rfl) ?_
    refine .nil ?_
    refine ks_n ?_
    refine ACode.block ?_
    refine .loopK (fun m σ => (∃ i : Nat, m = ns.length - i ∧ (i ≤ ns.length) ∧ (eqF (fun x y => decide (x = y)) ns ms = eqF (fun x y => decide (x = y)) (ns.drop i) (ms.drop i)) ∧ σ = [(.t 0, .v (.o (vD (dLs ns)))), (.t 1, .v (.o (vD (dLs ms)))), (.t 5, .v (.o (nat1 (i : Nat))))])) [] ⟨0, rfl, by omega, by simp, rfl⟩ ⟨ks rfl .dt, ks rfl .dt, ks rfl .dt, trivial⟩ ?_
    rintro m σ ⟨i, hm0, hi, hF, rfl⟩
    refine ACode.seq ?_
    refine ACode.seq ?_
    refine ACode.region ?_
    refine .cons (.mv rfl rfl) ?_
    refine .cons (.mv rfl rfl) ?_
    refine .cons (.ln 67 2 48 rfl rfl rfl) ?_
    refine .cons (.ls rfl rfl rfl) ?_
    refine .nil ?_
    refine ks_n ?_
    refine .cD rfl (fun h14 => ?_) (fun h14 => ?_)
    · skip
      obtain ⟨x, hx1⟩ : ∃ x, ns[i]? = some x := ⟨_, List.getElem?_eq_getElem (by omega)⟩
      obtain ⟨y, hy1⟩ : ∃ x, ms[i]? = some x := ⟨_, List.getElem?_eq_getElem (by omega)⟩
      have hq := hs.2 x (List.mem_of_getElem? hx1)
      refine ACode.skip ?_
      refine ks_n ?_
      refine ACode.seq ?_
      refine ACode.block ?_
      refine ACode.seq ?_
      refine ACode.drawK (by kernel_rfl) (by kernel_rfl) ?_
      refine .cons (.mv rfl rfl) ?_
      refine .cons (.mv rfl rfl) ?_
      refine .cons (.xL 67 2 48 rfl rfl rfl rfl rfl) ?_
      refine .cons (.fP 0 0 false rfl rfl) ?_
      refine .cons (.l1 1 rfl rfl) ?_
      refine .cons (.mv rfl rfl) ?_
      refine .cons (.mv rfl rfl) ?_
      refine .cons (.xL 67 2 48 rfl rfl rfl rfl rfl) ?_
      refine .cons (.fP 0 0 false rfl rfl) ?_
      refine .cons (.l1 1 rfl rfl) ?_
      refine .cons (.cP [.tmp 21, .tmp 26] rfl rfl rfl rfl (l2SideSame_fn _ _ (Nat.le_trans hq.1 (by omega))) rfl) ?_
      refine .cons (.nt rfl rfl) ?_
      refine .cons (.mv rfl rfl) ?_
      refine RunK.cases 29 _ rfl (fun g29 => ?_) (fun g29 => ?_)
      · try simp only [List.length_map, decide_eq_true_eq, decide_eq_false_iff_not, Bool.not_eq_true', Bool.not_eq_false', Bool.not_eq_true, Bool.not_eq_false] at g29
        refine .cons (.gF rfl rfl rfl) ?_
        refine .cons (.gF rfl rfl rfl) ?_
        refine .cons (.gF rfl rfl rfl) ?_
        refine .cons (.gF rfl rfl rfl) ?_
        refine .cons (.gF rfl rfl rfl) ?_
        refine .cons (.gF rfl rfl rfl) ?_
        refine .cons (.gF rfl rfl rfl) ?_
        refine .cons (.gF rfl rfl rfl) ?_
        refine .cons (.gF rfl rfl rfl) ?_
        refine .cons (.gF rfl rfl rfl) ?_
        refine .cons (.gF rfl rfl rfl) ?_
        refine .cons (.gF rfl rfl rfl) ?_
        refine .cons (.pT rfl rfl rfl) ?_
        refine .nil ⟨by kernel_rfl, ?_⟩
        refine ks_n ?_
        refine ACode.condT rfl (fun _ => ?_) (fun h => by first | (cases h; done) | (simp [*] at h; done) | (exfalso; simp_all; done))
        refine ACode.seq ?_
        have g : decide (x = y) = false := by simp [Prod.ext_iff, *]
        refine ACode.region ?_
        refine .cons (.asg rfl rfl) ?_
        refine .nil ?_
        refine ks_n ?_
        refine ACode.ret ?_
        refine kb_r ?_
        refine ks_r ?_
        refine kl_r ?_
        refine kb_r ?_
        refine ks_r ?_
        refine kf_ret rfl ?_ nobox
        exact leafB (by rw [hF, eqF_drop hx1 hy1, g]; rfl)
      · try simp only [List.length_map, decide_eq_true_eq, decide_eq_false_iff_not, Bool.not_eq_true', Bool.not_eq_false', Bool.not_eq_true, Bool.not_eq_false] at g29
        refine .cons (.gT rfl rfl rfl (.mv rfl rfl)) ?_
        refine .cons (.gT rfl rfl rfl (.mv rfl rfl)) ?_
        refine .cons (.gT rfl rfl rfl (.xL 67 2 48 rfl rfl rfl rfl rfl)) ?_
        refine .cons (.gT rfl rfl rfl (.fP 1 0 false rfl rfl)) ?_
        refine .cons (.gT rfl rfl rfl (.l1 1 rfl rfl)) ?_
        refine .cons (.gT rfl rfl rfl (.mv rfl rfl)) ?_
        refine .cons (.gT rfl rfl rfl (.mv rfl rfl)) ?_
        refine .cons (.gT rfl rfl rfl (.xL 67 2 48 rfl rfl rfl rfl rfl)) ?_
        refine .cons (.gT rfl rfl rfl (.fP 1 0 false rfl rfl)) ?_
        refine .cons (.gT rfl rfl rfl (.l1 1 rfl rfl)) ?_
        refine .cons (.gT rfl rfl rfl (.cP [.tmp 34, .tmp 39] rfl rfl rfl rfl (l2SideSame_fn _ _ (Nat.le_trans hq.2.1 (by omega))) rfl)) ?_
        refine .cons (.gT rfl rfl rfl (.nt rfl rfl)) ?_
        refine .cons (.pF rfl rfl rfl) ?_
        refine .nil ⟨by kernel_rfl, ?_⟩
        refine ks_n ?_
        refine ACode.condT rfl (fun h42 => ?_) (fun h42 => ?_)
        · try simp only [List.length_map, decide_eq_true_eq, decide_eq_false_iff_not, Bool.not_eq_true', Bool.not_eq_false', Bool.not_eq_true, Bool.not_eq_false] at h42
          refine ACode.seq ?_
          have g : decide (x = y) = false := by simp [Prod.ext_iff, *]
          refine ACode.region ?_
          refine .cons (.asg rfl rfl) ?_
          refine .nil ?_
          refine ks_n ?_
          refine ACode.ret ?_
          refine kb_r ?_
          refine ks_r ?_
          refine kl_r ?_
          refine kb_r ?_
          refine ks_r ?_
          refine kf_ret rfl ?_ nobox
          exact leafB (by rw [hF, eqF_drop hx1 hy1, g]; rfl)
        · try simp only [List.length_map, decide_eq_true_eq, decide_eq_false_iff_not, Bool.not_eq_true', Bool.not_eq_false', Bool.not_eq_true, Bool.not_eq_false] at h42
          refine ACode.skip ?_
          refine kb_n ?_
          refine ks_n ?_
          have g : decide (x = y) = true := by simp [Prod.ext_iff, *]
          refine ACode.region ?_
          refine .cons (.mv rfl rfl) ?_
          refine .cons (.pl rfl rfl rfl) ?_
          refine .cons (.asg rfl rfl) ?_
          refine .nil ?_
          refine kl_k [] ⟨i + 1, rfl, by omega, by rw [hF, eqF_drop hx1 hy1, g, Bool.true_and], rfl⟩ ⟨ks rfl .dt, ks rfl .dt, ks rfl .dt, trivial⟩
    · skip
      refine ACode.exit ?_
      refine ks_e ?_
      refine kl_e ?_
      refine kb_hit ?_
      refine ks_n ?_
      refine ACode.seq ?_
      refine ACode.region ?_
      refine .cons (.asg rfl rfl) ?_
      refine .nil ?_
      refine ks_n ?_
      refine ACode.ret ?_
      refine kf_ret rfl ?_ nobox
      exact leafB (by rw [hF, show i = ns.length by omega, eqF_end (by omega)])

set_option maxRecDepth 100000 in
set_option maxHeartbeats 1600000 in
theorem within_fn (n lo hi : Int) : Fn Try.prog 55 [] [nat1 n, nat1 lo, nat1 hi] (.o (bo1 (inB n lo hi))) [] := by
  refine Fn.code0 Try.func55 rfl rfl rfl rfl ?_
  refine ACode.seq ?_
  refine ACode.region ?_
  refine .cons (.asg rfl rfl) ?_
  refine .nil ?_
  refine ks_n ?_
  refine ACode.seq ?_
  refine ACode.region ?_
  refine .cons (.mv rfl rfl) ?_
  refine .cons (.mv rfl rfl) ?_
  refine .cons (.le rfl rfl rfl) ?_
  refine .cons (.mv rfl rfl) ?_
  refine .cD 10 rfl (fun g10 => ?_) (fun g10 => ?_)
  · skip
    refine .cons (.gT rfl rfl rfl (.mv rfl rfl)) ?_
    refine .cons (.gT rfl rfl rfl (.mv rfl rfl)) ?_
    refine .cons (.gT rfl rfl rfl (.le rfl rfl rfl)) ?_
    refine .cons (.pT rfl rfl rfl) ?_
    refine .cons (.asg rfl rfl) ?_
    refine .nil ?_
    refine ks_n ?_
    refine ACode.ret ?_
    refine kf_ret rfl ?_ nobox
    exact leafB (by rw [inB]; simp [*])
  · skip
    refine .cons (.gF rfl rfl rfl) ?_
    refine .cons (.gF rfl rfl rfl) ?_
    refine .cons (.gF rfl rfl rfl) ?_
    refine .cons (.pF rfl rfl rfl) ?_
    refine .cons (.asg rfl rfl) ?_
    refine .nil ?_
    refine ks_n ?_
    refine ACode.ret ?_
    refine kf_ret rfl ?_ nobox
    exact leafB (by rw [inB]; simp [*])

set_option maxRecDepth 100000 in
set_option maxHeartbeats 1600000 in
theorem bnd1_fn (d : Nat) (x : Aff) : Fn Try.prog 97 [] [ad (rA x), .c (.ptr [dI (d : Nat)])] (.o (bo1 (!bndV d x))) [] := by
  refine Fn.code0 Try.func97 rfl rfl rfl rfl ?_
  refine ACode.seq ?_
  refine ACode.region ?_
  refine .cons (St1.boxP rfl rfl rfl rfl rfl rfl) ?_
  refine .cons (.asg rfl rfl) ?_
  refine .nil ?_
  refine ks_n ?_
  refine ACode.seq ?_
  refine ACode.drawK (by kernel_rfl) (by kernel_rfl) ?_
  refine .cons (.lN 2 rfl rfl rfl) ?_
  refine .cons (.cP [.tmp 4] rfl rfl rfl rfl (implAffV_fn x) rfl) ?_
  refine .cons (.nt rfl rfl) ?_
  refine .cons (.mv rfl rfl) ?_
  refine RunK.cases 7 _ rfl (fun g7 => ?_) (fun g7 => ?_)
  · try simp only [List.length_map, decide_eq_true_eq, decide_eq_false_iff_not, Bool.not_eq_true', Bool.not_eq_false', Bool.not_eq_true, Bool.not_eq_false] at g7
    refine .cons (.gF rfl rfl rfl) ?_
    refine .cons (.gF rfl rfl rfl) ?_
    refine .cons (.gF rfl rfl rfl) ?_
    refine .cons (.gF rfl rfl rfl) ?_
    refine .cons (.pT rfl rfl rfl) ?_
    refine .cons (.asg rfl rfl) ?_
    refine .nil ⟨by kernel_rfl, ?_⟩
    refine ks_n ?_
    refine ACode.ret ?_
    refine kf_ret rfl ?_ nobox
    first | exact leafB (by rw [bnd_no (.inl g7)]; rfl) | exact leafB (by rw [bndV, g7, Bool.true_and, Bool.eq_iff_iff]; simp)
  · try simp only [List.length_map, decide_eq_true_eq, decide_eq_false_iff_not, Bool.not_eq_true', Bool.not_eq_false', Bool.not_eq_true, Bool.not_eq_false] at g7
    refine .cons (.gT rfl rfl rfl (.lN 2 rfl rfl rfl)) ?_
    refine .cons (.gT rfl rfl rfl (.cP [.tmp 8] rfl rfl rfl rfl (depth_fn x) rfl)) ?_
    refine .cons (.gT rfl rfl rfl (.l1 1 rfl rfl)) ?_
    refine .cons (.gT rfl rfl rfl (.gt rfl rfl rfl)) ?_
    refine .cons (.pF rfl rfl rfl) ?_
    refine .cons (.asg rfl rfl) ?_
    refine .nil ⟨by kernel_rfl, ?_⟩
    refine ks_n ?_
    refine ACode.ret ?_
    refine kf_ret rfl ?_ nobox
    first | exact leafB (by rw [bnd_no (.inl g7)]; rfl) | exact leafB (by rw [bndV, g7, Bool.true_and, Bool.eq_iff_iff]; simp)

set_option maxRecDepth 100000 in
set_option maxHeartbeats 1600000 in
theorem boundsOk_fn (d : Nat) (xs : List Aff) (hx : xs.length ≤ 1099511627776) : Fn Try.prog 60 [] [vD (dAs xs), nat1 (d : Nat)] (.o (bo1 (sideV d xs))) [] := by
  refine Fn.code0 Try.func60 rfl rfl rfl rfl ?_
  refine ACode.seq ?_
  refine ACode.region ?_
  refine .cons (St1.boxP rfl rfl rfl rfl rfl rfl) ?_
  refine .cons (.asg rfl rfl) ?_
  refine .nil ?_
  refine ks_n ?_
  refine ACode.seq ?_
  refine ACode.region ?_
  refine .cons (.mv rfl rfl) ?_
  refine .cons (.ln 51 2 32 rfl rfl rfl) ?_
  refine .cons (.cP [.tmp 6, .const (.int .i64 (1)), .const (.int .i64 (2))] rfl rfl rfl rfl (within_fn _ 1 2) rfl) ?_
  refine .cons (.mv rfl rfl) ?_
  refine AOps.cases 8 _ rfl (fun g8 => ?_) (fun g8 => ?_)
  · try simp only [List.length_map, decide_eq_true_eq, decide_eq_false_iff_not, Bool.not_eq_true', Bool.not_eq_false', Bool.not_eq_true, Bool.not_eq_false] at g8
    refine .cons (.gT rfl rfl rfl (.mv rfl rfl)) ?_
    refine .cons (.gT rfl rfl rfl (St1.makeFunc (xs := [.tmp 3]) rfl rfl rfl rfl rfl rfl rfl)) ?_
    refine .cons (.gT rfl rfl rfl (.cP [.tmp 9, .tmp 10] rfl rfl rfl rfl (cnt_aff (f := 97) (cap := [[dI (d : Nat)]]) (by kernel_rfl) (fun x => !bndV d x) xs hx (fun x _ => bnd1_fn d x)) rfl)) ?_
    refine .cons (.gT rfl rfl rfl (.nt rfl rfl)) ?_
    refine .cons (.pT rfl rfl rfl) ?_
    refine .cons (.asg rfl rfl) ?_
    refine .nil ?_
    refine ks_n ?_
    refine ACode.ret ?_
    refine kf_ret rfl ?_ nobox
    simp only [inB, decide_eq_true_eq, decide_eq_false_iff_not] at g8
    first | exact leafB (by rw [nany, sideV, decide_eq_true (show 1 ≤ xs.length by omega), decide_eq_true (show xs.length ≤ 2 by omega)]; simp) | exact leafB (by rw [sideV]; symm; simp; omega)
  · try simp only [List.length_map, decide_eq_true_eq, decide_eq_false_iff_not, Bool.not_eq_true', Bool.not_eq_false', Bool.not_eq_true, Bool.not_eq_false] at g8
    refine .cons (.gF rfl rfl rfl) ?_
    refine .cons (.gF rfl rfl rfl) ?_
    refine .cons (.gF rfl rfl rfl) ?_
    refine .cons (.gF rfl rfl rfl) ?_
    refine .cons (.pF rfl rfl rfl) ?_
    refine .cons (.asg rfl rfl) ?_
    refine .nil ?_
    refine ks_n ?_
    refine ACode.ret ?_
    refine kf_ret rfl ?_ nobox
    simp only [inB, decide_eq_true_eq, decide_eq_false_iff_not] at g8
    first | exact leafB (by rw [nany, sideV, decide_eq_true (show 1 ≤ xs.length by omega), decide_eq_true (show xs.length ≤ 2 by omega)]; simp) | exact leafB (by rw [sideV]; symm; simp; omega)

set_option maxRecDepth 100000 in
set_option maxHeartbeats 1600000 in
theorem l2Side_fn (d : Nat) (xs : List Aff) (hx : xs.length ≤ 1099511627776) : Fn Try.prog 100 [] [vD (dAs xs), nat1 (d : Nat)] (.o (bo1 (sideV d xs))) [] := by
  refine Fn.code0 Try.func100 rfl rfl rfl rfl ?_
  refine ACode.seq ?_
  refine ACode.region ?_
  refine .cons (.asg rfl rfl) ?_
  refine .nil ?_
  refine ks_n ?_
  refine ACode.seq ?_
  refine ACode.seq ?_
  refine ACode.region ?_
  refine .cons (.asg rfl rfl) ?_
  refine .nil ?_
  refine ks_n ?_
  refine ACode.block ?_
  refine .loopK (fun m σ => (∃ i : Nat, m = xs.length - i ∧ (i ≤ xs.length) ∧ (xs.all (bndV d) = (xs.drop i).all (bndV d)) ∧ σ = [(.t 0, .v (.o (vD (dAs xs)))), (.t 1, .v (.o (nat1 (d : Nat)))), (.t 5, .v (.o (nat1 (i : Nat))))])) [] ⟨0, rfl, by omega, by simp, rfl⟩ ⟨ks rfl .dt, ks rfl .dt, ks rfl .dt, trivial⟩ ?_
  rintro m σ ⟨i, hm0, hi, hF, rfl⟩
  refine ACode.seq ?_
  refine ACode.seq ?_
  refine ACode.region ?_
  refine .cons (.mv rfl rfl) ?_
  refine .cons (.mv rfl rfl) ?_
  refine .cons (.ln 51 2 32 rfl rfl rfl) ?_
  refine .cons (.ls rfl rfl rfl) ?_
  refine .nil ?_
  refine ks_n ?_
  refine .cD rfl (fun h9 => ?_) (fun h9 => ?_)
  · skip
    obtain ⟨x, hx1⟩ : ∃ x, xs[i]? = some x := ⟨_, List.getElem?_eq_getElem (by omega)⟩
    refine ACode.skip ?_
    refine ks_n ?_
    refine ACode.seq ?_
    refine ACode.block ?_
    refine ACode.seq ?_
    refine ACode.region ?_
    refine .cons (.mv rfl rfl) ?_
    refine .cons (.mv rfl rfl) ?_
    refine .cons (.xL 51 2 32 rfl rfl rfl rfl rfl) ?_
    refine .cons (.lN 2 rfl rfl rfl) ?_
    refine .cons (.cP [.tmp 15] rfl rfl rfl rfl (specAffV_fn x) rfl) ?_
    refine .cons (.nt rfl rfl) ?_
    refine .cons (.mv rfl rfl) ?_
    refine AOps.cases 18 _ rfl (fun g18 => ?_) (fun g18 => ?_)
    · try simp only [List.length_map, decide_eq_true_eq, decide_eq_false_iff_not, Bool.not_eq_true', Bool.not_eq_false', Bool.not_eq_true, Bool.not_eq_false] at g18
      refine .cons (.gF rfl rfl rfl) ?_
      refine .cons (.gF rfl rfl rfl) ?_
      refine .cons (.gF rfl rfl rfl) ?_
      refine .cons (.gF rfl rfl rfl) ?_
      refine .cons (.gF rfl rfl rfl) ?_
      refine .cons (.gF rfl rfl rfl) ?_
      refine .cons (.gF rfl rfl rfl) ?_
      refine .cons (.pT rfl rfl rfl) ?_
      refine .nil ?_
      refine ks_n ?_
      refine ACode.condT rfl (fun _ => ?_) (fun h => by first | (cases h; done) | (simp [*] at h; done) | (exfalso; simp_all; done))
      refine ACode.seq ?_
      have g : bndV d x = false := bnd_no (by first | exact .inl (by assumption) | exact .inr (by omega))
      refine ACode.region ?_
      refine .cons (.asg rfl rfl) ?_
      refine .nil ?_
      refine ks_n ?_
      refine ACode.ret ?_
      refine kb_r ?_
      refine ks_r ?_
      refine kl_r ?_
      refine kb_r ?_
      refine ks_r ?_
      refine kf_ret rfl ?_ nobox
      exact leafB (by rw [sideV, hF, all_drop hx1, g]; rfl)
    · try simp only [List.length_map, decide_eq_true_eq, decide_eq_false_iff_not, Bool.not_eq_true', Bool.not_eq_false', Bool.not_eq_true, Bool.not_eq_false] at g18
      refine .cons (.gT rfl rfl rfl (.mv rfl rfl)) ?_
      refine .cons (.gT rfl rfl rfl (.mv rfl rfl)) ?_
      refine .cons (.gT rfl rfl rfl (.xL 51 2 32 rfl rfl rfl rfl rfl)) ?_
      refine .cons (.gT rfl rfl rfl (.lN 2 rfl rfl rfl)) ?_
      refine .cons (.gT rfl rfl rfl (.cP [.tmp 22] rfl rfl rfl rfl (l1Depth_fn x) rfl)) ?_
      refine .cons (.gT rfl rfl rfl (.mv rfl rfl)) ?_
      refine .cons (.gT rfl rfl rfl (.gt rfl rfl rfl)) ?_
      refine .cons (.pF rfl rfl rfl) ?_
      refine .nil ?_
      refine ks_n ?_
      refine ACode.condT rfl (fun h26 => ?_) (fun h26 => ?_)
      · try simp only [List.length_map, decide_eq_true_eq, decide_eq_false_iff_not, Bool.not_eq_true', Bool.not_eq_false', Bool.not_eq_true, Bool.not_eq_false] at h26
        refine ACode.seq ?_
        have g : bndV d x = false := bnd_no (by first | exact .inl (by assumption) | exact .inr (by omega))
        refine ACode.region ?_
        refine .cons (.asg rfl rfl) ?_
        refine .nil ?_
        refine ks_n ?_
        refine ACode.ret ?_
        refine kb_r ?_
        refine ks_r ?_
        refine kl_r ?_
        refine kb_r ?_
        refine ks_r ?_
        refine kf_ret rfl ?_ nobox
        exact leafB (by rw [sideV, hF, all_drop hx1, g]; rfl)
      · try simp only [List.length_map, decide_eq_true_eq, decide_eq_false_iff_not, Bool.not_eq_true', Bool.not_eq_false', Bool.not_eq_true, Bool.not_eq_false] at h26
        replace h26 : ¬ d < affDepth x := by omega
        refine ACode.skip ?_
        refine kb_n ?_
        refine ks_n ?_
        refine ACode.region ?_
        refine .cons (.mv rfl rfl) ?_
        refine .cons (.pl rfl rfl rfl) ?_
        refine .cons (.asg rfl rfl) ?_
        refine .nil ?_
        refine kl_k [] ⟨i + 1, rfl, by omega, by rw [hF, all_drop hx1, bnd_yes g18 h26, Bool.true_and], rfl⟩ ⟨ks rfl .dt, ks rfl .dt, ks rfl .dt, trivial⟩
  · skip
    have hA : xs.all (bndV d) = true := by rw [hF, List.drop_of_length_le (by omega)]; rfl
    refine ACode.exit ?_
    refine ks_e ?_
    refine kl_e ?_
    refine kb_hit ?_
    refine ks_n ?_
    refine ACode.seq ?_
    refine ACode.region ?_
    refine .cons (.mv rfl rfl) ?_
    refine .cons (.ln 51 2 32 rfl rfl rfl) ?_
    refine .cons (.ge rfl rfl rfl) ?_
    refine .cons (.mv rfl rfl) ?_
    refine .cD 30 rfl (fun g30 => ?_) (fun g30 => ?_)
    · skip
      refine .cons (.gT rfl rfl rfl (.mv rfl rfl)) ?_
      refine .cons (.gT rfl rfl rfl (.ln 51 2 32 rfl rfl rfl)) ?_
      refine .cons (.gT rfl rfl rfl (.le rfl rfl rfl)) ?_
      refine .cons (.pT rfl rfl rfl) ?_
      refine .cons (.asg rfl rfl) ?_
      refine .nil ?_
      refine ks_n ?_
      refine ACode.ret ?_
      refine kf_ret rfl ?_ nobox
      exact leafB (side_len hA (by first | (rw [decide_eq_false (show ¬ 1 ≤ xs.length by omega)]; rfl) | (rw [decide_eq_true (show 1 ≤ xs.length by omega), Bool.true_and, Bool.eq_iff_iff]; simp; omega)))
    · skip
      refine .cons (.gF rfl rfl rfl) ?_
      refine .cons (.gF rfl rfl rfl) ?_
      refine .cons (.gF rfl rfl rfl) ?_
      refine .cons (.pF rfl rfl rfl) ?_
      refine .cons (.asg rfl rfl) ?_
      refine .nil ?_
      refine ks_n ?_
      refine ACode.ret ?_
      refine kf_ret rfl ?_ nobox
      exact leafB (side_len hA (by first | (rw [decide_eq_false (show ¬ 1 ≤ xs.length by omega)]; rfl) | (rw [decide_eq_true (show 1 ≤ xs.length by omega), Bool.true_and, Bool.eq_iff_iff]; simp; omega)))

set_option maxRecDepth 100000 in
set_option maxHeartbeats 1600000 in
theorem implNestV_fn (ns : List Lp) (hs : smN ns) : Fn Try.prog 20 [] [vD (dLs ns)] (.o (bo1 (nsV ns))) [] := by
  have hn := hs.1
  refine Fn.code0 Try.func20 rfl rfl rfl rfl ?_
  refine ACode.seq ?_
  refine ACode.region ?_
  refine .cons (.asg rfl rfl) ?_
  refine .nil ?_
  refine ks_n ?_
  refine ACode.seq ?_
  refine ACode.seq ?_
  refine ACode.region ?_
  refine .cons (.mv rfl rfl) ?_
  refine .cons (.ln 67 2 48 rfl rfl rfl) ?_
  refine .cons (.mv rfl rfl) ?_
  refine .nil ?_
  refine ks_n ?_
  refine ACode.block ?_
  refine .loopK (fun m σ => (∃ i : Nat, m = ns.length - i ∧ (i ≤ ns.length) ∧ (nestG 0 ns = nestG i (ns.drop i)) ∧ σ = [(.t 0, .v (.o (vD (dLs ns)))), (.t 5, .v (.o (vD (dLs ns)))), (.t 6, .v (.o (nat1 (ns.length : Nat)))), (.t 7, .v (.o (nat1 (i : Nat))))])) [] ⟨0, rfl, by omega, by simp, rfl⟩ ⟨ks rfl .dt, ks rfl .dt, ks rfl .dt, ks rfl .dt, trivial⟩ ?_
  rintro m σ ⟨i, hm0, hi, hF, rfl⟩
  refine ACode.seq ?_
  refine ACode.region ?_
  refine .cons (.ls rfl rfl rfl) ?_
  refine .nil ?_
  refine ks_n ?_
  refine ACode.seq ?_
  refine .cD rfl (fun h8 => ?_) (fun h8 => ?_)
  · skip
    obtain ⟨x, hx1⟩ : ∃ x, ns[i]? = some x := ⟨_, List.getElem?_eq_getElem (by omega)⟩
    have hq := hs.2 x (List.mem_of_getElem? hx1)
    refine ACode.skip ?_
    refine ks_n ?_
    refine ACode.seq ?_
    refine ACode.block ?_
    refine ACode.seq ?_
    refine ACode.region ?_
    refine .cons (.mv rfl rfl) ?_
    refine .cons (.xL 67 2 48 rfl rfl rfl rfl rfl) ?_
    refine .cons (.lN 2 rfl rfl rfl) ?_
    refine .cons (.al 104 [.slice none 0 0, .slice none 0 0] rfl rfl rfl) ?_
    refine .cons (.asg rfl rfl) ?_
    refine .cons (.sT 2 true rfl rfl rfl rfl rfl rfl rfl) ?_
    refine .nil ?_
    refine ks_n ?_
    refine ACode.seq ?_
    refine ACode.region ?_
    refine .cons (.fB 0 0 false rfl rfl rfl) ?_
    refine .cons (.b1 1 rfl rfl rfl rfl rfl rfl) ?_
    refine .cons (.mv rfl rfl) ?_
    refine .cons (.cP [.tmp 13, .tmp 14] rfl rfl rfl rfl (boundsOk_fn i _ (Nat.le_trans hq.1 (by omega))) rfl) ?_
    refine .cons (.nt rfl rfl) ?_
    refine .cons (.mv rfl rfl) ?_
    refine AOps.cases 17 _ rfl (fun g17 => ?_) (fun g17 => ?_)
    · try simp only [List.length_map, decide_eq_true_eq, decide_eq_false_iff_not, Bool.not_eq_true', Bool.not_eq_false', Bool.not_eq_true, Bool.not_eq_false] at g17
      refine .cons (.gF rfl rfl rfl) ?_
      refine .cons (.gF rfl rfl rfl) ?_
      refine .cons (.gF rfl rfl rfl) ?_
      refine .cons (.gF rfl rfl rfl) ?_
      refine .cons (.gF rfl rfl rfl) ?_
      refine .cons (.pT rfl rfl rfl) ?_
      refine .nil ?_
      refine ks_n ?_
      refine ACode.condT rfl (fun _ => ?_) (fun h => by first | (cases h; done) | (simp [*] at h; done) | (exfalso; simp_all; done))
      refine ACode.seq ?_
      have g : (sideV i x.1 && sideV i x.2) = false := by simp [*]
      refine ACode.region ?_
      refine .cons (.asg rfl rfl) ?_
      refine .nil ?_
      refine ks_n ?_
      refine ACode.ret ?_
      refine kb_r ?_
      refine ks_r ?_
      refine kl_r ?_
      refine kb_r ?_
      refine ks_r ?_
      refine kf_ret rfl ?_ nobox
      exact leafB (by rw [nsV, hF, nestG_drop hx1, g]; simp)
    · try simp only [List.length_map, decide_eq_true_eq, decide_eq_false_iff_not, Bool.not_eq_true', Bool.not_eq_false', Bool.not_eq_true, Bool.not_eq_false] at g17
      refine .cons (.gT rfl rfl rfl (.fB 1 0 false rfl rfl rfl)) ?_
      refine .cons (.gT rfl rfl rfl (.b1 1 rfl rfl rfl rfl rfl rfl)) ?_
      refine .cons (.gT rfl rfl rfl (.mv rfl rfl)) ?_
      refine .cons (.gT rfl rfl rfl (.cP [.tmp 19, .tmp 20] rfl rfl rfl rfl (boundsOk_fn i _ (Nat.le_trans hq.2.1 (by omega))) rfl)) ?_
      refine .cons (.gT rfl rfl rfl (.nt rfl rfl)) ?_
      refine .cons (.pF rfl rfl rfl) ?_
      refine .nil ?_
      refine ks_n ?_
      refine ACode.condT rfl (fun h23 => ?_) (fun h23 => ?_)
      · try simp only [List.length_map, decide_eq_true_eq, decide_eq_false_iff_not, Bool.not_eq_true', Bool.not_eq_false', Bool.not_eq_true, Bool.not_eq_false] at h23
        refine ACode.seq ?_
        have g : (sideV i x.1 && sideV i x.2) = false := by simp [*]
        refine ACode.region ?_
        refine .cons (.asg rfl rfl) ?_
        refine .nil ?_
        refine ks_n ?_
        refine ACode.ret ?_
        refine kb_r ?_
        refine ks_r ?_
        refine kl_r ?_
        refine kb_r ?_
        refine ks_r ?_
        refine kf_ret rfl ?_ nobox
        exact leafB (by rw [nsV, hF, nestG_drop hx1, g]; simp)
      · try simp only [List.length_map, decide_eq_true_eq, decide_eq_false_iff_not, Bool.not_eq_true', Bool.not_eq_false', Bool.not_eq_true, Bool.not_eq_false] at h23
        refine ACode.skip ?_
        refine kb_n ?_
        refine ks_n ?_
        have g : (sideV i x.1 && sideV i x.2) = true := by simp [*]
        refine ACode.region ?_
        refine .cons (.pl rfl rfl rfl) ?_
        refine .cons (.mv rfl rfl) ?_
        refine .nil ?_
        refine kl_k [] ⟨i + 1, rfl, by omega, by rw [hF, nestG_drop hx1, g, Bool.true_and], rfl⟩ ⟨ks rfl .dt, ks rfl .dt, ks rfl .dt, ks rfl .dt, trivial⟩
  · skip
    refine ACode.exit ?_
    refine ks_e ?_
    refine kl_e ?_
    refine kb_hit ?_
    refine ks_n ?_
    refine ACode.seq ?_
    refine ACode.region ?_
    refine .cons (.mv rfl rfl) ?_
    refine .cons (.ln 67 2 48 rfl rfl rfl) ?_
    refine .cons (.le rfl rfl rfl) ?_
    refine .cons (.asg rfl rfl) ?_
    refine .nil ?_
    refine ks_n ?_
    refine ACode.ret ?_
    refine kf_ret rfl ?_ nobox
    exact leafB (by rw [nsV, hF, List.drop_of_length_le (by omega), nestG, Bool.and_true, Bool.eq_iff_iff]; simp; omega)

set_option maxRecDepth 100000 in
set_option maxHeartbeats 1600000 in
theorem specNestV_fn (ns : List Lp) (hs : smN ns) : Fn Try.prog 66 [] [vD (dLs ns)] (.o (bo1 (nsV ns))) [] := by
  have hn := hs.1
  refine Fn.code0 Try.func66 rfl rfl rfl rfl ?_
  refine ACode.seq ?_
  refine ACode.region ?_
  refine .cons (.asg rfl rfl) ?_
  refine .nil ?_
  refine ks_n ?_
  refine ACode.seq ?_
  refine ACode.seq ?_
  refine ACode.region ?_
  refine .cons (.asg rfl rfl) ?_
  refine .nil ?_
  refine ks_n ?_
  refine ACode.block ?_
  refine .loopK (fun m σ => (∃ i : Nat, m = ns.length - i ∧ (i ≤ ns.length) ∧ (nestG 0 ns = nestG i (ns.drop i)) ∧ σ = [(.t 0, .v (.o (vD (dLs ns)))), (.t 3, .v (.o (nat1 (i : Nat))))])) [] ⟨0, rfl, by omega, by simp, rfl⟩ ⟨ks rfl .dt, ks rfl .dt, trivial⟩ ?_
  rintro m σ ⟨i, hm0, hi, hF, rfl⟩
  refine ACode.seq ?_
  refine ACode.seq ?_
  refine ACode.region ?_
  refine .cons (.mv rfl rfl) ?_
  refine .cons (.mv rfl rfl) ?_
  refine .cons (.ln 67 2 48 rfl rfl rfl) ?_
  refine .cons (.ls rfl rfl rfl) ?_
  refine .cons (.mv rfl rfl) ?_
  refine .cD 8 rfl (fun g8 => ?_) (fun g8 => ?_)
  · skip
    refine .cons (.gT rfl rfl rfl (.mv rfl rfl)) ?_
    refine .cons (.gT rfl rfl rfl (.ln 67 2 48 rfl rfl rfl)) ?_
    refine .cons (.gT rfl rfl rfl (.le rfl rfl rfl)) ?_
    refine .cons (.pT rfl rfl rfl) ?_
    refine .nil ?_
    refine ks_n ?_
    refine ACode.condT rfl (fun h12 => ?_) (fun h12 => ?_)
    · try simp only [List.length_map, decide_eq_true_eq, decide_eq_false_iff_not, Bool.not_eq_true', Bool.not_eq_false', Bool.not_eq_true, Bool.not_eq_false] at h12
      obtain ⟨x, hx1⟩ : ∃ x, ns[i]? = some x := ⟨_, List.getElem?_eq_getElem (by omega)⟩
      have hq := hs.2 x (List.mem_of_getElem? hx1)
      refine ACode.skip ?_
      refine ks_n ?_
      refine ACode.seq ?_
      refine ACode.block ?_
      refine ACode.seq ?_
      refine ACode.region ?_
      refine .cons (.mv rfl rfl) ?_
      refine .cons (.mv rfl rfl) ?_
      refine .cons (.xL 67 2 48 rfl rfl rfl rfl rfl) ?_
      refine .cons (.fP 0 0 false rfl rfl) ?_
      refine .cons (.l1 1 rfl rfl) ?_
      refine .cons (.mv rfl rfl) ?_
      refine .cons (.cP [.tmp 19, .tmp 20] rfl rfl rfl rfl (l2Side_fn i _ (Nat.le_trans hq.1 (by omega))) rfl) ?_
      refine .cons (.nt rfl rfl) ?_
      refine .cons (.mv rfl rfl) ?_
      refine AOps.cases 23 _ rfl (fun g23 => ?_) (fun g23 => ?_)
      · try simp only [List.length_map, decide_eq_true_eq, decide_eq_false_iff_not, Bool.not_eq_true', Bool.not_eq_false', Bool.not_eq_true, Bool.not_eq_false] at g23
        refine .cons (.gF rfl rfl rfl) ?_
        refine .cons (.gF rfl rfl rfl) ?_
        refine .cons (.gF rfl rfl rfl) ?_
        refine .cons (.gF rfl rfl rfl) ?_
        refine .cons (.gF rfl rfl rfl) ?_
        refine .cons (.gF rfl rfl rfl) ?_
        refine .cons (.gF rfl rfl rfl) ?_
        refine .cons (.gF rfl rfl rfl) ?_
        refine .cons (.pT rfl rfl rfl) ?_
        refine .nil ?_
        refine ks_n ?_
        refine ACode.condT rfl (fun _ => ?_) (fun h => by first | (cases h; done) | (simp [*] at h; done) | (exfalso; simp_all; done))
        refine ACode.seq ?_
        have g : (sideV i x.1 && sideV i x.2) = false := by simp [*]
        refine ACode.region ?_
        refine .cons (.asg rfl rfl) ?_
        refine .nil ?_
        refine ks_n ?_
        refine ACode.ret ?_
        refine kb_r ?_
        refine ks_r ?_
        refine kl_r ?_
        refine kb_r ?_
        refine ks_r ?_
        refine kf_ret rfl ?_ nobox
        exact leafB (by rw [nsV, hF, nestG_drop hx1, g]; simp)
      · try simp only [List.length_map, decide_eq_true_eq, decide_eq_false_iff_not, Bool.not_eq_true', Bool.not_eq_false', Bool.not_eq_true, Bool.not_eq_false] at g23
        refine .cons (.gT rfl rfl rfl (.mv rfl rfl)) ?_
        refine .cons (.gT rfl rfl rfl (.mv rfl rfl)) ?_
        refine .cons (.gT rfl rfl rfl (.xL 67 2 48 rfl rfl rfl rfl rfl)) ?_
        refine .cons (.gT rfl rfl rfl (.fP 1 0 false rfl rfl)) ?_
        refine .cons (.gT rfl rfl rfl (.l1 1 rfl rfl)) ?_
        refine .cons (.gT rfl rfl rfl (.mv rfl rfl)) ?_
        refine .cons (.gT rfl rfl rfl (.cP [.tmp 28, .tmp 29] rfl rfl rfl rfl (l2Side_fn i _ (Nat.le_trans hq.2.1 (by omega))) rfl)) ?_
        refine .cons (.gT rfl rfl rfl (.nt rfl rfl)) ?_
        refine .cons (.pF rfl rfl rfl) ?_
        refine .nil ?_
        refine ks_n ?_
        refine ACode.condT rfl (fun h32 => ?_) (fun h32 => ?_)
        · try simp only [List.length_map, decide_eq_true_eq, decide_eq_false_iff_not, Bool.not_eq_true', Bool.not_eq_false', Bool.not_eq_true, Bool.not_eq_false] at h32
          refine ACode.seq ?_
          have g : (sideV i x.1 && sideV i x.2) = false := by simp [*]
          refine ACode.region ?_
          refine .cons (.asg rfl rfl) ?_
          refine .nil ?_
          refine ks_n ?_
          refine ACode.ret ?_
          refine kb_r ?_
          refine ks_r ?_
          refine kl_r ?_
          refine kb_r ?_
          refine ks_r ?_
          refine kf_ret rfl ?_ nobox
          exact leafB (by rw [nsV, hF, nestG_drop hx1, g]; simp)
        · try simp only [List.length_map, decide_eq_true_eq, decide_eq_false_iff_not, Bool.not_eq_true', Bool.not_eq_false', Bool.not_eq_true, Bool.not_eq_false] at h32
          refine ACode.skip ?_
          refine kb_n ?_
          refine ks_n ?_
          have g : (sideV i x.1 && sideV i x.2) = true := by simp [*]
          refine ACode.region ?_
          refine .cons (.mv rfl rfl) ?_
          refine .cons (.pl rfl rfl rfl) ?_
          refine .cons (.asg rfl rfl) ?_
          refine .nil ?_
          refine kl_k [] ⟨i + 1, rfl, by omega, by rw [hF, nestG_drop hx1, g, Bool.true_and], rfl⟩ ⟨ks rfl .dt, ks rfl .dt, trivial⟩
    · try simp only [List.length_map, decide_eq_true_eq, decide_eq_false_iff_not, Bool.not_eq_true', Bool.not_eq_false', Bool.not_eq_true, Bool.not_eq_false] at h12
      refine ACode.exit ?_
      refine ks_e ?_
      refine kl_e ?_
      refine kb_hit ?_
      refine ks_n ?_
      refine ACode.seq ?_
      refine ACode.region ?_
      refine .cons (.mv rfl rfl) ?_
      refine .cons (.ln 67 2 48 rfl rfl rfl) ?_
      refine .cons (.le rfl rfl rfl) ?_
      refine .cons (.asg rfl rfl) ?_
      refine .nil ?_
      refine ks_n ?_
      refine ACode.ret ?_
      refine kf_ret rfl ?_ nobox
      first | exact leafB (by rw [nsV, hF, List.drop_of_length_le (by omega), nestG, Bool.and_true, Bool.eq_iff_iff]; simp; omega) | exact leafB (by rw [nsV, decide_eq_false (show ¬ ns.length ≤ 4 by omega)]; simp; omega)
  · skip
    refine .cons (.gF rfl rfl rfl) ?_
    refine .cons (.gF rfl rfl rfl) ?_
    refine .cons (.gF rfl rfl rfl) ?_
    refine .cons (.pF rfl rfl rfl) ?_
    refine .nil ?_
    refine ks_n ?_
    refine ACode.condT rfl (fun h => by first | (cases h; done) | (simp [*] at h; done) | (exfalso; simp_all; done)) (fun _ => ?_)
    refine ACode.exit ?_
    refine ks_e ?_
    refine kl_e ?_
    refine kb_hit ?_
    refine ks_n ?_
    refine ACode.seq ?_
    refine ACode.region ?_
    refine .cons (.mv rfl rfl) ?_
    refine .cons (.ln 67 2 48 rfl rfl rfl) ?_
    refine .cons (.le rfl rfl rfl) ?_
    refine .cons (.asg rfl rfl) ?_
    refine .nil ?_
    refine ks_n ?_
    refine ACode.ret ?_
    refine kf_ret rfl ?_ nobox
    first | exact leafB (by rw [nsV, hF, List.drop_of_length_le (by omega), nestG, Bool.and_true, Bool.eq_iff_iff]; simp; omega) | exact leafB (by rw [nsV, decide_eq_false (show ¬ ns.length ≤ 4 by omega)]; simp; omega)

end Go.Proofs.Ytgcpdpbapgkdjaa

/- Ranges of loops and points of nests as functions of lists; condition: none. -/
namespace Go.Proofs.Ytgcpdpbapgkdjaa
set_option linter.unusedVariables false
set_option linter.unusedSimpArgs false
open Go.RowKit

def mxF (p : List Int) (m : Int) : List Aff → Int
  | [] => m
  | x :: l => mxF p (max m (affEval x p)) l
def mnF (p : List Int) (m : Int) : List Aff → Int
  | [] => m
  | x :: l => mnF p (min m (affEval x p)) l
def loF (p : List Int) : List Aff → Int
  | [] => 0
  | x :: l => mxF p (affEval x p) l
def hiF (p : List Int) : List Aff → Int
  | [] => 0
  | x :: l => mnF p (affEval x p) l
section
variable {p : List Int} {m : Int} {l : List Aff} {i : Nat} {x : Aff}
theorem mxF_drop (h : l[i]? = some x) : mxF p m (l.drop i) = mxF p (max m (affEval x p)) (l.drop (i + 1)) := by rw [drop_at h]; rfl
theorem mnF_drop (h : l[i]? = some x) : mnF p m (l.drop i) = mnF p (min m (affEval x p)) (l.drop (i + 1)) := by rw [drop_at h]; rfl
theorem loF_one (h : l[0]? = some x) : loF p l = mxF p (affEval x p) (l.drop 1) := by
  have := drop_at h
  rw [List.drop_zero] at this
  rw [this]; rfl
theorem hiF_one (h : l[0]? = some x) : hiF p l = mnF p (affEval x p) (l.drop 1) := by
  have := drop_at h
  rw [List.drop_zero] at this
  rw [this]; rfl
theorem loF_zero (h : l[0]? = some x) : loF p l = mxF p (affEval x p) (l.drop 0) := by
  rw [loF_one h, mxF_drop h, show max (affEval x p) (affEval x p) = affEval x p by omega]
theorem hiF_zero (h : l[0]? = some x) : hiF p l = mnF p (affEval x p) (l.drop 0) := by
  rw [hiF_one h, mnF_drop h, show min (affEval x p) (affEval x p) = affEval x p by omega]
theorem mxF_end (h : l.length ≤ i) : mxF p m (l.drop i) = m := by rw [List.drop_of_length_le h]; rfl
theorem mnF_end (h : l.length ≤ i) : mnF p m (l.drop i) = m := by rw [List.drop_of_length_le h]; rfl
theorem mx_le {a b : Int} (h : ¬ a < b) : max a b = a := by omega
theorem mx_lt {a b : Int} (h : a < b) : max a b = b := by omega
theorem mn_le {a b : Int} (h : ¬ b < a) : min a b = a := by omega
theorem mn_lt {a b : Int} (h : b < a) : min a b = b := by omega
end
/-- A loop whose range may be taken at a point. -/
structure okR (l : Lp) (p : List Int) : Prop where
  n1 : l.1 ≠ []
  n2 : l.2 ≠ []
  v1 : ∀ a ∈ l.1, affV a = true
  v2 : ∀ a ∈ l.2, affV a = true
  b1 : l.1.length ≤ 2
  b2 : l.2.length ≤ 2
  sm : Small p
  ln : p.length ≤ 4
theorem ne_at {α : Type} {l : List α} (h : l ≠ []) : ∃ x, l[0]? = some x := by
  cases l with
  | nil => exact absurd rfl h
  | cons x l => exact ⟨x, rfl⟩
theorem side_at {d : Nat} {xs : List Aff} (h : sideV d xs = true) : xs ≠ [] ∧ xs.length ≤ 2 ∧ ∀ a ∈ xs, affV a = true := by
  rw [sideV, Bool.and_eq_true, Bool.and_eq_true, decide_eq_true_eq, decide_eq_true_eq, List.all_eq_true] at h
  refine ⟨fun e => by rw [e] at h; simp at h, h.2, fun a ha => ?_⟩
  have := h.1.1 a ha
  rw [bndV, Bool.and_eq_true] at this
  exact this.1
theorem Small.take {p : List Int} (h : Small p) (i : Nat) : Small (p.take i) := fun n hn => h n (List.mem_of_mem_take hn)
theorem okR_of {ns : List Lp} {i : Nat} {l : Lp} {p : List Int} (h : nsV ns = true) (hl : ns[i]? = some l) (hs : Small p) (hp : p.length ≤ 4) : okR l p := by
  obtain ⟨h1, h2⟩ := (nsV_at h).2 i l hl
  obtain ⟨a1, a2, a3⟩ := side_at h1
  obtain ⟨b1, b2, b3⟩ := side_at h2
  exact ⟨a1, b1, a3, b3, a2, b2, hs, hp⟩
/-- What LoopRange answers. -/
def lrV (ns : List Lp) (p : List Int) : Int × Int × Bool :=
  if nsV ns = true ∧ isPt p = true ∧ p.length < ns.length then (loF p (ns.getD p.length ([], [])).1, hiF p (ns.getD p.length ([], [])).2, true) else (0, 0, false)
def inG (p : List Int) (i : Nat) : List Lp → Bool
  | [] => true
  | l :: r => (decide (loF (p.take i) l.1 ≤ p.getD i 0) && decide (p.getD i 0 < hiF (p.take i) l.2)) && inG p (i + 1) r
/-- What PointIn answers. -/
def inV (ns : List Lp) (p : List Int) : Bool := nsV ns && isPt p && decide (p.length = ns.length) && inG p 0 ns
theorem inG_drop {p : List Int} {ns : List Lp} {i : Nat} {l : Lp} (h : ns[i]? = some l) : inG p i (ns.drop i) = ((decide (loF (p.take i) l.1 ≤ p.getD i 0) && decide (p.getD i 0 < hiF (p.take i) l.2)) && inG p (i + 1) (ns.drop (i + 1))) := by rw [drop_at h]; rfl
theorem getD_some {α : Type} {l : List α} {i : Nat} {x d : α} (h : l[i]? = some x) : l.getD i d = x := by rw [List.getD, h]; rfl
theorem dIs_take (p : List Int) (i : Nat) : dIs (p.take i) = .list 1 ((p.map rI).take i) := by rw [dIs, List.map_take]
theorem Fn.arg2 {P : Program} {f : FuncId} {hb hb' : St} {x : V1} {d1 d2 : D} {y : V} (h : d1 = d2) (F : Fn P f hb [x, vD d1] y hb') : Fn P f hb [x, vD d2] y hb' := h ▸ F
end Go.Proofs.Ytgcpdpbapgkdjaa
