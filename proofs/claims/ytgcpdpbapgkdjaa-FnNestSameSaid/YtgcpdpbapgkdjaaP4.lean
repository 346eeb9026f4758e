/- Part 4 of 5 of the proof: laws on memory and data, then what the functions compute, in the order in which they build on each other; conditions: those that each theorem names. -/
import Derived.Test.YtgcpdpbapgkdjaaP3

/- Copies of nests whose last side is of their own; condition: small nests. -/
namespace Go.Proofs.Ytgcpdpbapgkdjaa
set_option linter.unusedVariables false
set_option linter.unusedSimpArgs false
open Go.RowKit

set_option maxRecDepth 100000 in
set_option maxHeartbeats 1600000 in
theorem l2Copy_last {init : List Lp} {l0 : Lp} (hs : smN (init ++ [l0])) (h0 : l0.2 ≠ []) : Fn Try.prog 90 [] [vD (dLs (init ++ [l0]))] (.o (.c (.own 100 2 (init.length + 1)))) (hbC2 init l0) := by
  obtain ⟨hs1, hs2⟩ := hs
  simp at hs1
  refine Fn.of_code Try.func90 rfl rfl HB.nil rfl rfl (hbC2_HB _ _) rfl (two_num rfl rfl) ?_
  refine ACode.seq ?_
  refine ACode.region ?_
  refine AOps.cons (St1.assign rfl rfl rfl rfl rfl) ?_
  refine AOps.nil ?_
  refine ks_n ?_
  refine ACode.seq ?_
  refine ACode.region ?_
  refine AOps.cons (St1.lit0 (k' := 110) (e := 67) (sz := 2) (b := true) rfl rfl rfl rfl (by kernel_rfl) rfl rfl) ?_
  refine AOps.cons (St1.assign rfl rfl rfl rfl rfl) ?_
  refine AOps.nil ?_
  refine ks_n ?_
  refine ACode.seq ?_
  refine ACode.seq ?_
  refine ACode.region ?_
  refine AOps.cons (St1.assign rfl rfl rfl rfl rfl) ?_
  refine AOps.nil ?_
  refine ks_n ?_
  refine ACode.block ?_
  refine ACode.wk (σ' := [(.t 0, .v (.o (vD (dLs (init ++ [l0]))))), (.t 3, .v (.o (.c (.own 110 2 (0))))), (.t 4, .v (.o (nat1 (0 : Nat)))), (.b 110, .b 67 2 (dR ((init.take 0).map rL))), (.u 110, .u)]) (Wk.keep [(110, 110)] rfl rfl ⟨⟨_, rfl, Vto.dat _ _ (by first | rfl | exact congrArg (fun z => V.o (nat1 z)) (by omega) | (simp; done) | omega) rfl⟩, ⟨_, rfl, Vto.c (.own _ _ _ _ _ (by first | decide | simp) (by first | rfl | exact congrArg (fun z => V.o (nat1 z)) (by omega) | (simp; done) | omega))⟩, ⟨_, rfl, Vto.dat _ _ (by first | rfl | exact congrArg (fun z => V.o (nat1 z)) (by omega) | (simp; done) | omega) rfl⟩, ⟨110, _, (by first | decide | simp), rfl, Rto.dat _ _ _ (by first | exact dR_take rL hl | rfl | (rw [List.take_length, dR_app]; done) | (rw [List.take_length]; done) | (simp [dR]; done)) rfl⟩, trivial⟩) ?_
  refine ACode.loop (fun m σ => (∃ i : Nat, m = init.length + 1 - i ∧ (i ≤ init.length) ∧ σ = [(.t 0, .v (.o (vD (dLs (init ++ [l0]))))), (.t 3, .v (.o (.c (.own 110 2 (i))))), (.t 4, .v (.o (nat1 (i : Nat)))), (.b 110, .b 67 2 (dR ((init.take i).map rL))), (.u 110, .u)]) ∨ (∃ i : Nat, m = init.length + 1 - i ∧ (i = init.length + 1) ∧ σ = [(.t 0, .v (.o (vD (dLs (init ++ [l0]))))), (.t 3, .v (.o (.c (.own 110 2 (init.length + 1))))), (.t 4, .v (.o (nat1 (i : Nat)))), (.b 110, .b 67 2 (dR (init.map rL) ++ [[.d (dAs l0.1), .own 111 2 l0.2.length]])), (.u 110, .u), (.b 111, .b 51 2 (dR (l0.2.map rA))), (.u 111, .u)])) ((init.length + 1 - 0)) (.inl ⟨0, rfl, by omega, rfl⟩) ?_
  rintro m σ (⟨i, hm0, hi, rfl⟩ | ⟨i, hm0, rfl, rfl⟩)
  · skip
    refine ACode.seq ?_
    refine ACode.seq ?_
    refine ACode.region ?_
    refine AOps.cons (St1.move rfl rfl rfl rfl rfl) ?_
    refine AOps.cons (St1.move rfl rfl rfl rfl rfl) ?_
    refine AOps.cons (St1.lenL (e := 67) (m := 2) (by' := 48) rfl rfl rfl rfl rfl (by kernel_rfl) rfl (by first | exact List.length_map _ | rfl)) ?_
    refine AOps.cons (St1.lss rfl rfl rfl rfl rfl rfl) ?_
    refine AOps.nil ?_
    refine ks_n ?_
    refine ACode.condT rfl (fun h14 => ?_) (fun h14 => ?_)
    · try simp only [List.length_map, decide_eq_true_eq, decide_eq_false_iff_not, Bool.not_eq_true', Bool.not_eq_false', Bool.not_eq_true, Bool.not_eq_false] at h14
      refine ACode.skip ?_
      refine ks_n ?_
      refine ACode.seq ?_
      refine ACode.block ?_
      refine ACode.seq ?_
      by_cases hsp : i < init.length
      · skip
        obtain ⟨l, hl⟩ : ∃ l, init[i]? = some l := ⟨_, List.getElem?_eq_getElem hsp⟩
        have hn : (init ++ [l0])[i]? = some l := by rw [List.getElem?_append_left hsp]; exact hl
        obtain ⟨hla, hlb, hlc, hld⟩ := hs2 l (by first | exact List.mem_of_getElem? hn | simp)
        refine ACode.region ?_
        refine AOps.cons (St1.build (pl := []) (places := [(0, 1), (1, 1)]) (zs := [.slice none 0 0, .slice none 0 0]) rfl rfl rfl rfl rfl (by kernel_rfl) rfl rfl rfl) ?_
        refine AOps.cons (St1.alloc (k' := 105) (zs := [.slice none 0 0, .slice none 0 0]) rfl rfl rfl rfl (by kernel_rfl) rfl rfl rfl) ?_
        refine AOps.cons (St1.store (m := 2) (rw' := true) rfl rfl rfl (by kernel_rfl) rfl rfl rfl rfl rfl rfl rfl) ?_
        refine AOps.nil ?_
        refine ks_n ?_
        refine ACode.seq ?_
        refine ACode.seq ?_
        refine ACode.region ?_
        refine AOps.cons (St1.assign rfl rfl rfl rfl rfl) ?_
        refine AOps.nil ?_
        refine ks_n ?_
        refine ACode.block ?_
        refine ACode.wk (σ' := [(.t 0, .v (.o (vD (dLs (init ++ [l0]))))), (.t 3, .v (.o (.c (.own 120 2 (i))))), (.t 4, .v (.o (nat1 ((i : Nat))))), (.t 5, .v (.o (.c (.box 121 2 0 0)))), (.t 6, .v (.o (nat1 (0 : Nat)))), (.b 120, .b 67 2 (dR ((init.take i).map rL))), (.u 120, .u), (.b 121, .b 67 2 [[.d (.val (.slice none 0 0)), .d (.val (.slice none 0 0))]]), (.u 121, .u)]) (Wk.keep [(120, 110), (121, 105)] rfl rfl ⟨⟨_, rfl, Vto.dat _ _ (by first | rfl | exact congrArg (fun z => V.o (nat1 z)) (by omega) | (simp; done) | omega) rfl⟩, ⟨_, rfl, Vto.c (.own _ _ _ _ _ (by first | decide | simp) (by first | rfl | exact congrArg (fun z => V.o (nat1 z)) (by omega) | (simp; done) | omega))⟩, ⟨_, rfl, Vto.dat _ _ (by first | rfl | exact congrArg (fun z => V.o (nat1 z)) (by omega) | (simp; done) | omega) rfl⟩, ⟨_, rfl, Vto.c (.box _ _ _ _ _ _ (by first | decide | simp) rfl)⟩, ⟨_, rfl, Vto.dat _ _ (by first | rfl | exact congrArg (fun z => V.o (nat1 z)) (by omega) | (simp; done) | omega) rfl⟩, ⟨110, _, (by first | decide | simp), rfl, Rto.dat _ _ _ (by first | exact dR_take rL hl | rfl | (rw [List.take_length, dR_app]; done) | (rw [List.take_length]; done) | (simp [dR]; done)) rfl⟩, ⟨105, _, (by first | decide | simp), rfl, .cons (.cons (.d _ _ (by first | rfl | exact congrArg (fun z => V.o (nat1 z)) (by omega) | (simp; done) | omega)) (.cons (.d _ _ (by first | rfl | exact congrArg (fun z => V.o (nat1 z)) (by omega) | (simp; done) | omega)) Ctos.nil)) .nil⟩, trivial⟩) ?_
        refine ACode.loop (fun m σ => (∃ k : Nat, m = l.1.length - k ∧ (k = 0) ∧ σ = [(.t 0, .v (.o (vD (dLs (init ++ [l0]))))), (.t 3, .v (.o (.c (.own 120 2 (i))))), (.t 4, .v (.o (nat1 ((i : Nat))))), (.t 5, .v (.o (.c (.box 121 2 0 0)))), (.t 6, .v (.o (nat1 (k : Nat)))), (.b 120, .b 67 2 (dR ((init.take i).map rL))), (.u 120, .u), (.b 121, .b 67 2 [[.d (.val (.slice none 0 0)), .d (.val (.slice none 0 0))]]), (.u 121, .u)]) ∨ (∃ k : Nat, m = l.1.length - k ∧ (1 ≤ k) ∧ (k ≤ l.1.length) ∧ σ = [(.t 0, .v (.o (vD (dLs (init ++ [l0]))))), (.t 3, .v (.o (.c (.own 120 2 (i))))), (.t 4, .v (.o (nat1 ((i : Nat))))), (.t 5, .v (.o (.c (.box 121 2 0 0)))), (.t 6, .v (.o (nat1 (k : Nat)))), (.b 120, .b 67 2 (dR ((init.take i).map rL))), (.u 120, .u), (.b 122, .b 51 2 (dR ((l.1.take k).map rA))), (.u 122, .u), (.b 121, .b 67 2 [[.own 122 2 (k), .d (.val (.slice none 0 0))]]), (.u 121, .u)])) ((l.1.length - 0)) (.inl ⟨0, rfl, rfl, rfl⟩) ?_
        rintro m σ (⟨k, hm0, rfl, rfl⟩ | ⟨k, hm0, hk1, hk2, rfl⟩)
        · skip
          refine ACode.seq ?_
          refine ACode.seq ?_
          refine ACode.region ?_
          refine AOps.cons (St1.move rfl rfl rfl rfl rfl) ?_
          refine AOps.cons (St1.move rfl rfl rfl rfl rfl) ?_
          refine AOps.cons (St1.move rfl rfl rfl rfl rfl) ?_
          refine AOps.cons (St1.indexL (e := 67) (sz := 2) (by' := 48) rfl rfl rfl rfl (by kernel_rfl) rfl rfl rfl rfl (by first | exact map_at (by assumption) | rfl)) ?_
          refine AOps.cons (St1.fieldP (off := 0) (m := 0) (r := false) rfl rfl rfl rfl (by kernel_rfl) rfl) ?_
          refine AOps.cons (St1.loadP1 (m := 1) rfl rfl rfl rfl (by kernel_rfl) rfl) ?_
          refine AOps.cons (St1.lenL (e := 51) (m := 2) (by' := 32) rfl rfl rfl rfl rfl (by kernel_rfl) rfl (by first | exact List.length_map _ | rfl)) ?_
          refine AOps.cons (St1.lss rfl rfl rfl rfl rfl rfl) ?_
          refine AOps.nil ?_
          refine ks_n ?_
          refine ACode.condT rfl (fun h25 => ?_) (fun h25 => ?_)
          · try simp only [List.length_map, decide_eq_true_eq, decide_eq_false_iff_not, Bool.not_eq_true', Bool.not_eq_false', Bool.not_eq_true, Bool.not_eq_false] at h25
            obtain ⟨x, hx, hxs⟩ := at_sm hlc (show 0 < l.1.length by omega)
            refine ACode.skip ?_
            refine ks_n ?_
            refine ACode.seq ?_
            refine ACode.block ?_
            refine ACode.seq ?_
            refine ACode.region ?_
            refine AOps.cons (St1.move rfl rfl rfl rfl rfl) ?_
            refine AOps.cons (St1.move rfl rfl rfl rfl rfl) ?_
            refine AOps.cons (St1.indexL (e := 67) (sz := 2) (by' := 48) rfl rfl rfl rfl (by kernel_rfl) rfl rfl rfl rfl (by first | exact map_at (by assumption) | rfl)) ?_
            refine AOps.cons (St1.fieldP (off := 0) (m := 0) (r := false) rfl rfl rfl rfl (by kernel_rfl) rfl) ?_
            refine AOps.cons (St1.loadP1 (m := 1) rfl rfl rfl rfl (by kernel_rfl) rfl) ?_
            refine AOps.cons (St1.move rfl rfl rfl rfl rfl) ?_
            refine AOps.cons (St1.indexL (e := 51) (sz := 2) (by' := 32) rfl rfl rfl rfl (by kernel_rfl) rfl rfl rfl rfl (by first | exact map_at (by assumption) | rfl)) ?_
            refine AOps.cons (St1.loadPN (m := 2) rfl rfl rfl rfl (by kernel_rfl) rfl rfl) ?_
            refine AOps.cons (St1.alloc (k' := 107) (zs := [.slice none 0 0, .int .i64 0]) rfl rfl rfl rfl (by kernel_rfl) rfl rfl rfl) ?_
            refine AOps.cons (St1.store (m := 2) (rw' := true) rfl rfl rfl (by kernel_rfl) rfl rfl rfl rfl rfl rfl rfl) ?_
            refine AOps.nil ?_
            refine ks_n ?_
            refine ACode.drawK (by kernel_rfl) (by kernel_rfl) ?_
            refine RunK.cons (St1.fieldB (off := 0) (m := 0) (r := false) rfl rfl rfl rfl (by kernel_rfl) rfl rfl) ?_
            refine RunK.cons (St1.loadB1 (m := 1) rfl rfl rfl rfl (by kernel_rfl) rfl rfl rfl rfl rfl) ?_
            refine RunK.cons (St1.lit0 (k' := 138) (e := 3) (sz := 1) (b := true) rfl rfl rfl rfl (by kernel_rfl) rfl rfl) ?_
            refine RunK.cons (St1.fieldB (off := 0) (m := 0) (r := false) rfl rfl rfl rfl (by kernel_rfl) rfl rfl) ?_
            refine RunK.cons (St1.loadB1 (m := 1) rfl rfl rfl rfl (by kernel_rfl) rfl rfl rfl rfl rfl) ?_
            refine RunK.cons (St1.appD (rows := []) (e := 3) (sz := 0) (by' := 8) rfl rfl rfl rfl rfl (by kernel_rfl) rfl rfl rfl rfl rfl (by simp; omega) rfl) ?_
            refine RunK.cons (St1.fieldB (off := 1) (m := 0) (r := false) rfl rfl rfl rfl (by kernel_rfl) rfl rfl) ?_
            refine RunK.cons (St1.loadB1 (m := 1) rfl rfl rfl rfl (by kernel_rfl) rfl rfl rfl rfl rfl) ?_
            refine RunK.cons (St1.build (pl := [(0, .tmp 41), (1, .tmp 43)]) (places := [(0, 1), (1, 1)]) (zs := [.slice none 0 0, .int .i64 0]) rfl rfl rfl rfl rfl (by kernel_rfl) rfl rfl rfl) ?_
            refine RunK.cons (St1.lit (e := 51) (sz := 1) (m := 0) (xs := [.tmp 44]) rfl rfl rfl rfl rfl (by kernel_rfl) rfl rfl rfl rfl) ?_
            refine RunK.cons (St1.appN (k' := 146) (e := 51) (sz := 1) (by' := 32) rfl rfl rfl rfl rfl (by kernel_rfl) rfl rfl rfl (by simp) (by first | (simp [dR]; done) | (simp [dR]; omega)) rfl rfl) ?_
            refine RunK.cons (St1.fieldB (off := 0) (m := 0) (r := false) rfl rfl rfl rfl (by kernel_rfl) rfl rfl) ?_
            refine RunK.cons (St1.store (m := 1) (rw' := false) rfl rfl rfl (by kernel_rfl) rfl rfl rfl rfl rfl rfl rfl) ?_
            refine RunK.nil ⟨by kernel_rfl, ?_⟩
            refine kb_n ?_
            refine ks_n ?_
            refine ACode.region ?_
            refine AOps.cons (St1.move rfl rfl rfl rfl rfl) ?_
            refine AOps.cons (St1.add rfl rfl rfl rfl rfl rfl (by omega)) ?_
            refine AOps.cons (St1.assign rfl rfl rfl rfl rfl) ?_
            refine AOps.nil ?_
            refine kl_n (σ2 := [(.t 0, .v (.o (vD (dLs (init ++ [l0]))))), (.t 3, .v (.o (.c (.own 120 2 (i))))), (.t 4, .v (.o (nat1 ((i : Nat))))), (.t 5, .v (.o (.c (.box 121 2 0 0)))), (.t 6, .v (.o (nat1 (1 : Nat)))), (.b 120, .b 67 2 (dR ((init.take i).map rL))), (.u 120, .u), (.b 122, .b 51 2 (dR ((l.1.take 1).map rA))), (.u 122, .u), (.b 121, .b 67 2 [[.own 122 2 (1), .d (.val (.slice none 0 0))]]), (.u 121, .u)]) ((l.1.length - 1)) (by omega) (Wk.keep [(120, 120), (121, 121), (122, 146)] rfl rfl ⟨⟨_, rfl, Vto.dat _ _ (by first | rfl | exact congrArg (fun z => V.o (nat1 z)) (by omega) | (simp; done) | omega) rfl⟩, ⟨_, rfl, Vto.c (.own _ _ _ _ _ (by first | decide | simp) (by first | rfl | exact congrArg (fun z => V.o (nat1 z)) (by omega) | (simp; done) | omega))⟩, ⟨_, rfl, Vto.dat _ _ (by first | rfl | exact congrArg (fun z => V.o (nat1 z)) (by omega) | (simp; done) | omega) rfl⟩, ⟨_, rfl, Vto.c (.box _ _ _ _ _ _ (by first | decide | simp) rfl)⟩, ⟨_, rfl, Vto.dat _ _ (by first | rfl | exact congrArg (fun z => V.o (nat1 z)) (by omega) | (simp; done) | omega) rfl⟩, ⟨120, _, (by first | decide | simp), rfl, Rto.dat _ _ _ (by first | exact dR_take rL hl | rfl | (rw [List.take_length, dR_app]; done) | (rw [List.take_length]; done) | (simp [dR]; done)) rfl⟩, ⟨146, _, (by first | decide | simp), rfl, Rto.dat _ _ _ (by first | exact dR_take rA hx | exact dR_take1 rA hx | rfl | (rw [List.take_length]; done) | (simp [dR]; done)) rfl⟩, ⟨121, _, (by first | decide | simp), rfl, .cons (.cons (.own _ _ _ _ _ (by first | decide | simp) (by first | rfl | exact congrArg (fun z => V.o (nat1 z)) (by omega) | (simp; done) | omega)) (.cons (.d _ _ (by first | rfl | exact congrArg (fun z => V.o (nat1 z)) (by omega) | (simp; done) | omega)) Ctos.nil)) .nil⟩, trivial⟩) (.inr ⟨1, rfl, by omega, by omega, rfl⟩)
          · try simp only [List.length_map, decide_eq_true_eq, decide_eq_false_iff_not, Bool.not_eq_true', Bool.not_eq_false', Bool.not_eq_true, Bool.not_eq_false] at h25
            have hn1 : l.1 = [] := List.eq_nil_of_length_eq_zero (by omega)
            refine ACode.exit ?_
            refine ks_e ?_
            refine kl_e ?_
            refine kb_hit ?_
            refine ks_n ?_
            refine ACode.seq ?_
            refine ACode.seq ?_
            refine ACode.region ?_
            refine AOps.cons (St1.assign rfl rfl rfl rfl rfl) ?_
            refine AOps.nil ?_
            refine ks_n ?_
            refine ACode.block ?_
            refine ACode.wk (σ' := [(.t 0, .v (.o (vD (dLs (init ++ [l0]))))), (.t 3, .v (.o (.c (.own 130 2 (i))))), (.t 4, .v (.o (nat1 ((i : Nat))))), (.t 5, .v (.o (.c (.box 131 2 0 0)))), (.t 8, .v (.o (nat1 (0 : Nat)))), (.b 130, .b 67 2 (dR ((init.take i).map rL))), (.u 130, .u), (.b 131, .b 67 2 [[.d (dAs l.1), .d (.val (.slice none 0 0))]]), (.u 131, .u)]) (Wk.keep [(130, 120), (131, 121)] rfl rfl ⟨⟨_, rfl, Vto.dat _ _ (by first | rfl | exact congrArg (fun z => V.o (nat1 z)) (by omega) | (simp; done) | omega) rfl⟩, ⟨_, rfl, Vto.c (.own _ _ _ _ _ (by first | decide | simp) (by first | rfl | exact congrArg (fun z => V.o (nat1 z)) (by omega) | (simp; done) | omega))⟩, ⟨_, rfl, Vto.dat _ _ (by first | rfl | exact congrArg (fun z => V.o (nat1 z)) (by omega) | (simp; done) | omega) rfl⟩, ⟨_, rfl, Vto.c (.box _ _ _ _ _ _ (by first | decide | simp) rfl)⟩, ⟨_, rfl, Vto.dat _ _ (by first | rfl | exact congrArg (fun z => V.o (nat1 z)) (by omega) | (simp; done) | omega) rfl⟩, ⟨120, _, (by first | decide | simp), rfl, Rto.dat _ _ _ (by first | exact dR_take rL hl | rfl | (rw [List.take_length, dR_app]; done) | (rw [List.take_length]; done) | (simp [dR]; done)) rfl⟩, ⟨121, _, (by first | decide | simp), rfl, .cons (.cons (Cto.nilE 2 (by rw [hn1]; rfl)) (.cons (.d _ _ (by first | rfl | exact congrArg (fun z => V.o (nat1 z)) (by omega) | (simp; done) | omega)) Ctos.nil)) .nil⟩, trivial⟩) ?_
            refine ACode.loop (fun m σ => (∃ q : Nat, m = l.2.length - q ∧ (q = 0) ∧ σ = [(.t 0, .v (.o (vD (dLs (init ++ [l0]))))), (.t 3, .v (.o (.c (.own 130 2 (i))))), (.t 4, .v (.o (nat1 ((i : Nat))))), (.t 5, .v (.o (.c (.box 131 2 0 0)))), (.t 8, .v (.o (nat1 (q : Nat)))), (.b 130, .b 67 2 (dR ((init.take i).map rL))), (.u 130, .u), (.b 131, .b 67 2 [[.d (dAs l.1), .d (.val (.slice none 0 0))]]), (.u 131, .u)]) ∨ (∃ q : Nat, m = l.2.length - q ∧ (1 ≤ q) ∧ (q ≤ l.2.length) ∧ σ = [(.t 0, .v (.o (vD (dLs (init ++ [l0]))))), (.t 3, .v (.o (.c (.own 130 2 (i))))), (.t 4, .v (.o (nat1 ((i : Nat))))), (.t 5, .v (.o (.c (.box 131 2 0 0)))), (.t 8, .v (.o (nat1 (q : Nat)))), (.b 130, .b 67 2 (dR ((init.take i).map rL))), (.u 130, .u), (.b 132, .b 51 2 (dR ((l.2.take q).map rA))), (.u 132, .u), (.b 131, .b 67 2 [[.d (dAs l.1), .own 132 2 (q)]]), (.u 131, .u)])) ((l.2.length - 0)) (.inl ⟨0, rfl, rfl, rfl⟩) ?_
            rintro m σ (⟨q, hm0, rfl, rfl⟩ | ⟨q, hm0, hq1, hq2, rfl⟩)
            · skip
              refine ACode.seq ?_
              refine ACode.seq ?_
              refine ACode.region ?_
              refine AOps.cons (St1.move rfl rfl rfl rfl rfl) ?_
              refine AOps.cons (St1.move rfl rfl rfl rfl rfl) ?_
              refine AOps.cons (St1.move rfl rfl rfl rfl rfl) ?_
              refine AOps.cons (St1.indexL (e := 67) (sz := 2) (by' := 48) rfl rfl rfl rfl (by kernel_rfl) rfl rfl rfl rfl (by first | exact map_at (by assumption) | rfl)) ?_
              refine AOps.cons (St1.fieldP (off := 1) (m := 0) (r := false) rfl rfl rfl rfl (by kernel_rfl) rfl) ?_
              refine AOps.cons (St1.loadP1 (m := 1) rfl rfl rfl rfl (by kernel_rfl) rfl) ?_
              refine AOps.cons (St1.lenL (e := 51) (m := 2) (by' := 32) rfl rfl rfl rfl rfl (by kernel_rfl) rfl (by first | exact List.length_map _ | rfl)) ?_
              refine AOps.cons (St1.lss rfl rfl rfl rfl rfl rfl) ?_
              refine AOps.nil ?_
              refine ks_n ?_
              refine ACode.condT rfl (fun h55 => ?_) (fun h55 => ?_)
              · try simp only [List.length_map, decide_eq_true_eq, decide_eq_false_iff_not, Bool.not_eq_true', Bool.not_eq_false', Bool.not_eq_true, Bool.not_eq_false] at h55
                obtain ⟨x, hx, hxs⟩ := at_sm hld (show 0 < l.2.length by omega)
                refine ACode.skip ?_
                refine ks_n ?_
                refine ACode.seq ?_
                refine ACode.block ?_
                refine ACode.seq ?_
                refine ACode.region ?_
                refine AOps.cons (St1.move rfl rfl rfl rfl rfl) ?_
                refine AOps.cons (St1.move rfl rfl rfl rfl rfl) ?_
                refine AOps.cons (St1.indexL (e := 67) (sz := 2) (by' := 48) rfl rfl rfl rfl (by kernel_rfl) rfl rfl rfl rfl (by first | exact map_at (by assumption) | rfl)) ?_
                refine AOps.cons (St1.fieldP (off := 1) (m := 0) (r := false) rfl rfl rfl rfl (by kernel_rfl) rfl) ?_
                refine AOps.cons (St1.loadP1 (m := 1) rfl rfl rfl rfl (by kernel_rfl) rfl) ?_
                refine AOps.cons (St1.move rfl rfl rfl rfl rfl) ?_
                refine AOps.cons (St1.indexL (e := 51) (sz := 2) (by' := 32) rfl rfl rfl rfl (by kernel_rfl) rfl rfl rfl rfl (by first | exact map_at (by assumption) | rfl)) ?_
                refine AOps.cons (St1.loadPN (m := 2) rfl rfl rfl rfl (by kernel_rfl) rfl rfl) ?_
                refine AOps.cons (St1.alloc (k' := 109) (zs := [.slice none 0 0, .int .i64 0]) rfl rfl rfl rfl (by kernel_rfl) rfl rfl rfl) ?_
                refine AOps.cons (St1.store (m := 2) (rw' := true) rfl rfl rfl (by kernel_rfl) rfl rfl rfl rfl rfl rfl rfl) ?_
                refine AOps.nil ?_
                refine ks_n ?_
                refine ACode.drawK (by kernel_rfl) (by kernel_rfl) ?_
                refine RunK.cons (St1.fieldB (off := 1) (m := 0) (r := false) rfl rfl rfl rfl (by kernel_rfl) rfl rfl) ?_
                refine RunK.cons (St1.loadB1 (m := 1) rfl rfl rfl rfl (by kernel_rfl) rfl rfl rfl rfl rfl) ?_
                refine RunK.cons (St1.lit0 (k' := 168) (e := 3) (sz := 1) (b := true) rfl rfl rfl rfl (by kernel_rfl) rfl rfl) ?_
                refine RunK.cons (St1.fieldB (off := 0) (m := 0) (r := false) rfl rfl rfl rfl (by kernel_rfl) rfl rfl) ?_
                refine RunK.cons (St1.loadB1 (m := 1) rfl rfl rfl rfl (by kernel_rfl) rfl rfl rfl rfl rfl) ?_
                refine RunK.cons (St1.appD (rows := []) (e := 3) (sz := 0) (by' := 8) rfl rfl rfl rfl rfl (by kernel_rfl) rfl rfl rfl rfl rfl (by simp; omega) rfl) ?_
                refine RunK.cons (St1.fieldB (off := 1) (m := 0) (r := false) rfl rfl rfl rfl (by kernel_rfl) rfl rfl) ?_
                refine RunK.cons (St1.loadB1 (m := 1) rfl rfl rfl rfl (by kernel_rfl) rfl rfl rfl rfl rfl) ?_
                refine RunK.cons (St1.build (pl := [(0, .tmp 71), (1, .tmp 73)]) (places := [(0, 1), (1, 1)]) (zs := [.slice none 0 0, .int .i64 0]) rfl rfl rfl rfl rfl (by kernel_rfl) rfl rfl rfl) ?_
                refine RunK.cons (St1.lit (e := 51) (sz := 1) (m := 0) (xs := [.tmp 74]) rfl rfl rfl rfl rfl (by kernel_rfl) rfl rfl rfl rfl) ?_
                refine RunK.cons (St1.appN (k' := 176) (e := 51) (sz := 1) (by' := 32) rfl rfl rfl rfl rfl (by kernel_rfl) rfl rfl rfl (by simp) (by first | (simp [dR]; done) | (simp [dR]; omega)) rfl rfl) ?_
                refine RunK.cons (St1.fieldB (off := 1) (m := 0) (r := false) rfl rfl rfl rfl (by kernel_rfl) rfl rfl) ?_
                refine RunK.cons (St1.store (m := 1) (rw' := false) rfl rfl rfl (by kernel_rfl) rfl rfl rfl rfl rfl rfl rfl) ?_
                refine RunK.nil ⟨by kernel_rfl, ?_⟩
                refine kb_n ?_
                refine ks_n ?_
                refine ACode.region ?_
                refine AOps.cons (St1.move rfl rfl rfl rfl rfl) ?_
                refine AOps.cons (St1.add rfl rfl rfl rfl rfl rfl (by omega)) ?_
                refine AOps.cons (St1.assign rfl rfl rfl rfl rfl) ?_
                refine AOps.nil ?_
                refine kl_n (σ2 := [(.t 0, .v (.o (vD (dLs (init ++ [l0]))))), (.t 3, .v (.o (.c (.own 130 2 (i))))), (.t 4, .v (.o (nat1 ((i : Nat))))), (.t 5, .v (.o (.c (.box 131 2 0 0)))), (.t 8, .v (.o (nat1 (1 : Nat)))), (.b 130, .b 67 2 (dR ((init.take i).map rL))), (.u 130, .u), (.b 132, .b 51 2 (dR ((l.2.take 1).map rA))), (.u 132, .u), (.b 131, .b 67 2 [[.d (dAs l.1), .own 132 2 (1)]]), (.u 131, .u)]) ((l.2.length - 1)) (by omega) (Wk.keep [(130, 130), (131, 131), (132, 176)] rfl rfl ⟨⟨_, rfl, Vto.dat _ _ (by first | rfl | exact congrArg (fun z => V.o (nat1 z)) (by omega) | (simp; done) | omega) rfl⟩, ⟨_, rfl, Vto.c (.own _ _ _ _ _ (by first | decide | simp) (by first | rfl | exact congrArg (fun z => V.o (nat1 z)) (by omega) | (simp; done) | omega))⟩, ⟨_, rfl, Vto.dat _ _ (by first | rfl | exact congrArg (fun z => V.o (nat1 z)) (by omega) | (simp; done) | omega) rfl⟩, ⟨_, rfl, Vto.c (.box _ _ _ _ _ _ (by first | decide | simp) rfl)⟩, ⟨_, rfl, Vto.dat _ _ (by first | rfl | exact congrArg (fun z => V.o (nat1 z)) (by omega) | (simp; done) | omega) rfl⟩, ⟨130, _, (by first | decide | simp), rfl, Rto.dat _ _ _ (by first | exact dR_take rL hl | rfl | (rw [List.take_length, dR_app]; done) | (rw [List.take_length]; done) | (simp [dR]; done)) rfl⟩, ⟨176, _, (by first | decide | simp), rfl, Rto.dat _ _ _ (by first | exact dR_take rA hx | exact dR_take1 rA hx | rfl | (rw [List.take_length]; done) | (simp [dR]; done)) rfl⟩, ⟨131, _, (by first | decide | simp), rfl, .cons (.cons (.d _ _ (by first | rfl | exact congrArg (fun z => V.o (nat1 z)) (by omega) | (simp; done) | omega)) (.cons (.own _ _ _ _ _ (by first | decide | simp) (by first | rfl | exact congrArg (fun z => V.o (nat1 z)) (by omega) | (simp; done) | omega)) Ctos.nil)) .nil⟩, trivial⟩) (.inr ⟨1, rfl, by omega, by omega, rfl⟩)
              · try simp only [List.length_map, decide_eq_true_eq, decide_eq_false_iff_not, Bool.not_eq_true', Bool.not_eq_false', Bool.not_eq_true, Bool.not_eq_false] at h55
                have hn2 : l.2 = [] := List.eq_nil_of_length_eq_zero (by omega)
                refine ACode.exit ?_
                refine ks_e ?_
                refine kl_e ?_
                refine kb_hit ?_
                refine ks_n ?_
                refine ACode.wk (σ' := [(.t 0, .v (.o (vD (dLs (init ++ [l0]))))), (.t 3, .v (.o (.c (.own 860 2 (i))))), (.t 4, .v (.o (nat1 ((i : Nat))))), (.t 5, .v (.o (.c (.box 861 2 0 0)))), (.b 860, .b 67 2 (dR ((init.take i).map rL))), (.u 860, .u), (.b 861, .b 67 2 [[.d (dAs l.1), .d (dAs l.2)]]), (.u 861, .u)]) (Wk.keep [(860, 130), (861, 131)] rfl rfl ⟨⟨_, rfl, Vto.dat _ _ (by first | rfl | exact congrArg (fun z => V.o (nat1 z)) (by omega) | (simp; done) | omega) rfl⟩, ⟨_, rfl, Vto.c (.own _ _ _ _ _ (by first | decide | simp) (by first | rfl | exact congrArg (fun z => V.o (nat1 z)) (by omega) | (simp; done) | omega))⟩, ⟨_, rfl, Vto.dat _ _ (by first | rfl | exact congrArg (fun z => V.o (nat1 z)) (by omega) | (simp; done) | omega) rfl⟩, ⟨_, rfl, Vto.c (.box _ _ _ _ _ _ (by first | decide | simp) rfl)⟩, ⟨130, _, (by first | decide | simp), rfl, Rto.dat _ _ _ (by first | exact dR_take rL hl | rfl | (rw [List.take_length, dR_app]; done) | (rw [List.take_length]; done) | (simp [dR]; done)) rfl⟩, ⟨131, _, (by first | decide | simp), rfl, .cons (.cons (.d _ _ (by first | rfl | exact congrArg (fun z => V.o (nat1 z)) (by omega) | (simp; done) | omega)) (.cons (Cto.nilE 2 (by rw [hn2]; rfl)) Ctos.nil)) .nil⟩, trivial⟩) ?_
                refine ACode.region ?_
                refine AOps.cons (St1.move rfl rfl rfl rfl rfl) ?_
                refine AOps.cons (St1.loadBN (m := 2) rfl rfl rfl rfl (by kernel_rfl) rfl rfl rfl rfl rfl) ?_
                refine AOps.cons (St1.lit (e := 67) (sz := 1) (m := 0) (xs := [.tmp 79]) rfl rfl rfl rfl rfl (by kernel_rfl) rfl rfl rfl rfl) ?_
                refine AOps.cons (St1.appB (k' := 181) (e := 67) (sz := 1) (by' := 48) rfl rfl rfl rfl rfl (by kernel_rfl) rfl rfl rfl rfl (by first | (simp [dR]; done) | (simp [dR]; omega)) (by first | (simp [dR]; done) | (simp [dR]; omega)) rfl rfl rfl) ?_
                refine AOps.cons (St1.assign rfl rfl rfl rfl rfl) ?_
                refine AOps.nil ?_
                refine kb_n ?_
                refine ks_n ?_
                refine ACode.region ?_
                refine AOps.cons (St1.move rfl rfl rfl rfl rfl) ?_
                refine AOps.cons (St1.add rfl rfl rfl rfl rfl rfl (by omega)) ?_
                refine AOps.cons (St1.assign rfl rfl rfl rfl rfl) ?_
                refine AOps.nil ?_
                refine kl_n (σ2 := [(.t 0, .v (.o (vD (dLs (init ++ [l0]))))), (.t 3, .v (.o (.c (.own 110 2 ((i + 1)))))), (.t 4, .v (.o (nat1 ((i + 1) : Nat)))), (.b 110, .b 67 2 (dR ((init.take (i + 1)).map rL))), (.u 110, .u)]) ((init.length + 1 - (i + 1))) (by omega) (Wk.keep [(110, 181)] rfl rfl ⟨⟨_, rfl, Vto.dat _ _ (by first | rfl | exact congrArg (fun z => V.o (nat1 z)) (by omega) | (simp; done) | omega) rfl⟩, ⟨_, rfl, Vto.c (.own _ _ _ _ _ (by first | decide | simp) (by first | rfl | exact congrArg (fun z => V.o (nat1 z)) (by omega) | (simp; done) | omega))⟩, ⟨_, rfl, Vto.dat _ _ (by first | rfl | exact congrArg (fun z => V.o (nat1 z)) (by omega) | (simp; done) | omega) rfl⟩, ⟨181, _, (by first | decide | simp), rfl, Rto.dat _ _ _ (by first | exact dR_take rL hl | rfl | (rw [List.take_length, dR_app]; done) | (rw [List.take_length]; done) | (simp [dR]; done)) rfl⟩, trivial⟩) (.inl ⟨i + 1, rfl, by omega, rfl⟩)
            · skip
              refine ACode.seq ?_
              refine ACode.seq ?_
              refine ACode.region ?_
              refine AOps.cons (St1.move rfl rfl rfl rfl rfl) ?_
              refine AOps.cons (St1.move rfl rfl rfl rfl rfl) ?_
              refine AOps.cons (St1.move rfl rfl rfl rfl rfl) ?_
              refine AOps.cons (St1.indexL (e := 67) (sz := 2) (by' := 48) rfl rfl rfl rfl (by kernel_rfl) rfl rfl rfl rfl (by first | exact map_at (by assumption) | rfl)) ?_
              refine AOps.cons (St1.fieldP (off := 1) (m := 0) (r := false) rfl rfl rfl rfl (by kernel_rfl) rfl) ?_
              refine AOps.cons (St1.loadP1 (m := 1) rfl rfl rfl rfl (by kernel_rfl) rfl) ?_
              refine AOps.cons (St1.lenL (e := 51) (m := 2) (by' := 32) rfl rfl rfl rfl rfl (by kernel_rfl) rfl (by first | exact List.length_map _ | rfl)) ?_
              refine AOps.cons (St1.lss rfl rfl rfl rfl rfl rfl) ?_
              refine AOps.nil ?_
              refine ks_n ?_
              refine ACode.condT rfl (fun h55 => ?_) (fun h55 => ?_)
              · try simp only [List.length_map, decide_eq_true_eq, decide_eq_false_iff_not, Bool.not_eq_true', Bool.not_eq_false', Bool.not_eq_true, Bool.not_eq_false] at h55
                obtain ⟨x, hx, hxs⟩ := at_sm hld (show q < l.2.length by omega)
                refine ACode.skip ?_
                refine ks_n ?_
                refine ACode.seq ?_
                refine ACode.block ?_
                refine ACode.seq ?_
                refine ACode.region ?_
                refine AOps.cons (St1.move rfl rfl rfl rfl rfl) ?_
                refine AOps.cons (St1.move rfl rfl rfl rfl rfl) ?_
                refine AOps.cons (St1.indexL (e := 67) (sz := 2) (by' := 48) rfl rfl rfl rfl (by kernel_rfl) rfl rfl rfl rfl (by first | exact map_at (by assumption) | rfl)) ?_
                refine AOps.cons (St1.fieldP (off := 1) (m := 0) (r := false) rfl rfl rfl rfl (by kernel_rfl) rfl) ?_
                refine AOps.cons (St1.loadP1 (m := 1) rfl rfl rfl rfl (by kernel_rfl) rfl) ?_
                refine AOps.cons (St1.move rfl rfl rfl rfl rfl) ?_
                refine AOps.cons (St1.indexL (e := 51) (sz := 2) (by' := 32) rfl rfl rfl rfl (by kernel_rfl) rfl rfl rfl rfl (by first | exact map_at (by assumption) | rfl)) ?_
                refine AOps.cons (St1.loadPN (m := 2) rfl rfl rfl rfl (by kernel_rfl) rfl rfl) ?_
                refine AOps.cons (St1.alloc (k' := 109) (zs := [.slice none 0 0, .int .i64 0]) rfl rfl rfl rfl (by kernel_rfl) rfl rfl rfl) ?_
                refine AOps.cons (St1.store (m := 2) (rw' := true) rfl rfl rfl (by kernel_rfl) rfl rfl rfl rfl rfl rfl rfl) ?_
                refine AOps.nil ?_
                refine ks_n ?_
                refine ACode.drawK (by kernel_rfl) (by kernel_rfl) ?_
                refine RunK.cons (St1.fieldB (off := 1) (m := 0) (r := false) rfl rfl rfl rfl (by kernel_rfl) rfl rfl) ?_
                refine RunK.cons (St1.loadB1 (m := 1) rfl rfl rfl rfl (by kernel_rfl) rfl rfl rfl rfl rfl) ?_
                refine RunK.cons (St1.lit0 (k' := 168) (e := 3) (sz := 1) (b := true) rfl rfl rfl rfl (by kernel_rfl) rfl rfl) ?_
                refine RunK.cons (St1.fieldB (off := 0) (m := 0) (r := false) rfl rfl rfl rfl (by kernel_rfl) rfl rfl) ?_
                refine RunK.cons (St1.loadB1 (m := 1) rfl rfl rfl rfl (by kernel_rfl) rfl rfl rfl rfl rfl) ?_
                refine RunK.cons (St1.appD (rows := []) (e := 3) (sz := 0) (by' := 8) rfl rfl rfl rfl rfl (by kernel_rfl) rfl rfl rfl rfl rfl (by simp; omega) rfl) ?_
                refine RunK.cons (St1.fieldB (off := 1) (m := 0) (r := false) rfl rfl rfl rfl (by kernel_rfl) rfl rfl) ?_
                refine RunK.cons (St1.loadB1 (m := 1) rfl rfl rfl rfl (by kernel_rfl) rfl rfl rfl rfl rfl) ?_
                refine RunK.cons (St1.build (pl := [(0, .tmp 71), (1, .tmp 73)]) (places := [(0, 1), (1, 1)]) (zs := [.slice none 0 0, .int .i64 0]) rfl rfl rfl rfl rfl (by kernel_rfl) rfl rfl rfl) ?_
                refine RunK.cons (St1.lit (e := 51) (sz := 1) (m := 0) (xs := [.tmp 74]) rfl rfl rfl rfl rfl (by kernel_rfl) rfl rfl rfl rfl) ?_
                refine RunK.cons (St1.appB (k' := 176) (e := 51) (sz := 1) (by' := 32) rfl rfl rfl rfl rfl (by kernel_rfl) rfl rfl rfl rfl (by first | (simp [dR]; done) | (simp [dR]; omega)) (by first | (simp [dR]; done) | (simp [dR]; omega)) rfl rfl rfl) ?_
                refine RunK.cons (St1.fieldB (off := 1) (m := 0) (r := false) rfl rfl rfl rfl (by kernel_rfl) rfl rfl) ?_
                refine RunK.cons (St1.store (m := 1) (rw' := false) rfl rfl rfl (by kernel_rfl) rfl rfl rfl rfl rfl rfl rfl) ?_
                refine RunK.nil ⟨by kernel_rfl, ?_⟩
                refine kb_n ?_
                refine ks_n ?_
                refine ACode.region ?_
                refine AOps.cons (St1.move rfl rfl rfl rfl rfl) ?_
                refine AOps.cons (St1.add rfl rfl rfl rfl rfl rfl (by omega)) ?_
                refine AOps.cons (St1.assign rfl rfl rfl rfl rfl) ?_
                refine AOps.nil ?_
                refine kl_n (σ2 := [(.t 0, .v (.o (vD (dLs (init ++ [l0]))))), (.t 3, .v (.o (.c (.own 130 2 (i))))), (.t 4, .v (.o (nat1 ((i : Nat))))), (.t 5, .v (.o (.c (.box 131 2 0 0)))), (.t 8, .v (.o (nat1 ((q + 1) : Nat)))), (.b 130, .b 67 2 (dR ((init.take i).map rL))), (.u 130, .u), (.b 132, .b 51 2 (dR ((l.2.take (q + 1)).map rA))), (.u 132, .u), (.b 131, .b 67 2 [[.d (dAs l.1), .own 132 2 ((q + 1))]]), (.u 131, .u)]) ((l.2.length - (q + 1))) (by omega) (Wk.keep [(130, 130), (131, 131), (132, 176)] rfl rfl ⟨⟨_, rfl, Vto.dat _ _ (by first | rfl | exact congrArg (fun z => V.o (nat1 z)) (by omega) | (simp; done) | omega) rfl⟩, ⟨_, rfl, Vto.c (.own _ _ _ _ _ (by first | decide | simp) (by first | rfl | exact congrArg (fun z => V.o (nat1 z)) (by omega) | (simp; done) | omega))⟩, ⟨_, rfl, Vto.dat _ _ (by first | rfl | exact congrArg (fun z => V.o (nat1 z)) (by omega) | (simp; done) | omega) rfl⟩, ⟨_, rfl, Vto.c (.box _ _ _ _ _ _ (by first | decide | simp) rfl)⟩, ⟨_, rfl, Vto.dat _ _ (by first | rfl | exact congrArg (fun z => V.o (nat1 z)) (by omega) | (simp; done) | omega) rfl⟩, ⟨130, _, (by first | decide | simp), rfl, Rto.dat _ _ _ (by first | exact dR_take rL hl | rfl | (rw [List.take_length, dR_app]; done) | (rw [List.take_length]; done) | (simp [dR]; done)) rfl⟩, ⟨176, _, (by first | decide | simp), rfl, Rto.dat _ _ _ (by first | exact dR_take rA hx | exact dR_take1 rA hx | rfl | (rw [List.take_length]; done) | (simp [dR]; done)) rfl⟩, ⟨131, _, (by first | decide | simp), rfl, .cons (.cons (.d _ _ (by first | rfl | exact congrArg (fun z => V.o (nat1 z)) (by omega) | (simp; done) | omega)) (.cons (.own _ _ _ _ _ (by first | decide | simp) (by first | rfl | exact congrArg (fun z => V.o (nat1 z)) (by omega) | (simp; done) | omega)) Ctos.nil)) .nil⟩, trivial⟩) (.inr ⟨q + 1, rfl, by omega, by omega, rfl⟩)
              · try simp only [List.length_map, decide_eq_true_eq, decide_eq_false_iff_not, Bool.not_eq_true', Bool.not_eq_false', Bool.not_eq_true, Bool.not_eq_false] at h55
                obtain rfl : q = l.2.length := by omega
                refine ACode.exit ?_
                refine ks_e ?_
                refine kl_e ?_
                refine kb_hit ?_
                refine ks_n ?_
                refine ACode.wk (σ' := [(.t 0, .v (.o (vD (dLs (init ++ [l0]))))), (.t 3, .v (.o (.c (.own 860 2 (i))))), (.t 4, .v (.o (nat1 ((i : Nat))))), (.t 5, .v (.o (.c (.box 861 2 0 0)))), (.b 860, .b 67 2 (dR ((init.take i).map rL))), (.u 860, .u), (.b 861, .b 67 2 [[.d (dAs l.1), .d (dAs l.2)]]), (.u 861, .u)]) (Wk.keep [(860, 130), (861, 131)] rfl rfl ⟨⟨_, rfl, Vto.dat _ _ (by first | rfl | exact congrArg (fun z => V.o (nat1 z)) (by omega) | (simp; done) | omega) rfl⟩, ⟨_, rfl, Vto.c (.own _ _ _ _ _ (by first | decide | simp) (by first | rfl | exact congrArg (fun z => V.o (nat1 z)) (by omega) | (simp; done) | omega))⟩, ⟨_, rfl, Vto.dat _ _ (by first | rfl | exact congrArg (fun z => V.o (nat1 z)) (by omega) | (simp; done) | omega) rfl⟩, ⟨_, rfl, Vto.c (.box _ _ _ _ _ _ (by first | decide | simp) rfl)⟩, ⟨130, _, (by first | decide | simp), rfl, Rto.dat _ _ _ (by first | exact dR_take rL hl | rfl | (rw [List.take_length, dR_app]; done) | (rw [List.take_length]; done) | (simp [dR]; done)) rfl⟩, ⟨131, _, (by first | decide | simp), rfl, .cons (.cons (.d _ _ (by first | rfl | exact congrArg (fun z => V.o (nat1 z)) (by omega) | (simp; done) | omega)) (.cons (.frz _ _ _ _ _ _ rfl (by first | rfl | (rw [List.take_length]; done)) rfl rfl (by first | rfl | (simp; done) | (simp; omega)) (by omega)) Ctos.nil)) .nil⟩, trivial⟩) ?_
                refine ACode.region ?_
                refine AOps.cons (St1.move rfl rfl rfl rfl rfl) ?_
                refine AOps.cons (St1.loadBN (m := 2) rfl rfl rfl rfl (by kernel_rfl) rfl rfl rfl rfl rfl) ?_
                refine AOps.cons (St1.lit (e := 67) (sz := 1) (m := 0) (xs := [.tmp 79]) rfl rfl rfl rfl rfl (by kernel_rfl) rfl rfl rfl rfl) ?_
                refine AOps.cons (St1.appB (k' := 181) (e := 67) (sz := 1) (by' := 48) rfl rfl rfl rfl rfl (by kernel_rfl) rfl rfl rfl rfl (by first | (simp [dR]; done) | (simp [dR]; omega)) (by first | (simp [dR]; done) | (simp [dR]; omega)) rfl rfl rfl) ?_
                refine AOps.cons (St1.assign rfl rfl rfl rfl rfl) ?_
                refine AOps.nil ?_
                refine kb_n ?_
                refine ks_n ?_
                refine ACode.region ?_
                refine AOps.cons (St1.move rfl rfl rfl rfl rfl) ?_
                refine AOps.cons (St1.add rfl rfl rfl rfl rfl rfl (by omega)) ?_
                refine AOps.cons (St1.assign rfl rfl rfl rfl rfl) ?_
                refine AOps.nil ?_
                refine kl_n (σ2 := [(.t 0, .v (.o (vD (dLs (init ++ [l0]))))), (.t 3, .v (.o (.c (.own 110 2 ((i + 1)))))), (.t 4, .v (.o (nat1 ((i + 1) : Nat)))), (.b 110, .b 67 2 (dR ((init.take (i + 1)).map rL))), (.u 110, .u)]) ((init.length + 1 - (i + 1))) (by omega) (Wk.keep [(110, 181)] rfl rfl ⟨⟨_, rfl, Vto.dat _ _ (by first | rfl | exact congrArg (fun z => V.o (nat1 z)) (by omega) | (simp; done) | omega) rfl⟩, ⟨_, rfl, Vto.c (.own _ _ _ _ _ (by first | decide | simp) (by first | rfl | exact congrArg (fun z => V.o (nat1 z)) (by omega) | (simp; done) | omega))⟩, ⟨_, rfl, Vto.dat _ _ (by first | rfl | exact congrArg (fun z => V.o (nat1 z)) (by omega) | (simp; done) | omega) rfl⟩, ⟨181, _, (by first | decide | simp), rfl, Rto.dat _ _ _ (by first | exact dR_take rL hl | rfl | (rw [List.take_length, dR_app]; done) | (rw [List.take_length]; done) | (simp [dR]; done)) rfl⟩, trivial⟩) (.inl ⟨i + 1, rfl, by omega, rfl⟩)
        · skip
          refine ACode.seq ?_
          refine ACode.seq ?_
          refine ACode.region ?_
          refine AOps.cons (St1.move rfl rfl rfl rfl rfl) ?_
          refine AOps.cons (St1.move rfl rfl rfl rfl rfl) ?_
          refine AOps.cons (St1.move rfl rfl rfl rfl rfl) ?_
          refine AOps.cons (St1.indexL (e := 67) (sz := 2) (by' := 48) rfl rfl rfl rfl (by kernel_rfl) rfl rfl rfl rfl (by first | exact map_at (by assumption) | rfl)) ?_
          refine AOps.cons (St1.fieldP (off := 0) (m := 0) (r := false) rfl rfl rfl rfl (by kernel_rfl) rfl) ?_
          refine AOps.cons (St1.loadP1 (m := 1) rfl rfl rfl rfl (by kernel_rfl) rfl) ?_
          refine AOps.cons (St1.lenL (e := 51) (m := 2) (by' := 32) rfl rfl rfl rfl rfl (by kernel_rfl) rfl (by first | exact List.length_map _ | rfl)) ?_
          refine AOps.cons (St1.lss rfl rfl rfl rfl rfl rfl) ?_
          refine AOps.nil ?_
          refine ks_n ?_
          refine ACode.condT rfl (fun h25 => ?_) (fun h25 => ?_)
          · try simp only [List.length_map, decide_eq_true_eq, decide_eq_false_iff_not, Bool.not_eq_true', Bool.not_eq_false', Bool.not_eq_true, Bool.not_eq_false] at h25
            obtain ⟨x, hx, hxs⟩ := at_sm hlc (show k < l.1.length by omega)
            refine ACode.skip ?_
            refine ks_n ?_
            refine ACode.seq ?_
            refine ACode.block ?_
            refine ACode.seq ?_
            refine ACode.region ?_
            refine AOps.cons (St1.move rfl rfl rfl rfl rfl) ?_
            refine AOps.cons (St1.move rfl rfl rfl rfl rfl) ?_
            refine AOps.cons (St1.indexL (e := 67) (sz := 2) (by' := 48) rfl rfl rfl rfl (by kernel_rfl) rfl rfl rfl rfl (by first | exact map_at (by assumption) | rfl)) ?_
            refine AOps.cons (St1.fieldP (off := 0) (m := 0) (r := false) rfl rfl rfl rfl (by kernel_rfl) rfl) ?_
            refine AOps.cons (St1.loadP1 (m := 1) rfl rfl rfl rfl (by kernel_rfl) rfl) ?_
            refine AOps.cons (St1.move rfl rfl rfl rfl rfl) ?_
            refine AOps.cons (St1.indexL (e := 51) (sz := 2) (by' := 32) rfl rfl rfl rfl (by kernel_rfl) rfl rfl rfl rfl (by first | exact map_at (by assumption) | rfl)) ?_
            refine AOps.cons (St1.loadPN (m := 2) rfl rfl rfl rfl (by kernel_rfl) rfl rfl) ?_
            refine AOps.cons (St1.alloc (k' := 107) (zs := [.slice none 0 0, .int .i64 0]) rfl rfl rfl rfl (by kernel_rfl) rfl rfl rfl) ?_
            refine AOps.cons (St1.store (m := 2) (rw' := true) rfl rfl rfl (by kernel_rfl) rfl rfl rfl rfl rfl rfl rfl) ?_
            refine AOps.nil ?_
            refine ks_n ?_
            refine ACode.drawK (by kernel_rfl) (by kernel_rfl) ?_
            refine RunK.cons (St1.fieldB (off := 0) (m := 0) (r := false) rfl rfl rfl rfl (by kernel_rfl) rfl rfl) ?_
            refine RunK.cons (St1.loadB1 (m := 1) rfl rfl rfl rfl (by kernel_rfl) rfl rfl rfl rfl rfl) ?_
            refine RunK.cons (St1.lit0 (k' := 138) (e := 3) (sz := 1) (b := true) rfl rfl rfl rfl (by kernel_rfl) rfl rfl) ?_
            refine RunK.cons (St1.fieldB (off := 0) (m := 0) (r := false) rfl rfl rfl rfl (by kernel_rfl) rfl rfl) ?_
            refine RunK.cons (St1.loadB1 (m := 1) rfl rfl rfl rfl (by kernel_rfl) rfl rfl rfl rfl rfl) ?_
            refine RunK.cons (St1.appD (rows := []) (e := 3) (sz := 0) (by' := 8) rfl rfl rfl rfl rfl (by kernel_rfl) rfl rfl rfl rfl rfl (by simp; omega) rfl) ?_
            refine RunK.cons (St1.fieldB (off := 1) (m := 0) (r := false) rfl rfl rfl rfl (by kernel_rfl) rfl rfl) ?_
            refine RunK.cons (St1.loadB1 (m := 1) rfl rfl rfl rfl (by kernel_rfl) rfl rfl rfl rfl rfl) ?_
            refine RunK.cons (St1.build (pl := [(0, .tmp 41), (1, .tmp 43)]) (places := [(0, 1), (1, 1)]) (zs := [.slice none 0 0, .int .i64 0]) rfl rfl rfl rfl rfl (by kernel_rfl) rfl rfl rfl) ?_
            refine RunK.cons (St1.lit (e := 51) (sz := 1) (m := 0) (xs := [.tmp 44]) rfl rfl rfl rfl rfl (by kernel_rfl) rfl rfl rfl rfl) ?_
            refine RunK.cons (St1.appB (k' := 146) (e := 51) (sz := 1) (by' := 32) rfl rfl rfl rfl rfl (by kernel_rfl) rfl rfl rfl rfl (by first | (simp [dR]; done) | (simp [dR]; omega)) (by first | (simp [dR]; done) | (simp [dR]; omega)) rfl rfl rfl) ?_
            refine RunK.cons (St1.fieldB (off := 0) (m := 0) (r := false) rfl rfl rfl rfl (by kernel_rfl) rfl rfl) ?_
            refine RunK.cons (St1.store (m := 1) (rw' := false) rfl rfl rfl (by kernel_rfl) rfl rfl rfl rfl rfl rfl rfl) ?_
            refine RunK.nil ⟨by kernel_rfl, ?_⟩
            refine kb_n ?_
            refine ks_n ?_
            refine ACode.region ?_
            refine AOps.cons (St1.move rfl rfl rfl rfl rfl) ?_
            refine AOps.cons (St1.add rfl rfl rfl rfl rfl rfl (by omega)) ?_
            refine AOps.cons (St1.assign rfl rfl rfl rfl rfl) ?_
            refine AOps.nil ?_
            refine kl_n (σ2 := [(.t 0, .v (.o (vD (dLs (init ++ [l0]))))), (.t 3, .v (.o (.c (.own 120 2 (i))))), (.t 4, .v (.o (nat1 ((i : Nat))))), (.t 5, .v (.o (.c (.box 121 2 0 0)))), (.t 6, .v (.o (nat1 ((k + 1) : Nat)))), (.b 120, .b 67 2 (dR ((init.take i).map rL))), (.u 120, .u), (.b 122, .b 51 2 (dR ((l.1.take (k + 1)).map rA))), (.u 122, .u), (.b 121, .b 67 2 [[.own 122 2 ((k + 1)), .d (.val (.slice none 0 0))]]), (.u 121, .u)]) ((l.1.length - (k + 1))) (by omega) (Wk.keep [(120, 120), (121, 121), (122, 146)] rfl rfl ⟨⟨_, rfl, Vto.dat _ _ (by first | rfl | exact congrArg (fun z => V.o (nat1 z)) (by omega) | (simp; done) | omega) rfl⟩, ⟨_, rfl, Vto.c (.own _ _ _ _ _ (by first | decide | simp) (by first | rfl | exact congrArg (fun z => V.o (nat1 z)) (by omega) | (simp; done) | omega))⟩, ⟨_, rfl, Vto.dat _ _ (by first | rfl | exact congrArg (fun z => V.o (nat1 z)) (by omega) | (simp; done) | omega) rfl⟩, ⟨_, rfl, Vto.c (.box _ _ _ _ _ _ (by first | decide | simp) rfl)⟩, ⟨_, rfl, Vto.dat _ _ (by first | rfl | exact congrArg (fun z => V.o (nat1 z)) (by omega) | (simp; done) | omega) rfl⟩, ⟨120, _, (by first | decide | simp), rfl, Rto.dat _ _ _ (by first | exact dR_take rL hl | rfl | (rw [List.take_length, dR_app]; done) | (rw [List.take_length]; done) | (simp [dR]; done)) rfl⟩, ⟨146, _, (by first | decide | simp), rfl, Rto.dat _ _ _ (by first | exact dR_take rA hx | exact dR_take1 rA hx | rfl | (rw [List.take_length]; done) | (simp [dR]; done)) rfl⟩, ⟨121, _, (by first | decide | simp), rfl, .cons (.cons (.own _ _ _ _ _ (by first | decide | simp) (by first | rfl | exact congrArg (fun z => V.o (nat1 z)) (by omega) | (simp; done) | omega)) (.cons (.d _ _ (by first | rfl | exact congrArg (fun z => V.o (nat1 z)) (by omega) | (simp; done) | omega)) Ctos.nil)) .nil⟩, trivial⟩) (.inr ⟨k + 1, rfl, by omega, by omega, rfl⟩)
          · try simp only [List.length_map, decide_eq_true_eq, decide_eq_false_iff_not, Bool.not_eq_true', Bool.not_eq_false', Bool.not_eq_true, Bool.not_eq_false] at h25
            obtain rfl : k = l.1.length := by omega
            refine ACode.exit ?_
            refine ks_e ?_
            refine kl_e ?_
            refine kb_hit ?_
            refine ks_n ?_
            refine ACode.seq ?_
            refine ACode.seq ?_
            refine ACode.region ?_
            refine AOps.cons (St1.assign rfl rfl rfl rfl rfl) ?_
            refine AOps.nil ?_
            refine ks_n ?_
            refine ACode.block ?_
            refine ACode.wk (σ' := [(.t 0, .v (.o (vD (dLs (init ++ [l0]))))), (.t 3, .v (.o (.c (.own 130 2 (i))))), (.t 4, .v (.o (nat1 ((i : Nat))))), (.t 5, .v (.o (.c (.box 131 2 0 0)))), (.t 8, .v (.o (nat1 (0 : Nat)))), (.b 130, .b 67 2 (dR ((init.take i).map rL))), (.u 130, .u), (.b 131, .b 67 2 [[.d (dAs l.1), .d (.val (.slice none 0 0))]]), (.u 131, .u)]) (Wk.keep [(130, 120), (131, 121)] rfl rfl ⟨⟨_, rfl, Vto.dat _ _ (by first | rfl | exact congrArg (fun z => V.o (nat1 z)) (by omega) | (simp; done) | omega) rfl⟩, ⟨_, rfl, Vto.c (.own _ _ _ _ _ (by first | decide | simp) (by first | rfl | exact congrArg (fun z => V.o (nat1 z)) (by omega) | (simp; done) | omega))⟩, ⟨_, rfl, Vto.dat _ _ (by first | rfl | exact congrArg (fun z => V.o (nat1 z)) (by omega) | (simp; done) | omega) rfl⟩, ⟨_, rfl, Vto.c (.box _ _ _ _ _ _ (by first | decide | simp) rfl)⟩, ⟨_, rfl, Vto.dat _ _ (by first | rfl | exact congrArg (fun z => V.o (nat1 z)) (by omega) | (simp; done) | omega) rfl⟩, ⟨120, _, (by first | decide | simp), rfl, Rto.dat _ _ _ (by first | exact dR_take rL hl | rfl | (rw [List.take_length, dR_app]; done) | (rw [List.take_length]; done) | (simp [dR]; done)) rfl⟩, ⟨121, _, (by first | decide | simp), rfl, .cons (.cons (.frz _ _ _ _ _ _ rfl (by first | rfl | (rw [List.take_length]; done)) rfl rfl (by first | rfl | (simp; done) | (simp; omega)) (by omega)) (.cons (.d _ _ (by first | rfl | exact congrArg (fun z => V.o (nat1 z)) (by omega) | (simp; done) | omega)) Ctos.nil)) .nil⟩, trivial⟩) ?_
            refine ACode.loop (fun m σ => (∃ q : Nat, m = l.2.length - q ∧ (q = 0) ∧ σ = [(.t 0, .v (.o (vD (dLs (init ++ [l0]))))), (.t 3, .v (.o (.c (.own 130 2 (i))))), (.t 4, .v (.o (nat1 ((i : Nat))))), (.t 5, .v (.o (.c (.box 131 2 0 0)))), (.t 8, .v (.o (nat1 (q : Nat)))), (.b 130, .b 67 2 (dR ((init.take i).map rL))), (.u 130, .u), (.b 131, .b 67 2 [[.d (dAs l.1), .d (.val (.slice none 0 0))]]), (.u 131, .u)]) ∨ (∃ q : Nat, m = l.2.length - q ∧ (1 ≤ q) ∧ (q ≤ l.2.length) ∧ σ = [(.t 0, .v (.o (vD (dLs (init ++ [l0]))))), (.t 3, .v (.o (.c (.own 130 2 (i))))), (.t 4, .v (.o (nat1 ((i : Nat))))), (.t 5, .v (.o (.c (.box 131 2 0 0)))), (.t 8, .v (.o (nat1 (q : Nat)))), (.b 130, .b 67 2 (dR ((init.take i).map rL))), (.u 130, .u), (.b 132, .b 51 2 (dR ((l.2.take q).map rA))), (.u 132, .u), (.b 131, .b 67 2 [[.d (dAs l.1), .own 132 2 (q)]]), (.u 131, .u)])) ((l.2.length - 0)) (.inl ⟨0, rfl, rfl, rfl⟩) ?_
            rintro m σ (⟨q, hm0, rfl, rfl⟩ | ⟨q, hm0, hq1, hq2, rfl⟩)
            · skip
              refine ACode.seq ?_
              refine ACode.seq ?_
              refine ACode.region ?_
              refine AOps.cons (St1.move rfl rfl rfl rfl rfl) ?_
              refine AOps.cons (St1.move rfl rfl rfl rfl rfl) ?_
              refine AOps.cons (St1.move rfl rfl rfl rfl rfl) ?_
              refine AOps.cons (St1.indexL (e := 67) (sz := 2) (by' := 48) rfl rfl rfl rfl (by kernel_rfl) rfl rfl rfl rfl (by first | exact map_at (by assumption) | rfl)) ?_
              refine AOps.cons (St1.fieldP (off := 1) (m := 0) (r := false) rfl rfl rfl rfl (by kernel_rfl) rfl) ?_
              refine AOps.cons (St1.loadP1 (m := 1) rfl rfl rfl rfl (by kernel_rfl) rfl) ?_
              refine AOps.cons (St1.lenL (e := 51) (m := 2) (by' := 32) rfl rfl rfl rfl rfl (by kernel_rfl) rfl (by first | exact List.length_map _ | rfl)) ?_
              refine AOps.cons (St1.lss rfl rfl rfl rfl rfl rfl) ?_
              refine AOps.nil ?_
              refine ks_n ?_
              refine ACode.condT rfl (fun h55 => ?_) (fun h55 => ?_)
              · try simp only [List.length_map, decide_eq_true_eq, decide_eq_false_iff_not, Bool.not_eq_true', Bool.not_eq_false', Bool.not_eq_true, Bool.not_eq_false] at h55
                obtain ⟨x, hx, hxs⟩ := at_sm hld (show 0 < l.2.length by omega)
                refine ACode.skip ?_
                refine ks_n ?_
                refine ACode.seq ?_
                refine ACode.block ?_
                refine ACode.seq ?_
                refine ACode.region ?_
                refine AOps.cons (St1.move rfl rfl rfl rfl rfl) ?_
                refine AOps.cons (St1.move rfl rfl rfl rfl rfl) ?_
                refine AOps.cons (St1.indexL (e := 67) (sz := 2) (by' := 48) rfl rfl rfl rfl (by kernel_rfl) rfl rfl rfl rfl (by first | exact map_at (by assumption) | rfl)) ?_
                refine AOps.cons (St1.fieldP (off := 1) (m := 0) (r := false) rfl rfl rfl rfl (by kernel_rfl) rfl) ?_
                refine AOps.cons (St1.loadP1 (m := 1) rfl rfl rfl rfl (by kernel_rfl) rfl) ?_
                refine AOps.cons (St1.move rfl rfl rfl rfl rfl) ?_
                refine AOps.cons (St1.indexL (e := 51) (sz := 2) (by' := 32) rfl rfl rfl rfl (by kernel_rfl) rfl rfl rfl rfl (by first | exact map_at (by assumption) | rfl)) ?_
                refine AOps.cons (St1.loadPN (m := 2) rfl rfl rfl rfl (by kernel_rfl) rfl rfl) ?_
                refine AOps.cons (St1.alloc (k' := 109) (zs := [.slice none 0 0, .int .i64 0]) rfl rfl rfl rfl (by kernel_rfl) rfl rfl rfl) ?_
                refine AOps.cons (St1.store (m := 2) (rw' := true) rfl rfl rfl (by kernel_rfl) rfl rfl rfl rfl rfl rfl rfl) ?_
                refine AOps.nil ?_
                refine ks_n ?_
                refine ACode.drawK (by kernel_rfl) (by kernel_rfl) ?_
                refine RunK.cons (St1.fieldB (off := 1) (m := 0) (r := false) rfl rfl rfl rfl (by kernel_rfl) rfl rfl) ?_
                refine RunK.cons (St1.loadB1 (m := 1) rfl rfl rfl rfl (by kernel_rfl) rfl rfl rfl rfl rfl) ?_
                refine RunK.cons (St1.lit0 (k' := 168) (e := 3) (sz := 1) (b := true) rfl rfl rfl rfl (by kernel_rfl) rfl rfl) ?_
                refine RunK.cons (St1.fieldB (off := 0) (m := 0) (r := false) rfl rfl rfl rfl (by kernel_rfl) rfl rfl) ?_
                refine RunK.cons (St1.loadB1 (m := 1) rfl rfl rfl rfl (by kernel_rfl) rfl rfl rfl rfl rfl) ?_
                refine RunK.cons (St1.appD (rows := []) (e := 3) (sz := 0) (by' := 8) rfl rfl rfl rfl rfl (by kernel_rfl) rfl rfl rfl rfl rfl (by simp; omega) rfl) ?_
                refine RunK.cons (St1.fieldB (off := 1) (m := 0) (r := false) rfl rfl rfl rfl (by kernel_rfl) rfl rfl) ?_
                refine RunK.cons (St1.loadB1 (m := 1) rfl rfl rfl rfl (by kernel_rfl) rfl rfl rfl rfl rfl) ?_
                refine RunK.cons (St1.build (pl := [(0, .tmp 71), (1, .tmp 73)]) (places := [(0, 1), (1, 1)]) (zs := [.slice none 0 0, .int .i64 0]) rfl rfl rfl rfl rfl (by kernel_rfl) rfl rfl rfl) ?_
                refine RunK.cons (St1.lit (e := 51) (sz := 1) (m := 0) (xs := [.tmp 74]) rfl rfl rfl rfl rfl (by kernel_rfl) rfl rfl rfl rfl) ?_
                refine RunK.cons (St1.appN (k' := 176) (e := 51) (sz := 1) (by' := 32) rfl rfl rfl rfl rfl (by kernel_rfl) rfl rfl rfl (by simp) (by first | (simp [dR]; done) | (simp [dR]; omega)) rfl rfl) ?_
                refine RunK.cons (St1.fieldB (off := 1) (m := 0) (r := false) rfl rfl rfl rfl (by kernel_rfl) rfl rfl) ?_
                refine RunK.cons (St1.store (m := 1) (rw' := false) rfl rfl rfl (by kernel_rfl) rfl rfl rfl rfl rfl rfl rfl) ?_
                refine RunK.nil ⟨by kernel_rfl, ?_⟩
                refine kb_n ?_
                refine ks_n ?_
                refine ACode.region ?_
                refine AOps.cons (St1.move rfl rfl rfl rfl rfl) ?_
                refine AOps.cons (St1.add rfl rfl rfl rfl rfl rfl (by omega)) ?_
                refine AOps.cons (St1.assign rfl rfl rfl rfl rfl) ?_
                refine AOps.nil ?_
                refine kl_n (σ2 := [(.t 0, .v (.o (vD (dLs (init ++ [l0]))))), (.t 3, .v (.o (.c (.own 130 2 (i))))), (.t 4, .v (.o (nat1 ((i : Nat))))), (.t 5, .v (.o (.c (.box 131 2 0 0)))), (.t 8, .v (.o (nat1 (1 : Nat)))), (.b 130, .b 67 2 (dR ((init.take i).map rL))), (.u 130, .u), (.b 132, .b 51 2 (dR ((l.2.take 1).map rA))), (.u 132, .u), (.b 131, .b 67 2 [[.d (dAs l.1), .own 132 2 (1)]]), (.u 131, .u)]) ((l.2.length - 1)) (by omega) (Wk.keep [(130, 130), (131, 131), (132, 176)] rfl rfl ⟨⟨_, rfl, Vto.dat _ _ (by first | rfl | exact congrArg (fun z => V.o (nat1 z)) (by omega) | (simp; done) | omega) rfl⟩, ⟨_, rfl, Vto.c (.own _ _ _ _ _ (by first | decide | simp) (by first | rfl | exact congrArg (fun z => V.o (nat1 z)) (by omega) | (simp; done) | omega))⟩, ⟨_, rfl, Vto.dat _ _ (by first | rfl | exact congrArg (fun z => V.o (nat1 z)) (by omega) | (simp; done) | omega) rfl⟩, ⟨_, rfl, Vto.c (.box _ _ _ _ _ _ (by first | decide | simp) rfl)⟩, ⟨_, rfl, Vto.dat _ _ (by first | rfl | exact congrArg (fun z => V.o (nat1 z)) (by omega) | (simp; done) | omega) rfl⟩, ⟨130, _, (by first | decide | simp), rfl, Rto.dat _ _ _ (by first | exact dR_take rL hl | rfl | (rw [List.take_length, dR_app]; done) | (rw [List.take_length]; done) | (simp [dR]; done)) rfl⟩, ⟨176, _, (by first | decide | simp), rfl, Rto.dat _ _ _ (by first | exact dR_take rA hx | exact dR_take1 rA hx | rfl | (rw [List.take_length]; done) | (simp [dR]; done)) rfl⟩, ⟨131, _, (by first | decide | simp), rfl, .cons (.cons (.d _ _ (by first | rfl | exact congrArg (fun z => V.o (nat1 z)) (by omega) | (simp; done) | omega)) (.cons (.own _ _ _ _ _ (by first | decide | simp) (by first | rfl | exact congrArg (fun z => V.o (nat1 z)) (by omega) | (simp; done) | omega)) Ctos.nil)) .nil⟩, trivial⟩) (.inr ⟨1, rfl, by omega, by omega, rfl⟩)
              · try simp only [List.length_map, decide_eq_true_eq, decide_eq_false_iff_not, Bool.not_eq_true', Bool.not_eq_false', Bool.not_eq_true, Bool.not_eq_false] at h55
                have hn2 : l.2 = [] := List.eq_nil_of_length_eq_zero (by omega)
                refine ACode.exit ?_
                refine ks_e ?_
                refine kl_e ?_
                refine kb_hit ?_
                refine ks_n ?_
                refine ACode.wk (σ' := [(.t 0, .v (.o (vD (dLs (init ++ [l0]))))), (.t 3, .v (.o (.c (.own 860 2 (i))))), (.t 4, .v (.o (nat1 ((i : Nat))))), (.t 5, .v (.o (.c (.box 861 2 0 0)))), (.b 860, .b 67 2 (dR ((init.take i).map rL))), (.u 860, .u), (.b 861, .b 67 2 [[.d (dAs l.1), .d (dAs l.2)]]), (.u 861, .u)]) (Wk.keep [(860, 130), (861, 131)] rfl rfl ⟨⟨_, rfl, Vto.dat _ _ (by first | rfl | exact congrArg (fun z => V.o (nat1 z)) (by omega) | (simp; done) | omega) rfl⟩, ⟨_, rfl, Vto.c (.own _ _ _ _ _ (by first | decide | simp) (by first | rfl | exact congrArg (fun z => V.o (nat1 z)) (by omega) | (simp; done) | omega))⟩, ⟨_, rfl, Vto.dat _ _ (by first | rfl | exact congrArg (fun z => V.o (nat1 z)) (by omega) | (simp; done) | omega) rfl⟩, ⟨_, rfl, Vto.c (.box _ _ _ _ _ _ (by first | decide | simp) rfl)⟩, ⟨130, _, (by first | decide | simp), rfl, Rto.dat _ _ _ (by first | exact dR_take rL hl | rfl | (rw [List.take_length, dR_app]; done) | (rw [List.take_length]; done) | (simp [dR]; done)) rfl⟩, ⟨131, _, (by first | decide | simp), rfl, .cons (.cons (.d _ _ (by first | rfl | exact congrArg (fun z => V.o (nat1 z)) (by omega) | (simp; done) | omega)) (.cons (Cto.nilE 2 (by rw [hn2]; rfl)) Ctos.nil)) .nil⟩, trivial⟩) ?_
                refine ACode.region ?_
                refine AOps.cons (St1.move rfl rfl rfl rfl rfl) ?_
                refine AOps.cons (St1.loadBN (m := 2) rfl rfl rfl rfl (by kernel_rfl) rfl rfl rfl rfl rfl) ?_
                refine AOps.cons (St1.lit (e := 67) (sz := 1) (m := 0) (xs := [.tmp 79]) rfl rfl rfl rfl rfl (by kernel_rfl) rfl rfl rfl rfl) ?_
                refine AOps.cons (St1.appB (k' := 181) (e := 67) (sz := 1) (by' := 48) rfl rfl rfl rfl rfl (by kernel_rfl) rfl rfl rfl rfl (by first | (simp [dR]; done) | (simp [dR]; omega)) (by first | (simp [dR]; done) | (simp [dR]; omega)) rfl rfl rfl) ?_
                refine AOps.cons (St1.assign rfl rfl rfl rfl rfl) ?_
                refine AOps.nil ?_
                refine kb_n ?_
                refine ks_n ?_
                refine ACode.region ?_
                refine AOps.cons (St1.move rfl rfl rfl rfl rfl) ?_
                refine AOps.cons (St1.add rfl rfl rfl rfl rfl rfl (by omega)) ?_
                refine AOps.cons (St1.assign rfl rfl rfl rfl rfl) ?_
                refine AOps.nil ?_
                refine kl_n (σ2 := [(.t 0, .v (.o (vD (dLs (init ++ [l0]))))), (.t 3, .v (.o (.c (.own 110 2 ((i + 1)))))), (.t 4, .v (.o (nat1 ((i + 1) : Nat)))), (.b 110, .b 67 2 (dR ((init.take (i + 1)).map rL))), (.u 110, .u)]) ((init.length + 1 - (i + 1))) (by omega) (Wk.keep [(110, 181)] rfl rfl ⟨⟨_, rfl, Vto.dat _ _ (by first | rfl | exact congrArg (fun z => V.o (nat1 z)) (by omega) | (simp; done) | omega) rfl⟩, ⟨_, rfl, Vto.c (.own _ _ _ _ _ (by first | decide | simp) (by first | rfl | exact congrArg (fun z => V.o (nat1 z)) (by omega) | (simp; done) | omega))⟩, ⟨_, rfl, Vto.dat _ _ (by first | rfl | exact congrArg (fun z => V.o (nat1 z)) (by omega) | (simp; done) | omega) rfl⟩, ⟨181, _, (by first | decide | simp), rfl, Rto.dat _ _ _ (by first | exact dR_take rL hl | rfl | (rw [List.take_length, dR_app]; done) | (rw [List.take_length]; done) | (simp [dR]; done)) rfl⟩, trivial⟩) (.inl ⟨i + 1, rfl, by omega, rfl⟩)
            · skip
              refine ACode.seq ?_
              refine ACode.seq ?_
              refine ACode.region ?_
              refine AOps.cons (St1.move rfl rfl rfl rfl rfl) ?_
              refine AOps.cons (St1.move rfl rfl rfl rfl rfl) ?_
              refine AOps.cons (St1.move rfl rfl rfl rfl rfl) ?_
              refine AOps.cons (St1.indexL (e := 67) (sz := 2) (by' := 48) rfl rfl rfl rfl (by kernel_rfl) rfl rfl rfl rfl (by first | exact map_at (by assumption) | rfl)) ?_
              refine AOps.cons (St1.fieldP (off := 1) (m := 0) (r := false) rfl rfl rfl rfl (by kernel_rfl) rfl) ?_
              refine AOps.cons (St1.loadP1 (m := 1) rfl rfl rfl rfl (by kernel_rfl) rfl) ?_
              refine AOps.cons (St1.lenL (e := 51) (m := 2) (by' := 32) rfl rfl rfl rfl rfl (by kernel_rfl) rfl (by first | exact List.length_map _ | rfl)) ?_
              refine AOps.cons (St1.lss rfl rfl rfl rfl rfl rfl) ?_
              refine AOps.nil ?_
              refine ks_n ?_
              refine ACode.condT rfl (fun h55 => ?_) (fun h55 => ?_)
              · try simp only [List.length_map, decide_eq_true_eq, decide_eq_false_iff_not, Bool.not_eq_true', Bool.not_eq_false', Bool.not_eq_true, Bool.not_eq_false] at h55
                obtain ⟨x, hx, hxs⟩ := at_sm hld (show q < l.2.length by omega)
                refine ACode.skip ?_
                refine ks_n ?_
                refine ACode.seq ?_
                refine ACode.block ?_
                refine ACode.seq ?_
                refine ACode.region ?_
                refine AOps.cons (St1.move rfl rfl rfl rfl rfl) ?_
                refine AOps.cons (St1.move rfl rfl rfl rfl rfl) ?_
                refine AOps.cons (St1.indexL (e := 67) (sz := 2) (by' := 48) rfl rfl rfl rfl (by kernel_rfl) rfl rfl rfl rfl (by first | exact map_at (by assumption) | rfl)) ?_
                refine AOps.cons (St1.fieldP (off := 1) (m := 0) (r := false) rfl rfl rfl rfl (by kernel_rfl) rfl) ?_
                refine AOps.cons (St1.loadP1 (m := 1) rfl rfl rfl rfl (by kernel_rfl) rfl) ?_
                refine AOps.cons (St1.move rfl rfl rfl rfl rfl) ?_
                refine AOps.cons (St1.indexL (e := 51) (sz := 2) (by' := 32) rfl rfl rfl rfl (by kernel_rfl) rfl rfl rfl rfl (by first | exact map_at (by assumption) | rfl)) ?_
                refine AOps.cons (St1.loadPN (m := 2) rfl rfl rfl rfl (by kernel_rfl) rfl rfl) ?_
                refine AOps.cons (St1.alloc (k' := 109) (zs := [.slice none 0 0, .int .i64 0]) rfl rfl rfl rfl (by kernel_rfl) rfl rfl rfl) ?_
                refine AOps.cons (St1.store (m := 2) (rw' := true) rfl rfl rfl (by kernel_rfl) rfl rfl rfl rfl rfl rfl rfl) ?_
                refine AOps.nil ?_
                refine ks_n ?_
                refine ACode.drawK (by kernel_rfl) (by kernel_rfl) ?_
                refine RunK.cons (St1.fieldB (off := 1) (m := 0) (r := false) rfl rfl rfl rfl (by kernel_rfl) rfl rfl) ?_
                refine RunK.cons (St1.loadB1 (m := 1) rfl rfl rfl rfl (by kernel_rfl) rfl rfl rfl rfl rfl) ?_
                refine RunK.cons (St1.lit0 (k' := 168) (e := 3) (sz := 1) (b := true) rfl rfl rfl rfl (by kernel_rfl) rfl rfl) ?_
                refine RunK.cons (St1.fieldB (off := 0) (m := 0) (r := false) rfl rfl rfl rfl (by kernel_rfl) rfl rfl) ?_
                refine RunK.cons (St1.loadB1 (m := 1) rfl rfl rfl rfl (by kernel_rfl) rfl rfl rfl rfl rfl) ?_
                refine RunK.cons (St1.appD (rows := []) (e := 3) (sz := 0) (by' := 8) rfl rfl rfl rfl rfl (by kernel_rfl) rfl rfl rfl rfl rfl (by simp; omega) rfl) ?_
                refine RunK.cons (St1.fieldB (off := 1) (m := 0) (r := false) rfl rfl rfl rfl (by kernel_rfl) rfl rfl) ?_
                refine RunK.cons (St1.loadB1 (m := 1) rfl rfl rfl rfl (by kernel_rfl) rfl rfl rfl rfl rfl) ?_
                refine RunK.cons (St1.build (pl := [(0, .tmp 71), (1, .tmp 73)]) (places := [(0, 1), (1, 1)]) (zs := [.slice none 0 0, .int .i64 0]) rfl rfl rfl rfl rfl (by kernel_rfl) rfl rfl rfl) ?_
                refine RunK.cons (St1.lit (e := 51) (sz := 1) (m := 0) (xs := [.tmp 74]) rfl rfl rfl rfl rfl (by kernel_rfl) rfl rfl rfl rfl) ?_
                refine RunK.cons (St1.appB (k' := 176) (e := 51) (sz := 1) (by' := 32) rfl rfl rfl rfl rfl (by kernel_rfl) rfl rfl rfl rfl (by first | (simp [dR]; done) | (simp [dR]; omega)) (by first | (simp [dR]; done) | (simp [dR]; omega)) rfl rfl rfl) ?_
                refine RunK.cons (St1.fieldB (off := 1) (m := 0) (r := false) rfl rfl rfl rfl (by kernel_rfl) rfl rfl) ?_
                refine RunK.cons (St1.store (m := 1) (rw' := false) rfl rfl rfl (by kernel_rfl) rfl rfl rfl rfl rfl rfl rfl) ?_
                refine RunK.nil ⟨by kernel_rfl, ?_⟩
                refine kb_n ?_
                refine ks_n ?_
                refine ACode.region ?_
                refine AOps.cons (St1.move rfl rfl rfl rfl rfl) ?_
                refine AOps.cons (St1.add rfl rfl rfl rfl rfl rfl (by omega)) ?_
                refine AOps.cons (St1.assign rfl rfl rfl rfl rfl) ?_
                refine AOps.nil ?_
                refine kl_n (σ2 := [(.t 0, .v (.o (vD (dLs (init ++ [l0]))))), (.t 3, .v (.o (.c (.own 130 2 (i))))), (.t 4, .v (.o (nat1 ((i : Nat))))), (.t 5, .v (.o (.c (.box 131 2 0 0)))), (.t 8, .v (.o (nat1 ((q + 1) : Nat)))), (.b 130, .b 67 2 (dR ((init.take i).map rL))), (.u 130, .u), (.b 132, .b 51 2 (dR ((l.2.take (q + 1)).map rA))), (.u 132, .u), (.b 131, .b 67 2 [[.d (dAs l.1), .own 132 2 ((q + 1))]]), (.u 131, .u)]) ((l.2.length - (q + 1))) (by omega) (Wk.keep [(130, 130), (131, 131), (132, 176)] rfl rfl ⟨⟨_, rfl, Vto.dat _ _ (by first | rfl | exact congrArg (fun z => V.o (nat1 z)) (by omega) | (simp; done) | omega) rfl⟩, ⟨_, rfl, Vto.c (.own _ _ _ _ _ (by first | decide | simp) (by first | rfl | exact congrArg (fun z => V.o (nat1 z)) (by omega) | (simp; done) | omega))⟩, ⟨_, rfl, Vto.dat _ _ (by first | rfl | exact congrArg (fun z => V.o (nat1 z)) (by omega) | (simp; done) | omega) rfl⟩, ⟨_, rfl, Vto.c (.box _ _ _ _ _ _ (by first | decide | simp) rfl)⟩, ⟨_, rfl, Vto.dat _ _ (by first | rfl | exact congrArg (fun z => V.o (nat1 z)) (by omega) | (simp; done) | omega) rfl⟩, ⟨130, _, (by first | decide | simp), rfl, Rto.dat _ _ _ (by first | exact dR_take rL hl | rfl | (rw [List.take_length, dR_app]; done) | (rw [List.take_length]; done) | (simp [dR]; done)) rfl⟩, ⟨176, _, (by first | decide | simp), rfl, Rto.dat _ _ _ (by first | exact dR_take rA hx | exact dR_take1 rA hx | rfl | (rw [List.take_length]; done) | (simp [dR]; done)) rfl⟩, ⟨131, _, (by first | decide | simp), rfl, .cons (.cons (.d _ _ (by first | rfl | exact congrArg (fun z => V.o (nat1 z)) (by omega) | (simp; done) | omega)) (.cons (.own _ _ _ _ _ (by first | decide | simp) (by first | rfl | exact congrArg (fun z => V.o (nat1 z)) (by omega) | (simp; done) | omega)) Ctos.nil)) .nil⟩, trivial⟩) (.inr ⟨q + 1, rfl, by omega, by omega, rfl⟩)
              · try simp only [List.length_map, decide_eq_true_eq, decide_eq_false_iff_not, Bool.not_eq_true', Bool.not_eq_false', Bool.not_eq_true, Bool.not_eq_false] at h55
                obtain rfl : q = l.2.length := by omega
                refine ACode.exit ?_
                refine ks_e ?_
                refine kl_e ?_
                refine kb_hit ?_
                refine ks_n ?_
                refine ACode.wk (σ' := [(.t 0, .v (.o (vD (dLs (init ++ [l0]))))), (.t 3, .v (.o (.c (.own 860 2 (i))))), (.t 4, .v (.o (nat1 ((i : Nat))))), (.t 5, .v (.o (.c (.box 861 2 0 0)))), (.b 860, .b 67 2 (dR ((init.take i).map rL))), (.u 860, .u), (.b 861, .b 67 2 [[.d (dAs l.1), .d (dAs l.2)]]), (.u 861, .u)]) (Wk.keep [(860, 130), (861, 131)] rfl rfl ⟨⟨_, rfl, Vto.dat _ _ (by first | rfl | exact congrArg (fun z => V.o (nat1 z)) (by omega) | (simp; done) | omega) rfl⟩, ⟨_, rfl, Vto.c (.own _ _ _ _ _ (by first | decide | simp) (by first | rfl | exact congrArg (fun z => V.o (nat1 z)) (by omega) | (simp; done) | omega))⟩, ⟨_, rfl, Vto.dat _ _ (by first | rfl | exact congrArg (fun z => V.o (nat1 z)) (by omega) | (simp; done) | omega) rfl⟩, ⟨_, rfl, Vto.c (.box _ _ _ _ _ _ (by first | decide | simp) rfl)⟩, ⟨130, _, (by first | decide | simp), rfl, Rto.dat _ _ _ (by first | exact dR_take rL hl | rfl | (rw [List.take_length, dR_app]; done) | (rw [List.take_length]; done) | (simp [dR]; done)) rfl⟩, ⟨131, _, (by first | decide | simp), rfl, .cons (.cons (.d _ _ (by first | rfl | exact congrArg (fun z => V.o (nat1 z)) (by omega) | (simp; done) | omega)) (.cons (.frz _ _ _ _ _ _ rfl (by first | rfl | (rw [List.take_length]; done)) rfl rfl (by first | rfl | (simp; done) | (simp; omega)) (by omega)) Ctos.nil)) .nil⟩, trivial⟩) ?_
                refine ACode.region ?_
                refine AOps.cons (St1.move rfl rfl rfl rfl rfl) ?_
                refine AOps.cons (St1.loadBN (m := 2) rfl rfl rfl rfl (by kernel_rfl) rfl rfl rfl rfl rfl) ?_
                refine AOps.cons (St1.lit (e := 67) (sz := 1) (m := 0) (xs := [.tmp 79]) rfl rfl rfl rfl rfl (by kernel_rfl) rfl rfl rfl rfl) ?_
                refine AOps.cons (St1.appB (k' := 181) (e := 67) (sz := 1) (by' := 48) rfl rfl rfl rfl rfl (by kernel_rfl) rfl rfl rfl rfl (by first | (simp [dR]; done) | (simp [dR]; omega)) (by first | (simp [dR]; done) | (simp [dR]; omega)) rfl rfl rfl) ?_
                refine AOps.cons (St1.assign rfl rfl rfl rfl rfl) ?_
                refine AOps.nil ?_
                refine kb_n ?_
                refine ks_n ?_
                refine ACode.region ?_
                refine AOps.cons (St1.move rfl rfl rfl rfl rfl) ?_
                refine AOps.cons (St1.add rfl rfl rfl rfl rfl rfl (by omega)) ?_
                refine AOps.cons (St1.assign rfl rfl rfl rfl rfl) ?_
                refine AOps.nil ?_
                refine kl_n (σ2 := [(.t 0, .v (.o (vD (dLs (init ++ [l0]))))), (.t 3, .v (.o (.c (.own 110 2 ((i + 1)))))), (.t 4, .v (.o (nat1 ((i + 1) : Nat)))), (.b 110, .b 67 2 (dR ((init.take (i + 1)).map rL))), (.u 110, .u)]) ((init.length + 1 - (i + 1))) (by omega) (Wk.keep [(110, 181)] rfl rfl ⟨⟨_, rfl, Vto.dat _ _ (by first | rfl | exact congrArg (fun z => V.o (nat1 z)) (by omega) | (simp; done) | omega) rfl⟩, ⟨_, rfl, Vto.c (.own _ _ _ _ _ (by first | decide | simp) (by first | rfl | exact congrArg (fun z => V.o (nat1 z)) (by omega) | (simp; done) | omega))⟩, ⟨_, rfl, Vto.dat _ _ (by first | rfl | exact congrArg (fun z => V.o (nat1 z)) (by omega) | (simp; done) | omega) rfl⟩, ⟨181, _, (by first | decide | simp), rfl, Rto.dat _ _ _ (by first | exact dR_take rL hl | rfl | (rw [List.take_length, dR_app]; done) | (rw [List.take_length]; done) | (simp [dR]; done)) rfl⟩, trivial⟩) (.inl ⟨i + 1, rfl, by omega, rfl⟩)
      · skip
        obtain rfl : i = init.length := by omega
        have hn : (init ++ [l0])[init.length]? = some l0 := by simp
        obtain ⟨hla, hlb, hlc, hld⟩ := hs2 l0 (by first | exact List.mem_of_getElem? hn | simp)
        refine ACode.region ?_
        refine AOps.cons (St1.build (pl := []) (places := [(0, 1), (1, 1)]) (zs := [.slice none 0 0, .slice none 0 0]) rfl rfl rfl rfl rfl (by kernel_rfl) rfl rfl rfl) ?_
        refine AOps.cons (St1.alloc (k' := 105) (zs := [.slice none 0 0, .slice none 0 0]) rfl rfl rfl rfl (by kernel_rfl) rfl rfl rfl) ?_
        refine AOps.cons (St1.store (m := 2) (rw' := true) rfl rfl rfl (by kernel_rfl) rfl rfl rfl rfl rfl rfl rfl) ?_
        refine AOps.nil ?_
        refine ks_n ?_
        refine ACode.seq ?_
        refine ACode.seq ?_
        refine ACode.region ?_
        refine AOps.cons (St1.assign rfl rfl rfl rfl rfl) ?_
        refine AOps.nil ?_
        refine ks_n ?_
        refine ACode.block ?_
        refine ACode.wk (σ' := [(.t 0, .v (.o (vD (dLs (init ++ [l0]))))), (.t 3, .v (.o (.c (.own 120 2 (init.length))))), (.t 4, .v (.o (nat1 ((init.length : Nat))))), (.t 5, .v (.o (.c (.box 121 2 0 0)))), (.t 6, .v (.o (nat1 (0 : Nat)))), (.b 120, .b 67 2 (dR ((init.take init.length).map rL))), (.u 120, .u), (.b 121, .b 67 2 [[.d (.val (.slice none 0 0)), .d (.val (.slice none 0 0))]]), (.u 121, .u)]) (Wk.keep [(120, 110), (121, 105)] rfl rfl ⟨⟨_, rfl, Vto.dat _ _ (by first | rfl | exact congrArg (fun z => V.o (nat1 z)) (by omega) | (simp; done) | omega) rfl⟩, ⟨_, rfl, Vto.c (.own _ _ _ _ _ (by first | decide | simp) (by first | rfl | exact congrArg (fun z => V.o (nat1 z)) (by omega) | (simp; done) | omega))⟩, ⟨_, rfl, Vto.dat _ _ (by first | rfl | exact congrArg (fun z => V.o (nat1 z)) (by omega) | (simp; done) | omega) rfl⟩, ⟨_, rfl, Vto.c (.box _ _ _ _ _ _ (by first | decide | simp) rfl)⟩, ⟨_, rfl, Vto.dat _ _ (by first | rfl | exact congrArg (fun z => V.o (nat1 z)) (by omega) | (simp; done) | omega) rfl⟩, ⟨110, _, (by first | decide | simp), rfl, Rto.dat _ _ _ (by first | exact dR_take rL hl | rfl | (rw [List.take_length, dR_app]; done) | (rw [List.take_length]; done) | (simp [dR]; done)) rfl⟩, ⟨105, _, (by first | decide | simp), rfl, .cons (.cons (.d _ _ (by first | rfl | exact congrArg (fun z => V.o (nat1 z)) (by omega) | (simp; done) | omega)) (.cons (.d _ _ (by first | rfl | exact congrArg (fun z => V.o (nat1 z)) (by omega) | (simp; done) | omega)) Ctos.nil)) .nil⟩, trivial⟩) ?_
        refine ACode.loop (fun m σ => (∃ k : Nat, m = l0.1.length - k ∧ (k = 0) ∧ σ = [(.t 0, .v (.o (vD (dLs (init ++ [l0]))))), (.t 3, .v (.o (.c (.own 120 2 (init.length))))), (.t 4, .v (.o (nat1 ((init.length : Nat))))), (.t 5, .v (.o (.c (.box 121 2 0 0)))), (.t 6, .v (.o (nat1 (k : Nat)))), (.b 120, .b 67 2 (dR ((init.take init.length).map rL))), (.u 120, .u), (.b 121, .b 67 2 [[.d (.val (.slice none 0 0)), .d (.val (.slice none 0 0))]]), (.u 121, .u)]) ∨ (∃ k : Nat, m = l0.1.length - k ∧ (1 ≤ k) ∧ (k ≤ l0.1.length) ∧ σ = [(.t 0, .v (.o (vD (dLs (init ++ [l0]))))), (.t 3, .v (.o (.c (.own 120 2 (init.length))))), (.t 4, .v (.o (nat1 ((init.length : Nat))))), (.t 5, .v (.o (.c (.box 121 2 0 0)))), (.t 6, .v (.o (nat1 (k : Nat)))), (.b 120, .b 67 2 (dR ((init.take init.length).map rL))), (.u 120, .u), (.b 122, .b 51 2 (dR ((l0.1.take k).map rA))), (.u 122, .u), (.b 121, .b 67 2 [[.own 122 2 (k), .d (.val (.slice none 0 0))]]), (.u 121, .u)])) ((l0.1.length - 0)) (.inl ⟨0, rfl, rfl, rfl⟩) ?_
        rintro m σ (⟨k, hm0, rfl, rfl⟩ | ⟨k, hm0, hk1, hk2, rfl⟩)
        · skip
          refine ACode.seq ?_
          refine ACode.seq ?_
          refine ACode.region ?_
          refine AOps.cons (St1.move rfl rfl rfl rfl rfl) ?_
          refine AOps.cons (St1.move rfl rfl rfl rfl rfl) ?_
          refine AOps.cons (St1.move rfl rfl rfl rfl rfl) ?_
          refine AOps.cons (St1.indexL (e := 67) (sz := 2) (by' := 48) rfl rfl rfl rfl (by kernel_rfl) rfl rfl rfl rfl (by first | exact map_at (by assumption) | rfl)) ?_
          refine AOps.cons (St1.fieldP (off := 0) (m := 0) (r := false) rfl rfl rfl rfl (by kernel_rfl) rfl) ?_
          refine AOps.cons (St1.loadP1 (m := 1) rfl rfl rfl rfl (by kernel_rfl) rfl) ?_
          refine AOps.cons (St1.lenL (e := 51) (m := 2) (by' := 32) rfl rfl rfl rfl rfl (by kernel_rfl) rfl (by first | exact List.length_map _ | rfl)) ?_
          refine AOps.cons (St1.lss rfl rfl rfl rfl rfl rfl) ?_
          refine AOps.nil ?_
          refine ks_n ?_
          refine ACode.condT rfl (fun h25 => ?_) (fun h25 => ?_)
          · try simp only [List.length_map, decide_eq_true_eq, decide_eq_false_iff_not, Bool.not_eq_true', Bool.not_eq_false', Bool.not_eq_true, Bool.not_eq_false] at h25
            obtain ⟨x, hx, hxs⟩ := at_sm hlc (show 0 < l0.1.length by omega)
            refine ACode.skip ?_
            refine ks_n ?_
            refine ACode.seq ?_
            refine ACode.block ?_
            refine ACode.seq ?_
            refine ACode.region ?_
            refine AOps.cons (St1.move rfl rfl rfl rfl rfl) ?_
            refine AOps.cons (St1.move rfl rfl rfl rfl rfl) ?_
            refine AOps.cons (St1.indexL (e := 67) (sz := 2) (by' := 48) rfl rfl rfl rfl (by kernel_rfl) rfl rfl rfl rfl (by first | exact map_at (by assumption) | rfl)) ?_
            refine AOps.cons (St1.fieldP (off := 0) (m := 0) (r := false) rfl rfl rfl rfl (by kernel_rfl) rfl) ?_
            refine AOps.cons (St1.loadP1 (m := 1) rfl rfl rfl rfl (by kernel_rfl) rfl) ?_
            refine AOps.cons (St1.move rfl rfl rfl rfl rfl) ?_
            refine AOps.cons (St1.indexL (e := 51) (sz := 2) (by' := 32) rfl rfl rfl rfl (by kernel_rfl) rfl rfl rfl rfl (by first | exact map_at (by assumption) | rfl)) ?_
            refine AOps.cons (St1.loadPN (m := 2) rfl rfl rfl rfl (by kernel_rfl) rfl rfl) ?_
            refine AOps.cons (St1.alloc (k' := 107) (zs := [.slice none 0 0, .int .i64 0]) rfl rfl rfl rfl (by kernel_rfl) rfl rfl rfl) ?_
            refine AOps.cons (St1.store (m := 2) (rw' := true) rfl rfl rfl (by kernel_rfl) rfl rfl rfl rfl rfl rfl rfl) ?_
            refine AOps.nil ?_
            refine ks_n ?_
            refine ACode.drawK (by kernel_rfl) (by kernel_rfl) ?_
            refine RunK.cons (St1.fieldB (off := 0) (m := 0) (r := false) rfl rfl rfl rfl (by kernel_rfl) rfl rfl) ?_
            refine RunK.cons (St1.loadB1 (m := 1) rfl rfl rfl rfl (by kernel_rfl) rfl rfl rfl rfl rfl) ?_
            refine RunK.cons (St1.lit0 (k' := 138) (e := 3) (sz := 1) (b := true) rfl rfl rfl rfl (by kernel_rfl) rfl rfl) ?_
            refine RunK.cons (St1.fieldB (off := 0) (m := 0) (r := false) rfl rfl rfl rfl (by kernel_rfl) rfl rfl) ?_
            refine RunK.cons (St1.loadB1 (m := 1) rfl rfl rfl rfl (by kernel_rfl) rfl rfl rfl rfl rfl) ?_
            refine RunK.cons (St1.appD (rows := []) (e := 3) (sz := 0) (by' := 8) rfl rfl rfl rfl rfl (by kernel_rfl) rfl rfl rfl rfl rfl (by simp; omega) rfl) ?_
            refine RunK.cons (St1.fieldB (off := 1) (m := 0) (r := false) rfl rfl rfl rfl (by kernel_rfl) rfl rfl) ?_
            refine RunK.cons (St1.loadB1 (m := 1) rfl rfl rfl rfl (by kernel_rfl) rfl rfl rfl rfl rfl) ?_
            refine RunK.cons (St1.build (pl := [(0, .tmp 41), (1, .tmp 43)]) (places := [(0, 1), (1, 1)]) (zs := [.slice none 0 0, .int .i64 0]) rfl rfl rfl rfl rfl (by kernel_rfl) rfl rfl rfl) ?_
            refine RunK.cons (St1.lit (e := 51) (sz := 1) (m := 0) (xs := [.tmp 44]) rfl rfl rfl rfl rfl (by kernel_rfl) rfl rfl rfl rfl) ?_
            refine RunK.cons (St1.appN (k' := 146) (e := 51) (sz := 1) (by' := 32) rfl rfl rfl rfl rfl (by kernel_rfl) rfl rfl rfl (by simp) (by first | (simp [dR]; done) | (simp [dR]; omega)) rfl rfl) ?_
            refine RunK.cons (St1.fieldB (off := 0) (m := 0) (r := false) rfl rfl rfl rfl (by kernel_rfl) rfl rfl) ?_
            refine RunK.cons (St1.store (m := 1) (rw' := false) rfl rfl rfl (by kernel_rfl) rfl rfl rfl rfl rfl rfl rfl) ?_
            refine RunK.nil ⟨by kernel_rfl, ?_⟩
            refine kb_n ?_
            refine ks_n ?_
            refine ACode.region ?_
            refine AOps.cons (St1.move rfl rfl rfl rfl rfl) ?_
            refine AOps.cons (St1.add rfl rfl rfl rfl rfl rfl (by omega)) ?_
            refine AOps.cons (St1.assign rfl rfl rfl rfl rfl) ?_
            refine AOps.nil ?_
            refine kl_n (σ2 := [(.t 0, .v (.o (vD (dLs (init ++ [l0]))))), (.t 3, .v (.o (.c (.own 120 2 (init.length))))), (.t 4, .v (.o (nat1 ((init.length : Nat))))), (.t 5, .v (.o (.c (.box 121 2 0 0)))), (.t 6, .v (.o (nat1 (1 : Nat)))), (.b 120, .b 67 2 (dR ((init.take init.length).map rL))), (.u 120, .u), (.b 122, .b 51 2 (dR ((l0.1.take 1).map rA))), (.u 122, .u), (.b 121, .b 67 2 [[.own 122 2 (1), .d (.val (.slice none 0 0))]]), (.u 121, .u)]) ((l0.1.length - 1)) (by omega) (Wk.keep [(120, 120), (121, 121), (122, 146)] rfl rfl ⟨⟨_, rfl, Vto.dat _ _ (by first | rfl | exact congrArg (fun z => V.o (nat1 z)) (by omega) | (simp; done) | omega) rfl⟩, ⟨_, rfl, Vto.c (.own _ _ _ _ _ (by first | decide | simp) (by first | rfl | exact congrArg (fun z => V.o (nat1 z)) (by omega) | (simp; done) | omega))⟩, ⟨_, rfl, Vto.dat _ _ (by first | rfl | exact congrArg (fun z => V.o (nat1 z)) (by omega) | (simp; done) | omega) rfl⟩, ⟨_, rfl, Vto.c (.box _ _ _ _ _ _ (by first | decide | simp) rfl)⟩, ⟨_, rfl, Vto.dat _ _ (by first | rfl | exact congrArg (fun z => V.o (nat1 z)) (by omega) | (simp; done) | omega) rfl⟩, ⟨120, _, (by first | decide | simp), rfl, Rto.dat _ _ _ (by first | exact dR_take rL hl | rfl | (rw [List.take_length, dR_app]; done) | (rw [List.take_length]; done) | (simp [dR]; done)) rfl⟩, ⟨146, _, (by first | decide | simp), rfl, Rto.dat _ _ _ (by first | exact dR_take rA hx | exact dR_take1 rA hx | rfl | (rw [List.take_length]; done) | (simp [dR]; done)) rfl⟩, ⟨121, _, (by first | decide | simp), rfl, .cons (.cons (.own _ _ _ _ _ (by first | decide | simp) (by first | rfl | exact congrArg (fun z => V.o (nat1 z)) (by omega) | (simp; done) | omega)) (.cons (.d _ _ (by first | rfl | exact congrArg (fun z => V.o (nat1 z)) (by omega) | (simp; done) | omega)) Ctos.nil)) .nil⟩, trivial⟩) (.inr ⟨1, rfl, by omega, by omega, rfl⟩)
          · try simp only [List.length_map, decide_eq_true_eq, decide_eq_false_iff_not, Bool.not_eq_true', Bool.not_eq_false', Bool.not_eq_true, Bool.not_eq_false] at h25
            have hn1 : l0.1 = [] := List.eq_nil_of_length_eq_zero (by omega)
            refine ACode.exit ?_
            refine ks_e ?_
            refine kl_e ?_
            refine kb_hit ?_
            refine ks_n ?_
            refine ACode.seq ?_
            refine ACode.seq ?_
            refine ACode.region ?_
            refine AOps.cons (St1.assign rfl rfl rfl rfl rfl) ?_
            refine AOps.nil ?_
            refine ks_n ?_
            refine ACode.block ?_
            refine ACode.wk (σ' := [(.t 0, .v (.o (vD (dLs (init ++ [l0]))))), (.t 3, .v (.o (.c (.own 130 2 (init.length))))), (.t 4, .v (.o (nat1 ((init.length : Nat))))), (.t 5, .v (.o (.c (.box 131 2 0 0)))), (.t 8, .v (.o (nat1 (0 : Nat)))), (.b 130, .b 67 2 (dR ((init.take init.length).map rL))), (.u 130, .u), (.b 131, .b 67 2 [[.d (dAs l0.1), .d (.val (.slice none 0 0))]]), (.u 131, .u)]) (Wk.keep [(130, 120), (131, 121)] rfl rfl ⟨⟨_, rfl, Vto.dat _ _ (by first | rfl | exact congrArg (fun z => V.o (nat1 z)) (by omega) | (simp; done) | omega) rfl⟩, ⟨_, rfl, Vto.c (.own _ _ _ _ _ (by first | decide | simp) (by first | rfl | exact congrArg (fun z => V.o (nat1 z)) (by omega) | (simp; done) | omega))⟩, ⟨_, rfl, Vto.dat _ _ (by first | rfl | exact congrArg (fun z => V.o (nat1 z)) (by omega) | (simp; done) | omega) rfl⟩, ⟨_, rfl, Vto.c (.box _ _ _ _ _ _ (by first | decide | simp) rfl)⟩, ⟨_, rfl, Vto.dat _ _ (by first | rfl | exact congrArg (fun z => V.o (nat1 z)) (by omega) | (simp; done) | omega) rfl⟩, ⟨120, _, (by first | decide | simp), rfl, Rto.dat _ _ _ (by first | exact dR_take rL hl | rfl | (rw [List.take_length, dR_app]; done) | (rw [List.take_length]; done) | (simp [dR]; done)) rfl⟩, ⟨121, _, (by first | decide | simp), rfl, .cons (.cons (Cto.nilE 2 (by rw [hn1]; rfl)) (.cons (.d _ _ (by first | rfl | exact congrArg (fun z => V.o (nat1 z)) (by omega) | (simp; done) | omega)) Ctos.nil)) .nil⟩, trivial⟩) ?_
            refine ACode.loop (fun m σ => (∃ q : Nat, m = l0.2.length - q ∧ (q = 0) ∧ σ = [(.t 0, .v (.o (vD (dLs (init ++ [l0]))))), (.t 3, .v (.o (.c (.own 130 2 (init.length))))), (.t 4, .v (.o (nat1 ((init.length : Nat))))), (.t 5, .v (.o (.c (.box 131 2 0 0)))), (.t 8, .v (.o (nat1 (q : Nat)))), (.b 130, .b 67 2 (dR ((init.take init.length).map rL))), (.u 130, .u), (.b 131, .b 67 2 [[.d (dAs l0.1), .d (.val (.slice none 0 0))]]), (.u 131, .u)]) ∨ (∃ q : Nat, m = l0.2.length - q ∧ (1 ≤ q) ∧ (q ≤ l0.2.length) ∧ σ = [(.t 0, .v (.o (vD (dLs (init ++ [l0]))))), (.t 3, .v (.o (.c (.own 130 2 (init.length))))), (.t 4, .v (.o (nat1 ((init.length : Nat))))), (.t 5, .v (.o (.c (.box 131 2 0 0)))), (.t 8, .v (.o (nat1 (q : Nat)))), (.b 130, .b 67 2 (dR ((init.take init.length).map rL))), (.u 130, .u), (.b 132, .b 51 2 (dR ((l0.2.take q).map rA))), (.u 132, .u), (.b 131, .b 67 2 [[.d (dAs l0.1), .own 132 2 (q)]]), (.u 131, .u)])) ((l0.2.length - 0)) (.inl ⟨0, rfl, rfl, rfl⟩) ?_
            rintro m σ (⟨q, hm0, rfl, rfl⟩ | ⟨q, hm0, hq1, hq2, rfl⟩)
            · skip
              refine ACode.seq ?_
              refine ACode.seq ?_
              refine ACode.region ?_
              refine AOps.cons (St1.move rfl rfl rfl rfl rfl) ?_
              refine AOps.cons (St1.move rfl rfl rfl rfl rfl) ?_
              refine AOps.cons (St1.move rfl rfl rfl rfl rfl) ?_
              refine AOps.cons (St1.indexL (e := 67) (sz := 2) (by' := 48) rfl rfl rfl rfl (by kernel_rfl) rfl rfl rfl rfl (by first | exact map_at (by assumption) | rfl)) ?_
              refine AOps.cons (St1.fieldP (off := 1) (m := 0) (r := false) rfl rfl rfl rfl (by kernel_rfl) rfl) ?_
              refine AOps.cons (St1.loadP1 (m := 1) rfl rfl rfl rfl (by kernel_rfl) rfl) ?_
              refine AOps.cons (St1.lenL (e := 51) (m := 2) (by' := 32) rfl rfl rfl rfl rfl (by kernel_rfl) rfl (by first | exact List.length_map _ | rfl)) ?_
              refine AOps.cons (St1.lss rfl rfl rfl rfl rfl rfl) ?_
              refine AOps.nil ?_
              refine ks_n ?_
              refine ACode.condT rfl (fun h55 => ?_) (fun h55 => ?_)
              · try simp only [List.length_map, decide_eq_true_eq, decide_eq_false_iff_not, Bool.not_eq_true', Bool.not_eq_false', Bool.not_eq_true, Bool.not_eq_false] at h55
                obtain ⟨x, hx, hxs⟩ := at_sm hld (show 0 < l0.2.length by omega)
                refine ACode.skip ?_
                refine ks_n ?_
                refine ACode.seq ?_
                refine ACode.block ?_
                refine ACode.seq ?_
                refine ACode.region ?_
                refine AOps.cons (St1.move rfl rfl rfl rfl rfl) ?_
                refine AOps.cons (St1.move rfl rfl rfl rfl rfl) ?_
                refine AOps.cons (St1.indexL (e := 67) (sz := 2) (by' := 48) rfl rfl rfl rfl (by kernel_rfl) rfl rfl rfl rfl (by first | exact map_at (by assumption) | rfl)) ?_
                refine AOps.cons (St1.fieldP (off := 1) (m := 0) (r := false) rfl rfl rfl rfl (by kernel_rfl) rfl) ?_
                refine AOps.cons (St1.loadP1 (m := 1) rfl rfl rfl rfl (by kernel_rfl) rfl) ?_
                refine AOps.cons (St1.move rfl rfl rfl rfl rfl) ?_
                refine AOps.cons (St1.indexL (e := 51) (sz := 2) (by' := 32) rfl rfl rfl rfl (by kernel_rfl) rfl rfl rfl rfl (by first | exact map_at (by assumption) | rfl)) ?_
                refine AOps.cons (St1.loadPN (m := 2) rfl rfl rfl rfl (by kernel_rfl) rfl rfl) ?_
                refine AOps.cons (St1.alloc (k' := 109) (zs := [.slice none 0 0, .int .i64 0]) rfl rfl rfl rfl (by kernel_rfl) rfl rfl rfl) ?_
                refine AOps.cons (St1.store (m := 2) (rw' := true) rfl rfl rfl (by kernel_rfl) rfl rfl rfl rfl rfl rfl rfl) ?_
                refine AOps.nil ?_
                refine ks_n ?_
                refine ACode.drawK (by kernel_rfl) (by kernel_rfl) ?_
                refine RunK.cons (St1.fieldB (off := 1) (m := 0) (r := false) rfl rfl rfl rfl (by kernel_rfl) rfl rfl) ?_
                refine RunK.cons (St1.loadB1 (m := 1) rfl rfl rfl rfl (by kernel_rfl) rfl rfl rfl rfl rfl) ?_
                refine RunK.cons (St1.lit0 (k' := 168) (e := 3) (sz := 1) (b := true) rfl rfl rfl rfl (by kernel_rfl) rfl rfl) ?_
                refine RunK.cons (St1.fieldB (off := 0) (m := 0) (r := false) rfl rfl rfl rfl (by kernel_rfl) rfl rfl) ?_
                refine RunK.cons (St1.loadB1 (m := 1) rfl rfl rfl rfl (by kernel_rfl) rfl rfl rfl rfl rfl) ?_
                refine RunK.cons (St1.appD (rows := []) (e := 3) (sz := 0) (by' := 8) rfl rfl rfl rfl rfl (by kernel_rfl) rfl rfl rfl rfl rfl (by simp; omega) rfl) ?_
                refine RunK.cons (St1.fieldB (off := 1) (m := 0) (r := false) rfl rfl rfl rfl (by kernel_rfl) rfl rfl) ?_
                refine RunK.cons (St1.loadB1 (m := 1) rfl rfl rfl rfl (by kernel_rfl) rfl rfl rfl rfl rfl) ?_
                refine RunK.cons (St1.build (pl := [(0, .tmp 71), (1, .tmp 73)]) (places := [(0, 1), (1, 1)]) (zs := [.slice none 0 0, .int .i64 0]) rfl rfl rfl rfl rfl (by kernel_rfl) rfl rfl rfl) ?_
                refine RunK.cons (St1.lit (e := 51) (sz := 1) (m := 0) (xs := [.tmp 74]) rfl rfl rfl rfl rfl (by kernel_rfl) rfl rfl rfl rfl) ?_
                refine RunK.cons (St1.appN (k' := 176) (e := 51) (sz := 1) (by' := 32) rfl rfl rfl rfl rfl (by kernel_rfl) rfl rfl rfl (by simp) (by first | (simp [dR]; done) | (simp [dR]; omega)) rfl rfl) ?_
                refine RunK.cons (St1.fieldB (off := 1) (m := 0) (r := false) rfl rfl rfl rfl (by kernel_rfl) rfl rfl) ?_
                refine RunK.cons (St1.store (m := 1) (rw' := false) rfl rfl rfl (by kernel_rfl) rfl rfl rfl rfl rfl rfl rfl) ?_
                refine RunK.nil ⟨by kernel_rfl, ?_⟩
                refine kb_n ?_
                refine ks_n ?_
                refine ACode.region ?_
                refine AOps.cons (St1.move rfl rfl rfl rfl rfl) ?_
                refine AOps.cons (St1.add rfl rfl rfl rfl rfl rfl (by omega)) ?_
                refine AOps.cons (St1.assign rfl rfl rfl rfl rfl) ?_
                refine AOps.nil ?_
                refine kl_n (σ2 := [(.t 0, .v (.o (vD (dLs (init ++ [l0]))))), (.t 3, .v (.o (.c (.own 130 2 (init.length))))), (.t 4, .v (.o (nat1 ((init.length : Nat))))), (.t 5, .v (.o (.c (.box 131 2 0 0)))), (.t 8, .v (.o (nat1 (1 : Nat)))), (.b 130, .b 67 2 (dR ((init.take init.length).map rL))), (.u 130, .u), (.b 132, .b 51 2 (dR ((l0.2.take 1).map rA))), (.u 132, .u), (.b 131, .b 67 2 [[.d (dAs l0.1), .own 132 2 (1)]]), (.u 131, .u)]) ((l0.2.length - 1)) (by omega) (Wk.keep [(130, 130), (131, 131), (132, 176)] rfl rfl ⟨⟨_, rfl, Vto.dat _ _ (by first | rfl | exact congrArg (fun z => V.o (nat1 z)) (by omega) | (simp; done) | omega) rfl⟩, ⟨_, rfl, Vto.c (.own _ _ _ _ _ (by first | decide | simp) (by first | rfl | exact congrArg (fun z => V.o (nat1 z)) (by omega) | (simp; done) | omega))⟩, ⟨_, rfl, Vto.dat _ _ (by first | rfl | exact congrArg (fun z => V.o (nat1 z)) (by omega) | (simp; done) | omega) rfl⟩, ⟨_, rfl, Vto.c (.box _ _ _ _ _ _ (by first | decide | simp) rfl)⟩, ⟨_, rfl, Vto.dat _ _ (by first | rfl | exact congrArg (fun z => V.o (nat1 z)) (by omega) | (simp; done) | omega) rfl⟩, ⟨130, _, (by first | decide | simp), rfl, Rto.dat _ _ _ (by first | exact dR_take rL hl | rfl | (rw [List.take_length, dR_app]; done) | (rw [List.take_length]; done) | (simp [dR]; done)) rfl⟩, ⟨176, _, (by first | decide | simp), rfl, Rto.dat _ _ _ (by first | exact dR_take rA hx | exact dR_take1 rA hx | rfl | (rw [List.take_length]; done) | (simp [dR]; done)) rfl⟩, ⟨131, _, (by first | decide | simp), rfl, .cons (.cons (.d _ _ (by first | rfl | exact congrArg (fun z => V.o (nat1 z)) (by omega) | (simp; done) | omega)) (.cons (.own _ _ _ _ _ (by first | decide | simp) (by first | rfl | exact congrArg (fun z => V.o (nat1 z)) (by omega) | (simp; done) | omega)) Ctos.nil)) .nil⟩, trivial⟩) (.inr ⟨1, rfl, by omega, by omega, rfl⟩)
              · try simp only [List.length_map, decide_eq_true_eq, decide_eq_false_iff_not, Bool.not_eq_true', Bool.not_eq_false', Bool.not_eq_true, Bool.not_eq_false] at h55
                exact absurd (List.eq_nil_of_length_eq_zero (by omega)) h0
            · skip
              refine ACode.seq ?_
              refine ACode.seq ?_
              refine ACode.region ?_
              refine AOps.cons (St1.move rfl rfl rfl rfl rfl) ?_
              refine AOps.cons (St1.move rfl rfl rfl rfl rfl) ?_
              refine AOps.cons (St1.move rfl rfl rfl rfl rfl) ?_
              refine AOps.cons (St1.indexL (e := 67) (sz := 2) (by' := 48) rfl rfl rfl rfl (by kernel_rfl) rfl rfl rfl rfl (by first | exact map_at (by assumption) | rfl)) ?_
              refine AOps.cons (St1.fieldP (off := 1) (m := 0) (r := false) rfl rfl rfl rfl (by kernel_rfl) rfl) ?_
              refine AOps.cons (St1.loadP1 (m := 1) rfl rfl rfl rfl (by kernel_rfl) rfl) ?_
              refine AOps.cons (St1.lenL (e := 51) (m := 2) (by' := 32) rfl rfl rfl rfl rfl (by kernel_rfl) rfl (by first | exact List.length_map _ | rfl)) ?_
              refine AOps.cons (St1.lss rfl rfl rfl rfl rfl rfl) ?_
              refine AOps.nil ?_
              refine ks_n ?_
              refine ACode.condT rfl (fun h55 => ?_) (fun h55 => ?_)
              · try simp only [List.length_map, decide_eq_true_eq, decide_eq_false_iff_not, Bool.not_eq_true', Bool.not_eq_false', Bool.not_eq_true, Bool.not_eq_false] at h55
                obtain ⟨x, hx, hxs⟩ := at_sm hld (show q < l0.2.length by omega)
                refine ACode.skip ?_
                refine ks_n ?_
                refine ACode.seq ?_
                refine ACode.block ?_
                refine ACode.seq ?_
                refine ACode.region ?_
                refine AOps.cons (St1.move rfl rfl rfl rfl rfl) ?_
                refine AOps.cons (St1.move rfl rfl rfl rfl rfl) ?_
                refine AOps.cons (St1.indexL (e := 67) (sz := 2) (by' := 48) rfl rfl rfl rfl (by kernel_rfl) rfl rfl rfl rfl (by first | exact map_at (by assumption) | rfl)) ?_
                refine AOps.cons (St1.fieldP (off := 1) (m := 0) (r := false) rfl rfl rfl rfl (by kernel_rfl) rfl) ?_
                refine AOps.cons (St1.loadP1 (m := 1) rfl rfl rfl rfl (by kernel_rfl) rfl) ?_
                refine AOps.cons (St1.move rfl rfl rfl rfl rfl) ?_
                refine AOps.cons (St1.indexL (e := 51) (sz := 2) (by' := 32) rfl rfl rfl rfl (by kernel_rfl) rfl rfl rfl rfl (by first | exact map_at (by assumption) | rfl)) ?_
                refine AOps.cons (St1.loadPN (m := 2) rfl rfl rfl rfl (by kernel_rfl) rfl rfl) ?_
                refine AOps.cons (St1.alloc (k' := 109) (zs := [.slice none 0 0, .int .i64 0]) rfl rfl rfl rfl (by kernel_rfl) rfl rfl rfl) ?_
                refine AOps.cons (St1.store (m := 2) (rw' := true) rfl rfl rfl (by kernel_rfl) rfl rfl rfl rfl rfl rfl rfl) ?_
                refine AOps.nil ?_
                refine ks_n ?_
                refine ACode.drawK (by kernel_rfl) (by kernel_rfl) ?_
                refine RunK.cons (St1.fieldB (off := 1) (m := 0) (r := false) rfl rfl rfl rfl (by kernel_rfl) rfl rfl) ?_
                refine RunK.cons (St1.loadB1 (m := 1) rfl rfl rfl rfl (by kernel_rfl) rfl rfl rfl rfl rfl) ?_
                refine RunK.cons (St1.lit0 (k' := 168) (e := 3) (sz := 1) (b := true) rfl rfl rfl rfl (by kernel_rfl) rfl rfl) ?_
                refine RunK.cons (St1.fieldB (off := 0) (m := 0) (r := false) rfl rfl rfl rfl (by kernel_rfl) rfl rfl) ?_
                refine RunK.cons (St1.loadB1 (m := 1) rfl rfl rfl rfl (by kernel_rfl) rfl rfl rfl rfl rfl) ?_
                refine RunK.cons (St1.appD (rows := []) (e := 3) (sz := 0) (by' := 8) rfl rfl rfl rfl rfl (by kernel_rfl) rfl rfl rfl rfl rfl (by simp; omega) rfl) ?_
                refine RunK.cons (St1.fieldB (off := 1) (m := 0) (r := false) rfl rfl rfl rfl (by kernel_rfl) rfl rfl) ?_
                refine RunK.cons (St1.loadB1 (m := 1) rfl rfl rfl rfl (by kernel_rfl) rfl rfl rfl rfl rfl) ?_
                refine RunK.cons (St1.build (pl := [(0, .tmp 71), (1, .tmp 73)]) (places := [(0, 1), (1, 1)]) (zs := [.slice none 0 0, .int .i64 0]) rfl rfl rfl rfl rfl (by kernel_rfl) rfl rfl rfl) ?_
                refine RunK.cons (St1.lit (e := 51) (sz := 1) (m := 0) (xs := [.tmp 74]) rfl rfl rfl rfl rfl (by kernel_rfl) rfl rfl rfl rfl) ?_
                refine RunK.cons (St1.appB (k' := 176) (e := 51) (sz := 1) (by' := 32) rfl rfl rfl rfl rfl (by kernel_rfl) rfl rfl rfl rfl (by first | (simp [dR]; done) | (simp [dR]; omega)) (by first | (simp [dR]; done) | (simp [dR]; omega)) rfl rfl rfl) ?_
                refine RunK.cons (St1.fieldB (off := 1) (m := 0) (r := false) rfl rfl rfl rfl (by kernel_rfl) rfl rfl) ?_
                refine RunK.cons (St1.store (m := 1) (rw' := false) rfl rfl rfl (by kernel_rfl) rfl rfl rfl rfl rfl rfl rfl) ?_
                refine RunK.nil ⟨by kernel_rfl, ?_⟩
                refine kb_n ?_
                refine ks_n ?_
                refine ACode.region ?_
                refine AOps.cons (St1.move rfl rfl rfl rfl rfl) ?_
                refine AOps.cons (St1.add rfl rfl rfl rfl rfl rfl (by omega)) ?_
                refine AOps.cons (St1.assign rfl rfl rfl rfl rfl) ?_
                refine AOps.nil ?_
                refine kl_n (σ2 := [(.t 0, .v (.o (vD (dLs (init ++ [l0]))))), (.t 3, .v (.o (.c (.own 130 2 (init.length))))), (.t 4, .v (.o (nat1 ((init.length : Nat))))), (.t 5, .v (.o (.c (.box 131 2 0 0)))), (.t 8, .v (.o (nat1 ((q + 1) : Nat)))), (.b 130, .b 67 2 (dR ((init.take init.length).map rL))), (.u 130, .u), (.b 132, .b 51 2 (dR ((l0.2.take (q + 1)).map rA))), (.u 132, .u), (.b 131, .b 67 2 [[.d (dAs l0.1), .own 132 2 ((q + 1))]]), (.u 131, .u)]) ((l0.2.length - (q + 1))) (by omega) (Wk.keep [(130, 130), (131, 131), (132, 176)] rfl rfl ⟨⟨_, rfl, Vto.dat _ _ (by first | rfl | exact congrArg (fun z => V.o (nat1 z)) (by omega) | (simp; done) | omega) rfl⟩, ⟨_, rfl, Vto.c (.own _ _ _ _ _ (by first | decide | simp) (by first | rfl | exact congrArg (fun z => V.o (nat1 z)) (by omega) | (simp; done) | omega))⟩, ⟨_, rfl, Vto.dat _ _ (by first | rfl | exact congrArg (fun z => V.o (nat1 z)) (by omega) | (simp; done) | omega) rfl⟩, ⟨_, rfl, Vto.c (.box _ _ _ _ _ _ (by first | decide | simp) rfl)⟩, ⟨_, rfl, Vto.dat _ _ (by first | rfl | exact congrArg (fun z => V.o (nat1 z)) (by omega) | (simp; done) | omega) rfl⟩, ⟨130, _, (by first | decide | simp), rfl, Rto.dat _ _ _ (by first | exact dR_take rL hl | rfl | (rw [List.take_length, dR_app]; done) | (rw [List.take_length]; done) | (simp [dR]; done)) rfl⟩, ⟨176, _, (by first | decide | simp), rfl, Rto.dat _ _ _ (by first | exact dR_take rA hx | exact dR_take1 rA hx | rfl | (rw [List.take_length]; done) | (simp [dR]; done)) rfl⟩, ⟨131, _, (by first | decide | simp), rfl, .cons (.cons (.d _ _ (by first | rfl | exact congrArg (fun z => V.o (nat1 z)) (by omega) | (simp; done) | omega)) (.cons (.own _ _ _ _ _ (by first | decide | simp) (by first | rfl | exact congrArg (fun z => V.o (nat1 z)) (by omega) | (simp; done) | omega)) Ctos.nil)) .nil⟩, trivial⟩) (.inr ⟨q + 1, rfl, by omega, by omega, rfl⟩)
              · try simp only [List.length_map, decide_eq_true_eq, decide_eq_false_iff_not, Bool.not_eq_true', Bool.not_eq_false', Bool.not_eq_true, Bool.not_eq_false] at h55
                obtain rfl : q = l0.2.length := by omega
                refine ACode.exit ?_
                refine ks_e ?_
                refine kl_e ?_
                refine kb_hit ?_
                refine ks_n ?_
                refine ACode.wk (σ' := [(.t 0, .v (.o (vD (dLs (init ++ [l0]))))), (.t 3, .v (.o (.c (.own 860 2 (init.length))))), (.t 4, .v (.o (nat1 ((init.length : Nat))))), (.t 5, .v (.o (.c (.box 861 2 0 0)))), (.b 860, .b 67 2 (dR ((init.take init.length).map rL))), (.u 860, .u), (.b 862, .b 51 2 (dR (l0.2.map rA))), (.u 862, .u), (.b 861, .b 67 2 [[.d (dAs l0.1), .own 862 2 (l0.2.length)]]), (.u 861, .u)]) (Wk.keep [(860, 130), (861, 131), (862, 132)] rfl rfl ⟨⟨_, rfl, Vto.dat _ _ (by first | rfl | exact congrArg (fun z => V.o (nat1 z)) (by omega) | (simp; done) | omega) rfl⟩, ⟨_, rfl, Vto.c (.own _ _ _ _ _ (by first | decide | simp) (by first | rfl | exact congrArg (fun z => V.o (nat1 z)) (by omega) | (simp; done) | omega))⟩, ⟨_, rfl, Vto.dat _ _ (by first | rfl | exact congrArg (fun z => V.o (nat1 z)) (by omega) | (simp; done) | omega) rfl⟩, ⟨_, rfl, Vto.c (.box _ _ _ _ _ _ (by first | decide | simp) rfl)⟩, ⟨130, _, (by first | decide | simp), rfl, Rto.dat _ _ _ (by first | exact dR_take rL hl | rfl | (rw [List.take_length, dR_app]; done) | (rw [List.take_length]; done) | (simp [dR]; done)) rfl⟩, ⟨132, _, (by first | decide | simp), rfl, Rto.dat _ _ _ (by first | exact dR_take rA hx | exact dR_take1 rA hx | rfl | (rw [List.take_length]; done) | (simp [dR]; done)) rfl⟩, ⟨131, _, (by first | decide | simp), rfl, .cons (.cons (.d _ _ (by first | rfl | exact congrArg (fun z => V.o (nat1 z)) (by omega) | (simp; done) | omega)) (.cons (.own _ _ _ _ _ (by first | decide | simp) (by first | rfl | exact congrArg (fun z => V.o (nat1 z)) (by omega) | (simp; done) | omega)) Ctos.nil)) .nil⟩, trivial⟩) ?_
                refine ACode.region ?_
                refine AOps.cons (St1.move rfl rfl rfl rfl rfl) ?_
                refine AOps.cons (St1.loadBN (m := 2) rfl rfl rfl rfl (by kernel_rfl) rfl rfl rfl rfl rfl) ?_
                refine AOps.cons (St1.litB (k' := 180) (e := 67) (sz := 1) (m := 0) (xs := [.tmp 79]) rfl rfl rfl rfl rfl (by kernel_rfl) rfl rfl rfl rfl rfl) ?_
                refine AOps.cons (St1.appBB (k' := 181) (e := 67) (sz := 1) (by' := 48) rfl rfl rfl rfl rfl (by kernel_rfl) rfl rfl rfl rfl rfl (by first | (simp [dR]; done) | (simp [dR]; omega)) rfl (by first | (simp [dR]; done) | (simp [dR]; omega)) rfl rfl rfl) ?_
                refine AOps.cons (St1.assign rfl rfl rfl rfl rfl) ?_
                refine AOps.nil ?_
                refine kb_n ?_
                refine ks_n ?_
                refine ACode.region ?_
                refine AOps.cons (St1.move rfl rfl rfl rfl rfl) ?_
                refine AOps.cons (St1.add rfl rfl rfl rfl rfl rfl (by omega)) ?_
                refine AOps.cons (St1.assign rfl rfl rfl rfl rfl) ?_
                refine AOps.nil ?_
                refine kl_n (σ2 := [(.t 0, .v (.o (vD (dLs (init ++ [l0]))))), (.t 3, .v (.o (.c (.own 110 2 (init.length + 1))))), (.t 4, .v (.o (nat1 ((init.length + 1) : Nat)))), (.b 110, .b 67 2 (dR (init.map rL) ++ [[.d (dAs l0.1), .own 111 2 l0.2.length]])), (.u 110, .u), (.b 111, .b 51 2 (dR (l0.2.map rA))), (.u 111, .u)]) ((init.length + 1 - (init.length + 1))) (by omega) (Wk.keep [(110, 181), (111, 862)] rfl rfl ⟨⟨_, rfl, Vto.dat _ _ (by first | rfl | exact congrArg (fun z => V.o (nat1 z)) (by omega) | (simp; done) | omega) rfl⟩, ⟨_, rfl, Vto.c (.own _ _ _ _ _ (by first | decide | simp) (by first | rfl | exact congrArg (fun z => V.o (nat1 z)) (by omega) | (simp; done) | omega))⟩, ⟨_, rfl, Vto.dat _ _ (by first | rfl | exact congrArg (fun z => V.o (nat1 z)) (by omega) | (simp; done) | omega) rfl⟩, ⟨181, _, (by first | decide | simp), rfl, (by first | exact .app (.dat _ _ _ rfl rfl) (.cons (.cons (.d _ _ rfl) (.cons (.own _ _ _ _ _ (by first | decide | simp) (by first | rfl | omega)) .nil)) .nil) | exact .app (.dat _ _ _ (by rw [List.take_length]) rfl) (.cons (.cons (.d _ _ rfl) (.cons (.own _ _ _ _ _ (by first | decide | simp) (by first | rfl | omega)) .nil)) .nil))⟩, ⟨862, _, (by first | decide | simp), rfl, Rto.dat _ _ _ (by first | exact dR_take rA hx | exact dR_take1 rA hx | rfl | (rw [List.take_length]; done) | (simp [dR]; done)) rfl⟩, trivial⟩) (.inr ⟨init.length + 1, rfl, rfl, rfl⟩)
        · skip
          refine ACode.seq ?_
          refine ACode.seq ?_
          refine ACode.region ?_
          refine AOps.cons (St1.move rfl rfl rfl rfl rfl) ?_
          refine AOps.cons (St1.move rfl rfl rfl rfl rfl) ?_
          refine AOps.cons (St1.move rfl rfl rfl rfl rfl) ?_
          refine AOps.cons (St1.indexL (e := 67) (sz := 2) (by' := 48) rfl rfl rfl rfl (by kernel_rfl) rfl rfl rfl rfl (by first | exact map_at (by assumption) | rfl)) ?_
          refine AOps.cons (St1.fieldP (off := 0) (m := 0) (r := false) rfl rfl rfl rfl (by kernel_rfl) rfl) ?_
          refine AOps.cons (St1.loadP1 (m := 1) rfl rfl rfl rfl (by kernel_rfl) rfl) ?_
          refine AOps.cons (St1.lenL (e := 51) (m := 2) (by' := 32) rfl rfl rfl rfl rfl (by kernel_rfl) rfl (by first | exact List.length_map _ | rfl)) ?_
          refine AOps.cons (St1.lss rfl rfl rfl rfl rfl rfl) ?_
          refine AOps.nil ?_
          refine ks_n ?_
          refine ACode.condT rfl (fun h25 => ?_) (fun h25 => ?_)
          · try simp only [List.length_map, decide_eq_true_eq, decide_eq_false_iff_not, Bool.not_eq_true', Bool.not_eq_false', Bool.not_eq_true, Bool.not_eq_false] at h25
            obtain ⟨x, hx, hxs⟩ := at_sm hlc (show k < l0.1.length by omega)
            refine ACode.skip ?_
            refine ks_n ?_
            refine ACode.seq ?_
            refine ACode.block ?_
            refine ACode.seq ?_
            refine ACode.region ?_
            refine AOps.cons (St1.move rfl rfl rfl rfl rfl) ?_
            refine AOps.cons (St1.move rfl rfl rfl rfl rfl) ?_
            refine AOps.cons (St1.indexL (e := 67) (sz := 2) (by' := 48) rfl rfl rfl rfl (by kernel_rfl) rfl rfl rfl rfl (by first | exact map_at (by assumption) | rfl)) ?_
            refine AOps.cons (St1.fieldP (off := 0) (m := 0) (r := false) rfl rfl rfl rfl (by kernel_rfl) rfl) ?_
            refine AOps.cons (St1.loadP1 (m := 1) rfl rfl rfl rfl (by kernel_rfl) rfl) ?_
            refine AOps.cons (St1.move rfl rfl rfl rfl rfl) ?_
            refine AOps.cons (St1.indexL (e := 51) (sz := 2) (by' := 32) rfl rfl rfl rfl (by kernel_rfl) rfl rfl rfl rfl (by first | exact map_at (by assumption) | rfl)) ?_
            refine AOps.cons (St1.loadPN (m := 2) rfl rfl rfl rfl (by kernel_rfl) rfl rfl) ?_
            refine AOps.cons (St1.alloc (k' := 107) (zs := [.slice none 0 0, .int .i64 0]) rfl rfl rfl rfl (by kernel_rfl) rfl rfl rfl) ?_
            refine AOps.cons (St1.store (m := 2) (rw' := true) rfl rfl rfl (by kernel_rfl) rfl rfl rfl rfl rfl rfl rfl) ?_
            refine AOps.nil ?_
            refine ks_n ?_
            refine ACode.drawK (by kernel_rfl) (by kernel_rfl) ?_
            refine RunK.cons (St1.fieldB (off := 0) (m := 0) (r := false) rfl rfl rfl rfl (by kernel_rfl) rfl rfl) ?_
            refine RunK.cons (St1.loadB1 (m := 1) rfl rfl rfl rfl (by kernel_rfl) rfl rfl rfl rfl rfl) ?_
            refine RunK.cons (St1.lit0 (k' := 138) (e := 3) (sz := 1) (b := true) rfl rfl rfl rfl (by kernel_rfl) rfl rfl) ?_
            refine RunK.cons (St1.fieldB (off := 0) (m := 0) (r := false) rfl rfl rfl rfl (by kernel_rfl) rfl rfl) ?_
            refine RunK.cons (St1.loadB1 (m := 1) rfl rfl rfl rfl (by kernel_rfl) rfl rfl rfl rfl rfl) ?_
            refine RunK.cons (St1.appD (rows := []) (e := 3) (sz := 0) (by' := 8) rfl rfl rfl rfl rfl (by kernel_rfl) rfl rfl rfl rfl rfl (by simp; omega) rfl) ?_
            refine RunK.cons (St1.fieldB (off := 1) (m := 0) (r := false) rfl rfl rfl rfl (by kernel_rfl) rfl rfl) ?_
            refine RunK.cons (St1.loadB1 (m := 1) rfl rfl rfl rfl (by kernel_rfl) rfl rfl rfl rfl rfl) ?_
            refine RunK.cons (St1.build (pl := [(0, .tmp 41), (1, .tmp 43)]) (places := [(0, 1), (1, 1)]) (zs := [.slice none 0 0, .int .i64 0]) rfl rfl rfl rfl rfl (by kernel_rfl) rfl rfl rfl) ?_
            refine RunK.cons (St1.lit (e := 51) (sz := 1) (m := 0) (xs := [.tmp 44]) rfl rfl rfl rfl rfl (by kernel_rfl) rfl rfl rfl rfl) ?_
            refine RunK.cons (St1.appB (k' := 146) (e := 51) (sz := 1) (by' := 32) rfl rfl rfl rfl rfl (by kernel_rfl) rfl rfl rfl rfl (by first | (simp [dR]; done) | (simp [dR]; omega)) (by first | (simp [dR]; done) | (simp [dR]; omega)) rfl rfl rfl) ?_
            refine RunK.cons (St1.fieldB (off := 0) (m := 0) (r := false) rfl rfl rfl rfl (by kernel_rfl) rfl rfl) ?_
            refine RunK.cons (St1.store (m := 1) (rw' := false) rfl rfl rfl (by kernel_rfl) rfl rfl rfl rfl rfl rfl rfl) ?_
            refine RunK.nil ⟨by kernel_rfl, ?_⟩
            refine kb_n ?_
            refine ks_n ?_
            refine ACode.region ?_
            refine AOps.cons (St1.move rfl rfl rfl rfl rfl) ?_
            refine AOps.cons (St1.add rfl rfl rfl rfl rfl rfl (by omega)) ?_
            refine AOps.cons (St1.assign rfl rfl rfl rfl rfl) ?_
            refine AOps.nil ?_
            refine kl_n (σ2 := [(.t 0, .v (.o (vD (dLs (init ++ [l0]))))), (.t 3, .v (.o (.c (.own 120 2 (init.length))))), (.t 4, .v (.o (nat1 ((init.length : Nat))))), (.t 5, .v (.o (.c (.box 121 2 0 0)))), (.t 6, .v (.o (nat1 ((k + 1) : Nat)))), (.b 120, .b 67 2 (dR ((init.take init.length).map rL))), (.u 120, .u), (.b 122, .b 51 2 (dR ((l0.1.take (k + 1)).map rA))), (.u 122, .u), (.b 121, .b 67 2 [[.own 122 2 ((k + 1)), .d (.val (.slice none 0 0))]]), (.u 121, .u)]) ((l0.1.length - (k + 1))) (by omega) (Wk.keep [(120, 120), (121, 121), (122, 146)] rfl rfl ⟨⟨_, rfl, Vto.dat _ _ (by first | rfl | exact congrArg (fun z => V.o (nat1 z)) (by omega) | (simp; done) | omega) rfl⟩, ⟨_, rfl, Vto.c (.own _ _ _ _ _ (by first | decide | simp) (by first | rfl | exact congrArg (fun z => V.o (nat1 z)) (by omega) | (simp; done) | omega))⟩, ⟨_, rfl, Vto.dat _ _ (by first | rfl | exact congrArg (fun z => V.o (nat1 z)) (by omega) | (simp; done) | omega) rfl⟩, ⟨_, rfl, Vto.c (.box _ _ _ _ _ _ (by first | decide | simp) rfl)⟩, ⟨_, rfl, Vto.dat _ _ (by first | rfl | exact congrArg (fun z => V.o (nat1 z)) (by omega) | (simp; done) | omega) rfl⟩, ⟨120, _, (by first | decide | simp), rfl, Rto.dat _ _ _ (by first | exact dR_take rL hl | rfl | (rw [List.take_length, dR_app]; done) | (rw [List.take_length]; done) | (simp [dR]; done)) rfl⟩, ⟨146, _, (by first | decide | simp), rfl, Rto.dat _ _ _ (by first | exact dR_take rA hx | exact dR_take1 rA hx | rfl | (rw [List.take_length]; done) | (simp [dR]; done)) rfl⟩, ⟨121, _, (by first | decide | simp), rfl, .cons (.cons (.own _ _ _ _ _ (by first | decide | simp) (by first | rfl | exact congrArg (fun z => V.o (nat1 z)) (by omega) | (simp; done) | omega)) (.cons (.d _ _ (by first | rfl | exact congrArg (fun z => V.o (nat1 z)) (by omega) | (simp; done) | omega)) Ctos.nil)) .nil⟩, trivial⟩) (.inr ⟨k + 1, rfl, by omega, by omega, rfl⟩)
          · try simp only [List.length_map, decide_eq_true_eq, decide_eq_false_iff_not, Bool.not_eq_true', Bool.not_eq_false', Bool.not_eq_true, Bool.not_eq_false] at h25
            obtain rfl : k = l0.1.length := by omega
            refine ACode.exit ?_
            refine ks_e ?_
            refine kl_e ?_
            refine kb_hit ?_
            refine ks_n ?_
            refine ACode.seq ?_
            refine ACode.seq ?_
            refine ACode.region ?_
            refine AOps.cons (St1.assign rfl rfl rfl rfl rfl) ?_
            refine AOps.nil ?_
            refine ks_n ?_
            refine ACode.block ?_
            refine ACode.wk (σ' := [(.t 0, .v (.o (vD (dLs (init ++ [l0]))))), (.t 3, .v (.o (.c (.own 130 2 (init.length))))), (.t 4, .v (.o (nat1 ((init.length : Nat))))), (.t 5, .v (.o (.c (.box 131 2 0 0)))), (.t 8, .v (.o (nat1 (0 : Nat)))), (.b 130, .b 67 2 (dR ((init.take init.length).map rL))), (.u 130, .u), (.b 131, .b 67 2 [[.d (dAs l0.1), .d (.val (.slice none 0 0))]]), (.u 131, .u)]) (Wk.keep [(130, 120), (131, 121)] rfl rfl ⟨⟨_, rfl, Vto.dat _ _ (by first | rfl | exact congrArg (fun z => V.o (nat1 z)) (by omega) | (simp; done) | omega) rfl⟩, ⟨_, rfl, Vto.c (.own _ _ _ _ _ (by first | decide | simp) (by first | rfl | exact congrArg (fun z => V.o (nat1 z)) (by omega) | (simp; done) | omega))⟩, ⟨_, rfl, Vto.dat _ _ (by first | rfl | exact congrArg (fun z => V.o (nat1 z)) (by omega) | (simp; done) | omega) rfl⟩, ⟨_, rfl, Vto.c (.box _ _ _ _ _ _ (by first | decide | simp) rfl)⟩, ⟨_, rfl, Vto.dat _ _ (by first | rfl | exact congrArg (fun z => V.o (nat1 z)) (by omega) | (simp; done) | omega) rfl⟩, ⟨120, _, (by first | decide | simp), rfl, Rto.dat _ _ _ (by first | exact dR_take rL hl | rfl | (rw [List.take_length, dR_app]; done) | (rw [List.take_length]; done) | (simp [dR]; done)) rfl⟩, ⟨121, _, (by first | decide | simp), rfl, .cons (.cons (.frz _ _ _ _ _ _ rfl (by first | rfl | (rw [List.take_length]; done)) rfl rfl (by first | rfl | (simp; done) | (simp; omega)) (by omega)) (.cons (.d _ _ (by first | rfl | exact congrArg (fun z => V.o (nat1 z)) (by omega) | (simp; done) | omega)) Ctos.nil)) .nil⟩, trivial⟩) ?_
            refine ACode.loop (fun m σ => (∃ q : Nat, m = l0.2.length - q ∧ (q = 0) ∧ σ = [(.t 0, .v (.o (vD (dLs (init ++ [l0]))))), (.t 3, .v (.o (.c (.own 130 2 (init.length))))), (.t 4, .v (.o (nat1 ((init.length : Nat))))), (.t 5, .v (.o (.c (.box 131 2 0 0)))), (.t 8, .v (.o (nat1 (q : Nat)))), (.b 130, .b 67 2 (dR ((init.take init.length).map rL))), (.u 130, .u), (.b 131, .b 67 2 [[.d (dAs l0.1), .d (.val (.slice none 0 0))]]), (.u 131, .u)]) ∨ (∃ q : Nat, m = l0.2.length - q ∧ (1 ≤ q) ∧ (q ≤ l0.2.length) ∧ σ = [(.t 0, .v (.o (vD (dLs (init ++ [l0]))))), (.t 3, .v (.o (.c (.own 130 2 (init.length))))), (.t 4, .v (.o (nat1 ((init.length : Nat))))), (.t 5, .v (.o (.c (.box 131 2 0 0)))), (.t 8, .v (.o (nat1 (q : Nat)))), (.b 130, .b 67 2 (dR ((init.take init.length).map rL))), (.u 130, .u), (.b 132, .b 51 2 (dR ((l0.2.take q).map rA))), (.u 132, .u), (.b 131, .b 67 2 [[.d (dAs l0.1), .own 132 2 (q)]]), (.u 131, .u)])) ((l0.2.length - 0)) (.inl ⟨0, rfl, rfl, rfl⟩) ?_
            rintro m σ (⟨q, hm0, rfl, rfl⟩ | ⟨q, hm0, hq1, hq2, rfl⟩)
            · skip
              refine ACode.seq ?_
              refine ACode.seq ?_
              refine ACode.region ?_
              refine AOps.cons (St1.move rfl rfl rfl rfl rfl) ?_
              refine AOps.cons (St1.move rfl rfl rfl rfl rfl) ?_
              refine AOps.cons (St1.move rfl rfl rfl rfl rfl) ?_
              refine AOps.cons (St1.indexL (e := 67) (sz := 2) (by' := 48) rfl rfl rfl rfl (by kernel_rfl) rfl rfl rfl rfl (by first | exact map_at (by assumption) | rfl)) ?_
              refine AOps.cons (St1.fieldP (off := 1) (m := 0) (r := false) rfl rfl rfl rfl (by kernel_rfl) rfl) ?_
              refine AOps.cons (St1.loadP1 (m := 1) rfl rfl rfl rfl (by kernel_rfl) rfl) ?_
              refine AOps.cons (St1.lenL (e := 51) (m := 2) (by' := 32) rfl rfl rfl rfl rfl (by kernel_rfl) rfl (by first | exact List.length_map _ | rfl)) ?_
              refine AOps.cons (St1.lss rfl rfl rfl rfl rfl rfl) ?_
              refine AOps.nil ?_
              refine ks_n ?_
              refine ACode.condT rfl (fun h55 => ?_) (fun h55 => ?_)
              · try simp only [List.length_map, decide_eq_true_eq, decide_eq_false_iff_not, Bool.not_eq_true', Bool.not_eq_false', Bool.not_eq_true, Bool.not_eq_false] at h55
                obtain ⟨x, hx, hxs⟩ := at_sm hld (show 0 < l0.2.length by omega)
                refine ACode.skip ?_
                refine ks_n ?_
                refine ACode.seq ?_
                refine ACode.block ?_
                refine ACode.seq ?_
                refine ACode.region ?_
                refine AOps.cons (St1.move rfl rfl rfl rfl rfl) ?_
                refine AOps.cons (St1.move rfl rfl rfl rfl rfl) ?_
                refine AOps.cons (St1.indexL (e := 67) (sz := 2) (by' := 48) rfl rfl rfl rfl (by kernel_rfl) rfl rfl rfl rfl (by first | exact map_at (by assumption) | rfl)) ?_
                refine AOps.cons (St1.fieldP (off := 1) (m := 0) (r := false) rfl rfl rfl rfl (by kernel_rfl) rfl) ?_
                refine AOps.cons (St1.loadP1 (m := 1) rfl rfl rfl rfl (by kernel_rfl) rfl) ?_
                refine AOps.cons (St1.move rfl rfl rfl rfl rfl) ?_
                refine AOps.cons (St1.indexL (e := 51) (sz := 2) (by' := 32) rfl rfl rfl rfl (by kernel_rfl) rfl rfl rfl rfl (by first | exact map_at (by assumption) | rfl)) ?_
                refine AOps.cons (St1.loadPN (m := 2) rfl rfl rfl rfl (by kernel_rfl) rfl rfl) ?_
                refine AOps.cons (St1.alloc (k' := 109) (zs := [.slice none 0 0, .int .i64 0]) rfl rfl rfl rfl (by kernel_rfl) rfl rfl rfl) ?_
                refine AOps.cons (St1.store (m := 2) (rw' := true) rfl rfl rfl (by kernel_rfl) rfl rfl rfl rfl rfl rfl rfl) ?_
                refine AOps.nil ?_
                refine ks_n ?_
                refine ACode.drawK (by kernel_rfl) (by kernel_rfl) ?_
                refine RunK.cons (St1.fieldB (off := 1) (m := 0) (r := false) rfl rfl rfl rfl (by kernel_rfl) rfl rfl) ?_
                refine RunK.cons (St1.loadB1 (m := 1) rfl rfl rfl rfl (by kernel_rfl) rfl rfl rfl rfl rfl) ?_
                refine RunK.cons (St1.lit0 (k' := 168) (e := 3) (sz := 1) (b := true) rfl rfl rfl rfl (by kernel_rfl) rfl rfl) ?_
                refine RunK.cons (St1.fieldB (off := 0) (m := 0) (r := false) rfl rfl rfl rfl (by kernel_rfl) rfl rfl) ?_
                refine RunK.cons (St1.loadB1 (m := 1) rfl rfl rfl rfl (by kernel_rfl) rfl rfl rfl rfl rfl) ?_
                refine RunK.cons (St1.appD (rows := []) (e := 3) (sz := 0) (by' := 8) rfl rfl rfl rfl rfl (by kernel_rfl) rfl rfl rfl rfl rfl (by simp; omega) rfl) ?_
                refine RunK.cons (St1.fieldB (off := 1) (m := 0) (r := false) rfl rfl rfl rfl (by kernel_rfl) rfl rfl) ?_
                refine RunK.cons (St1.loadB1 (m := 1) rfl rfl rfl rfl (by kernel_rfl) rfl rfl rfl rfl rfl) ?_
                refine RunK.cons (St1.build (pl := [(0, .tmp 71), (1, .tmp 73)]) (places := [(0, 1), (1, 1)]) (zs := [.slice none 0 0, .int .i64 0]) rfl rfl rfl rfl rfl (by kernel_rfl) rfl rfl rfl) ?_
                refine RunK.cons (St1.lit (e := 51) (sz := 1) (m := 0) (xs := [.tmp 74]) rfl rfl rfl rfl rfl (by kernel_rfl) rfl rfl rfl rfl) ?_
                refine RunK.cons (St1.appN (k' := 176) (e := 51) (sz := 1) (by' := 32) rfl rfl rfl rfl rfl (by kernel_rfl) rfl rfl rfl (by simp) (by first | (simp [dR]; done) | (simp [dR]; omega)) rfl rfl) ?_
                refine RunK.cons (St1.fieldB (off := 1) (m := 0) (r := false) rfl rfl rfl rfl (by kernel_rfl) rfl rfl) ?_
                refine RunK.cons (St1.store (m := 1) (rw' := false) rfl rfl rfl (by kernel_rfl) rfl rfl rfl rfl rfl rfl rfl) ?_
                refine RunK.nil ⟨by kernel_rfl, ?_⟩
                refine kb_n ?_
                refine ks_n ?_
                refine ACode.region ?_
                refine AOps.cons (St1.move rfl rfl rfl rfl rfl) ?_
                refine AOps.cons (St1.add rfl rfl rfl rfl rfl rfl (by omega)) ?_
                refine AOps.cons (St1.assign rfl rfl rfl rfl rfl) ?_
                refine AOps.nil ?_
                refine kl_n (σ2 := [(.t 0, .v (.o (vD (dLs (init ++ [l0]))))), (.t 3, .v (.o (.c (.own 130 2 (init.length))))), (.t 4, .v (.o (nat1 ((init.length : Nat))))), (.t 5, .v (.o (.c (.box 131 2 0 0)))), (.t 8, .v (.o (nat1 (1 : Nat)))), (.b 130, .b 67 2 (dR ((init.take init.length).map rL))), (.u 130, .u), (.b 132, .b 51 2 (dR ((l0.2.take 1).map rA))), (.u 132, .u), (.b 131, .b 67 2 [[.d (dAs l0.1), .own 132 2 (1)]]), (.u 131, .u)]) ((l0.2.length - 1)) (by omega) (Wk.keep [(130, 130), (131, 131), (132, 176)] rfl rfl ⟨⟨_, rfl, Vto.dat _ _ (by first | rfl | exact congrArg (fun z => V.o (nat1 z)) (by omega) | (simp; done) | omega) rfl⟩, ⟨_, rfl, Vto.c (.own _ _ _ _ _ (by first | decide | simp) (by first | rfl | exact congrArg (fun z => V.o (nat1 z)) (by omega) | (simp; done) | omega))⟩, ⟨_, rfl, Vto.dat _ _ (by first | rfl | exact congrArg (fun z => V.o (nat1 z)) (by omega) | (simp; done) | omega) rfl⟩, ⟨_, rfl, Vto.c (.box _ _ _ _ _ _ (by first | decide | simp) rfl)⟩, ⟨_, rfl, Vto.dat _ _ (by first | rfl | exact congrArg (fun z => V.o (nat1 z)) (by omega) | (simp; done) | omega) rfl⟩, ⟨130, _, (by first | decide | simp), rfl, Rto.dat _ _ _ (by first | exact dR_take rL hl | rfl | (rw [List.take_length, dR_app]; done) | (rw [List.take_length]; done) | (simp [dR]; done)) rfl⟩, ⟨176, _, (by first | decide | simp), rfl, Rto.dat _ _ _ (by first | exact dR_take rA hx | exact dR_take1 rA hx | rfl | (rw [List.take_length]; done) | (simp [dR]; done)) rfl⟩, ⟨131, _, (by first | decide | simp), rfl, .cons (.cons (.d _ _ (by first | rfl | exact congrArg (fun z => V.o (nat1 z)) (by omega) | (simp; done) | omega)) (.cons (.own _ _ _ _ _ (by first | decide | simp) (by first | rfl | exact congrArg (fun z => V.o (nat1 z)) (by omega) | (simp; done) | omega)) Ctos.nil)) .nil⟩, trivial⟩) (.inr ⟨1, rfl, by omega, by omega, rfl⟩)
              · try simp only [List.length_map, decide_eq_true_eq, decide_eq_false_iff_not, Bool.not_eq_true', Bool.not_eq_false', Bool.not_eq_true, Bool.not_eq_false] at h55
                exact absurd (List.eq_nil_of_length_eq_zero (by omega)) h0
            · skip
              refine ACode.seq ?_
              refine ACode.seq ?_
              refine ACode.region ?_
              refine AOps.cons (St1.move rfl rfl rfl rfl rfl) ?_
              refine AOps.cons (St1.move rfl rfl rfl rfl rfl) ?_
              refine AOps.cons (St1.move rfl rfl rfl rfl rfl) ?_
              refine AOps.cons (St1.indexL (e := 67) (sz := 2) (by' := 48) rfl rfl rfl rfl (by kernel_rfl) rfl rfl rfl rfl (by first | exact map_at (by assumption) | rfl)) ?_
              refine AOps.cons (St1.fieldP (off := 1) (m := 0) (r := false) rfl rfl rfl rfl (by kernel_rfl) rfl) ?_
              refine AOps.cons (St1.loadP1 (m := 1) rfl rfl rfl rfl (by kernel_rfl) rfl) ?_
              refine AOps.cons (St1.lenL (e := 51) (m := 2) (by' := 32) rfl rfl rfl rfl rfl (by kernel_rfl) rfl (by first | exact List.length_map _ | rfl)) ?_
              refine AOps.cons (St1.lss rfl rfl rfl rfl rfl rfl) ?_
              refine AOps.nil ?_
              refine ks_n ?_
              refine ACode.condT rfl (fun h55 => ?_) (fun h55 => ?_)
              · try simp only [List.length_map, decide_eq_true_eq, decide_eq_false_iff_not, Bool.not_eq_true', Bool.not_eq_false', Bool.not_eq_true, Bool.not_eq_false] at h55
                obtain ⟨x, hx, hxs⟩ := at_sm hld (show q < l0.2.length by omega)
                refine ACode.skip ?_
                refine ks_n ?_
                refine ACode.seq ?_
                refine ACode.block ?_
                refine ACode.seq ?_
                refine ACode.region ?_
                refine AOps.cons (St1.move rfl rfl rfl rfl rfl) ?_
                refine AOps.cons (St1.move rfl rfl rfl rfl rfl) ?_
                refine AOps.cons (St1.indexL (e := 67) (sz := 2) (by' := 48) rfl rfl rfl rfl (by kernel_rfl) rfl rfl rfl rfl (by first | exact map_at (by assumption) | rfl)) ?_
                refine AOps.cons (St1.fieldP (off := 1) (m := 0) (r := false) rfl rfl rfl rfl (by kernel_rfl) rfl) ?_
                refine AOps.cons (St1.loadP1 (m := 1) rfl rfl rfl rfl (by kernel_rfl) rfl) ?_
                refine AOps.cons (St1.move rfl rfl rfl rfl rfl) ?_
                refine AOps.cons (St1.indexL (e := 51) (sz := 2) (by' := 32) rfl rfl rfl rfl (by kernel_rfl) rfl rfl rfl rfl (by first | exact map_at (by assumption) | rfl)) ?_
                refine AOps.cons (St1.loadPN (m := 2) rfl rfl rfl rfl (by kernel_rfl) rfl rfl) ?_
                refine AOps.cons (St1.alloc (k' := 109) (zs := [.slice none 0 0, .int .i64 0]) rfl rfl rfl rfl (by kernel_rfl) rfl rfl rfl) ?_
                refine AOps.cons (St1.store (m := 2) (rw' := true) rfl rfl rfl (by kernel_rfl) rfl rfl rfl rfl rfl rfl rfl) ?_
                refine AOps.nil ?_
                refine ks_n ?_
                refine ACode.drawK (by kernel_rfl) (by kernel_rfl) ?_
                refine RunK.cons (St1.fieldB (off := 1) (m := 0) (r := false) rfl rfl rfl rfl (by kernel_rfl) rfl rfl) ?_
                refine RunK.cons (St1.loadB1 (m := 1) rfl rfl rfl rfl (by kernel_rfl) rfl rfl rfl rfl rfl) ?_
                refine RunK.cons (St1.lit0 (k' := 168) (e := 3) (sz := 1) (b := true) rfl rfl rfl rfl (by kernel_rfl) rfl rfl) ?_
                refine RunK.cons (St1.fieldB (off := 0) (m := 0) (r := false) rfl rfl rfl rfl (by kernel_rfl) rfl rfl) ?_
                refine RunK.cons (St1.loadB1 (m := 1) rfl rfl rfl rfl (by kernel_rfl) rfl rfl rfl rfl rfl) ?_
                refine RunK.cons (St1.appD (rows := []) (e := 3) (sz := 0) (by' := 8) rfl rfl rfl rfl rfl (by kernel_rfl) rfl rfl rfl rfl rfl (by simp; omega) rfl) ?_
                refine RunK.cons (St1.fieldB (off := 1) (m := 0) (r := false) rfl rfl rfl rfl (by kernel_rfl) rfl rfl) ?_
                refine RunK.cons (St1.loadB1 (m := 1) rfl rfl rfl rfl (by kernel_rfl) rfl rfl rfl rfl rfl) ?_
                refine RunK.cons (St1.build (pl := [(0, .tmp 71), (1, .tmp 73)]) (places := [(0, 1), (1, 1)]) (zs := [.slice none 0 0, .int .i64 0]) rfl rfl rfl rfl rfl (by kernel_rfl) rfl rfl rfl) ?_
                refine RunK.cons (St1.lit (e := 51) (sz := 1) (m := 0) (xs := [.tmp 74]) rfl rfl rfl rfl rfl (by kernel_rfl) rfl rfl rfl rfl) ?_
                refine RunK.cons (St1.appB (k' := 176) (e := 51) (sz := 1) (by' := 32) rfl rfl rfl rfl rfl (by kernel_rfl) rfl rfl rfl rfl (by first | (simp [dR]; done) | (simp [dR]; omega)) (by first | (simp [dR]; done) | (simp [dR]; omega)) rfl rfl rfl) ?_
                refine RunK.cons (St1.fieldB (off := 1) (m := 0) (r := false) rfl rfl rfl rfl (by kernel_rfl) rfl rfl) ?_
                refine RunK.cons (St1.store (m := 1) (rw' := false) rfl rfl rfl (by kernel_rfl) rfl rfl rfl rfl rfl rfl rfl) ?_
                refine RunK.nil ⟨by kernel_rfl, ?_⟩
                refine kb_n ?_
                refine ks_n ?_
                refine ACode.region ?_
                refine AOps.cons (St1.move rfl rfl rfl rfl rfl) ?_
                refine AOps.cons (St1.add rfl rfl rfl rfl rfl rfl (by omega)) ?_
                refine AOps.cons (St1.assign rfl rfl rfl rfl rfl) ?_
                refine AOps.nil ?_
                refine kl_n (σ2 := [(.t 0, .v (.o (vD (dLs (init ++ [l0]))))), (.t 3, .v (.o (.c (.own 130 2 (init.length))))), (.t 4, .v (.o (nat1 ((init.length : Nat))))), (.t 5, .v (.o (.c (.box 131 2 0 0)))), (.t 8, .v (.o (nat1 ((q + 1) : Nat)))), (.b 130, .b 67 2 (dR ((init.take init.length).map rL))), (.u 130, .u), (.b 132, .b 51 2 (dR ((l0.2.take (q + 1)).map rA))), (.u 132, .u), (.b 131, .b 67 2 [[.d (dAs l0.1), .own 132 2 ((q + 1))]]), (.u 131, .u)]) ((l0.2.length - (q + 1))) (by omega) (Wk.keep [(130, 130), (131, 131), (132, 176)] rfl rfl ⟨⟨_, rfl, Vto.dat _ _ (by first | rfl | exact congrArg (fun z => V.o (nat1 z)) (by omega) | (simp; done) | omega) rfl⟩, ⟨_, rfl, Vto.c (.own _ _ _ _ _ (by first | decide | simp) (by first | rfl | exact congrArg (fun z => V.o (nat1 z)) (by omega) | (simp; done) | omega))⟩, ⟨_, rfl, Vto.dat _ _ (by first | rfl | exact congrArg (fun z => V.o (nat1 z)) (by omega) | (simp; done) | omega) rfl⟩, ⟨_, rfl, Vto.c (.box _ _ _ _ _ _ (by first | decide | simp) rfl)⟩, ⟨_, rfl, Vto.dat _ _ (by first | rfl | exact congrArg (fun z => V.o (nat1 z)) (by omega) | (simp; done) | omega) rfl⟩, ⟨130, _, (by first | decide | simp), rfl, Rto.dat _ _ _ (by first | exact dR_take rL hl | rfl | (rw [List.take_length, dR_app]; done) | (rw [List.take_length]; done) | (simp [dR]; done)) rfl⟩, ⟨176, _, (by first | decide | simp), rfl, Rto.dat _ _ _ (by first | exact dR_take rA hx | exact dR_take1 rA hx | rfl | (rw [List.take_length]; done) | (simp [dR]; done)) rfl⟩, ⟨131, _, (by first | decide | simp), rfl, .cons (.cons (.d _ _ (by first | rfl | exact congrArg (fun z => V.o (nat1 z)) (by omega) | (simp; done) | omega)) (.cons (.own _ _ _ _ _ (by first | decide | simp) (by first | rfl | exact congrArg (fun z => V.o (nat1 z)) (by omega) | (simp; done) | omega)) Ctos.nil)) .nil⟩, trivial⟩) (.inr ⟨q + 1, rfl, by omega, by omega, rfl⟩)
              · try simp only [List.length_map, decide_eq_true_eq, decide_eq_false_iff_not, Bool.not_eq_true', Bool.not_eq_false', Bool.not_eq_true, Bool.not_eq_false] at h55
                obtain rfl : q = l0.2.length := by omega
                refine ACode.exit ?_
                refine ks_e ?_
                refine kl_e ?_
                refine kb_hit ?_
                refine ks_n ?_
                refine ACode.wk (σ' := [(.t 0, .v (.o (vD (dLs (init ++ [l0]))))), (.t 3, .v (.o (.c (.own 860 2 (init.length))))), (.t 4, .v (.o (nat1 ((init.length : Nat))))), (.t 5, .v (.o (.c (.box 861 2 0 0)))), (.b 860, .b 67 2 (dR ((init.take init.length).map rL))), (.u 860, .u), (.b 862, .b 51 2 (dR (l0.2.map rA))), (.u 862, .u), (.b 861, .b 67 2 [[.d (dAs l0.1), .own 862 2 (l0.2.length)]]), (.u 861, .u)]) (Wk.keep [(860, 130), (861, 131), (862, 132)] rfl rfl ⟨⟨_, rfl, Vto.dat _ _ (by first | rfl | exact congrArg (fun z => V.o (nat1 z)) (by omega) | (simp; done) | omega) rfl⟩, ⟨_, rfl, Vto.c (.own _ _ _ _ _ (by first | decide | simp) (by first | rfl | exact congrArg (fun z => V.o (nat1 z)) (by omega) | (simp; done) | omega))⟩, ⟨_, rfl, Vto.dat _ _ (by first | rfl | exact congrArg (fun z => V.o (nat1 z)) (by omega) | (simp; done) | omega) rfl⟩, ⟨_, rfl, Vto.c (.box _ _ _ _ _ _ (by first | decide | simp) rfl)⟩, ⟨130, _, (by first | decide | simp), rfl, Rto.dat _ _ _ (by first | exact dR_take rL hl | rfl | (rw [List.take_length, dR_app]; done) | (rw [List.take_length]; done) | (simp [dR]; done)) rfl⟩, ⟨132, _, (by first | decide | simp), rfl, Rto.dat _ _ _ (by first | exact dR_take rA hx | exact dR_take1 rA hx | rfl | (rw [List.take_length]; done) | (simp [dR]; done)) rfl⟩, ⟨131, _, (by first | decide | simp), rfl, .cons (.cons (.d _ _ (by first | rfl | exact congrArg (fun z => V.o (nat1 z)) (by omega) | (simp; done) | omega)) (.cons (.own _ _ _ _ _ (by first | decide | simp) (by first | rfl | exact congrArg (fun z => V.o (nat1 z)) (by omega) | (simp; done) | omega)) Ctos.nil)) .nil⟩, trivial⟩) ?_
                refine ACode.region ?_
                refine AOps.cons (St1.move rfl rfl rfl rfl rfl) ?_
                refine AOps.cons (St1.loadBN (m := 2) rfl rfl rfl rfl (by kernel_rfl) rfl rfl rfl rfl rfl) ?_
                refine AOps.cons (St1.litB (k' := 180) (e := 67) (sz := 1) (m := 0) (xs := [.tmp 79]) rfl rfl rfl rfl rfl (by kernel_rfl) rfl rfl rfl rfl rfl) ?_
                refine AOps.cons (St1.appBB (k' := 181) (e := 67) (sz := 1) (by' := 48) rfl rfl rfl rfl rfl (by kernel_rfl) rfl rfl rfl rfl rfl (by first | (simp [dR]; done) | (simp [dR]; omega)) rfl (by first | (simp [dR]; done) | (simp [dR]; omega)) rfl rfl rfl) ?_
                refine AOps.cons (St1.assign rfl rfl rfl rfl rfl) ?_
                refine AOps.nil ?_
                refine kb_n ?_
                refine ks_n ?_
                refine ACode.region ?_
                refine AOps.cons (St1.move rfl rfl rfl rfl rfl) ?_
                refine AOps.cons (St1.add rfl rfl rfl rfl rfl rfl (by omega)) ?_
                refine AOps.cons (St1.assign rfl rfl rfl rfl rfl) ?_
                refine AOps.nil ?_
                refine kl_n (σ2 := [(.t 0, .v (.o (vD (dLs (init ++ [l0]))))), (.t 3, .v (.o (.c (.own 110 2 (init.length + 1))))), (.t 4, .v (.o (nat1 ((init.length + 1) : Nat)))), (.b 110, .b 67 2 (dR (init.map rL) ++ [[.d (dAs l0.1), .own 111 2 l0.2.length]])), (.u 110, .u), (.b 111, .b 51 2 (dR (l0.2.map rA))), (.u 111, .u)]) ((init.length + 1 - (init.length + 1))) (by omega) (Wk.keep [(110, 181), (111, 862)] rfl rfl ⟨⟨_, rfl, Vto.dat _ _ (by first | rfl | exact congrArg (fun z => V.o (nat1 z)) (by omega) | (simp; done) | omega) rfl⟩, ⟨_, rfl, Vto.c (.own _ _ _ _ _ (by first | decide | simp) (by first | rfl | exact congrArg (fun z => V.o (nat1 z)) (by omega) | (simp; done) | omega))⟩, ⟨_, rfl, Vto.dat _ _ (by first | rfl | exact congrArg (fun z => V.o (nat1 z)) (by omega) | (simp; done) | omega) rfl⟩, ⟨181, _, (by first | decide | simp), rfl, (by first | exact .app (.dat _ _ _ rfl rfl) (.cons (.cons (.d _ _ rfl) (.cons (.own _ _ _ _ _ (by first | decide | simp) (by first | rfl | omega)) .nil)) .nil) | exact .app (.dat _ _ _ (by rw [List.take_length]) rfl) (.cons (.cons (.d _ _ rfl) (.cons (.own _ _ _ _ _ (by first | decide | simp) (by first | rfl | omega)) .nil)) .nil))⟩, ⟨862, _, (by first | decide | simp), rfl, Rto.dat _ _ _ (by first | exact dR_take rA hx | exact dR_take1 rA hx | rfl | (rw [List.take_length]; done) | (simp [dR]; done)) rfl⟩, trivial⟩) (.inr ⟨init.length + 1, rfl, rfl, rfl⟩)
    · try simp only [List.length_map, decide_eq_true_eq, decide_eq_false_iff_not, Bool.not_eq_true', Bool.not_eq_false', Bool.not_eq_true, Bool.not_eq_false] at h14
      simp at h14; omega
  · skip
    refine ACode.seq ?_
    refine ACode.seq ?_
    refine ACode.region ?_
    refine AOps.cons (St1.move rfl rfl rfl rfl rfl) ?_
    refine AOps.cons (St1.move rfl rfl rfl rfl rfl) ?_
    refine AOps.cons (St1.lenL (e := 67) (m := 2) (by' := 48) rfl rfl rfl rfl rfl (by kernel_rfl) rfl (by first | exact List.length_map _ | rfl)) ?_
    refine AOps.cons (St1.lss rfl rfl rfl rfl rfl rfl) ?_
    refine AOps.nil ?_
    refine ks_n ?_
    refine ACode.condT rfl (fun h14 => ?_) (fun h14 => ?_)
    · try simp only [List.length_map, decide_eq_true_eq, decide_eq_false_iff_not, Bool.not_eq_true', Bool.not_eq_false', Bool.not_eq_true, Bool.not_eq_false] at h14
      simp at h14
    · try simp only [List.length_map, decide_eq_true_eq, decide_eq_false_iff_not, Bool.not_eq_true', Bool.not_eq_false', Bool.not_eq_true, Bool.not_eq_false] at h14
      refine ACode.exit ?_
      refine ks_e ?_
      refine kl_e ?_
      refine kb_hit ?_
      refine ks_n ?_
      refine ACode.seq ?_
      refine ACode.region ?_
      refine AOps.cons (St1.move rfl rfl rfl rfl rfl) ?_
      refine AOps.cons (St1.assign rfl rfl rfl rfl rfl) ?_
      refine AOps.nil ?_
      refine ks_n ?_
      refine ACode.ret ?_
      refine kf_wret [(.t 2, .v (.o (.c (.own 100 2 (init.length + 1))))), (.b 100, .b 67 2 (dR (init.map rL) ++ [[.d (dAs l0.1), .own 101 2 l0.2.length]])), (.u 100, .u), (.b 101, .b 51 2 (dR (l0.2.map rA))), (.u 101, .u)] (Wk.keep [(100, 110), (101, 111)] rfl rfl ⟨⟨_, rfl, Vto.c (.own _ _ _ _ _ (by first | decide | simp) (by first | rfl | exact congrArg (fun z => V.o (nat1 z)) (by omega) | (simp; done) | omega))⟩, ⟨110, _, (by first | decide | simp), rfl, (by first | exact .app (.dat _ _ _ rfl rfl) (.cons (.cons (.d _ _ rfl) (.cons (.own _ _ _ _ _ (by first | decide | simp) (by first | rfl | omega)) .nil)) .nil) | exact .app (.dat _ _ _ (by rw [List.take_length]) rfl) (.cons (.cons (.d _ _ rfl) (.cons (.own _ _ _ _ _ (by first | decide | simp) (by first | rfl | omega)) .nil)) .nil))⟩, ⟨111, _, (by first | decide | simp), rfl, Rto.dat _ _ _ (by first | exact dR_take rA hx | exact dR_take1 rA hx | rfl | (rw [List.take_length]; done) | (simp [dR]; done)) rfl⟩, trivial⟩) rfl ?_ (two_box rfl rfl)
      rfl

set_option maxRecDepth 100000 in
set_option maxHeartbeats 1600000 in
theorem l2Copy_lastN {init : List Lp} {l0 : Lp} (hs : smN (init ++ [l0])) (h0 : l0.2 = []) : Fn Try.prog 90 [] [vD (dLs (init ++ [l0]))] (.o (.c (.own 100 2 (init.length + 1)))) [(.b 100, .b 67 2 (dR (init.map rL ++ [[dAs l0.1, .val (.slice none 0 0)]]))), (.u 100, .u)] := by
  obtain ⟨hs1, hs2⟩ := hs
  simp at hs1
  refine Fn.of_code Try.func90 rfl rfl HB.nil rfl rfl HB.nil.data rfl (one_num rfl) ?_
  refine ACode.seq ?_
  refine ACode.region ?_
  refine AOps.cons (St1.assign rfl rfl rfl rfl rfl) ?_
  refine AOps.nil ?_
  refine ks_n ?_
  refine ACode.seq ?_
  refine ACode.region ?_
  refine AOps.cons (St1.lit0 (k' := 110) (e := 67) (sz := 2) (b := true) rfl rfl rfl rfl (by kernel_rfl) rfl rfl) ?_
  refine AOps.cons (St1.assign rfl rfl rfl rfl rfl) ?_
  refine AOps.nil ?_
  refine ks_n ?_
  refine ACode.seq ?_
  refine ACode.seq ?_
  refine ACode.region ?_
  refine AOps.cons (St1.assign rfl rfl rfl rfl rfl) ?_
  refine AOps.nil ?_
  refine ks_n ?_
  refine ACode.block ?_
  refine ACode.wk (σ' := [(.t 0, .v (.o (vD (dLs (init ++ [l0]))))), (.t 3, .v (.o (.c (.own 110 2 (0))))), (.t 4, .v (.o (nat1 (0 : Nat)))), (.b 110, .b 67 2 (dR ((init.take 0).map rL))), (.u 110, .u)]) (Wk.keep [(110, 110)] rfl rfl ⟨⟨_, rfl, Vto.dat _ _ (by first | rfl | exact congrArg (fun z => V.o (nat1 z)) (by omega) | (simp; done) | omega) rfl⟩, ⟨_, rfl, Vto.c (.own _ _ _ _ _ (by first | decide | simp) (by first | rfl | exact congrArg (fun z => V.o (nat1 z)) (by omega) | (simp; done) | omega))⟩, ⟨_, rfl, Vto.dat _ _ (by first | rfl | exact congrArg (fun z => V.o (nat1 z)) (by omega) | (simp; done) | omega) rfl⟩, ⟨110, _, (by first | decide | simp), rfl, Rto.dat _ _ _ (by first | exact dR_take rL hl | rfl | (rw [List.take_length, dR_app]; done) | (rw [List.take_length]; done) | (simp [dR]; done)) rfl⟩, trivial⟩) ?_
  refine ACode.loop (fun m σ => (∃ i : Nat, m = init.length + 1 - i ∧ (i ≤ init.length) ∧ σ = [(.t 0, .v (.o (vD (dLs (init ++ [l0]))))), (.t 3, .v (.o (.c (.own 110 2 (i))))), (.t 4, .v (.o (nat1 (i : Nat)))), (.b 110, .b 67 2 (dR ((init.take i).map rL))), (.u 110, .u)]) ∨ (∃ i : Nat, m = init.length + 1 - i ∧ (i = init.length + 1) ∧ σ = [(.t 0, .v (.o (vD (dLs (init ++ [l0]))))), (.t 3, .v (.o (.c (.own 110 2 (init.length + 1))))), (.t 4, .v (.o (nat1 (i : Nat)))), (.b 110, .b 67 2 (dR (init.map rL ++ [[dAs l0.1, .val (.slice none 0 0)]]))), (.u 110, .u)])) ((init.length + 1 - 0)) (.inl ⟨0, rfl, by omega, rfl⟩) ?_
  rintro m σ (⟨i, hm0, hi, rfl⟩ | ⟨i, hm0, rfl, rfl⟩)
  · skip
    refine ACode.seq ?_
    refine ACode.seq ?_
    refine ACode.region ?_
    refine AOps.cons (St1.move rfl rfl rfl rfl rfl) ?_
    refine AOps.cons (St1.move rfl rfl rfl rfl rfl) ?_
    refine AOps.cons (St1.lenL (e := 67) (m := 2) (by' := 48) rfl rfl rfl rfl rfl (by kernel_rfl) rfl (by first | exact List.length_map _ | rfl)) ?_
    refine AOps.cons (St1.lss rfl rfl rfl rfl rfl rfl) ?_
    refine AOps.nil ?_
    refine ks_n ?_
    refine ACode.condT rfl (fun h14 => ?_) (fun h14 => ?_)
    · try simp only [List.length_map, decide_eq_true_eq, decide_eq_false_iff_not, Bool.not_eq_true', Bool.not_eq_false', Bool.not_eq_true, Bool.not_eq_false] at h14
      refine ACode.skip ?_
      refine ks_n ?_
      refine ACode.seq ?_
      refine ACode.block ?_
      refine ACode.seq ?_
      by_cases hsp : i < init.length
      · skip
        obtain ⟨l, hl⟩ : ∃ l, init[i]? = some l := ⟨_, List.getElem?_eq_getElem hsp⟩
        have hn : (init ++ [l0])[i]? = some l := by rw [List.getElem?_append_left hsp]; exact hl
        obtain ⟨hla, hlb, hlc, hld⟩ := hs2 l (by first | exact List.mem_of_getElem? hn | simp)
        refine ACode.region ?_
        refine AOps.cons (St1.build (pl := []) (places := [(0, 1), (1, 1)]) (zs := [.slice none 0 0, .slice none 0 0]) rfl rfl rfl rfl rfl (by kernel_rfl) rfl rfl rfl) ?_
        refine AOps.cons (St1.alloc (k' := 105) (zs := [.slice none 0 0, .slice none 0 0]) rfl rfl rfl rfl (by kernel_rfl) rfl rfl rfl) ?_
        refine AOps.cons (St1.store (m := 2) (rw' := true) rfl rfl rfl (by kernel_rfl) rfl rfl rfl rfl rfl rfl rfl) ?_
        refine AOps.nil ?_
        refine ks_n ?_
        refine ACode.seq ?_
        refine ACode.seq ?_
        refine ACode.region ?_
        refine AOps.cons (St1.assign rfl rfl rfl rfl rfl) ?_
        refine AOps.nil ?_
        refine ks_n ?_
        refine ACode.block ?_
        refine ACode.wk (σ' := [(.t 0, .v (.o (vD (dLs (init ++ [l0]))))), (.t 3, .v (.o (.c (.own 120 2 (i))))), (.t 4, .v (.o (nat1 ((i : Nat))))), (.t 5, .v (.o (.c (.box 121 2 0 0)))), (.t 6, .v (.o (nat1 (0 : Nat)))), (.b 120, .b 67 2 (dR ((init.take i).map rL))), (.u 120, .u), (.b 121, .b 67 2 [[.d (.val (.slice none 0 0)), .d (.val (.slice none 0 0))]]), (.u 121, .u)]) (Wk.keep [(120, 110), (121, 105)] rfl rfl ⟨⟨_, rfl, Vto.dat _ _ (by first | rfl | exact congrArg (fun z => V.o (nat1 z)) (by omega) | (simp; done) | omega) rfl⟩, ⟨_, rfl, Vto.c (.own _ _ _ _ _ (by first | decide | simp) (by first | rfl | exact congrArg (fun z => V.o (nat1 z)) (by omega) | (simp; done) | omega))⟩, ⟨_, rfl, Vto.dat _ _ (by first | rfl | exact congrArg (fun z => V.o (nat1 z)) (by omega) | (simp; done) | omega) rfl⟩, ⟨_, rfl, Vto.c (.box _ _ _ _ _ _ (by first | decide | simp) rfl)⟩, ⟨_, rfl, Vto.dat _ _ (by first | rfl | exact congrArg (fun z => V.o (nat1 z)) (by omega) | (simp; done) | omega) rfl⟩, ⟨110, _, (by first | decide | simp), rfl, Rto.dat _ _ _ (by first | exact dR_take rL hl | rfl | (rw [List.take_length, dR_app]; done) | (rw [List.take_length]; done) | (simp [dR]; done)) rfl⟩, ⟨105, _, (by first | decide | simp), rfl, .cons (.cons (.d _ _ (by first | rfl | exact congrArg (fun z => V.o (nat1 z)) (by omega) | (simp; done) | omega)) (.cons (.d _ _ (by first | rfl | exact congrArg (fun z => V.o (nat1 z)) (by omega) | (simp; done) | omega)) Ctos.nil)) .nil⟩, trivial⟩) ?_
        refine ACode.loop (fun m σ => (∃ k : Nat, m = l.1.length - k ∧ (k = 0) ∧ σ = [(.t 0, .v (.o (vD (dLs (init ++ [l0]))))), (.t 3, .v (.o (.c (.own 120 2 (i))))), (.t 4, .v (.o (nat1 ((i : Nat))))), (.t 5, .v (.o (.c (.box 121 2 0 0)))), (.t 6, .v (.o (nat1 (k : Nat)))), (.b 120, .b 67 2 (dR ((init.take i).map rL))), (.u 120, .u), (.b 121, .b 67 2 [[.d (.val (.slice none 0 0)), .d (.val (.slice none 0 0))]]), (.u 121, .u)]) ∨ (∃ k : Nat, m = l.1.length - k ∧ (1 ≤ k) ∧ (k ≤ l.1.length) ∧ σ = [(.t 0, .v (.o (vD (dLs (init ++ [l0]))))), (.t 3, .v (.o (.c (.own 120 2 (i))))), (.t 4, .v (.o (nat1 ((i : Nat))))), (.t 5, .v (.o (.c (.box 121 2 0 0)))), (.t 6, .v (.o (nat1 (k : Nat)))), (.b 120, .b 67 2 (dR ((init.take i).map rL))), (.u 120, .u), (.b 122, .b 51 2 (dR ((l.1.take k).map rA))), (.u 122, .u), (.b 121, .b 67 2 [[.own 122 2 (k), .d (.val (.slice none 0 0))]]), (.u 121, .u)])) ((l.1.length - 0)) (.inl ⟨0, rfl, rfl, rfl⟩) ?_
        rintro m σ (⟨k, hm0, rfl, rfl⟩ | ⟨k, hm0, hk1, hk2, rfl⟩)
        · skip
          refine ACode.seq ?_
          refine ACode.seq ?_
          refine ACode.region ?_
          refine AOps.cons (St1.move rfl rfl rfl rfl rfl) ?_
          refine AOps.cons (St1.move rfl rfl rfl rfl rfl) ?_
          refine AOps.cons (St1.move rfl rfl rfl rfl rfl) ?_
          refine AOps.cons (St1.indexL (e := 67) (sz := 2) (by' := 48) rfl rfl rfl rfl (by kernel_rfl) rfl rfl rfl rfl (by first | exact map_at (by assumption) | rfl)) ?_
          refine AOps.cons (St1.fieldP (off := 0) (m := 0) (r := false) rfl rfl rfl rfl (by kernel_rfl) rfl) ?_
          refine AOps.cons (St1.loadP1 (m := 1) rfl rfl rfl rfl (by kernel_rfl) rfl) ?_
          refine AOps.cons (St1.lenL (e := 51) (m := 2) (by' := 32) rfl rfl rfl rfl rfl (by kernel_rfl) rfl (by first | exact List.length_map _ | rfl)) ?_
          refine AOps.cons (St1.lss rfl rfl rfl rfl rfl rfl) ?_
          refine AOps.nil ?_
          refine ks_n ?_
          refine ACode.condT rfl (fun h25 => ?_) (fun h25 => ?_)
          · try simp only [List.length_map, decide_eq_true_eq, decide_eq_false_iff_not, Bool.not_eq_true', Bool.not_eq_false', Bool.not_eq_true, Bool.not_eq_false] at h25
            obtain ⟨x, hx, hxs⟩ := at_sm hlc (show 0 < l.1.length by omega)
            refine ACode.skip ?_
            refine ks_n ?_
            refine ACode.seq ?_
            refine ACode.block ?_
            refine ACode.seq ?_
            refine ACode.region ?_
            refine AOps.cons (St1.move rfl rfl rfl rfl rfl) ?_
            refine AOps.cons (St1.move rfl rfl rfl rfl rfl) ?_
            refine AOps.cons (St1.indexL (e := 67) (sz := 2) (by' := 48) rfl rfl rfl rfl (by kernel_rfl) rfl rfl rfl rfl (by first | exact map_at (by assumption) | rfl)) ?_
            refine AOps.cons (St1.fieldP (off := 0) (m := 0) (r := false) rfl rfl rfl rfl (by kernel_rfl) rfl) ?_
            refine AOps.cons (St1.loadP1 (m := 1) rfl rfl rfl rfl (by kernel_rfl) rfl) ?_
            refine AOps.cons (St1.move rfl rfl rfl rfl rfl) ?_
            refine AOps.cons (St1.indexL (e := 51) (sz := 2) (by' := 32) rfl rfl rfl rfl (by kernel_rfl) rfl rfl rfl rfl (by first | exact map_at (by assumption) | rfl)) ?_
            refine AOps.cons (St1.loadPN (m := 2) rfl rfl rfl rfl (by kernel_rfl) rfl rfl) ?_
            refine AOps.cons (St1.alloc (k' := 107) (zs := [.slice none 0 0, .int .i64 0]) rfl rfl rfl rfl (by kernel_rfl) rfl rfl rfl) ?_
            refine AOps.cons (St1.store (m := 2) (rw' := true) rfl rfl rfl (by kernel_rfl) rfl rfl rfl rfl rfl rfl rfl) ?_
            refine AOps.nil ?_
            refine ks_n ?_
            refine ACode.drawK (by kernel_rfl) (by kernel_rfl) ?_
            refine RunK.cons (St1.fieldB (off := 0) (m := 0) (r := false) rfl rfl rfl rfl (by kernel_rfl) rfl rfl) ?_
            refine RunK.cons (St1.loadB1 (m := 1) rfl rfl rfl rfl (by kernel_rfl) rfl rfl rfl rfl rfl) ?_
            refine RunK.cons (St1.lit0 (k' := 138) (e := 3) (sz := 1) (b := true) rfl rfl rfl rfl (by kernel_rfl) rfl rfl) ?_
            refine RunK.cons (St1.fieldB (off := 0) (m := 0) (r := false) rfl rfl rfl rfl (by kernel_rfl) rfl rfl) ?_
            refine RunK.cons (St1.loadB1 (m := 1) rfl rfl rfl rfl (by kernel_rfl) rfl rfl rfl rfl rfl) ?_
            refine RunK.cons (St1.appD (rows := []) (e := 3) (sz := 0) (by' := 8) rfl rfl rfl rfl rfl (by kernel_rfl) rfl rfl rfl rfl rfl (by simp; omega) rfl) ?_
            refine RunK.cons (St1.fieldB (off := 1) (m := 0) (r := false) rfl rfl rfl rfl (by kernel_rfl) rfl rfl) ?_
            refine RunK.cons (St1.loadB1 (m := 1) rfl rfl rfl rfl (by kernel_rfl) rfl rfl rfl rfl rfl) ?_
            refine RunK.cons (St1.build (pl := [(0, .tmp 41), (1, .tmp 43)]) (places := [(0, 1), (1, 1)]) (zs := [.slice none 0 0, .int .i64 0]) rfl rfl rfl rfl rfl (by kernel_rfl) rfl rfl rfl) ?_
            refine RunK.cons (St1.lit (e := 51) (sz := 1) (m := 0) (xs := [.tmp 44]) rfl rfl rfl rfl rfl (by kernel_rfl) rfl rfl rfl rfl) ?_
            refine RunK.cons (St1.appN (k' := 146) (e := 51) (sz := 1) (by' := 32) rfl rfl rfl rfl rfl (by kernel_rfl) rfl rfl rfl (by simp) (by first | (simp [dR]; done) | (simp [dR]; omega)) rfl rfl) ?_
            refine RunK.cons (St1.fieldB (off := 0) (m := 0) (r := false) rfl rfl rfl rfl (by kernel_rfl) rfl rfl) ?_
            refine RunK.cons (St1.store (m := 1) (rw' := false) rfl rfl rfl (by kernel_rfl) rfl rfl rfl rfl rfl rfl rfl) ?_
            refine RunK.nil ⟨by kernel_rfl, ?_⟩
            refine kb_n ?_
            refine ks_n ?_
            refine ACode.region ?_
            refine AOps.cons (St1.move rfl rfl rfl rfl rfl) ?_
            refine AOps.cons (St1.add rfl rfl rfl rfl rfl rfl (by omega)) ?_
            refine AOps.cons (St1.assign rfl rfl rfl rfl rfl) ?_
            refine AOps.nil ?_
            refine kl_n (σ2 := [(.t 0, .v (.o (vD (dLs (init ++ [l0]))))), (.t 3, .v (.o (.c (.own 120 2 (i))))), (.t 4, .v (.o (nat1 ((i : Nat))))), (.t 5, .v (.o (.c (.box 121 2 0 0)))), (.t 6, .v (.o (nat1 (1 : Nat)))), (.b 120, .b 67 2 (dR ((init.take i).map rL))), (.u 120, .u), (.b 122, .b 51 2 (dR ((l.1.take 1).map rA))), (.u 122, .u), (.b 121, .b 67 2 [[.own 122 2 (1), .d (.val (.slice none 0 0))]]), (.u 121, .u)]) ((l.1.length - 1)) (by omega) (Wk.keep [(120, 120), (121, 121), (122, 146)] rfl rfl ⟨⟨_, rfl, Vto.dat _ _ (by first | rfl | exact congrArg (fun z => V.o (nat1 z)) (by omega) | (simp; done) | omega) rfl⟩, ⟨_, rfl, Vto.c (.own _ _ _ _ _ (by first | decide | simp) (by first | rfl | exact congrArg (fun z => V.o (nat1 z)) (by omega) | (simp; done) | omega))⟩, ⟨_, rfl, Vto.dat _ _ (by first | rfl | exact congrArg (fun z => V.o (nat1 z)) (by omega) | (simp; done) | omega) rfl⟩, ⟨_, rfl, Vto.c (.box _ _ _ _ _ _ (by first | decide | simp) rfl)⟩, ⟨_, rfl, Vto.dat _ _ (by first | rfl | exact congrArg (fun z => V.o (nat1 z)) (by omega) | (simp; done) | omega) rfl⟩, ⟨120, _, (by first | decide | simp), rfl, Rto.dat _ _ _ (by first | exact dR_take rL hl | rfl | (rw [List.take_length, dR_app]; done) | (rw [List.take_length]; done) | (simp [dR]; done)) rfl⟩, ⟨146, _, (by first | decide | simp), rfl, Rto.dat _ _ _ (by first | exact dR_take rA hx | exact dR_take1 rA hx | rfl | (rw [List.take_length]; done) | (simp [dR]; done)) rfl⟩, ⟨121, _, (by first | decide | simp), rfl, .cons (.cons (.own _ _ _ _ _ (by first | decide | simp) (by first | rfl | exact congrArg (fun z => V.o (nat1 z)) (by omega) | (simp; done) | omega)) (.cons (.d _ _ (by first | rfl | exact congrArg (fun z => V.o (nat1 z)) (by omega) | (simp; done) | omega)) Ctos.nil)) .nil⟩, trivial⟩) (.inr ⟨1, rfl, by omega, by omega, rfl⟩)
          · try simp only [List.length_map, decide_eq_true_eq, decide_eq_false_iff_not, Bool.not_eq_true', Bool.not_eq_false', Bool.not_eq_true, Bool.not_eq_false] at h25
            have hn1 : l.1 = [] := List.eq_nil_of_length_eq_zero (by omega)
            refine ACode.exit ?_
            refine ks_e ?_
            refine kl_e ?_
            refine kb_hit ?_
            refine ks_n ?_
            refine ACode.seq ?_
            refine ACode.seq ?_
            refine ACode.region ?_
            refine AOps.cons (St1.assign rfl rfl rfl rfl rfl) ?_
            refine AOps.nil ?_
            refine ks_n ?_
            refine ACode.block ?_
            refine ACode.wk (σ' := [(.t 0, .v (.o (vD (dLs (init ++ [l0]))))), (.t 3, .v (.o (.c (.own 130 2 (i))))), (.t 4, .v (.o (nat1 ((i : Nat))))), (.t 5, .v (.o (.c (.box 131 2 0 0)))), (.t 8, .v (.o (nat1 (0 : Nat)))), (.b 130, .b 67 2 (dR ((init.take i).map rL))), (.u 130, .u), (.b 131, .b 67 2 [[.d (dAs l.1), .d (.val (.slice none 0 0))]]), (.u 131, .u)]) (Wk.keep [(130, 120), (131, 121)] rfl rfl ⟨⟨_, rfl, Vto.dat _ _ (by first | rfl | exact congrArg (fun z => V.o (nat1 z)) (by omega) | (simp; done) | omega) rfl⟩, ⟨_, rfl, Vto.c (.own _ _ _ _ _ (by first | decide | simp) (by first | rfl | exact congrArg (fun z => V.o (nat1 z)) (by omega) | (simp; done) | omega))⟩, ⟨_, rfl, Vto.dat _ _ (by first | rfl | exact congrArg (fun z => V.o (nat1 z)) (by omega) | (simp; done) | omega) rfl⟩, ⟨_, rfl, Vto.c (.box _ _ _ _ _ _ (by first | decide | simp) rfl)⟩, ⟨_, rfl, Vto.dat _ _ (by first | rfl | exact congrArg (fun z => V.o (nat1 z)) (by omega) | (simp; done) | omega) rfl⟩, ⟨120, _, (by first | decide | simp), rfl, Rto.dat _ _ _ (by first | exact dR_take rL hl | rfl | (rw [List.take_length, dR_app]; done) | (rw [List.take_length]; done) | (simp [dR]; done)) rfl⟩, ⟨121, _, (by first | decide | simp), rfl, .cons (.cons (Cto.nilE 2 (by rw [hn1]; rfl)) (.cons (.d _ _ (by first | rfl | exact congrArg (fun z => V.o (nat1 z)) (by omega) | (simp; done) | omega)) Ctos.nil)) .nil⟩, trivial⟩) ?_
            refine ACode.loop (fun m σ => (∃ q : Nat, m = l.2.length - q ∧ (q = 0) ∧ σ = [(.t 0, .v (.o (vD (dLs (init ++ [l0]))))), (.t 3, .v (.o (.c (.own 130 2 (i))))), (.t 4, .v (.o (nat1 ((i : Nat))))), (.t 5, .v (.o (.c (.box 131 2 0 0)))), (.t 8, .v (.o (nat1 (q : Nat)))), (.b 130, .b 67 2 (dR ((init.take i).map rL))), (.u 130, .u), (.b 131, .b 67 2 [[.d (dAs l.1), .d (.val (.slice none 0 0))]]), (.u 131, .u)]) ∨ (∃ q : Nat, m = l.2.length - q ∧ (1 ≤ q) ∧ (q ≤ l.2.length) ∧ σ = [(.t 0, .v (.o (vD (dLs (init ++ [l0]))))), (.t 3, .v (.o (.c (.own 130 2 (i))))), (.t 4, .v (.o (nat1 ((i : Nat))))), (.t 5, .v (.o (.c (.box 131 2 0 0)))), (.t 8, .v (.o (nat1 (q : Nat)))), (.b 130, .b 67 2 (dR ((init.take i).map rL))), (.u 130, .u), (.b 132, .b 51 2 (dR ((l.2.take q).map rA))), (.u 132, .u), (.b 131, .b 67 2 [[.d (dAs l.1), .own 132 2 (q)]]), (.u 131, .u)])) ((l.2.length - 0)) (.inl ⟨0, rfl, rfl, rfl⟩) ?_
            rintro m σ (⟨q, hm0, rfl, rfl⟩ | ⟨q, hm0, hq1, hq2, rfl⟩)
            · skip
              refine ACode.seq ?_
              refine ACode.seq ?_
              refine ACode.region ?_
              refine AOps.cons (St1.move rfl rfl rfl rfl rfl) ?_
              refine AOps.cons (St1.move rfl rfl rfl rfl rfl) ?_
              refine AOps.cons (St1.move rfl rfl rfl rfl rfl) ?_
              refine AOps.cons (St1.indexL (e := 67) (sz := 2) (by' := 48) rfl rfl rfl rfl (by kernel_rfl) rfl rfl rfl rfl (by first | exact map_at (by assumption) | rfl)) ?_
              refine AOps.cons (St1.fieldP (off := 1) (m := 0) (r := false) rfl rfl rfl rfl (by kernel_rfl) rfl) ?_
              refine AOps.cons (St1.loadP1 (m := 1) rfl rfl rfl rfl (by kernel_rfl) rfl) ?_
              refine AOps.cons (St1.lenL (e := 51) (m := 2) (by' := 32) rfl rfl rfl rfl rfl (by kernel_rfl) rfl (by first | exact List.length_map _ | rfl)) ?_
              refine AOps.cons (St1.lss rfl rfl rfl rfl rfl rfl) ?_
              refine AOps.nil ?_
              refine ks_n ?_
              refine ACode.condT rfl (fun h55 => ?_) (fun h55 => ?_)
              · try simp only [List.length_map, decide_eq_true_eq, decide_eq_false_iff_not, Bool.not_eq_true', Bool.not_eq_false', Bool.not_eq_true, Bool.not_eq_false] at h55
                obtain ⟨x, hx, hxs⟩ := at_sm hld (show 0 < l.2.length by omega)
                refine ACode.skip ?_
                refine ks_n ?_
                refine ACode.seq ?_
                refine ACode.block ?_
                refine ACode.seq ?_
                refine ACode.region ?_
                refine AOps.cons (St1.move rfl rfl rfl rfl rfl) ?_
                refine AOps.cons (St1.move rfl rfl rfl rfl rfl) ?_
                refine AOps.cons (St1.indexL (e := 67) (sz := 2) (by' := 48) rfl rfl rfl rfl (by kernel_rfl) rfl rfl rfl rfl (by first | exact map_at (by assumption) | rfl)) ?_
                refine AOps.cons (St1.fieldP (off := 1) (m := 0) (r := false) rfl rfl rfl rfl (by kernel_rfl) rfl) ?_
                refine AOps.cons (St1.loadP1 (m := 1) rfl rfl rfl rfl (by kernel_rfl) rfl) ?_
                refine AOps.cons (St1.move rfl rfl rfl rfl rfl) ?_
                refine AOps.cons (St1.indexL (e := 51) (sz := 2) (by' := 32) rfl rfl rfl rfl (by kernel_rfl) rfl rfl rfl rfl (by first | exact map_at (by assumption) | rfl)) ?_
                refine AOps.cons (St1.loadPN (m := 2) rfl rfl rfl rfl (by kernel_rfl) rfl rfl) ?_
                refine AOps.cons (St1.alloc (k' := 109) (zs := [.slice none 0 0, .int .i64 0]) rfl rfl rfl rfl (by kernel_rfl) rfl rfl rfl) ?_
                refine AOps.cons (St1.store (m := 2) (rw' := true) rfl rfl rfl (by kernel_rfl) rfl rfl rfl rfl rfl rfl rfl) ?_
                refine AOps.nil ?_
                refine ks_n ?_
                refine ACode.drawK (by kernel_rfl) (by kernel_rfl) ?_
                refine RunK.cons (St1.fieldB (off := 1) (m := 0) (r := false) rfl rfl rfl rfl (by kernel_rfl) rfl rfl) ?_
                refine RunK.cons (St1.loadB1 (m := 1) rfl rfl rfl rfl (by kernel_rfl) rfl rfl rfl rfl rfl) ?_
                refine RunK.cons (St1.lit0 (k' := 168) (e := 3) (sz := 1) (b := true) rfl rfl rfl rfl (by kernel_rfl) rfl rfl) ?_
                refine RunK.cons (St1.fieldB (off := 0) (m := 0) (r := false) rfl rfl rfl rfl (by kernel_rfl) rfl rfl) ?_
                refine RunK.cons (St1.loadB1 (m := 1) rfl rfl rfl rfl (by kernel_rfl) rfl rfl rfl rfl rfl) ?_
                refine RunK.cons (St1.appD (rows := []) (e := 3) (sz := 0) (by' := 8) rfl rfl rfl rfl rfl (by kernel_rfl) rfl rfl rfl rfl rfl (by simp; omega) rfl) ?_
                refine RunK.cons (St1.fieldB (off := 1) (m := 0) (r := false) rfl rfl rfl rfl (by kernel_rfl) rfl rfl) ?_
                refine RunK.cons (St1.loadB1 (m := 1) rfl rfl rfl rfl (by kernel_rfl) rfl rfl rfl rfl rfl) ?_
                refine RunK.cons (St1.build (pl := [(0, .tmp 71), (1, .tmp 73)]) (places := [(0, 1), (1, 1)]) (zs := [.slice none 0 0, .int .i64 0]) rfl rfl rfl rfl rfl (by kernel_rfl) rfl rfl rfl) ?_
                refine RunK.cons (St1.lit (e := 51) (sz := 1) (m := 0) (xs := [.tmp 74]) rfl rfl rfl rfl rfl (by kernel_rfl) rfl rfl rfl rfl) ?_
                refine RunK.cons (St1.appN (k' := 176) (e := 51) (sz := 1) (by' := 32) rfl rfl rfl rfl rfl (by kernel_rfl) rfl rfl rfl (by simp) (by first | (simp [dR]; done) | (simp [dR]; omega)) rfl rfl) ?_
                refine RunK.cons (St1.fieldB (off := 1) (m := 0) (r := false) rfl rfl rfl rfl (by kernel_rfl) rfl rfl) ?_
                refine RunK.cons (St1.store (m := 1) (rw' := false) rfl rfl rfl (by kernel_rfl) rfl rfl rfl rfl rfl rfl rfl) ?_
                refine RunK.nil ⟨by kernel_rfl, ?_⟩
                refine kb_n ?_
                refine ks_n ?_
                refine ACode.region ?_
                refine AOps.cons (St1.move rfl rfl rfl rfl rfl) ?_
                refine AOps.cons (St1.add rfl rfl rfl rfl rfl rfl (by omega)) ?_
                refine AOps.cons (St1.assign rfl rfl rfl rfl rfl) ?_
                refine AOps.nil ?_
                refine kl_n (σ2 := [(.t 0, .v (.o (vD (dLs (init ++ [l0]))))), (.t 3, .v (.o (.c (.own 130 2 (i))))), (.t 4, .v (.o (nat1 ((i : Nat))))), (.t 5, .v (.o (.c (.box 131 2 0 0)))), (.t 8, .v (.o (nat1 (1 : Nat)))), (.b 130, .b 67 2 (dR ((init.take i).map rL))), (.u 130, .u), (.b 132, .b 51 2 (dR ((l.2.take 1).map rA))), (.u 132, .u), (.b 131, .b 67 2 [[.d (dAs l.1), .own 132 2 (1)]]), (.u 131, .u)]) ((l.2.length - 1)) (by omega) (Wk.keep [(130, 130), (131, 131), (132, 176)] rfl rfl ⟨⟨_, rfl, Vto.dat _ _ (by first | rfl | exact congrArg (fun z => V.o (nat1 z)) (by omega) | (simp; done) | omega) rfl⟩, ⟨_, rfl, Vto.c (.own _ _ _ _ _ (by first | decide | simp) (by first | rfl | exact congrArg (fun z => V.o (nat1 z)) (by omega) | (simp; done) | omega))⟩, ⟨_, rfl, Vto.dat _ _ (by first | rfl | exact congrArg (fun z => V.o (nat1 z)) (by omega) | (simp; done) | omega) rfl⟩, ⟨_, rfl, Vto.c (.box _ _ _ _ _ _ (by first | decide | simp) rfl)⟩, ⟨_, rfl, Vto.dat _ _ (by first | rfl | exact congrArg (fun z => V.o (nat1 z)) (by omega) | (simp; done) | omega) rfl⟩, ⟨130, _, (by first | decide | simp), rfl, Rto.dat _ _ _ (by first | exact dR_take rL hl | rfl | (rw [List.take_length, dR_app]; done) | (rw [List.take_length]; done) | (simp [dR]; done)) rfl⟩, ⟨176, _, (by first | decide | simp), rfl, Rto.dat _ _ _ (by first | exact dR_take rA hx | exact dR_take1 rA hx | rfl | (rw [List.take_length]; done) | (simp [dR]; done)) rfl⟩, ⟨131, _, (by first | decide | simp), rfl, .cons (.cons (.d _ _ (by first | rfl | exact congrArg (fun z => V.o (nat1 z)) (by omega) | (simp; done) | omega)) (.cons (.own _ _ _ _ _ (by first | decide | simp) (by first | rfl | exact congrArg (fun z => V.o (nat1 z)) (by omega) | (simp; done) | omega)) Ctos.nil)) .nil⟩, trivial⟩) (.inr ⟨1, rfl, by omega, by omega, rfl⟩)
              · try simp only [List.length_map, decide_eq_true_eq, decide_eq_false_iff_not, Bool.not_eq_true', Bool.not_eq_false', Bool.not_eq_true, Bool.not_eq_false] at h55
                have hn2 : l.2 = [] := List.eq_nil_of_length_eq_zero (by omega)
                refine ACode.exit ?_
                refine ks_e ?_
                refine kl_e ?_
                refine kb_hit ?_
                refine ks_n ?_
                refine ACode.wk (σ' := [(.t 0, .v (.o (vD (dLs (init ++ [l0]))))), (.t 3, .v (.o (.c (.own 860 2 (i))))), (.t 4, .v (.o (nat1 ((i : Nat))))), (.t 5, .v (.o (.c (.box 861 2 0 0)))), (.b 860, .b 67 2 (dR ((init.take i).map rL))), (.u 860, .u), (.b 861, .b 67 2 [[.d (dAs l.1), .d (dAs l.2)]]), (.u 861, .u)]) (Wk.keep [(860, 130), (861, 131)] rfl rfl ⟨⟨_, rfl, Vto.dat _ _ (by first | rfl | exact congrArg (fun z => V.o (nat1 z)) (by omega) | (simp; done) | omega) rfl⟩, ⟨_, rfl, Vto.c (.own _ _ _ _ _ (by first | decide | simp) (by first | rfl | exact congrArg (fun z => V.o (nat1 z)) (by omega) | (simp; done) | omega))⟩, ⟨_, rfl, Vto.dat _ _ (by first | rfl | exact congrArg (fun z => V.o (nat1 z)) (by omega) | (simp; done) | omega) rfl⟩, ⟨_, rfl, Vto.c (.box _ _ _ _ _ _ (by first | decide | simp) rfl)⟩, ⟨130, _, (by first | decide | simp), rfl, Rto.dat _ _ _ (by first | exact dR_take rL hl | rfl | (rw [List.take_length, dR_app]; done) | (rw [List.take_length]; done) | (simp [dR]; done)) rfl⟩, ⟨131, _, (by first | decide | simp), rfl, .cons (.cons (.d _ _ (by first | rfl | exact congrArg (fun z => V.o (nat1 z)) (by omega) | (simp; done) | omega)) (.cons (Cto.nilE 2 (by rw [hn2]; rfl)) Ctos.nil)) .nil⟩, trivial⟩) ?_
                refine ACode.region ?_
                refine AOps.cons (St1.move rfl rfl rfl rfl rfl) ?_
                refine AOps.cons (St1.loadBN (m := 2) rfl rfl rfl rfl (by kernel_rfl) rfl rfl rfl rfl rfl) ?_
                refine AOps.cons (St1.lit (e := 67) (sz := 1) (m := 0) (xs := [.tmp 79]) rfl rfl rfl rfl rfl (by kernel_rfl) rfl rfl rfl rfl) ?_
                refine AOps.cons (St1.appB (k' := 181) (e := 67) (sz := 1) (by' := 48) rfl rfl rfl rfl rfl (by kernel_rfl) rfl rfl rfl rfl (by first | (simp [dR]; done) | (simp [dR]; omega)) (by first | (simp [dR]; done) | (simp [dR]; omega)) rfl rfl rfl) ?_
                refine AOps.cons (St1.assign rfl rfl rfl rfl rfl) ?_
                refine AOps.nil ?_
                refine kb_n ?_
                refine ks_n ?_
                refine ACode.region ?_
                refine AOps.cons (St1.move rfl rfl rfl rfl rfl) ?_
                refine AOps.cons (St1.add rfl rfl rfl rfl rfl rfl (by omega)) ?_
                refine AOps.cons (St1.assign rfl rfl rfl rfl rfl) ?_
                refine AOps.nil ?_
                refine kl_n (σ2 := [(.t 0, .v (.o (vD (dLs (init ++ [l0]))))), (.t 3, .v (.o (.c (.own 110 2 ((i + 1)))))), (.t 4, .v (.o (nat1 ((i + 1) : Nat)))), (.b 110, .b 67 2 (dR ((init.take (i + 1)).map rL))), (.u 110, .u)]) ((init.length + 1 - (i + 1))) (by omega) (Wk.keep [(110, 181)] rfl rfl ⟨⟨_, rfl, Vto.dat _ _ (by first | rfl | exact congrArg (fun z => V.o (nat1 z)) (by omega) | (simp; done) | omega) rfl⟩, ⟨_, rfl, Vto.c (.own _ _ _ _ _ (by first | decide | simp) (by first | rfl | exact congrArg (fun z => V.o (nat1 z)) (by omega) | (simp; done) | omega))⟩, ⟨_, rfl, Vto.dat _ _ (by first | rfl | exact congrArg (fun z => V.o (nat1 z)) (by omega) | (simp; done) | omega) rfl⟩, ⟨181, _, (by first | decide | simp), rfl, Rto.dat _ _ _ (by first | exact dR_take rL hl | rfl | (rw [List.take_length, dR_app]; done) | (rw [List.take_length]; done) | (simp [dR]; done)) rfl⟩, trivial⟩) (.inl ⟨i + 1, rfl, by omega, rfl⟩)
            · skip
              refine ACode.seq ?_
              refine ACode.seq ?_
              refine ACode.region ?_
              refine AOps.cons (St1.move rfl rfl rfl rfl rfl) ?_
              refine AOps.cons (St1.move rfl rfl rfl rfl rfl) ?_
              refine AOps.cons (St1.move rfl rfl rfl rfl rfl) ?_
              refine AOps.cons (St1.indexL (e := 67) (sz := 2) (by' := 48) rfl rfl rfl rfl (by kernel_rfl) rfl rfl rfl rfl (by first | exact map_at (by assumption) | rfl)) ?_
              refine AOps.cons (St1.fieldP (off := 1) (m := 0) (r := false) rfl rfl rfl rfl (by kernel_rfl) rfl) ?_
              refine AOps.cons (St1.loadP1 (m := 1) rfl rfl rfl rfl (by kernel_rfl) rfl) ?_
              refine AOps.cons (St1.lenL (e := 51) (m := 2) (by' := 32) rfl rfl rfl rfl rfl (by kernel_rfl) rfl (by first | exact List.length_map _ | rfl)) ?_
              refine AOps.cons (St1.lss rfl rfl rfl rfl rfl rfl) ?_
              refine AOps.nil ?_
              refine ks_n ?_
              refine ACode.condT rfl (fun h55 => ?_) (fun h55 => ?_)
              · try simp only [List.length_map, decide_eq_true_eq, decide_eq_false_iff_not, Bool.not_eq_true', Bool.not_eq_false', Bool.not_eq_true, Bool.not_eq_false] at h55
                obtain ⟨x, hx, hxs⟩ := at_sm hld (show q < l.2.length by omega)
                refine ACode.skip ?_
                refine ks_n ?_
                refine ACode.seq ?_
                refine ACode.block ?_
                refine ACode.seq ?_
                refine ACode.region ?_
                refine AOps.cons (St1.move rfl rfl rfl rfl rfl) ?_
                refine AOps.cons (St1.move rfl rfl rfl rfl rfl) ?_
                refine AOps.cons (St1.indexL (e := 67) (sz := 2) (by' := 48) rfl rfl rfl rfl (by kernel_rfl) rfl rfl rfl rfl (by first | exact map_at (by assumption) | rfl)) ?_
                refine AOps.cons (St1.fieldP (off := 1) (m := 0) (r := false) rfl rfl rfl rfl (by kernel_rfl) rfl) ?_
                refine AOps.cons (St1.loadP1 (m := 1) rfl rfl rfl rfl (by kernel_rfl) rfl) ?_
                refine AOps.cons (St1.move rfl rfl rfl rfl rfl) ?_
                refine AOps.cons (St1.indexL (e := 51) (sz := 2) (by' := 32) rfl rfl rfl rfl (by kernel_rfl) rfl rfl rfl rfl (by first | exact map_at (by assumption) | rfl)) ?_
                refine AOps.cons (St1.loadPN (m := 2) rfl rfl rfl rfl (by kernel_rfl) rfl rfl) ?_
                refine AOps.cons (St1.alloc (k' := 109) (zs := [.slice none 0 0, .int .i64 0]) rfl rfl rfl rfl (by kernel_rfl) rfl rfl rfl) ?_
                refine AOps.cons (St1.store (m := 2) (rw' := true) rfl rfl rfl (by kernel_rfl) rfl rfl rfl rfl rfl rfl rfl) ?_
                refine AOps.nil ?_
                refine ks_n ?_
                refine ACode.drawK (by kernel_rfl) (by kernel_rfl) ?_
                refine RunK.cons (St1.fieldB (off := 1) (m := 0) (r := false) rfl rfl rfl rfl (by kernel_rfl) rfl rfl) ?_
                refine RunK.cons (St1.loadB1 (m := 1) rfl rfl rfl rfl (by kernel_rfl) rfl rfl rfl rfl rfl) ?_
                refine RunK.cons (St1.lit0 (k' := 168) (e := 3) (sz := 1) (b := true) rfl rfl rfl rfl (by kernel_rfl) rfl rfl) ?_
                refine RunK.cons (St1.fieldB (off := 0) (m := 0) (r := false) rfl rfl rfl rfl (by kernel_rfl) rfl rfl) ?_
                refine RunK.cons (St1.loadB1 (m := 1) rfl rfl rfl rfl (by kernel_rfl) rfl rfl rfl rfl rfl) ?_
                refine RunK.cons (St1.appD (rows := []) (e := 3) (sz := 0) (by' := 8) rfl rfl rfl rfl rfl (by kernel_rfl) rfl rfl rfl rfl rfl (by simp; omega) rfl) ?_
                refine RunK.cons (St1.fieldB (off := 1) (m := 0) (r := false) rfl rfl rfl rfl (by kernel_rfl) rfl rfl) ?_
                refine RunK.cons (St1.loadB1 (m := 1) rfl rfl rfl rfl (by kernel_rfl) rfl rfl rfl rfl rfl) ?_
                refine RunK.cons (St1.build (pl := [(0, .tmp 71), (1, .tmp 73)]) (places := [(0, 1), (1, 1)]) (zs := [.slice none 0 0, .int .i64 0]) rfl rfl rfl rfl rfl (by kernel_rfl) rfl rfl rfl) ?_
                refine RunK.cons (St1.lit (e := 51) (sz := 1) (m := 0) (xs := [.tmp 74]) rfl rfl rfl rfl rfl (by kernel_rfl) rfl rfl rfl rfl) ?_
                refine RunK.cons (St1.appB (k' := 176) (e := 51) (sz := 1) (by' := 32) rfl rfl rfl rfl rfl (by kernel_rfl) rfl rfl rfl rfl (by first | (simp [dR]; done) | (simp [dR]; omega)) (by first | (simp [dR]; done) | (simp [dR]; omega)) rfl rfl rfl) ?_
                refine RunK.cons (St1.fieldB (off := 1) (m := 0) (r := false) rfl rfl rfl rfl (by kernel_rfl) rfl rfl) ?_
                refine RunK.cons (St1.store (m := 1) (rw' := false) rfl rfl rfl (by kernel_rfl) rfl rfl rfl rfl rfl rfl rfl) ?_
                refine RunK.nil ⟨by kernel_rfl, ?_⟩
                refine kb_n ?_
                refine ks_n ?_
                refine ACode.region ?_
                refine AOps.cons (St1.move rfl rfl rfl rfl rfl) ?_
                refine AOps.cons (St1.add rfl rfl rfl rfl rfl rfl (by omega)) ?_
                refine AOps.cons (St1.assign rfl rfl rfl rfl rfl) ?_
                refine AOps.nil ?_
                refine kl_n (σ2 := [(.t 0, .v (.o (vD (dLs (init ++ [l0]))))), (.t 3, .v (.o (.c (.own 130 2 (i))))), (.t 4, .v (.o (nat1 ((i : Nat))))), (.t 5, .v (.o (.c (.box 131 2 0 0)))), (.t 8, .v (.o (nat1 ((q + 1) : Nat)))), (.b 130, .b 67 2 (dR ((init.take i).map rL))), (.u 130, .u), (.b 132, .b 51 2 (dR ((l.2.take (q + 1)).map rA))), (.u 132, .u), (.b 131, .b 67 2 [[.d (dAs l.1), .own 132 2 ((q + 1))]]), (.u 131, .u)]) ((l.2.length - (q + 1))) (by omega) (Wk.keep [(130, 130), (131, 131), (132, 176)] rfl rfl ⟨⟨_, rfl, Vto.dat _ _ (by first | rfl | exact congrArg (fun z => V.o (nat1 z)) (by omega) | (simp; done) | omega) rfl⟩, ⟨_, rfl, Vto.c (.own _ _ _ _ _ (by first | decide | simp) (by first | rfl | exact congrArg (fun z => V.o (nat1 z)) (by omega) | (simp; done) | omega))⟩, ⟨_, rfl, Vto.dat _ _ (by first | rfl | exact congrArg (fun z => V.o (nat1 z)) (by omega) | (simp; done) | omega) rfl⟩, ⟨_, rfl, Vto.c (.box _ _ _ _ _ _ (by first | decide | simp) rfl)⟩, ⟨_, rfl, Vto.dat _ _ (by first | rfl | exact congrArg (fun z => V.o (nat1 z)) (by omega) | (simp; done) | omega) rfl⟩, ⟨130, _, (by first | decide | simp), rfl, Rto.dat _ _ _ (by first | exact dR_take rL hl | rfl | (rw [List.take_length, dR_app]; done) | (rw [List.take_length]; done) | (simp [dR]; done)) rfl⟩, ⟨176, _, (by first | decide | simp), rfl, Rto.dat _ _ _ (by first | exact dR_take rA hx | exact dR_take1 rA hx | rfl | (rw [List.take_length]; done) | (simp [dR]; done)) rfl⟩, ⟨131, _, (by first | decide | simp), rfl, .cons (.cons (.d _ _ (by first | rfl | exact congrArg (fun z => V.o (nat1 z)) (by omega) | (simp; done) | omega)) (.cons (.own _ _ _ _ _ (by first | decide | simp) (by first | rfl | exact congrArg (fun z => V.o (nat1 z)) (by omega) | (simp; done) | omega)) Ctos.nil)) .nil⟩, trivial⟩) (.inr ⟨q + 1, rfl, by omega, by omega, rfl⟩)
              · try simp only [List.length_map, decide_eq_true_eq, decide_eq_false_iff_not, Bool.not_eq_true', Bool.not_eq_false', Bool.not_eq_true, Bool.not_eq_false] at h55
                obtain rfl : q = l.2.length := by omega
                refine ACode.exit ?_
                refine ks_e ?_
                refine kl_e ?_
                refine kb_hit ?_
                refine ks_n ?_
                refine ACode.wk (σ' := [(.t 0, .v (.o (vD (dLs (init ++ [l0]))))), (.t 3, .v (.o (.c (.own 860 2 (i))))), (.t 4, .v (.o (nat1 ((i : Nat))))), (.t 5, .v (.o (.c (.box 861 2 0 0)))), (.b 860, .b 67 2 (dR ((init.take i).map rL))), (.u 860, .u), (.b 861, .b 67 2 [[.d (dAs l.1), .d (dAs l.2)]]), (.u 861, .u)]) (Wk.keep [(860, 130), (861, 131)] rfl rfl ⟨⟨_, rfl, Vto.dat _ _ (by first | rfl | exact congrArg (fun z => V.o (nat1 z)) (by omega) | (simp; done) | omega) rfl⟩, ⟨_, rfl, Vto.c (.own _ _ _ _ _ (by first | decide | simp) (by first | rfl | exact congrArg (fun z => V.o (nat1 z)) (by omega) | (simp; done) | omega))⟩, ⟨_, rfl, Vto.dat _ _ (by first | rfl | exact congrArg (fun z => V.o (nat1 z)) (by omega) | (simp; done) | omega) rfl⟩, ⟨_, rfl, Vto.c (.box _ _ _ _ _ _ (by first | decide | simp) rfl)⟩, ⟨130, _, (by first | decide | simp), rfl, Rto.dat _ _ _ (by first | exact dR_take rL hl | rfl | (rw [List.take_length, dR_app]; done) | (rw [List.take_length]; done) | (simp [dR]; done)) rfl⟩, ⟨131, _, (by first | decide | simp), rfl, .cons (.cons (.d _ _ (by first | rfl | exact congrArg (fun z => V.o (nat1 z)) (by omega) | (simp; done) | omega)) (.cons (.frz _ _ _ _ _ _ rfl (by first | rfl | (rw [List.take_length]; done)) rfl rfl (by first | rfl | (simp; done) | (simp; omega)) (by omega)) Ctos.nil)) .nil⟩, trivial⟩) ?_
                refine ACode.region ?_
                refine AOps.cons (St1.move rfl rfl rfl rfl rfl) ?_
                refine AOps.cons (St1.loadBN (m := 2) rfl rfl rfl rfl (by kernel_rfl) rfl rfl rfl rfl rfl) ?_
                refine AOps.cons (St1.lit (e := 67) (sz := 1) (m := 0) (xs := [.tmp 79]) rfl rfl rfl rfl rfl (by kernel_rfl) rfl rfl rfl rfl) ?_
                refine AOps.cons (St1.appB (k' := 181) (e := 67) (sz := 1) (by' := 48) rfl rfl rfl rfl rfl (by kernel_rfl) rfl rfl rfl rfl (by first | (simp [dR]; done) | (simp [dR]; omega)) (by first | (simp [dR]; done) | (simp [dR]; omega)) rfl rfl rfl) ?_
                refine AOps.cons (St1.assign rfl rfl rfl rfl rfl) ?_
                refine AOps.nil ?_
                refine kb_n ?_
                refine ks_n ?_
                refine ACode.region ?_
                refine AOps.cons (St1.move rfl rfl rfl rfl rfl) ?_
                refine AOps.cons (St1.add rfl rfl rfl rfl rfl rfl (by omega)) ?_
                refine AOps.cons (St1.assign rfl rfl rfl rfl rfl) ?_
                refine AOps.nil ?_
                refine kl_n (σ2 := [(.t 0, .v (.o (vD (dLs (init ++ [l0]))))), (.t 3, .v (.o (.c (.own 110 2 ((i + 1)))))), (.t 4, .v (.o (nat1 ((i + 1) : Nat)))), (.b 110, .b 67 2 (dR ((init.take (i + 1)).map rL))), (.u 110, .u)]) ((init.length + 1 - (i + 1))) (by omega) (Wk.keep [(110, 181)] rfl rfl ⟨⟨_, rfl, Vto.dat _ _ (by first | rfl | exact congrArg (fun z => V.o (nat1 z)) (by omega) | (simp; done) | omega) rfl⟩, ⟨_, rfl, Vto.c (.own _ _ _ _ _ (by first | decide | simp) (by first | rfl | exact congrArg (fun z => V.o (nat1 z)) (by omega) | (simp; done) | omega))⟩, ⟨_, rfl, Vto.dat _ _ (by first | rfl | exact congrArg (fun z => V.o (nat1 z)) (by omega) | (simp; done) | omega) rfl⟩, ⟨181, _, (by first | decide | simp), rfl, Rto.dat _ _ _ (by first | exact dR_take rL hl | rfl | (rw [List.take_length, dR_app]; done) | (rw [List.take_length]; done) | (simp [dR]; done)) rfl⟩, trivial⟩) (.inl ⟨i + 1, rfl, by omega, rfl⟩)
        · skip
          refine ACode.seq ?_
          refine ACode.seq ?_
          refine ACode.region ?_
          refine AOps.cons (St1.move rfl rfl rfl rfl rfl) ?_
          refine AOps.cons (St1.move rfl rfl rfl rfl rfl) ?_
          refine AOps.cons (St1.move rfl rfl rfl rfl rfl) ?_
          refine AOps.cons (St1.indexL (e := 67) (sz := 2) (by' := 48) rfl rfl rfl rfl (by kernel_rfl) rfl rfl rfl rfl (by first | exact map_at (by assumption) | rfl)) ?_
          refine AOps.cons (St1.fieldP (off := 0) (m := 0) (r := false) rfl rfl rfl rfl (by kernel_rfl) rfl) ?_
          refine AOps.cons (St1.loadP1 (m := 1) rfl rfl rfl rfl (by kernel_rfl) rfl) ?_
          refine AOps.cons (St1.lenL (e := 51) (m := 2) (by' := 32) rfl rfl rfl rfl rfl (by kernel_rfl) rfl (by first | exact List.length_map _ | rfl)) ?_
          refine AOps.cons (St1.lss rfl rfl rfl rfl rfl rfl) ?_
          refine AOps.nil ?_
          refine ks_n ?_
          refine ACode.condT rfl (fun h25 => ?_) (fun h25 => ?_)
          · try simp only [List.length_map, decide_eq_true_eq, decide_eq_false_iff_not, Bool.not_eq_true', Bool.not_eq_false', Bool.not_eq_true, Bool.not_eq_false] at h25
            obtain ⟨x, hx, hxs⟩ := at_sm hlc (show k < l.1.length by omega)
            refine ACode.skip ?_
            refine ks_n ?_
            refine ACode.seq ?_
            refine ACode.block ?_
            refine ACode.seq ?_
            refine ACode.region ?_
            refine AOps.cons (St1.move rfl rfl rfl rfl rfl) ?_
            refine AOps.cons (St1.move rfl rfl rfl rfl rfl) ?_
            refine AOps.cons (St1.indexL (e := 67) (sz := 2) (by' := 48) rfl rfl rfl rfl (by kernel_rfl) rfl rfl rfl rfl (by first | exact map_at (by assumption) | rfl)) ?_
            refine AOps.cons (St1.fieldP (off := 0) (m := 0) (r := false) rfl rfl rfl rfl (by kernel_rfl) rfl) ?_
            refine AOps.cons (St1.loadP1 (m := 1) rfl rfl rfl rfl (by kernel_rfl) rfl) ?_
            refine AOps.cons (St1.move rfl rfl rfl rfl rfl) ?_
            refine AOps.cons (St1.indexL (e := 51) (sz := 2) (by' := 32) rfl rfl rfl rfl (by kernel_rfl) rfl rfl rfl rfl (by first | exact map_at (by assumption) | rfl)) ?_
            refine AOps.cons (St1.loadPN (m := 2) rfl rfl rfl rfl (by kernel_rfl) rfl rfl) ?_
            refine AOps.cons (St1.alloc (k' := 107) (zs := [.slice none 0 0, .int .i64 0]) rfl rfl rfl rfl (by kernel_rfl) rfl rfl rfl) ?_
            refine AOps.cons (St1.store (m := 2) (rw' := true) rfl rfl rfl (by kernel_rfl) rfl rfl rfl rfl rfl rfl rfl) ?_
            refine AOps.nil ?_
            refine ks_n ?_
            refine ACode.drawK (by kernel_rfl) (by kernel_rfl) ?_
            refine RunK.cons (St1.fieldB (off := 0) (m := 0) (r := false) rfl rfl rfl rfl (by kernel_rfl) rfl rfl) ?_
            refine RunK.cons (St1.loadB1 (m := 1) rfl rfl rfl rfl (by kernel_rfl) rfl rfl rfl rfl rfl) ?_
            refine RunK.cons (St1.lit0 (k' := 138) (e := 3) (sz := 1) (b := true) rfl rfl rfl rfl (by kernel_rfl) rfl rfl) ?_
            refine RunK.cons (St1.fieldB (off := 0) (m := 0) (r := false) rfl rfl rfl rfl (by kernel_rfl) rfl rfl) ?_
            refine RunK.cons (St1.loadB1 (m := 1) rfl rfl rfl rfl (by kernel_rfl) rfl rfl rfl rfl rfl) ?_
            refine RunK.cons (St1.appD (rows := []) (e := 3) (sz := 0) (by' := 8) rfl rfl rfl rfl rfl (by kernel_rfl) rfl rfl rfl rfl rfl (by simp; omega) rfl) ?_
            refine RunK.cons (St1.fieldB (off := 1) (m := 0) (r := false) rfl rfl rfl rfl (by kernel_rfl) rfl rfl) ?_
            refine RunK.cons (St1.loadB1 (m := 1) rfl rfl rfl rfl (by kernel_rfl) rfl rfl rfl rfl rfl) ?_
            refine RunK.cons (St1.build (pl := [(0, .tmp 41), (1, .tmp 43)]) (places := [(0, 1), (1, 1)]) (zs := [.slice none 0 0, .int .i64 0]) rfl rfl rfl rfl rfl (by kernel_rfl) rfl rfl rfl) ?_
            refine RunK.cons (St1.lit (e := 51) (sz := 1) (m := 0) (xs := [.tmp 44]) rfl rfl rfl rfl rfl (by kernel_rfl) rfl rfl rfl rfl) ?_
            refine RunK.cons (St1.appB (k' := 146) (e := 51) (sz := 1) (by' := 32) rfl rfl rfl rfl rfl (by kernel_rfl) rfl rfl rfl rfl (by first | (simp [dR]; done) | (simp [dR]; omega)) (by first | (simp [dR]; done) | (simp [dR]; omega)) rfl rfl rfl) ?_
            refine RunK.cons (St1.fieldB (off := 0) (m := 0) (r := false) rfl rfl rfl rfl (by kernel_rfl) rfl rfl) ?_
            refine RunK.cons (St1.store (m := 1) (rw' := false) rfl rfl rfl (by kernel_rfl) rfl rfl rfl rfl rfl rfl rfl) ?_
            refine RunK.nil ⟨by kernel_rfl, ?_⟩
            refine kb_n ?_
            refine ks_n ?_
            refine ACode.region ?_
            refine AOps.cons (St1.move rfl rfl rfl rfl rfl) ?_
            refine AOps.cons (St1.add rfl rfl rfl rfl rfl rfl (by omega)) ?_
            refine AOps.cons (St1.assign rfl rfl rfl rfl rfl) ?_
            refine AOps.nil ?_
            refine kl_n (σ2 := [(.t 0, .v (.o (vD (dLs (init ++ [l0]))))), (.t 3, .v (.o (.c (.own 120 2 (i))))), (.t 4, .v (.o (nat1 ((i : Nat))))), (.t 5, .v (.o (.c (.box 121 2 0 0)))), (.t 6, .v (.o (nat1 ((k + 1) : Nat)))), (.b 120, .b 67 2 (dR ((init.take i).map rL))), (.u 120, .u), (.b 122, .b 51 2 (dR ((l.1.take (k + 1)).map rA))), (.u 122, .u), (.b 121, .b 67 2 [[.own 122 2 ((k + 1)), .d (.val (.slice none 0 0))]]), (.u 121, .u)]) ((l.1.length - (k + 1))) (by omega) (Wk.keep [(120, 120), (121, 121), (122, 146)] rfl rfl ⟨⟨_, rfl, Vto.dat _ _ (by first | rfl | exact congrArg (fun z => V.o (nat1 z)) (by omega) | (simp; done) | omega) rfl⟩, ⟨_, rfl, Vto.c (.own _ _ _ _ _ (by first | decide | simp) (by first | rfl | exact congrArg (fun z => V.o (nat1 z)) (by omega) | (simp; done) | omega))⟩, ⟨_, rfl, Vto.dat _ _ (by first | rfl | exact congrArg (fun z => V.o (nat1 z)) (by omega) | (simp; done) | omega) rfl⟩, ⟨_, rfl, Vto.c (.box _ _ _ _ _ _ (by first | decide | simp) rfl)⟩, ⟨_, rfl, Vto.dat _ _ (by first | rfl | exact congrArg (fun z => V.o (nat1 z)) (by omega) | (simp; done) | omega) rfl⟩, ⟨120, _, (by first | decide | simp), rfl, Rto.dat _ _ _ (by first | exact dR_take rL hl | rfl | (rw [List.take_length, dR_app]; done) | (rw [List.take_length]; done) | (simp [dR]; done)) rfl⟩, ⟨146, _, (by first | decide | simp), rfl, Rto.dat _ _ _ (by first | exact dR_take rA hx | exact dR_take1 rA hx | rfl | (rw [List.take_length]; done) | (simp [dR]; done)) rfl⟩, ⟨121, _, (by first | decide | simp), rfl, .cons (.cons (.own _ _ _ _ _ (by first | decide | simp) (by first | rfl | exact congrArg (fun z => V.o (nat1 z)) (by omega) | (simp; done) | omega)) (.cons (.d _ _ (by first | rfl | exact congrArg (fun z => V.o (nat1 z)) (by omega) | (simp; done) | omega)) Ctos.nil)) .nil⟩, trivial⟩) (.inr ⟨k + 1, rfl, by omega, by omega, rfl⟩)
          · try simp only [List.length_map, decide_eq_true_eq, decide_eq_false_iff_not, Bool.not_eq_true', Bool.not_eq_false', Bool.not_eq_true, Bool.not_eq_false] at h25
            obtain rfl : k = l.1.length := by omega
            refine ACode.exit ?_
            refine ks_e ?_
            refine kl_e ?_
            refine kb_hit ?_
            refine ks_n ?_
            refine ACode.seq ?_
            refine ACode.seq ?_
            refine ACode.region ?_
            refine AOps.cons (St1.assign rfl rfl rfl rfl rfl) ?_
            refine AOps.nil ?_
            refine ks_n ?_
            refine ACode.block ?_
            refine ACode.wk (σ' := [(.t 0, .v (.o (vD (dLs (init ++ [l0]))))), (.t 3, .v (.o (.c (.own 130 2 (i))))), (.t 4, .v (.o (nat1 ((i : Nat))))), (.t 5, .v (.o (.c (.box 131 2 0 0)))), (.t 8, .v (.o (nat1 (0 : Nat)))), (.b 130, .b 67 2 (dR ((init.take i).map rL))), (.u 130, .u), (.b 131, .b 67 2 [[.d (dAs l.1), .d (.val (.slice none 0 0))]]), (.u 131, .u)]) (Wk.keep [(130, 120), (131, 121)] rfl rfl ⟨⟨_, rfl, Vto.dat _ _ (by first | rfl | exact congrArg (fun z => V.o (nat1 z)) (by omega) | (simp; done) | omega) rfl⟩, ⟨_, rfl, Vto.c (.own _ _ _ _ _ (by first | decide | simp) (by first | rfl | exact congrArg (fun z => V.o (nat1 z)) (by omega) | (simp; done) | omega))⟩, ⟨_, rfl, Vto.dat _ _ (by first | rfl | exact congrArg (fun z => V.o (nat1 z)) (by omega) | (simp; done) | omega) rfl⟩, ⟨_, rfl, Vto.c (.box _ _ _ _ _ _ (by first | decide | simp) rfl)⟩, ⟨_, rfl, Vto.dat _ _ (by first | rfl | exact congrArg (fun z => V.o (nat1 z)) (by omega) | (simp; done) | omega) rfl⟩, ⟨120, _, (by first | decide | simp), rfl, Rto.dat _ _ _ (by first | exact dR_take rL hl | rfl | (rw [List.take_length, dR_app]; done) | (rw [List.take_length]; done) | (simp [dR]; done)) rfl⟩, ⟨121, _, (by first | decide | simp), rfl, .cons (.cons (.frz _ _ _ _ _ _ rfl (by first | rfl | (rw [List.take_length]; done)) rfl rfl (by first | rfl | (simp; done) | (simp; omega)) (by omega)) (.cons (.d _ _ (by first | rfl | exact congrArg (fun z => V.o (nat1 z)) (by omega) | (simp; done) | omega)) Ctos.nil)) .nil⟩, trivial⟩) ?_
            refine ACode.loop (fun m σ => (∃ q : Nat, m = l.2.length - q ∧ (q = 0) ∧ σ = [(.t 0, .v (.o (vD (dLs (init ++ [l0]))))), (.t 3, .v (.o (.c (.own 130 2 (i))))), (.t 4, .v (.o (nat1 ((i : Nat))))), (.t 5, .v (.o (.c (.box 131 2 0 0)))), (.t 8, .v (.o (nat1 (q : Nat)))), (.b 130, .b 67 2 (dR ((init.take i).map rL))), (.u 130, .u), (.b 131, .b 67 2 [[.d (dAs l.1), .d (.val (.slice none 0 0))]]), (.u 131, .u)]) ∨ (∃ q : Nat, m = l.2.length - q ∧ (1 ≤ q) ∧ (q ≤ l.2.length) ∧ σ = [(.t 0, .v (.o (vD (dLs (init ++ [l0]))))), (.t 3, .v (.o (.c (.own 130 2 (i))))), (.t 4, .v (.o (nat1 ((i : Nat))))), (.t 5, .v (.o (.c (.box 131 2 0 0)))), (.t 8, .v (.o (nat1 (q : Nat)))), (.b 130, .b 67 2 (dR ((init.take i).map rL))), (.u 130, .u), (.b 132, .b 51 2 (dR ((l.2.take q).map rA))), (.u 132, .u), (.b 131, .b 67 2 [[.d (dAs l.1), .own 132 2 (q)]]), (.u 131, .u)])) ((l.2.length - 0)) (.inl ⟨0, rfl, rfl, rfl⟩) ?_
            rintro m σ (⟨q, hm0, rfl, rfl⟩ | ⟨q, hm0, hq1, hq2, rfl⟩)
            · skip
              refine ACode.seq ?_
              refine ACode.seq ?_
              refine ACode.region ?_
              refine AOps.cons (St1.move rfl rfl rfl rfl rfl) ?_
              refine AOps.cons (St1.move rfl rfl rfl rfl rfl) ?_
              refine AOps.cons (St1.move rfl rfl rfl rfl rfl) ?_
              refine AOps.cons (St1.indexL (e := 67) (sz := 2) (by' := 48) rfl rfl rfl rfl (by kernel_rfl) rfl rfl rfl rfl (by first | exact map_at (by assumption) | rfl)) ?_
              refine AOps.cons (St1.fieldP (off := 1) (m := 0) (r := false) rfl rfl rfl rfl (by kernel_rfl) rfl) ?_
              refine AOps.cons (St1.loadP1 (m := 1) rfl rfl rfl rfl (by kernel_rfl) rfl) ?_
              refine AOps.cons (St1.lenL (e := 51) (m := 2) (by' := 32) rfl rfl rfl rfl rfl (by kernel_rfl) rfl (by first | exact List.length_map _ | rfl)) ?_
              refine AOps.cons (St1.lss rfl rfl rfl rfl rfl rfl) ?_
              refine AOps.nil ?_
              refine ks_n ?_
              refine ACode.condT rfl (fun h55 => ?_) (fun h55 => ?_)
              · try simp only [List.length_map, decide_eq_true_eq, decide_eq_false_iff_not, Bool.not_eq_true', Bool.not_eq_false', Bool.not_eq_true, Bool.not_eq_false] at h55
                obtain ⟨x, hx, hxs⟩ := at_sm hld (show 0 < l.2.length by omega)
                refine ACode.skip ?_
                refine ks_n ?_
                refine ACode.seq ?_
                refine ACode.block ?_
                refine ACode.seq ?_
                refine ACode.region ?_
                refine AOps.cons (St1.move rfl rfl rfl rfl rfl) ?_
                refine AOps.cons (St1.move rfl rfl rfl rfl rfl) ?_
                refine AOps.cons (St1.indexL (e := 67) (sz := 2) (by' := 48) rfl rfl rfl rfl (by kernel_rfl) rfl rfl rfl rfl (by first | exact map_at (by assumption) | rfl)) ?_
                refine AOps.cons (St1.fieldP (off := 1) (m := 0) (r := false) rfl rfl rfl rfl (by kernel_rfl) rfl) ?_
                refine AOps.cons (St1.loadP1 (m := 1) rfl rfl rfl rfl (by kernel_rfl) rfl) ?_
                refine AOps.cons (St1.move rfl rfl rfl rfl rfl) ?_
                refine AOps.cons (St1.indexL (e := 51) (sz := 2) (by' := 32) rfl rfl rfl rfl (by kernel_rfl) rfl rfl rfl rfl (by first | exact map_at (by assumption) | rfl)) ?_
                refine AOps.cons (St1.loadPN (m := 2) rfl rfl rfl rfl (by kernel_rfl) rfl rfl) ?_
                refine AOps.cons (St1.alloc (k' := 109) (zs := [.slice none 0 0, .int .i64 0]) rfl rfl rfl rfl (by kernel_rfl) rfl rfl rfl) ?_
                refine AOps.cons (St1.store (m := 2) (rw' := true) rfl rfl rfl (by kernel_rfl) rfl rfl rfl rfl rfl rfl rfl) ?_
                refine AOps.nil ?_
                refine ks_n ?_
                refine ACode.drawK (by kernel_rfl) (by kernel_rfl) ?_
                refine RunK.cons (St1.fieldB (off := 1) (m := 0) (r := false) rfl rfl rfl rfl (by kernel_rfl) rfl rfl) ?_
                refine RunK.cons (St1.loadB1 (m := 1) rfl rfl rfl rfl (by kernel_rfl) rfl rfl rfl rfl rfl) ?_
                refine RunK.cons (St1.lit0 (k' := 168) (e := 3) (sz := 1) (b := true) rfl rfl rfl rfl (by kernel_rfl) rfl rfl) ?_
                refine RunK.cons (St1.fieldB (off := 0) (m := 0) (r := false) rfl rfl rfl rfl (by kernel_rfl) rfl rfl) ?_
                refine RunK.cons (St1.loadB1 (m := 1) rfl rfl rfl rfl (by kernel_rfl) rfl rfl rfl rfl rfl) ?_
                refine RunK.cons (St1.appD (rows := []) (e := 3) (sz := 0) (by' := 8) rfl rfl rfl rfl rfl (by kernel_rfl) rfl rfl rfl rfl rfl (by simp; omega) rfl) ?_
                refine RunK.cons (St1.fieldB (off := 1) (m := 0) (r := false) rfl rfl rfl rfl (by kernel_rfl) rfl rfl) ?_
                refine RunK.cons (St1.loadB1 (m := 1) rfl rfl rfl rfl (by kernel_rfl) rfl rfl rfl rfl rfl) ?_
                refine RunK.cons (St1.build (pl := [(0, .tmp 71), (1, .tmp 73)]) (places := [(0, 1), (1, 1)]) (zs := [.slice none 0 0, .int .i64 0]) rfl rfl rfl rfl rfl (by kernel_rfl) rfl rfl rfl) ?_
                refine RunK.cons (St1.lit (e := 51) (sz := 1) (m := 0) (xs := [.tmp 74]) rfl rfl rfl rfl rfl (by kernel_rfl) rfl rfl rfl rfl) ?_
                refine RunK.cons (St1.appN (k' := 176) (e := 51) (sz := 1) (by' := 32) rfl rfl rfl rfl rfl (by kernel_rfl) rfl rfl rfl (by simp) (by first | (simp [dR]; done) | (simp [dR]; omega)) rfl rfl) ?_
                refine RunK.cons (St1.fieldB (off := 1) (m := 0) (r := false) rfl rfl rfl rfl (by kernel_rfl) rfl rfl) ?_
                refine RunK.cons (St1.store (m := 1) (rw' := false) rfl rfl rfl (by kernel_rfl) rfl rfl rfl rfl rfl rfl rfl) ?_
                refine RunK.nil ⟨by kernel_rfl, ?_⟩
                refine kb_n ?_
                refine ks_n ?_
                refine ACode.region ?_
                refine AOps.cons (St1.move rfl rfl rfl rfl rfl) ?_
                refine AOps.cons (St1.add rfl rfl rfl rfl rfl rfl (by omega)) ?_
                refine AOps.cons (St1.assign rfl rfl rfl rfl rfl) ?_
                refine AOps.nil ?_
                refine kl_n (σ2 := [(.t 0, .v (.o (vD (dLs (init ++ [l0]))))), (.t 3, .v (.o (.c (.own 130 2 (i))))), (.t 4, .v (.o (nat1 ((i : Nat))))), (.t 5, .v (.o (.c (.box 131 2 0 0)))), (.t 8, .v (.o (nat1 (1 : Nat)))), (.b 130, .b 67 2 (dR ((init.take i).map rL))), (.u 130, .u), (.b 132, .b 51 2 (dR ((l.2.take 1).map rA))), (.u 132, .u), (.b 131, .b 67 2 [[.d (dAs l.1), .own 132 2 (1)]]), (.u 131, .u)]) ((l.2.length - 1)) (by omega) (Wk.keep [(130, 130), (131, 131), (132, 176)] rfl rfl ⟨⟨_, rfl, Vto.dat _ _ (by first | rfl | exact congrArg (fun z => V.o (nat1 z)) (by omega) | (simp; done) | omega) rfl⟩, ⟨_, rfl, Vto.c (.own _ _ _ _ _ (by first | decide | simp) (by first | rfl | exact congrArg (fun z => V.o (nat1 z)) (by omega) | (simp; done) | omega))⟩, ⟨_, rfl, Vto.dat _ _ (by first | rfl | exact congrArg (fun z => V.o (nat1 z)) (by omega) | (simp; done) | omega) rfl⟩, ⟨_, rfl, Vto.c (.box _ _ _ _ _ _ (by first | decide | simp) rfl)⟩, ⟨_, rfl, Vto.dat _ _ (by first | rfl | exact congrArg (fun z => V.o (nat1 z)) (by omega) | (simp; done) | omega) rfl⟩, ⟨130, _, (by first | decide | simp), rfl, Rto.dat _ _ _ (by first | exact dR_take rL hl | rfl | (rw [List.take_length, dR_app]; done) | (rw [List.take_length]; done) | (simp [dR]; done)) rfl⟩, ⟨176, _, (by first | decide | simp), rfl, Rto.dat _ _ _ (by first | exact dR_take rA hx | exact dR_take1 rA hx | rfl | (rw [List.take_length]; done) | (simp [dR]; done)) rfl⟩, ⟨131, _, (by first | decide | simp), rfl, .cons (.cons (.d _ _ (by first | rfl | exact congrArg (fun z => V.o (nat1 z)) (by omega) | (simp; done) | omega)) (.cons (.own _ _ _ _ _ (by first | decide | simp) (by first | rfl | exact congrArg (fun z => V.o (nat1 z)) (by omega) | (simp; done) | omega)) Ctos.nil)) .nil⟩, trivial⟩) (.inr ⟨1, rfl, by omega, by omega, rfl⟩)
              · try simp only [List.length_map, decide_eq_true_eq, decide_eq_false_iff_not, Bool.not_eq_true', Bool.not_eq_false', Bool.not_eq_true, Bool.not_eq_false] at h55
                have hn2 : l.2 = [] := List.eq_nil_of_length_eq_zero (by omega)
                refine ACode.exit ?_
                refine ks_e ?_
                refine kl_e ?_
                refine kb_hit ?_
                refine ks_n ?_
                refine ACode.wk (σ' := [(.t 0, .v (.o (vD (dLs (init ++ [l0]))))), (.t 3, .v (.o (.c (.own 860 2 (i))))), (.t 4, .v (.o (nat1 ((i : Nat))))), (.t 5, .v (.o (.c (.box 861 2 0 0)))), (.b 860, .b 67 2 (dR ((init.take i).map rL))), (.u 860, .u), (.b 861, .b 67 2 [[.d (dAs l.1), .d (dAs l.2)]]), (.u 861, .u)]) (Wk.keep [(860, 130), (861, 131)] rfl rfl ⟨⟨_, rfl, Vto.dat _ _ (by first | rfl | exact congrArg (fun z => V.o (nat1 z)) (by omega) | (simp; done) | omega) rfl⟩, ⟨_, rfl, Vto.c (.own _ _ _ _ _ (by first | decide | simp) (by first | rfl | exact congrArg (fun z => V.o (nat1 z)) (by omega) | (simp; done) | omega))⟩, ⟨_, rfl, Vto.dat _ _ (by first | rfl | exact congrArg (fun z => V.o (nat1 z)) (by omega) | (simp; done) | omega) rfl⟩, ⟨_, rfl, Vto.c (.box _ _ _ _ _ _ (by first | decide | simp) rfl)⟩, ⟨130, _, (by first | decide | simp), rfl, Rto.dat _ _ _ (by first | exact dR_take rL hl | rfl | (rw [List.take_length, dR_app]; done) | (rw [List.take_length]; done) | (simp [dR]; done)) rfl⟩, ⟨131, _, (by first | decide | simp), rfl, .cons (.cons (.d _ _ (by first | rfl | exact congrArg (fun z => V.o (nat1 z)) (by omega) | (simp; done) | omega)) (.cons (Cto.nilE 2 (by rw [hn2]; rfl)) Ctos.nil)) .nil⟩, trivial⟩) ?_
                refine ACode.region ?_
                refine AOps.cons (St1.move rfl rfl rfl rfl rfl) ?_
                refine AOps.cons (St1.loadBN (m := 2) rfl rfl rfl rfl (by kernel_rfl) rfl rfl rfl rfl rfl) ?_
                refine AOps.cons (St1.lit (e := 67) (sz := 1) (m := 0) (xs := [.tmp 79]) rfl rfl rfl rfl rfl (by kernel_rfl) rfl rfl rfl rfl) ?_
                refine AOps.cons (St1.appB (k' := 181) (e := 67) (sz := 1) (by' := 48) rfl rfl rfl rfl rfl (by kernel_rfl) rfl rfl rfl rfl (by first | (simp [dR]; done) | (simp [dR]; omega)) (by first | (simp [dR]; done) | (simp [dR]; omega)) rfl rfl rfl) ?_
                refine AOps.cons (St1.assign rfl rfl rfl rfl rfl) ?_
                refine AOps.nil ?_
                refine kb_n ?_
                refine ks_n ?_
                refine ACode.region ?_
                refine AOps.cons (St1.move rfl rfl rfl rfl rfl) ?_
                refine AOps.cons (St1.add rfl rfl rfl rfl rfl rfl (by omega)) ?_
                refine AOps.cons (St1.assign rfl rfl rfl rfl rfl) ?_
                refine AOps.nil ?_
                refine kl_n (σ2 := [(.t 0, .v (.o (vD (dLs (init ++ [l0]))))), (.t 3, .v (.o (.c (.own 110 2 ((i + 1)))))), (.t 4, .v (.o (nat1 ((i + 1) : Nat)))), (.b 110, .b 67 2 (dR ((init.take (i + 1)).map rL))), (.u 110, .u)]) ((init.length + 1 - (i + 1))) (by omega) (Wk.keep [(110, 181)] rfl rfl ⟨⟨_, rfl, Vto.dat _ _ (by first | rfl | exact congrArg (fun z => V.o (nat1 z)) (by omega) | (simp; done) | omega) rfl⟩, ⟨_, rfl, Vto.c (.own _ _ _ _ _ (by first | decide | simp) (by first | rfl | exact congrArg (fun z => V.o (nat1 z)) (by omega) | (simp; done) | omega))⟩, ⟨_, rfl, Vto.dat _ _ (by first | rfl | exact congrArg (fun z => V.o (nat1 z)) (by omega) | (simp; done) | omega) rfl⟩, ⟨181, _, (by first | decide | simp), rfl, Rto.dat _ _ _ (by first | exact dR_take rL hl | rfl | (rw [List.take_length, dR_app]; done) | (rw [List.take_length]; done) | (simp [dR]; done)) rfl⟩, trivial⟩) (.inl ⟨i + 1, rfl, by omega, rfl⟩)
            · skip
              refine ACode.seq ?_
              refine ACode.seq ?_
              refine ACode.region ?_
              refine AOps.cons (St1.move rfl rfl rfl rfl rfl) ?_
              refine AOps.cons (St1.move rfl rfl rfl rfl rfl) ?_
              refine AOps.cons (St1.move rfl rfl rfl rfl rfl) ?_
              refine AOps.cons (St1.indexL (e := 67) (sz := 2) (by' := 48) rfl rfl rfl rfl (by kernel_rfl) rfl rfl rfl rfl (by first | exact map_at (by assumption) | rfl)) ?_
              refine AOps.cons (St1.fieldP (off := 1) (m := 0) (r := false) rfl rfl rfl rfl (by kernel_rfl) rfl) ?_
              refine AOps.cons (St1.loadP1 (m := 1) rfl rfl rfl rfl (by kernel_rfl) rfl) ?_
              refine AOps.cons (St1.lenL (e := 51) (m := 2) (by' := 32) rfl rfl rfl rfl rfl (by kernel_rfl) rfl (by first | exact List.length_map _ | rfl)) ?_
              refine AOps.cons (St1.lss rfl rfl rfl rfl rfl rfl) ?_
              refine AOps.nil ?_
              refine ks_n ?_
              refine ACode.condT rfl (fun h55 => ?_) (fun h55 => ?_)
              · try simp only [List.length_map, decide_eq_true_eq, decide_eq_false_iff_not, Bool.not_eq_true', Bool.not_eq_false', Bool.not_eq_true, Bool.not_eq_false] at h55
                obtain ⟨x, hx, hxs⟩ := at_sm hld (show q < l.2.length by omega)
                refine ACode.skip ?_
                refine ks_n ?_
                refine ACode.seq ?_
                refine ACode.block ?_
                refine ACode.seq ?_
                refine ACode.region ?_
                refine AOps.cons (St1.move rfl rfl rfl rfl rfl) ?_
                refine AOps.cons (St1.move rfl rfl rfl rfl rfl) ?_
                refine AOps.cons (St1.indexL (e := 67) (sz := 2) (by' := 48) rfl rfl rfl rfl (by kernel_rfl) rfl rfl rfl rfl (by first | exact map_at (by assumption) | rfl)) ?_
                refine AOps.cons (St1.fieldP (off := 1) (m := 0) (r := false) rfl rfl rfl rfl (by kernel_rfl) rfl) ?_
                refine AOps.cons (St1.loadP1 (m := 1) rfl rfl rfl rfl (by kernel_rfl) rfl) ?_
                refine AOps.cons (St1.move rfl rfl rfl rfl rfl) ?_
                refine AOps.cons (St1.indexL (e := 51) (sz := 2) (by' := 32) rfl rfl rfl rfl (by kernel_rfl) rfl rfl rfl rfl (by first | exact map_at (by assumption) | rfl)) ?_
                refine AOps.cons (St1.loadPN (m := 2) rfl rfl rfl rfl (by kernel_rfl) rfl rfl) ?_
                refine AOps.cons (St1.alloc (k' := 109) (zs := [.slice none 0 0, .int .i64 0]) rfl rfl rfl rfl (by kernel_rfl) rfl rfl rfl) ?_
                refine AOps.cons (St1.store (m := 2) (rw' := true) rfl rfl rfl (by kernel_rfl) rfl rfl rfl rfl rfl rfl rfl) ?_
                refine AOps.nil ?_
                refine ks_n ?_
                refine ACode.drawK (by kernel_rfl) (by kernel_rfl) ?_
                refine RunK.cons (St1.fieldB (off := 1) (m := 0) (r := false) rfl rfl rfl rfl (by kernel_rfl) rfl rfl) ?_
                refine RunK.cons (St1.loadB1 (m := 1) rfl rfl rfl rfl (by kernel_rfl) rfl rfl rfl rfl rfl) ?_
                refine RunK.cons (St1.lit0 (k' := 168) (e := 3) (sz := 1) (b := true) rfl rfl rfl rfl (by kernel_rfl) rfl rfl) ?_
                refine RunK.cons (St1.fieldB (off := 0) (m := 0) (r := false) rfl rfl rfl rfl (by kernel_rfl) rfl rfl) ?_
                refine RunK.cons (St1.loadB1 (m := 1) rfl rfl rfl rfl (by kernel_rfl) rfl rfl rfl rfl rfl) ?_
                refine RunK.cons (St1.appD (rows := []) (e := 3) (sz := 0) (by' := 8) rfl rfl rfl rfl rfl (by kernel_rfl) rfl rfl rfl rfl rfl (by simp; omega) rfl) ?_
                refine RunK.cons (St1.fieldB (off := 1) (m := 0) (r := false) rfl rfl rfl rfl (by kernel_rfl) rfl rfl) ?_
                refine RunK.cons (St1.loadB1 (m := 1) rfl rfl rfl rfl (by kernel_rfl) rfl rfl rfl rfl rfl) ?_
                refine RunK.cons (St1.build (pl := [(0, .tmp 71), (1, .tmp 73)]) (places := [(0, 1), (1, 1)]) (zs := [.slice none 0 0, .int .i64 0]) rfl rfl rfl rfl rfl (by kernel_rfl) rfl rfl rfl) ?_
                refine RunK.cons (St1.lit (e := 51) (sz := 1) (m := 0) (xs := [.tmp 74]) rfl rfl rfl rfl rfl (by kernel_rfl) rfl rfl rfl rfl) ?_
                refine RunK.cons (St1.appB (k' := 176) (e := 51) (sz := 1) (by' := 32) rfl rfl rfl rfl rfl (by kernel_rfl) rfl rfl rfl rfl (by first | (simp [dR]; done) | (simp [dR]; omega)) (by first | (simp [dR]; done) | (simp [dR]; omega)) rfl rfl rfl) ?_
                refine RunK.cons (St1.fieldB (off := 1) (m := 0) (r := false) rfl rfl rfl rfl (by kernel_rfl) rfl rfl) ?_
                refine RunK.cons (St1.store (m := 1) (rw' := false) rfl rfl rfl (by kernel_rfl) rfl rfl rfl rfl rfl rfl rfl) ?_
                refine RunK.nil ⟨by kernel_rfl, ?_⟩
                refine kb_n ?_
                refine ks_n ?_
                refine ACode.region ?_
                refine AOps.cons (St1.move rfl rfl rfl rfl rfl) ?_
                refine AOps.cons (St1.add rfl rfl rfl rfl rfl rfl (by omega)) ?_
                refine AOps.cons (St1.assign rfl rfl rfl rfl rfl) ?_
                refine AOps.nil ?_
                refine kl_n (σ2 := [(.t 0, .v (.o (vD (dLs (init ++ [l0]))))), (.t 3, .v (.o (.c (.own 130 2 (i))))), (.t 4, .v (.o (nat1 ((i : Nat))))), (.t 5, .v (.o (.c (.box 131 2 0 0)))), (.t 8, .v (.o (nat1 ((q + 1) : Nat)))), (.b 130, .b 67 2 (dR ((init.take i).map rL))), (.u 130, .u), (.b 132, .b 51 2 (dR ((l.2.take (q + 1)).map rA))), (.u 132, .u), (.b 131, .b 67 2 [[.d (dAs l.1), .own 132 2 ((q + 1))]]), (.u 131, .u)]) ((l.2.length - (q + 1))) (by omega) (Wk.keep [(130, 130), (131, 131), (132, 176)] rfl rfl ⟨⟨_, rfl, Vto.dat _ _ (by first | rfl | exact congrArg (fun z => V.o (nat1 z)) (by omega) | (simp; done) | omega) rfl⟩, ⟨_, rfl, Vto.c (.own _ _ _ _ _ (by first | decide | simp) (by first | rfl | exact congrArg (fun z => V.o (nat1 z)) (by omega) | (simp; done) | omega))⟩, ⟨_, rfl, Vto.dat _ _ (by first | rfl | exact congrArg (fun z => V.o (nat1 z)) (by omega) | (simp; done) | omega) rfl⟩, ⟨_, rfl, Vto.c (.box _ _ _ _ _ _ (by first | decide | simp) rfl)⟩, ⟨_, rfl, Vto.dat _ _ (by first | rfl | exact congrArg (fun z => V.o (nat1 z)) (by omega) | (simp; done) | omega) rfl⟩, ⟨130, _, (by first | decide | simp), rfl, Rto.dat _ _ _ (by first | exact dR_take rL hl | rfl | (rw [List.take_length, dR_app]; done) | (rw [List.take_length]; done) | (simp [dR]; done)) rfl⟩, ⟨176, _, (by first | decide | simp), rfl, Rto.dat _ _ _ (by first | exact dR_take rA hx | exact dR_take1 rA hx | rfl | (rw [List.take_length]; done) | (simp [dR]; done)) rfl⟩, ⟨131, _, (by first | decide | simp), rfl, .cons (.cons (.d _ _ (by first | rfl | exact congrArg (fun z => V.o (nat1 z)) (by omega) | (simp; done) | omega)) (.cons (.own _ _ _ _ _ (by first | decide | simp) (by first | rfl | exact congrArg (fun z => V.o (nat1 z)) (by omega) | (simp; done) | omega)) Ctos.nil)) .nil⟩, trivial⟩) (.inr ⟨q + 1, rfl, by omega, by omega, rfl⟩)
              · try simp only [List.length_map, decide_eq_true_eq, decide_eq_false_iff_not, Bool.not_eq_true', Bool.not_eq_false', Bool.not_eq_true, Bool.not_eq_false] at h55
                obtain rfl : q = l.2.length := by omega
                refine ACode.exit ?_
                refine ks_e ?_
                refine kl_e ?_
                refine kb_hit ?_
                refine ks_n ?_
                refine ACode.wk (σ' := [(.t 0, .v (.o (vD (dLs (init ++ [l0]))))), (.t 3, .v (.o (.c (.own 860 2 (i))))), (.t 4, .v (.o (nat1 ((i : Nat))))), (.t 5, .v (.o (.c (.box 861 2 0 0)))), (.b 860, .b 67 2 (dR ((init.take i).map rL))), (.u 860, .u), (.b 861, .b 67 2 [[.d (dAs l.1), .d (dAs l.2)]]), (.u 861, .u)]) (Wk.keep [(860, 130), (861, 131)] rfl rfl ⟨⟨_, rfl, Vto.dat _ _ (by first | rfl | exact congrArg (fun z => V.o (nat1 z)) (by omega) | (simp; done) | omega) rfl⟩, ⟨_, rfl, Vto.c (.own _ _ _ _ _ (by first | decide | simp) (by first | rfl | exact congrArg (fun z => V.o (nat1 z)) (by omega) | (simp; done) | omega))⟩, ⟨_, rfl, Vto.dat _ _ (by first | rfl | exact congrArg (fun z => V.o (nat1 z)) (by omega) | (simp; done) | omega) rfl⟩, ⟨_, rfl, Vto.c (.box _ _ _ _ _ _ (by first | decide | simp) rfl)⟩, ⟨130, _, (by first | decide | simp), rfl, Rto.dat _ _ _ (by first | exact dR_take rL hl | rfl | (rw [List.take_length, dR_app]; done) | (rw [List.take_length]; done) | (simp [dR]; done)) rfl⟩, ⟨131, _, (by first | decide | simp), rfl, .cons (.cons (.d _ _ (by first | rfl | exact congrArg (fun z => V.o (nat1 z)) (by omega) | (simp; done) | omega)) (.cons (.frz _ _ _ _ _ _ rfl (by first | rfl | (rw [List.take_length]; done)) rfl rfl (by first | rfl | (simp; done) | (simp; omega)) (by omega)) Ctos.nil)) .nil⟩, trivial⟩) ?_
                refine ACode.region ?_
                refine AOps.cons (St1.move rfl rfl rfl rfl rfl) ?_
                refine AOps.cons (St1.loadBN (m := 2) rfl rfl rfl rfl (by kernel_rfl) rfl rfl rfl rfl rfl) ?_
                refine AOps.cons (St1.lit (e := 67) (sz := 1) (m := 0) (xs := [.tmp 79]) rfl rfl rfl rfl rfl (by kernel_rfl) rfl rfl rfl rfl) ?_
                refine AOps.cons (St1.appB (k' := 181) (e := 67) (sz := 1) (by' := 48) rfl rfl rfl rfl rfl (by kernel_rfl) rfl rfl rfl rfl (by first | (simp [dR]; done) | (simp [dR]; omega)) (by first | (simp [dR]; done) | (simp [dR]; omega)) rfl rfl rfl) ?_
                refine AOps.cons (St1.assign rfl rfl rfl rfl rfl) ?_
                refine AOps.nil ?_
                refine kb_n ?_
                refine ks_n ?_
                refine ACode.region ?_
                refine AOps.cons (St1.move rfl rfl rfl rfl rfl) ?_
                refine AOps.cons (St1.add rfl rfl rfl rfl rfl rfl (by omega)) ?_
                refine AOps.cons (St1.assign rfl rfl rfl rfl rfl) ?_
                refine AOps.nil ?_
                refine kl_n (σ2 := [(.t 0, .v (.o (vD (dLs (init ++ [l0]))))), (.t 3, .v (.o (.c (.own 110 2 ((i + 1)))))), (.t 4, .v (.o (nat1 ((i + 1) : Nat)))), (.b 110, .b 67 2 (dR ((init.take (i + 1)).map rL))), (.u 110, .u)]) ((init.length + 1 - (i + 1))) (by omega) (Wk.keep [(110, 181)] rfl rfl ⟨⟨_, rfl, Vto.dat _ _ (by first | rfl | exact congrArg (fun z => V.o (nat1 z)) (by omega) | (simp; done) | omega) rfl⟩, ⟨_, rfl, Vto.c (.own _ _ _ _ _ (by first | decide | simp) (by first | rfl | exact congrArg (fun z => V.o (nat1 z)) (by omega) | (simp; done) | omega))⟩, ⟨_, rfl, Vto.dat _ _ (by first | rfl | exact congrArg (fun z => V.o (nat1 z)) (by omega) | (simp; done) | omega) rfl⟩, ⟨181, _, (by first | decide | simp), rfl, Rto.dat _ _ _ (by first | exact dR_take rL hl | rfl | (rw [List.take_length, dR_app]; done) | (rw [List.take_length]; done) | (simp [dR]; done)) rfl⟩, trivial⟩) (.inl ⟨i + 1, rfl, by omega, rfl⟩)
      · skip
        obtain rfl : i = init.length := by omega
        have hn : (init ++ [l0])[init.length]? = some l0 := by simp
        obtain ⟨hla, hlb, hlc, hld⟩ := hs2 l0 (by first | exact List.mem_of_getElem? hn | simp)
        refine ACode.region ?_
        refine AOps.cons (St1.build (pl := []) (places := [(0, 1), (1, 1)]) (zs := [.slice none 0 0, .slice none 0 0]) rfl rfl rfl rfl rfl (by kernel_rfl) rfl rfl rfl) ?_
        refine AOps.cons (St1.alloc (k' := 105) (zs := [.slice none 0 0, .slice none 0 0]) rfl rfl rfl rfl (by kernel_rfl) rfl rfl rfl) ?_
        refine AOps.cons (St1.store (m := 2) (rw' := true) rfl rfl rfl (by kernel_rfl) rfl rfl rfl rfl rfl rfl rfl) ?_
        refine AOps.nil ?_
        refine ks_n ?_
        refine ACode.seq ?_
        refine ACode.seq ?_
        refine ACode.region ?_
        refine AOps.cons (St1.assign rfl rfl rfl rfl rfl) ?_
        refine AOps.nil ?_
        refine ks_n ?_
        refine ACode.block ?_
        refine ACode.wk (σ' := [(.t 0, .v (.o (vD (dLs (init ++ [l0]))))), (.t 3, .v (.o (.c (.own 120 2 (init.length))))), (.t 4, .v (.o (nat1 ((init.length : Nat))))), (.t 5, .v (.o (.c (.box 121 2 0 0)))), (.t 6, .v (.o (nat1 (0 : Nat)))), (.b 120, .b 67 2 (dR ((init.take init.length).map rL))), (.u 120, .u), (.b 121, .b 67 2 [[.d (.val (.slice none 0 0)), .d (.val (.slice none 0 0))]]), (.u 121, .u)]) (Wk.keep [(120, 110), (121, 105)] rfl rfl ⟨⟨_, rfl, Vto.dat _ _ (by first | rfl | exact congrArg (fun z => V.o (nat1 z)) (by omega) | (simp; done) | omega) rfl⟩, ⟨_, rfl, Vto.c (.own _ _ _ _ _ (by first | decide | simp) (by first | rfl | exact congrArg (fun z => V.o (nat1 z)) (by omega) | (simp; done) | omega))⟩, ⟨_, rfl, Vto.dat _ _ (by first | rfl | exact congrArg (fun z => V.o (nat1 z)) (by omega) | (simp; done) | omega) rfl⟩, ⟨_, rfl, Vto.c (.box _ _ _ _ _ _ (by first | decide | simp) rfl)⟩, ⟨_, rfl, Vto.dat _ _ (by first | rfl | exact congrArg (fun z => V.o (nat1 z)) (by omega) | (simp; done) | omega) rfl⟩, ⟨110, _, (by first | decide | simp), rfl, Rto.dat _ _ _ (by first | exact dR_take rL hl | rfl | (rw [List.take_length, dR_app]; done) | (rw [List.take_length]; done) | (simp [dR]; done)) rfl⟩, ⟨105, _, (by first | decide | simp), rfl, .cons (.cons (.d _ _ (by first | rfl | exact congrArg (fun z => V.o (nat1 z)) (by omega) | (simp; done) | omega)) (.cons (.d _ _ (by first | rfl | exact congrArg (fun z => V.o (nat1 z)) (by omega) | (simp; done) | omega)) Ctos.nil)) .nil⟩, trivial⟩) ?_
        refine ACode.loop (fun m σ => (∃ k : Nat, m = l0.1.length - k ∧ (k = 0) ∧ σ = [(.t 0, .v (.o (vD (dLs (init ++ [l0]))))), (.t 3, .v (.o (.c (.own 120 2 (init.length))))), (.t 4, .v (.o (nat1 ((init.length : Nat))))), (.t 5, .v (.o (.c (.box 121 2 0 0)))), (.t 6, .v (.o (nat1 (k : Nat)))), (.b 120, .b 67 2 (dR ((init.take init.length).map rL))), (.u 120, .u), (.b 121, .b 67 2 [[.d (.val (.slice none 0 0)), .d (.val (.slice none 0 0))]]), (.u 121, .u)]) ∨ (∃ k : Nat, m = l0.1.length - k ∧ (1 ≤ k) ∧ (k ≤ l0.1.length) ∧ σ = [(.t 0, .v (.o (vD (dLs (init ++ [l0]))))), (.t 3, .v (.o (.c (.own 120 2 (init.length))))), (.t 4, .v (.o (nat1 ((init.length : Nat))))), (.t 5, .v (.o (.c (.box 121 2 0 0)))), (.t 6, .v (.o (nat1 (k : Nat)))), (.b 120, .b 67 2 (dR ((init.take init.length).map rL))), (.u 120, .u), (.b 122, .b 51 2 (dR ((l0.1.take k).map rA))), (.u 122, .u), (.b 121, .b 67 2 [[.own 122 2 (k), .d (.val (.slice none 0 0))]]), (.u 121, .u)])) ((l0.1.length - 0)) (.inl ⟨0, rfl, rfl, rfl⟩) ?_
        rintro m σ (⟨k, hm0, rfl, rfl⟩ | ⟨k, hm0, hk1, hk2, rfl⟩)
        · skip
          refine ACode.seq ?_
          refine ACode.seq ?_
          refine ACode.region ?_
          refine AOps.cons (St1.move rfl rfl rfl rfl rfl) ?_
          refine AOps.cons (St1.move rfl rfl rfl rfl rfl) ?_
          refine AOps.cons (St1.move rfl rfl rfl rfl rfl) ?_
          refine AOps.cons (St1.indexL (e := 67) (sz := 2) (by' := 48) rfl rfl rfl rfl (by kernel_rfl) rfl rfl rfl rfl (by first | exact map_at (by assumption) | rfl)) ?_
          refine AOps.cons (St1.fieldP (off := 0) (m := 0) (r := false) rfl rfl rfl rfl (by kernel_rfl) rfl) ?_
          refine AOps.cons (St1.loadP1 (m := 1) rfl rfl rfl rfl (by kernel_rfl) rfl) ?_
          refine AOps.cons (St1.lenL (e := 51) (m := 2) (by' := 32) rfl rfl rfl rfl rfl (by kernel_rfl) rfl (by first | exact List.length_map _ | rfl)) ?_
          refine AOps.cons (St1.lss rfl rfl rfl rfl rfl rfl) ?_
          refine AOps.nil ?_
          refine ks_n ?_
          refine ACode.condT rfl (fun h25 => ?_) (fun h25 => ?_)
          · try simp only [List.length_map, decide_eq_true_eq, decide_eq_false_iff_not, Bool.not_eq_true', Bool.not_eq_false', Bool.not_eq_true, Bool.not_eq_false] at h25
            obtain ⟨x, hx, hxs⟩ := at_sm hlc (show 0 < l0.1.length by omega)
            refine ACode.skip ?_
            refine ks_n ?_
            refine ACode.seq ?_
            refine ACode.block ?_
            refine ACode.seq ?_
            refine ACode.region ?_
            refine AOps.cons (St1.move rfl rfl rfl rfl rfl) ?_
            refine AOps.cons (St1.move rfl rfl rfl rfl rfl) ?_
            refine AOps.cons (St1.indexL (e := 67) (sz := 2) (by' := 48) rfl rfl rfl rfl (by kernel_rfl) rfl rfl rfl rfl (by first | exact map_at (by assumption) | rfl)) ?_
            refine AOps.cons (St1.fieldP (off := 0) (m := 0) (r := false) rfl rfl rfl rfl (by kernel_rfl) rfl) ?_
            refine AOps.cons (St1.loadP1 (m := 1) rfl rfl rfl rfl (by kernel_rfl) rfl) ?_
            refine AOps.cons (St1.move rfl rfl rfl rfl rfl) ?_
            refine AOps.cons (St1.indexL (e := 51) (sz := 2) (by' := 32) rfl rfl rfl rfl (by kernel_rfl) rfl rfl rfl rfl (by first | exact map_at (by assumption) | rfl)) ?_
            refine AOps.cons (St1.loadPN (m := 2) rfl rfl rfl rfl (by kernel_rfl) rfl rfl) ?_
            refine AOps.cons (St1.alloc (k' := 107) (zs := [.slice none 0 0, .int .i64 0]) rfl rfl rfl rfl (by kernel_rfl) rfl rfl rfl) ?_
            refine AOps.cons (St1.store (m := 2) (rw' := true) rfl rfl rfl (by kernel_rfl) rfl rfl rfl rfl rfl rfl rfl) ?_
            refine AOps.nil ?_
            refine ks_n ?_
            refine ACode.drawK (by kernel_rfl) (by kernel_rfl) ?_
            refine RunK.cons (St1.fieldB (off := 0) (m := 0) (r := false) rfl rfl rfl rfl (by kernel_rfl) rfl rfl) ?_
            refine RunK.cons (St1.loadB1 (m := 1) rfl rfl rfl rfl (by kernel_rfl) rfl rfl rfl rfl rfl) ?_
            refine RunK.cons (St1.lit0 (k' := 138) (e := 3) (sz := 1) (b := true) rfl rfl rfl rfl (by kernel_rfl) rfl rfl) ?_
            refine RunK.cons (St1.fieldB (off := 0) (m := 0) (r := false) rfl rfl rfl rfl (by kernel_rfl) rfl rfl) ?_
            refine RunK.cons (St1.loadB1 (m := 1) rfl rfl rfl rfl (by kernel_rfl) rfl rfl rfl rfl rfl) ?_
            refine RunK.cons (St1.appD (rows := []) (e := 3) (sz := 0) (by' := 8) rfl rfl rfl rfl rfl (by kernel_rfl) rfl rfl rfl rfl rfl (by simp; omega) rfl) ?_
            refine RunK.cons (St1.fieldB (off := 1) (m := 0) (r := false) rfl rfl rfl rfl (by kernel_rfl) rfl rfl) ?_
            refine RunK.cons (St1.loadB1 (m := 1) rfl rfl rfl rfl (by kernel_rfl) rfl rfl rfl rfl rfl) ?_
            refine RunK.cons (St1.build (pl := [(0, .tmp 41), (1, .tmp 43)]) (places := [(0, 1), (1, 1)]) (zs := [.slice none 0 0, .int .i64 0]) rfl rfl rfl rfl rfl (by kernel_rfl) rfl rfl rfl) ?_
            refine RunK.cons (St1.lit (e := 51) (sz := 1) (m := 0) (xs := [.tmp 44]) rfl rfl rfl rfl rfl (by kernel_rfl) rfl rfl rfl rfl) ?_
            refine RunK.cons (St1.appN (k' := 146) (e := 51) (sz := 1) (by' := 32) rfl rfl rfl rfl rfl (by kernel_rfl) rfl rfl rfl (by simp) (by first | (simp [dR]; done) | (simp [dR]; omega)) rfl rfl) ?_
            refine RunK.cons (St1.fieldB (off := 0) (m := 0) (r := false) rfl rfl rfl rfl (by kernel_rfl) rfl rfl) ?_
            refine RunK.cons (St1.store (m := 1) (rw' := false) rfl rfl rfl (by kernel_rfl) rfl rfl rfl rfl rfl rfl rfl) ?_
            refine RunK.nil ⟨by kernel_rfl, ?_⟩
            refine kb_n ?_
            refine ks_n ?_
            refine ACode.region ?_
            refine AOps.cons (St1.move rfl rfl rfl rfl rfl) ?_
            refine AOps.cons (St1.add rfl rfl rfl rfl rfl rfl (by omega)) ?_
            refine AOps.cons (St1.assign rfl rfl rfl rfl rfl) ?_
            refine AOps.nil ?_
            refine kl_n (σ2 := [(.t 0, .v (.o (vD (dLs (init ++ [l0]))))), (.t 3, .v (.o (.c (.own 120 2 (init.length))))), (.t 4, .v (.o (nat1 ((init.length : Nat))))), (.t 5, .v (.o (.c (.box 121 2 0 0)))), (.t 6, .v (.o (nat1 (1 : Nat)))), (.b 120, .b 67 2 (dR ((init.take init.length).map rL))), (.u 120, .u), (.b 122, .b 51 2 (dR ((l0.1.take 1).map rA))), (.u 122, .u), (.b 121, .b 67 2 [[.own 122 2 (1), .d (.val (.slice none 0 0))]]), (.u 121, .u)]) ((l0.1.length - 1)) (by omega) (Wk.keep [(120, 120), (121, 121), (122, 146)] rfl rfl ⟨⟨_, rfl, Vto.dat _ _ (by first | rfl | exact congrArg (fun z => V.o (nat1 z)) (by omega) | (simp; done) | omega) rfl⟩, ⟨_, rfl, Vto.c (.own _ _ _ _ _ (by first | decide | simp) (by first | rfl | exact congrArg (fun z => V.o (nat1 z)) (by omega) | (simp; done) | omega))⟩, ⟨_, rfl, Vto.dat _ _ (by first | rfl | exact congrArg (fun z => V.o (nat1 z)) (by omega) | (simp; done) | omega) rfl⟩, ⟨_, rfl, Vto.c (.box _ _ _ _ _ _ (by first | decide | simp) rfl)⟩, ⟨_, rfl, Vto.dat _ _ (by first | rfl | exact congrArg (fun z => V.o (nat1 z)) (by omega) | (simp; done) | omega) rfl⟩, ⟨120, _, (by first | decide | simp), rfl, Rto.dat _ _ _ (by first | exact dR_take rL hl | rfl | (rw [List.take_length, dR_app]; done) | (rw [List.take_length]; done) | (simp [dR]; done)) rfl⟩, ⟨146, _, (by first | decide | simp), rfl, Rto.dat _ _ _ (by first | exact dR_take rA hx | exact dR_take1 rA hx | rfl | (rw [List.take_length]; done) | (simp [dR]; done)) rfl⟩, ⟨121, _, (by first | decide | simp), rfl, .cons (.cons (.own _ _ _ _ _ (by first | decide | simp) (by first | rfl | exact congrArg (fun z => V.o (nat1 z)) (by omega) | (simp; done) | omega)) (.cons (.d _ _ (by first | rfl | exact congrArg (fun z => V.o (nat1 z)) (by omega) | (simp; done) | omega)) Ctos.nil)) .nil⟩, trivial⟩) (.inr ⟨1, rfl, by omega, by omega, rfl⟩)
          · try simp only [List.length_map, decide_eq_true_eq, decide_eq_false_iff_not, Bool.not_eq_true', Bool.not_eq_false', Bool.not_eq_true, Bool.not_eq_false] at h25
            have hn1 : l0.1 = [] := List.eq_nil_of_length_eq_zero (by omega)
            refine ACode.exit ?_
            refine ks_e ?_
            refine kl_e ?_
            refine kb_hit ?_
            refine ks_n ?_
            refine ACode.seq ?_
            refine ACode.seq ?_
            refine ACode.region ?_
            refine AOps.cons (St1.assign rfl rfl rfl rfl rfl) ?_
            refine AOps.nil ?_
            refine ks_n ?_
            refine ACode.block ?_
            refine ACode.wk (σ' := [(.t 0, .v (.o (vD (dLs (init ++ [l0]))))), (.t 3, .v (.o (.c (.own 130 2 (init.length))))), (.t 4, .v (.o (nat1 ((init.length : Nat))))), (.t 5, .v (.o (.c (.box 131 2 0 0)))), (.t 8, .v (.o (nat1 (0 : Nat)))), (.b 130, .b 67 2 (dR ((init.take init.length).map rL))), (.u 130, .u), (.b 131, .b 67 2 [[.d (dAs l0.1), .d (.val (.slice none 0 0))]]), (.u 131, .u)]) (Wk.keep [(130, 120), (131, 121)] rfl rfl ⟨⟨_, rfl, Vto.dat _ _ (by first | rfl | exact congrArg (fun z => V.o (nat1 z)) (by omega) | (simp; done) | omega) rfl⟩, ⟨_, rfl, Vto.c (.own _ _ _ _ _ (by first | decide | simp) (by first | rfl | exact congrArg (fun z => V.o (nat1 z)) (by omega) | (simp; done) | omega))⟩, ⟨_, rfl, Vto.dat _ _ (by first | rfl | exact congrArg (fun z => V.o (nat1 z)) (by omega) | (simp; done) | omega) rfl⟩, ⟨_, rfl, Vto.c (.box _ _ _ _ _ _ (by first | decide | simp) rfl)⟩, ⟨_, rfl, Vto.dat _ _ (by first | rfl | exact congrArg (fun z => V.o (nat1 z)) (by omega) | (simp; done) | omega) rfl⟩, ⟨120, _, (by first | decide | simp), rfl, Rto.dat _ _ _ (by first | exact dR_take rL hl | rfl | (rw [List.take_length, dR_app]; done) | (rw [List.take_length]; done) | (simp [dR]; done)) rfl⟩, ⟨121, _, (by first | decide | simp), rfl, .cons (.cons (Cto.nilE 2 (by rw [hn1]; rfl)) (.cons (.d _ _ (by first | rfl | exact congrArg (fun z => V.o (nat1 z)) (by omega) | (simp; done) | omega)) Ctos.nil)) .nil⟩, trivial⟩) ?_
            refine ACode.loop (fun m σ => (∃ q : Nat, m = l0.2.length - q ∧ (q = 0) ∧ σ = [(.t 0, .v (.o (vD (dLs (init ++ [l0]))))), (.t 3, .v (.o (.c (.own 130 2 (init.length))))), (.t 4, .v (.o (nat1 ((init.length : Nat))))), (.t 5, .v (.o (.c (.box 131 2 0 0)))), (.t 8, .v (.o (nat1 (q : Nat)))), (.b 130, .b 67 2 (dR ((init.take init.length).map rL))), (.u 130, .u), (.b 131, .b 67 2 [[.d (dAs l0.1), .d (.val (.slice none 0 0))]]), (.u 131, .u)])) ((l0.2.length - 0)) ⟨0, rfl, rfl, rfl⟩ ?_
            rintro m σ ⟨q, hm0, rfl, rfl⟩
            refine ACode.seq ?_
            refine ACode.seq ?_
            refine ACode.region ?_
            refine AOps.cons (St1.move rfl rfl rfl rfl rfl) ?_
            refine AOps.cons (St1.move rfl rfl rfl rfl rfl) ?_
            refine AOps.cons (St1.move rfl rfl rfl rfl rfl) ?_
            refine AOps.cons (St1.indexL (e := 67) (sz := 2) (by' := 48) rfl rfl rfl rfl (by kernel_rfl) rfl rfl rfl rfl (by first | exact map_at (by assumption) | rfl)) ?_
            refine AOps.cons (St1.fieldP (off := 1) (m := 0) (r := false) rfl rfl rfl rfl (by kernel_rfl) rfl) ?_
            refine AOps.cons (St1.loadP1 (m := 1) rfl rfl rfl rfl (by kernel_rfl) rfl) ?_
            refine AOps.cons (St1.lenL (e := 51) (m := 2) (by' := 32) rfl rfl rfl rfl rfl (by kernel_rfl) rfl (by first | exact List.length_map _ | rfl)) ?_
            refine AOps.cons (St1.lss rfl rfl rfl rfl rfl rfl) ?_
            refine AOps.nil ?_
            refine ks_n ?_
            refine ACode.condT rfl (fun h55 => ?_) (fun h55 => ?_)
            · try simp only [List.length_map, decide_eq_true_eq, decide_eq_false_iff_not, Bool.not_eq_true', Bool.not_eq_false', Bool.not_eq_true, Bool.not_eq_false] at h55
              rw [h0] at h55; simp at h55
            · try simp only [List.length_map, decide_eq_true_eq, decide_eq_false_iff_not, Bool.not_eq_true', Bool.not_eq_false', Bool.not_eq_true, Bool.not_eq_false] at h55
              have hn2 : l0.2 = [] := List.eq_nil_of_length_eq_zero (by omega)
              refine ACode.exit ?_
              refine ks_e ?_
              refine kl_e ?_
              refine kb_hit ?_
              refine ks_n ?_
              refine ACode.wk (σ' := [(.t 0, .v (.o (vD (dLs (init ++ [l0]))))), (.t 3, .v (.o (.c (.own 860 2 (init.length))))), (.t 4, .v (.o (nat1 ((init.length : Nat))))), (.t 5, .v (.o (.c (.box 861 2 0 0)))), (.b 860, .b 67 2 (dR ((init.take init.length).map rL))), (.u 860, .u), (.b 861, .b 67 2 [[.d (dAs l0.1), .d (.val (.slice none 0 0))]]), (.u 861, .u)]) (Wk.keep [(860, 130), (861, 131)] rfl rfl ⟨⟨_, rfl, Vto.dat _ _ (by first | rfl | exact congrArg (fun z => V.o (nat1 z)) (by omega) | (simp; done) | omega) rfl⟩, ⟨_, rfl, Vto.c (.own _ _ _ _ _ (by first | decide | simp) (by first | rfl | exact congrArg (fun z => V.o (nat1 z)) (by omega) | (simp; done) | omega))⟩, ⟨_, rfl, Vto.dat _ _ (by first | rfl | exact congrArg (fun z => V.o (nat1 z)) (by omega) | (simp; done) | omega) rfl⟩, ⟨_, rfl, Vto.c (.box _ _ _ _ _ _ (by first | decide | simp) rfl)⟩, ⟨130, _, (by first | decide | simp), rfl, Rto.dat _ _ _ (by first | exact dR_take rL hl | rfl | (rw [List.take_length, dR_app]; done) | (rw [List.take_length]; done) | (simp [dR]; done)) rfl⟩, ⟨131, _, (by first | decide | simp), rfl, .cons (.cons (.d _ _ (by first | rfl | exact congrArg (fun z => V.o (nat1 z)) (by omega) | (simp; done) | omega)) (.cons (.d _ _ (by first | rfl | exact congrArg (fun z => V.o (nat1 z)) (by omega) | (simp; done) | omega)) Ctos.nil)) .nil⟩, trivial⟩) ?_
              refine ACode.region ?_
              refine AOps.cons (St1.move rfl rfl rfl rfl rfl) ?_
              refine AOps.cons (St1.loadBN (m := 2) rfl rfl rfl rfl (by kernel_rfl) rfl rfl rfl rfl rfl) ?_
              refine AOps.cons (St1.lit (e := 67) (sz := 1) (m := 0) (xs := [.tmp 79]) rfl rfl rfl rfl rfl (by kernel_rfl) rfl rfl rfl rfl) ?_
              refine AOps.cons (St1.appB (k' := 181) (e := 67) (sz := 1) (by' := 48) rfl rfl rfl rfl rfl (by kernel_rfl) rfl rfl rfl rfl (by first | (simp [dR]; done) | (simp [dR]; omega)) (by first | (simp [dR]; done) | (simp [dR]; omega)) rfl rfl rfl) ?_
              refine AOps.cons (St1.assign rfl rfl rfl rfl rfl) ?_
              refine AOps.nil ?_
              refine kb_n ?_
              refine ks_n ?_
              refine ACode.region ?_
              refine AOps.cons (St1.move rfl rfl rfl rfl rfl) ?_
              refine AOps.cons (St1.add rfl rfl rfl rfl rfl rfl (by omega)) ?_
              refine AOps.cons (St1.assign rfl rfl rfl rfl rfl) ?_
              refine AOps.nil ?_
              refine kl_n (σ2 := [(.t 0, .v (.o (vD (dLs (init ++ [l0]))))), (.t 3, .v (.o (.c (.own 110 2 (init.length + 1))))), (.t 4, .v (.o (nat1 ((init.length + 1) : Nat)))), (.b 110, .b 67 2 (dR (init.map rL ++ [[dAs l0.1, .val (.slice none 0 0)]]))), (.u 110, .u)]) ((init.length + 1 - (init.length + 1))) (by omega) (Wk.keep [(110, 181)] rfl rfl ⟨⟨_, rfl, Vto.dat _ _ (by first | rfl | exact congrArg (fun z => V.o (nat1 z)) (by omega) | (simp; done) | omega) rfl⟩, ⟨_, rfl, Vto.c (.own _ _ _ _ _ (by first | decide | simp) (by first | rfl | exact congrArg (fun z => V.o (nat1 z)) (by omega) | (simp; done) | omega))⟩, ⟨_, rfl, Vto.dat _ _ (by first | rfl | exact congrArg (fun z => V.o (nat1 z)) (by omega) | (simp; done) | omega) rfl⟩, ⟨181, _, (by first | decide | simp), rfl, Rto.dat _ _ _ (by first | exact dR_take rL hl | rfl | (rw [List.take_length, dR_app]; done) | (rw [List.take_length]; done) | (simp [dR]; done)) rfl⟩, trivial⟩) (.inr ⟨init.length + 1, rfl, rfl, rfl⟩)
        · skip
          refine ACode.seq ?_
          refine ACode.seq ?_
          refine ACode.region ?_
          refine AOps.cons (St1.move rfl rfl rfl rfl rfl) ?_
          refine AOps.cons (St1.move rfl rfl rfl rfl rfl) ?_
          refine AOps.cons (St1.move rfl rfl rfl rfl rfl) ?_
          refine AOps.cons (St1.indexL (e := 67) (sz := 2) (by' := 48) rfl rfl rfl rfl (by kernel_rfl) rfl rfl rfl rfl (by first | exact map_at (by assumption) | rfl)) ?_
          refine AOps.cons (St1.fieldP (off := 0) (m := 0) (r := false) rfl rfl rfl rfl (by kernel_rfl) rfl) ?_
          refine AOps.cons (St1.loadP1 (m := 1) rfl rfl rfl rfl (by kernel_rfl) rfl) ?_
          refine AOps.cons (St1.lenL (e := 51) (m := 2) (by' := 32) rfl rfl rfl rfl rfl (by kernel_rfl) rfl (by first | exact List.length_map _ | rfl)) ?_
          refine AOps.cons (St1.lss rfl rfl rfl rfl rfl rfl) ?_
          refine AOps.nil ?_
          refine ks_n ?_
          refine ACode.condT rfl (fun h25 => ?_) (fun h25 => ?_)
          · try simp only [List.length_map, decide_eq_true_eq, decide_eq_false_iff_not, Bool.not_eq_true', Bool.not_eq_false', Bool.not_eq_true, Bool.not_eq_false] at h25
            obtain ⟨x, hx, hxs⟩ := at_sm hlc (show k < l0.1.length by omega)
            refine ACode.skip ?_
            refine ks_n ?_
            refine ACode.seq ?_
            refine ACode.block ?_
            refine ACode.seq ?_
            refine ACode.region ?_
            refine AOps.cons (St1.move rfl rfl rfl rfl rfl) ?_
            refine AOps.cons (St1.move rfl rfl rfl rfl rfl) ?_
            refine AOps.cons (St1.indexL (e := 67) (sz := 2) (by' := 48) rfl rfl rfl rfl (by kernel_rfl) rfl rfl rfl rfl (by first | exact map_at (by assumption) | rfl)) ?_
            refine AOps.cons (St1.fieldP (off := 0) (m := 0) (r := false) rfl rfl rfl rfl (by kernel_rfl) rfl) ?_
            refine AOps.cons (St1.loadP1 (m := 1) rfl rfl rfl rfl (by kernel_rfl) rfl) ?_
            refine AOps.cons (St1.move rfl rfl rfl rfl rfl) ?_
            refine AOps.cons (St1.indexL (e := 51) (sz := 2) (by' := 32) rfl rfl rfl rfl (by kernel_rfl) rfl rfl rfl rfl (by first | exact map_at (by assumption) | rfl)) ?_
            refine AOps.cons (St1.loadPN (m := 2) rfl rfl rfl rfl (by kernel_rfl) rfl rfl) ?_
            refine AOps.cons (St1.alloc (k' := 107) (zs := [.slice none 0 0, .int .i64 0]) rfl rfl rfl rfl (by kernel_rfl) rfl rfl rfl) ?_
            refine AOps.cons (St1.store (m := 2) (rw' := true) rfl rfl rfl (by kernel_rfl) rfl rfl rfl rfl rfl rfl rfl) ?_
            refine AOps.nil ?_
            refine ks_n ?_
            refine ACode.drawK (by kernel_rfl) (by kernel_rfl) ?_
            refine RunK.cons (St1.fieldB (off := 0) (m := 0) (r := false) rfl rfl rfl rfl (by kernel_rfl) rfl rfl) ?_
            refine RunK.cons (St1.loadB1 (m := 1) rfl rfl rfl rfl (by kernel_rfl) rfl rfl rfl rfl rfl) ?_
            refine RunK.cons (St1.lit0 (k' := 138) (e := 3) (sz := 1) (b := true) rfl rfl rfl rfl (by kernel_rfl) rfl rfl) ?_
            refine RunK.cons (St1.fieldB (off := 0) (m := 0) (r := false) rfl rfl rfl rfl (by kernel_rfl) rfl rfl) ?_
            refine RunK.cons (St1.loadB1 (m := 1) rfl rfl rfl rfl (by kernel_rfl) rfl rfl rfl rfl rfl) ?_
            refine RunK.cons (St1.appD (rows := []) (e := 3) (sz := 0) (by' := 8) rfl rfl rfl rfl rfl (by kernel_rfl) rfl rfl rfl rfl rfl (by simp; omega) rfl) ?_
            refine RunK.cons (St1.fieldB (off := 1) (m := 0) (r := false) rfl rfl rfl rfl (by kernel_rfl) rfl rfl) ?_
            refine RunK.cons (St1.loadB1 (m := 1) rfl rfl rfl rfl (by kernel_rfl) rfl rfl rfl rfl rfl) ?_
            refine RunK.cons (St1.build (pl := [(0, .tmp 41), (1, .tmp 43)]) (places := [(0, 1), (1, 1)]) (zs := [.slice none 0 0, .int .i64 0]) rfl rfl rfl rfl rfl (by kernel_rfl) rfl rfl rfl) ?_
            refine RunK.cons (St1.lit (e := 51) (sz := 1) (m := 0) (xs := [.tmp 44]) rfl rfl rfl rfl rfl (by kernel_rfl) rfl rfl rfl rfl) ?_
            refine RunK.cons (St1.appB (k' := 146) (e := 51) (sz := 1) (by' := 32) rfl rfl rfl rfl rfl (by kernel_rfl) rfl rfl rfl rfl (by first | (simp [dR]; done) | (simp [dR]; omega)) (by first | (simp [dR]; done) | (simp [dR]; omega)) rfl rfl rfl) ?_
            refine RunK.cons (St1.fieldB (off := 0) (m := 0) (r := false) rfl rfl rfl rfl (by kernel_rfl) rfl rfl) ?_
            refine RunK.cons (St1.store (m := 1) (rw' := false) rfl rfl rfl (by kernel_rfl) rfl rfl rfl rfl rfl rfl rfl) ?_
            refine RunK.nil ⟨by kernel_rfl, ?_⟩
            refine kb_n ?_
            refine ks_n ?_
            refine ACode.region ?_
            refine AOps.cons (St1.move rfl rfl rfl rfl rfl) ?_
            refine AOps.cons (St1.add rfl rfl rfl rfl rfl rfl (by omega)) ?_
            refine AOps.cons (St1.assign rfl rfl rfl rfl rfl) ?_
            refine AOps.nil ?_
            refine kl_n (σ2 := [(.t 0, .v (.o (vD (dLs (init ++ [l0]))))), (.t 3, .v (.o (.c (.own 120 2 (init.length))))), (.t 4, .v (.o (nat1 ((init.length : Nat))))), (.t 5, .v (.o (.c (.box 121 2 0 0)))), (.t 6, .v (.o (nat1 ((k + 1) : Nat)))), (.b 120, .b 67 2 (dR ((init.take init.length).map rL))), (.u 120, .u), (.b 122, .b 51 2 (dR ((l0.1.take (k + 1)).map rA))), (.u 122, .u), (.b 121, .b 67 2 [[.own 122 2 ((k + 1)), .d (.val (.slice none 0 0))]]), (.u 121, .u)]) ((l0.1.length - (k + 1))) (by omega) (Wk.keep [(120, 120), (121, 121), (122, 146)] rfl rfl ⟨⟨_, rfl, Vto.dat _ _ (by first | rfl | exact congrArg (fun z => V.o (nat1 z)) (by omega) | (simp; done) | omega) rfl⟩, ⟨_, rfl, Vto.c (.own _ _ _ _ _ (by first | decide | simp) (by first | rfl | exact congrArg (fun z => V.o (nat1 z)) (by omega) | (simp; done) | omega))⟩, ⟨_, rfl, Vto.dat _ _ (by first | rfl | exact congrArg (fun z => V.o (nat1 z)) (by omega) | (simp; done) | omega) rfl⟩, ⟨_, rfl, Vto.c (.box _ _ _ _ _ _ (by first | decide | simp) rfl)⟩, ⟨_, rfl, Vto.dat _ _ (by first | rfl | exact congrArg (fun z => V.o (nat1 z)) (by omega) | (simp; done) | omega) rfl⟩, ⟨120, _, (by first | decide | simp), rfl, Rto.dat _ _ _ (by first | exact dR_take rL hl | rfl | (rw [List.take_length, dR_app]; done) | (rw [List.take_length]; done) | (simp [dR]; done)) rfl⟩, ⟨146, _, (by first | decide | simp), rfl, Rto.dat _ _ _ (by first | exact dR_take rA hx | exact dR_take1 rA hx | rfl | (rw [List.take_length]; done) | (simp [dR]; done)) rfl⟩, ⟨121, _, (by first | decide | simp), rfl, .cons (.cons (.own _ _ _ _ _ (by first | decide | simp) (by first | rfl | exact congrArg (fun z => V.o (nat1 z)) (by omega) | (simp; done) | omega)) (.cons (.d _ _ (by first | rfl | exact congrArg (fun z => V.o (nat1 z)) (by omega) | (simp; done) | omega)) Ctos.nil)) .nil⟩, trivial⟩) (.inr ⟨k + 1, rfl, by omega, by omega, rfl⟩)
          · try simp only [List.length_map, decide_eq_true_eq, decide_eq_false_iff_not, Bool.not_eq_true', Bool.not_eq_false', Bool.not_eq_true, Bool.not_eq_false] at h25
            obtain rfl : k = l0.1.length := by omega
            refine ACode.exit ?_
            refine ks_e ?_
            refine kl_e ?_
            refine kb_hit ?_
            refine ks_n ?_
            refine ACode.seq ?_
            refine ACode.seq ?_
            refine ACode.region ?_
            refine AOps.cons (St1.assign rfl rfl rfl rfl rfl) ?_
            refine AOps.nil ?_
            refine ks_n ?_
            refine ACode.block ?_
            refine ACode.wk (σ' := [(.t 0, .v (.o (vD (dLs (init ++ [l0]))))), (.t 3, .v (.o (.c (.own 130 2 (init.length))))), (.t 4, .v (.o (nat1 ((init.length : Nat))))), (.t 5, .v (.o (.c (.box 131 2 0 0)))), (.t 8, .v (.o (nat1 (0 : Nat)))), (.b 130, .b 67 2 (dR ((init.take init.length).map rL))), (.u 130, .u), (.b 131, .b 67 2 [[.d (dAs l0.1), .d (.val (.slice none 0 0))]]), (.u 131, .u)]) (Wk.keep [(130, 120), (131, 121)] rfl rfl ⟨⟨_, rfl, Vto.dat _ _ (by first | rfl | exact congrArg (fun z => V.o (nat1 z)) (by omega) | (simp; done) | omega) rfl⟩, ⟨_, rfl, Vto.c (.own _ _ _ _ _ (by first | decide | simp) (by first | rfl | exact congrArg (fun z => V.o (nat1 z)) (by omega) | (simp; done) | omega))⟩, ⟨_, rfl, Vto.dat _ _ (by first | rfl | exact congrArg (fun z => V.o (nat1 z)) (by omega) | (simp; done) | omega) rfl⟩, ⟨_, rfl, Vto.c (.box _ _ _ _ _ _ (by first | decide | simp) rfl)⟩, ⟨_, rfl, Vto.dat _ _ (by first | rfl | exact congrArg (fun z => V.o (nat1 z)) (by omega) | (simp; done) | omega) rfl⟩, ⟨120, _, (by first | decide | simp), rfl, Rto.dat _ _ _ (by first | exact dR_take rL hl | rfl | (rw [List.take_length, dR_app]; done) | (rw [List.take_length]; done) | (simp [dR]; done)) rfl⟩, ⟨121, _, (by first | decide | simp), rfl, .cons (.cons (.frz _ _ _ _ _ _ rfl (by first | rfl | (rw [List.take_length]; done)) rfl rfl (by first | rfl | (simp; done) | (simp; omega)) (by omega)) (.cons (.d _ _ (by first | rfl | exact congrArg (fun z => V.o (nat1 z)) (by omega) | (simp; done) | omega)) Ctos.nil)) .nil⟩, trivial⟩) ?_
            refine ACode.loop (fun m σ => (∃ q : Nat, m = l0.2.length - q ∧ (q = 0) ∧ σ = [(.t 0, .v (.o (vD (dLs (init ++ [l0]))))), (.t 3, .v (.o (.c (.own 130 2 (init.length))))), (.t 4, .v (.o (nat1 ((init.length : Nat))))), (.t 5, .v (.o (.c (.box 131 2 0 0)))), (.t 8, .v (.o (nat1 (q : Nat)))), (.b 130, .b 67 2 (dR ((init.take init.length).map rL))), (.u 130, .u), (.b 131, .b 67 2 [[.d (dAs l0.1), .d (.val (.slice none 0 0))]]), (.u 131, .u)])) ((l0.2.length - 0)) ⟨0, rfl, rfl, rfl⟩ ?_
            rintro m σ ⟨q, hm0, rfl, rfl⟩
            refine ACode.seq ?_
            refine ACode.seq ?_
            refine ACode.region ?_
            refine AOps.cons (St1.move rfl rfl rfl rfl rfl) ?_
            refine AOps.cons (St1.move rfl rfl rfl rfl rfl) ?_
            refine AOps.cons (St1.move rfl rfl rfl rfl rfl) ?_
            refine AOps.cons (St1.indexL (e := 67) (sz := 2) (by' := 48) rfl rfl rfl rfl (by kernel_rfl) rfl rfl rfl rfl (by first | exact map_at (by assumption) | rfl)) ?_
            refine AOps.cons (St1.fieldP (off := 1) (m := 0) (r := false) rfl rfl rfl rfl (by kernel_rfl) rfl) ?_
            refine AOps.cons (St1.loadP1 (m := 1) rfl rfl rfl rfl (by kernel_rfl) rfl) ?_
            refine AOps.cons (St1.lenL (e := 51) (m := 2) (by' := 32) rfl rfl rfl rfl rfl (by kernel_rfl) rfl (by first | exact List.length_map _ | rfl)) ?_
            refine AOps.cons (St1.lss rfl rfl rfl rfl rfl rfl) ?_
            refine AOps.nil ?_
            refine ks_n ?_
            refine ACode.condT rfl (fun h55 => ?_) (fun h55 => ?_)
            · try simp only [List.length_map, decide_eq_true_eq, decide_eq_false_iff_not, Bool.not_eq_true', Bool.not_eq_false', Bool.not_eq_true, Bool.not_eq_false] at h55
              rw [h0] at h55; simp at h55
            · try simp only [List.length_map, decide_eq_true_eq, decide_eq_false_iff_not, Bool.not_eq_true', Bool.not_eq_false', Bool.not_eq_true, Bool.not_eq_false] at h55
              have hn2 : l0.2 = [] := List.eq_nil_of_length_eq_zero (by omega)
              refine ACode.exit ?_
              refine ks_e ?_
              refine kl_e ?_
              refine kb_hit ?_
              refine ks_n ?_
              refine ACode.wk (σ' := [(.t 0, .v (.o (vD (dLs (init ++ [l0]))))), (.t 3, .v (.o (.c (.own 860 2 (init.length))))), (.t 4, .v (.o (nat1 ((init.length : Nat))))), (.t 5, .v (.o (.c (.box 861 2 0 0)))), (.b 860, .b 67 2 (dR ((init.take init.length).map rL))), (.u 860, .u), (.b 861, .b 67 2 [[.d (dAs l0.1), .d (.val (.slice none 0 0))]]), (.u 861, .u)]) (Wk.keep [(860, 130), (861, 131)] rfl rfl ⟨⟨_, rfl, Vto.dat _ _ (by first | rfl | exact congrArg (fun z => V.o (nat1 z)) (by omega) | (simp; done) | omega) rfl⟩, ⟨_, rfl, Vto.c (.own _ _ _ _ _ (by first | decide | simp) (by first | rfl | exact congrArg (fun z => V.o (nat1 z)) (by omega) | (simp; done) | omega))⟩, ⟨_, rfl, Vto.dat _ _ (by first | rfl | exact congrArg (fun z => V.o (nat1 z)) (by omega) | (simp; done) | omega) rfl⟩, ⟨_, rfl, Vto.c (.box _ _ _ _ _ _ (by first | decide | simp) rfl)⟩, ⟨130, _, (by first | decide | simp), rfl, Rto.dat _ _ _ (by first | exact dR_take rL hl | rfl | (rw [List.take_length, dR_app]; done) | (rw [List.take_length]; done) | (simp [dR]; done)) rfl⟩, ⟨131, _, (by first | decide | simp), rfl, .cons (.cons (.d _ _ (by first | rfl | exact congrArg (fun z => V.o (nat1 z)) (by omega) | (simp; done) | omega)) (.cons (.d _ _ (by first | rfl | exact congrArg (fun z => V.o (nat1 z)) (by omega) | (simp; done) | omega)) Ctos.nil)) .nil⟩, trivial⟩) ?_
              refine ACode.region ?_
              refine AOps.cons (St1.move rfl rfl rfl rfl rfl) ?_
              refine AOps.cons (St1.loadBN (m := 2) rfl rfl rfl rfl (by kernel_rfl) rfl rfl rfl rfl rfl) ?_
              refine AOps.cons (St1.lit (e := 67) (sz := 1) (m := 0) (xs := [.tmp 79]) rfl rfl rfl rfl rfl (by kernel_rfl) rfl rfl rfl rfl) ?_
              refine AOps.cons (St1.appB (k' := 181) (e := 67) (sz := 1) (by' := 48) rfl rfl rfl rfl rfl (by kernel_rfl) rfl rfl rfl rfl (by first | (simp [dR]; done) | (simp [dR]; omega)) (by first | (simp [dR]; done) | (simp [dR]; omega)) rfl rfl rfl) ?_
              refine AOps.cons (St1.assign rfl rfl rfl rfl rfl) ?_
              refine AOps.nil ?_
              refine kb_n ?_
              refine ks_n ?_
              refine ACode.region ?_
              refine AOps.cons (St1.move rfl rfl rfl rfl rfl) ?_
              refine AOps.cons (St1.add rfl rfl rfl rfl rfl rfl (by omega)) ?_
              refine AOps.cons (St1.assign rfl rfl rfl rfl rfl) ?_
              refine AOps.nil ?_
              refine kl_n (σ2 := [(.t 0, .v (.o (vD (dLs (init ++ [l0]))))), (.t 3, .v (.o (.c (.own 110 2 (init.length + 1))))), (.t 4, .v (.o (nat1 ((init.length + 1) : Nat)))), (.b 110, .b 67 2 (dR (init.map rL ++ [[dAs l0.1, .val (.slice none 0 0)]]))), (.u 110, .u)]) ((init.length + 1 - (init.length + 1))) (by omega) (Wk.keep [(110, 181)] rfl rfl ⟨⟨_, rfl, Vto.dat _ _ (by first | rfl | exact congrArg (fun z => V.o (nat1 z)) (by omega) | (simp; done) | omega) rfl⟩, ⟨_, rfl, Vto.c (.own _ _ _ _ _ (by first | decide | simp) (by first | rfl | exact congrArg (fun z => V.o (nat1 z)) (by omega) | (simp; done) | omega))⟩, ⟨_, rfl, Vto.dat _ _ (by first | rfl | exact congrArg (fun z => V.o (nat1 z)) (by omega) | (simp; done) | omega) rfl⟩, ⟨181, _, (by first | decide | simp), rfl, Rto.dat _ _ _ (by first | exact dR_take rL hl | rfl | (rw [List.take_length, dR_app]; done) | (rw [List.take_length]; done) | (simp [dR]; done)) rfl⟩, trivial⟩) (.inr ⟨init.length + 1, rfl, rfl, rfl⟩)
    · try simp only [List.length_map, decide_eq_true_eq, decide_eq_false_iff_not, Bool.not_eq_true', Bool.not_eq_false', Bool.not_eq_true, Bool.not_eq_false] at h14
      simp at h14; omega
  · skip
    refine ACode.seq ?_
    refine ACode.seq ?_
    refine ACode.region ?_
    refine AOps.cons (St1.move rfl rfl rfl rfl rfl) ?_
    refine AOps.cons (St1.move rfl rfl rfl rfl rfl) ?_
    refine AOps.cons (St1.lenL (e := 67) (m := 2) (by' := 48) rfl rfl rfl rfl rfl (by kernel_rfl) rfl (by first | exact List.length_map _ | rfl)) ?_
    refine AOps.cons (St1.lss rfl rfl rfl rfl rfl rfl) ?_
    refine AOps.nil ?_
    refine ks_n ?_
    refine ACode.condT rfl (fun h14 => ?_) (fun h14 => ?_)
    · try simp only [List.length_map, decide_eq_true_eq, decide_eq_false_iff_not, Bool.not_eq_true', Bool.not_eq_false', Bool.not_eq_true, Bool.not_eq_false] at h14
      simp at h14
    · try simp only [List.length_map, decide_eq_true_eq, decide_eq_false_iff_not, Bool.not_eq_true', Bool.not_eq_false', Bool.not_eq_true, Bool.not_eq_false] at h14
      refine ACode.exit ?_
      refine ks_e ?_
      refine kl_e ?_
      refine kb_hit ?_
      refine ks_n ?_
      refine ACode.seq ?_
      refine ACode.region ?_
      refine AOps.cons (St1.move rfl rfl rfl rfl rfl) ?_
      refine AOps.cons (St1.assign rfl rfl rfl rfl rfl) ?_
      refine AOps.nil ?_
      refine ks_n ?_
      refine ACode.ret ?_
      refine kf_wret [(.t 2, .v (.o (.c (.own 100 2 (init.length + 1))))), (.b 100, .b 67 2 (dR (init.map rL ++ [[dAs l0.1, .val (.slice none 0 0)]]))), (.u 100, .u)] (Wk.keep [(100, 110)] rfl rfl ⟨⟨_, rfl, Vto.c (.own _ _ _ _ _ (by first | decide | simp) (by first | rfl | exact congrArg (fun z => V.o (nat1 z)) (by omega) | (simp; done) | omega))⟩, ⟨110, _, (by first | decide | simp), rfl, Rto.dat _ _ _ (by first | exact dR_take rL hl | rfl | (rw [List.take_length, dR_app]; done) | (rw [List.take_length]; done) | (simp [dR]; done)) rfl⟩, trivial⟩) rfl ?_ (one_box rfl)
      rfl

end Go.Proofs.Ytgcpdpbapgkdjaa
