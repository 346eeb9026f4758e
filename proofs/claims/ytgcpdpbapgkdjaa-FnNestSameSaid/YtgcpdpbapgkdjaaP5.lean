/- Part 5 of 5 of the proof: laws on memory and data, then what the functions compute, in the order in which they build on each other; conditions: those that each theorem names. -/
import Derived.Test.YtgcpdpbapgkdjaaP4

/- Changed nests; condition: small nests. -/
namespace Go.Proofs.Ytgcpdpbapgkdjaa
set_option linter.unusedVariables false
set_option linter.unusedSimpArgs false
open Go.RowKit

theorem outS_C1 {inv : Inv} {l0 : Lp} {rest : List Lp} : outS inv (hbC1 l0 rest) = [(.b (asc inv 100), .b 67 2 ([.own (asc inv 101) 2 l0.1.length, .d (dAs l0.2)] :: dR (rest.map rL))), (.u (asc inv 100), .u), (.b (asc inv 101), .b 51 2 (dR (l0.1.map rA))), (.u (asc inv 101), .u)] := by
  show [(Res.b (asc inv 100), RC.b _ 2 ([C.own (asc inv 101) 2 l0.1.length, C.d (dAs l0.2)] :: renR (asc inv) (dR (rest.map rL)))), (.u (asc inv 100), .u), (.b (asc inv 101), .b _ 2 (renR (asc inv) (dR (l0.1.map rA)))), (.u (asc inv 101), .u)] = _
  rw [renR_dR, renR_dR]
theorem outS_C2 {inv : Inv} {init : List Lp} {l0 : Lp} : outS inv (hbC2 init l0) = [(.b (asc inv 100), .b 67 2 (dR (init.map rL) ++ [[.d (dAs l0.1), .own (asc inv 101) 2 l0.2.length]])), (.u (asc inv 100), .u), (.b (asc inv 101), .b 51 2 (dR (l0.2.map rA))), (.u (asc inv 101), .u)] := by
  show [(Res.b (asc inv 100), RC.b _ 2 (renR (asc inv) (dR (init.map rL) ++ [[.d (dAs l0.1), .own 101 2 l0.2.length]]))), (.u (asc inv 100), .u), (.b (asc inv 101), .b _ 2 (renR (asc inv) (dR (l0.2.map rA)))), (.u (asc inv 101), .u)] = _
  have e : renR (asc inv) (dR (init.map rL) ++ [[.d (dAs l0.1), .own 101 2 l0.2.length]]) = renR (asc inv) (dR (init.map rL)) ++ [[.d (dAs l0.1), .own (asc inv 101) 2 l0.2.length]] := List.map_append
  rw [e, renR_dR, renR_dR]
theorem row_lastL (init : List Lp) (l : Lp) : (init ++ [l])[init.length]? = some l := by simp
theorem row_last (init : List Lp) (r : List C) : (dR (init.map rL) ++ [r])[init.length]? = some r := by simp [dR]
theorem set_last (init : List Lp) (r r' : List C) : (dR (init.map rL) ++ [r]).set init.length r' = dR (init.map rL) ++ [r'] := by simp [dR]
theorem set_lastD (init : List Lp) (r : List D) (r' : List C) : (dR (init.map rL ++ [r])).set init.length r' = dR (init.map rL) ++ [r'] := by simp [dR]
theorem set_lastL (init : List Lp) (l : Lp) (r' : List C) : (dR ((init ++ [l]).map rL)).set init.length r' = dR (init.map rL) ++ [r'] := by simp [dR]
theorem row_lastD (init : List Lp) (r : List D) : (init.map rL ++ [r])[init.length]? = some r := by simp

set_option maxRecDepth 100000 in
set_option maxHeartbeats 1600000 in
theorem mut_nil {bs : List Int} (hb : Bytes bs) {p : Nat} (hp : p ≤ 100000000) (hs : smN []) : Fn Try.prog 46 (hbR bs p) [vR, vD (dLs [])] (.o (vD (dLs ([])))) (hbR bs p) := by
  have hs0 := hs
  obtain ⟨hs1, hs2⟩ := hs
  refine Fn.of_code Try.func46 rfl rfl (hbR_HB _ _) rfl rfl (hbR_HB _ _) rfl (hbR_num _ _ _) ?_
  refine ACode.seq ?_
  refine ACode.region ?_
  refine AOps.cons (St1.assign rfl rfl rfl rfl rfl) ?_
  refine AOps.nil ?_
  refine ks_n ?_
  refine ACode.seq ?_
  refine ACode.region ?_
  refine AOps.cons (St1.move rfl rfl rfl rfl rfl) ?_
  refine AOps.cons (St1.callO (xs := [.tmp 7]) [(100, 108)] rfl rfl rfl rfl rfl rfl (by kernel_rfl) rfl (l2Copy_own hs0) rfl trivial rfl flatS.nil (flatS.nil.cons rfl) HB.nil.data rfl rfl outS_one) ?_
  refine AOps.cons (St1.assign rfl rfl rfl rfl rfl) ?_
  refine AOps.nil ?_
  refine ks_n ?_
  refine ACode.seq ?_
  refine ACode.region ?_
  refine AOps.cons (St1.move rfl rfl rfl rfl rfl) ?_
  refine AOps.cons (St1.lenB (e := 67) (m := 2) (by' := 48) rfl rfl rfl rfl rfl (by kernel_rfl) rfl rfl) ?_
  refine AOps.cons (St1.assign rfl rfl rfl rfl rfl) ?_
  refine AOps.nil ?_
  refine ks_n ?_
  refine ACode.seq ?_
  refine ACode.seq ?_
  refine ACode.region ?_
  refine AOps.cons (St1.move rfl rfl rfl rfl rfl) ?_
  refine AOps.cons (St1.eql rfl rfl rfl rfl rfl rfl) ?_
  refine AOps.nil ?_
  refine ks_n ?_
  refine ACode.condT rfl (fun h12 => ?_) (fun h12 => ?_)
  · try simp only [List.length_map, decide_eq_true_eq, decide_eq_false_iff_not, Bool.not_eq_true', Bool.not_eq_false', Bool.not_eq_true, Bool.not_eq_false] at h12
    refine ACode.seq ?_
    refine ACode.region ?_
    refine AOps.cons (St1.move rfl rfl rfl rfl rfl) ?_
    refine AOps.cons (St1.assign rfl rfl rfl rfl rfl) ?_
    refine AOps.nil ?_
    refine ks_n ?_
    refine ACode.ret ?_
    refine ks_r ?_
    refine kf_wret [(.t 4, .v (.o (vD (dLs ([]))))), (.b 0, .b 105 2 (dR ([rRd bs p]))), (.u 0, .u)] (Wk.keep [(0, 0)] rfl rfl ⟨⟨_, rfl, Vto.c (.frz _ _ _ _ _ _ rfl (by first | rfl | (simp [dR]; done) | (simp [dR]; rfl)) rfl rfl (by first | rfl | (simp; done) | (simp; omega)) (by first | omega | (simp; omega) | (simp; done)))⟩, ⟨0, _, (by first | decide | simp), rfl, Rto.dat _ _ _ rfl rfl⟩, trivial⟩) rfl ?_ (hbR_box rfl)
    rfl
  · try simp only [List.length_map, decide_eq_true_eq, decide_eq_false_iff_not, Bool.not_eq_true', Bool.not_eq_false', Bool.not_eq_true, Bool.not_eq_false] at h12
    simp at h12

set_option maxRecDepth 100000 in
set_option maxHeartbeats 1600000 in
theorem mut_no {bs : List Int} (hb : Bytes bs) {p : Nat} (hp : p ≤ 100000000) {l0 : Lp} {rest : List Lp} (hs : smN (l0 :: rest)) (hk : pickV bs p 40 ≠ 0 ∧ pickV bs p 40 ≠ 1 ∧ pickV bs p 40 ≠ 2 ∧ pickV bs p 40 ≠ 3 ∧ pickV bs p 40 ≠ 4) : Fn Try.prog 46 (hbR bs p) [vR, vD (dLs (l0 :: rest))] (.o (vD (dLs (l0 :: rest)))) (hbR bs (p + 1)) := by
  have hs0 := hs
  obtain ⟨hs1, hs2⟩ := hs
  simp only [List.length_append, List.length_cons, List.length_nil] at hs1
  refine Fn.of_code Try.func46 rfl rfl (hbR_HB _ _) rfl rfl (hbR_HB _ _) rfl (hbR_num _ _ _) ?_
  refine ACode.seq ?_
  refine ACode.region ?_
  refine AOps.cons (St1.assign rfl rfl rfl rfl rfl) ?_
  refine AOps.nil ?_
  refine ks_n ?_
  refine ACode.seq ?_
  refine ACode.region ?_
  refine AOps.cons (St1.move rfl rfl rfl rfl rfl) ?_
  refine AOps.cons (St1.callO (xs := [.tmp 7]) [(100, 108)] rfl rfl rfl rfl rfl rfl (by kernel_rfl) rfl (l2Copy_own hs0) rfl trivial rfl flatS.nil (flatS.nil.cons rfl) HB.nil.data rfl rfl outS_one) ?_
  refine AOps.cons (St1.assign rfl rfl rfl rfl rfl) ?_
  refine AOps.nil ?_
  refine ks_n ?_
  refine ACode.seq ?_
  refine ACode.region ?_
  refine AOps.cons (St1.move rfl rfl rfl rfl rfl) ?_
  refine AOps.cons (St1.lenB (e := 67) (m := 2) (by' := 48) rfl rfl rfl rfl rfl (by kernel_rfl) rfl rfl) ?_
  refine AOps.cons (St1.assign rfl rfl rfl rfl rfl) ?_
  refine AOps.nil ?_
  refine ks_n ?_
  refine ACode.seq ?_
  refine ACode.seq ?_
  refine ACode.region ?_
  refine AOps.cons (St1.move rfl rfl rfl rfl rfl) ?_
  refine AOps.cons (St1.eql rfl rfl rfl rfl rfl rfl) ?_
  refine AOps.nil ?_
  refine ks_n ?_
  refine ACode.condT rfl (fun h12 => ?_) (fun h12 => ?_)
  · try simp only [List.length_map, decide_eq_true_eq, decide_eq_false_iff_not, Bool.not_eq_true', Bool.not_eq_false', Bool.not_eq_true, Bool.not_eq_false] at h12
    first | omega | (simp only [List.length_append, List.length_cons, List.length_nil] at h12; omega)
  · try simp only [List.length_map, decide_eq_true_eq, decide_eq_false_iff_not, Bool.not_eq_true', Bool.not_eq_false', Bool.not_eq_true, Bool.not_eq_false] at h12
    refine ACode.skip ?_
    refine ks_n ?_
    refine ACode.seq ?_
    refine ACode.seq ?_
    refine ACode.region ?_
    refine AOps.cons (St1.move rfl rfl rfl rfl rfl) ?_
    refine AOps.cons (St1.callO (xs := [.tmp 14, .const (.int .i64 (40))]) [(0, 0)] rfl rfl rfl rfl rfl rfl (by kernel_rfl) rfl (pick_fn hb (by omega) 40) rfl ⟨rfl, trivial⟩ rfl (hbR_flat _ _) (hbR_flat _ _) (hbR_HB _ _) rfl rfl outS_one) ?_
    refine AOps.nil ?_
    refine ks_n ?_
    refine ACode.block ?_
    refine ACode.seq ?_
    refine ACode.region ?_
    refine AOps.cons (St1.eql rfl rfl rfl rfl rfl rfl) ?_
    refine AOps.cons (St1.assign rfl rfl rfl rfl rfl) ?_
    refine AOps.nil ?_
    refine ks_n ?_
    refine ACode.condT rfl (fun h16 => ?_) (fun h16 => ?_)
    · try simp only [List.length_map, decide_eq_true_eq, decide_eq_false_iff_not, Bool.not_eq_true', Bool.not_eq_false', Bool.not_eq_true, Bool.not_eq_false] at h16
      omega
    · try simp only [List.length_map, decide_eq_true_eq, decide_eq_false_iff_not, Bool.not_eq_true', Bool.not_eq_false', Bool.not_eq_true, Bool.not_eq_false] at h16
      refine ACode.seq ?_
      refine ACode.region ?_
      refine AOps.cons (St1.eql rfl rfl rfl rfl rfl rfl) ?_
      refine AOps.cons (St1.assign rfl rfl rfl rfl rfl) ?_
      refine AOps.nil ?_
      refine ks_n ?_
      refine ACode.condT rfl (fun h30 => ?_) (fun h30 => ?_)
      · try simp only [List.length_map, decide_eq_true_eq, decide_eq_false_iff_not, Bool.not_eq_true', Bool.not_eq_false', Bool.not_eq_true, Bool.not_eq_false] at h30
        omega
      · try simp only [List.length_map, decide_eq_true_eq, decide_eq_false_iff_not, Bool.not_eq_true', Bool.not_eq_false', Bool.not_eq_true, Bool.not_eq_false] at h30
        refine ACode.seq ?_
        refine ACode.region ?_
        refine AOps.cons (St1.eql rfl rfl rfl rfl rfl rfl) ?_
        refine AOps.cons (St1.assign rfl rfl rfl rfl rfl) ?_
        refine AOps.nil ?_
        refine ks_n ?_
        refine ACode.condT rfl (fun h37 => ?_) (fun h37 => ?_)
        · try simp only [List.length_map, decide_eq_true_eq, decide_eq_false_iff_not, Bool.not_eq_true', Bool.not_eq_false', Bool.not_eq_true, Bool.not_eq_false] at h37
          omega
        · try simp only [List.length_map, decide_eq_true_eq, decide_eq_false_iff_not, Bool.not_eq_true', Bool.not_eq_false', Bool.not_eq_true, Bool.not_eq_false] at h37
          refine ACode.seq ?_
          refine ACode.region ?_
          refine AOps.cons (St1.eql rfl rfl rfl rfl rfl rfl) ?_
          refine AOps.cons (St1.assign rfl rfl rfl rfl rfl) ?_
          refine AOps.nil ?_
          refine ks_n ?_
          refine ACode.condT rfl (fun h54 => ?_) (fun h54 => ?_)
          · try simp only [List.length_map, decide_eq_true_eq, decide_eq_false_iff_not, Bool.not_eq_true', Bool.not_eq_false', Bool.not_eq_true, Bool.not_eq_false] at h54
            omega
          · try simp only [List.length_map, decide_eq_true_eq, decide_eq_false_iff_not, Bool.not_eq_true', Bool.not_eq_false', Bool.not_eq_true, Bool.not_eq_false] at h54
            refine ACode.seq ?_
            refine ACode.region ?_
            refine AOps.cons (St1.eql rfl rfl rfl rfl rfl rfl) ?_
            refine AOps.cons (St1.assign rfl rfl rfl rfl rfl) ?_
            refine AOps.nil ?_
            refine ks_n ?_
            refine ACode.condT rfl (fun h61 => ?_) (fun h61 => ?_)
            · try simp only [List.length_map, decide_eq_true_eq, decide_eq_false_iff_not, Bool.not_eq_true', Bool.not_eq_false', Bool.not_eq_true, Bool.not_eq_false] at h61
              omega
            · try simp only [List.length_map, decide_eq_true_eq, decide_eq_false_iff_not, Bool.not_eq_true', Bool.not_eq_false', Bool.not_eq_true, Bool.not_eq_false] at h61
              refine ACode.skip ?_
              refine kb_n ?_
              refine ks_n ?_
              refine ACode.seq ?_
              refine ACode.region ?_
              refine AOps.cons (St1.move rfl rfl rfl rfl rfl) ?_
              refine AOps.cons (St1.assign rfl rfl rfl rfl rfl) ?_
              refine AOps.nil ?_
              refine ks_n ?_
              refine ACode.ret ?_
              refine kf_wret [(.t 4, .v (.o (vD (dLs (l0 :: rest))))), (.b 0, .b 105 2 (dR ([rRd bs (p + 1)]))), (.u 0, .u)] (Wk.keep [(0, 0)] rfl rfl ⟨⟨_, rfl, Vto.c (.frz _ _ _ _ _ _ rfl (by first | rfl | (simp [dR]; done) | (simp [dR]; rfl)) rfl rfl (by first | rfl | (simp; done) | (simp; omega)) (by first | omega | (simp; omega) | (simp; done)))⟩, ⟨0, _, (by first | decide | simp), rfl, Rto.dat _ _ _ rfl rfl⟩, trivial⟩) rfl ?_ (hbR_box rfl)
              rfl

set_option maxRecDepth 100000 in
set_option maxHeartbeats 1600000 in
theorem mut_1 {bs : List Int} (hb : Bytes bs) {p : Nat} (hp : p ≤ 100000000) {init : List Lp} {l0 : Lp} (hs : smN (init ++ [l0])) (hk : pickV bs p 40 = 1) : Fn Try.prog 46 (hbR bs p) [vR, vD (dLs (init ++ [l0]))] (.o (vD (dLs (init ++ [(l0.1, [])])))) (hbR bs (p + 1)) := by
  have hs0 := hs
  obtain ⟨hs1, hs2⟩ := hs
  simp only [List.length_append, List.length_cons, List.length_nil] at hs1
  refine Fn.of_code Try.func46 rfl rfl (hbR_HB _ _) rfl rfl (hbR_HB _ _) rfl (hbR_num _ _ _) ?_
  refine ACode.seq ?_
  refine ACode.region ?_
  refine AOps.cons (St1.assign rfl rfl rfl rfl rfl) ?_
  refine AOps.nil ?_
  refine ks_n ?_
  refine ACode.seq ?_
  refine ACode.region ?_
  refine AOps.cons (St1.move rfl rfl rfl rfl rfl) ?_
  refine AOps.cons (St1.callO (xs := [.tmp 7]) [(100, 108)] rfl rfl rfl rfl rfl rfl (by kernel_rfl) rfl (l2Copy_own hs0) rfl trivial rfl flatS.nil (flatS.nil.cons rfl) HB.nil.data rfl rfl outS_one) ?_
  refine AOps.cons (St1.assign rfl rfl rfl rfl rfl) ?_
  refine AOps.nil ?_
  refine ks_n ?_
  refine ACode.seq ?_
  refine ACode.region ?_
  refine AOps.cons (St1.move rfl rfl rfl rfl rfl) ?_
  refine AOps.cons (St1.lenB (e := 67) (m := 2) (by' := 48) rfl rfl rfl rfl rfl (by kernel_rfl) rfl rfl) ?_
  refine AOps.cons (St1.assign rfl rfl rfl rfl rfl) ?_
  refine AOps.nil ?_
  refine ks_n ?_
  refine ACode.seq ?_
  refine ACode.seq ?_
  refine ACode.region ?_
  refine AOps.cons (St1.move rfl rfl rfl rfl rfl) ?_
  refine AOps.cons (St1.eql rfl rfl rfl rfl rfl rfl) ?_
  refine AOps.nil ?_
  refine ks_n ?_
  refine ACode.condT rfl (fun h12 => ?_) (fun h12 => ?_)
  · try simp only [List.length_map, decide_eq_true_eq, decide_eq_false_iff_not, Bool.not_eq_true', Bool.not_eq_false', Bool.not_eq_true, Bool.not_eq_false] at h12
    first | omega | (simp only [List.length_append, List.length_cons, List.length_nil] at h12; omega)
  · try simp only [List.length_map, decide_eq_true_eq, decide_eq_false_iff_not, Bool.not_eq_true', Bool.not_eq_false', Bool.not_eq_true, Bool.not_eq_false] at h12
    refine ACode.skip ?_
    refine ks_n ?_
    refine ACode.seq ?_
    refine ACode.seq ?_
    refine ACode.region ?_
    refine AOps.cons (St1.move rfl rfl rfl rfl rfl) ?_
    refine AOps.cons (St1.callO (xs := [.tmp 14, .const (.int .i64 (40))]) [(0, 0)] rfl rfl rfl rfl rfl rfl (by kernel_rfl) rfl (pick_fn hb (by omega) 40) rfl ⟨rfl, trivial⟩ rfl (hbR_flat _ _) (hbR_flat _ _) (hbR_HB _ _) rfl rfl outS_one) ?_
    refine AOps.nil ?_
    refine ks_n ?_
    refine ACode.block ?_
    refine ACode.seq ?_
    refine ACode.region ?_
    refine AOps.cons (St1.eql rfl rfl rfl rfl rfl rfl) ?_
    refine AOps.cons (St1.assign rfl rfl rfl rfl rfl) ?_
    refine AOps.nil ?_
    refine ks_n ?_
    refine ACode.condT rfl (fun h16 => ?_) (fun h16 => ?_)
    · try simp only [List.length_map, decide_eq_true_eq, decide_eq_false_iff_not, Bool.not_eq_true', Bool.not_eq_false', Bool.not_eq_true, Bool.not_eq_false] at h16
      omega
    · try simp only [List.length_map, decide_eq_true_eq, decide_eq_false_iff_not, Bool.not_eq_true', Bool.not_eq_false', Bool.not_eq_true, Bool.not_eq_false] at h16
      refine ACode.seq ?_
      refine ACode.region ?_
      refine AOps.cons (St1.eql rfl rfl rfl rfl rfl rfl) ?_
      refine AOps.cons (St1.assign rfl rfl rfl rfl rfl) ?_
      refine AOps.nil ?_
      refine ks_n ?_
      refine ACode.condT rfl (fun h30 => ?_) (fun h30 => ?_)
      · try simp only [List.length_map, decide_eq_true_eq, decide_eq_false_iff_not, Bool.not_eq_true', Bool.not_eq_false', Bool.not_eq_true, Bool.not_eq_false] at h30
        refine ACode.region ?_
        refine AOps.cons (St1.move rfl rfl rfl rfl rfl) ?_
        refine AOps.cons (St1.move rfl rfl rfl rfl rfl) ?_
        refine AOps.cons (St1.sub rfl rfl rfl rfl rfl rfl (by simp; omega)) ?_
        refine AOps.cons (St1.indexB (e := 67) (sz := 2) (by' := 48) (i := init.length) rfl rfl rfl rfl (by kernel_rfl) rfl rfl rfl rfl (by first | (simp; done) | (simp; omega) | omega) (by first | (simp; done) | omega)) ?_
        refine AOps.cons (St1.fieldB (off := 1) (m := 0) (r := false) rfl rfl rfl rfl (by kernel_rfl) rfl rfl) ?_
        refine AOps.cons (St1.store (m := 1) (rw' := false) rfl rfl rfl (by kernel_rfl) rfl rfl rfl (dR_at (map_at (row_lastL _ _))) rfl rfl rfl) ?_
        refine AOps.nil ?_
        refine kb_n ?_
        refine ks_n ?_
        refine ACode.seq ?_
        refine ACode.wk (σ' := [(.t 0, .v (.o (.c (.box 0 2 0 0)))), (.t 5, .v (.o (.c (.own 870 2 (init.length + 1))))), (.b 0, .b 105 2 (dR ([rRd bs (p + 1)]))), (.u 0, .u), (.b 870, .b 67 2 (dR (init.map rL) ++ dR [rL (l0.1, [])])), (.u 870, .u)]) (Wk.keep [(0, 0), (870, 108)] rfl rfl ⟨⟨_, rfl, Vto.c (.box _ _ _ _ _ _ (by first | decide | simp) rfl)⟩, ⟨_, rfl, Vto.c (.own _ _ _ _ _ (by first | decide | simp) (by first | rfl | exact congrArg (fun z => V.o (nat1 z)) (by omega) | (simp; done) | omega))⟩, ⟨0, _, (by first | decide | simp), rfl, Rto.dat _ _ _ rfl rfl⟩, ⟨108, _, (by first | decide | simp), rfl, .eq (set_lastL _ _ _) rfl (.app (.dat _ _ (init.map rL) rfl rfl) (.cons (.cons (.d _ _ rfl) (.cons (.nil 2) .nil)) .nil))⟩, trivial⟩) ?_
        refine ACode.region ?_
        refine AOps.cons (St1.move rfl rfl rfl rfl rfl) ?_
        refine AOps.cons (St1.assign rfl rfl rfl rfl rfl) ?_
        refine AOps.nil ?_
        refine ks_n ?_
        refine ACode.ret ?_
        refine kf_wret [(.t 4, .v (.o (vD (dLs (init ++ [(l0.1, [])]))))), (.b 0, .b 105 2 (dR ([rRd bs (p + 1)]))), (.u 0, .u)] (Wk.keep [(0, 0)] rfl rfl ⟨⟨_, rfl, Vto.c (.frz _ _ _ _ _ _ rfl (by first | rfl | (simp [dR]; done) | (simp [dR]; rfl)) rfl rfl (by first | rfl | (simp; done) | (simp; omega)) (by first | omega | (simp; omega) | (simp; done)))⟩, ⟨0, _, (by first | decide | simp), rfl, Rto.dat _ _ _ rfl rfl⟩, trivial⟩) rfl ?_ (hbR_box rfl)
        rfl
      · try simp only [List.length_map, decide_eq_true_eq, decide_eq_false_iff_not, Bool.not_eq_true', Bool.not_eq_false', Bool.not_eq_true, Bool.not_eq_false] at h30
        omega

set_option maxRecDepth 100000 in
set_option maxHeartbeats 1600000 in
theorem mut_3 {bs : List Int} (hb : Bytes bs) {p : Nat} (hp : p ≤ 100000000) {l0 : Lp} {rest : List Lp} (hs : smN (l0 :: rest)) (hk : pickV bs p 40 = 3) : Fn Try.prog 46 (hbR bs p) [vR, vD (dLs (l0 :: rest))] (.o (vD (dLs ((l0.1, [cA 99]) :: rest)))) (hbR bs (p + 1)) := by
  have hs0 := hs
  obtain ⟨hs1, hs2⟩ := hs
  simp only [List.length_append, List.length_cons, List.length_nil] at hs1
  refine Fn.of_code Try.func46 rfl rfl (hbR_HB _ _) rfl rfl (hbR_HB _ _) rfl (hbR_num _ _ _) ?_
  refine ACode.seq ?_
  refine ACode.region ?_
  refine AOps.cons (St1.assign rfl rfl rfl rfl rfl) ?_
  refine AOps.nil ?_
  refine ks_n ?_
  refine ACode.seq ?_
  refine ACode.region ?_
  refine AOps.cons (St1.move rfl rfl rfl rfl rfl) ?_
  refine AOps.cons (St1.callO (xs := [.tmp 7]) [(100, 108)] rfl rfl rfl rfl rfl rfl (by kernel_rfl) rfl (l2Copy_own hs0) rfl trivial rfl flatS.nil (flatS.nil.cons rfl) HB.nil.data rfl rfl outS_one) ?_
  refine AOps.cons (St1.assign rfl rfl rfl rfl rfl) ?_
  refine AOps.nil ?_
  refine ks_n ?_
  refine ACode.seq ?_
  refine ACode.region ?_
  refine AOps.cons (St1.move rfl rfl rfl rfl rfl) ?_
  refine AOps.cons (St1.lenB (e := 67) (m := 2) (by' := 48) rfl rfl rfl rfl rfl (by kernel_rfl) rfl rfl) ?_
  refine AOps.cons (St1.assign rfl rfl rfl rfl rfl) ?_
  refine AOps.nil ?_
  refine ks_n ?_
  refine ACode.seq ?_
  refine ACode.seq ?_
  refine ACode.region ?_
  refine AOps.cons (St1.move rfl rfl rfl rfl rfl) ?_
  refine AOps.cons (St1.eql rfl rfl rfl rfl rfl rfl) ?_
  refine AOps.nil ?_
  refine ks_n ?_
  refine ACode.condT rfl (fun h12 => ?_) (fun h12 => ?_)
  · try simp only [List.length_map, decide_eq_true_eq, decide_eq_false_iff_not, Bool.not_eq_true', Bool.not_eq_false', Bool.not_eq_true, Bool.not_eq_false] at h12
    first | omega | (simp only [List.length_append, List.length_cons, List.length_nil] at h12; omega)
  · try simp only [List.length_map, decide_eq_true_eq, decide_eq_false_iff_not, Bool.not_eq_true', Bool.not_eq_false', Bool.not_eq_true, Bool.not_eq_false] at h12
    refine ACode.skip ?_
    refine ks_n ?_
    refine ACode.seq ?_
    refine ACode.seq ?_
    refine ACode.region ?_
    refine AOps.cons (St1.move rfl rfl rfl rfl rfl) ?_
    refine AOps.cons (St1.callO (xs := [.tmp 14, .const (.int .i64 (40))]) [(0, 0)] rfl rfl rfl rfl rfl rfl (by kernel_rfl) rfl (pick_fn hb (by omega) 40) rfl ⟨rfl, trivial⟩ rfl (hbR_flat _ _) (hbR_flat _ _) (hbR_HB _ _) rfl rfl outS_one) ?_
    refine AOps.nil ?_
    refine ks_n ?_
    refine ACode.block ?_
    refine ACode.seq ?_
    refine ACode.region ?_
    refine AOps.cons (St1.eql rfl rfl rfl rfl rfl rfl) ?_
    refine AOps.cons (St1.assign rfl rfl rfl rfl rfl) ?_
    refine AOps.nil ?_
    refine ks_n ?_
    refine ACode.condT rfl (fun h16 => ?_) (fun h16 => ?_)
    · try simp only [List.length_map, decide_eq_true_eq, decide_eq_false_iff_not, Bool.not_eq_true', Bool.not_eq_false', Bool.not_eq_true, Bool.not_eq_false] at h16
      omega
    · try simp only [List.length_map, decide_eq_true_eq, decide_eq_false_iff_not, Bool.not_eq_true', Bool.not_eq_false', Bool.not_eq_true, Bool.not_eq_false] at h16
      refine ACode.seq ?_
      refine ACode.region ?_
      refine AOps.cons (St1.eql rfl rfl rfl rfl rfl rfl) ?_
      refine AOps.cons (St1.assign rfl rfl rfl rfl rfl) ?_
      refine AOps.nil ?_
      refine ks_n ?_
      refine ACode.condT rfl (fun h30 => ?_) (fun h30 => ?_)
      · try simp only [List.length_map, decide_eq_true_eq, decide_eq_false_iff_not, Bool.not_eq_true', Bool.not_eq_false', Bool.not_eq_true, Bool.not_eq_false] at h30
        omega
      · try simp only [List.length_map, decide_eq_true_eq, decide_eq_false_iff_not, Bool.not_eq_true', Bool.not_eq_false', Bool.not_eq_true, Bool.not_eq_false] at h30
        refine ACode.seq ?_
        refine ACode.region ?_
        refine AOps.cons (St1.eql rfl rfl rfl rfl rfl rfl) ?_
        refine AOps.cons (St1.assign rfl rfl rfl rfl rfl) ?_
        refine AOps.nil ?_
        refine ks_n ?_
        refine ACode.condT rfl (fun h37 => ?_) (fun h37 => ?_)
        · try simp only [List.length_map, decide_eq_true_eq, decide_eq_false_iff_not, Bool.not_eq_true', Bool.not_eq_false', Bool.not_eq_true, Bool.not_eq_false] at h37
          omega
        · try simp only [List.length_map, decide_eq_true_eq, decide_eq_false_iff_not, Bool.not_eq_true', Bool.not_eq_false', Bool.not_eq_true, Bool.not_eq_false] at h37
          refine ACode.seq ?_
          refine ACode.region ?_
          refine AOps.cons (St1.eql rfl rfl rfl rfl rfl rfl) ?_
          refine AOps.cons (St1.assign rfl rfl rfl rfl rfl) ?_
          refine AOps.nil ?_
          refine ks_n ?_
          refine ACode.condT rfl (fun h54 => ?_) (fun h54 => ?_)
          · try simp only [List.length_map, decide_eq_true_eq, decide_eq_false_iff_not, Bool.not_eq_true', Bool.not_eq_false', Bool.not_eq_true, Bool.not_eq_false] at h54
            refine ACode.region ?_
            refine AOps.cons (St1.move rfl rfl rfl rfl rfl) ?_
            refine AOps.cons (St1.callP (xs := [.const (.int .i64 (99))]) rfl rfl rfl rfl rfl rfl (by kernel_rfl) rfl (l1Const_fn 99) rfl) ?_
            refine AOps.cons (St1.lit (e := 51) (sz := 1) (m := 0) (xs := [.tmp 57]) rfl rfl rfl rfl rfl (by kernel_rfl) rfl rfl rfl rfl) ?_
            refine AOps.cons (St1.indexB (e := 67) (sz := 2) (by' := 48) (i := 0) rfl rfl rfl rfl (by kernel_rfl) rfl rfl rfl rfl rfl (by simp)) ?_
            refine AOps.cons (St1.fieldB (off := 1) (m := 0) (r := false) rfl rfl rfl rfl (by kernel_rfl) rfl rfl) ?_
            refine AOps.cons (St1.store (m := 1) (rw' := false) rfl rfl rfl (by kernel_rfl) rfl rfl rfl rfl rfl rfl rfl) ?_
            refine AOps.nil ?_
            refine kb_n ?_
            refine ks_n ?_
            refine ACode.seq ?_
            refine ACode.wk (σ' := [(.t 0, .v (.o (.c (.box 0 2 0 0)))), (.t 5, .v (.o (.c (.own 870 2 (rest.length + 1))))), (.b 0, .b 105 2 (dR ([rRd bs (p + 1)]))), (.u 0, .u), (.b 870, .b 67 2 (dR (((l0.1, [cA 99]) :: rest).map rL))), (.u 870, .u)]) (Wk.keep [(0, 0), (870, 108)] rfl rfl ⟨⟨_, rfl, Vto.c (.box _ _ _ _ _ _ (by first | decide | simp) rfl)⟩, ⟨_, rfl, Vto.c (.own _ _ _ _ _ (by first | decide | simp) (by first | rfl | exact congrArg (fun z => V.o (nat1 z)) (by omega) | (simp; done) | omega))⟩, ⟨0, _, (by first | decide | simp), rfl, Rto.dat _ _ _ rfl rfl⟩, ⟨108, _, (by first | decide | simp), rfl, Rto.dat _ _ _ rfl rfl⟩, trivial⟩) ?_
            refine ACode.region ?_
            refine AOps.cons (St1.move rfl rfl rfl rfl rfl) ?_
            refine AOps.cons (St1.assign rfl rfl rfl rfl rfl) ?_
            refine AOps.nil ?_
            refine ks_n ?_
            refine ACode.ret ?_
            refine kf_wret [(.t 4, .v (.o (vD (dLs ((l0.1, [cA 99]) :: rest))))), (.b 0, .b 105 2 (dR ([rRd bs (p + 1)]))), (.u 0, .u)] (Wk.keep [(0, 0)] rfl rfl ⟨⟨_, rfl, Vto.c (.frz _ _ _ _ _ _ rfl (by first | rfl | (simp [dR]; done) | (simp [dR]; rfl)) rfl rfl (by first | rfl | (simp; done) | (simp; omega)) (by first | omega | (simp; omega) | (simp; done)))⟩, ⟨0, _, (by first | decide | simp), rfl, Rto.dat _ _ _ rfl rfl⟩, trivial⟩) rfl ?_ (hbR_box rfl)
            rfl
          · try simp only [List.length_map, decide_eq_true_eq, decide_eq_false_iff_not, Bool.not_eq_true', Bool.not_eq_false', Bool.not_eq_true, Bool.not_eq_false] at h54
            omega

set_option maxRecDepth 100000 in
set_option maxHeartbeats 1600000 in
theorem mut_4 {bs : List Int} (hb : Bytes bs) {p : Nat} (hp : p ≤ 100000000) {l0 : Lp} {rest : List Lp} (hs : smN (l0 :: rest)) (hk : pickV bs p 40 = 4) : Fn Try.prog 46 (hbR bs p) [vR, vD (dLs (l0 :: rest))] (.o (vD (dLs (l0 :: (rest ++ List.replicate (4 - rest.length) l0))))) (hbR bs (p + 1)) := by
  have hs0 := hs
  obtain ⟨hs1, hs2⟩ := hs
  simp only [List.length_append, List.length_cons, List.length_nil] at hs1
  refine Fn.of_code Try.func46 rfl rfl (hbR_HB _ _) rfl rfl (hbR_HB _ _) rfl (hbR_num _ _ _) ?_
  refine ACode.seq ?_
  refine ACode.region ?_
  refine AOps.cons (St1.assign rfl rfl rfl rfl rfl) ?_
  refine AOps.nil ?_
  refine ks_n ?_
  refine ACode.seq ?_
  refine ACode.region ?_
  refine AOps.cons (St1.move rfl rfl rfl rfl rfl) ?_
  refine AOps.cons (St1.callO (xs := [.tmp 7]) [(100, 108)] rfl rfl rfl rfl rfl rfl (by kernel_rfl) rfl (l2Copy_own hs0) rfl trivial rfl flatS.nil (flatS.nil.cons rfl) HB.nil.data rfl rfl outS_one) ?_
  refine AOps.cons (St1.assign rfl rfl rfl rfl rfl) ?_
  refine AOps.nil ?_
  refine ks_n ?_
  refine ACode.seq ?_
  refine ACode.region ?_
  refine AOps.cons (St1.move rfl rfl rfl rfl rfl) ?_
  refine AOps.cons (St1.lenB (e := 67) (m := 2) (by' := 48) rfl rfl rfl rfl rfl (by kernel_rfl) rfl rfl) ?_
  refine AOps.cons (St1.assign rfl rfl rfl rfl rfl) ?_
  refine AOps.nil ?_
  refine ks_n ?_
  refine ACode.seq ?_
  refine ACode.seq ?_
  refine ACode.region ?_
  refine AOps.cons (St1.move rfl rfl rfl rfl rfl) ?_
  refine AOps.cons (St1.eql rfl rfl rfl rfl rfl rfl) ?_
  refine AOps.nil ?_
  refine ks_n ?_
  refine ACode.condT rfl (fun h12 => ?_) (fun h12 => ?_)
  · try simp only [List.length_map, decide_eq_true_eq, decide_eq_false_iff_not, Bool.not_eq_true', Bool.not_eq_false', Bool.not_eq_true, Bool.not_eq_false] at h12
    first | omega | (simp only [List.length_append, List.length_cons, List.length_nil] at h12; omega)
  · try simp only [List.length_map, decide_eq_true_eq, decide_eq_false_iff_not, Bool.not_eq_true', Bool.not_eq_false', Bool.not_eq_true, Bool.not_eq_false] at h12
    refine ACode.skip ?_
    refine ks_n ?_
    refine ACode.seq ?_
    refine ACode.seq ?_
    refine ACode.region ?_
    refine AOps.cons (St1.move rfl rfl rfl rfl rfl) ?_
    refine AOps.cons (St1.callO (xs := [.tmp 14, .const (.int .i64 (40))]) [(0, 0)] rfl rfl rfl rfl rfl rfl (by kernel_rfl) rfl (pick_fn hb (by omega) 40) rfl ⟨rfl, trivial⟩ rfl (hbR_flat _ _) (hbR_flat _ _) (hbR_HB _ _) rfl rfl outS_one) ?_
    refine AOps.nil ?_
    refine ks_n ?_
    refine ACode.block ?_
    refine ACode.seq ?_
    refine ACode.region ?_
    refine AOps.cons (St1.eql rfl rfl rfl rfl rfl rfl) ?_
    refine AOps.cons (St1.assign rfl rfl rfl rfl rfl) ?_
    refine AOps.nil ?_
    refine ks_n ?_
    refine ACode.condT rfl (fun h16 => ?_) (fun h16 => ?_)
    · try simp only [List.length_map, decide_eq_true_eq, decide_eq_false_iff_not, Bool.not_eq_true', Bool.not_eq_false', Bool.not_eq_true, Bool.not_eq_false] at h16
      omega
    · try simp only [List.length_map, decide_eq_true_eq, decide_eq_false_iff_not, Bool.not_eq_true', Bool.not_eq_false', Bool.not_eq_true, Bool.not_eq_false] at h16
      refine ACode.seq ?_
      refine ACode.region ?_
      refine AOps.cons (St1.eql rfl rfl rfl rfl rfl rfl) ?_
      refine AOps.cons (St1.assign rfl rfl rfl rfl rfl) ?_
      refine AOps.nil ?_
      refine ks_n ?_
      refine ACode.condT rfl (fun h30 => ?_) (fun h30 => ?_)
      · try simp only [List.length_map, decide_eq_true_eq, decide_eq_false_iff_not, Bool.not_eq_true', Bool.not_eq_false', Bool.not_eq_true, Bool.not_eq_false] at h30
        omega
      · try simp only [List.length_map, decide_eq_true_eq, decide_eq_false_iff_not, Bool.not_eq_true', Bool.not_eq_false', Bool.not_eq_true, Bool.not_eq_false] at h30
        refine ACode.seq ?_
        refine ACode.region ?_
        refine AOps.cons (St1.eql rfl rfl rfl rfl rfl rfl) ?_
        refine AOps.cons (St1.assign rfl rfl rfl rfl rfl) ?_
        refine AOps.nil ?_
        refine ks_n ?_
        refine ACode.condT rfl (fun h37 => ?_) (fun h37 => ?_)
        · try simp only [List.length_map, decide_eq_true_eq, decide_eq_false_iff_not, Bool.not_eq_true', Bool.not_eq_false', Bool.not_eq_true, Bool.not_eq_false] at h37
          omega
        · try simp only [List.length_map, decide_eq_true_eq, decide_eq_false_iff_not, Bool.not_eq_true', Bool.not_eq_false', Bool.not_eq_true, Bool.not_eq_false] at h37
          refine ACode.seq ?_
          refine ACode.region ?_
          refine AOps.cons (St1.eql rfl rfl rfl rfl rfl rfl) ?_
          refine AOps.cons (St1.assign rfl rfl rfl rfl rfl) ?_
          refine AOps.nil ?_
          refine ks_n ?_
          refine ACode.condT rfl (fun h54 => ?_) (fun h54 => ?_)
          · try simp only [List.length_map, decide_eq_true_eq, decide_eq_false_iff_not, Bool.not_eq_true', Bool.not_eq_false', Bool.not_eq_true, Bool.not_eq_false] at h54
            omega
          · try simp only [List.length_map, decide_eq_true_eq, decide_eq_false_iff_not, Bool.not_eq_true', Bool.not_eq_false', Bool.not_eq_true, Bool.not_eq_false] at h54
            refine ACode.seq ?_
            refine ACode.region ?_
            refine AOps.cons (St1.eql rfl rfl rfl rfl rfl rfl) ?_
            refine AOps.cons (St1.assign rfl rfl rfl rfl rfl) ?_
            refine AOps.nil ?_
            refine ks_n ?_
            refine ACode.condT rfl (fun h61 => ?_) (fun h61 => ?_)
            · try simp only [List.length_map, decide_eq_true_eq, decide_eq_false_iff_not, Bool.not_eq_true', Bool.not_eq_false', Bool.not_eq_true, Bool.not_eq_false] at h61
              refine ACode.block ?_
              refine ACode.wk (σ' := [(.t 0, .v (.o (.c (.box 0 2 0 0)))), (.t 5, .v (.o (.c (.own 110 2 (rest.length + 1 + 0))))), (.b 0, .b 105 2 (dR ([rRd bs (p + 1)]))), (.u 0, .u), (.b 110, .b 67 2 (dR ((l0 :: (rest ++ List.replicate 0 l0)).map rL))), (.u 110, .u)]) (Wk.keep [(0, 0), (110, 108)] rfl rfl ⟨⟨_, rfl, Vto.c (.box _ _ _ _ _ _ (by first | decide | simp) rfl)⟩, ⟨_, rfl, Vto.c (.own _ _ _ _ _ (by first | decide | simp) (by first | rfl | exact congrArg (fun z => V.o (nat1 z)) (by omega) | (simp; done) | omega))⟩, ⟨0, _, (by first | decide | simp), rfl, Rto.dat _ _ _ rfl rfl⟩, ⟨108, _, (by first | decide | simp), rfl, Rto.dat _ _ _ (by first | (simp [dR]; done) | (simp only [List.replicate_succ']; simp [dR]; done) | (simp [dR, List.replicate_succ']; rfl)) rfl⟩, trivial⟩) ?_
              refine ACode.loop (fun m σ => (∃ j : Nat, m = 5 - (rest.length + 1 + j) ∧ (j ≤ 4 - rest.length) ∧ σ = [(.t 0, .v (.o (.c (.box 0 2 0 0)))), (.t 5, .v (.o (.c (.own 110 2 (rest.length + 1 + j))))), (.b 0, .b 105 2 (dR ([rRd bs (p + 1)]))), (.u 0, .u), (.b 110, .b 67 2 (dR ((l0 :: (rest ++ List.replicate j l0)).map rL))), (.u 110, .u)])) ((5 - (rest.length + 1 + 0))) ⟨0, rfl, by omega, rfl⟩ ?_
              rintro m σ ⟨j, hm0, hj, rfl⟩
              refine ACode.seq ?_
              refine ACode.seq ?_
              refine ACode.region ?_
              refine AOps.cons (St1.move rfl rfl rfl rfl rfl) ?_
              refine AOps.cons (St1.lenB (e := 67) (m := 2) (by' := 48) rfl rfl rfl rfl rfl (by kernel_rfl) rfl rfl) ?_
              refine AOps.cons (St1.leq rfl rfl rfl rfl rfl rfl) ?_
              refine AOps.nil ?_
              refine ks_n ?_
              refine ACode.condT rfl (fun h65 => ?_) (fun h65 => ?_)
              · try simp only [List.length_map, decide_eq_true_eq, decide_eq_false_iff_not, Bool.not_eq_true', Bool.not_eq_false', Bool.not_eq_true, Bool.not_eq_false] at h65
                refine ACode.skip ?_
                refine ks_n ?_
                refine ACode.block ?_
                refine ACode.region ?_
                refine AOps.cons (St1.move rfl rfl rfl rfl rfl) ?_
                refine AOps.cons (St1.move rfl rfl rfl rfl rfl) ?_
                refine AOps.cons (St1.indexB (e := 67) (sz := 2) (by' := 48) (i := 0) rfl rfl rfl rfl (by kernel_rfl) rfl rfl rfl rfl rfl (by omega)) ?_
                refine AOps.cons (St1.loadBN (m := 2) rfl rfl rfl rfl (by kernel_rfl) rfl rfl rfl rfl rfl) ?_
                refine AOps.cons (St1.lit (e := 67) (sz := 1) (m := 0) (xs := [.tmp 69]) rfl rfl rfl rfl rfl (by kernel_rfl) rfl rfl rfl rfl) ?_
                refine AOps.cons (St1.appB (k' := 171) (e := 67) (sz := 1) (by' := 48) rfl rfl rfl rfl rfl (by kernel_rfl) rfl rfl rfl rfl (by first | (simp [dR]; done) | (simp [dR]; omega)) (by first | (simp [dR]; done) | (simp [dR]; omega)) rfl rfl rfl) ?_
                refine AOps.cons (St1.assign rfl rfl rfl rfl rfl) ?_
                refine AOps.nil ?_
                refine kb_n ?_
                refine kl_n (σ2 := [(.t 0, .v (.o (.c (.box 0 2 0 0)))), (.t 5, .v (.o (.c (.own 110 2 (rest.length + 1 + (j + 1)))))), (.b 0, .b 105 2 (dR ([rRd bs (p + 1)]))), (.u 0, .u), (.b 110, .b 67 2 (dR ((l0 :: (rest ++ List.replicate (j + 1) l0)).map rL))), (.u 110, .u)]) ((5 - (rest.length + 1 + (j + 1)))) (by omega) (Wk.keep [(0, 0), (110, 171)] rfl rfl ⟨⟨_, rfl, Vto.c (.box _ _ _ _ _ _ (by first | decide | simp) rfl)⟩, ⟨_, rfl, Vto.c (.own _ _ _ _ _ (by first | decide | simp) (by first | rfl | exact congrArg (fun z => V.o (nat1 z)) (by omega) | (simp; done) | omega))⟩, ⟨0, _, (by first | decide | simp), rfl, Rto.dat _ _ _ rfl rfl⟩, ⟨171, _, (by first | decide | simp), rfl, Rto.dat _ _ _ (by first | (simp [dR]; done) | (simp only [List.replicate_succ']; simp [dR]; done) | (simp [dR, List.replicate_succ']; rfl)) rfl⟩, trivial⟩) ⟨j + 1, rfl, by omega, rfl⟩
              · try simp only [List.length_map, decide_eq_true_eq, decide_eq_false_iff_not, Bool.not_eq_true', Bool.not_eq_false', Bool.not_eq_true, Bool.not_eq_false] at h65
                obtain rfl : j = 4 - rest.length := by omega
                refine ACode.exit ?_
                refine ks_e ?_
                refine kl_e ?_
                refine kb_hit ?_
                refine kb_n ?_
                refine ks_n ?_
                refine ACode.seq ?_
                refine ACode.region ?_
                refine AOps.cons (St1.move rfl rfl rfl rfl rfl) ?_
                refine AOps.cons (St1.assign rfl rfl rfl rfl rfl) ?_
                refine AOps.nil ?_
                refine ks_n ?_
                refine ACode.ret ?_
                refine kf_wret [(.t 4, .v (.o (vD (dLs (l0 :: (rest ++ List.replicate (4 - rest.length) l0)))))), (.b 0, .b 105 2 (dR ([rRd bs (p + 1)]))), (.u 0, .u)] (Wk.keep [(0, 0)] rfl rfl ⟨⟨_, rfl, Vto.c (.frz _ _ _ _ _ _ rfl rfl rfl rfl (by simp; omega) (by first | omega | (simp; omega) | (simp; done)))⟩, ⟨0, _, (by first | decide | simp), rfl, Rto.dat _ _ _ rfl rfl⟩, trivial⟩) rfl ?_ (hbR_box rfl)
                rfl
            · try simp only [List.length_map, decide_eq_true_eq, decide_eq_false_iff_not, Bool.not_eq_true', Bool.not_eq_false', Bool.not_eq_true, Bool.not_eq_false] at h61
              omega

set_option maxRecDepth 100000 in
set_option maxHeartbeats 1600000 in
theorem mut_0 {bs : List Int} (hb : Bytes bs) {p : Nat} (hp : p ≤ 100000000) {l0 : Lp} {rest : List Lp} (hs : smN (l0 :: rest)) (h0 : l0.1 ≠ []) (hk : pickV bs p 40 = 0) : Fn Try.prog 46 (hbR bs p) [vR, vD (dLs (l0 :: rest))] (.o (vD (dLs ((l0.1 ++ [varA (pickV bs (p + 1) 2).toNat], l0.2) :: rest)))) (hbR bs (p + 1 + 1)) := by
  have hs0 := hs
  obtain ⟨hs1, hs2⟩ := hs
  simp only [List.length_append, List.length_cons, List.length_nil] at hs1
  refine Fn.of_code Try.func46 rfl rfl (hbR_HB _ _) rfl rfl (hbR_HB _ _) rfl (hbR_num _ _ _) ?_
  refine ACode.seq ?_
  refine ACode.region ?_
  refine AOps.cons (St1.assign rfl rfl rfl rfl rfl) ?_
  refine AOps.nil ?_
  refine ks_n ?_
  refine ACode.seq ?_
  refine ACode.region ?_
  refine AOps.cons (St1.move rfl rfl rfl rfl rfl) ?_
  refine AOps.cons (St1.callO (xs := [.tmp 7]) [(100, 108), (101, 608)] rfl rfl rfl rfl rfl rfl (by kernel_rfl) rfl (l2Copy_first hs0 h0) rfl trivial rfl flatS.nil (hbC1_flat _ _) (hbC1_HB _ _) rfl rfl outS_C1) ?_
  refine AOps.cons (St1.assign rfl rfl rfl rfl rfl) ?_
  refine AOps.nil ?_
  refine ks_n ?_
  refine ACode.seq ?_
  refine ACode.region ?_
  refine AOps.cons (St1.move rfl rfl rfl rfl rfl) ?_
  refine AOps.cons (St1.lenB (e := 67) (m := 2) (by' := 48) rfl rfl rfl rfl rfl (by kernel_rfl) rfl rfl) ?_
  refine AOps.cons (St1.assign rfl rfl rfl rfl rfl) ?_
  refine AOps.nil ?_
  refine ks_n ?_
  refine ACode.seq ?_
  refine ACode.seq ?_
  refine ACode.region ?_
  refine AOps.cons (St1.move rfl rfl rfl rfl rfl) ?_
  refine AOps.cons (St1.eql rfl rfl rfl rfl rfl rfl) ?_
  refine AOps.nil ?_
  refine ks_n ?_
  refine ACode.condT rfl (fun h12 => ?_) (fun h12 => ?_)
  · try simp only [List.length_map, decide_eq_true_eq, decide_eq_false_iff_not, Bool.not_eq_true', Bool.not_eq_false', Bool.not_eq_true, Bool.not_eq_false] at h12
    first | omega | (simp only [List.length_append, List.length_cons, List.length_nil] at h12; omega)
  · try simp only [List.length_map, decide_eq_true_eq, decide_eq_false_iff_not, Bool.not_eq_true', Bool.not_eq_false', Bool.not_eq_true, Bool.not_eq_false] at h12
    refine ACode.skip ?_
    refine ks_n ?_
    refine ACode.seq ?_
    refine ACode.seq ?_
    refine ACode.region ?_
    refine AOps.cons (St1.move rfl rfl rfl rfl rfl) ?_
    refine AOps.cons (St1.callO (xs := [.tmp 14, .const (.int .i64 (40))]) [(0, 0)] rfl rfl rfl rfl rfl rfl (by kernel_rfl) rfl (pick_fn hb (by omega) 40) rfl ⟨rfl, trivial⟩ rfl (hbR_flat _ _) (hbR_flat _ _) (hbR_HB _ _) rfl rfl outS_one) ?_
    refine AOps.nil ?_
    refine ks_n ?_
    refine ACode.block ?_
    refine ACode.seq ?_
    refine ACode.region ?_
    refine AOps.cons (St1.eql rfl rfl rfl rfl rfl rfl) ?_
    refine AOps.cons (St1.assign rfl rfl rfl rfl rfl) ?_
    refine AOps.nil ?_
    refine ks_n ?_
    refine ACode.condT rfl (fun h16 => ?_) (fun h16 => ?_)
    · try simp only [List.length_map, decide_eq_true_eq, decide_eq_false_iff_not, Bool.not_eq_true', Bool.not_eq_false', Bool.not_eq_true, Bool.not_eq_false] at h16
      have hv : 0 ≤ pickV bs (p + 1) 2 ∧ pickV bs (p + 1) 2 < 4 := by have h := pickV_bd hb (show p + 1 ≤ 1099511627776 by omega) 2; have h2 := h.2 (by omega); omega
      obtain ⟨hla, hlb, hlc, hld⟩ := hs2 l0 (by simp)
      refine ACode.drawK (by kernel_rfl) (by kernel_rfl) ?_
      refine RunK.cons (St1.move rfl rfl rfl rfl rfl) ?_
      refine RunK.cons (St1.move rfl rfl rfl rfl rfl) ?_
      refine RunK.cons (St1.indexB (e := 67) (sz := 2) (by' := 48) (i := 0) rfl rfl rfl rfl (by kernel_rfl) rfl rfl rfl rfl rfl (by omega)) ?_
      refine RunK.cons (St1.fieldB (off := 0) (m := 0) (r := false) rfl rfl rfl rfl (by kernel_rfl) rfl rfl) ?_
      refine RunK.cons (St1.loadB1 (m := 1) rfl rfl rfl rfl (by kernel_rfl) rfl rfl rfl rfl rfl) ?_
      refine RunK.cons (St1.move rfl rfl rfl rfl rfl) ?_
      refine RunK.cons (St1.callO (xs := [.tmp 23, .const (.int .i64 (2))]) [(0, 0)] rfl rfl rfl rfl rfl rfl (by kernel_rfl) rfl (pick_fn hb (by omega) 2) rfl ⟨rfl, trivial⟩ rfl (hbR_flat _ _) (hbR_flat _ _) (hbR_HB _ _) rfl rfl outS_one) ?_
      refine RunK.cons (St1.callP (xs := [.tmp 24]) rfl rfl rfl rfl rfl rfl (by kernel_rfl) rfl (l1Var_fn _ hv) rfl) ?_
      refine RunK.cons (St1.lit (e := 51) (sz := 1) (m := 0) (xs := [.tmp 25]) rfl rfl rfl rfl rfl (by kernel_rfl) rfl rfl rfl rfl) ?_
      refine RunK.cons (St1.appB (k' := 127) (e := 51) (sz := 1) (by' := 32) rfl rfl rfl rfl rfl (by kernel_rfl) rfl rfl rfl rfl (by first | (simp [dR]; done) | (simp [dR]; omega)) (by first | (simp [dR]; done) | (simp [dR]; omega)) rfl rfl rfl) ?_
      refine RunK.cons (St1.indexB (e := 67) (sz := 2) (by' := 48) (i := 0) rfl rfl rfl rfl (by kernel_rfl) rfl rfl rfl rfl rfl (by omega)) ?_
      refine RunK.cons (St1.fieldB (off := 0) (m := 0) (r := false) rfl rfl rfl rfl (by kernel_rfl) rfl rfl) ?_
      refine RunK.cons (St1.store (m := 1) (rw' := false) rfl rfl rfl (by kernel_rfl) rfl rfl rfl rfl rfl rfl rfl) ?_
      refine RunK.nil ⟨by kernel_rfl, ?_⟩
      refine kb_n ?_
      refine ks_n ?_
      refine ACode.seq ?_
      refine ACode.wk (σ' := [(.t 0, .v (.o (.c (.box 0 2 0 0)))), (.t 5, .v (.o (.c (.own 870 2 (rest.length + 1))))), (.b 0, .b 105 2 (dR ([rRd bs (p + 1 + 1)]))), (.u 0, .u), (.b 870, .b 67 2 (dR (((l0.1 ++ [varA (pickV bs (p + 1) 2).toNat], l0.2) :: rest).map rL))), (.u 870, .u)]) (Wk.keep [(0, 0), (870, 108)] rfl rfl ⟨⟨_, rfl, Vto.c (.box _ _ _ _ _ _ (by first | decide | simp) rfl)⟩, ⟨_, rfl, Vto.c (.own _ _ _ _ _ (by first | decide | simp) (by first | rfl | exact congrArg (fun z => V.o (nat1 z)) (by omega) | (simp; done) | omega))⟩, ⟨0, _, (by first | decide | simp), rfl, Rto.dat _ _ _ rfl rfl⟩, ⟨108, _, (by first | decide | simp), rfl, .cons (.cons (.frz _ _ _ _ _ _ rfl (by simp [dR]; first | rfl | exact ⟨rfl, rfl⟩) rfl rfl (by first | rfl | (simp; done)) (by first | omega | (simp; omega))) (.cons (.d _ _ rfl) .nil)) (.dat _ _ (rest.map rL) rfl rfl)⟩, trivial⟩) ?_
      refine ACode.region ?_
      refine AOps.cons (St1.move rfl rfl rfl rfl rfl) ?_
      refine AOps.cons (St1.assign rfl rfl rfl rfl rfl) ?_
      refine AOps.nil ?_
      refine ks_n ?_
      refine ACode.ret ?_
      refine kf_wret [(.t 4, .v (.o (vD (dLs ((l0.1 ++ [varA (pickV bs (p + 1) 2).toNat], l0.2) :: rest))))), (.b 0, .b 105 2 (dR ([rRd bs (p + 1 + 1)]))), (.u 0, .u)] (Wk.keep [(0, 0)] rfl rfl ⟨⟨_, rfl, Vto.c (.frz _ _ _ _ _ _ rfl (by first | rfl | (simp [dR]; done) | (simp [dR]; rfl)) rfl rfl (by first | rfl | (simp; done) | (simp; omega)) (by first | omega | (simp; omega) | (simp; done)))⟩, ⟨0, _, (by first | decide | simp), rfl, Rto.dat _ _ _ rfl rfl⟩, trivial⟩) rfl ?_ (hbR_box rfl)
      rfl
    · try simp only [List.length_map, decide_eq_true_eq, decide_eq_false_iff_not, Bool.not_eq_true', Bool.not_eq_false', Bool.not_eq_true, Bool.not_eq_false] at h16
      omega

set_option maxRecDepth 100000 in
set_option maxHeartbeats 1600000 in
theorem mut_2 {bs : List Int} (hb : Bytes bs) {p : Nat} (hp : p ≤ 100000000) {init : List Lp} {l0 : Lp} (hs : smN (init ++ [l0])) (h0 : l0.2 ≠ []) (hk : pickV bs p 40 = 2) : Fn Try.prog 46 (hbR bs p) [vR, vD (dLs (init ++ [l0]))] (.o (vD (dLs (init ++ [(l0.1, l0.2 ++ [cA 1, cA 2])])))) (hbR bs (p + 1)) := by
  have hs0 := hs
  obtain ⟨hs1, hs2⟩ := hs
  simp only [List.length_append, List.length_cons, List.length_nil] at hs1
  refine Fn.of_code Try.func46 rfl rfl (hbR_HB _ _) rfl rfl (hbR_HB _ _) rfl (hbR_num _ _ _) ?_
  refine ACode.seq ?_
  refine ACode.region ?_
  refine AOps.cons (St1.assign rfl rfl rfl rfl rfl) ?_
  refine AOps.nil ?_
  refine ks_n ?_
  refine ACode.seq ?_
  refine ACode.region ?_
  refine AOps.cons (St1.move rfl rfl rfl rfl rfl) ?_
  refine AOps.cons (St1.callO (xs := [.tmp 7]) [(100, 108), (101, 608)] rfl rfl rfl rfl rfl rfl (by kernel_rfl) rfl (l2Copy_last hs0 h0) rfl trivial rfl flatS.nil (hbC2_flat _ _) (hbC2_HB _ _) rfl rfl outS_C2) ?_
  refine AOps.cons (St1.assign rfl rfl rfl rfl rfl) ?_
  refine AOps.nil ?_
  refine ks_n ?_
  refine ACode.seq ?_
  refine ACode.region ?_
  refine AOps.cons (St1.move rfl rfl rfl rfl rfl) ?_
  refine AOps.cons (St1.lenB (e := 67) (m := 2) (by' := 48) rfl rfl rfl rfl rfl (by kernel_rfl) rfl rfl) ?_
  refine AOps.cons (St1.assign rfl rfl rfl rfl rfl) ?_
  refine AOps.nil ?_
  refine ks_n ?_
  refine ACode.seq ?_
  refine ACode.seq ?_
  refine ACode.region ?_
  refine AOps.cons (St1.move rfl rfl rfl rfl rfl) ?_
  refine AOps.cons (St1.eql rfl rfl rfl rfl rfl rfl) ?_
  refine AOps.nil ?_
  refine ks_n ?_
  refine ACode.condT rfl (fun h12 => ?_) (fun h12 => ?_)
  · try simp only [List.length_map, decide_eq_true_eq, decide_eq_false_iff_not, Bool.not_eq_true', Bool.not_eq_false', Bool.not_eq_true, Bool.not_eq_false] at h12
    first | omega | (simp only [List.length_append, List.length_cons, List.length_nil] at h12; omega)
  · try simp only [List.length_map, decide_eq_true_eq, decide_eq_false_iff_not, Bool.not_eq_true', Bool.not_eq_false', Bool.not_eq_true, Bool.not_eq_false] at h12
    refine ACode.skip ?_
    refine ks_n ?_
    refine ACode.seq ?_
    refine ACode.seq ?_
    refine ACode.region ?_
    refine AOps.cons (St1.move rfl rfl rfl rfl rfl) ?_
    refine AOps.cons (St1.callO (xs := [.tmp 14, .const (.int .i64 (40))]) [(0, 0)] rfl rfl rfl rfl rfl rfl (by kernel_rfl) rfl (pick_fn hb (by omega) 40) rfl ⟨rfl, trivial⟩ rfl (hbR_flat _ _) (hbR_flat _ _) (hbR_HB _ _) rfl rfl outS_one) ?_
    refine AOps.nil ?_
    refine ks_n ?_
    refine ACode.block ?_
    refine ACode.seq ?_
    refine ACode.region ?_
    refine AOps.cons (St1.eql rfl rfl rfl rfl rfl rfl) ?_
    refine AOps.cons (St1.assign rfl rfl rfl rfl rfl) ?_
    refine AOps.nil ?_
    refine ks_n ?_
    refine ACode.condT rfl (fun h16 => ?_) (fun h16 => ?_)
    · try simp only [List.length_map, decide_eq_true_eq, decide_eq_false_iff_not, Bool.not_eq_true', Bool.not_eq_false', Bool.not_eq_true, Bool.not_eq_false] at h16
      omega
    · try simp only [List.length_map, decide_eq_true_eq, decide_eq_false_iff_not, Bool.not_eq_true', Bool.not_eq_false', Bool.not_eq_true, Bool.not_eq_false] at h16
      refine ACode.seq ?_
      refine ACode.region ?_
      refine AOps.cons (St1.eql rfl rfl rfl rfl rfl rfl) ?_
      refine AOps.cons (St1.assign rfl rfl rfl rfl rfl) ?_
      refine AOps.nil ?_
      refine ks_n ?_
      refine ACode.condT rfl (fun h30 => ?_) (fun h30 => ?_)
      · try simp only [List.length_map, decide_eq_true_eq, decide_eq_false_iff_not, Bool.not_eq_true', Bool.not_eq_false', Bool.not_eq_true, Bool.not_eq_false] at h30
        omega
      · try simp only [List.length_map, decide_eq_true_eq, decide_eq_false_iff_not, Bool.not_eq_true', Bool.not_eq_false', Bool.not_eq_true, Bool.not_eq_false] at h30
        refine ACode.seq ?_
        refine ACode.region ?_
        refine AOps.cons (St1.eql rfl rfl rfl rfl rfl rfl) ?_
        refine AOps.cons (St1.assign rfl rfl rfl rfl rfl) ?_
        refine AOps.nil ?_
        refine ks_n ?_
        refine ACode.condT rfl (fun h37 => ?_) (fun h37 => ?_)
        · try simp only [List.length_map, decide_eq_true_eq, decide_eq_false_iff_not, Bool.not_eq_true', Bool.not_eq_false', Bool.not_eq_true, Bool.not_eq_false] at h37
          obtain ⟨hla, hlb, hlc, hld⟩ := hs2 l0 (by simp)
          refine ACode.drawK (by kernel_rfl) (by kernel_rfl) ?_
          refine RunK.cons (St1.move rfl rfl rfl rfl rfl) ?_
          refine RunK.cons (St1.move rfl rfl rfl rfl rfl) ?_
          refine RunK.cons (St1.sub rfl rfl rfl rfl rfl rfl (by omega)) ?_
          refine RunK.cons (St1.move rfl rfl rfl rfl rfl) ?_
          refine RunK.cons (St1.move rfl rfl rfl rfl rfl) ?_
          refine RunK.cons (St1.sub rfl rfl rfl rfl rfl rfl (by omega)) ?_
          refine RunK.cons (St1.indexB (e := 67) (sz := 2) (by' := 48) (i := init.length) rfl rfl rfl rfl (by kernel_rfl) rfl rfl rfl rfl (by first | (simp; done) | (simp; omega) | omega) (by omega)) ?_
          refine RunK.cons (St1.fieldB (off := 1) (m := 0) (r := false) rfl rfl rfl rfl (by kernel_rfl) rfl rfl) ?_
          refine RunK.cons (St1.loadB1 (m := 1) rfl rfl rfl rfl (by kernel_rfl) rfl rfl rfl (row_last _ _) rfl) ?_
          refine RunK.cons (St1.callP (xs := [.const (.int .i64 (1))]) rfl rfl rfl rfl rfl rfl (by kernel_rfl) rfl (l1Const_fn 1) rfl) ?_
          refine RunK.cons (St1.callP (xs := [.const (.int .i64 (2))]) rfl rfl rfl rfl rfl rfl (by kernel_rfl) rfl (l1Const_fn 2) rfl) ?_
          refine RunK.cons (St1.lit (e := 51) (sz := 1) (m := 1) (xs := [.tmp 48, .tmp 49]) rfl rfl rfl rfl rfl (by kernel_rfl) rfl rfl rfl rfl) ?_
          refine RunK.cons (St1.appB (k' := 151) (e := 51) (sz := 1) (by' := 32) rfl rfl rfl rfl rfl (by kernel_rfl) rfl rfl rfl rfl (by first | (simp [dR]; done) | (simp [dR]; omega)) (by first | (simp [dR]; done) | (simp [dR]; omega)) rfl rfl rfl) ?_
          refine RunK.cons (St1.indexB (e := 67) (sz := 2) (by' := 48) (i := init.length) rfl rfl rfl rfl (by kernel_rfl) rfl rfl rfl rfl (by first | (simp; done) | (simp; omega) | omega) (by omega)) ?_
          refine RunK.cons (St1.fieldB (off := 1) (m := 0) (r := false) rfl rfl rfl rfl (by kernel_rfl) rfl rfl) ?_
          refine RunK.cons (St1.store (m := 1) (rw' := false) rfl rfl rfl (by kernel_rfl) rfl rfl rfl (row_last _ _) rfl rfl rfl) ?_
          refine RunK.nil ⟨by kernel_rfl, ?_⟩
          refine kb_n ?_
          refine ks_n ?_
          refine ACode.seq ?_
          refine ACode.wk (σ' := [(.t 0, .v (.o (.c (.box 0 2 0 0)))), (.t 5, .v (.o (.c (.own 870 2 (init.length + 1))))), (.b 0, .b 105 2 (dR ([rRd bs (p + 1)]))), (.u 0, .u), (.b 870, .b 67 2 (dR (init.map rL) ++ dR [rL (l0.1, l0.2 ++ [cA 1, cA 2])])), (.u 870, .u)]) (Wk.keep [(0, 0), (870, 108)] rfl rfl ⟨⟨_, rfl, Vto.c (.box _ _ _ _ _ _ (by first | decide | simp) rfl)⟩, ⟨_, rfl, Vto.c (.own _ _ _ _ _ (by first | decide | simp) (by first | rfl | exact congrArg (fun z => V.o (nat1 z)) (by omega) | (simp; done) | omega))⟩, ⟨0, _, (by first | decide | simp), rfl, Rto.dat _ _ _ rfl rfl⟩, ⟨108, _, (by first | decide | simp), rfl, .eq (set_last _ _ _) rfl (.app (.dat _ _ (init.map rL) rfl rfl) (.cons (.cons (.d _ _ rfl) (.cons (.frz _ _ _ _ _ _ rfl (by simp [dR]; first | rfl | exact ⟨rfl, rfl⟩) rfl rfl (by first | rfl | (simp; done)) (by first | omega | (simp; omega))) .nil)) .nil))⟩, trivial⟩) ?_
          refine ACode.region ?_
          refine AOps.cons (St1.move rfl rfl rfl rfl rfl) ?_
          refine AOps.cons (St1.assign rfl rfl rfl rfl rfl) ?_
          refine AOps.nil ?_
          refine ks_n ?_
          refine ACode.ret ?_
          refine kf_wret [(.t 4, .v (.o (vD (dLs (init ++ [(l0.1, l0.2 ++ [cA 1, cA 2])]))))), (.b 0, .b 105 2 (dR ([rRd bs (p + 1)]))), (.u 0, .u)] (Wk.keep [(0, 0)] rfl rfl ⟨⟨_, rfl, Vto.c (.frz _ _ _ _ _ _ rfl (by first | rfl | (simp [dR]; done) | (simp [dR]; rfl)) rfl rfl (by first | rfl | (simp; done) | (simp; omega)) (by first | omega | (simp; omega) | (simp; done)))⟩, ⟨0, _, (by first | decide | simp), rfl, Rto.dat _ _ _ rfl rfl⟩, trivial⟩) rfl ?_ (hbR_box rfl)
          rfl
        · try simp only [List.length_map, decide_eq_true_eq, decide_eq_false_iff_not, Bool.not_eq_true', Bool.not_eq_false', Bool.not_eq_true, Bool.not_eq_false] at h37
          omega

set_option maxRecDepth 100000 in
set_option maxHeartbeats 1600000 in
theorem mut_2N {bs : List Int} (hb : Bytes bs) {p : Nat} (hp : p ≤ 100000000) {init : List Lp} {l0 : Lp} (hs : smN (init ++ [l0])) (h0 : l0.2 = []) (hk : pickV bs p 40 = 2) : Fn Try.prog 46 (hbR bs p) [vR, vD (dLs (init ++ [l0]))] (.o (vD (dLs (init ++ [(l0.1, [cA 1, cA 2])])))) (hbR bs (p + 1)) := by
  have hs0 := hs
  obtain ⟨hs1, hs2⟩ := hs
  simp only [List.length_append, List.length_cons, List.length_nil] at hs1
  refine Fn.of_code Try.func46 rfl rfl (hbR_HB _ _) rfl rfl (hbR_HB _ _) rfl (hbR_num _ _ _) ?_
  refine ACode.seq ?_
  refine ACode.region ?_
  refine AOps.cons (St1.assign rfl rfl rfl rfl rfl) ?_
  refine AOps.nil ?_
  refine ks_n ?_
  refine ACode.seq ?_
  refine ACode.region ?_
  refine AOps.cons (St1.move rfl rfl rfl rfl rfl) ?_
  refine AOps.cons (St1.callO (xs := [.tmp 7]) [(100, 108)] rfl rfl rfl rfl rfl rfl (by kernel_rfl) rfl (l2Copy_lastN hs0 h0) rfl trivial rfl flatS.nil (flatS.nil.cons rfl) HB.nil.data rfl rfl outS_one) ?_
  refine AOps.cons (St1.assign rfl rfl rfl rfl rfl) ?_
  refine AOps.nil ?_
  refine ks_n ?_
  refine ACode.seq ?_
  refine ACode.region ?_
  refine AOps.cons (St1.move rfl rfl rfl rfl rfl) ?_
  refine AOps.cons (St1.lenB (e := 67) (m := 2) (by' := 48) rfl rfl rfl rfl rfl (by kernel_rfl) rfl rfl) ?_
  refine AOps.cons (St1.assign rfl rfl rfl rfl rfl) ?_
  refine AOps.nil ?_
  refine ks_n ?_
  refine ACode.seq ?_
  refine ACode.seq ?_
  refine ACode.region ?_
  refine AOps.cons (St1.move rfl rfl rfl rfl rfl) ?_
  refine AOps.cons (St1.eql rfl rfl rfl rfl rfl rfl) ?_
  refine AOps.nil ?_
  refine ks_n ?_
  refine ACode.condT rfl (fun h12 => ?_) (fun h12 => ?_)
  · try simp only [List.length_map, decide_eq_true_eq, decide_eq_false_iff_not, Bool.not_eq_true', Bool.not_eq_false', Bool.not_eq_true, Bool.not_eq_false] at h12
    first | omega | (simp only [List.length_append, List.length_cons, List.length_nil] at h12; omega)
  · try simp only [List.length_map, decide_eq_true_eq, decide_eq_false_iff_not, Bool.not_eq_true', Bool.not_eq_false', Bool.not_eq_true, Bool.not_eq_false] at h12
    refine ACode.skip ?_
    refine ks_n ?_
    refine ACode.seq ?_
    refine ACode.seq ?_
    refine ACode.region ?_
    refine AOps.cons (St1.move rfl rfl rfl rfl rfl) ?_
    refine AOps.cons (St1.callO (xs := [.tmp 14, .const (.int .i64 (40))]) [(0, 0)] rfl rfl rfl rfl rfl rfl (by kernel_rfl) rfl (pick_fn hb (by omega) 40) rfl ⟨rfl, trivial⟩ rfl (hbR_flat _ _) (hbR_flat _ _) (hbR_HB _ _) rfl rfl outS_one) ?_
    refine AOps.nil ?_
    refine ks_n ?_
    refine ACode.block ?_
    refine ACode.seq ?_
    refine ACode.region ?_
    refine AOps.cons (St1.eql rfl rfl rfl rfl rfl rfl) ?_
    refine AOps.cons (St1.assign rfl rfl rfl rfl rfl) ?_
    refine AOps.nil ?_
    refine ks_n ?_
    refine ACode.condT rfl (fun h16 => ?_) (fun h16 => ?_)
    · try simp only [List.length_map, decide_eq_true_eq, decide_eq_false_iff_not, Bool.not_eq_true', Bool.not_eq_false', Bool.not_eq_true, Bool.not_eq_false] at h16
      omega
    · try simp only [List.length_map, decide_eq_true_eq, decide_eq_false_iff_not, Bool.not_eq_true', Bool.not_eq_false', Bool.not_eq_true, Bool.not_eq_false] at h16
      refine ACode.seq ?_
      refine ACode.region ?_
      refine AOps.cons (St1.eql rfl rfl rfl rfl rfl rfl) ?_
      refine AOps.cons (St1.assign rfl rfl rfl rfl rfl) ?_
      refine AOps.nil ?_
      refine ks_n ?_
      refine ACode.condT rfl (fun h30 => ?_) (fun h30 => ?_)
      · try simp only [List.length_map, decide_eq_true_eq, decide_eq_false_iff_not, Bool.not_eq_true', Bool.not_eq_false', Bool.not_eq_true, Bool.not_eq_false] at h30
        omega
      · try simp only [List.length_map, decide_eq_true_eq, decide_eq_false_iff_not, Bool.not_eq_true', Bool.not_eq_false', Bool.not_eq_true, Bool.not_eq_false] at h30
        refine ACode.seq ?_
        refine ACode.region ?_
        refine AOps.cons (St1.eql rfl rfl rfl rfl rfl rfl) ?_
        refine AOps.cons (St1.assign rfl rfl rfl rfl rfl) ?_
        refine AOps.nil ?_
        refine ks_n ?_
        refine ACode.condT rfl (fun h37 => ?_) (fun h37 => ?_)
        · try simp only [List.length_map, decide_eq_true_eq, decide_eq_false_iff_not, Bool.not_eq_true', Bool.not_eq_false', Bool.not_eq_true, Bool.not_eq_false] at h37
          refine ACode.drawK (by kernel_rfl) (by kernel_rfl) ?_
          refine RunK.cons (St1.move rfl rfl rfl rfl rfl) ?_
          refine RunK.cons (St1.move rfl rfl rfl rfl rfl) ?_
          refine RunK.cons (St1.sub rfl rfl rfl rfl rfl rfl (by omega)) ?_
          refine RunK.cons (St1.move rfl rfl rfl rfl rfl) ?_
          refine RunK.cons (St1.move rfl rfl rfl rfl rfl) ?_
          refine RunK.cons (St1.sub rfl rfl rfl rfl rfl rfl (by omega)) ?_
          refine RunK.cons (St1.indexB (e := 67) (sz := 2) (by' := 48) (i := init.length) rfl rfl rfl rfl (by kernel_rfl) rfl rfl rfl rfl (by first | (simp; done) | (simp; omega) | omega) (by omega)) ?_
          refine RunK.cons (St1.fieldB (off := 1) (m := 0) (r := false) rfl rfl rfl rfl (by kernel_rfl) rfl rfl) ?_
          refine RunK.cons (St1.loadB1 (m := 1) rfl rfl rfl rfl (by kernel_rfl) rfl rfl rfl (dR_at (row_lastD _ _)) rfl) ?_
          refine RunK.cons (St1.callP (xs := [.const (.int .i64 (1))]) rfl rfl rfl rfl rfl rfl (by kernel_rfl) rfl (l1Const_fn 1) rfl) ?_
          refine RunK.cons (St1.callP (xs := [.const (.int .i64 (2))]) rfl rfl rfl rfl rfl rfl (by kernel_rfl) rfl (l1Const_fn 2) rfl) ?_
          refine RunK.cons (St1.lit (e := 51) (sz := 1) (m := 1) (xs := [.tmp 48, .tmp 49]) rfl rfl rfl rfl rfl (by kernel_rfl) rfl rfl rfl rfl) ?_
          refine RunK.cons (St1.appND (e := 51) (sz := 1) (by' := 32) rfl rfl rfl rfl rfl (by kernel_rfl) rfl rfl rfl (by simp)) ?_
          refine RunK.cons (St1.indexB (e := 67) (sz := 2) (by' := 48) (i := init.length) rfl rfl rfl rfl (by kernel_rfl) rfl rfl rfl rfl (by first | (simp; done) | (simp; omega) | omega) (by omega)) ?_
          refine RunK.cons (St1.fieldB (off := 1) (m := 0) (r := false) rfl rfl rfl rfl (by kernel_rfl) rfl rfl) ?_
          refine RunK.cons (St1.store (m := 1) (rw' := false) rfl rfl rfl (by kernel_rfl) rfl rfl rfl (dR_at (row_lastD _ _)) rfl rfl rfl) ?_
          refine RunK.nil ⟨by kernel_rfl, ?_⟩
          refine kb_n ?_
          refine ks_n ?_
          refine ACode.seq ?_
          refine ACode.wk (σ' := [(.t 0, .v (.o (.c (.box 0 2 0 0)))), (.t 5, .v (.o (.c (.own 870 2 (init.length + 1))))), (.b 0, .b 105 2 (dR ([rRd bs (p + 1)]))), (.u 0, .u), (.b 870, .b 67 2 (dR (init.map rL ++ [rL (l0.1, [cA 1, cA 2])]))), (.u 870, .u)]) (Wk.keep [(0, 0), (870, 108)] rfl rfl ⟨⟨_, rfl, Vto.c (.box _ _ _ _ _ _ (by first | decide | simp) rfl)⟩, ⟨_, rfl, Vto.c (.own _ _ _ _ _ (by first | decide | simp) (by first | rfl | exact congrArg (fun z => V.o (nat1 z)) (by omega) | (simp; done) | omega))⟩, ⟨0, _, (by first | decide | simp), rfl, Rto.dat _ _ _ rfl rfl⟩, ⟨108, _, (by first | decide | simp), rfl, Rto.dat _ _ _ ((set_lastD _ _ _).trans (by simp [dR]; rfl)) rfl⟩, trivial⟩) ?_
          refine ACode.region ?_
          refine AOps.cons (St1.move rfl rfl rfl rfl rfl) ?_
          refine AOps.cons (St1.assign rfl rfl rfl rfl rfl) ?_
          refine AOps.nil ?_
          refine ks_n ?_
          refine ACode.ret ?_
          refine kf_wret [(.t 4, .v (.o (vD (dLs (init ++ [(l0.1, [cA 1, cA 2])]))))), (.b 0, .b 105 2 (dR ([rRd bs (p + 1)]))), (.u 0, .u)] (Wk.keep [(0, 0)] rfl rfl ⟨⟨_, rfl, Vto.c (.frz _ _ _ _ _ _ rfl (by first | rfl | (simp [dR]; done) | (simp [dR]; rfl)) rfl rfl (by first | rfl | (simp; done) | (simp; omega)) (by first | omega | (simp; omega) | (simp; done)))⟩, ⟨0, _, (by first | decide | simp), rfl, Rto.dat _ _ _ rfl rfl⟩, trivial⟩) rfl ?_ (hbR_box rfl)
          rfl
        · try simp only [List.length_map, decide_eq_true_eq, decide_eq_false_iff_not, Bool.not_eq_true', Bool.not_eq_false', Bool.not_eq_true, Bool.not_eq_false] at h37
          omega

end Go.Proofs.Ytgcpdpbapgkdjaa

/- Drawn nests are small, changed ones too; condition: small nests. -/
namespace Go.Proofs.Ytgcpdpbapgkdjaa
set_option linter.unusedVariables false
set_option linter.unusedSimpArgs false
open Go.RowKit

def okL (k : Nat) (l : Lp) : Prop := l.1 ≠ [] ∧ l.1.length ≤ k ∧ l.2.length ≤ k ∧ (∀ a ∈ l.1, a.1.length ≤ 4) ∧ ∀ a ∈ l.2, a.1.length ≤ 4
def okN (k : Nat) (ns : List Lp) : Prop := ns.length ≤ k ∧ ∀ l ∈ ns, okL k l
theorem okL.mono {k m : Nat} {l : Lp} (h : okL k l) (hm : k ≤ m) : okL m l := ⟨h.1, Nat.le_trans h.2.1 hm, Nat.le_trans h.2.2.1 hm, h.2.2.2⟩
theorem okN.sm {k : Nat} {ns : List Lp} (h : okN k ns) (hk : k ≤ 100) : smN ns :=
  ⟨Nat.le_trans h.1 hk, fun l hl => by
    obtain ⟨_, h1, h2, h3, h4⟩ := h.2 l hl
    exact ⟨Nat.le_trans h1 hk, Nat.le_trans h2 hk, fun a ha => Nat.le_trans (h3 a ha) (by omega), fun a ha => Nat.le_trans (h4 a ha) (by omega)⟩⟩
theorem okN.cons {k : Nat} {l : Lp} {ns : List Lp} (h : okN k (l :: ns)) : okL k l ∧ ns.length + 1 ≤ k ∧ ∀ x ∈ ns, okL k x := ⟨h.2 l (by simp), by simpa using h.1, fun x hx => h.2 x (by simp [hx])⟩
theorem one4 {a : Aff} (h : a.1.length = 4) : ∀ x ∈ [a], x.1.length ≤ 4 := fun x hx => by rw [List.mem_singleton.1 hx, h]; exact Nat.le_refl 4
theorem two4 {a b : Aff} (h : a.1.length = 4) (h' : b.1.length = 4) : ∀ x ∈ [a, b], x.1.length ≤ 4 := fun x hx => by
  rcases List.mem_cons.1 hx with rfl | hx
  · rw [h]; exact Nat.le_refl 4
  · exact one4 h' x hx
theorem varA_len (v : Nat) : (varA v).1.length = 4 := by simp [varA]
theorem loopE_ok {bs : List Int} {lo hi : Aff} (h : lo.1.length = 4) (h' : hi.1.length = 4) (p : Nat) : okL 2 (loopE bs lo hi p).1 := by
  unfold loopE
  split
  · exact ⟨by simp, by simp, by simp, one4 h, two4 h' rfl⟩
  · split
    · exact ⟨by simp, by simp, by simp, two4 h rfl, one4 h'⟩
    · exact ⟨by simp, by simp, by simp, one4 h, one4 h'⟩
theorem loopD_ok (bs : List Int) (p d : Nat) : okL 2 (loopD bs p d).1 := by
  unfold loopD
  split
  · split
    · split
      · exact loopE_ok (varA_len _) rfl _
      · exact loopE_ok rfl (by simp [cmbA, cmbTo]) _
    · exact loopE_ok rfl rfl _
  · exact loopE_ok rfl rfl _
theorem nestE_ok (bs : List Int) : ∀ (n : Nat) (ns : List Lp) (p : Nat), (∀ l ∈ ns, okL 2 l) → (nestE bs n ns p).1.length = ns.length + n ∧ (∀ l ∈ (nestE bs n ns p).1, okL 2 l) ∧ (nestE bs n ns p).2 ≤ p + 7 * n
  | 0, ns, p, h => ⟨rfl, h, Nat.le_refl _⟩
  | n + 1, ns, p, h => by
    rw [nestE_step]
    obtain ⟨h1, h2, h3⟩ := nestE_ok bs n (ns ++ [(loopD bs p ns.length).1]) (loopD bs p ns.length).2 (fun l hl => by
      rcases List.mem_append.1 hl with hl | hl
      · exact h l hl
      · rw [List.mem_singleton.1 hl]; exact loopD_ok _ _ _)
    refine ⟨by rw [h1]; simp; omega, h2, ?_⟩
    have := loopD_p bs p ns.length
    omega
theorem nestD_ok {bs : List Int} (hb : Bytes bs) {p : Nat} (hp : p ≤ 1099511627776) : okN 3 (nestD bs p).1 ∧ (nestD bs p).2 ≤ p + 22 := by
  have hm := numV_mem hb (p := p) hp (xs := [2, 1, 2, 3]) (by simp)
  obtain ⟨h1, h2, h3⟩ := nestE_ok bs (numV bs p [2, 1, 2, 3]).toNat [] (p + 1) (by simp)
  have h4 : (numV bs p [2, 1, 2, 3]).toNat ≤ 3 := by simp at hm; omega
  exact ⟨⟨by rw [nestD, h1]; simpa using h4, fun l hl => (h2 l hl).mono (by omega)⟩, by rw [nestD]; omega⟩
theorem okN.cons' {k : Nat} {l : Lp} {ns : List Lp} (hl : okL k l) (hn : ns.length + 1 ≤ k) (h : ∀ x ∈ ns, okL k x) : okN k (l :: ns) := ⟨by simpa using hn, fun x hx => by
  rcases List.mem_cons.1 hx with rfl | hx
  · exact hl
  · exact h x hx⟩
theorem okN.last' {k : Nat} {l : Lp} {ns : List Lp} (hl : okL k l) (hn : ns.length + 1 ≤ k) (h : ∀ x ∈ ns, okL k x) : okN k (ns ++ [l]) := ⟨by simpa using hn, fun x hx => by
  rcases List.mem_append.1 hx with hx | hx
  · exact h x hx
  · rw [List.mem_singleton.1 hx]; exact hl⟩
theorem app4 {a b : List Aff} (h : ∀ x ∈ a, x.1.length ≤ 4) (h' : ∀ x ∈ b, x.1.length ≤ 4) : ∀ x ∈ a ++ b, x.1.length ≤ 4 := fun x hx => (List.mem_append.1 hx).elim (h x) (h' x)
theorem l2Mutate_fn {bs : List Int} (hb : Bytes bs) {p : Nat} (hp : p ≤ 100000000) {k : Nat} {ns : List Lp} (hs : okN k ns) (hk : k ≤ 90) :
    ∃ ns' q, okN (k + 5) ns' ∧ q ≤ p + 2 ∧ Fn Try.prog 46 (hbR bs p) [vR, vD (dLs ns)] (.o (vD (dLs ns'))) (hbR bs q) := by
  have hsm := hs.sm (by omega)
  rcases List.eq_nil_or_concat ns with rfl | ⟨init, z, e⟩
  · exact ⟨[], p, ⟨by simp, by simp⟩, by omega, mut_nil hb hp hsm⟩
  cases ns with
  | nil => simp at e
  | cons l0 rest =>
    obtain ⟨c1, c2, c3⟩ := hs.cons
    have e1 : l0 :: rest = init ++ [z] := by rw [e]; simp
    have hi : init.length = rest.length := by have := congrArg List.length e1; simp at this; omega
    have hz : okL k z := hs.2 z (by rw [e1]; simp)
    have hin : ∀ x ∈ init, okL (k + 5) x := fun x hx => (hs.2 x (by rw [e1]; simp [hx])).mono (by omega)
    have hrest : ∀ x ∈ rest, okL (k + 5) x := fun x hx => (c3 x hx).mono (by omega)
    obtain ⟨u1, u2, u3, u4, u5⟩ := c1
    obtain ⟨z1, z2, z3, z4, z5⟩ := hz
    by_cases h0 : pickV bs p 40 = 0
    · exact ⟨(l0.1 ++ [varA (pickV bs (p + 1) 2).toNat], l0.2) :: rest, p + 1 + 1, .cons' ⟨by simp, by simp; omega, by show l0.2.length ≤ _; omega, app4 u4 (one4 (varA_len _)), u5⟩ (by omega) hrest, by omega, mut_0 hb hp hsm u1 h0⟩
    by_cases h1 : pickV bs p 40 = 1
    · refine ⟨init ++ [(z.1, [])], p + 1, .last' ⟨z1, by show z.1.length ≤ _; omega, by simp, z4, by simp⟩ (by omega) hin, by omega, ?_⟩
      rw [e1] at hsm ⊢
      exact mut_1 hb hp hsm h1
    by_cases h2 : pickV bs p 40 = 2
    · by_cases h3 : z.2 = []
      · refine ⟨init ++ [(z.1, [cA 1, cA 2])], p + 1, .last' ⟨z1, by show z.1.length ≤ _; omega, by simp, z4, two4 rfl rfl⟩ (by omega) hin, by omega, ?_⟩
        rw [e1] at hsm ⊢
        exact mut_2N hb hp hsm h3 h2
      · refine ⟨init ++ [(z.1, z.2 ++ [cA 1, cA 2])], p + 1, .last' ⟨z1, by show z.1.length ≤ _; omega, by simp; omega, z4, app4 z5 (two4 rfl rfl)⟩ (by omega) hin, by omega, ?_⟩
        rw [e1] at hsm ⊢
        exact mut_2 hb hp hsm h3 h2
    by_cases h3 : pickV bs p 40 = 3
    · exact ⟨(l0.1, [cA 99]) :: rest, p + 1, .cons' ⟨u1, by show l0.1.length ≤ _; omega, by simp, u4, one4 rfl⟩ (by omega) hrest, by omega, mut_3 hb hp hsm h3⟩
    have hl0 : okL (k + 5) l0 := ⟨u1, by omega, by omega, u4, u5⟩
    by_cases h4 : pickV bs p 40 = 4
    · refine ⟨l0 :: (rest ++ List.replicate (4 - rest.length) l0), p + 1, .cons' hl0 (by simp; omega) (fun x hx => ?_), by omega, mut_4 hb hp hsm h4⟩
      rcases List.mem_append.1 hx with hx | hx
      · exact hrest x hx
      · rw [List.eq_of_mem_replicate hx]; exact hl0
    · exact ⟨l0 :: rest, p + 1, .cons' hl0 (by omega) hrest, by omega, mut_no hb hp hsm ⟨h0, h1, h2, h3, h4⟩⟩
end Go.Proofs.Ytgcpdpbapgkdjaa

/- Laws on lists that walks compare or search; contracts of affine expressions over data; no condition. -/
namespace Go.Proofs.Ytgcpdpbapgkdjaa
set_option linter.unusedVariables false
set_option linter.unusedSimpArgs false
open Go.RowKit

section
variable {α : Type}
def eqF (p : α → α → Bool) : List α → List α → Bool
  | [], [] => true
  | x :: xs, y :: ys => p x y && eqF p xs ys
  | _, _ => false
theorem drop_at {l : List α} {i : Nat} {x : α} (h : l[i]? = some x) : l.drop i = x :: l.drop (i + 1) := by
  obtain ⟨h1, rfl⟩ := List.getElem?_eq_some_iff.1 h
  exact List.drop_eq_getElem_cons h1
theorem eqF_drop {p : α → α → Bool} {a b : List α} {i : Nat} {x y : α} (h1 : a[i]? = some x) (h2 : b[i]? = some y) : eqF p (a.drop i) (b.drop i) = (p x y && eqF p (a.drop (i + 1)) (b.drop (i + 1))) := by rw [drop_at h1, drop_at h2]; rfl
theorem eqF_len {p : α → α → Bool} : ∀ {a b : List α}, a.length ≠ b.length → eqF p a b = false
  | [], [], h => absurd rfl h
  | [], _ :: _, _ => rfl
  | _ :: _, [], _ => rfl
  | x :: a, y :: b, h => by rw [eqF, eqF_len (fun e => h (by simp [e])), Bool.and_false]
theorem eqF_end {p : α → α → Bool} {a b : List α} (h : a.length = b.length) : eqF p (a.drop a.length) (b.drop a.length) = true := by rw [List.drop_length, h, List.drop_length]; rfl
theorem eqF_eq {p : α → α → Bool} (hp : ∀ x y, p x y = true ↔ x = y) : ∀ {a b : List α}, eqF p a b = true ↔ a = b
  | [], [] => by simp [eqF]
  | [], _ :: _ => by simp [eqF]
  | _ :: _, [] => by simp [eqF]
  | x :: a, y :: b => by rw [eqF, Bool.and_eq_true, hp, eqF_eq hp, List.cons.injEq]
def idxG (p : α → Bool) (i : Nat) : List α → Int
  | [] => -1
  | x :: l => if p x then (i : Int) else idxG p (i + 1) l
def idxF (p : α → Bool) (l : List α) : Int := idxG p 0 l
theorem idxG_drop {p : α → Bool} {l : List α} {i : Nat} {x : α} (h : l[i]? = some x) : idxG p i (l.drop i) = if p x then (i : Int) else idxG p (i + 1) (l.drop (i + 1)) := by rw [drop_at h]; rfl
theorem idxG_any {p : α → Bool} : ∀ {l : List α} {i : Nat}, decide (0 ≤ idxG p i l) = l.any p
  | [], i => rfl
  | x :: l, i => by
    rw [idxG, List.any_cons]
    cases h : p x
    · rw [Bool.false_or]; simpa using idxG_any
    · simp
theorem all_drop {p : α → Bool} {l : List α} {i : Nat} {x : α} (h : l[i]? = some x) : (l.drop i).all p = (p x && (l.drop (i + 1)).all p) := by rw [drop_at h]; rfl
end
theorem sameOf_dec (x y : Aff) : sameOf x y = decide (x = y) := by
  by_cases h : x = y
  · rw [decide_eq_true h]; exact (sameOf_iff x y).2 h
  · rw [decide_eq_false h]
    cases e : sameOf x y
    · rfl
    · exact absurd ((sameOf_iff x y).1 e) h
section
variable {P : Program} {f : FuncId} {x y : Aff} {n : Int}
theorem implSame_fn (x y : Aff) : Fn Try.prog 50 [] [ad (rA x), ad (rA y)] (.o (bo1 (decide (x = y)))) [] :=
  Fn.pure fun B bx al w vs hv => by
    obtain ⟨u, v, rfl, h1, h2⟩ := vals2 hv
    rw [← sameOf_dec]
    exact (implSame_any B B u v x y w (dr_aff h1) (dr_aff h2)).mono fun e w' ⟨h1, h2⟩ => ⟨_, h1, h2, .val _ rfl⟩
theorem specSame_fn (x y : Aff) : Fn Try.prog 93 [] [ad (rA x), ad (rA y)] (.o (bo1 (decide (x = y)))) [] :=
  Fn.pure fun B bx al w vs hv => by
    obtain ⟨u, v, rfl, h1, h2⟩ := vals2 hv
    rw [← sameOf_dec]
    exact (specSame_any B B u v x y w (dr_aff h1) (dr_aff h2)).mono fun e w' ⟨h1, h2⟩ => ⟨_, h1, h2, .val _ rfl⟩
theorem implAffV_fn (x : Aff) : Fn Try.prog 81 [] [ad (rA x)] (.o (bo1 (affV x))) [] :=
  Fn.pure fun B bx al w vs hv => by
    obtain ⟨v, rfl, h⟩ := vals1 hv
    exact (implAffV_any B v x w (dr_aff h)).mono fun e w' ⟨h1, h2⟩ => ⟨_, h1, h2, .val _ rfl⟩
theorem depth_fn (x : Aff) : Fn Try.prog 82 [] [ad (rA x)] (.o (nat1 (affDepth x : Nat))) [] :=
  Fn.pure fun B bx al w vs hv => by
    obtain ⟨v, rfl, h⟩ := vals1 hv
    exact (depth_any B v x w (dr_aff h)).mono fun e w' ⟨h1, h2⟩ => ⟨_, h1, h2, .val _ rfl⟩
theorem sl_form {B : Nat → Prop} {w : World} {v : Value} {xs : List Int} (h : Sl Sh.int B w v xs) : ∃ a n c, v = .slice a n c ∧ n = xs.length := by
  obtain ⟨a, c, rfl, _⟩ := h
  exact ⟨a, _, c, rfl, rfl⟩
theorem eval_fn {x : Aff} {p : List Int} (hV : affV x = true) (hS : Small p) (hn : p.length ≤ 4) : Fn Try.prog 83 [] [ad (rA x), vD (dIs p)] (.o (nat1 (affEval x p))) [] :=
  Fn.pure fun B bx al w vs hv => by
    obtain ⟨u, v, rfl, h1, h2⟩ := vals2 hv
    have h3 := dr_ints h2
    obtain ⟨a, n, c, rfl, rfl⟩ := sl_form h3
    exact (eval_any B B u x a _ c p w (dr_aff h1) h3 hV hS hn).mono fun e w' ⟨h1, h2⟩ => ⟨_, h1, h2, .val _ rfl⟩
theorem l1Eval_fn {x : Aff} {p : List Int} (hV : affV x = true) (hS : Small p) (hn : p.length ≤ 4) : Fn Try.prog 78 [] [ad (rA x), vD (dIs p)] (.o (nat1 (affEval x p))) [] :=
  Fn.pure fun B bx al w vs hv => by
    obtain ⟨u, v, rfl, h1, h2⟩ := vals2 hv
    have h3 := dr_ints h2
    obtain ⟨a, n, c, rfl, rfl⟩ := sl_form h3
    exact (l1Eval_any B B u x a _ c p w (dr_aff h1) h3 hV hS hn).mono fun e w' ⟨h1, h2⟩ => ⟨_, h1, h2, .val _ rfl⟩
theorem isPoint_fn (p : List Int) : Fn Try.prog 67 [] [vD (dIs p)] (.o (bo1 (isPt p))) [] :=
  Fn.pure fun B bx al w vs hv => by
    obtain ⟨v, rfl, h⟩ := vals1 hv
    have h3 := dr_ints h
    obtain ⟨a, n, c, rfl, rfl⟩ := sl_form h3
    exact (isPoint_any B a _ c p w h3).mono fun e w' ⟨h1, h2⟩ => ⟨_, h1, by rw [← h2]; exact Below.refl _ _, .val _ rfl⟩
theorem l1Point_fn (p : List Int) : Fn Try.prog 70 [] [vD (dIs p)] (.o (bo1 (isPt p))) [] :=
  Fn.pure fun B bx al w vs hv => by
    obtain ⟨v, rfl, h⟩ := vals1 hv
    have h3 := dr_ints h
    obtain ⟨a, n, c, rfl, rfl⟩ := sl_form h3
    exact (l1Point_any B a _ c p w h3).mono fun e w' ⟨h1, h2⟩ => ⟨_, h1, by rw [← h2]; exact Below.refl _ _, .val _ rfl⟩
end
end Go.Proofs.Ytgcpdpbapgkdjaa

/- Searching and comparing slices by a function; condition: what the function answers. -/
namespace Go.Proofs.Ytgcpdpbapgkdjaa
set_option linter.unusedVariables false
set_option linter.unusedSimpArgs false
open Go.RowKit

set_option maxRecDepth 100000 in
set_option maxHeartbeats 1600000 in
theorem eqf_lp {f : FuncId} {cap : List (List D)} (hc : callable Try.prog f = true) (p : Lp → Lp → Bool) (xs ys : List Lp) (hx : xs.length ≤ 1099511627776) (hf : ∀ x ∈ xs, ∀ y ∈ ys, Fn Try.prog f [] (ad (rL x) :: ad (rL y) :: cap.map fun c => .c (.ptr c)) (.o (bo1 (p x y))) []) : Fn Try.prog 47 [] [vD (.list 2 (xs.map rL)), vD (.list 2 (ys.map rL)), .c (.fn f cap)] (.o (bo1 (eqF p xs ys))) [] := by
  refine Fn.code0 Try.func47 rfl rfl rfl rfl ?_
  refine ACode.seq ?_
  refine ACode.region ?_
  refine AOps.cons (St1.assign rfl rfl rfl rfl rfl) ?_
  refine AOps.nil ?_
  refine ks_n ?_
  refine ACode.seq ?_
  refine ACode.seq ?_
  refine ACode.region ?_
  refine AOps.cons (St1.move rfl rfl rfl rfl rfl) ?_
  refine AOps.cons (St1.lenL (e := 67) (m := 2) (by' := 48) rfl rfl rfl rfl rfl (by kernel_rfl) rfl (by first | exact List.length_map _ | rfl)) ?_
  refine AOps.cons (St1.move rfl rfl rfl rfl rfl) ?_
  refine AOps.cons (St1.lenL (e := 67) (m := 2) (by' := 48) rfl rfl rfl rfl rfl (by kernel_rfl) rfl (by first | exact List.length_map _ | rfl)) ?_
  refine AOps.cons (St1.neq rfl rfl rfl rfl rfl rfl) ?_
  refine AOps.nil ?_
  refine ks_n ?_
  refine ACode.condT rfl (fun h14 => ?_) (fun h14 => ?_)
  · try simp only [List.length_map, decide_eq_true_eq, decide_eq_false_iff_not, Bool.not_eq_true', Bool.not_eq_false', Bool.not_eq_true, Bool.not_eq_false] at h14
    refine ACode.seq ?_
    refine ACode.region ?_
    refine AOps.cons (St1.assign rfl rfl rfl rfl rfl) ?_
    refine AOps.nil ?_
    refine ks_n ?_
    refine ACode.ret ?_
    refine ks_r ?_
    refine kf_ret rfl ?_ nobox
    exact leafB (eqF_len (by omega)).symm
  · try simp only [List.length_map, decide_eq_true_eq, decide_eq_false_iff_not, Bool.not_eq_true', Bool.not_eq_false', Bool.not_eq_true, Bool.not_eq_false] at h14
    refine ACode.skip ?_
    refine ks_n ?_
    refine ACode.seq ?_
    refine ACode.seq ?_
    refine ACode.region ?_
    refine AOps.cons (St1.move rfl rfl rfl rfl rfl) ?_
    refine AOps.cons (St1.lenL (e := 67) (m := 2) (by' := 48) rfl rfl rfl rfl rfl (by kernel_rfl) rfl (by first | exact List.length_map _ | rfl)) ?_
    refine AOps.cons (St1.move rfl rfl rfl rfl rfl) ?_
    refine AOps.nil ?_
    refine ks_n ?_
    refine ACode.block ?_
    refine ACode.wk (σ' := [(.t 1, .v (.o (vD (.list 2 (ys.map rL))))), (.t 2, .v (.o (.c (.fn f cap)))), (.t 15, .v (.o (vD (.list 2 (xs.map rL))))), (.t 16, .v (.o (nat1 (xs.length : Nat)))), (.t 17, .v (.o (nat1 (0 : Nat))))]) (Wk.keep [] rfl rfl ⟨⟨_, rfl, Vto.dat _ _ (by first | rfl | exact congrArg (fun z => V.o (nat1 z)) (by omega) | (simp; done) | omega) rfl⟩, ⟨_, rfl, Vto.dat _ _ (by first | rfl | exact congrArg (fun z => V.o (nat1 z)) (by omega) | (simp; done) | omega) rfl⟩, ⟨_, rfl, Vto.dat _ _ (by first | rfl | exact congrArg (fun z => V.o (nat1 z)) (by omega) | (simp; done) | omega) rfl⟩, ⟨_, rfl, Vto.dat _ _ (by first | rfl | exact congrArg (fun z => V.o (nat1 z)) (by omega) | (simp; done) | omega) rfl⟩, ⟨_, rfl, Vto.dat _ _ (by first | rfl | exact congrArg (fun z => V.o (nat1 z)) (by omega) | (simp; done) | omega) rfl⟩, trivial⟩) ?_
    refine ACode.loop (fun m σ => (∃ i : Nat, m = xs.length - i ∧ (i ≤ xs.length) ∧ (eqF p xs ys = eqF p (xs.drop i) (ys.drop i)) ∧ σ = [(.t 1, .v (.o (vD (.list 2 (ys.map rL))))), (.t 2, .v (.o (.c (.fn f cap)))), (.t 15, .v (.o (vD (.list 2 (xs.map rL))))), (.t 16, .v (.o (nat1 (xs.length : Nat)))), (.t 17, .v (.o (nat1 (i : Nat))))])) ((xs.length - 0)) ⟨0, rfl, by omega, by simp, rfl⟩ ?_
    rintro m σ ⟨i, hm0, hi, hF, rfl⟩
    refine ACode.seq ?_
    refine ACode.region ?_
    refine AOps.cons (St1.lss rfl rfl rfl rfl rfl rfl) ?_
    refine AOps.nil ?_
    refine ks_n ?_
    refine ACode.seq ?_
    refine ACode.condT rfl (fun h18 => ?_) (fun h18 => ?_)
    · try simp only [List.length_map, decide_eq_true_eq, decide_eq_false_iff_not, Bool.not_eq_true', Bool.not_eq_false', Bool.not_eq_true, Bool.not_eq_false] at h18
      obtain ⟨x, hx1⟩ : ∃ x, xs[i]? = some x := ⟨_, List.getElem?_eq_getElem (by omega)⟩
      obtain ⟨y, hy1⟩ : ∃ x, ys[i]? = some x := ⟨_, List.getElem?_eq_getElem (by omega)⟩
      refine ACode.skip ?_
      refine ks_n ?_
      refine ACode.seq ?_
      refine ACode.block ?_
      refine ACode.seq ?_
      refine ACode.region ?_
      refine AOps.cons (St1.move rfl rfl rfl rfl rfl) ?_
      refine AOps.cons (St1.indexL (e := 67) (sz := 2) (by' := 48) rfl rfl rfl rfl (by kernel_rfl) rfl rfl rfl rfl (by first | exact map_at (by assumption) | rfl)) ?_
      refine AOps.cons (St1.loadPN (m := 2) rfl rfl rfl rfl (by kernel_rfl) rfl rfl) ?_
      refine AOps.cons (St1.alloc (k' := 108) (zs := [.slice none 0 0, .slice none 0 0]) rfl rfl rfl rfl (by kernel_rfl) rfl rfl rfl) ?_
      refine AOps.cons (St1.assign rfl rfl rfl rfl rfl) ?_
      refine AOps.cons (St1.store (m := 2) (rw' := true) rfl rfl rfl (by kernel_rfl) rfl rfl rfl rfl rfl rfl rfl) ?_
      refine AOps.nil ?_
      refine ks_n ?_
      refine ACode.seq ?_
      refine ACode.region ?_
      refine AOps.cons (St1.move rfl rfl rfl rfl rfl) ?_
      refine AOps.cons (St1.move rfl rfl rfl rfl rfl) ?_
      refine AOps.cons (St1.indexL (e := 67) (sz := 2) (by' := 48) rfl rfl rfl rfl (by kernel_rfl) rfl rfl rfl rfl (by first | exact map_at (by assumption) | rfl)) ?_
      refine AOps.cons (St1.loadPN (m := 2) rfl rfl rfl rfl (by kernel_rfl) rfl rfl) ?_
      refine AOps.cons (St1.alloc (k' := 109) (zs := [.slice none 0 0, .slice none 0 0]) rfl rfl rfl rfl (by kernel_rfl) rfl rfl rfl) ?_
      refine AOps.cons (St1.store (m := 2) (rw' := true) rfl rfl rfl (by kernel_rfl) rfl rfl rfl rfl rfl rfl rfl) ?_
      refine AOps.nil ?_
      refine ks_n ?_
      refine ACode.seq ?_
      refine ACode.region ?_
      refine AOps.cons (St1.move rfl rfl rfl rfl rfl) ?_
      refine AOps.cons (St1.loadBN (m := 2) rfl rfl rfl rfl (by kernel_rfl) rfl rfl rfl rfl rfl) ?_
      refine AOps.cons (St1.loadBN (m := 2) rfl rfl rfl rfl (by kernel_rfl) rfl rfl rfl rfl rfl) ?_
      refine AOps.cons (St1.callP (xs := [.tmp 27, .tmp 28]) rfl rfl rfl rfl rfl rfl hc rfl (hf x (List.mem_of_getElem? hx1) y (List.mem_of_getElem? hy1)) rfl) ?_
      refine AOps.cons (St1.not rfl rfl rfl rfl rfl) ?_
      refine AOps.nil ?_
      refine ks_n ?_
      refine ACode.condT rfl (fun h30 => ?_) (fun h30 => ?_)
      · try simp only [List.length_map, decide_eq_true_eq, decide_eq_false_iff_not, Bool.not_eq_true', Bool.not_eq_false', Bool.not_eq_true, Bool.not_eq_false] at h30
        have g := h30
        refine ACode.seq ?_
        refine ACode.region ?_
        refine AOps.cons (St1.assign rfl rfl rfl rfl rfl) ?_
        refine AOps.nil ?_
        refine ks_n ?_
        refine ACode.ret ?_
        refine kb_r ?_
        refine ks_r ?_
        refine kl_r ?_
        refine kb_r ?_
        refine ks_r ?_
        refine kf_ret rfl ?_ nobox
        exact leafB (by rw [hF, eqF_drop hx1 hy1, g]; rfl)
      · try simp only [List.length_map, decide_eq_true_eq, decide_eq_false_iff_not, Bool.not_eq_true', Bool.not_eq_false', Bool.not_eq_true, Bool.not_eq_false] at h30
        have g := h30
        refine ACode.skip ?_
        refine kb_n ?_
        refine ks_n ?_
        refine ACode.region ?_
        refine AOps.cons (St1.add rfl rfl rfl rfl rfl rfl (by omega)) ?_
        refine AOps.cons (St1.move rfl rfl rfl rfl rfl) ?_
        refine AOps.nil ?_
        refine kl_n (σ2 := [(.t 1, .v (.o (vD (.list 2 (ys.map rL))))), (.t 2, .v (.o (.c (.fn f cap)))), (.t 15, .v (.o (vD (.list 2 (xs.map rL))))), (.t 16, .v (.o (nat1 (xs.length : Nat)))), (.t 17, .v (.o (nat1 ((i + 1) : Nat))))]) ((xs.length - (i + 1))) (by omega) (Wk.keep [] rfl rfl ⟨⟨_, rfl, Vto.dat _ _ (by first | rfl | exact congrArg (fun z => V.o (nat1 z)) (by omega) | (simp; done) | omega) rfl⟩, ⟨_, rfl, Vto.dat _ _ (by first | rfl | exact congrArg (fun z => V.o (nat1 z)) (by omega) | (simp; done) | omega) rfl⟩, ⟨_, rfl, Vto.dat _ _ (by first | rfl | exact congrArg (fun z => V.o (nat1 z)) (by omega) | (simp; done) | omega) rfl⟩, ⟨_, rfl, Vto.dat _ _ (by first | rfl | exact congrArg (fun z => V.o (nat1 z)) (by omega) | (simp; done) | omega) rfl⟩, ⟨_, rfl, Vto.dat _ _ (by first | rfl | exact congrArg (fun z => V.o (nat1 z)) (by omega) | (simp; done) | omega) rfl⟩, trivial⟩) ⟨i + 1, rfl, by omega, by rw [hF, eqF_drop hx1 hy1, g, Bool.true_and], rfl⟩
    · try simp only [List.length_map, decide_eq_true_eq, decide_eq_false_iff_not, Bool.not_eq_true', Bool.not_eq_false', Bool.not_eq_true, Bool.not_eq_false] at h18
      refine ACode.exit ?_
      refine ks_e ?_
      refine kl_e ?_
      refine kb_hit ?_
      refine ks_n ?_
      refine ACode.seq ?_
      refine ACode.region ?_
      refine AOps.cons (St1.assign rfl rfl rfl rfl rfl) ?_
      refine AOps.nil ?_
      refine ks_n ?_
      refine ACode.ret ?_
      refine kf_ret rfl ?_ nobox
      exact leafB (by rw [hF, show i = xs.length by omega, eqF_end (by omega)])

set_option maxRecDepth 100000 in
set_option maxHeartbeats 1600000 in
theorem eqf_aff {f : FuncId} {cap : List (List D)} (hc : callable Try.prog f = true) (p : Aff → Aff → Bool) (xs ys : List Aff) (hx : xs.length ≤ 1099511627776) (hf : ∀ x ∈ xs, ∀ y ∈ ys, Fn Try.prog f [] (ad (rA x) :: ad (rA y) :: cap.map fun c => .c (.ptr c)) (.o (bo1 (p x y))) []) : Fn Try.prog 49 [] [vD (.list 2 (xs.map rA)), vD (.list 2 (ys.map rA)), .c (.fn f cap)] (.o (bo1 (eqF p xs ys))) [] := by
  refine Fn.code0 Try.func49 rfl rfl rfl rfl ?_
  refine ACode.seq ?_
  refine ACode.region ?_
  refine AOps.cons (St1.assign rfl rfl rfl rfl rfl) ?_
  refine AOps.nil ?_
  refine ks_n ?_
  refine ACode.seq ?_
  refine ACode.seq ?_
  refine ACode.region ?_
  refine AOps.cons (St1.move rfl rfl rfl rfl rfl) ?_
  refine AOps.cons (St1.lenL (e := 51) (m := 2) (by' := 32) rfl rfl rfl rfl rfl (by kernel_rfl) rfl (by first | exact List.length_map _ | rfl)) ?_
  refine AOps.cons (St1.move rfl rfl rfl rfl rfl) ?_
  refine AOps.cons (St1.lenL (e := 51) (m := 2) (by' := 32) rfl rfl rfl rfl rfl (by kernel_rfl) rfl (by first | exact List.length_map _ | rfl)) ?_
  refine AOps.cons (St1.neq rfl rfl rfl rfl rfl rfl) ?_
  refine AOps.nil ?_
  refine ks_n ?_
  refine ACode.condT rfl (fun h14 => ?_) (fun h14 => ?_)
  · try simp only [List.length_map, decide_eq_true_eq, decide_eq_false_iff_not, Bool.not_eq_true', Bool.not_eq_false', Bool.not_eq_true, Bool.not_eq_false] at h14
    refine ACode.seq ?_
    refine ACode.region ?_
    refine AOps.cons (St1.assign rfl rfl rfl rfl rfl) ?_
    refine AOps.nil ?_
    refine ks_n ?_
    refine ACode.ret ?_
    refine ks_r ?_
    refine kf_ret rfl ?_ nobox
    exact leafB (eqF_len (by omega)).symm
  · try simp only [List.length_map, decide_eq_true_eq, decide_eq_false_iff_not, Bool.not_eq_true', Bool.not_eq_false', Bool.not_eq_true, Bool.not_eq_false] at h14
    refine ACode.skip ?_
    refine ks_n ?_
    refine ACode.seq ?_
    refine ACode.seq ?_
    refine ACode.region ?_
    refine AOps.cons (St1.move rfl rfl rfl rfl rfl) ?_
    refine AOps.cons (St1.lenL (e := 51) (m := 2) (by' := 32) rfl rfl rfl rfl rfl (by kernel_rfl) rfl (by first | exact List.length_map _ | rfl)) ?_
    refine AOps.cons (St1.move rfl rfl rfl rfl rfl) ?_
    refine AOps.nil ?_
    refine ks_n ?_
    refine ACode.block ?_
    refine ACode.wk (σ' := [(.t 1, .v (.o (vD (.list 2 (ys.map rA))))), (.t 2, .v (.o (.c (.fn f cap)))), (.t 15, .v (.o (vD (.list 2 (xs.map rA))))), (.t 16, .v (.o (nat1 (xs.length : Nat)))), (.t 17, .v (.o (nat1 (0 : Nat))))]) (Wk.keep [] rfl rfl ⟨⟨_, rfl, Vto.dat _ _ (by first | rfl | exact congrArg (fun z => V.o (nat1 z)) (by omega) | (simp; done) | omega) rfl⟩, ⟨_, rfl, Vto.dat _ _ (by first | rfl | exact congrArg (fun z => V.o (nat1 z)) (by omega) | (simp; done) | omega) rfl⟩, ⟨_, rfl, Vto.dat _ _ (by first | rfl | exact congrArg (fun z => V.o (nat1 z)) (by omega) | (simp; done) | omega) rfl⟩, ⟨_, rfl, Vto.dat _ _ (by first | rfl | exact congrArg (fun z => V.o (nat1 z)) (by omega) | (simp; done) | omega) rfl⟩, ⟨_, rfl, Vto.dat _ _ (by first | rfl | exact congrArg (fun z => V.o (nat1 z)) (by omega) | (simp; done) | omega) rfl⟩, trivial⟩) ?_
    refine ACode.loop (fun m σ => (∃ i : Nat, m = xs.length - i ∧ (i ≤ xs.length) ∧ (eqF p xs ys = eqF p (xs.drop i) (ys.drop i)) ∧ σ = [(.t 1, .v (.o (vD (.list 2 (ys.map rA))))), (.t 2, .v (.o (.c (.fn f cap)))), (.t 15, .v (.o (vD (.list 2 (xs.map rA))))), (.t 16, .v (.o (nat1 (xs.length : Nat)))), (.t 17, .v (.o (nat1 (i : Nat))))])) ((xs.length - 0)) ⟨0, rfl, by omega, by simp, rfl⟩ ?_
    rintro m σ ⟨i, hm0, hi, hF, rfl⟩
    refine ACode.seq ?_
    refine ACode.region ?_
    refine AOps.cons (St1.lss rfl rfl rfl rfl rfl rfl) ?_
    refine AOps.nil ?_
    refine ks_n ?_
    refine ACode.seq ?_
    refine ACode.condT rfl (fun h18 => ?_) (fun h18 => ?_)
    · try simp only [List.length_map, decide_eq_true_eq, decide_eq_false_iff_not, Bool.not_eq_true', Bool.not_eq_false', Bool.not_eq_true, Bool.not_eq_false] at h18
      obtain ⟨x, hx1⟩ : ∃ x, xs[i]? = some x := ⟨_, List.getElem?_eq_getElem (by omega)⟩
      obtain ⟨y, hy1⟩ : ∃ x, ys[i]? = some x := ⟨_, List.getElem?_eq_getElem (by omega)⟩
      refine ACode.skip ?_
      refine ks_n ?_
      refine ACode.seq ?_
      refine ACode.block ?_
      refine ACode.seq ?_
      refine ACode.region ?_
      refine AOps.cons (St1.move rfl rfl rfl rfl rfl) ?_
      refine AOps.cons (St1.indexL (e := 51) (sz := 2) (by' := 32) rfl rfl rfl rfl (by kernel_rfl) rfl rfl rfl rfl (by first | exact map_at (by assumption) | rfl)) ?_
      refine AOps.cons (St1.loadPN (m := 2) rfl rfl rfl rfl (by kernel_rfl) rfl rfl) ?_
      refine AOps.cons (St1.alloc (k' := 108) (zs := [.slice none 0 0, .int .i64 0]) rfl rfl rfl rfl (by kernel_rfl) rfl rfl rfl) ?_
      refine AOps.cons (St1.assign rfl rfl rfl rfl rfl) ?_
      refine AOps.cons (St1.store (m := 2) (rw' := true) rfl rfl rfl (by kernel_rfl) rfl rfl rfl rfl rfl rfl rfl) ?_
      refine AOps.nil ?_
      refine ks_n ?_
      refine ACode.seq ?_
      refine ACode.region ?_
      refine AOps.cons (St1.move rfl rfl rfl rfl rfl) ?_
      refine AOps.cons (St1.move rfl rfl rfl rfl rfl) ?_
      refine AOps.cons (St1.indexL (e := 51) (sz := 2) (by' := 32) rfl rfl rfl rfl (by kernel_rfl) rfl rfl rfl rfl (by first | exact map_at (by assumption) | rfl)) ?_
      refine AOps.cons (St1.loadPN (m := 2) rfl rfl rfl rfl (by kernel_rfl) rfl rfl) ?_
      refine AOps.cons (St1.alloc (k' := 109) (zs := [.slice none 0 0, .int .i64 0]) rfl rfl rfl rfl (by kernel_rfl) rfl rfl rfl) ?_
      refine AOps.cons (St1.store (m := 2) (rw' := true) rfl rfl rfl (by kernel_rfl) rfl rfl rfl rfl rfl rfl rfl) ?_
      refine AOps.nil ?_
      refine ks_n ?_
      refine ACode.seq ?_
      refine ACode.region ?_
      refine AOps.cons (St1.move rfl rfl rfl rfl rfl) ?_
      refine AOps.cons (St1.loadBN (m := 2) rfl rfl rfl rfl (by kernel_rfl) rfl rfl rfl rfl rfl) ?_
      refine AOps.cons (St1.loadBN (m := 2) rfl rfl rfl rfl (by kernel_rfl) rfl rfl rfl rfl rfl) ?_
      refine AOps.cons (St1.callP (xs := [.tmp 27, .tmp 28]) rfl rfl rfl rfl rfl rfl hc rfl (hf x (List.mem_of_getElem? hx1) y (List.mem_of_getElem? hy1)) rfl) ?_
      refine AOps.cons (St1.not rfl rfl rfl rfl rfl) ?_
      refine AOps.nil ?_
      refine ks_n ?_
      refine ACode.condT rfl (fun h30 => ?_) (fun h30 => ?_)
      · try simp only [List.length_map, decide_eq_true_eq, decide_eq_false_iff_not, Bool.not_eq_true', Bool.not_eq_false', Bool.not_eq_true, Bool.not_eq_false] at h30
        have g := h30
        refine ACode.seq ?_
        refine ACode.region ?_
        refine AOps.cons (St1.assign rfl rfl rfl rfl rfl) ?_
        refine AOps.nil ?_
        refine ks_n ?_
        refine ACode.ret ?_
        refine kb_r ?_
        refine ks_r ?_
        refine kl_r ?_
        refine kb_r ?_
        refine ks_r ?_
        refine kf_ret rfl ?_ nobox
        exact leafB (by rw [hF, eqF_drop hx1 hy1, g]; rfl)
      · try simp only [List.length_map, decide_eq_true_eq, decide_eq_false_iff_not, Bool.not_eq_true', Bool.not_eq_false', Bool.not_eq_true, Bool.not_eq_false] at h30
        have g := h30
        refine ACode.skip ?_
        refine kb_n ?_
        refine ks_n ?_
        refine ACode.region ?_
        refine AOps.cons (St1.add rfl rfl rfl rfl rfl rfl (by omega)) ?_
        refine AOps.cons (St1.move rfl rfl rfl rfl rfl) ?_
        refine AOps.nil ?_
        refine kl_n (σ2 := [(.t 1, .v (.o (vD (.list 2 (ys.map rA))))), (.t 2, .v (.o (.c (.fn f cap)))), (.t 15, .v (.o (vD (.list 2 (xs.map rA))))), (.t 16, .v (.o (nat1 (xs.length : Nat)))), (.t 17, .v (.o (nat1 ((i + 1) : Nat))))]) ((xs.length - (i + 1))) (by omega) (Wk.keep [] rfl rfl ⟨⟨_, rfl, Vto.dat _ _ (by first | rfl | exact congrArg (fun z => V.o (nat1 z)) (by omega) | (simp; done) | omega) rfl⟩, ⟨_, rfl, Vto.dat _ _ (by first | rfl | exact congrArg (fun z => V.o (nat1 z)) (by omega) | (simp; done) | omega) rfl⟩, ⟨_, rfl, Vto.dat _ _ (by first | rfl | exact congrArg (fun z => V.o (nat1 z)) (by omega) | (simp; done) | omega) rfl⟩, ⟨_, rfl, Vto.dat _ _ (by first | rfl | exact congrArg (fun z => V.o (nat1 z)) (by omega) | (simp; done) | omega) rfl⟩, ⟨_, rfl, Vto.dat _ _ (by first | rfl | exact congrArg (fun z => V.o (nat1 z)) (by omega) | (simp; done) | omega) rfl⟩, trivial⟩) ⟨i + 1, rfl, by omega, by rw [hF, eqF_drop hx1 hy1, g, Bool.true_and], rfl⟩
    · try simp only [List.length_map, decide_eq_true_eq, decide_eq_false_iff_not, Bool.not_eq_true', Bool.not_eq_false', Bool.not_eq_true, Bool.not_eq_false] at h18
      refine ACode.exit ?_
      refine ks_e ?_
      refine kl_e ?_
      refine kb_hit ?_
      refine ks_n ?_
      refine ACode.seq ?_
      refine ACode.region ?_
      refine AOps.cons (St1.assign rfl rfl rfl rfl rfl) ?_
      refine AOps.nil ?_
      refine ks_n ?_
      refine ACode.ret ?_
      refine kf_ret rfl ?_ nobox
      exact leafB (by rw [hF, show i = xs.length by omega, eqF_end (by omega)])

set_option maxRecDepth 100000 in
set_option maxHeartbeats 1600000 in
theorem idx_aff {f : FuncId} {cap : List (List D)} (hc : callable Try.prog f = true) (p : Aff → Bool) (xs : List Aff) (hx : xs.length ≤ 1099511627776) (hf : ∀ x ∈ xs, Fn Try.prog f [] (ad (rA x) :: cap.map fun c => .c (.ptr c)) (.o (bo1 (p x))) []) : Fn Try.prog 111 [] [vD (.list 2 (xs.map rA)), .c (.fn f cap)] (.o (nat1 (idxF p xs))) [] := by
  refine Fn.code0 Try.func111 rfl rfl rfl rfl ?_
  refine ACode.seq ?_
  refine ACode.region ?_
  refine AOps.cons (St1.assign rfl rfl rfl rfl rfl) ?_
  refine AOps.nil ?_
  refine ks_n ?_
  refine ACode.seq ?_
  refine ACode.seq ?_
  refine ACode.region ?_
  refine AOps.cons (St1.move rfl rfl rfl rfl rfl) ?_
  refine AOps.cons (St1.lenL (e := 51) (m := 2) (by' := 32) rfl rfl rfl rfl rfl (by kernel_rfl) rfl (by first | exact List.length_map _ | rfl)) ?_
  refine AOps.cons (St1.move rfl rfl rfl rfl rfl) ?_
  refine AOps.nil ?_
  refine ks_n ?_
  refine ACode.block ?_
  refine ACode.wk (σ' := [(.t 0, .v (.o (vD (.list 2 (xs.map rA))))), (.t 1, .v (.o (.c (.fn f cap)))), (.t 7, .v (.o (nat1 (xs.length : Nat)))), (.t 8, .v (.o (nat1 (0 : Nat))))]) (Wk.keep [] rfl rfl ⟨⟨_, rfl, Vto.dat _ _ (by first | rfl | exact congrArg (fun z => V.o (nat1 z)) (by omega) | (simp; done) | omega) rfl⟩, ⟨_, rfl, Vto.dat _ _ (by first | rfl | exact congrArg (fun z => V.o (nat1 z)) (by omega) | (simp; done) | omega) rfl⟩, ⟨_, rfl, Vto.dat _ _ (by first | rfl | exact congrArg (fun z => V.o (nat1 z)) (by omega) | (simp; done) | omega) rfl⟩, ⟨_, rfl, Vto.dat _ _ (by first | rfl | exact congrArg (fun z => V.o (nat1 z)) (by omega) | (simp; done) | omega) rfl⟩, trivial⟩) ?_
  refine ACode.loop (fun m σ => (∃ i : Nat, m = xs.length - i ∧ (i ≤ xs.length) ∧ (idxF p xs = idxG p i (xs.drop i)) ∧ σ = [(.t 0, .v (.o (vD (.list 2 (xs.map rA))))), (.t 1, .v (.o (.c (.fn f cap)))), (.t 7, .v (.o (nat1 (xs.length : Nat)))), (.t 8, .v (.o (nat1 (i : Nat))))])) ((xs.length - 0)) ⟨0, rfl, by omega, rfl, rfl⟩ ?_
  rintro m σ ⟨i, hm0, hi, hF, rfl⟩
  refine ACode.seq ?_
  refine ACode.region ?_
  refine AOps.cons (St1.lss rfl rfl rfl rfl rfl rfl) ?_
  refine AOps.nil ?_
  refine ks_n ?_
  refine ACode.seq ?_
  refine ACode.condT rfl (fun h9 => ?_) (fun h9 => ?_)
  · try simp only [List.length_map, decide_eq_true_eq, decide_eq_false_iff_not, Bool.not_eq_true', Bool.not_eq_false', Bool.not_eq_true, Bool.not_eq_false] at h9
    obtain ⟨x, hx1⟩ : ∃ x, xs[i]? = some x := ⟨_, List.getElem?_eq_getElem (by omega)⟩
    refine ACode.skip ?_
    refine ks_n ?_
    refine ACode.seq ?_
    refine ACode.block ?_
    refine ACode.seq ?_
    refine ACode.region ?_
    refine AOps.cons (St1.move rfl rfl rfl rfl rfl) ?_
    refine AOps.cons (St1.assign rfl rfl rfl rfl rfl) ?_
    refine AOps.nil ?_
    refine ks_n ?_
    refine ACode.seq ?_
    refine ACode.region ?_
    refine AOps.cons (St1.move rfl rfl rfl rfl rfl) ?_
    refine AOps.cons (St1.move rfl rfl rfl rfl rfl) ?_
    refine AOps.cons (St1.move rfl rfl rfl rfl rfl) ?_
    refine AOps.cons (St1.indexL (e := 51) (sz := 2) (by' := 32) rfl rfl rfl rfl (by kernel_rfl) rfl rfl rfl rfl (by first | exact map_at (by assumption) | rfl)) ?_
    refine AOps.cons (St1.loadPN (m := 2) rfl rfl rfl rfl (by kernel_rfl) rfl rfl) ?_
    refine AOps.cons (St1.callP (xs := [.tmp 15]) rfl rfl rfl rfl rfl rfl hc rfl (hf x (List.mem_of_getElem? hx1)) rfl) ?_
    refine AOps.nil ?_
    refine ks_n ?_
    refine ACode.condT rfl (fun h16 => ?_) (fun h16 => ?_)
    · try simp only [List.length_map, decide_eq_true_eq, decide_eq_false_iff_not, Bool.not_eq_true', Bool.not_eq_false', Bool.not_eq_true, Bool.not_eq_false] at h16
      refine ACode.seq ?_
      refine ACode.region ?_
      refine AOps.cons (St1.move rfl rfl rfl rfl rfl) ?_
      refine AOps.cons (St1.assign rfl rfl rfl rfl rfl) ?_
      refine AOps.nil ?_
      refine ks_n ?_
      refine ACode.ret ?_
      refine kb_r ?_
      refine ks_r ?_
      refine kl_r ?_
      refine kb_r ?_
      refine ks_r ?_
      refine kf_ret rfl ?_ nobox
      exact leafI (by rw [hF, idxG_drop hx1, h16]; rfl)
    · try simp only [List.length_map, decide_eq_true_eq, decide_eq_false_iff_not, Bool.not_eq_true', Bool.not_eq_false', Bool.not_eq_true, Bool.not_eq_false] at h16
      refine ACode.skip ?_
      refine kb_n ?_
      refine ks_n ?_
      refine ACode.region ?_
      refine AOps.cons (St1.add rfl rfl rfl rfl rfl rfl (by omega)) ?_
      refine AOps.cons (St1.move rfl rfl rfl rfl rfl) ?_
      refine AOps.nil ?_
      refine kl_n (σ2 := [(.t 0, .v (.o (vD (.list 2 (xs.map rA))))), (.t 1, .v (.o (.c (.fn f cap)))), (.t 7, .v (.o (nat1 (xs.length : Nat)))), (.t 8, .v (.o (nat1 ((i + 1) : Nat))))]) ((xs.length - (i + 1))) (by omega) (Wk.keep [] rfl rfl ⟨⟨_, rfl, Vto.dat _ _ (by first | rfl | exact congrArg (fun z => V.o (nat1 z)) (by omega) | (simp; done) | omega) rfl⟩, ⟨_, rfl, Vto.dat _ _ (by first | rfl | exact congrArg (fun z => V.o (nat1 z)) (by omega) | (simp; done) | omega) rfl⟩, ⟨_, rfl, Vto.dat _ _ (by first | rfl | exact congrArg (fun z => V.o (nat1 z)) (by omega) | (simp; done) | omega) rfl⟩, ⟨_, rfl, Vto.dat _ _ (by first | rfl | exact congrArg (fun z => V.o (nat1 z)) (by omega) | (simp; done) | omega) rfl⟩, trivial⟩) ⟨i + 1, rfl, by omega, by rw [hF, idxG_drop hx1, h16]; rfl, rfl⟩
  · try simp only [List.length_map, decide_eq_true_eq, decide_eq_false_iff_not, Bool.not_eq_true', Bool.not_eq_false', Bool.not_eq_true, Bool.not_eq_false] at h9
    refine ACode.exit ?_
    refine ks_e ?_
    refine kl_e ?_
    refine kb_hit ?_
    refine ks_n ?_
    refine ACode.seq ?_
    refine ACode.region ?_
    refine AOps.cons (St1.assign rfl rfl rfl rfl rfl) ?_
    refine AOps.nil ?_
    refine ks_n ?_
    refine ACode.ret ?_
    refine kf_ret rfl ?_ nobox
    exact leafI (by rw [hF, List.drop_of_length_le (by omega)]; rfl)

set_option maxRecDepth 100000 in
set_option maxHeartbeats 1600000 in
theorem cnt_aff {f : FuncId} {cap : List (List D)} (hc : callable Try.prog f = true) (p : Aff → Bool) (xs : List Aff) (hx : xs.length ≤ 1099511627776) (hf : ∀ x ∈ xs, Fn Try.prog f [] (ad (rA x) :: cap.map fun c => .c (.ptr c)) (.o (bo1 (p x))) []) : Fn Try.prog 96 [] [vD (.list 2 (xs.map rA)), .c (.fn f cap)] (.o (bo1 (xs.any p))) [] := by
  refine Fn.code0 Try.func96 rfl rfl rfl rfl ?_
  refine ACode.seq ?_
  refine ACode.region ?_
  refine AOps.cons (St1.assign rfl rfl rfl rfl rfl) ?_
  refine AOps.nil ?_
  refine ks_n ?_
  refine ACode.seq ?_
  refine ACode.region ?_
  refine AOps.cons (St1.move rfl rfl rfl rfl rfl) ?_
  refine AOps.cons (St1.move rfl rfl rfl rfl rfl) ?_
  refine AOps.cons (St1.callP (xs := [.tmp 5, .tmp 6]) rfl rfl rfl rfl rfl rfl (by kernel_rfl) rfl (idx_aff hc p xs hx hf) rfl) ?_
  refine AOps.cons (St1.geq rfl rfl rfl rfl rfl rfl) ?_
  refine AOps.cons (St1.assign rfl rfl rfl rfl rfl) ?_
  refine AOps.nil ?_
  refine ks_n ?_
  refine ACode.ret ?_
  refine kf_ret rfl ?_ nobox
  exact leafB idxG_any

set_option maxRecDepth 100000 in
set_option maxHeartbeats 1600000 in
theorem idx_lp {f : FuncId} {cap : List (List D)} (hc : callable Try.prog f = true) (p : Lp → Bool) (xs : List Lp) (hx : xs.length ≤ 1099511627776) (hf : ∀ x ∈ xs, Fn Try.prog f [] (ad (rL x) :: cap.map fun c => .c (.ptr c)) (.o (bo1 (p x))) []) : Fn Try.prog 98 [] [vD (.list 2 (xs.map rL)), .c (.fn f cap)] (.o (nat1 (idxF p xs))) [] := by
  refine Fn.code0 Try.func98 rfl rfl rfl rfl ?_
  refine ACode.seq ?_
  refine ACode.region ?_
  refine AOps.cons (St1.assign rfl rfl rfl rfl rfl) ?_
  refine AOps.nil ?_
  refine ks_n ?_
  refine ACode.seq ?_
  refine ACode.seq ?_
  refine ACode.region ?_
  refine AOps.cons (St1.move rfl rfl rfl rfl rfl) ?_
  refine AOps.cons (St1.lenL (e := 67) (m := 2) (by' := 48) rfl rfl rfl rfl rfl (by kernel_rfl) rfl (by first | exact List.length_map _ | rfl)) ?_
  refine AOps.cons (St1.move rfl rfl rfl rfl rfl) ?_
  refine AOps.nil ?_
  refine ks_n ?_
  refine ACode.block ?_
  refine ACode.wk (σ' := [(.t 0, .v (.o (vD (.list 2 (xs.map rL))))), (.t 1, .v (.o (.c (.fn f cap)))), (.t 7, .v (.o (nat1 (xs.length : Nat)))), (.t 8, .v (.o (nat1 (0 : Nat))))]) (Wk.keep [] rfl rfl ⟨⟨_, rfl, Vto.dat _ _ (by first | rfl | exact congrArg (fun z => V.o (nat1 z)) (by omega) | (simp; done) | omega) rfl⟩, ⟨_, rfl, Vto.dat _ _ (by first | rfl | exact congrArg (fun z => V.o (nat1 z)) (by omega) | (simp; done) | omega) rfl⟩, ⟨_, rfl, Vto.dat _ _ (by first | rfl | exact congrArg (fun z => V.o (nat1 z)) (by omega) | (simp; done) | omega) rfl⟩, ⟨_, rfl, Vto.dat _ _ (by first | rfl | exact congrArg (fun z => V.o (nat1 z)) (by omega) | (simp; done) | omega) rfl⟩, trivial⟩) ?_
  refine ACode.loop (fun m σ => (∃ i : Nat, m = xs.length - i ∧ (i ≤ xs.length) ∧ (idxF p xs = idxG p i (xs.drop i)) ∧ σ = [(.t 0, .v (.o (vD (.list 2 (xs.map rL))))), (.t 1, .v (.o (.c (.fn f cap)))), (.t 7, .v (.o (nat1 (xs.length : Nat)))), (.t 8, .v (.o (nat1 (i : Nat))))])) ((xs.length - 0)) ⟨0, rfl, by omega, rfl, rfl⟩ ?_
  rintro m σ ⟨i, hm0, hi, hF, rfl⟩
  refine ACode.seq ?_
  refine ACode.region ?_
  refine AOps.cons (St1.lss rfl rfl rfl rfl rfl rfl) ?_
  refine AOps.nil ?_
  refine ks_n ?_
  refine ACode.seq ?_
  refine ACode.condT rfl (fun h9 => ?_) (fun h9 => ?_)
  · try simp only [List.length_map, decide_eq_true_eq, decide_eq_false_iff_not, Bool.not_eq_true', Bool.not_eq_false', Bool.not_eq_true, Bool.not_eq_false] at h9
    obtain ⟨x, hx1⟩ : ∃ x, xs[i]? = some x := ⟨_, List.getElem?_eq_getElem (by omega)⟩
    refine ACode.skip ?_
    refine ks_n ?_
    refine ACode.seq ?_
    refine ACode.block ?_
    refine ACode.seq ?_
    refine ACode.region ?_
    refine AOps.cons (St1.move rfl rfl rfl rfl rfl) ?_
    refine AOps.cons (St1.assign rfl rfl rfl rfl rfl) ?_
    refine AOps.nil ?_
    refine ks_n ?_
    refine ACode.seq ?_
    refine ACode.region ?_
    refine AOps.cons (St1.move rfl rfl rfl rfl rfl) ?_
    refine AOps.cons (St1.move rfl rfl rfl rfl rfl) ?_
    refine AOps.cons (St1.move rfl rfl rfl rfl rfl) ?_
    refine AOps.cons (St1.indexL (e := 67) (sz := 2) (by' := 48) rfl rfl rfl rfl (by kernel_rfl) rfl rfl rfl rfl (by first | exact map_at (by assumption) | rfl)) ?_
    refine AOps.cons (St1.loadPN (m := 2) rfl rfl rfl rfl (by kernel_rfl) rfl rfl) ?_
    refine AOps.cons (St1.callP (xs := [.tmp 15]) rfl rfl rfl rfl rfl rfl hc rfl (hf x (List.mem_of_getElem? hx1)) rfl) ?_
    refine AOps.nil ?_
    refine ks_n ?_
    refine ACode.condT rfl (fun h16 => ?_) (fun h16 => ?_)
    · try simp only [List.length_map, decide_eq_true_eq, decide_eq_false_iff_not, Bool.not_eq_true', Bool.not_eq_false', Bool.not_eq_true, Bool.not_eq_false] at h16
      refine ACode.seq ?_
      refine ACode.region ?_
      refine AOps.cons (St1.move rfl rfl rfl rfl rfl) ?_
      refine AOps.cons (St1.assign rfl rfl rfl rfl rfl) ?_
      refine AOps.nil ?_
      refine ks_n ?_
      refine ACode.ret ?_
      refine kb_r ?_
      refine ks_r ?_
      refine kl_r ?_
      refine kb_r ?_
      refine ks_r ?_
      refine kf_ret rfl ?_ nobox
      exact leafI (by rw [hF, idxG_drop hx1, h16]; rfl)
    · try simp only [List.length_map, decide_eq_true_eq, decide_eq_false_iff_not, Bool.not_eq_true', Bool.not_eq_false', Bool.not_eq_true, Bool.not_eq_false] at h16
      refine ACode.skip ?_
      refine kb_n ?_
      refine ks_n ?_
      refine ACode.region ?_
      refine AOps.cons (St1.add rfl rfl rfl rfl rfl rfl (by omega)) ?_
      refine AOps.cons (St1.move rfl rfl rfl rfl rfl) ?_
      refine AOps.nil ?_
      refine kl_n (σ2 := [(.t 0, .v (.o (vD (.list 2 (xs.map rL))))), (.t 1, .v (.o (.c (.fn f cap)))), (.t 7, .v (.o (nat1 (xs.length : Nat)))), (.t 8, .v (.o (nat1 ((i + 1) : Nat))))]) ((xs.length - (i + 1))) (by omega) (Wk.keep [] rfl rfl ⟨⟨_, rfl, Vto.dat _ _ (by first | rfl | exact congrArg (fun z => V.o (nat1 z)) (by omega) | (simp; done) | omega) rfl⟩, ⟨_, rfl, Vto.dat _ _ (by first | rfl | exact congrArg (fun z => V.o (nat1 z)) (by omega) | (simp; done) | omega) rfl⟩, ⟨_, rfl, Vto.dat _ _ (by first | rfl | exact congrArg (fun z => V.o (nat1 z)) (by omega) | (simp; done) | omega) rfl⟩, ⟨_, rfl, Vto.dat _ _ (by first | rfl | exact congrArg (fun z => V.o (nat1 z)) (by omega) | (simp; done) | omega) rfl⟩, trivial⟩) ⟨i + 1, rfl, by omega, by rw [hF, idxG_drop hx1, h16]; rfl, rfl⟩
  · try simp only [List.length_map, decide_eq_true_eq, decide_eq_false_iff_not, Bool.not_eq_true', Bool.not_eq_false', Bool.not_eq_true, Bool.not_eq_false] at h9
    refine ACode.exit ?_
    refine ks_e ?_
    refine kl_e ?_
    refine kb_hit ?_
    refine ks_n ?_
    refine ACode.seq ?_
    refine ACode.region ?_
    refine AOps.cons (St1.assign rfl rfl rfl rfl rfl) ?_
    refine AOps.nil ?_
    refine ks_n ?_
    refine ACode.ret ?_
    refine kf_ret rfl ?_ nobox
    exact leafI (by rw [hF, List.drop_of_length_le (by omega)]; rfl)

set_option maxRecDepth 100000 in
set_option maxHeartbeats 1600000 in
theorem cnt_lp {f : FuncId} {cap : List (List D)} (hc : callable Try.prog f = true) (p : Lp → Bool) (xs : List Lp) (hx : xs.length ≤ 1099511627776) (hf : ∀ x ∈ xs, Fn Try.prog f [] (ad (rL x) :: cap.map fun c => .c (.ptr c)) (.o (bo1 (p x))) []) : Fn Try.prog 61 [] [vD (.list 2 (xs.map rL)), .c (.fn f cap)] (.o (bo1 (xs.any p))) [] := by
  refine Fn.code0 Try.func61 rfl rfl rfl rfl ?_
  refine ACode.seq ?_
  refine ACode.region ?_
  refine AOps.cons (St1.assign rfl rfl rfl rfl rfl) ?_
  refine AOps.nil ?_
  refine ks_n ?_
  refine ACode.seq ?_
  refine ACode.region ?_
  refine AOps.cons (St1.move rfl rfl rfl rfl rfl) ?_
  refine AOps.cons (St1.move rfl rfl rfl rfl rfl) ?_
  refine AOps.cons (St1.callP (xs := [.tmp 5, .tmp 6]) rfl rfl rfl rfl rfl rfl (by kernel_rfl) rfl (idx_lp hc p xs hx hf) rfl) ?_
  refine AOps.cons (St1.geq rfl rfl rfl rfl rfl rfl) ?_
  refine AOps.cons (St1.assign rfl rfl rfl rfl rfl) ?_
  refine AOps.nil ?_
  refine ks_n ?_
  refine ACode.ret ?_
  refine kf_ret rfl ?_ nobox
  exact leafB idxG_any

set_option maxRecDepth 100000 in
set_option maxHeartbeats 1600000 in
theorem idx_int {f : FuncId} {cap : List (List D)} (hc : callable Try.prog f = true) (p : Int → Bool) (xs : List Int) (hx : xs.length ≤ 1099511627776) (hf : ∀ x ∈ xs, Fn Try.prog f [] (nat1 x :: cap.map fun c => .c (.ptr c)) (.o (bo1 (p x))) []) : Fn Try.prog 94 [] [vD (.list 1 (xs.map rI)), .c (.fn f cap)] (.o (nat1 (idxF p xs))) [] := by
  refine Fn.code0 Try.func94 rfl rfl rfl rfl ?_
  refine ACode.seq ?_
  refine ACode.region ?_
  refine AOps.cons (St1.assign rfl rfl rfl rfl rfl) ?_
  refine AOps.nil ?_
  refine ks_n ?_
  refine ACode.seq ?_
  refine ACode.seq ?_
  refine ACode.region ?_
  refine AOps.cons (St1.move rfl rfl rfl rfl rfl) ?_
  refine AOps.cons (St1.lenL (e := 3) (m := 1) (by' := 8) rfl rfl rfl rfl rfl (by kernel_rfl) rfl (by first | exact List.length_map _ | rfl)) ?_
  refine AOps.cons (St1.move rfl rfl rfl rfl rfl) ?_
  refine AOps.nil ?_
  refine ks_n ?_
  refine ACode.block ?_
  refine ACode.wk (σ' := [(.t 0, .v (.o (vD (.list 1 (xs.map rI))))), (.t 1, .v (.o (.c (.fn f cap)))), (.t 7, .v (.o (nat1 (xs.length : Nat)))), (.t 8, .v (.o (nat1 (0 : Nat))))]) (Wk.keep [] rfl rfl ⟨⟨_, rfl, Vto.dat _ _ (by first | rfl | exact congrArg (fun z => V.o (nat1 z)) (by omega) | (simp; done) | omega) rfl⟩, ⟨_, rfl, Vto.dat _ _ (by first | rfl | exact congrArg (fun z => V.o (nat1 z)) (by omega) | (simp; done) | omega) rfl⟩, ⟨_, rfl, Vto.dat _ _ (by first | rfl | exact congrArg (fun z => V.o (nat1 z)) (by omega) | (simp; done) | omega) rfl⟩, ⟨_, rfl, Vto.dat _ _ (by first | rfl | exact congrArg (fun z => V.o (nat1 z)) (by omega) | (simp; done) | omega) rfl⟩, trivial⟩) ?_
  refine ACode.loop (fun m σ => (∃ i : Nat, m = xs.length - i ∧ (i ≤ xs.length) ∧ (idxF p xs = idxG p i (xs.drop i)) ∧ σ = [(.t 0, .v (.o (vD (.list 1 (xs.map rI))))), (.t 1, .v (.o (.c (.fn f cap)))), (.t 7, .v (.o (nat1 (xs.length : Nat)))), (.t 8, .v (.o (nat1 (i : Nat))))])) ((xs.length - 0)) ⟨0, rfl, by omega, rfl, rfl⟩ ?_
  rintro m σ ⟨i, hm0, hi, hF, rfl⟩
  refine ACode.seq ?_
  refine ACode.region ?_
  refine AOps.cons (St1.lss rfl rfl rfl rfl rfl rfl) ?_
  refine AOps.nil ?_
  refine ks_n ?_
  refine ACode.seq ?_
  refine ACode.condT rfl (fun h9 => ?_) (fun h9 => ?_)
  · try simp only [List.length_map, decide_eq_true_eq, decide_eq_false_iff_not, Bool.not_eq_true', Bool.not_eq_false', Bool.not_eq_true, Bool.not_eq_false] at h9
    obtain ⟨x, hx1⟩ : ∃ x, xs[i]? = some x := ⟨_, List.getElem?_eq_getElem (by omega)⟩
    refine ACode.skip ?_
    refine ks_n ?_
    refine ACode.seq ?_
    refine ACode.block ?_
    refine ACode.seq ?_
    refine ACode.region ?_
    refine AOps.cons (St1.move rfl rfl rfl rfl rfl) ?_
    refine AOps.cons (St1.assign rfl rfl rfl rfl rfl) ?_
    refine AOps.nil ?_
    refine ks_n ?_
    refine ACode.seq ?_
    refine ACode.region ?_
    refine AOps.cons (St1.move rfl rfl rfl rfl rfl) ?_
    refine AOps.cons (St1.move rfl rfl rfl rfl rfl) ?_
    refine AOps.cons (St1.move rfl rfl rfl rfl rfl) ?_
    refine AOps.cons (St1.indexL (e := 3) (sz := 1) (by' := 8) rfl rfl rfl rfl (by kernel_rfl) rfl rfl rfl rfl (by first | exact map_at (by assumption) | rfl)) ?_
    refine AOps.cons (St1.loadP1 (m := 1) rfl rfl rfl rfl (by kernel_rfl) rfl) ?_
    refine AOps.cons (St1.callP (xs := [.tmp 15]) rfl rfl rfl rfl rfl rfl hc rfl (hf x (List.mem_of_getElem? hx1)) rfl) ?_
    refine AOps.nil ?_
    refine ks_n ?_
    refine ACode.condT rfl (fun h16 => ?_) (fun h16 => ?_)
    · try simp only [List.length_map, decide_eq_true_eq, decide_eq_false_iff_not, Bool.not_eq_true', Bool.not_eq_false', Bool.not_eq_true, Bool.not_eq_false] at h16
      refine ACode.seq ?_
      refine ACode.region ?_
      refine AOps.cons (St1.move rfl rfl rfl rfl rfl) ?_
      refine AOps.cons (St1.assign rfl rfl rfl rfl rfl) ?_
      refine AOps.nil ?_
      refine ks_n ?_
      refine ACode.ret ?_
      refine kb_r ?_
      refine ks_r ?_
      refine kl_r ?_
      refine kb_r ?_
      refine ks_r ?_
      refine kf_ret rfl ?_ nobox
      exact leafI (by rw [hF, idxG_drop hx1, h16]; rfl)
    · try simp only [List.length_map, decide_eq_true_eq, decide_eq_false_iff_not, Bool.not_eq_true', Bool.not_eq_false', Bool.not_eq_true, Bool.not_eq_false] at h16
      refine ACode.skip ?_
      refine kb_n ?_
      refine ks_n ?_
      refine ACode.region ?_
      refine AOps.cons (St1.add rfl rfl rfl rfl rfl rfl (by omega)) ?_
      refine AOps.cons (St1.move rfl rfl rfl rfl rfl) ?_
      refine AOps.nil ?_
      refine kl_n (σ2 := [(.t 0, .v (.o (vD (.list 1 (xs.map rI))))), (.t 1, .v (.o (.c (.fn f cap)))), (.t 7, .v (.o (nat1 (xs.length : Nat)))), (.t 8, .v (.o (nat1 ((i + 1) : Nat))))]) ((xs.length - (i + 1))) (by omega) (Wk.keep [] rfl rfl ⟨⟨_, rfl, Vto.dat _ _ (by first | rfl | exact congrArg (fun z => V.o (nat1 z)) (by omega) | (simp; done) | omega) rfl⟩, ⟨_, rfl, Vto.dat _ _ (by first | rfl | exact congrArg (fun z => V.o (nat1 z)) (by omega) | (simp; done) | omega) rfl⟩, ⟨_, rfl, Vto.dat _ _ (by first | rfl | exact congrArg (fun z => V.o (nat1 z)) (by omega) | (simp; done) | omega) rfl⟩, ⟨_, rfl, Vto.dat _ _ (by first | rfl | exact congrArg (fun z => V.o (nat1 z)) (by omega) | (simp; done) | omega) rfl⟩, trivial⟩) ⟨i + 1, rfl, by omega, by rw [hF, idxG_drop hx1, h16]; rfl, rfl⟩
  · try simp only [List.length_map, decide_eq_true_eq, decide_eq_false_iff_not, Bool.not_eq_true', Bool.not_eq_false', Bool.not_eq_true, Bool.not_eq_false] at h9
    refine ACode.exit ?_
    refine ks_e ?_
    refine kl_e ?_
    refine kb_hit ?_
    refine ks_n ?_
    refine ACode.seq ?_
    refine ACode.region ?_
    refine AOps.cons (St1.assign rfl rfl rfl rfl rfl) ?_
    refine AOps.nil ?_
    refine ks_n ?_
    refine ACode.ret ?_
    refine kf_ret rfl ?_ nobox
    exact leafI (by rw [hF, List.drop_of_length_le (by omega)]; rfl)

set_option maxRecDepth 100000 in
set_option maxHeartbeats 1600000 in
theorem cnt_int {f : FuncId} {cap : List (List D)} (hc : callable Try.prog f = true) (p : Int → Bool) (xs : List Int) (hx : xs.length ≤ 1099511627776) (hf : ∀ x ∈ xs, Fn Try.prog f [] (nat1 x :: cap.map fun c => .c (.ptr c)) (.o (bo1 (p x))) []) : Fn Try.prog 53 [] [vD (.list 1 (xs.map rI)), .c (.fn f cap)] (.o (bo1 (xs.any p))) [] := by
  refine Fn.code0 Try.func53 rfl rfl rfl rfl ?_
  refine ACode.seq ?_
  refine ACode.region ?_
  refine AOps.cons (St1.assign rfl rfl rfl rfl rfl) ?_
  refine AOps.nil ?_
  refine ks_n ?_
  refine ACode.seq ?_
  refine ACode.region ?_
  refine AOps.cons (St1.move rfl rfl rfl rfl rfl) ?_
  refine AOps.cons (St1.move rfl rfl rfl rfl rfl) ?_
  refine AOps.cons (St1.callP (xs := [.tmp 5, .tmp 6]) rfl rfl rfl rfl rfl rfl (by kernel_rfl) rfl (idx_int hc p xs hx hf) rfl) ?_
  refine AOps.cons (St1.geq rfl rfl rfl rfl rfl rfl) ?_
  refine AOps.cons (St1.assign rfl rfl rfl rfl rfl) ?_
  refine AOps.nil ?_
  refine ks_n ?_
  refine ACode.ret ?_
  refine kf_ret rfl ?_ nobox
  exact leafB idxG_any

end Go.Proofs.Ytgcpdpbapgkdjaa

/- Validity and equality of nests as functions of lists; condition: none. -/
namespace Go.Proofs.Ytgcpdpbapgkdjaa
set_option linter.unusedVariables false
set_option linter.unusedSimpArgs false
open Go.RowKit

theorem eqF_dec {α : Type} [DecidableEq α] (a b : List α) : eqF (fun x y => decide (x = y)) a b = decide (a = b) := by
  rw [Bool.eq_iff_iff, decide_eq_true_eq, eqF_eq (fun x y => by simp)]
theorem nany {α : Type} (p : α → Bool) (l : List α) : (!l.any fun x => !p x) = l.all p := by
  rw [Bool.eq_iff_iff]; simp
theorem bnd_no {d : Nat} {x : Aff} (h : affV x = false ∨ d < affDepth x) : bndV d x = false := by
  rw [bndV, Bool.and_eq_false_iff]
  exact h.imp id fun h => decide_eq_false (by omega)
theorem bnd_yes {d : Nat} {x : Aff} (h : affV x = true) (h2 : ¬ d < affDepth x) : bndV d x = true := by
  rw [bndV, Bool.and_eq_true]
  exact ⟨h, decide_eq_true (by omega)⟩
theorem side_len {d : Nat} {xs : List Aff} {b : Bool} (h : xs.all (bndV d) = true) (hb : b = (decide (1 ≤ xs.length) && decide (xs.length ≤ 2))) : b = sideV d xs := by
  rw [sideV, h, Bool.true_and]; exact hb
def nestG (i : Nat) : List Lp → Bool
  | [] => true
  | l :: r => (sideV i l.1 && sideV i l.2) && nestG (i + 1) r
def nsV (ns : List Lp) : Bool := decide (ns.length ≤ 4) && nestG 0 ns
theorem nestG_drop {ns : List Lp} {i : Nat} {l : Lp} (h : ns[i]? = some l) : nestG i (ns.drop i) = ((sideV i l.1 && sideV i l.2) && nestG (i + 1) (ns.drop (i + 1))) := by rw [drop_at h]; rfl
theorem nsV_at {ns : List Lp} (h : nsV ns = true) : ns.length ≤ 4 ∧ ∀ (i : Nat) l, ns[i]? = some l → sideV i l.1 = true ∧ sideV i l.2 = true := by
  rw [nsV, Bool.and_eq_true, decide_eq_true_eq] at h
  refine ⟨h.1, ?_⟩
  have key : ∀ (ms : List Lp) (k : Nat), nestG k ms = true → ∀ (i : Nat) l, ms[i]? = some l → sideV (k + i) l.1 = true ∧ sideV (k + i) l.2 = true := by
    intro ms
    induction ms with
    | nil => intro k _ i l h; simp at h
    | cons m ms ih =>
      intro k hk i l hl
      rw [nestG, Bool.and_eq_true, Bool.and_eq_true] at hk
      cases i with
      | zero => simp at hl; subst hl; exact hk.1
      | succ i =>
        have := ih (k + 1) hk.2 i l (by simpa using hl)
        rwa [show k + 1 + i = k + (i + 1) by omega] at this
  intro i l hl
  have := key ns 0 h.2 i l hl
  rwa [Nat.zero_add] at this
def lpFlat (l : Lp) : Bool := l.1.all flatA && l.2.all flatA
def nsRect (ns : List Lp) : Bool := ns.all lpFlat && nsV ns
end Go.Proofs.Ytgcpdpbapgkdjaa

/- Validity and equality of nests; condition: small nests. -/
namespace Go.Proofs.Ytgcpdpbapgkdjaa
set_option linter.unusedVariables false
set_option linter.unusedSimpArgs false
open Go.RowKit

theorem eqfA_fn (xs ys : List Aff) (hx : xs.length ≤ 1099511627776) : Fn Try.prog 49 [] [vD (dAs xs), vD (dAs ys), .c (.fn 50 [])] (.o (bo1 (decide (xs = ys)))) [] := by
  rw [← eqF_dec]
  exact eqf_aff (cap := []) (by kernel_rfl) _ xs ys hx (fun x _ y _ => implSame_fn x y)

set_option maxRecDepth 100000 in
set_option maxHeartbeats 1600000 in
theorem nsSame1_fn (x y : Lp) (hx : x.1.length ≤ 1099511627776 ∧ x.2.length ≤ 1099511627776) : Fn Try.prog 48 [] [ad (rL x), ad (rL y)] (.o (bo1 (decide (x = y)))) [] := by
  refine Fn.code0 Try.func48 rfl rfl rfl rfl ?_
  refine ACode.seq ?_
  refine ACode.region ?_
  refine AOps.cons (St1.boxP rfl rfl rfl rfl rfl rfl) ?_
  refine AOps.cons (St1.boxP rfl rfl rfl rfl rfl rfl) ?_
  refine AOps.cons (St1.assign rfl rfl rfl rfl rfl) ?_
  refine AOps.nil ?_
  refine ks_n ?_
  refine ACode.seq ?_
  refine ACode.region ?_
  refine AOps.cons (St1.fieldP (off := 0) (m := 0) (r := false) rfl rfl rfl rfl (by kernel_rfl) rfl) ?_
  refine AOps.cons (St1.loadP1 (m := 1) rfl rfl rfl rfl (by kernel_rfl) rfl) ?_
  refine AOps.cons (St1.fieldP (off := 0) (m := 0) (r := false) rfl rfl rfl rfl (by kernel_rfl) rfl) ?_
  refine AOps.cons (St1.loadP1 (m := 1) rfl rfl rfl rfl (by kernel_rfl) rfl) ?_
  refine AOps.cons (St1.callP (xs := [.tmp 6, .tmp 8, .func 50]) rfl rfl rfl rfl rfl rfl (by kernel_rfl) rfl (eqfA_fn _ _ hx.1) rfl) ?_
  refine AOps.cons (St1.move rfl rfl rfl rfl rfl) ?_
  refine AOps.cases 10 _ rfl (fun g10 => ?_) (fun g10 => ?_)
  · try simp only [List.length_map, decide_eq_true_eq, decide_eq_false_iff_not, Bool.not_eq_true', Bool.not_eq_false', Bool.not_eq_true, Bool.not_eq_false] at g10
    refine AOps.cons (St1.guardT rfl rfl rfl rfl rfl (St1.fieldP (off := 1) (m := 0) (r := false) rfl rfl rfl rfl (by kernel_rfl) rfl)) ?_
    refine AOps.cons (St1.guardT rfl rfl rfl rfl rfl (St1.loadP1 (m := 1) rfl rfl rfl rfl (by kernel_rfl) rfl)) ?_
    refine AOps.cons (St1.guardT rfl rfl rfl rfl rfl (St1.fieldP (off := 1) (m := 0) (r := false) rfl rfl rfl rfl (by kernel_rfl) rfl)) ?_
    refine AOps.cons (St1.guardT rfl rfl rfl rfl rfl (St1.loadP1 (m := 1) rfl rfl rfl rfl (by kernel_rfl) rfl)) ?_
    refine AOps.cons (St1.guardT rfl rfl rfl rfl rfl (St1.callP (xs := [.tmp 12, .tmp 14, .func 50]) rfl rfl rfl rfl rfl rfl (by kernel_rfl) rfl (eqfA_fn _ _ hx.2) rfl)) ?_
    refine AOps.cons (St1.pickT rfl rfl rfl rfl rfl rfl) ?_
    refine AOps.cons (St1.assign rfl rfl rfl rfl rfl) ?_
    refine AOps.nil ?_
    refine ks_n ?_
    refine ACode.ret ?_
    refine kf_ret rfl ?_ nobox
    exact leafB (by rw [Bool.eq_iff_iff]; simp [Prod.ext_iff, *])
  · try simp only [List.length_map, decide_eq_true_eq, decide_eq_false_iff_not, Bool.not_eq_true', Bool.not_eq_false', Bool.not_eq_true, Bool.not_eq_false] at g10
    refine AOps.cons (St1.guardF rfl rfl rfl rfl rfl rfl) ?_
    refine AOps.cons (St1.guardF rfl rfl rfl rfl rfl rfl) ?_
    refine AOps.cons (St1.guardF rfl rfl rfl rfl rfl rfl) ?_
    refine AOps.cons (St1.guardF rfl rfl rfl rfl rfl rfl) ?_
    refine AOps.cons (St1.guardF rfl rfl rfl rfl rfl rfl) ?_
    refine AOps.cons (St1.pickF rfl rfl rfl rfl rfl rfl) ?_
    refine AOps.cons (St1.assign rfl rfl rfl rfl rfl) ?_
    refine AOps.nil ?_
    refine ks_n ?_
    refine ACode.ret ?_
    refine kf_ret rfl ?_ nobox
    exact leafB (by rw [Bool.eq_iff_iff]; simp [Prod.ext_iff, *])

set_option maxRecDepth 100000 in
set_option maxHeartbeats 1600000 in
theorem implNestSame_fn (ns ms : List Lp) (hs : smN ns) : Fn Try.prog 14 [] [vD (dLs ns), vD (dLs ms)] (.o (bo1 (decide (ns = ms)))) [] := by
  refine Fn.code0 Try.func14 rfl rfl rfl rfl ?_
  refine ACode.seq ?_
  refine ACode.region ?_
  refine AOps.cons (St1.assign rfl rfl rfl rfl rfl) ?_
  refine AOps.nil ?_
  refine ks_n ?_
  refine ACode.seq ?_
  refine ACode.region ?_
  refine AOps.cons (St1.move rfl rfl rfl rfl rfl) ?_
  refine AOps.cons (St1.move rfl rfl rfl rfl rfl) ?_
  refine AOps.cons (St1.callP (xs := [.tmp 5, .tmp 6, .func 48]) rfl rfl rfl rfl rfl rfl (by kernel_rfl) rfl (eqf_lp (f := 48) (cap := []) (by kernel_rfl) (fun x y => decide (x = y)) ns ms (Nat.le_trans hs.1 (by omega)) (fun x hx y _ => nsSame1_fn x y ⟨Nat.le_trans (hs.2 x hx).1 (by omega), Nat.le_trans (hs.2 x hx).2.1 (by omega)⟩)) rfl) ?_
  refine AOps.cons (St1.assign rfl rfl rfl rfl rfl) ?_
  refine AOps.nil ?_
  refine ks_n ?_
  refine ACode.ret ?_
  refine kf_ret rfl ?_ nobox
  exact leafB (eqF_dec _ _)

set_option maxRecDepth 100000 in
set_option maxHeartbeats 1600000 in
theorem l2SideSame_fn (xs ys : List Aff) (hx : xs.length ≤ 1099511627776) : Fn Try.prog 51 [] [vD (dAs xs), vD (dAs ys)] (.o (bo1 (decide (xs = ys)))) [] := by
  rw [← eqF_dec]
  refine Fn.code0 Try.func51 rfl rfl rfl rfl ?_
  refine ACode.seq ?_
  refine ACode.region ?_
  refine AOps.cons (St1.assign rfl rfl rfl rfl rfl) ?_
  refine AOps.nil ?_
  refine ks_n ?_
  refine ACode.seq ?_
  refine ACode.seq ?_
  refine ACode.region ?_
  refine AOps.cons (St1.move rfl rfl rfl rfl rfl) ?_
  refine AOps.cons (St1.lenL (e := 51) (m := 2) (by' := 32) rfl rfl rfl rfl rfl (by kernel_rfl) rfl (by first | exact List.length_map _ | rfl)) ?_
  refine AOps.cons (St1.move rfl rfl rfl rfl rfl) ?_
  refine AOps.cons (St1.lenL (e := 51) (m := 2) (by' := 32) rfl rfl rfl rfl rfl (by kernel_rfl) rfl (by first | exact List.length_map _ | rfl)) ?_
  refine AOps.cons (St1.neq rfl rfl rfl rfl rfl rfl) ?_
  refine AOps.nil ?_
  refine ks_n ?_
  refine ACode.condT rfl (fun h10 => ?_) (fun h10 => ?_)
  · try simp only [List.length_map, decide_eq_true_eq, decide_eq_false_iff_not, Bool.not_eq_true', Bool.not_eq_false', Bool.not_eq_true, Bool.not_eq_false] at h10
    refine ACode.seq ?_
    refine ACode.region ?_
    refine AOps.cons (St1.assign rfl rfl rfl rfl rfl) ?_
    refine AOps.nil ?_
    refine ks_n ?_
    refine ACode.ret ?_
    refine ks_r ?_
    refine kf_ret rfl ?_ nobox
    exact leafB (eqF_len (by omega)).symm
  · try simp only [List.length_map, decide_eq_true_eq, decide_eq_false_iff_not, Bool.not_eq_true', Bool.not_eq_false', Bool.not_eq_true, Bool.not_eq_false] at h10
    refine ACode.skip ?_
    refine ks_n ?_
    refine ACode.seq ?_
    refine ACode.seq ?_
    refine ACode.region ?_
    refine AOps.cons (St1.assign rfl rfl rfl rfl rfl) ?_
    refine AOps.nil ?_
    refine ks_n ?_
    refine ACode.block ?_
    refine ACode.wk (σ' := [(.t 0, .v (.o (vD (dAs xs)))), (.t 1, .v (.o (vD (dAs ys)))), (.t 5, .v (.o (nat1 (0 : Nat))))]) (Wk.keep [] rfl rfl ⟨⟨_, rfl, Vto.dat _ _ (by first | rfl | exact congrArg (fun z => V.o (nat1 z)) (by omega) | (simp; done) | omega) rfl⟩, ⟨_, rfl, Vto.dat _ _ (by first | rfl | exact congrArg (fun z => V.o (nat1 z)) (by omega) | (simp; done) | omega) rfl⟩, ⟨_, rfl, Vto.dat _ _ (by first | rfl | exact congrArg (fun z => V.o (nat1 z)) (by omega) | (simp; done) | omega) rfl⟩, trivial⟩) ?_
    refine ACode.loop (fun m σ => (∃ i : Nat, m = xs.length - i ∧ (i ≤ xs.length) ∧ (eqF (fun x y => decide (x = y)) xs ys = eqF (fun x y => decide (x = y)) (xs.drop i) (ys.drop i)) ∧ σ = [(.t 0, .v (.o (vD (dAs xs)))), (.t 1, .v (.o (vD (dAs ys)))), (.t 5, .v (.o (nat1 (i : Nat))))])) ((xs.length - 0)) ⟨0, rfl, by omega, by simp, rfl⟩ ?_
    rintro m σ ⟨i, hm0, hi, hF, rfl⟩
    refine ACode.seq ?_
    refine ACode.seq ?_
    refine ACode.region ?_
    refine AOps.cons (St1.move rfl rfl rfl rfl rfl) ?_
    refine AOps.cons (St1.move rfl rfl rfl rfl rfl) ?_
    refine AOps.cons (St1.lenL (e := 51) (m := 2) (by' := 32) rfl rfl rfl rfl rfl (by kernel_rfl) rfl (by first | exact List.length_map _ | rfl)) ?_
    refine AOps.cons (St1.lss rfl rfl rfl rfl rfl rfl) ?_
    refine AOps.nil ?_
    refine ks_n ?_
    refine ACode.condT rfl (fun h14 => ?_) (fun h14 => ?_)
    · try simp only [List.length_map, decide_eq_true_eq, decide_eq_false_iff_not, Bool.not_eq_true', Bool.not_eq_false', Bool.not_eq_true, Bool.not_eq_false] at h14
      obtain ⟨x, hx1⟩ : ∃ x, xs[i]? = some x := ⟨_, List.getElem?_eq_getElem (by omega)⟩
      obtain ⟨y, hy1⟩ : ∃ x, ys[i]? = some x := ⟨_, List.getElem?_eq_getElem (by omega)⟩
      refine ACode.skip ?_
      refine ks_n ?_
      refine ACode.seq ?_
      refine ACode.block ?_
      refine ACode.seq ?_
      refine ACode.drawK (by kernel_rfl) (by kernel_rfl) ?_
      refine RunK.cons (St1.move rfl rfl rfl rfl rfl) ?_
      refine RunK.cons (St1.move rfl rfl rfl rfl rfl) ?_
      refine RunK.cons (St1.indexL (e := 51) (sz := 2) (by' := 32) rfl rfl rfl rfl (by kernel_rfl) rfl rfl rfl rfl (by first | exact map_at (by assumption) | rfl)) ?_
      refine RunK.cons (St1.loadPN (m := 2) rfl rfl rfl rfl (by kernel_rfl) rfl rfl) ?_
      refine RunK.cons (St1.move rfl rfl rfl rfl rfl) ?_
      refine RunK.cons (St1.move rfl rfl rfl rfl rfl) ?_
      refine RunK.cons (St1.indexL (e := 51) (sz := 2) (by' := 32) rfl rfl rfl rfl (by kernel_rfl) rfl rfl rfl rfl (by first | exact map_at (by assumption) | rfl)) ?_
      refine RunK.cons (St1.loadPN (m := 2) rfl rfl rfl rfl (by kernel_rfl) rfl rfl) ?_
      refine RunK.cons (St1.callP (xs := [.tmp 20, .tmp 24]) rfl rfl rfl rfl rfl rfl (by kernel_rfl) rfl (specSame_fn x y) rfl) ?_
      refine RunK.cons (St1.not rfl rfl rfl rfl rfl) ?_
      refine RunK.nil ⟨by kernel_rfl, ?_⟩
      refine ks_n ?_
      refine ACode.condT rfl (fun h26 => ?_) (fun h26 => ?_)
      · try simp only [List.length_map, decide_eq_true_eq, decide_eq_false_iff_not, Bool.not_eq_true', Bool.not_eq_false', Bool.not_eq_true, Bool.not_eq_false] at h26
        refine ACode.seq ?_
        refine ACode.region ?_
        refine AOps.cons (St1.assign rfl rfl rfl rfl rfl) ?_
        refine AOps.nil ?_
        refine ks_n ?_
        refine ACode.ret ?_
        refine kb_r ?_
        refine ks_r ?_
        refine kl_r ?_
        refine kb_r ?_
        refine ks_r ?_
        refine kf_ret rfl ?_ nobox
        exact leafB (by rw [hF, eqF_drop hx1 hy1, decide_eq_false h26]; rfl)
      · try simp only [List.length_map, decide_eq_true_eq, decide_eq_false_iff_not, Bool.not_eq_true', Bool.not_eq_false', Bool.not_eq_true, Bool.not_eq_false] at h26
        refine ACode.skip ?_
        refine kb_n ?_
        refine ks_n ?_
        refine ACode.region ?_
        refine AOps.cons (St1.move rfl rfl rfl rfl rfl) ?_
        refine AOps.cons (St1.add rfl rfl rfl rfl rfl rfl (by omega)) ?_
        refine AOps.cons (St1.assign rfl rfl rfl rfl rfl) ?_
        refine AOps.nil ?_
        refine kl_n (σ2 := [(.t 0, .v (.o (vD (dAs xs)))), (.t 1, .v (.o (vD (dAs ys)))), (.t 5, .v (.o (nat1 ((i + 1) : Nat))))]) ((xs.length - (i + 1))) (by omega) (Wk.keep [] rfl rfl ⟨⟨_, rfl, Vto.dat _ _ (by first | rfl | exact congrArg (fun z => V.o (nat1 z)) (by omega) | (simp; done) | omega) rfl⟩, ⟨_, rfl, Vto.dat _ _ (by first | rfl | exact congrArg (fun z => V.o (nat1 z)) (by omega) | (simp; done) | omega) rfl⟩, ⟨_, rfl, Vto.dat _ _ (by first | rfl | exact congrArg (fun z => V.o (nat1 z)) (by omega) | (simp; done) | omega) rfl⟩, trivial⟩) ⟨i + 1, rfl, by omega, by rw [hF, eqF_drop hx1 hy1, decide_eq_true h26, Bool.true_and], rfl⟩
    · try simp only [List.length_map, decide_eq_true_eq, decide_eq_false_iff_not, Bool.not_eq_true', Bool.not_eq_false', Bool.not_eq_true, Bool.not_eq_false] at h14
      refine ACode.exit ?_
      refine ks_e ?_
      refine kl_e ?_
      refine kb_hit ?_
      refine ks_n ?_
      refine ACode.seq ?_
      refine ACode.region ?_
      refine AOps.cons (St1.assign rfl rfl rfl rfl rfl) ?_
      refine AOps.nil ?_
      refine ks_n ?_
      refine ACode.ret ?_
      refine kf_ret rfl ?_ nobox
      exact leafB (by rw [hF, show i = xs.length by omega, eqF_end (by omega)])

set_option maxRecDepth 100000 in
set_option maxHeartbeats 1600000 in
theorem specNestSame_fn (ns ms : List Lp) (hs : smN ns) : Fn Try.prog 15 [] [vD (dLs ns), vD (dLs ms)] (.o (bo1 (decide (ns = ms)))) [] := by
  rw [← eqF_dec]
  have hn := hs.1
  refine Fn.code0 Try.func15 rfl rfl rfl rfl ?_
  refine ACode.seq ?_
  refine ACode.region ?_
  refine AOps.cons (St1.assign rfl rfl rfl rfl rfl) ?_
  refine AOps.nil ?_
  refine ks_n ?_
  refine ACode.seq ?_
  refine ACode.seq ?_
  refine ACode.region ?_
  refine AOps.cons (St1.move rfl rfl rfl rfl rfl) ?_
  refine AOps.cons (St1.lenL (e := 67) (m := 2) (by' := 48) rfl rfl rfl rfl rfl (by kernel_rfl) rfl (by first | exact List.length_map _ | rfl)) ?_
  refine AOps.cons (St1.move rfl rfl rfl rfl rfl) ?_
  refine AOps.cons (St1.lenL (e := 67) (m := 2) (by' := 48) rfl rfl rfl rfl rfl (by kernel_rfl) rfl (by first | exact List.length_map _ | rfl)) ?_
  refine AOps.cons (St1.neq rfl rfl rfl rfl rfl rfl) ?_
  refine AOps.nil ?_
  refine ks_n ?_
  refine ACode.condT rfl (fun h10 => ?_) (fun h10 => ?_)
  · try simp only [List.length_map, decide_eq_true_eq, decide_eq_false_iff_not, Bool.not_eq_true', Bool.not_eq_false', Bool.not_eq_true, Bool.not_eq_false] at h10
    refine ACode.seq ?_
    refine ACode.region ?_
    refine AOps.cons (St1.assign rfl rfl rfl rfl rfl) ?_
    refine AOps.nil ?_
    refine ks_n ?_
    refine ACode.ret ?_
    refine ks_r ?_
    refine kf_ret rfl ?_ nobox
    exact leafB (eqF_len (by omega)).symm
  · try simp only [List.length_map, decide_eq_true_eq, decide_eq_false_iff_not, Bool.not_eq_true', Bool.not_eq_false', Bool.not_eq_true, Bool.not_eq_false] at h10
    refine ACode.skip ?_
    refine ks_n ?_
    refine ACode.seq ?_
    refine ACode.seq ?_
    refine ACode.region ?_
    refine AOps.cons (St1.assign rfl rfl rfl rfl rfl) ?_
    refine AOps.nil ?_
    refine ks_n ?_
    refine ACode.block ?_
    refine ACode.wk (σ' := [(.t 0, .v (.o (vD (dLs ns)))), (.t 1, .v (.o (vD (dLs ms)))), (.t 5, .v (.o (nat1 (0 : Nat))))]) (Wk.keep [] rfl rfl ⟨⟨_, rfl, Vto.dat _ _ (by first | rfl | exact congrArg (fun z => V.o (nat1 z)) (by omega) | (simp; done) | omega) rfl⟩, ⟨_, rfl, Vto.dat _ _ (by first | rfl | exact congrArg (fun z => V.o (nat1 z)) (by omega) | (simp; done) | omega) rfl⟩, ⟨_, rfl, Vto.dat _ _ (by first | rfl | exact congrArg (fun z => V.o (nat1 z)) (by omega) | (simp; done) | omega) rfl⟩, trivial⟩) ?_
    refine ACode.loop (fun m σ => (∃ i : Nat, m = ns.length - i ∧ (i ≤ ns.length) ∧ (eqF (fun x y => decide (x = y)) ns ms = eqF (fun x y => decide (x = y)) (ns.drop i) (ms.drop i)) ∧ σ = [(.t 0, .v (.o (vD (dLs ns)))), (.t 1, .v (.o (vD (dLs ms)))), (.t 5, .v (.o (nat1 (i : Nat))))])) ((ns.length - 0)) ⟨0, rfl, by omega, by simp, rfl⟩ ?_
    rintro m σ ⟨i, hm0, hi, hF, rfl⟩
    refine ACode.seq ?_
    refine ACode.seq ?_
    refine ACode.region ?_
    refine AOps.cons (St1.move rfl rfl rfl rfl rfl) ?_
    refine AOps.cons (St1.move rfl rfl rfl rfl rfl) ?_
    refine AOps.cons (St1.lenL (e := 67) (m := 2) (by' := 48) rfl rfl rfl rfl rfl (by kernel_rfl) rfl (by first | exact List.length_map _ | rfl)) ?_
    refine AOps.cons (St1.lss rfl rfl rfl rfl rfl rfl) ?_
    refine AOps.nil ?_
    refine ks_n ?_
    refine ACode.condT rfl (fun h14 => ?_) (fun h14 => ?_)
    · try simp only [List.length_map, decide_eq_true_eq, decide_eq_false_iff_not, Bool.not_eq_true', Bool.not_eq_false', Bool.not_eq_true, Bool.not_eq_false] at h14
      obtain ⟨x, hx1⟩ : ∃ x, ns[i]? = some x := ⟨_, List.getElem?_eq_getElem (by omega)⟩
      obtain ⟨y, hy1⟩ : ∃ x, ms[i]? = some x := ⟨_, List.getElem?_eq_getElem (by omega)⟩
      have hq := hs.2 x (List.mem_of_getElem? hx1)
      refine ACode.skip ?_
      refine ks_n ?_
      refine ACode.seq ?_
      refine ACode.block ?_
      refine ACode.seq ?_
      refine ACode.drawK (by kernel_rfl) (by kernel_rfl) ?_
      refine RunK.cons (St1.move rfl rfl rfl rfl rfl) ?_
      refine RunK.cons (St1.move rfl rfl rfl rfl rfl) ?_
      refine RunK.cons (St1.indexL (e := 67) (sz := 2) (by' := 48) rfl rfl rfl rfl (by kernel_rfl) rfl rfl rfl rfl (by first | exact map_at (by assumption) | rfl)) ?_
      refine RunK.cons (St1.fieldP (off := 0) (m := 0) (r := false) rfl rfl rfl rfl (by kernel_rfl) rfl) ?_
      refine RunK.cons (St1.loadP1 (m := 1) rfl rfl rfl rfl (by kernel_rfl) rfl) ?_
      refine RunK.cons (St1.move rfl rfl rfl rfl rfl) ?_
      refine RunK.cons (St1.move rfl rfl rfl rfl rfl) ?_
      refine RunK.cons (St1.indexL (e := 67) (sz := 2) (by' := 48) rfl rfl rfl rfl (by kernel_rfl) rfl rfl rfl rfl (by first | exact map_at (by assumption) | rfl)) ?_
      refine RunK.cons (St1.fieldP (off := 0) (m := 0) (r := false) rfl rfl rfl rfl (by kernel_rfl) rfl) ?_
      refine RunK.cons (St1.loadP1 (m := 1) rfl rfl rfl rfl (by kernel_rfl) rfl) ?_
      refine RunK.cons (St1.callP (xs := [.tmp 21, .tmp 26]) rfl rfl rfl rfl rfl rfl (by kernel_rfl) rfl (l2SideSame_fn _ _ (Nat.le_trans hq.1 (by omega))) rfl) ?_
      refine RunK.cons (St1.not rfl rfl rfl rfl rfl) ?_
      refine RunK.cons (St1.move rfl rfl rfl rfl rfl) ?_
      refine RunK.cases 29 _ rfl (fun g29 => ?_) (fun g29 => ?_)
      · try simp only [List.length_map, decide_eq_true_eq, decide_eq_false_iff_not, Bool.not_eq_true', Bool.not_eq_false', Bool.not_eq_true, Bool.not_eq_false] at g29
        refine RunK.cons (St1.guardF rfl rfl rfl rfl rfl rfl) ?_
        refine RunK.cons (St1.guardF rfl rfl rfl rfl rfl rfl) ?_
        refine RunK.cons (St1.guardF rfl rfl rfl rfl rfl rfl) ?_
        refine RunK.cons (St1.guardF rfl rfl rfl rfl rfl rfl) ?_
        refine RunK.cons (St1.guardF rfl rfl rfl rfl rfl rfl) ?_
        refine RunK.cons (St1.guardF rfl rfl rfl rfl rfl rfl) ?_
        refine RunK.cons (St1.guardF rfl rfl rfl rfl rfl rfl) ?_
        refine RunK.cons (St1.guardF rfl rfl rfl rfl rfl rfl) ?_
        refine RunK.cons (St1.guardF rfl rfl rfl rfl rfl rfl) ?_
        refine RunK.cons (St1.guardF rfl rfl rfl rfl rfl rfl) ?_
        refine RunK.cons (St1.guardF rfl rfl rfl rfl rfl rfl) ?_
        refine RunK.cons (St1.guardF rfl rfl rfl rfl rfl rfl) ?_
        refine RunK.cons (St1.pickT rfl rfl rfl rfl rfl rfl) ?_
        refine RunK.nil ⟨by kernel_rfl, ?_⟩
        refine ks_n ?_
        refine ACode.condT rfl (fun _ => ?_) (fun h => by first | (cases h; done) | (simp [*] at h; done) | (exfalso; simp_all; done))
        refine ACode.seq ?_
        have g : decide (x = y) = false := by simp [Prod.ext_iff, *]
        refine ACode.region ?_
        refine AOps.cons (St1.assign rfl rfl rfl rfl rfl) ?_
        refine AOps.nil ?_
        refine ks_n ?_
        refine ACode.ret ?_
        refine kb_r ?_
        refine ks_r ?_
        refine kl_r ?_
        refine kb_r ?_
        refine ks_r ?_
        refine kf_ret rfl ?_ nobox
        exact leafB (by rw [hF, eqF_drop hx1 hy1, g]; rfl)
      · try simp only [List.length_map, decide_eq_true_eq, decide_eq_false_iff_not, Bool.not_eq_true', Bool.not_eq_false', Bool.not_eq_true, Bool.not_eq_false] at g29
        refine RunK.cons (St1.guardT rfl rfl rfl rfl rfl (St1.move rfl rfl rfl rfl rfl)) ?_
        refine RunK.cons (St1.guardT rfl rfl rfl rfl rfl (St1.move rfl rfl rfl rfl rfl)) ?_
        refine RunK.cons (St1.guardT rfl rfl rfl rfl rfl (St1.indexL (e := 67) (sz := 2) (by' := 48) rfl rfl rfl rfl (by kernel_rfl) rfl rfl rfl rfl (by first | exact map_at (by assumption) | rfl))) ?_
        refine RunK.cons (St1.guardT rfl rfl rfl rfl rfl (St1.fieldP (off := 1) (m := 0) (r := false) rfl rfl rfl rfl (by kernel_rfl) rfl)) ?_
        refine RunK.cons (St1.guardT rfl rfl rfl rfl rfl (St1.loadP1 (m := 1) rfl rfl rfl rfl (by kernel_rfl) rfl)) ?_
        refine RunK.cons (St1.guardT rfl rfl rfl rfl rfl (St1.move rfl rfl rfl rfl rfl)) ?_
        refine RunK.cons (St1.guardT rfl rfl rfl rfl rfl (St1.move rfl rfl rfl rfl rfl)) ?_
        refine RunK.cons (St1.guardT rfl rfl rfl rfl rfl (St1.indexL (e := 67) (sz := 2) (by' := 48) rfl rfl rfl rfl (by kernel_rfl) rfl rfl rfl rfl (by first | exact map_at (by assumption) | rfl))) ?_
        refine RunK.cons (St1.guardT rfl rfl rfl rfl rfl (St1.fieldP (off := 1) (m := 0) (r := false) rfl rfl rfl rfl (by kernel_rfl) rfl)) ?_
        refine RunK.cons (St1.guardT rfl rfl rfl rfl rfl (St1.loadP1 (m := 1) rfl rfl rfl rfl (by kernel_rfl) rfl)) ?_
        refine RunK.cons (St1.guardT rfl rfl rfl rfl rfl (St1.callP (xs := [.tmp 34, .tmp 39]) rfl rfl rfl rfl rfl rfl (by kernel_rfl) rfl (l2SideSame_fn _ _ (Nat.le_trans hq.2.1 (by omega))) rfl)) ?_
        refine RunK.cons (St1.guardT rfl rfl rfl rfl rfl (St1.not rfl rfl rfl rfl rfl)) ?_
        refine RunK.cons (St1.pickF rfl rfl rfl rfl rfl rfl) ?_
        refine RunK.nil ⟨by kernel_rfl, ?_⟩
        refine ks_n ?_
        refine ACode.condT rfl (fun h42 => ?_) (fun h42 => ?_)
        · try simp only [List.length_map, decide_eq_true_eq, decide_eq_false_iff_not, Bool.not_eq_true', Bool.not_eq_false', Bool.not_eq_true, Bool.not_eq_false] at h42
          refine ACode.seq ?_
          have g : decide (x = y) = false := by simp [Prod.ext_iff, *]
          refine ACode.region ?_
          refine AOps.cons (St1.assign rfl rfl rfl rfl rfl) ?_
          refine AOps.nil ?_
          refine ks_n ?_
          refine ACode.ret ?_
          refine kb_r ?_
          refine ks_r ?_
          refine kl_r ?_
          refine kb_r ?_
          refine ks_r ?_
          refine kf_ret rfl ?_ nobox
          exact leafB (by rw [hF, eqF_drop hx1 hy1, g]; rfl)
        · try simp only [List.length_map, decide_eq_true_eq, decide_eq_false_iff_not, Bool.not_eq_true', Bool.not_eq_false', Bool.not_eq_true, Bool.not_eq_false] at h42
          refine ACode.skip ?_
          refine kb_n ?_
          refine ks_n ?_
          have g : decide (x = y) = true := by simp [Prod.ext_iff, *]
          refine ACode.region ?_
          refine AOps.cons (St1.move rfl rfl rfl rfl rfl) ?_
          refine AOps.cons (St1.add rfl rfl rfl rfl rfl rfl (by omega)) ?_
          refine AOps.cons (St1.assign rfl rfl rfl rfl rfl) ?_
          refine AOps.nil ?_
          refine kl_n (σ2 := [(.t 0, .v (.o (vD (dLs ns)))), (.t 1, .v (.o (vD (dLs ms)))), (.t 5, .v (.o (nat1 ((i + 1) : Nat))))]) ((ns.length - (i + 1))) (by omega) (Wk.keep [] rfl rfl ⟨⟨_, rfl, Vto.dat _ _ (by first | rfl | exact congrArg (fun z => V.o (nat1 z)) (by omega) | (simp; done) | omega) rfl⟩, ⟨_, rfl, Vto.dat _ _ (by first | rfl | exact congrArg (fun z => V.o (nat1 z)) (by omega) | (simp; done) | omega) rfl⟩, ⟨_, rfl, Vto.dat _ _ (by first | rfl | exact congrArg (fun z => V.o (nat1 z)) (by omega) | (simp; done) | omega) rfl⟩, trivial⟩) ⟨i + 1, rfl, by omega, by rw [hF, eqF_drop hx1 hy1, g, Bool.true_and], rfl⟩
    · try simp only [List.length_map, decide_eq_true_eq, decide_eq_false_iff_not, Bool.not_eq_true', Bool.not_eq_false', Bool.not_eq_true, Bool.not_eq_false] at h14
      refine ACode.exit ?_
      refine ks_e ?_
      refine kl_e ?_
      refine kb_hit ?_
      refine ks_n ?_
      refine ACode.seq ?_
      refine ACode.region ?_
      refine AOps.cons (St1.assign rfl rfl rfl rfl rfl) ?_
      refine AOps.nil ?_
      refine ks_n ?_
      refine ACode.ret ?_
      refine kf_ret rfl ?_ nobox
      exact leafB (by rw [hF, show i = ns.length by omega, eqF_end (by omega)])

set_option maxRecDepth 100000 in
set_option maxHeartbeats 1600000 in
theorem within_fn (n lo hi : Int) : Fn Try.prog 55 [] [nat1 n, nat1 lo, nat1 hi] (.o (bo1 (inB n lo hi))) [] := by
  refine Fn.code0 Try.func55 rfl rfl rfl rfl ?_
  refine ACode.seq ?_
  refine ACode.region ?_
  refine AOps.cons (St1.assign rfl rfl rfl rfl rfl) ?_
  refine AOps.nil ?_
  refine ks_n ?_
  refine ACode.seq ?_
  refine ACode.region ?_
  refine AOps.cons (St1.move rfl rfl rfl rfl rfl) ?_
  refine AOps.cons (St1.move rfl rfl rfl rfl rfl) ?_
  refine AOps.cons (St1.leq rfl rfl rfl rfl rfl rfl) ?_
  refine AOps.cons (St1.move rfl rfl rfl rfl rfl) ?_
  refine AOps.cases 10 _ rfl (fun g10 => ?_) (fun g10 => ?_)
  · try simp only [List.length_map, decide_eq_true_eq, decide_eq_false_iff_not, Bool.not_eq_true', Bool.not_eq_false', Bool.not_eq_true, Bool.not_eq_false] at g10
    refine AOps.cons (St1.guardT rfl rfl rfl rfl rfl (St1.move rfl rfl rfl rfl rfl)) ?_
    refine AOps.cons (St1.guardT rfl rfl rfl rfl rfl (St1.move rfl rfl rfl rfl rfl)) ?_
    refine AOps.cons (St1.guardT rfl rfl rfl rfl rfl (St1.leq rfl rfl rfl rfl rfl rfl)) ?_
    refine AOps.cons (St1.pickT rfl rfl rfl rfl rfl rfl) ?_
    refine AOps.cons (St1.assign rfl rfl rfl rfl rfl) ?_
    refine AOps.nil ?_
    refine ks_n ?_
    refine ACode.ret ?_
    refine kf_ret rfl ?_ nobox
    exact leafB (by rw [inB]; simp [*])
  · try simp only [List.length_map, decide_eq_true_eq, decide_eq_false_iff_not, Bool.not_eq_true', Bool.not_eq_false', Bool.not_eq_true, Bool.not_eq_false] at g10
    refine AOps.cons (St1.guardF rfl rfl rfl rfl rfl rfl) ?_
    refine AOps.cons (St1.guardF rfl rfl rfl rfl rfl rfl) ?_
    refine AOps.cons (St1.guardF rfl rfl rfl rfl rfl rfl) ?_
    refine AOps.cons (St1.pickF rfl rfl rfl rfl rfl rfl) ?_
    refine AOps.cons (St1.assign rfl rfl rfl rfl rfl) ?_
    refine AOps.nil ?_
    refine ks_n ?_
    refine ACode.ret ?_
    refine kf_ret rfl ?_ nobox
    exact leafB (by rw [inB]; simp [*])

set_option maxRecDepth 100000 in
set_option maxHeartbeats 1600000 in
theorem bnd1_fn (d : Nat) (x : Aff) : Fn Try.prog 97 [] [ad (rA x), .c (.ptr [dI (d : Nat)])] (.o (bo1 (!bndV d x))) [] := by
  refine Fn.code0 Try.func97 rfl rfl rfl rfl ?_
  refine ACode.seq ?_
  refine ACode.region ?_
  refine AOps.cons (St1.boxP rfl rfl rfl rfl rfl rfl) ?_
  refine AOps.cons (St1.assign rfl rfl rfl rfl rfl) ?_
  refine AOps.nil ?_
  refine ks_n ?_
  refine ACode.seq ?_
  refine ACode.drawK (by kernel_rfl) (by kernel_rfl) ?_
  refine RunK.cons (St1.loadPN (m := 2) rfl rfl rfl rfl (by kernel_rfl) rfl rfl) ?_
  refine RunK.cons (St1.callP (xs := [.tmp 4]) rfl rfl rfl rfl rfl rfl (by kernel_rfl) rfl (implAffV_fn x) rfl) ?_
  refine RunK.cons (St1.not rfl rfl rfl rfl rfl) ?_
  refine RunK.cons (St1.move rfl rfl rfl rfl rfl) ?_
  refine RunK.cases 7 _ rfl (fun g7 => ?_) (fun g7 => ?_)
  · try simp only [List.length_map, decide_eq_true_eq, decide_eq_false_iff_not, Bool.not_eq_true', Bool.not_eq_false', Bool.not_eq_true, Bool.not_eq_false] at g7
    refine RunK.cons (St1.guardF rfl rfl rfl rfl rfl rfl) ?_
    refine RunK.cons (St1.guardF rfl rfl rfl rfl rfl rfl) ?_
    refine RunK.cons (St1.guardF rfl rfl rfl rfl rfl rfl) ?_
    refine RunK.cons (St1.guardF rfl rfl rfl rfl rfl rfl) ?_
    refine RunK.cons (St1.pickT rfl rfl rfl rfl rfl rfl) ?_
    refine RunK.cons (St1.assign rfl rfl rfl rfl rfl) ?_
    refine RunK.nil ⟨by kernel_rfl, ?_⟩
    refine ks_n ?_
    refine ACode.ret ?_
    refine kf_ret rfl ?_ nobox
    first | exact leafB (by rw [bnd_no (.inl g7)]; rfl) | exact leafB (by rw [bndV, g7, Bool.true_and, Bool.eq_iff_iff]; simp)
  · try simp only [List.length_map, decide_eq_true_eq, decide_eq_false_iff_not, Bool.not_eq_true', Bool.not_eq_false', Bool.not_eq_true, Bool.not_eq_false] at g7
    refine RunK.cons (St1.guardT rfl rfl rfl rfl rfl (St1.loadPN (m := 2) rfl rfl rfl rfl (by kernel_rfl) rfl rfl)) ?_
    refine RunK.cons (St1.guardT rfl rfl rfl rfl rfl (St1.callP (xs := [.tmp 8]) rfl rfl rfl rfl rfl rfl (by kernel_rfl) rfl (depth_fn x) rfl)) ?_
    refine RunK.cons (St1.guardT rfl rfl rfl rfl rfl (St1.loadP1 (m := 1) rfl rfl rfl rfl (by kernel_rfl) rfl)) ?_
    refine RunK.cons (St1.guardT rfl rfl rfl rfl rfl (St1.gtr rfl rfl rfl rfl rfl rfl)) ?_
    refine RunK.cons (St1.pickF rfl rfl rfl rfl rfl rfl) ?_
    refine RunK.cons (St1.assign rfl rfl rfl rfl rfl) ?_
    refine RunK.nil ⟨by kernel_rfl, ?_⟩
    refine ks_n ?_
    refine ACode.ret ?_
    refine kf_ret rfl ?_ nobox
    first | exact leafB (by rw [bnd_no (.inl g7)]; rfl) | exact leafB (by rw [bndV, g7, Bool.true_and, Bool.eq_iff_iff]; simp)

set_option maxRecDepth 100000 in
set_option maxHeartbeats 1600000 in
theorem boundsOk_fn (d : Nat) (xs : List Aff) (hx : xs.length ≤ 1099511627776) : Fn Try.prog 60 [] [vD (dAs xs), nat1 (d : Nat)] (.o (bo1 (sideV d xs))) [] := by
  refine Fn.code0 Try.func60 rfl rfl rfl rfl ?_
  refine ACode.seq ?_
  refine ACode.region ?_
  refine AOps.cons (St1.boxP rfl rfl rfl rfl rfl rfl) ?_
  refine AOps.cons (St1.assign rfl rfl rfl rfl rfl) ?_
  refine AOps.nil ?_
  refine ks_n ?_
  refine ACode.seq ?_
  refine ACode.region ?_
  refine AOps.cons (St1.move rfl rfl rfl rfl rfl) ?_
  refine AOps.cons (St1.lenL (e := 51) (m := 2) (by' := 32) rfl rfl rfl rfl rfl (by kernel_rfl) rfl (by first | exact List.length_map _ | rfl)) ?_
  refine AOps.cons (St1.callP (xs := [.tmp 6, .const (.int .i64 (1)), .const (.int .i64 (2))]) rfl rfl rfl rfl rfl rfl (by kernel_rfl) rfl (within_fn _ 1 2) rfl) ?_
  refine AOps.cons (St1.move rfl rfl rfl rfl rfl) ?_
  refine AOps.cases 8 _ rfl (fun g8 => ?_) (fun g8 => ?_)
  · try simp only [List.length_map, decide_eq_true_eq, decide_eq_false_iff_not, Bool.not_eq_true', Bool.not_eq_false', Bool.not_eq_true, Bool.not_eq_false] at g8
    refine AOps.cons (St1.guardT rfl rfl rfl rfl rfl (St1.move rfl rfl rfl rfl rfl)) ?_
    refine AOps.cons (St1.guardT rfl rfl rfl rfl rfl (St1.makeFunc (xs := [.tmp 3]) rfl rfl rfl rfl rfl rfl rfl)) ?_
    refine AOps.cons (St1.guardT rfl rfl rfl rfl rfl (St1.callP (xs := [.tmp 9, .tmp 10]) rfl rfl rfl rfl rfl rfl (by kernel_rfl) rfl (cnt_aff (f := 97) (cap := [[dI (d : Nat)]]) (by kernel_rfl) (fun x => !bndV d x) xs hx (fun x _ => bnd1_fn d x)) rfl)) ?_
    refine AOps.cons (St1.guardT rfl rfl rfl rfl rfl (St1.not rfl rfl rfl rfl rfl)) ?_
    refine AOps.cons (St1.pickT rfl rfl rfl rfl rfl rfl) ?_
    refine AOps.cons (St1.assign rfl rfl rfl rfl rfl) ?_
    refine AOps.nil ?_
    refine ks_n ?_
    refine ACode.ret ?_
    refine kf_ret rfl ?_ nobox
    simp only [inB, decide_eq_true_eq, decide_eq_false_iff_not] at g8
    first | exact leafB (by rw [nany, sideV, decide_eq_true (show 1 ≤ xs.length by omega), decide_eq_true (show xs.length ≤ 2 by omega)]; simp) | exact leafB (by rw [sideV]; symm; simp; omega)
  · try simp only [List.length_map, decide_eq_true_eq, decide_eq_false_iff_not, Bool.not_eq_true', Bool.not_eq_false', Bool.not_eq_true, Bool.not_eq_false] at g8
    refine AOps.cons (St1.guardF rfl rfl rfl rfl rfl rfl) ?_
    refine AOps.cons (St1.guardF rfl rfl rfl rfl rfl rfl) ?_
    refine AOps.cons (St1.guardF rfl rfl rfl rfl rfl rfl) ?_
    refine AOps.cons (St1.guardF rfl rfl rfl rfl rfl rfl) ?_
    refine AOps.cons (St1.pickF rfl rfl rfl rfl rfl rfl) ?_
    refine AOps.cons (St1.assign rfl rfl rfl rfl rfl) ?_
    refine AOps.nil ?_
    refine ks_n ?_
    refine ACode.ret ?_
    refine kf_ret rfl ?_ nobox
    simp only [inB, decide_eq_true_eq, decide_eq_false_iff_not] at g8
    first | exact leafB (by rw [nany, sideV, decide_eq_true (show 1 ≤ xs.length by omega), decide_eq_true (show xs.length ≤ 2 by omega)]; simp) | exact leafB (by rw [sideV]; symm; simp; omega)

set_option maxRecDepth 100000 in
set_option maxHeartbeats 1600000 in
theorem l2Side_fn (d : Nat) (xs : List Aff) (hx : xs.length ≤ 1099511627776) : Fn Try.prog 100 [] [vD (dAs xs), nat1 (d : Nat)] (.o (bo1 (sideV d xs))) [] := by
  refine Fn.code0 Try.func100 rfl rfl rfl rfl ?_
  refine ACode.seq ?_
  refine ACode.region ?_
  refine AOps.cons (St1.assign rfl rfl rfl rfl rfl) ?_
  refine AOps.nil ?_
  refine ks_n ?_
  refine ACode.seq ?_
  refine ACode.seq ?_
  refine ACode.region ?_
  refine AOps.cons (St1.assign rfl rfl rfl rfl rfl) ?_
  refine AOps.nil ?_
  refine ks_n ?_
  refine ACode.block ?_
  refine ACode.wk (σ' := [(.t 0, .v (.o (vD (dAs xs)))), (.t 1, .v (.o (nat1 (d : Nat)))), (.t 5, .v (.o (nat1 (0 : Nat))))]) (Wk.keep [] rfl rfl ⟨⟨_, rfl, Vto.dat _ _ (by first | rfl | exact congrArg (fun z => V.o (nat1 z)) (by omega) | (simp; done) | omega) rfl⟩, ⟨_, rfl, Vto.dat _ _ (by first | rfl | exact congrArg (fun z => V.o (nat1 z)) (by omega) | (simp; done) | omega) rfl⟩, ⟨_, rfl, Vto.dat _ _ (by first | rfl | exact congrArg (fun z => V.o (nat1 z)) (by omega) | (simp; done) | omega) rfl⟩, trivial⟩) ?_
  refine ACode.loop (fun m σ => (∃ i : Nat, m = xs.length - i ∧ (i ≤ xs.length) ∧ (xs.all (bndV d) = (xs.drop i).all (bndV d)) ∧ σ = [(.t 0, .v (.o (vD (dAs xs)))), (.t 1, .v (.o (nat1 (d : Nat)))), (.t 5, .v (.o (nat1 (i : Nat))))])) ((xs.length - 0)) ⟨0, rfl, by omega, by simp, rfl⟩ ?_
  rintro m σ ⟨i, hm0, hi, hF, rfl⟩
  refine ACode.seq ?_
  refine ACode.seq ?_
  refine ACode.region ?_
  refine AOps.cons (St1.move rfl rfl rfl rfl rfl) ?_
  refine AOps.cons (St1.move rfl rfl rfl rfl rfl) ?_
  refine AOps.cons (St1.lenL (e := 51) (m := 2) (by' := 32) rfl rfl rfl rfl rfl (by kernel_rfl) rfl (by first | exact List.length_map _ | rfl)) ?_
  refine AOps.cons (St1.lss rfl rfl rfl rfl rfl rfl) ?_
  refine AOps.nil ?_
  refine ks_n ?_
  refine ACode.condT rfl (fun h9 => ?_) (fun h9 => ?_)
  · try simp only [List.length_map, decide_eq_true_eq, decide_eq_false_iff_not, Bool.not_eq_true', Bool.not_eq_false', Bool.not_eq_true, Bool.not_eq_false] at h9
    obtain ⟨x, hx1⟩ : ∃ x, xs[i]? = some x := ⟨_, List.getElem?_eq_getElem (by omega)⟩
    refine ACode.skip ?_
    refine ks_n ?_
    refine ACode.seq ?_
    refine ACode.block ?_
    refine ACode.seq ?_
    refine ACode.region ?_
    refine AOps.cons (St1.move rfl rfl rfl rfl rfl) ?_
    refine AOps.cons (St1.move rfl rfl rfl rfl rfl) ?_
    refine AOps.cons (St1.indexL (e := 51) (sz := 2) (by' := 32) rfl rfl rfl rfl (by kernel_rfl) rfl rfl rfl rfl (by first | exact map_at (by assumption) | rfl)) ?_
    refine AOps.cons (St1.loadPN (m := 2) rfl rfl rfl rfl (by kernel_rfl) rfl rfl) ?_
    refine AOps.cons (St1.callP (xs := [.tmp 15]) rfl rfl rfl rfl rfl rfl (by kernel_rfl) rfl (specAffV_fn x) rfl) ?_
    refine AOps.cons (St1.not rfl rfl rfl rfl rfl) ?_
    refine AOps.cons (St1.move rfl rfl rfl rfl rfl) ?_
    refine AOps.cases 18 _ rfl (fun g18 => ?_) (fun g18 => ?_)
    · try simp only [List.length_map, decide_eq_true_eq, decide_eq_false_iff_not, Bool.not_eq_true', Bool.not_eq_false', Bool.not_eq_true, Bool.not_eq_false] at g18
      refine AOps.cons (St1.guardF rfl rfl rfl rfl rfl rfl) ?_
      refine AOps.cons (St1.guardF rfl rfl rfl rfl rfl rfl) ?_
      refine AOps.cons (St1.guardF rfl rfl rfl rfl rfl rfl) ?_
      refine AOps.cons (St1.guardF rfl rfl rfl rfl rfl rfl) ?_
      refine AOps.cons (St1.guardF rfl rfl rfl rfl rfl rfl) ?_
      refine AOps.cons (St1.guardF rfl rfl rfl rfl rfl rfl) ?_
      refine AOps.cons (St1.guardF rfl rfl rfl rfl rfl rfl) ?_
      refine AOps.cons (St1.pickT rfl rfl rfl rfl rfl rfl) ?_
      refine AOps.nil ?_
      refine ks_n ?_
      refine ACode.condT rfl (fun _ => ?_) (fun h => by first | (cases h; done) | (simp [*] at h; done) | (exfalso; simp_all; done))
      refine ACode.seq ?_
      have g : bndV d x = false := bnd_no (by first | exact .inl (by assumption) | exact .inr (by omega))
      refine ACode.region ?_
      refine AOps.cons (St1.assign rfl rfl rfl rfl rfl) ?_
      refine AOps.nil ?_
      refine ks_n ?_
      refine ACode.ret ?_
      refine kb_r ?_
      refine ks_r ?_
      refine kl_r ?_
      refine kb_r ?_
      refine ks_r ?_
      refine kf_ret rfl ?_ nobox
      exact leafB (by rw [sideV, hF, all_drop hx1, g]; rfl)
    · try simp only [List.length_map, decide_eq_true_eq, decide_eq_false_iff_not, Bool.not_eq_true', Bool.not_eq_false', Bool.not_eq_true, Bool.not_eq_false] at g18
      refine AOps.cons (St1.guardT rfl rfl rfl rfl rfl (St1.move rfl rfl rfl rfl rfl)) ?_
      refine AOps.cons (St1.guardT rfl rfl rfl rfl rfl (St1.move rfl rfl rfl rfl rfl)) ?_
      refine AOps.cons (St1.guardT rfl rfl rfl rfl rfl (St1.indexL (e := 51) (sz := 2) (by' := 32) rfl rfl rfl rfl (by kernel_rfl) rfl rfl rfl rfl (by first | exact map_at (by assumption) | rfl))) ?_
      refine AOps.cons (St1.guardT rfl rfl rfl rfl rfl (St1.loadPN (m := 2) rfl rfl rfl rfl (by kernel_rfl) rfl rfl)) ?_
      refine AOps.cons (St1.guardT rfl rfl rfl rfl rfl (St1.callP (xs := [.tmp 22]) rfl rfl rfl rfl rfl rfl (by kernel_rfl) rfl (l1Depth_fn x) rfl)) ?_
      refine AOps.cons (St1.guardT rfl rfl rfl rfl rfl (St1.move rfl rfl rfl rfl rfl)) ?_
      refine AOps.cons (St1.guardT rfl rfl rfl rfl rfl (St1.gtr rfl rfl rfl rfl rfl rfl)) ?_
      refine AOps.cons (St1.pickF rfl rfl rfl rfl rfl rfl) ?_
      refine AOps.nil ?_
      refine ks_n ?_
      refine ACode.condT rfl (fun h26 => ?_) (fun h26 => ?_)
      · try simp only [List.length_map, decide_eq_true_eq, decide_eq_false_iff_not, Bool.not_eq_true', Bool.not_eq_false', Bool.not_eq_true, Bool.not_eq_false] at h26
        refine ACode.seq ?_
        have g : bndV d x = false := bnd_no (by first | exact .inl (by assumption) | exact .inr (by omega))
        refine ACode.region ?_
        refine AOps.cons (St1.assign rfl rfl rfl rfl rfl) ?_
        refine AOps.nil ?_
        refine ks_n ?_
        refine ACode.ret ?_
        refine kb_r ?_
        refine ks_r ?_
        refine kl_r ?_
        refine kb_r ?_
        refine ks_r ?_
        refine kf_ret rfl ?_ nobox
        exact leafB (by rw [sideV, hF, all_drop hx1, g]; rfl)
      · try simp only [List.length_map, decide_eq_true_eq, decide_eq_false_iff_not, Bool.not_eq_true', Bool.not_eq_false', Bool.not_eq_true, Bool.not_eq_false] at h26
        replace h26 : ¬ d < affDepth x := by omega
        refine ACode.skip ?_
        refine kb_n ?_
        refine ks_n ?_
        refine ACode.region ?_
        refine AOps.cons (St1.move rfl rfl rfl rfl rfl) ?_
        refine AOps.cons (St1.add rfl rfl rfl rfl rfl rfl (by omega)) ?_
        refine AOps.cons (St1.assign rfl rfl rfl rfl rfl) ?_
        refine AOps.nil ?_
        refine kl_n (σ2 := [(.t 0, .v (.o (vD (dAs xs)))), (.t 1, .v (.o (nat1 (d : Nat)))), (.t 5, .v (.o (nat1 ((i + 1) : Nat))))]) ((xs.length - (i + 1))) (by omega) (Wk.keep [] rfl rfl ⟨⟨_, rfl, Vto.dat _ _ (by first | rfl | exact congrArg (fun z => V.o (nat1 z)) (by omega) | (simp; done) | omega) rfl⟩, ⟨_, rfl, Vto.dat _ _ (by first | rfl | exact congrArg (fun z => V.o (nat1 z)) (by omega) | (simp; done) | omega) rfl⟩, ⟨_, rfl, Vto.dat _ _ (by first | rfl | exact congrArg (fun z => V.o (nat1 z)) (by omega) | (simp; done) | omega) rfl⟩, trivial⟩) ⟨i + 1, rfl, by omega, by rw [hF, all_drop hx1, bnd_yes g18 h26, Bool.true_and], rfl⟩
  · try simp only [List.length_map, decide_eq_true_eq, decide_eq_false_iff_not, Bool.not_eq_true', Bool.not_eq_false', Bool.not_eq_true, Bool.not_eq_false] at h9
    have hA : xs.all (bndV d) = true := by rw [hF, List.drop_of_length_le (by omega)]; rfl
    refine ACode.exit ?_
    refine ks_e ?_
    refine kl_e ?_
    refine kb_hit ?_
    refine ks_n ?_
    refine ACode.seq ?_
    refine ACode.region ?_
    refine AOps.cons (St1.move rfl rfl rfl rfl rfl) ?_
    refine AOps.cons (St1.lenL (e := 51) (m := 2) (by' := 32) rfl rfl rfl rfl rfl (by kernel_rfl) rfl (by first | exact List.length_map _ | rfl)) ?_
    refine AOps.cons (St1.geq rfl rfl rfl rfl rfl rfl) ?_
    refine AOps.cons (St1.move rfl rfl rfl rfl rfl) ?_
    refine AOps.cases 30 _ rfl (fun g30 => ?_) (fun g30 => ?_)
    · try simp only [List.length_map, decide_eq_true_eq, decide_eq_false_iff_not, Bool.not_eq_true', Bool.not_eq_false', Bool.not_eq_true, Bool.not_eq_false] at g30
      refine AOps.cons (St1.guardT rfl rfl rfl rfl rfl (St1.move rfl rfl rfl rfl rfl)) ?_
      refine AOps.cons (St1.guardT rfl rfl rfl rfl rfl (St1.lenL (e := 51) (m := 2) (by' := 32) rfl rfl rfl rfl rfl (by kernel_rfl) rfl (by first | exact List.length_map _ | rfl))) ?_
      refine AOps.cons (St1.guardT rfl rfl rfl rfl rfl (St1.leq rfl rfl rfl rfl rfl rfl)) ?_
      refine AOps.cons (St1.pickT rfl rfl rfl rfl rfl rfl) ?_
      refine AOps.cons (St1.assign rfl rfl rfl rfl rfl) ?_
      refine AOps.nil ?_
      refine ks_n ?_
      refine ACode.ret ?_
      refine kf_ret rfl ?_ nobox
      exact leafB (side_len hA (by first | (rw [decide_eq_false (show ¬ 1 ≤ xs.length by omega)]; rfl) | (rw [decide_eq_true (show 1 ≤ xs.length by omega), Bool.true_and, Bool.eq_iff_iff]; simp; omega)))
    · try simp only [List.length_map, decide_eq_true_eq, decide_eq_false_iff_not, Bool.not_eq_true', Bool.not_eq_false', Bool.not_eq_true, Bool.not_eq_false] at g30
      refine AOps.cons (St1.guardF rfl rfl rfl rfl rfl rfl) ?_
      refine AOps.cons (St1.guardF rfl rfl rfl rfl rfl rfl) ?_
      refine AOps.cons (St1.guardF rfl rfl rfl rfl rfl rfl) ?_
      refine AOps.cons (St1.pickF rfl rfl rfl rfl rfl rfl) ?_
      refine AOps.cons (St1.assign rfl rfl rfl rfl rfl) ?_
      refine AOps.nil ?_
      refine ks_n ?_
      refine ACode.ret ?_
      refine kf_ret rfl ?_ nobox
      exact leafB (side_len hA (by first | (rw [decide_eq_false (show ¬ 1 ≤ xs.length by omega)]; rfl) | (rw [decide_eq_true (show 1 ≤ xs.length by omega), Bool.true_and, Bool.eq_iff_iff]; simp; omega)))

set_option maxRecDepth 100000 in
set_option maxHeartbeats 1600000 in
theorem implNestV_fn (ns : List Lp) (hs : smN ns) : Fn Try.prog 20 [] [vD (dLs ns)] (.o (bo1 (nsV ns))) [] := by
  have hn := hs.1
  refine Fn.code0 Try.func20 rfl rfl rfl rfl ?_
  refine ACode.seq ?_
  refine ACode.region ?_
  refine AOps.cons (St1.assign rfl rfl rfl rfl rfl) ?_
  refine AOps.nil ?_
  refine ks_n ?_
  refine ACode.seq ?_
  refine ACode.seq ?_
  refine ACode.region ?_
  refine AOps.cons (St1.move rfl rfl rfl rfl rfl) ?_
  refine AOps.cons (St1.lenL (e := 67) (m := 2) (by' := 48) rfl rfl rfl rfl rfl (by kernel_rfl) rfl (by first | exact List.length_map _ | rfl)) ?_
  refine AOps.cons (St1.move rfl rfl rfl rfl rfl) ?_
  refine AOps.nil ?_
  refine ks_n ?_
  refine ACode.block ?_
  refine ACode.wk (σ' := [(.t 0, .v (.o (vD (dLs ns)))), (.t 5, .v (.o (vD (dLs ns)))), (.t 6, .v (.o (nat1 (ns.length : Nat)))), (.t 7, .v (.o (nat1 (0 : Nat))))]) (Wk.keep [] rfl rfl ⟨⟨_, rfl, Vto.dat _ _ (by first | rfl | exact congrArg (fun z => V.o (nat1 z)) (by omega) | (simp; done) | omega) rfl⟩, ⟨_, rfl, Vto.dat _ _ (by first | rfl | exact congrArg (fun z => V.o (nat1 z)) (by omega) | (simp; done) | omega) rfl⟩, ⟨_, rfl, Vto.dat _ _ (by first | rfl | exact congrArg (fun z => V.o (nat1 z)) (by omega) | (simp; done) | omega) rfl⟩, ⟨_, rfl, Vto.dat _ _ (by first | rfl | exact congrArg (fun z => V.o (nat1 z)) (by omega) | (simp; done) | omega) rfl⟩, trivial⟩) ?_
  refine ACode.loop (fun m σ => (∃ i : Nat, m = ns.length - i ∧ (i ≤ ns.length) ∧ (nestG 0 ns = nestG i (ns.drop i)) ∧ σ = [(.t 0, .v (.o (vD (dLs ns)))), (.t 5, .v (.o (vD (dLs ns)))), (.t 6, .v (.o (nat1 (ns.length : Nat)))), (.t 7, .v (.o (nat1 (i : Nat))))])) ((ns.length - 0)) ⟨0, rfl, by omega, by simp, rfl⟩ ?_
  rintro m σ ⟨i, hm0, hi, hF, rfl⟩
  refine ACode.seq ?_
  refine ACode.region ?_
  refine AOps.cons (St1.lss rfl rfl rfl rfl rfl rfl) ?_
  refine AOps.nil ?_
  refine ks_n ?_
  refine ACode.seq ?_
  refine ACode.condT rfl (fun h8 => ?_) (fun h8 => ?_)
  · try simp only [List.length_map, decide_eq_true_eq, decide_eq_false_iff_not, Bool.not_eq_true', Bool.not_eq_false', Bool.not_eq_true, Bool.not_eq_false] at h8
    obtain ⟨x, hx1⟩ : ∃ x, ns[i]? = some x := ⟨_, List.getElem?_eq_getElem (by omega)⟩
    have hq := hs.2 x (List.mem_of_getElem? hx1)
    refine ACode.skip ?_
    refine ks_n ?_
    refine ACode.seq ?_
    refine ACode.block ?_
    refine ACode.seq ?_
    refine ACode.region ?_
    refine AOps.cons (St1.move rfl rfl rfl rfl rfl) ?_
    refine AOps.cons (St1.indexL (e := 67) (sz := 2) (by' := 48) rfl rfl rfl rfl (by kernel_rfl) rfl rfl rfl rfl (by first | exact map_at (by assumption) | rfl)) ?_
    refine AOps.cons (St1.loadPN (m := 2) rfl rfl rfl rfl (by kernel_rfl) rfl rfl) ?_
    refine AOps.cons (St1.alloc (k' := 104) (zs := [.slice none 0 0, .slice none 0 0]) rfl rfl rfl rfl (by kernel_rfl) rfl rfl rfl) ?_
    refine AOps.cons (St1.assign rfl rfl rfl rfl rfl) ?_
    refine AOps.cons (St1.store (m := 2) (rw' := true) rfl rfl rfl (by kernel_rfl) rfl rfl rfl rfl rfl rfl rfl) ?_
    refine AOps.nil ?_
    refine ks_n ?_
    refine ACode.seq ?_
    refine ACode.region ?_
    refine AOps.cons (St1.fieldB (off := 0) (m := 0) (r := false) rfl rfl rfl rfl (by kernel_rfl) rfl rfl) ?_
    refine AOps.cons (St1.loadB1 (m := 1) rfl rfl rfl rfl (by kernel_rfl) rfl rfl rfl rfl rfl) ?_
    refine AOps.cons (St1.move rfl rfl rfl rfl rfl) ?_
    refine AOps.cons (St1.callP (xs := [.tmp 13, .tmp 14]) rfl rfl rfl rfl rfl rfl (by kernel_rfl) rfl (boundsOk_fn i _ (Nat.le_trans hq.1 (by omega))) rfl) ?_
    refine AOps.cons (St1.not rfl rfl rfl rfl rfl) ?_
    refine AOps.cons (St1.move rfl rfl rfl rfl rfl) ?_
    refine AOps.cases 17 _ rfl (fun g17 => ?_) (fun g17 => ?_)
    · try simp only [List.length_map, decide_eq_true_eq, decide_eq_false_iff_not, Bool.not_eq_true', Bool.not_eq_false', Bool.not_eq_true, Bool.not_eq_false] at g17
      refine AOps.cons (St1.guardF rfl rfl rfl rfl rfl rfl) ?_
      refine AOps.cons (St1.guardF rfl rfl rfl rfl rfl rfl) ?_
      refine AOps.cons (St1.guardF rfl rfl rfl rfl rfl rfl) ?_
      refine AOps.cons (St1.guardF rfl rfl rfl rfl rfl rfl) ?_
      refine AOps.cons (St1.guardF rfl rfl rfl rfl rfl rfl) ?_
      refine AOps.cons (St1.pickT rfl rfl rfl rfl rfl rfl) ?_
      refine AOps.nil ?_
      refine ks_n ?_
      refine ACode.condT rfl (fun _ => ?_) (fun h => by first | (cases h; done) | (simp [*] at h; done) | (exfalso; simp_all; done))
      refine ACode.seq ?_
      have g : (sideV i x.1 && sideV i x.2) = false := by simp [*]
      refine ACode.region ?_
      refine AOps.cons (St1.assign rfl rfl rfl rfl rfl) ?_
      refine AOps.nil ?_
      refine ks_n ?_
      refine ACode.ret ?_
      refine kb_r ?_
      refine ks_r ?_
      refine kl_r ?_
      refine kb_r ?_
      refine ks_r ?_
      refine kf_ret rfl ?_ nobox
      exact leafB (by rw [nsV, hF, nestG_drop hx1, g]; simp)
    · try simp only [List.length_map, decide_eq_true_eq, decide_eq_false_iff_not, Bool.not_eq_true', Bool.not_eq_false', Bool.not_eq_true, Bool.not_eq_false] at g17
      refine AOps.cons (St1.guardT rfl rfl rfl rfl rfl (St1.fieldB (off := 1) (m := 0) (r := false) rfl rfl rfl rfl (by kernel_rfl) rfl rfl)) ?_
      refine AOps.cons (St1.guardT rfl rfl rfl rfl rfl (St1.loadB1 (m := 1) rfl rfl rfl rfl (by kernel_rfl) rfl rfl rfl rfl rfl)) ?_
      refine AOps.cons (St1.guardT rfl rfl rfl rfl rfl (St1.move rfl rfl rfl rfl rfl)) ?_
      refine AOps.cons (St1.guardT rfl rfl rfl rfl rfl (St1.callP (xs := [.tmp 19, .tmp 20]) rfl rfl rfl rfl rfl rfl (by kernel_rfl) rfl (boundsOk_fn i _ (Nat.le_trans hq.2.1 (by omega))) rfl)) ?_
      refine AOps.cons (St1.guardT rfl rfl rfl rfl rfl (St1.not rfl rfl rfl rfl rfl)) ?_
      refine AOps.cons (St1.pickF rfl rfl rfl rfl rfl rfl) ?_
      refine AOps.nil ?_
      refine ks_n ?_
      refine ACode.condT rfl (fun h23 => ?_) (fun h23 => ?_)
      · try simp only [List.length_map, decide_eq_true_eq, decide_eq_false_iff_not, Bool.not_eq_true', Bool.not_eq_false', Bool.not_eq_true, Bool.not_eq_false] at h23
        refine ACode.seq ?_
        have g : (sideV i x.1 && sideV i x.2) = false := by simp [*]
        refine ACode.region ?_
        refine AOps.cons (St1.assign rfl rfl rfl rfl rfl) ?_
        refine AOps.nil ?_
        refine ks_n ?_
        refine ACode.ret ?_
        refine kb_r ?_
        refine ks_r ?_
        refine kl_r ?_
        refine kb_r ?_
        refine ks_r ?_
        refine kf_ret rfl ?_ nobox
        exact leafB (by rw [nsV, hF, nestG_drop hx1, g]; simp)
      · try simp only [List.length_map, decide_eq_true_eq, decide_eq_false_iff_not, Bool.not_eq_true', Bool.not_eq_false', Bool.not_eq_true, Bool.not_eq_false] at h23
        refine ACode.skip ?_
        refine kb_n ?_
        refine ks_n ?_
        have g : (sideV i x.1 && sideV i x.2) = true := by simp [*]
        refine ACode.region ?_
        refine AOps.cons (St1.add rfl rfl rfl rfl rfl rfl (by omega)) ?_
        refine AOps.cons (St1.move rfl rfl rfl rfl rfl) ?_
        refine AOps.nil ?_
        refine kl_n (σ2 := [(.t 0, .v (.o (vD (dLs ns)))), (.t 5, .v (.o (vD (dLs ns)))), (.t 6, .v (.o (nat1 (ns.length : Nat)))), (.t 7, .v (.o (nat1 ((i + 1) : Nat))))]) ((ns.length - (i + 1))) (by omega) (Wk.keep [] rfl rfl ⟨⟨_, rfl, Vto.dat _ _ (by first | rfl | exact congrArg (fun z => V.o (nat1 z)) (by omega) | (simp; done) | omega) rfl⟩, ⟨_, rfl, Vto.dat _ _ (by first | rfl | exact congrArg (fun z => V.o (nat1 z)) (by omega) | (simp; done) | omega) rfl⟩, ⟨_, rfl, Vto.dat _ _ (by first | rfl | exact congrArg (fun z => V.o (nat1 z)) (by omega) | (simp; done) | omega) rfl⟩, ⟨_, rfl, Vto.dat _ _ (by first | rfl | exact congrArg (fun z => V.o (nat1 z)) (by omega) | (simp; done) | omega) rfl⟩, trivial⟩) ⟨i + 1, rfl, by omega, by rw [hF, nestG_drop hx1, g, Bool.true_and], rfl⟩
  · try simp only [List.length_map, decide_eq_true_eq, decide_eq_false_iff_not, Bool.not_eq_true', Bool.not_eq_false', Bool.not_eq_true, Bool.not_eq_false] at h8
    refine ACode.exit ?_
    refine ks_e ?_
    refine kl_e ?_
    refine kb_hit ?_
    refine ks_n ?_
    refine ACode.seq ?_
    refine ACode.region ?_
    refine AOps.cons (St1.move rfl rfl rfl rfl rfl) ?_
    refine AOps.cons (St1.lenL (e := 67) (m := 2) (by' := 48) rfl rfl rfl rfl rfl (by kernel_rfl) rfl (by first | exact List.length_map _ | rfl)) ?_
    refine AOps.cons (St1.leq rfl rfl rfl rfl rfl rfl) ?_
    refine AOps.cons (St1.assign rfl rfl rfl rfl rfl) ?_
    refine AOps.nil ?_
    refine ks_n ?_
    refine ACode.ret ?_
    refine kf_ret rfl ?_ nobox
    exact leafB (by rw [nsV, hF, List.drop_of_length_le (by omega), nestG, Bool.and_true, Bool.eq_iff_iff]; simp; omega)

set_option maxRecDepth 100000 in
set_option maxHeartbeats 1600000 in
theorem specNestV_fn (ns : List Lp) (hs : smN ns) : Fn Try.prog 66 [] [vD (dLs ns)] (.o (bo1 (nsV ns))) [] := by
  have hn := hs.1
  refine Fn.code0 Try.func66 rfl rfl rfl rfl ?_
  refine ACode.seq ?_
  refine ACode.region ?_
  refine AOps.cons (St1.assign rfl rfl rfl rfl rfl) ?_
  refine AOps.nil ?_
  refine ks_n ?_
  refine ACode.seq ?_
  refine ACode.seq ?_
  refine ACode.region ?_
  refine AOps.cons (St1.assign rfl rfl rfl rfl rfl) ?_
  refine AOps.nil ?_
  refine ks_n ?_
  refine ACode.block ?_
  refine ACode.wk (σ' := [(.t 0, .v (.o (vD (dLs ns)))), (.t 3, .v (.o (nat1 (0 : Nat))))]) (Wk.keep [] rfl rfl ⟨⟨_, rfl, Vto.dat _ _ (by first | rfl | exact congrArg (fun z => V.o (nat1 z)) (by omega) | (simp; done) | omega) rfl⟩, ⟨_, rfl, Vto.dat _ _ (by first | rfl | exact congrArg (fun z => V.o (nat1 z)) (by omega) | (simp; done) | omega) rfl⟩, trivial⟩) ?_
  refine ACode.loop (fun m σ => (∃ i : Nat, m = ns.length - i ∧ (i ≤ ns.length) ∧ (nestG 0 ns = nestG i (ns.drop i)) ∧ σ = [(.t 0, .v (.o (vD (dLs ns)))), (.t 3, .v (.o (nat1 (i : Nat))))])) ((ns.length - 0)) ⟨0, rfl, by omega, by simp, rfl⟩ ?_
  rintro m σ ⟨i, hm0, hi, hF, rfl⟩
  refine ACode.seq ?_
  refine ACode.seq ?_
  refine ACode.region ?_
  refine AOps.cons (St1.move rfl rfl rfl rfl rfl) ?_
  refine AOps.cons (St1.move rfl rfl rfl rfl rfl) ?_
  refine AOps.cons (St1.lenL (e := 67) (m := 2) (by' := 48) rfl rfl rfl rfl rfl (by kernel_rfl) rfl (by first | exact List.length_map _ | rfl)) ?_
  refine AOps.cons (St1.lss rfl rfl rfl rfl rfl rfl) ?_
  refine AOps.cons (St1.move rfl rfl rfl rfl rfl) ?_
  refine AOps.cases 8 _ rfl (fun g8 => ?_) (fun g8 => ?_)
  · try simp only [List.length_map, decide_eq_true_eq, decide_eq_false_iff_not, Bool.not_eq_true', Bool.not_eq_false', Bool.not_eq_true, Bool.not_eq_false] at g8
    refine AOps.cons (St1.guardT rfl rfl rfl rfl rfl (St1.move rfl rfl rfl rfl rfl)) ?_
    refine AOps.cons (St1.guardT rfl rfl rfl rfl rfl (St1.lenL (e := 67) (m := 2) (by' := 48) rfl rfl rfl rfl rfl (by kernel_rfl) rfl (by first | exact List.length_map _ | rfl))) ?_
    refine AOps.cons (St1.guardT rfl rfl rfl rfl rfl (St1.leq rfl rfl rfl rfl rfl rfl)) ?_
    refine AOps.cons (St1.pickT rfl rfl rfl rfl rfl rfl) ?_
    refine AOps.nil ?_
    refine ks_n ?_
    refine ACode.condT rfl (fun h12 => ?_) (fun h12 => ?_)
    · try simp only [List.length_map, decide_eq_true_eq, decide_eq_false_iff_not, Bool.not_eq_true', Bool.not_eq_false', Bool.not_eq_true, Bool.not_eq_false] at h12
      obtain ⟨x, hx1⟩ : ∃ x, ns[i]? = some x := ⟨_, List.getElem?_eq_getElem (by omega)⟩
      have hq := hs.2 x (List.mem_of_getElem? hx1)
      refine ACode.skip ?_
      refine ks_n ?_
      refine ACode.seq ?_
      refine ACode.block ?_
      refine ACode.seq ?_
      refine ACode.region ?_
      refine AOps.cons (St1.move rfl rfl rfl rfl rfl) ?_
      refine AOps.cons (St1.move rfl rfl rfl rfl rfl) ?_
      refine AOps.cons (St1.indexL (e := 67) (sz := 2) (by' := 48) rfl rfl rfl rfl (by kernel_rfl) rfl rfl rfl rfl (by first | exact map_at (by assumption) | rfl)) ?_
      refine AOps.cons (St1.fieldP (off := 0) (m := 0) (r := false) rfl rfl rfl rfl (by kernel_rfl) rfl) ?_
      refine AOps.cons (St1.loadP1 (m := 1) rfl rfl rfl rfl (by kernel_rfl) rfl) ?_
      refine AOps.cons (St1.move rfl rfl rfl rfl rfl) ?_
      refine AOps.cons (St1.callP (xs := [.tmp 19, .tmp 20]) rfl rfl rfl rfl rfl rfl (by kernel_rfl) rfl (l2Side_fn i _ (Nat.le_trans hq.1 (by omega))) rfl) ?_
      refine AOps.cons (St1.not rfl rfl rfl rfl rfl) ?_
      refine AOps.cons (St1.move rfl rfl rfl rfl rfl) ?_
      refine AOps.cases 23 _ rfl (fun g23 => ?_) (fun g23 => ?_)
      · try simp only [List.length_map, decide_eq_true_eq, decide_eq_false_iff_not, Bool.not_eq_true', Bool.not_eq_false', Bool.not_eq_true, Bool.not_eq_false] at g23
        refine AOps.cons (St1.guardF rfl rfl rfl rfl rfl rfl) ?_
        refine AOps.cons (St1.guardF rfl rfl rfl rfl rfl rfl) ?_
        refine AOps.cons (St1.guardF rfl rfl rfl rfl rfl rfl) ?_
        refine AOps.cons (St1.guardF rfl rfl rfl rfl rfl rfl) ?_
        refine AOps.cons (St1.guardF rfl rfl rfl rfl rfl rfl) ?_
        refine AOps.cons (St1.guardF rfl rfl rfl rfl rfl rfl) ?_
        refine AOps.cons (St1.guardF rfl rfl rfl rfl rfl rfl) ?_
        refine AOps.cons (St1.guardF rfl rfl rfl rfl rfl rfl) ?_
        refine AOps.cons (St1.pickT rfl rfl rfl rfl rfl rfl) ?_
        refine AOps.nil ?_
        refine ks_n ?_
        refine ACode.condT rfl (fun _ => ?_) (fun h => by first | (cases h; done) | (simp [*] at h; done) | (exfalso; simp_all; done))
        refine ACode.seq ?_
        have g : (sideV i x.1 && sideV i x.2) = false := by simp [*]
        refine ACode.region ?_
        refine AOps.cons (St1.assign rfl rfl rfl rfl rfl) ?_
        refine AOps.nil ?_
        refine ks_n ?_
        refine ACode.ret ?_
        refine kb_r ?_
        refine ks_r ?_
        refine kl_r ?_
        refine kb_r ?_
        refine ks_r ?_
        refine kf_ret rfl ?_ nobox
        exact leafB (by rw [nsV, hF, nestG_drop hx1, g]; simp)
      · try simp only [List.length_map, decide_eq_true_eq, decide_eq_false_iff_not, Bool.not_eq_true', Bool.not_eq_false', Bool.not_eq_true, Bool.not_eq_false] at g23
        refine AOps.cons (St1.guardT rfl rfl rfl rfl rfl (St1.move rfl rfl rfl rfl rfl)) ?_
        refine AOps.cons (St1.guardT rfl rfl rfl rfl rfl (St1.move rfl rfl rfl rfl rfl)) ?_
        refine AOps.cons (St1.guardT rfl rfl rfl rfl rfl (St1.indexL (e := 67) (sz := 2) (by' := 48) rfl rfl rfl rfl (by kernel_rfl) rfl rfl rfl rfl (by first | exact map_at (by assumption) | rfl))) ?_
        refine AOps.cons (St1.guardT rfl rfl rfl rfl rfl (St1.fieldP (off := 1) (m := 0) (r := false) rfl rfl rfl rfl (by kernel_rfl) rfl)) ?_
        refine AOps.cons (St1.guardT rfl rfl rfl rfl rfl (St1.loadP1 (m := 1) rfl rfl rfl rfl (by kernel_rfl) rfl)) ?_
        refine AOps.cons (St1.guardT rfl rfl rfl rfl rfl (St1.move rfl rfl rfl rfl rfl)) ?_
        refine AOps.cons (St1.guardT rfl rfl rfl rfl rfl (St1.callP (xs := [.tmp 28, .tmp 29]) rfl rfl rfl rfl rfl rfl (by kernel_rfl) rfl (l2Side_fn i _ (Nat.le_trans hq.2.1 (by omega))) rfl)) ?_
        refine AOps.cons (St1.guardT rfl rfl rfl rfl rfl (St1.not rfl rfl rfl rfl rfl)) ?_
        refine AOps.cons (St1.pickF rfl rfl rfl rfl rfl rfl) ?_
        refine AOps.nil ?_
        refine ks_n ?_
        refine ACode.condT rfl (fun h32 => ?_) (fun h32 => ?_)
        · try simp only [List.length_map, decide_eq_true_eq, decide_eq_false_iff_not, Bool.not_eq_true', Bool.not_eq_false', Bool.not_eq_true, Bool.not_eq_false] at h32
          refine ACode.seq ?_
          have g : (sideV i x.1 && sideV i x.2) = false := by simp [*]
          refine ACode.region ?_
          refine AOps.cons (St1.assign rfl rfl rfl rfl rfl) ?_
          refine AOps.nil ?_
          refine ks_n ?_
          refine ACode.ret ?_
          refine kb_r ?_
          refine ks_r ?_
          refine kl_r ?_
          refine kb_r ?_
          refine ks_r ?_
          refine kf_ret rfl ?_ nobox
          exact leafB (by rw [nsV, hF, nestG_drop hx1, g]; simp)
        · try simp only [List.length_map, decide_eq_true_eq, decide_eq_false_iff_not, Bool.not_eq_true', Bool.not_eq_false', Bool.not_eq_true, Bool.not_eq_false] at h32
          refine ACode.skip ?_
          refine kb_n ?_
          refine ks_n ?_
          have g : (sideV i x.1 && sideV i x.2) = true := by simp [*]
          refine ACode.region ?_
          refine AOps.cons (St1.move rfl rfl rfl rfl rfl) ?_
          refine AOps.cons (St1.add rfl rfl rfl rfl rfl rfl (by omega)) ?_
          refine AOps.cons (St1.assign rfl rfl rfl rfl rfl) ?_
          refine AOps.nil ?_
          refine kl_n (σ2 := [(.t 0, .v (.o (vD (dLs ns)))), (.t 3, .v (.o (nat1 ((i + 1) : Nat))))]) ((ns.length - (i + 1))) (by omega) (Wk.keep [] rfl rfl ⟨⟨_, rfl, Vto.dat _ _ (by first | rfl | exact congrArg (fun z => V.o (nat1 z)) (by omega) | (simp; done) | omega) rfl⟩, ⟨_, rfl, Vto.dat _ _ (by first | rfl | exact congrArg (fun z => V.o (nat1 z)) (by omega) | (simp; done) | omega) rfl⟩, trivial⟩) ⟨i + 1, rfl, by omega, by rw [hF, nestG_drop hx1, g, Bool.true_and], rfl⟩
    · try simp only [List.length_map, decide_eq_true_eq, decide_eq_false_iff_not, Bool.not_eq_true', Bool.not_eq_false', Bool.not_eq_true, Bool.not_eq_false] at h12
      refine ACode.exit ?_
      refine ks_e ?_
      refine kl_e ?_
      refine kb_hit ?_
      refine ks_n ?_
      refine ACode.seq ?_
      refine ACode.region ?_
      refine AOps.cons (St1.move rfl rfl rfl rfl rfl) ?_
      refine AOps.cons (St1.lenL (e := 67) (m := 2) (by' := 48) rfl rfl rfl rfl rfl (by kernel_rfl) rfl (by first | exact List.length_map _ | rfl)) ?_
      refine AOps.cons (St1.leq rfl rfl rfl rfl rfl rfl) ?_
      refine AOps.cons (St1.assign rfl rfl rfl rfl rfl) ?_
      refine AOps.nil ?_
      refine ks_n ?_
      refine ACode.ret ?_
      refine kf_ret rfl ?_ nobox
      first | exact leafB (by rw [nsV, hF, List.drop_of_length_le (by omega), nestG, Bool.and_true, Bool.eq_iff_iff]; simp; omega) | exact leafB (by rw [nsV, decide_eq_false (show ¬ ns.length ≤ 4 by omega)]; simp; omega)
  · try simp only [List.length_map, decide_eq_true_eq, decide_eq_false_iff_not, Bool.not_eq_true', Bool.not_eq_false', Bool.not_eq_true, Bool.not_eq_false] at g8
    refine AOps.cons (St1.guardF rfl rfl rfl rfl rfl rfl) ?_
    refine AOps.cons (St1.guardF rfl rfl rfl rfl rfl rfl) ?_
    refine AOps.cons (St1.guardF rfl rfl rfl rfl rfl rfl) ?_
    refine AOps.cons (St1.pickF rfl rfl rfl rfl rfl rfl) ?_
    refine AOps.nil ?_
    refine ks_n ?_
    refine ACode.condT rfl (fun h => by first | (cases h; done) | (simp [*] at h; done) | (exfalso; simp_all; done)) (fun _ => ?_)
    refine ACode.exit ?_
    refine ks_e ?_
    refine kl_e ?_
    refine kb_hit ?_
    refine ks_n ?_
    refine ACode.seq ?_
    refine ACode.region ?_
    refine AOps.cons (St1.move rfl rfl rfl rfl rfl) ?_
    refine AOps.cons (St1.lenL (e := 67) (m := 2) (by' := 48) rfl rfl rfl rfl rfl (by kernel_rfl) rfl (by first | exact List.length_map _ | rfl)) ?_
    refine AOps.cons (St1.leq rfl rfl rfl rfl rfl rfl) ?_
    refine AOps.cons (St1.assign rfl rfl rfl rfl rfl) ?_
    refine AOps.nil ?_
    refine ks_n ?_
    refine ACode.ret ?_
    refine kf_ret rfl ?_ nobox
    first | exact leafB (by rw [nsV, hF, List.drop_of_length_le (by omega), nestG, Bool.and_true, Bool.eq_iff_iff]; simp; omega) | exact leafB (by rw [nsV, decide_eq_false (show ¬ ns.length ≤ 4 by omega)]; simp; omega)

end Go.Proofs.Ytgcpdpbapgkdjaa

/- The reader: open; no condition. -/
namespace Go.Proofs.Ytgcpdpbapgkdjaa
set_option linter.unusedVariables false
set_option linter.unusedSimpArgs false
open Go.RowKit

set_option maxRecDepth 100000 in
set_option maxHeartbeats 1600000 in
theorem l16Open_fn (bs : List Int) : Fn Try.prog 43 [] [vD (dYs bs)] (.o (.c (.box 100 2 0 0))) [(.b 100, .b 105 2 (dR [rRd (bs.take 2000) 0])), (.u 100, .u)] := by
  refine Fn.of_code Try.func43 rfl rfl HB.nil rfl rfl HB.nil.data rfl (one_num rfl) ?_
  refine ACode.seq ?_
  refine ACode.region ?_
  refine AOps.cons (St1.assign rfl rfl rfl rfl rfl) ?_
  refine AOps.nil ?_
  refine ks_n ?_
  refine ACode.seq ?_
  refine ACode.seq ?_
  refine ACode.region ?_
  refine AOps.cons (St1.move rfl rfl rfl rfl rfl) ?_
  refine AOps.cons (St1.lenL (e := 5) (m := 1) (by' := 1) rfl rfl rfl rfl rfl (by kernel_rfl) rfl (by first | exact List.length_map _ | rfl)) ?_
  refine AOps.cons (St1.gtr rfl rfl rfl rfl rfl rfl) ?_
  refine AOps.nil ?_
  refine ks_n ?_
  refine ACode.condT rfl (fun h5 => ?_) (fun h5 => ?_)
  · try simp only [List.length_map, decide_eq_true_eq, decide_eq_false_iff_not, Bool.not_eq_true', Bool.not_eq_false', Bool.not_eq_true, Bool.not_eq_false] at h5
    refine ACode.region ?_
    refine AOps.cons (St1.move rfl rfl rfl rfl rfl) ?_
    refine AOps.cons (St1.sliceTo (e := 5) (sz := 1) (by' := 1) (k := 2000) rfl rfl rfl rfl (by kernel_rfl) rfl rfl rfl (by first | rfl | omega) (by simp only [List.length_map]; omega)) ?_
    refine AOps.cons (St1.assign rfl rfl rfl rfl rfl) ?_
    refine AOps.nil ?_
    refine ks_n ?_
    refine ACode.seq ?_
    refine ACode.region ?_
    refine AOps.cons (St1.move rfl rfl rfl rfl rfl) ?_
    refine AOps.cons (St1.build (pl := [(0, .tmp 8)]) (places := [(0, 1), (1, 1)]) (zs := [.slice none 0 0, .int .i64 0]) rfl rfl rfl rfl rfl (by kernel_rfl) rfl rfl rfl) ?_
    refine AOps.cons (St1.boxB (k' := 110) rfl rfl rfl rfl rfl rfl rfl) ?_
    refine AOps.cons (St1.assign rfl rfl rfl rfl rfl) ?_
    refine AOps.nil ?_
    refine ks_n ?_
    refine ACode.ret ?_
    refine kf_wret [(.t 2, .v (.o (.c (.box 100 2 0 0)))), (.b 100, .b 105 2 [[.d (dYs (bs.take 2000)), .d (dI 0)]]), (.u 100, .u)] (Wk.keep [(100, 110)] rfl rfl ⟨⟨_, rfl, Vto.c (.box _ _ _ _ _ _ (by first | decide | simp) rfl)⟩, ⟨110, _, (by first | decide | simp), rfl, .cons (.cons (.d _ _ (by first | (simp only [dYs, List.map_take]; done) | rw [List.take_of_length_le (by omega)])) (.cons (.d _ _ (by first | rfl | exact congrArg (fun z => V.o (nat1 z)) (by omega) | (simp; done) | omega)) Ctos.nil)) .nil⟩, trivial⟩) rfl ?_ (one_box rfl)
    rfl
  · try simp only [List.length_map, decide_eq_true_eq, decide_eq_false_iff_not, Bool.not_eq_true', Bool.not_eq_false', Bool.not_eq_true, Bool.not_eq_false] at h5
    refine ACode.skip ?_
    refine ks_n ?_
    refine ACode.seq ?_
    refine ACode.region ?_
    refine AOps.cons (St1.move rfl rfl rfl rfl rfl) ?_
    refine AOps.cons (St1.build (pl := [(0, .tmp 8)]) (places := [(0, 1), (1, 1)]) (zs := [.slice none 0 0, .int .i64 0]) rfl rfl rfl rfl rfl (by kernel_rfl) rfl rfl rfl) ?_
    refine AOps.cons (St1.boxB (k' := 110) rfl rfl rfl rfl rfl rfl rfl) ?_
    refine AOps.cons (St1.assign rfl rfl rfl rfl rfl) ?_
    refine AOps.nil ?_
    refine ks_n ?_
    refine ACode.ret ?_
    refine kf_wret [(.t 2, .v (.o (.c (.box 100 2 0 0)))), (.b 100, .b 105 2 [[.d (dYs (bs.take 2000)), .d (dI 0)]]), (.u 100, .u)] (Wk.keep [(100, 110)] rfl rfl ⟨⟨_, rfl, Vto.c (.box _ _ _ _ _ _ (by first | decide | simp) rfl)⟩, ⟨110, _, (by first | decide | simp), rfl, .cons (.cons (.d _ _ (by first | (simp only [dYs, List.map_take]; done) | rw [List.take_of_length_le (by omega)])) (.cons (.d _ _ (by first | rfl | exact congrArg (fun z => V.o (nat1 z)) (by omega) | (simp; done) | omega)) Ctos.nil)) .nil⟩, trivial⟩) rfl ?_ (one_box rfl)
    rfl

end Go.Proofs.Ytgcpdpbapgkdjaa

/- Draws of nests; condition: bytes. -/
namespace Go.Proofs.Ytgcpdpbapgkdjaa
set_option linter.unusedVariables false
set_option linter.unusedSimpArgs false
open Go.RowKit

theorem okN.mono {k m : Nat} {ns : List Lp} (h : okN k ns) (hm : k ≤ m) : okN m ns := ⟨Nat.le_trans h.1 hm, fun l hl => (h.2 l hl).mono hm⟩

set_option maxRecDepth 100000 in
set_option maxHeartbeats 1600000 in
theorem drawNV_core {bs : List Int} (hb : Bytes (bs.take 2000)) {ms : List Lp} {q2 : Nat} (hF : Fn Try.prog 46 (hbR (bs.take 2000) (nestD (bs.take 2000) 0).2) [vR, vD (dLs (nestD (bs.take 2000) 0).1)] (.o (vD (dLs ms))) (hbR (bs.take 2000) q2)) : Fn Try.prog 64 [] [vD (dYs bs)] (.o (vD (dLs ms))) [] := by
  refine Fn.code0 Try.func64 rfl rfl rfl rfl ?_
  refine ACode.seq ?_
  refine ACode.region ?_
  refine AOps.cons (St1.assign rfl rfl rfl rfl rfl) ?_
  refine AOps.nil ?_
  refine ks_n ?_
  refine ACode.seq ?_
  refine ACode.region ?_
  refine AOps.cons (St1.move rfl rfl rfl rfl rfl) ?_
  refine AOps.cons (St1.callO (xs := [.tmp 4]) [(100, 105)] rfl rfl rfl rfl rfl rfl (by kernel_rfl) rfl (l16Open_fn bs) rfl trivial rfl flatS.nil (flatS.nil.cons rfl) HB.nil.data rfl rfl outS_one) ?_
  refine AOps.cons (St1.assign rfl rfl rfl rfl rfl) ?_
  refine AOps.nil ?_
  refine ks_n ?_
  refine ACode.seq ?_
  refine ACode.region ?_
  refine AOps.cons (St1.move rfl rfl rfl rfl rfl) ?_
  refine AOps.cons (St1.move rfl rfl rfl rfl rfl) ?_
  refine AOps.cons (St1.callO (xs := [.tmp 7]) [(0, 105)] rfl rfl rfl rfl rfl rfl (by kernel_rfl) rfl (l2Nest_own hb (by omega)) rfl ⟨rfl, trivial⟩ rfl (hbR_flat _ _) (hbR_flat _ _) (hbR_HB _ _) rfl rfl outS_one) ?_
  refine AOps.cons (St1.callO (xs := [.tmp 6, .tmp 8]) [(0, 105)] rfl rfl rfl rfl rfl rfl (by kernel_rfl) rfl (hF) rfl ⟨rfl, trivial⟩ rfl (hbR_flat _ _) (hbR_flat _ _) (hbR_HB _ _) rfl rfl outS_one) ?_
  refine AOps.cons (St1.assign rfl rfl rfl rfl rfl) ?_
  refine AOps.nil ?_
  refine ks_n ?_
  refine ACode.ret ?_
  refine kf_ret rfl ?_ nobox
  rfl

theorem drawNV_fn {bs : List Int} (hb : Bytes (bs.take 2000)) : ∃ ns, okN 8 ns ∧ Fn Try.prog 64 [] [vD (dYs bs)] (.o (vD (dLs ns))) [] := by
  obtain ⟨h1, h2⟩ := nestD_ok hb (p := 0) (by omega)
  obtain ⟨ms, q, h3, h4, h5⟩ := l2Mutate_fn hb (p := (nestD (bs.take 2000) 0).2) (by omega) h1 (by omega)
  exact ⟨ms, h3, drawNV_core hb h5⟩

set_option maxRecDepth 100000 in
set_option maxHeartbeats 1600000 in
theorem drawNS_one {bs : List Int} (hb : Bytes (bs.take 2000)) (hk : pickV (bs.take 2000) (nestD (bs.take 2000) 0).2 2 = 0) : Fn Try.prog 13 [] [vD (dYs bs)] (.tup [vD (dLs (nestD (bs.take 2000) 0).1), vD (dLs (nestD (bs.take 2000) ((nestD (bs.take 2000) 0).2 + 1)).1)]) [] := by
  have hq := (nestD_ok hb (p := 0) (by omega)).2
  refine Fn.code0 Try.func13 rfl rfl rfl rfl ?_
  refine ACode.seq ?_
  refine ACode.region ?_
  refine AOps.cons (St1.assign rfl rfl rfl rfl rfl) ?_
  refine AOps.cons (St1.assign rfl rfl rfl rfl rfl) ?_
  refine AOps.nil ?_
  refine ks_n ?_
  refine ACode.seq ?_
  refine ACode.region ?_
  refine AOps.cons (St1.move rfl rfl rfl rfl rfl) ?_
  refine AOps.cons (St1.callO (xs := [.tmp 6]) [(100, 107)] rfl rfl rfl rfl rfl rfl (by kernel_rfl) rfl (l16Open_fn bs) rfl trivial rfl flatS.nil (flatS.nil.cons rfl) HB.nil.data rfl rfl outS_one) ?_
  refine AOps.cons (St1.assign rfl rfl rfl rfl rfl) ?_
  refine AOps.nil ?_
  refine ks_n ?_
  refine ACode.seq ?_
  refine ACode.region ?_
  refine AOps.cons (St1.move rfl rfl rfl rfl rfl) ?_
  refine AOps.cons (St1.callO (xs := [.tmp 8]) [(0, 107)] rfl rfl rfl rfl rfl rfl (by kernel_rfl) rfl (l2Nest_own hb (by omega)) rfl ⟨rfl, trivial⟩ rfl (hbR_flat _ _) (hbR_flat _ _) (hbR_HB _ _) rfl rfl outS_one) ?_
  refine AOps.cons (St1.assign rfl rfl rfl rfl rfl) ?_
  refine AOps.nil ?_
  refine ks_n ?_
  refine ACode.seq ?_
  refine ACode.seq ?_
  refine ACode.region ?_
  refine AOps.cons (St1.move rfl rfl rfl rfl rfl) ?_
  refine AOps.cons (St1.callO (xs := [.tmp 10, .const (.int .i64 (2))]) [(0, 107)] rfl rfl rfl rfl rfl rfl (by kernel_rfl) rfl (pick_fn hb (by omega) 2) rfl ⟨rfl, trivial⟩ rfl (hbR_flat _ _) (hbR_flat _ _) (hbR_HB _ _) rfl rfl outS_one) ?_
  refine AOps.cons (St1.eql rfl rfl rfl rfl rfl rfl) ?_
  refine AOps.nil ?_
  refine ks_n ?_
  refine ACode.condT rfl (fun h12 => ?_) (fun h12 => ?_)
  · try simp only [List.length_map, decide_eq_true_eq, decide_eq_false_iff_not, Bool.not_eq_true', Bool.not_eq_false', Bool.not_eq_true, Bool.not_eq_false] at h12
    refine ACode.seq ?_
    refine ACode.region ?_
    refine AOps.cons (St1.move rfl rfl rfl rfl rfl) ?_
    refine AOps.cons (St1.move rfl rfl rfl rfl rfl) ?_
    refine AOps.cons (St1.callO (xs := [.tmp 14]) [(0, 107)] rfl rfl rfl rfl rfl rfl (by kernel_rfl) rfl (l2Nest_own hb (by omega)) rfl ⟨rfl, trivial⟩ rfl (hbR_flat _ _) (hbR_flat _ _) (hbR_HB _ _) rfl rfl outS_one) ?_
    refine AOps.cons (St1.assign rfl rfl rfl rfl rfl) ?_
    refine AOps.cons (St1.assign rfl rfl rfl rfl rfl) ?_
    refine AOps.nil ?_
    refine ks_n ?_
    refine ACode.ret ?_
    refine ks_r ?_
    refine kf_ret rfl ?_ nobox
    rfl
  · try simp only [List.length_map, decide_eq_true_eq, decide_eq_false_iff_not, Bool.not_eq_true', Bool.not_eq_false', Bool.not_eq_true, Bool.not_eq_false] at h12
    omega

set_option maxRecDepth 100000 in
set_option maxHeartbeats 1600000 in
theorem drawNS_two {bs : List Int} (hb : Bytes (bs.take 2000)) (hk : pickV (bs.take 2000) (nestD (bs.take 2000) 0).2 2 ≠ 0) {ms ms2 : List Lp} {q2 q3 : Nat} (hF : Fn Try.prog 46 (hbR (bs.take 2000) ((nestD (bs.take 2000) 0).2 + 1)) [vR, vD (dLs (nestD (bs.take 2000) 0).1)] (.o (vD (dLs ms))) (hbR (bs.take 2000) q2)) (hF2 : Fn Try.prog 46 (hbR (bs.take 2000) q2) [vR, vD (dLs ms)] (.o (vD (dLs ms2))) (hbR (bs.take 2000) q3)) : Fn Try.prog 13 [] [vD (dYs bs)] (.tup [vD (dLs (nestD (bs.take 2000) 0).1), vD (dLs ms2)]) [] := by
  have hq := (nestD_ok hb (p := 0) (by omega)).2
  refine Fn.code0 Try.func13 rfl rfl rfl rfl ?_
  refine ACode.seq ?_
  refine ACode.region ?_
  refine AOps.cons (St1.assign rfl rfl rfl rfl rfl) ?_
  refine AOps.cons (St1.assign rfl rfl rfl rfl rfl) ?_
  refine AOps.nil ?_
  refine ks_n ?_
  refine ACode.seq ?_
  refine ACode.region ?_
  refine AOps.cons (St1.move rfl rfl rfl rfl rfl) ?_
  refine AOps.cons (St1.callO (xs := [.tmp 6]) [(100, 107)] rfl rfl rfl rfl rfl rfl (by kernel_rfl) rfl (l16Open_fn bs) rfl trivial rfl flatS.nil (flatS.nil.cons rfl) HB.nil.data rfl rfl outS_one) ?_
  refine AOps.cons (St1.assign rfl rfl rfl rfl rfl) ?_
  refine AOps.nil ?_
  refine ks_n ?_
  refine ACode.seq ?_
  refine ACode.region ?_
  refine AOps.cons (St1.move rfl rfl rfl rfl rfl) ?_
  refine AOps.cons (St1.callO (xs := [.tmp 8]) [(0, 107)] rfl rfl rfl rfl rfl rfl (by kernel_rfl) rfl (l2Nest_own hb (by omega)) rfl ⟨rfl, trivial⟩ rfl (hbR_flat _ _) (hbR_flat _ _) (hbR_HB _ _) rfl rfl outS_one) ?_
  refine AOps.cons (St1.assign rfl rfl rfl rfl rfl) ?_
  refine AOps.nil ?_
  refine ks_n ?_
  refine ACode.seq ?_
  refine ACode.seq ?_
  refine ACode.region ?_
  refine AOps.cons (St1.move rfl rfl rfl rfl rfl) ?_
  refine AOps.cons (St1.callO (xs := [.tmp 10, .const (.int .i64 (2))]) [(0, 107)] rfl rfl rfl rfl rfl rfl (by kernel_rfl) rfl (pick_fn hb (by omega) 2) rfl ⟨rfl, trivial⟩ rfl (hbR_flat _ _) (hbR_flat _ _) (hbR_HB _ _) rfl rfl outS_one) ?_
  refine AOps.cons (St1.eql rfl rfl rfl rfl rfl rfl) ?_
  refine AOps.nil ?_
  refine ks_n ?_
  refine ACode.condT rfl (fun h12 => ?_) (fun h12 => ?_)
  · try simp only [List.length_map, decide_eq_true_eq, decide_eq_false_iff_not, Bool.not_eq_true', Bool.not_eq_false', Bool.not_eq_true, Bool.not_eq_false] at h12
    omega
  · try simp only [List.length_map, decide_eq_true_eq, decide_eq_false_iff_not, Bool.not_eq_true', Bool.not_eq_false', Bool.not_eq_true, Bool.not_eq_false] at h12
    refine ACode.skip ?_
    refine ks_n ?_
    refine ACode.seq ?_
    refine ACode.region ?_
    refine AOps.cons (St1.move rfl rfl rfl rfl rfl) ?_
    refine AOps.cons (St1.move rfl rfl rfl rfl rfl) ?_
    refine AOps.cons (St1.move rfl rfl rfl rfl rfl) ?_
    refine AOps.cons (St1.move rfl rfl rfl rfl rfl) ?_
    refine AOps.cons (St1.callO (xs := [.tmp 18, .tmp 19]) [(0, 107)] rfl rfl rfl rfl rfl rfl (by kernel_rfl) rfl (hF) rfl ⟨rfl, trivial⟩ rfl (hbR_flat _ _) (hbR_flat _ _) (hbR_HB _ _) rfl rfl outS_one) ?_
    refine AOps.cons (St1.callO (xs := [.tmp 17, .tmp 20]) [(0, 107)] rfl rfl rfl rfl rfl rfl (by kernel_rfl) rfl (hF2) rfl ⟨rfl, trivial⟩ rfl (hbR_flat _ _) (hbR_flat _ _) (hbR_HB _ _) rfl rfl outS_one) ?_
    refine AOps.cons (St1.assign rfl rfl rfl rfl rfl) ?_
    refine AOps.cons (St1.assign rfl rfl rfl rfl rfl) ?_
    refine AOps.nil ?_
    refine ks_n ?_
    refine ACode.ret ?_
    refine kf_ret rfl ?_ nobox
    rfl

theorem drawNS_fn {bs : List Int} (hb : Bytes (bs.take 2000)) : ∃ ns ms, okN 13 ns ∧ okN 13 ms ∧ Fn Try.prog 13 [] [vD (dYs bs)] (.tup [vD (dLs ns), vD (dLs ms)]) [] := by
  obtain ⟨h1, h2⟩ := nestD_ok hb (p := 0) (by omega)
  by_cases hk : pickV (bs.take 2000) (nestD (bs.take 2000) 0).2 2 = 0
  · exact ⟨_, _, h1.mono (by omega), (nestD_ok hb (by omega)).1.mono (by omega), drawNS_one hb hk⟩
  · obtain ⟨ms, q, h3, h4, h5⟩ := l2Mutate_fn hb (p := (nestD (bs.take 2000) 0).2 + 1) (by omega) h1 (by omega)
    obtain ⟨ms2, q2, h6, h7, h8⟩ := l2Mutate_fn hb (p := q) (by omega) h3 (by omega)
    exact ⟨_, _, h1.mono (by omega), h6, drawNS_two hb hk h5 h8⟩

end Go.Proofs.Ytgcpdpbapgkdjaa

/- From a law's contract over data to its run at slices of bytes; condition: what the slices hold. -/
namespace Go.Proofs.Ytgcpdpbapgkdjaa
set_option linter.unusedVariables false
set_option linter.unusedSimpArgs false
open Go.RowKit

theorem ys_dr {B : Nat → Prop} {w : World} {v : Value} {xs : List Int} (h : Sl Sh.byte B w v xs) : Dr B w (dYs xs) v := by
  obtain ⟨a, cap, rfl, h1, h2, h3, h4⟩ := h
  by_cases h0 : xs.length = 0
  · have : xs = [] := List.eq_nil_of_length_eq_zero h0
    subst this
    exact Dr.list 1 [] a 0 cap 0 0 (fun _ _ => undef) rfl (Nat.zero_le _) (Nat.zero_le _) h3 (fun h => absurd h (Nat.lt_irrefl _)) (fun i r h => by simp at h) (fun i r j x h => by simp at h) (fun i r j x h => by simp at h)
  · obtain ⟨b, off, cs, rfl, _⟩ := h4 0 xs[0] (List.getElem?_eq_getElem (by omega))
    have hr : ∀ (i : Nat) r, (xs.map rY)[i]? = some r → ∃ x, xs[i]? = some x ∧ r = rY x := fun i r hr => by
      rw [List.getElem?_map] at hr
      cases hx : xs[i]? with
      | none => rw [hx] at hr; cases hr
      | some x => rw [hx] at hr; cases hr; exact ⟨x, rfl, rfl⟩
    refine Dr.list 1 (xs.map rY) (some ⟨b, off, none⟩) xs.length cap b off (fun i _ => .int .u8 (xs.getD i 0)) (by rw [List.length_map]) h1 h2 (fun h => by cases h) (fun _ => rfl) (fun i r hi => ?_) (fun i r j y hi hj => ?_) (fun i r j y hi hj => ?_)
    · obtain ⟨x, _, rfl⟩ := hr i r hi; rfl
    all_goals
      obtain ⟨x, hx, rfl⟩ := hr i r hi
      have hj0 : j = 0 ∧ y = .val (.int .u8 x) := by
        cases j with
        | zero => simp [rY] at hj; exact ⟨rfl, hj.symm⟩
        | succ j => simp [rY] at hj
      obtain ⟨rfl, rfl⟩ := hj0
      have hg : xs.getD i 0 = x := by rw [List.getD, hx]; rfl
    · obtain ⟨b', off', cs, e, hb, hr', hc⟩ := h4 i x hx
      cases e
      have hr2 : cs = [.int .u8 x] := hr'
      subst hr2
      exact ⟨hb, by rw [hg]; exact hc 0 _ rfl⟩
    · show Dr B w (.val (.int .u8 x)) (.int .u8 (xs.getD i 0))
      rw [hg]; exact .val _ rfl
/-- A law that answers true, and turns nothing that was there. -/
abbrev Truth (P : Program) (f : FuncId) (vs : Array Value) (w : World) : Prop := Calls P f vs w fun e w' => e = .returned (.bool true) ∧ Below w.heap.size w w'
theorem Fn.truth {P : Program} {f : FuncId} {args : List V1} {vs : List Value} {w : World} {B : Nat → Prop} (h : Fn P f [] args (.o (bo1 true)) []) (hv : Vals (V1r (fun _ => (0, 0)) (Al (lk [])) B w) args vs) : Truth P f vs.toArray w := by
  have hno : ∀ k, ¬ Al (lk []) k := fun k ⟨e, sz, rows, h⟩ => by cases h
  refine (h B (fun _ => (0, 0)) w vs ⟨fun k e sz rows h => (by cases h), fun k l hk => (hno k hk).elim, fun k hk => (hno k hk).elim⟩ hv).mono ?_
  rintro e w' ⟨v, bx', rfl, hp⟩
  have hv : Dr _ w' (.val (.bool true)) v := hp.val
  cases hv
  exact ⟨rfl, hp.os, hp.tape, hp.output, hp.size, fun b hb => hp.old b hb fun k hk => (hno k hk).elim⟩
/-- A slice of bytes, as a law takes it. -/
structure Byt (w : World) (a : Option Addr) (n c : Nat) (bs : List Int) : Prop where
  sl : n ≤ 1048576 → Sl Sh.byte (fun b => b < w.heap.size) w (.slice a n c) bs
  bd : ∀ x ∈ bs, 0 ≤ x ∧ x ≤ 255
abbrev vX (a : Option Addr) (n c : Nat) : V1 := vD (.val (.slice a n c))
theorem bytes_take {bs : List Int} (h : ∀ x ∈ bs, 0 ≤ x ∧ x ≤ 255) : Bytes (bs.take 2000) := ⟨by rw [List.length_take]; omega, fun x hx => h x (List.mem_of_mem_take hx)⟩
theorem law1 {P : Program} {f : FuncId} {a : Option Addr} {n c : Nat} {bs : List Int} {w : World} (h : Byt w a n c bs) (hbig : 1048576 < n → Fn P f [] [vX a n c] (.o (bo1 true)) [])
    (hsm : bs.length ≤ 1048576 → Bytes (bs.take 2000) → Fn P f [] [vD (dYs bs)] (.o (bo1 true)) []) : Truth P f #[.slice a n c] w := by
  by_cases hn : 1048576 < n
  · exact (hbig hn).truth (vs := [_]) (B := fun _ => True) ⟨rfl, fun i x v hx hv => by
      match i, hx, hv with
      | 0, hx, hv => cases hx; cases hv; exact Dr.val _ rfl⟩
  · have hs := h.sl (by omega)
    have hl : bs.length = n := hs.len
    exact (hsm (by omega) (bytes_take h.bd)).truth (vs := [_]) ⟨rfl, fun i x v hx hv => by
      match i, hx, hv with
      | 0, hx, hv => cases hx; cases hv; exact ys_dr hs⟩
theorem law2 {P : Program} {f : FuncId} {a a2 : Option Addr} {n c n2 c2 : Nat} {bs bs2 : List Int} {w : World} (h : Byt w a n c bs) (h2 : Byt w a2 n2 c2 bs2) (hbig : 1048576 < n ∨ 1048576 < n2 → Fn P f [] [vX a n c, vX a2 n2 c2] (.o (bo1 true)) [])
    (hsm : bs.length ≤ 1048576 → bs2.length ≤ 1048576 → Bytes (bs.take 2000) → Bytes (bs2.take 2000) → Fn P f [] [vD (dYs bs), vD (dYs bs2)] (.o (bo1 true)) []) : Truth P f #[.slice a n c, .slice a2 n2 c2] w := by
  by_cases hn : 1048576 < n ∨ 1048576 < n2
  · exact (hbig hn).truth (vs := [_, _]) (B := fun _ => True) ⟨rfl, fun i x v hx hv => by
      match i, hx, hv with
      | 0, hx, hv => cases hx; cases hv; exact Dr.val _ rfl
      | 1, hx, hv => cases hx; cases hv; exact Dr.val _ rfl⟩
  · have hs := h.sl (by omega)
    have hs2 := h2.sl (by omega)
    have hl : bs.length = n := hs.len
    have hl2 : bs2.length = n2 := hs2.len
    exact (hsm (by omega) (by omega) (bytes_take h.bd) (bytes_take h2.bd)).truth (vs := [_, _]) ⟨rfl, fun i x v hx hv => by
      match i, hx, hv with
      | 0, hx, hv => cases hx; cases hv; exact ys_dr hs
      | 1, hx, hv => cases hx; cases hv; exact ys_dr hs2⟩
end Go.Proofs.Ytgcpdpbapgkdjaa

/- Law FnNestSame; condition: bytes. -/
namespace Go.Proofs.Ytgcpdpbapgkdjaa
set_option linter.unusedVariables false
set_option linter.unusedSimpArgs false
open Go.RowKit

set_option maxRecDepth 100000 in
set_option maxHeartbeats 1600000 in
theorem nestSame_core {bs : List Int} (hl : bs.length ≤ 17592186044416) {ns ms : List Lp} (hn : smN ns) (hm : smN ms) (hD : Fn Try.prog 13 [] [vD (dYs bs)] (.tup [vD (dLs ns), vD (dLs ms)]) []) : Fn Try.prog 3 [] [vD (dYs bs)] (.o (bo1 true)) [] := by
  have e : decide (ns = ms) = decide (ms = ns) := by rw [Bool.eq_iff_iff]; simp [eq_comm]
  refine Fn.code0 Try.func3 rfl rfl rfl rfl ?_
  refine ACode.seq ?_
  refine ACode.region ?_
  refine AOps.cons (St1.assign rfl rfl rfl rfl rfl) ?_
  refine AOps.nil ?_
  refine ks_n ?_
  refine ACode.seq ?_
  refine ACode.seq ?_
  refine ACode.region ?_
  refine AOps.cons (St1.move rfl rfl rfl rfl rfl) ?_
  refine AOps.cons (St1.lenL (e := 5) (m := 1) (by' := 1) rfl rfl rfl rfl rfl (by kernel_rfl) rfl (by first | exact List.length_map _ | rfl)) ?_
  refine AOps.cons (St1.gtr rfl rfl rfl rfl rfl rfl) ?_
  refine AOps.nil ?_
  refine ks_n ?_
  refine ACode.condT rfl (fun h8 => ?_) (fun h8 => ?_)
  · try simp only [List.length_map, decide_eq_true_eq, decide_eq_false_iff_not, Bool.not_eq_true', Bool.not_eq_false', Bool.not_eq_true, Bool.not_eq_false] at h8
    refine ACode.seq ?_
    refine ACode.region ?_
    refine AOps.cons (St1.assign rfl rfl rfl rfl rfl) ?_
    refine AOps.nil ?_
    refine ks_n ?_
    refine ACode.ret ?_
    refine ks_r ?_
    refine kf_ret rfl ?_ nobox
    first | rfl | exact leafB (by simp)
  · try simp only [List.length_map, decide_eq_true_eq, decide_eq_false_iff_not, Bool.not_eq_true', Bool.not_eq_false', Bool.not_eq_true, Bool.not_eq_false] at h8
    refine ACode.skip ?_
    refine ks_n ?_
    refine ACode.seq ?_
    refine ACode.region ?_
    refine AOps.cons (St1.move rfl rfl rfl rfl rfl) ?_
    refine AOps.cons (St1.callP (xs := [.tmp 10]) rfl rfl rfl rfl rfl rfl (by kernel_rfl) rfl (hD) rfl) ?_
    refine AOps.cons (St1.move rfl rfl rfl rfl rfl) ?_
    refine AOps.cons (St1.extract rfl rfl rfl rfl rfl rfl) ?_
    refine AOps.cons (St1.extract rfl rfl rfl rfl rfl rfl) ?_
    refine AOps.cons (St1.assign rfl rfl rfl rfl rfl) ?_
    refine AOps.cons (St1.assign rfl rfl rfl rfl rfl) ?_
    refine AOps.nil ?_
    refine ks_n ?_
    refine ACode.seq ?_
    refine ACode.region ?_
    refine AOps.cons (St1.move rfl rfl rfl rfl rfl) ?_
    refine AOps.cons (St1.move rfl rfl rfl rfl rfl) ?_
    refine AOps.cons (St1.callP (xs := [.tmp 14, .tmp 15]) rfl rfl rfl rfl rfl rfl (by kernel_rfl) rfl (implNestSame_fn ns ms hn) rfl) ?_
    refine AOps.cons (St1.assign rfl rfl rfl rfl rfl) ?_
    refine AOps.nil ?_
    refine ks_n ?_
    refine ACode.seq ?_
    refine ACode.region ?_
    refine AOps.cons (St1.move rfl rfl rfl rfl rfl) ?_
    refine AOps.cons (St1.move rfl rfl rfl rfl rfl) ?_
    refine AOps.cons (St1.move rfl rfl rfl rfl rfl) ?_
    refine AOps.cons (St1.callP (xs := [.tmp 18, .tmp 19]) rfl rfl rfl rfl rfl rfl (by kernel_rfl) rfl (specNestSame_fn ns ms hn) rfl) ?_
    refine AOps.cons (St1.eqlB rfl rfl rfl rfl (by kernel_rfl) rfl rfl) ?_
    refine AOps.cons (St1.move rfl rfl rfl rfl rfl) ?_
    refine AOps.cases 22 _ rfl (fun g22 => ?_) (fun g22 => ?_)
    · try simp only [List.length_map, decide_eq_true_eq, decide_eq_false_iff_not, Bool.not_eq_true', Bool.not_eq_false', Bool.not_eq_true, Bool.not_eq_false] at g22
      refine AOps.cons (St1.guardT rfl rfl rfl rfl rfl (St1.move rfl rfl rfl rfl rfl)) ?_
      refine AOps.cons (St1.guardT rfl rfl rfl rfl rfl (St1.move rfl rfl rfl rfl rfl)) ?_
      refine AOps.cons (St1.guardT rfl rfl rfl rfl rfl (St1.move rfl rfl rfl rfl rfl)) ?_
      refine AOps.cons (St1.guardT rfl rfl rfl rfl rfl (St1.callP (xs := [.tmp 24, .tmp 25]) rfl rfl rfl rfl rfl rfl (by kernel_rfl) rfl (implNestSame_fn ms ns hm) rfl)) ?_
      refine AOps.cons (St1.guardT rfl rfl rfl rfl rfl (St1.eqlB rfl rfl rfl rfl (by kernel_rfl) rfl rfl)) ?_
      refine AOps.cons (St1.pickT rfl rfl rfl rfl rfl rfl) ?_
      refine AOps.cons (St1.move rfl rfl rfl rfl rfl) ?_
      refine AOps.cases 29 _ rfl (fun g29 => ?_) (fun g29 => ?_)
      · try simp only [List.length_map, decide_eq_true_eq, decide_eq_false_iff_not, Bool.not_eq_true', Bool.not_eq_false', Bool.not_eq_true, Bool.not_eq_false] at g29
        refine AOps.cons (St1.guardT rfl rfl rfl rfl rfl (St1.move rfl rfl rfl rfl rfl)) ?_
        refine AOps.cons (St1.guardT rfl rfl rfl rfl rfl (St1.move rfl rfl rfl rfl rfl)) ?_
        refine AOps.cons (St1.guardT rfl rfl rfl rfl rfl (St1.callP (xs := [.tmp 30, .tmp 31]) rfl rfl rfl rfl rfl rfl (by kernel_rfl) rfl (implNestSame_fn ns ns hn) rfl)) ?_
        refine AOps.cons (St1.pickT rfl rfl rfl rfl rfl rfl) ?_
        refine AOps.cons (St1.assign rfl rfl rfl rfl rfl) ?_
        refine AOps.nil ?_
        refine ks_n ?_
        refine ACode.ret ?_
        refine kf_ret rfl ?_ nobox
        first | rfl | exact leafB (by simp)
      · try simp only [List.length_map, decide_eq_true_eq, decide_eq_false_iff_not, Bool.not_eq_true', Bool.not_eq_false', Bool.not_eq_true, Bool.not_eq_false] at g29
        rw [e, beq_self_eq_true] at g29; cases g29
    · try simp only [List.length_map, decide_eq_true_eq, decide_eq_false_iff_not, Bool.not_eq_true', Bool.not_eq_false', Bool.not_eq_true, Bool.not_eq_false] at g22
      rw [beq_self_eq_true] at g22; cases g22

set_option maxRecDepth 100000 in
set_option maxHeartbeats 1600000 in
theorem nestSame_big (a : Option Addr) (n c : Nat) (hn : 1048576 < n) : Fn Try.prog 3 [] [vX a n c] (.o (bo1 true)) [] := by
  refine Fn.code0 Try.func3 rfl rfl rfl rfl ?_
  refine ACode.seq ?_
  refine ACode.region ?_
  refine AOps.cons (St1.assign rfl rfl rfl rfl rfl) ?_
  refine AOps.nil ?_
  refine ks_n ?_
  refine ACode.seq ?_
  refine ACode.seq ?_
  refine ACode.region ?_
  refine AOps.cons (St1.move rfl rfl rfl rfl rfl) ?_
  refine AOps.cons (St1.lenN (e := 5) (m := 1) (by' := 1) rfl rfl rfl rfl rfl (by kernel_rfl) rfl) ?_
  refine AOps.cons (St1.gtr rfl rfl rfl rfl rfl rfl) ?_
  refine AOps.nil ?_
  refine ks_n ?_
  refine ACode.condT rfl (fun h8 => ?_) (fun h8 => ?_)
  · try simp only [List.length_map, decide_eq_true_eq, decide_eq_false_iff_not, Bool.not_eq_true', Bool.not_eq_false', Bool.not_eq_true, Bool.not_eq_false] at h8
    refine ACode.seq ?_
    refine ACode.region ?_
    refine AOps.cons (St1.assign rfl rfl rfl rfl rfl) ?_
    refine AOps.nil ?_
    refine ks_n ?_
    refine ACode.ret ?_
    refine ks_r ?_
    refine kf_ret rfl ?_ nobox
    rfl
  · try simp only [List.length_map, decide_eq_true_eq, decide_eq_false_iff_not, Bool.not_eq_true', Bool.not_eq_false', Bool.not_eq_true, Bool.not_eq_false] at h8
    omega

theorem lawNestSame (a : Option Addr) (n c : Nat) (bs : List Int) (w : World) (hx : n ≤ 1048576 → Sl Sh.byte (fun b => b < w.heap.size) w (.slice a n c) bs) (hbs : ∀ x ∈ bs, 0 ≤ x ∧ x ≤ 255) : Truth Try.prog 3 #[.slice a n c] w :=
  law1 ⟨hx, hbs⟩ (fun h => nestSame_big a n c h) (fun hl hb => by
    obtain ⟨ns, ms, h1, h2, h3⟩ := drawNS_fn hb
    exact nestSame_core (by omega) (h1.sm (by omega)) (h2.sm (by omega)) h3)

end Go.Proofs.Ytgcpdpbapgkdjaa

/- How an argument that is a slice of bytes is read; no condition. -/
namespace Go.Proofs.Ytgcpdpbapgkdjaa
set_option linter.unusedVariables false
set_option linter.unusedSimpArgs false
open Go.RowKit

theorem IsRow.bytes {w : World} {a : Option Addr} {n cap : Nat} {zs : List Int} (h : IsRow .u8 w a n cap zs) (hn : n ≤ 17592186044416) : Sl Sh.byte (fun b => b < w.heap.size) w (.slice a n cap) (zs.take n) := by
  rcases h with ⟨rfl, rfl, rfl, rfl⟩ | ⟨x, rfl, h1, _, h2, h3, _⟩
  · exact Sl.nil _ _ _
  · have hl : (zs.take n).length = n := by rw [List.length_take]; omega
    refine ⟨_, cap, by rw [hl], by rw [hl]; exact h1, by rw [hl]; exact hn, (fun e => by cases e), fun i y hy => ?_⟩
    have hi : i < n := by rw [← hl]; exact (List.getElem?_eq_some_iff.1 hy).1
    have hc := h3 i (by omega)
    obtain ⟨b, off, spot⟩ := x
    have hs : spot = none := by
      have h0 := h3 0 (by omega)
      simpa [Addr.add] using World.cell?_spot h0
    subst hs
    rw [Addr.add_lit] at hc
    rw [List.getElem?_take, if_pos hi] at hy
    rw [List.getD, hy] at hc
    refine ⟨b, off, [.int .u8 y], rfl, World.block_lt_of_cell? _ _ hc, rfl, fun j c hj => ?_⟩
    cases j with
    | succ j => simp at hj
    | zero =>
      simp only [List.getElem?_cons_zero, Option.some.injEq] at hj
      subst hj
      simpa [Sh.byte] using hc
theorem IsRow.bytesBd {w : World} {a : Option Addr} {n cap : Nat} {zs : List Int} (h : IsRow .u8 w a n cap zs) : ∀ x ∈ zs.take n, 0 ≤ x ∧ x ≤ 255 := by
  intro x hx
  have := h.wf x hx
  simp [Lit.wf, IntKind.min, IntKind.max, IntKind.bits, IntKind.signed] at this
  omega
end Go.Proofs.Ytgcpdpbapgkdjaa
