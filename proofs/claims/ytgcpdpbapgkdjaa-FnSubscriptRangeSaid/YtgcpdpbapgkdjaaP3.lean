/- Part 3 of 6 of the proof: laws on memory and data, then what the functions compute, in the order in which they build on each other; conditions: those that each theorem names. -/
import Derived.Test.YtgcpdpbapgkdjaaP2

/- The reader: pick; condition: its bytes. -/
namespace Go.Proofs.Ytgcpdpbapgkdjaa
set_option linter.unusedVariables false
set_option linter.unusedSimpArgs false
open Go.RowKit

set_option maxRecDepth 100000 in
set_option maxHeartbeats 1600000 in
theorem pick_fn {bs : List Int} (hb : Bytes bs) {p : Nat} (hp : p ≤ 1099511627776) (m : Int) : Fn Try.prog 45 (hbR bs p) [vR, nat1 m] (.o (nat1 (pickV bs p m))) (hbR bs (p + 1)) := by
  refine Fn.of_code Try.func45 rfl rfl (hbR_HB _ _) rfl rfl (hbR_HB _ _) rfl (hbR_num _ _ _) ?_
  refine ACode.seq ?_
  refine ACode.region ?_
  refine .cons (.asg rfl rfl) ?_
  refine .nil ?_
  refine ks_n ?_
  refine ACode.seq ?_
  refine ACode.region ?_
  refine .cons (.mv rfl rfl) ?_
  refine .cons (.mv rfl rfl) ?_
  refine .cons (.nB rfl rfl rfl) ?_
  refine .cons (.fB 1 0 false rfl rfl rfl) ?_
  refine .cons (.b1 1 rfl rfl rfl rfl rfl rfl) ?_
  refine .cons (.pl rfl rfl rfl) ?_
  refine .cons (.nB rfl rfl rfl) ?_
  refine .cons (.fB 1 0 false rfl rfl rfl) ?_
  refine .cons (.sT 1 false rfl rfl rfl rfl rfl rfl rfl) ?_
  refine .nil ?_
  refine ks_n ?_
  refine ACode.seq ?_
  refine ACode.seq ?_
  refine ACode.region ?_
  refine .cons (.mv rfl rfl) ?_
  refine .cons (.ls rfl rfl rfl) ?_
  refine .cons (.mv rfl rfl) ?_
  refine .cD 17 rfl (fun g17 => ?_) (fun g17 => ?_)
  · skip
    refine .cons (.gF rfl rfl rfl) ?_
    refine .cons (.gF rfl rfl rfl) ?_
    refine .cons (.gF rfl rfl rfl) ?_
    refine .cons (.gF rfl rfl rfl) ?_
    refine .cons (.gF rfl rfl rfl) ?_
    refine .cons (.gF rfl rfl rfl) ?_
    refine .cons (.pT rfl rfl rfl) ?_
    refine .nil ?_
    refine ks_n ?_
    refine ACode.condT rfl (fun _ => ?_) (fun h => by first | (cases h; done) | (simp [*] at h; done) | (exfalso; simp_all; done))
    refine ACode.seq ?_
    refine ACode.region ?_
    refine .cons (.asg rfl rfl) ?_
    refine .nil ?_
    refine ks_n ?_
    refine ACode.ret ?_
    refine ks_r ?_
    refine kf_ret rfl ?_ (hbR_box rfl)
    first | exact leafI (by rw [pickV, if_pos (by omega)]) | exact leafI (by rw [pickV, if_neg (by omega), if_pos (by omega)])
  · skip
    refine .cons (.gT rfl rfl rfl (.mv rfl rfl)) ?_
    refine .cons (.gT rfl rfl rfl (.nB rfl rfl rfl)) ?_
    refine .cons (.gT rfl rfl rfl (.fB 0 0 false rfl rfl rfl)) ?_
    refine .cons (.gT rfl rfl rfl (.b1 1 rfl rfl rfl rfl rfl rfl)) ?_
    refine .cons (.gT rfl rfl rfl (.ln 5 1 1 rfl rfl rfl)) ?_
    refine .cons (.gT rfl rfl rfl (.eq rfl rfl rfl)) ?_
    refine .cons (.pF rfl rfl rfl) ?_
    refine .nil ?_
    refine ks_n ?_
    refine ACode.condT rfl (fun h24 => ?_) (fun h24 => ?_)
    · try simp only [List.length_map, decide_eq_true_eq, decide_eq_false_iff_not, Bool.not_eq_true', Bool.not_eq_false', Bool.not_eq_true, Bool.not_eq_false] at h24
      refine ACode.seq ?_
      refine ACode.region ?_
      refine .cons (.asg rfl rfl) ?_
      refine .nil ?_
      refine ks_n ?_
      refine ACode.ret ?_
      refine ks_r ?_
      refine kf_ret rfl ?_ (hbR_box rfl)
      first | exact leafI (by rw [pickV, if_pos (by omega)]) | exact leafI (by rw [pickV, if_neg (by omega), if_pos (by omega)])
    · try simp only [List.length_map, decide_eq_true_eq, decide_eq_false_iff_not, Bool.not_eq_true', Bool.not_eq_false', Bool.not_eq_true, Bool.not_eq_false] at h24
      have hbl := hb.1; have hC := hb.at p; have hA := hb.at (p % bs.length); have hB := hb.at ((p * 7 + 3) % bs.length); obtain ⟨q, hq⟩ : ∃ q, q = p / bs.length := ⟨_, rfl⟩; have hD : q ≤ p := by rw [hq]; exact Nat.div_le_self _ _
      have hQ : (((p : Nat) : Int) + 1 - 1).tdiv ((bs.length : Nat) : Int) = (q : Int) := by rw [hq]; exact tdiv_nat (by omega) rfl
      have hbL : bs.length ≤ 2000 := hb.1; have hM := Nat.mod_lt p (show 0 < bs.length by omega); have hN := Nat.mod_lt (p * 7 + 3) (show 0 < bs.length by omega)
      refine ACode.skip ?_
      refine ks_n ?_
      refine ACode.seq ?_
      refine ACode.region ?_
      refine .cons (.mv rfl rfl) ?_
      refine .cons (.nB rfl rfl rfl) ?_
      refine .cons (.fB 1 0 false rfl rfl rfl) ?_
      refine .cons (.b1 1 rfl rfl rfl rfl rfl rfl) ?_
      refine .cons (.sb rfl rfl rfl) ?_
      refine .cons (.asg rfl rfl) ?_
      refine .nil ?_
      refine ks_n ?_
      refine ACode.seq ?_
      refine ACode.seq ?_
      refine ACode.region ?_
      refine .cons (.mv rfl rfl) ?_
      refine .cons (.mv rfl rfl) ?_
      refine .cons (.nB rfl rfl rfl) ?_
      refine .cons (.fB 0 0 false rfl rfl rfl) ?_
      refine .cons (.b1 1 rfl rfl rfl rfl rfl rfl) ?_
      refine .cons (.ln 5 1 1 rfl rfl rfl) ?_
      refine .cons (.ls rfl rfl rfl) ?_
      refine .nil ?_
      refine ks_n ?_
      refine .cD rfl (fun h36 => ?_) (fun h36 => ?_)
      · skip
        refine ACode.seq ?_
        refine ACode.region ?_
        refine .cons (.mv rfl rfl) ?_
        refine .cons (.nB rfl rfl rfl) ?_
        refine .cons (.fB 0 0 false rfl rfl rfl) ?_
        refine .cons (.b1 1 rfl rfl rfl rfl rfl rfl) ?_
        refine .cons (.mv rfl rfl) ?_
        refine .cons (.xL 5 1 1 (i := p) rfl rfl rfl rfl (by omega) (map_at (getD_at (by omega)))) ?_
        refine .cons (.l1 1 rfl rfl) ?_
        refine .cons (St1.convU (ds := .int .u8) rfl rfl rfl rfl (by kernel_rfl) (by kernel_rfl) rfl (by omega)) ?_
        refine .cons (.mv rfl rfl) ?_
        refine .cons (St1.rem rfl rfl rfl rfl rfl rfl (by omega)) ?_
        refine .cons (.asg rfl rfl) ?_
        refine .nil ?_
        refine ks_n ?_
        refine ACode.ret ?_
        refine ks_r ?_
        refine kf_ret rfl ?_ (hbR_box rfl)
        exact leafI (by rw [pickV, if_neg (by omega), if_neg (by omega), if_pos (by omega)])
      · skip
        refine ACode.skip ?_
        refine ks_n ?_
        refine ACode.seq ?_
        refine ACode.drawK (by kernel_rfl) (by kernel_rfl) ?_
        refine .cons (.mv rfl rfl) ?_
        refine .cons (.nB rfl rfl rfl) ?_
        refine .cons (.fB 0 0 false rfl rfl rfl) ?_
        refine .cons (.b1 1 rfl rfl rfl rfl rfl rfl) ?_
        refine .cons (.mv rfl rfl) ?_
        refine .cons (.mv rfl rfl) ?_
        refine .cons (.nB rfl rfl rfl) ?_
        refine .cons (.fB 0 0 false rfl rfl rfl) ?_
        refine .cons (.b1 1 rfl rfl rfl rfl rfl rfl) ?_
        refine .cons (.ln 5 1 1 rfl rfl rfl) ?_
        refine .cons (St1.rem rfl rfl rfl rfl rfl rfl (by omega)) ?_
        refine .cons (.xL 5 1 1 (i := p % bs.length) rfl rfl rfl rfl (tmod_nat (by omega) rfl) (map_at (getD_at hM))) ?_
        refine .cons (.l1 1 rfl rfl) ?_
        refine .cons (St1.convU (ds := .int .u8) rfl rfl rfl rfl (by kernel_rfl) (by kernel_rfl) rfl (by omega)) ?_
        refine .cons (.ml rfl rfl rfl) ?_
        refine .cons (.mv rfl rfl) ?_
        refine .cons (.nB rfl rfl rfl) ?_
        refine .cons (.fB 0 0 false rfl rfl rfl) ?_
        refine .cons (.b1 1 rfl rfl rfl rfl rfl rfl) ?_
        refine .cons (.mv rfl rfl) ?_
        refine .cons (.ml rfl rfl rfl) ?_
        refine .cons (.pl rfl rfl rfl) ?_
        refine .cons (.mv rfl rfl) ?_
        refine .cons (.nB rfl rfl rfl) ?_
        refine .cons (.fB 0 0 false rfl rfl rfl) ?_
        refine .cons (.b1 1 rfl rfl rfl rfl rfl rfl) ?_
        refine .cons (.ln 5 1 1 rfl rfl rfl) ?_
        refine .cons (St1.rem rfl rfl rfl rfl rfl rfl (by omega)) ?_
        refine .cons (.xL 5 1 1 (i := (p * 7 + 3) % bs.length) rfl rfl rfl rfl (tmod_nat (by omega) rfl) (map_at (getD_at hN))) ?_
        refine .cons (.l1 1 rfl rfl) ?_
        refine .cons (St1.convU (ds := .int .u8) rfl rfl rfl rfl (by kernel_rfl) (by kernel_rfl) rfl (by omega)) ?_
        refine .cons (.ml rfl rfl rfl) ?_
        refine .cons (.pl rfl rfl rfl) ?_
        refine .cons (.mv rfl rfl) ?_
        refine .cons (.ml rfl rfl rfl) ?_
        refine .cons (.pl rfl rfl rfl) ?_
        refine .cons (.mv rfl rfl) ?_
        refine .cons (.mv rfl rfl) ?_
        refine .cons (.nB rfl rfl rfl) ?_
        refine .cons (.fB 0 0 false rfl rfl rfl) ?_
        refine .cons (.b1 1 rfl rfl rfl rfl rfl rfl) ?_
        refine .cons (.ln 5 1 1 rfl rfl rfl) ?_
        refine .cons (St1.quo rfl rfl rfl rfl rfl rfl (by rw [hQ]; omega)) ?_
        refine .cons (.ml rfl rfl rfl (by rw [hQ]; omega)) ?_
        refine .cons (.pl rfl rfl rfl (by rw [hQ]; omega)) ?_
        refine .cons (.asg rfl rfl) ?_
        refine .nil ⟨by kernel_rfl, ?_⟩
        refine ks_n ?_
        refine ACode.seq ?_
        refine ACode.region ?_
        refine .cons (.mv rfl rfl) ?_
        refine .cons (.mv rfl rfl) ?_
        refine .cons (St1.quo rfl rfl rfl rfl rfl rfl (by rw [hQ]; exact ⟨by omega, tdiv64 (by omega) (by omega)⟩)) ?_
        refine .cons (St1.xor rfl rfl rfl rfl rfl rfl) ?_
        refine .cons (.asg rfl rfl) ?_
        refine .nil ?_
        refine ks_n ?_
        refine ACode.seq ?_
        refine ACode.region ?_
        refine .cons (.mv rfl rfl) ?_
        refine .cons (.mv rfl rfl) ?_
        refine .cons (St1.rem rfl rfl rfl rfl rfl rfl (by omega)) ?_
        refine .cons (.asg rfl rfl) ?_
        refine .nil ?_
        refine ks_n ?_
        refine ACode.ret ?_
        refine kf_ret rfl ?_ (hbR_box rfl)
        exact leafI (by rw [hQ, show ((p : Nat) : Int) + 1 - 1 = (p : Int) by omega, pickV, if_neg (by omega), if_neg (by omega), if_neg (by omega), mixV, ← hq])

end Go.Proofs.Ytgcpdpbapgkdjaa

/- The reader: num; condition: its bytes. -/
namespace Go.Proofs.Ytgcpdpbapgkdjaa
set_option linter.unusedVariables false
set_option linter.unusedSimpArgs false
open Go.RowKit

set_option maxRecDepth 100000 in
set_option maxHeartbeats 1600000 in
theorem num_fn {bs : List Int} (hb : Bytes bs) {p : Nat} (hp : p ≤ 1099511627776) (xs : List Int) (hx : 0 < xs.length) : Fn Try.prog 52 (hbR bs p) [vR, vD (dIs xs)] (.o (nat1 (numV bs p xs))) (hbR bs (p + 1)) := by
  refine Fn.of_code Try.func52 rfl rfl (hbR_HB _ _) rfl rfl (hbR_HB _ _) rfl (hbR_num _ _ _) ?_
  refine ACode.seq ?_
  refine ACode.region ?_
  refine .cons (.asg rfl rfl) ?_
  refine .nil ?_
  refine ks_n ?_
  refine ACode.seq ?_
  refine ACode.region ?_
  refine .cons (.mv rfl rfl) ?_
  refine .cons (.mv rfl rfl) ?_
  refine .cons (.mv rfl rfl) ?_
  refine .cons (.ln 3 1 8 rfl rfl rfl) ?_
  refine .cons (.cR [.tmp 6, .tmp 8] 0 rfl rfl rfl rfl (pick_fn hb hp (xs.length : Nat)) rfl ⟨rfl, trivial⟩) ?_
  refine .cons (.xL 3 1 8 (i := (pickV bs p (xs.length : Nat)).toNat) rfl rfl rfl rfl (numV_at hb hp hx).1 (map_at (numV_at hb hp hx).2)) ?_
  refine .cons (.l1 1 rfl rfl) ?_
  refine .cons (.asg rfl rfl) ?_
  refine .nil ?_
  refine ks_n ?_
  refine ACode.ret ?_
  refine kf_ret rfl ?_ (hbR_box rfl)
  rfl

end Go.Proofs.Ytgcpdpbapgkdjaa

/- Drawn loops; condition: the reader's bytes. -/
namespace Go.Proofs.Ytgcpdpbapgkdjaa
set_option linter.unusedVariables false
set_option linter.unusedSimpArgs false
open Go.RowKit

set_option maxRecDepth 100000 in
set_option maxHeartbeats 1600000 in
theorem l2Loop_fn {bs : List Int} (hb : Bytes bs) {p : Nat} (hp : p ≤ 1000000000) (d : Nat) (hd : d ≤ 4) : Fn Try.prog 89 (hbR bs p) [vR, nat1 (d : Nat)] (.o (ad (rL (loopD bs p d).1))) (hbR bs (loopD bs p d).2) := by
  refine Fn.of_code Try.func89 rfl rfl (hbR_HB _ _) rfl rfl (hbR_HB _ _) rfl (hbR_num _ _ _) ?_
  refine ACode.seq ?_
  refine ACode.region ?_
  refine .cons (.al 104 [.slice none 0 0, .slice none 0 0] rfl rfl rfl) ?_
  refine .nil ?_
  refine ks_n ?_
  refine ACode.seq ?_
  refine ACode.region ?_
  refine .cons (.mv rfl rfl) ?_
  refine .cons (.li 3 0 4 [.const (.int .i64 (0)), .const (.int .i64 (0)), .const (.int .i64 (1)), .const (.int .i64 (0)), .const (.int .i64 (-1))] rfl rfl rfl rfl rfl rfl) ?_
  refine .cons (.cR [.tmp 9, .tmp 10] 0 rfl rfl rfl rfl (num_fn hb (by omega) [0, 0, 1, 0, -1] (by simp)) rfl ⟨rfl, trivial⟩) ?_
  refine .cons (.cP [.tmp 11] rfl rfl rfl rfl (l1Const_fn _) rfl) ?_
  refine .cons (.al 105 [.slice none 0 0, .int .i64 0] rfl rfl rfl) ?_
  refine .cons (.sT 2 true rfl rfl rfl rfl rfl rfl rfl) ?_
  refine .nil ?_
  refine ks_n ?_
  refine ACode.seq ?_
  refine ACode.region ?_
  refine .cons (.mv rfl rfl) ?_
  refine .cons (.li 3 0 4 [.const (.int .i64 (3)), .const (.int .i64 (4)), .const (.int .i64 (2)), .const (.int .i64 (3)), .const (.int .i64 (1))] rfl rfl rfl rfl rfl rfl) ?_
  refine .cons (.cR [.tmp 13, .tmp 14] 0 rfl rfl rfl rfl (num_fn hb (by omega) [3, 4, 2, 3, 1] (by simp)) rfl ⟨rfl, trivial⟩) ?_
  refine .cons (.cP [.tmp 15] rfl rfl rfl rfl (l1Const_fn _) rfl) ?_
  refine .cons (.al 106 [.slice none 0 0, .int .i64 0] rfl rfl rfl) ?_
  refine .cons (.sT 2 true rfl rfl rfl rfl rfl rfl rfl) ?_
  refine .nil ?_
  refine ks_n ?_
  refine ACode.seq ?_
  refine ACode.seq ?_
  refine ACode.region ?_
  refine .cons (.mv rfl rfl) ?_
  refine .cons (.gt rfl rfl rfl) ?_
  refine .cons (.mv rfl rfl) ?_
  refine .cD 19 rfl (fun g19 => ?_) (fun g19 => ?_)
  · skip
    refine .cons (.gT rfl rfl rfl (.mv rfl rfl)) ?_
    refine .cons (.gT rfl rfl rfl (.cR [.tmp 20, .const (.int .i64 (4))] 0 rfl rfl rfl rfl (pick_fn hb (by omega) 4) rfl ⟨rfl, trivial⟩)) ?_
    refine .cons (.gT rfl rfl rfl (.eq rfl rfl rfl)) ?_
    refine .cons (.pT rfl rfl rfl) ?_
    refine .nil ?_
    refine ks_n ?_
    refine ACode.condT rfl (fun h23 => ?_) (fun h23 => ?_)
    · try simp only [List.length_map, decide_eq_true_eq, decide_eq_false_iff_not, Bool.not_eq_true', Bool.not_eq_false', Bool.not_eq_true, Bool.not_eq_false] at h23
      have hv : 0 ≤ pickV bs (p + 1 + 1 + 1) (d : Nat) ∧ pickV bs (p + 1 + 1 + 1) (d : Nat) < 4 := by have h := pickV_bd hb (show p + 1 + 1 + 1 ≤ 1099511627776 by omega) (d : Nat); have h2 := h.2 (by omega); omega
      refine ACode.seq ?_
      refine ACode.region ?_
      refine .cons (.mv rfl rfl) ?_
      refine .cons (.mv rfl rfl) ?_
      refine .cons (.cR [.tmp 24, .tmp 25] 0 rfl rfl rfl rfl (pick_fn hb (by omega) _) rfl ⟨rfl, trivial⟩) ?_
      refine .cons (.asg rfl rfl) ?_
      refine .nil ?_
      refine ks_n ?_
      refine ACode.seq ?_
      refine ACode.region ?_
      refine .cons (.mv rfl rfl) ?_
      refine .cons (.cR [.tmp 27, .const (.int .i64 (2))] 0 rfl rfl rfl rfl (pick_fn hb (by omega) 2) rfl ⟨rfl, trivial⟩) ?_
      refine .cons (.eq rfl rfl rfl) ?_
      refine .nil ?_
      refine ks_n ?_
      refine .cD rfl (fun h29 => ?_) (fun h29 => ?_)
      · skip
        refine ACode.region ?_
        refine .cons (.mv rfl rfl) ?_
        refine .cons (.cP [.tmp 30] rfl rfl rfl rfl (l1Var_fn _ hv) rfl) ?_
        refine .cons (.sT 2 true rfl rfl rfl rfl rfl rfl rfl) ?_
        refine .nil ?_
        refine ks_n ?_
        refine ACode.seq ?_
        refine ACode.region ?_
        refine .cons (.bN 2 rfl rfl rfl rfl rfl rfl) ?_
        refine .cons (St1.litB (k' := 137) (e := 51) (sz := 1) (m := 0) (xs := [.tmp 36]) rfl rfl rfl rfl rfl (by kernel_rfl) rfl rfl rfl rfl rfl) ?_
        refine .cons (.bN 2 rfl rfl rfl rfl rfl rfl) ?_
        refine .cons (St1.litB (k' := 139) (e := 51) (sz := 1) (m := 0) (xs := [.tmp 38]) rfl rfl rfl rfl rfl (by kernel_rfl) rfl rfl rfl rfl rfl) ?_
        refine .cons (.bu [(0, .tmp 37), (1, .tmp 39)] [(0, 1), (1, 1)] [.slice none 0 0, .slice none 0 0] rfl rfl rfl rfl rfl) ?_
        refine .cons (.al 108 [.slice none 0 0, .slice none 0 0] rfl rfl rfl) ?_
        refine .cons (.sT 2 true rfl rfl rfl rfl rfl rfl rfl) ?_
        refine .nil ?_
        refine ks_n ?_
        refine ACode.seq ?_
        refine ACode.seq ?_
        refine ACode.region ?_
        refine .cons (.mv rfl rfl) ?_
        refine .cons (.cR [.tmp 41, .const (.int .i64 (12))] 0 rfl rfl rfl rfl (pick_fn hb (by omega) 12) rfl ⟨rfl, trivial⟩) ?_
        refine .nil ?_
        refine ks_n ?_
        refine ACode.block ?_
        refine ACode.seq ?_
        refine ACode.region ?_
        refine .cons (.eq rfl rfl rfl) ?_
        refine .cons (.asg rfl rfl) ?_
        refine .nil ?_
        refine ks_n ?_
        refine .cD rfl (fun h43 => ?_) (fun h43 => ?_)
        · skip
          refine ACode.drawK (by kernel_rfl) (by kernel_rfl) ?_
          refine .cons (.fB 1 0 false rfl rfl rfl) ?_
          refine .cons (.b1 1 rfl rfl rfl rfl rfl rfl) ?_
          refine .cons (.mv rfl rfl) ?_
          refine .cons (.li 3 0 2 [.const (.int .i64 (3)), .const (.int .i64 (2)), .const (.int .i64 (4))] rfl rfl rfl rfl rfl rfl) ?_
          refine .cons (.cR [.tmp 47, .tmp 48] 0 rfl rfl rfl rfl (num_fn hb (by omega) [3, 2, 4] (by simp)) rfl ⟨rfl, trivial⟩) ?_
          refine .cons (.cP [.tmp 49] rfl rfl rfl rfl (l1Const_fn _) rfl) ?_
          refine .cons (.li 51 1 0 [.tmp 50] rfl rfl rfl rfl rfl rfl) ?_
          refine .cons (St1.appB (k' := 152) (e := 51) (sz := 1) (by' := 32) rfl rfl rfl rfl rfl (by kernel_rfl) rfl rfl rfl rfl (by first | rfl | simp) (by first | (simp; done) | (simp; omega) | omega) rfl rfl rfl) ?_
          refine .cons (.fB 1 0 false rfl rfl rfl) ?_
          refine .cons (.sT 1 false rfl rfl rfl rfl rfl rfl rfl) ?_
          refine .nil ⟨by kernel_rfl, ?_⟩
          refine kb_n ?_
          refine ks_n ?_
          refine ACode.seq ?_
          refine ACode.region ?_
          refine .cons (.bN 2 rfl rfl rfl rfl rfl rfl) ?_
          refine .cons (.sT 2 true rfl rfl rfl rfl rfl rfl rfl) ?_
          refine .nil ?_
          refine ks_n ?_
          refine ACode.ret ?_
          obtain ⟨r, hr⟩ : ∃ r, r = loopD bs p d := ⟨_, rfl⟩
          rw [← hr]
          unfold loopD loopE at hr
          simp only [*, ↓reduceIte] at hr
          refine kf_wret [(.t 4, .v (.o (.c (.box 100 2 0 0)))), (.b 0, .b 105 2 (dR ([rRd bs r.2]))), (.u 0, .u), (.b 100, .b 67 2 [[.d (dAs r.1.1), .d (dAs r.1.2)]]), (.u 100, .u)] (Wk.keep [(0, 0), (100, 104)] rfl rfl ⟨ks rfl (.c .bx), kb 0 rfl (.dt rfl (by first | (rw [hr]; done) | (rw [hr]; rfl))), kb 104 rfl (.cons (.cons (.fz rfl (by first | (rw [hr]; done) | (rw [hr]; rfl)) (by first | (rw [hr]; done) | (rw [hr]; rfl)) (by simp)) (.cons (.fz rfl (by first | (rw [hr]; done) | (rw [hr]; rfl)) (by first | (rw [hr]; done) | (rw [hr]; rfl)) (by simp)) Ctos.nil)) .nil), trivial⟩) rfl ?_ (hbR_box rfl)
          rfl
        · skip
          refine ACode.seq ?_
          refine ACode.region ?_
          refine .cons (.eq rfl rfl rfl) ?_
          refine .cons (.asg rfl rfl) ?_
          refine .nil ?_
          refine ks_n ?_
          refine .cD rfl (fun h54 => ?_) (fun h54 => ?_)
          · skip
            refine ACode.drawK (by kernel_rfl) (by kernel_rfl) ?_
            refine .cons (.fB 0 0 false rfl rfl rfl) ?_
            refine .cons (.b1 1 rfl rfl rfl rfl rfl rfl) ?_
            refine .cons (.mv rfl rfl) ?_
            refine .cons (.li 3 0 1 [.const (.int .i64 (0)), .const (.int .i64 (1))] rfl rfl rfl rfl rfl rfl) ?_
            refine .cons (.cR [.tmp 58, .tmp 59] 0 rfl rfl rfl rfl (num_fn hb (by omega) [0, 1] (by simp)) rfl ⟨rfl, trivial⟩) ?_
            refine .cons (.cP [.tmp 60] rfl rfl rfl rfl (l1Const_fn _) rfl) ?_
            refine .cons (.li 51 1 0 [.tmp 61] rfl rfl rfl rfl rfl rfl) ?_
            refine .cons (St1.appB (k' := 163) (e := 51) (sz := 1) (by' := 32) rfl rfl rfl rfl rfl (by kernel_rfl) rfl rfl rfl rfl (by first | rfl | simp) (by first | (simp; done) | (simp; omega) | omega) rfl rfl rfl) ?_
            refine .cons (.fB 0 0 false rfl rfl rfl) ?_
            refine .cons (.sT 1 false rfl rfl rfl rfl rfl rfl rfl) ?_
            refine .nil ⟨by kernel_rfl, ?_⟩
            refine kb_n ?_
            refine ks_n ?_
            refine ACode.seq ?_
            refine ACode.region ?_
            refine .cons (.bN 2 rfl rfl rfl rfl rfl rfl) ?_
            refine .cons (.sT 2 true rfl rfl rfl rfl rfl rfl rfl) ?_
            refine .nil ?_
            refine ks_n ?_
            refine ACode.ret ?_
            obtain ⟨r, hr⟩ : ∃ r, r = loopD bs p d := ⟨_, rfl⟩
            rw [← hr]
            unfold loopD loopE at hr
            simp only [*, ↓reduceIte] at hr
            refine kf_wret [(.t 4, .v (.o (.c (.box 100 2 0 0)))), (.b 0, .b 105 2 (dR ([rRd bs r.2]))), (.u 0, .u), (.b 100, .b 67 2 [[.d (dAs r.1.1), .d (dAs r.1.2)]]), (.u 100, .u)] (Wk.keep [(0, 0), (100, 104)] rfl rfl ⟨ks rfl (.c .bx), kb 0 rfl (.dt rfl (by first | (rw [hr]; done) | (rw [hr]; rfl))), kb 104 rfl (.cons (.cons (.fz rfl (by first | (rw [hr]; done) | (rw [hr]; rfl)) (by first | (rw [hr]; done) | (rw [hr]; rfl)) (by simp)) (.cons (.fz rfl (by first | (rw [hr]; done) | (rw [hr]; rfl)) (by first | (rw [hr]; done) | (rw [hr]; rfl)) (by simp)) Ctos.nil)) .nil), trivial⟩) rfl ?_ (hbR_box rfl)
            rfl
          · skip
            refine ACode.skip ?_
            refine kb_n ?_
            refine ks_n ?_
            refine ACode.seq ?_
            refine ACode.region ?_
            refine .cons (.bN 2 rfl rfl rfl rfl rfl rfl) ?_
            refine .cons (.sT 2 true rfl rfl rfl rfl rfl rfl rfl) ?_
            refine .nil ?_
            refine ks_n ?_
            refine ACode.ret ?_
            obtain ⟨r, hr⟩ : ∃ r, r = loopD bs p d := ⟨_, rfl⟩
            rw [← hr]
            unfold loopD loopE at hr
            simp only [*, ↓reduceIte] at hr
            refine kf_wret [(.t 4, .v (.o (.c (.box 100 2 0 0)))), (.b 0, .b 105 2 (dR ([rRd bs r.2]))), (.u 0, .u), (.b 100, .b 67 2 [[.d (dAs r.1.1), .d (dAs r.1.2)]]), (.u 100, .u)] (Wk.keep [(0, 0), (100, 104)] rfl rfl ⟨ks rfl (.c .bx), kb 0 rfl (.dt rfl (by first | (rw [hr]; done) | (rw [hr]; rfl))), kb 104 rfl (.cons (.cons (.fz rfl (by first | (rw [hr]; done) | (rw [hr]; rfl)) (by first | (rw [hr]; done) | (rw [hr]; rfl)) (by simp)) (.cons (.fz rfl (by first | (rw [hr]; done) | (rw [hr]; rfl)) (by first | (rw [hr]; done) | (rw [hr]; rfl)) (by simp)) Ctos.nil)) .nil), trivial⟩) rfl ?_ (hbR_box rfl)
            rfl
      · skip
        refine ACode.region ?_
        refine .cons (.mv rfl rfl) ?_
        refine .cons (.cP [.tmp 32] rfl rfl rfl rfl (l1Var_fn _ hv) rfl) ?_
        refine .cons (.cP [.const (.int .i64 (1))] rfl rfl rfl rfl (l1Const_fn 1) rfl) ?_
        refine .cons (.cP [.tmp 33, .const (.int .i64 (1)), .tmp 34, .const (.int .i64 (1))] rfl rfl rfl rfl (l1Combine_fn _ _ 1 1 (by omega) (by omega) (varA_sm _).1 rfl (varA_sm _).2.1 (by simp [cA]) (varA_sm _).2.2 (cA_sm (by omega)).2.2) rfl) ?_
        refine .cons (.sT 2 true rfl rfl rfl rfl rfl rfl rfl) ?_
        refine .nil ?_
        refine ks_n ?_
        refine ACode.seq ?_
        refine ACode.region ?_
        refine .cons (.bN 2 rfl rfl rfl rfl rfl rfl) ?_
        refine .cons (St1.litB (k' := 137) (e := 51) (sz := 1) (m := 0) (xs := [.tmp 36]) rfl rfl rfl rfl rfl (by kernel_rfl) rfl rfl rfl rfl rfl) ?_
        refine .cons (.bN 2 rfl rfl rfl rfl rfl rfl) ?_
        refine .cons (St1.litB (k' := 139) (e := 51) (sz := 1) (m := 0) (xs := [.tmp 38]) rfl rfl rfl rfl rfl (by kernel_rfl) rfl rfl rfl rfl rfl) ?_
        refine .cons (.bu [(0, .tmp 37), (1, .tmp 39)] [(0, 1), (1, 1)] [.slice none 0 0, .slice none 0 0] rfl rfl rfl rfl rfl) ?_
        refine .cons (.al 108 [.slice none 0 0, .slice none 0 0] rfl rfl rfl) ?_
        refine .cons (.sT 2 true rfl rfl rfl rfl rfl rfl rfl) ?_
        refine .nil ?_
        refine ks_n ?_
        refine ACode.seq ?_
        refine ACode.seq ?_
        refine ACode.region ?_
        refine .cons (.mv rfl rfl) ?_
        refine .cons (.cR [.tmp 41, .const (.int .i64 (12))] 0 rfl rfl rfl rfl (pick_fn hb (by omega) 12) rfl ⟨rfl, trivial⟩) ?_
        refine .nil ?_
        refine ks_n ?_
        refine ACode.block ?_
        refine ACode.seq ?_
        refine ACode.region ?_
        refine .cons (.eq rfl rfl rfl) ?_
        refine .cons (.asg rfl rfl) ?_
        refine .nil ?_
        refine ks_n ?_
        refine .cD rfl (fun h43 => ?_) (fun h43 => ?_)
        · skip
          refine ACode.drawK (by kernel_rfl) (by kernel_rfl) ?_
          refine .cons (.fB 1 0 false rfl rfl rfl) ?_
          refine .cons (.b1 1 rfl rfl rfl rfl rfl rfl) ?_
          refine .cons (.mv rfl rfl) ?_
          refine .cons (.li 3 0 2 [.const (.int .i64 (3)), .const (.int .i64 (2)), .const (.int .i64 (4))] rfl rfl rfl rfl rfl rfl) ?_
          refine .cons (.cR [.tmp 47, .tmp 48] 0 rfl rfl rfl rfl (num_fn hb (by omega) [3, 2, 4] (by simp)) rfl ⟨rfl, trivial⟩) ?_
          refine .cons (.cP [.tmp 49] rfl rfl rfl rfl (l1Const_fn _) rfl) ?_
          refine .cons (.li 51 1 0 [.tmp 50] rfl rfl rfl rfl rfl rfl) ?_
          refine .cons (St1.appB (k' := 152) (e := 51) (sz := 1) (by' := 32) rfl rfl rfl rfl rfl (by kernel_rfl) rfl rfl rfl rfl (by first | rfl | simp) (by first | (simp; done) | (simp; omega) | omega) rfl rfl rfl) ?_
          refine .cons (.fB 1 0 false rfl rfl rfl) ?_
          refine .cons (.sT 1 false rfl rfl rfl rfl rfl rfl rfl) ?_
          refine .nil ⟨by kernel_rfl, ?_⟩
          refine kb_n ?_
          refine ks_n ?_
          refine ACode.seq ?_
          refine ACode.region ?_
          refine .cons (.bN 2 rfl rfl rfl rfl rfl rfl) ?_
          refine .cons (.sT 2 true rfl rfl rfl rfl rfl rfl rfl) ?_
          refine .nil ?_
          refine ks_n ?_
          refine ACode.ret ?_
          obtain ⟨r, hr⟩ : ∃ r, r = loopD bs p d := ⟨_, rfl⟩
          rw [← hr]
          unfold loopD loopE at hr
          simp only [*, ↓reduceIte] at hr
          refine kf_wret [(.t 4, .v (.o (.c (.box 100 2 0 0)))), (.b 0, .b 105 2 (dR ([rRd bs r.2]))), (.u 0, .u), (.b 100, .b 67 2 [[.d (dAs r.1.1), .d (dAs r.1.2)]]), (.u 100, .u)] (Wk.keep [(0, 0), (100, 104)] rfl rfl ⟨ks rfl (.c .bx), kb 0 rfl (.dt rfl (by first | (rw [hr]; done) | (rw [hr]; rfl))), kb 104 rfl (.cons (.cons (.fz rfl (by first | (rw [hr]; done) | (rw [hr]; rfl)) (by first | (rw [hr]; done) | (rw [hr]; rfl)) (by simp)) (.cons (.fz rfl (by first | (rw [hr]; done) | (rw [hr]; rfl)) (by first | (rw [hr]; done) | (rw [hr]; rfl)) (by simp)) Ctos.nil)) .nil), trivial⟩) rfl ?_ (hbR_box rfl)
          rfl
        · skip
          refine ACode.seq ?_
          refine ACode.region ?_
          refine .cons (.eq rfl rfl rfl) ?_
          refine .cons (.asg rfl rfl) ?_
          refine .nil ?_
          refine ks_n ?_
          refine .cD rfl (fun h54 => ?_) (fun h54 => ?_)
          · skip
            refine ACode.drawK (by kernel_rfl) (by kernel_rfl) ?_
            refine .cons (.fB 0 0 false rfl rfl rfl) ?_
            refine .cons (.b1 1 rfl rfl rfl rfl rfl rfl) ?_
            refine .cons (.mv rfl rfl) ?_
            refine .cons (.li 3 0 1 [.const (.int .i64 (0)), .const (.int .i64 (1))] rfl rfl rfl rfl rfl rfl) ?_
            refine .cons (.cR [.tmp 58, .tmp 59] 0 rfl rfl rfl rfl (num_fn hb (by omega) [0, 1] (by simp)) rfl ⟨rfl, trivial⟩) ?_
            refine .cons (.cP [.tmp 60] rfl rfl rfl rfl (l1Const_fn _) rfl) ?_
            refine .cons (.li 51 1 0 [.tmp 61] rfl rfl rfl rfl rfl rfl) ?_
            refine .cons (St1.appB (k' := 163) (e := 51) (sz := 1) (by' := 32) rfl rfl rfl rfl rfl (by kernel_rfl) rfl rfl rfl rfl (by first | rfl | simp) (by first | (simp; done) | (simp; omega) | omega) rfl rfl rfl) ?_
            refine .cons (.fB 0 0 false rfl rfl rfl) ?_
            refine .cons (.sT 1 false rfl rfl rfl rfl rfl rfl rfl) ?_
            refine .nil ⟨by kernel_rfl, ?_⟩
            refine kb_n ?_
            refine ks_n ?_
            refine ACode.seq ?_
            refine ACode.region ?_
            refine .cons (.bN 2 rfl rfl rfl rfl rfl rfl) ?_
            refine .cons (.sT 2 true rfl rfl rfl rfl rfl rfl rfl) ?_
            refine .nil ?_
            refine ks_n ?_
            refine ACode.ret ?_
            obtain ⟨r, hr⟩ : ∃ r, r = loopD bs p d := ⟨_, rfl⟩
            rw [← hr]
            unfold loopD loopE at hr
            simp only [*, ↓reduceIte] at hr
            refine kf_wret [(.t 4, .v (.o (.c (.box 100 2 0 0)))), (.b 0, .b 105 2 (dR ([rRd bs r.2]))), (.u 0, .u), (.b 100, .b 67 2 [[.d (dAs r.1.1), .d (dAs r.1.2)]]), (.u 100, .u)] (Wk.keep [(0, 0), (100, 104)] rfl rfl ⟨ks rfl (.c .bx), kb 0 rfl (.dt rfl (by first | (rw [hr]; done) | (rw [hr]; rfl))), kb 104 rfl (.cons (.cons (.fz rfl (by first | (rw [hr]; done) | (rw [hr]; rfl)) (by first | (rw [hr]; done) | (rw [hr]; rfl)) (by simp)) (.cons (.fz rfl (by first | (rw [hr]; done) | (rw [hr]; rfl)) (by first | (rw [hr]; done) | (rw [hr]; rfl)) (by simp)) Ctos.nil)) .nil), trivial⟩) rfl ?_ (hbR_box rfl)
            rfl
          · skip
            refine ACode.skip ?_
            refine kb_n ?_
            refine ks_n ?_
            refine ACode.seq ?_
            refine ACode.region ?_
            refine .cons (.bN 2 rfl rfl rfl rfl rfl rfl) ?_
            refine .cons (.sT 2 true rfl rfl rfl rfl rfl rfl rfl) ?_
            refine .nil ?_
            refine ks_n ?_
            refine ACode.ret ?_
            obtain ⟨r, hr⟩ : ∃ r, r = loopD bs p d := ⟨_, rfl⟩
            rw [← hr]
            unfold loopD loopE at hr
            simp only [*, ↓reduceIte] at hr
            refine kf_wret [(.t 4, .v (.o (.c (.box 100 2 0 0)))), (.b 0, .b 105 2 (dR ([rRd bs r.2]))), (.u 0, .u), (.b 100, .b 67 2 [[.d (dAs r.1.1), .d (dAs r.1.2)]]), (.u 100, .u)] (Wk.keep [(0, 0), (100, 104)] rfl rfl ⟨ks rfl (.c .bx), kb 0 rfl (.dt rfl (by first | (rw [hr]; done) | (rw [hr]; rfl))), kb 104 rfl (.cons (.cons (.fz rfl (by first | (rw [hr]; done) | (rw [hr]; rfl)) (by first | (rw [hr]; done) | (rw [hr]; rfl)) (by simp)) (.cons (.fz rfl (by first | (rw [hr]; done) | (rw [hr]; rfl)) (by first | (rw [hr]; done) | (rw [hr]; rfl)) (by simp)) Ctos.nil)) .nil), trivial⟩) rfl ?_ (hbR_box rfl)
            rfl
    · try simp only [List.length_map, decide_eq_true_eq, decide_eq_false_iff_not, Bool.not_eq_true', Bool.not_eq_false', Bool.not_eq_true, Bool.not_eq_false] at h23
      refine ACode.skip ?_
      refine ks_n ?_
      refine ACode.seq ?_
      refine ACode.region ?_
      refine .cons (.bN 2 rfl rfl rfl rfl rfl rfl) ?_
      refine .cons (St1.litB (k' := 137) (e := 51) (sz := 1) (m := 0) (xs := [.tmp 36]) rfl rfl rfl rfl rfl (by kernel_rfl) rfl rfl rfl rfl rfl) ?_
      refine .cons (.bN 2 rfl rfl rfl rfl rfl rfl) ?_
      refine .cons (St1.litB (k' := 139) (e := 51) (sz := 1) (m := 0) (xs := [.tmp 38]) rfl rfl rfl rfl rfl (by kernel_rfl) rfl rfl rfl rfl rfl) ?_
      refine .cons (.bu [(0, .tmp 37), (1, .tmp 39)] [(0, 1), (1, 1)] [.slice none 0 0, .slice none 0 0] rfl rfl rfl rfl rfl) ?_
      refine .cons (.al 108 [.slice none 0 0, .slice none 0 0] rfl rfl rfl) ?_
      refine .cons (.sT 2 true rfl rfl rfl rfl rfl rfl rfl) ?_
      refine .nil ?_
      refine ks_n ?_
      refine ACode.seq ?_
      refine ACode.seq ?_
      refine ACode.region ?_
      refine .cons (.mv rfl rfl) ?_
      refine .cons (.cR [.tmp 41, .const (.int .i64 (12))] 0 rfl rfl rfl rfl (pick_fn hb (by omega) 12) rfl ⟨rfl, trivial⟩) ?_
      refine .nil ?_
      refine ks_n ?_
      refine ACode.block ?_
      refine ACode.seq ?_
      refine ACode.region ?_
      refine .cons (.eq rfl rfl rfl) ?_
      refine .cons (.asg rfl rfl) ?_
      refine .nil ?_
      refine ks_n ?_
      refine .cD rfl (fun h43 => ?_) (fun h43 => ?_)
      · skip
        refine ACode.drawK (by kernel_rfl) (by kernel_rfl) ?_
        refine .cons (.fB 1 0 false rfl rfl rfl) ?_
        refine .cons (.b1 1 rfl rfl rfl rfl rfl rfl) ?_
        refine .cons (.mv rfl rfl) ?_
        refine .cons (.li 3 0 2 [.const (.int .i64 (3)), .const (.int .i64 (2)), .const (.int .i64 (4))] rfl rfl rfl rfl rfl rfl) ?_
        refine .cons (.cR [.tmp 47, .tmp 48] 0 rfl rfl rfl rfl (num_fn hb (by omega) [3, 2, 4] (by simp)) rfl ⟨rfl, trivial⟩) ?_
        refine .cons (.cP [.tmp 49] rfl rfl rfl rfl (l1Const_fn _) rfl) ?_
        refine .cons (.li 51 1 0 [.tmp 50] rfl rfl rfl rfl rfl rfl) ?_
        refine .cons (St1.appB (k' := 152) (e := 51) (sz := 1) (by' := 32) rfl rfl rfl rfl rfl (by kernel_rfl) rfl rfl rfl rfl (by first | rfl | simp) (by first | (simp; done) | (simp; omega) | omega) rfl rfl rfl) ?_
        refine .cons (.fB 1 0 false rfl rfl rfl) ?_
        refine .cons (.sT 1 false rfl rfl rfl rfl rfl rfl rfl) ?_
        refine .nil ⟨by kernel_rfl, ?_⟩
        refine kb_n ?_
        refine ks_n ?_
        refine ACode.seq ?_
        refine ACode.region ?_
        refine .cons (.bN 2 rfl rfl rfl rfl rfl rfl) ?_
        refine .cons (.sT 2 true rfl rfl rfl rfl rfl rfl rfl) ?_
        refine .nil ?_
        refine ks_n ?_
        refine ACode.ret ?_
        obtain ⟨r, hr⟩ : ∃ r, r = loopD bs p d := ⟨_, rfl⟩
        rw [← hr]
        unfold loopD loopE at hr
        simp only [*, ↓reduceIte] at hr
        refine kf_wret [(.t 4, .v (.o (.c (.box 100 2 0 0)))), (.b 0, .b 105 2 (dR ([rRd bs r.2]))), (.u 0, .u), (.b 100, .b 67 2 [[.d (dAs r.1.1), .d (dAs r.1.2)]]), (.u 100, .u)] (Wk.keep [(0, 0), (100, 104)] rfl rfl ⟨ks rfl (.c .bx), kb 0 rfl (.dt rfl (by first | (rw [hr]; done) | (rw [hr]; rfl))), kb 104 rfl (.cons (.cons (.fz rfl (by first | (rw [hr]; done) | (rw [hr]; rfl)) (by first | (rw [hr]; done) | (rw [hr]; rfl)) (by simp)) (.cons (.fz rfl (by first | (rw [hr]; done) | (rw [hr]; rfl)) (by first | (rw [hr]; done) | (rw [hr]; rfl)) (by simp)) Ctos.nil)) .nil), trivial⟩) rfl ?_ (hbR_box rfl)
        rfl
      · skip
        refine ACode.seq ?_
        refine ACode.region ?_
        refine .cons (.eq rfl rfl rfl) ?_
        refine .cons (.asg rfl rfl) ?_
        refine .nil ?_
        refine ks_n ?_
        refine .cD rfl (fun h54 => ?_) (fun h54 => ?_)
        · skip
          refine ACode.drawK (by kernel_rfl) (by kernel_rfl) ?_
          refine .cons (.fB 0 0 false rfl rfl rfl) ?_
          refine .cons (.b1 1 rfl rfl rfl rfl rfl rfl) ?_
          refine .cons (.mv rfl rfl) ?_
          refine .cons (.li 3 0 1 [.const (.int .i64 (0)), .const (.int .i64 (1))] rfl rfl rfl rfl rfl rfl) ?_
          refine .cons (.cR [.tmp 58, .tmp 59] 0 rfl rfl rfl rfl (num_fn hb (by omega) [0, 1] (by simp)) rfl ⟨rfl, trivial⟩) ?_
          refine .cons (.cP [.tmp 60] rfl rfl rfl rfl (l1Const_fn _) rfl) ?_
          refine .cons (.li 51 1 0 [.tmp 61] rfl rfl rfl rfl rfl rfl) ?_
          refine .cons (St1.appB (k' := 163) (e := 51) (sz := 1) (by' := 32) rfl rfl rfl rfl rfl (by kernel_rfl) rfl rfl rfl rfl (by first | rfl | simp) (by first | (simp; done) | (simp; omega) | omega) rfl rfl rfl) ?_
          refine .cons (.fB 0 0 false rfl rfl rfl) ?_
          refine .cons (.sT 1 false rfl rfl rfl rfl rfl rfl rfl) ?_
          refine .nil ⟨by kernel_rfl, ?_⟩
          refine kb_n ?_
          refine ks_n ?_
          refine ACode.seq ?_
          refine ACode.region ?_
          refine .cons (.bN 2 rfl rfl rfl rfl rfl rfl) ?_
          refine .cons (.sT 2 true rfl rfl rfl rfl rfl rfl rfl) ?_
          refine .nil ?_
          refine ks_n ?_
          refine ACode.ret ?_
          obtain ⟨r, hr⟩ : ∃ r, r = loopD bs p d := ⟨_, rfl⟩
          rw [← hr]
          unfold loopD loopE at hr
          simp only [*, ↓reduceIte] at hr
          refine kf_wret [(.t 4, .v (.o (.c (.box 100 2 0 0)))), (.b 0, .b 105 2 (dR ([rRd bs r.2]))), (.u 0, .u), (.b 100, .b 67 2 [[.d (dAs r.1.1), .d (dAs r.1.2)]]), (.u 100, .u)] (Wk.keep [(0, 0), (100, 104)] rfl rfl ⟨ks rfl (.c .bx), kb 0 rfl (.dt rfl (by first | (rw [hr]; done) | (rw [hr]; rfl))), kb 104 rfl (.cons (.cons (.fz rfl (by first | (rw [hr]; done) | (rw [hr]; rfl)) (by first | (rw [hr]; done) | (rw [hr]; rfl)) (by simp)) (.cons (.fz rfl (by first | (rw [hr]; done) | (rw [hr]; rfl)) (by first | (rw [hr]; done) | (rw [hr]; rfl)) (by simp)) Ctos.nil)) .nil), trivial⟩) rfl ?_ (hbR_box rfl)
          rfl
        · skip
          refine ACode.skip ?_
          refine kb_n ?_
          refine ks_n ?_
          refine ACode.seq ?_
          refine ACode.region ?_
          refine .cons (.bN 2 rfl rfl rfl rfl rfl rfl) ?_
          refine .cons (.sT 2 true rfl rfl rfl rfl rfl rfl rfl) ?_
          refine .nil ?_
          refine ks_n ?_
          refine ACode.ret ?_
          obtain ⟨r, hr⟩ : ∃ r, r = loopD bs p d := ⟨_, rfl⟩
          rw [← hr]
          unfold loopD loopE at hr
          simp only [*, ↓reduceIte] at hr
          refine kf_wret [(.t 4, .v (.o (.c (.box 100 2 0 0)))), (.b 0, .b 105 2 (dR ([rRd bs r.2]))), (.u 0, .u), (.b 100, .b 67 2 [[.d (dAs r.1.1), .d (dAs r.1.2)]]), (.u 100, .u)] (Wk.keep [(0, 0), (100, 104)] rfl rfl ⟨ks rfl (.c .bx), kb 0 rfl (.dt rfl (by first | (rw [hr]; done) | (rw [hr]; rfl))), kb 104 rfl (.cons (.cons (.fz rfl (by first | (rw [hr]; done) | (rw [hr]; rfl)) (by first | (rw [hr]; done) | (rw [hr]; rfl)) (by simp)) (.cons (.fz rfl (by first | (rw [hr]; done) | (rw [hr]; rfl)) (by first | (rw [hr]; done) | (rw [hr]; rfl)) (by simp)) Ctos.nil)) .nil), trivial⟩) rfl ?_ (hbR_box rfl)
          rfl
  · skip
    refine .cons (.gF rfl rfl rfl) ?_
    refine .cons (.gF rfl rfl rfl) ?_
    refine .cons (.gF rfl rfl rfl) ?_
    refine .cons (.pF rfl rfl rfl) ?_
    refine .nil ?_
    refine ks_n ?_
    refine ACode.condT rfl (fun h => by first | (cases h; done) | (simp [*] at h; done) | (exfalso; simp_all; done)) (fun _ => ?_)
    refine ACode.skip ?_
    refine ks_n ?_
    refine ACode.seq ?_
    refine ACode.region ?_
    refine .cons (.bN 2 rfl rfl rfl rfl rfl rfl) ?_
    refine .cons (St1.litB (k' := 137) (e := 51) (sz := 1) (m := 0) (xs := [.tmp 36]) rfl rfl rfl rfl rfl (by kernel_rfl) rfl rfl rfl rfl rfl) ?_
    refine .cons (.bN 2 rfl rfl rfl rfl rfl rfl) ?_
    refine .cons (St1.litB (k' := 139) (e := 51) (sz := 1) (m := 0) (xs := [.tmp 38]) rfl rfl rfl rfl rfl (by kernel_rfl) rfl rfl rfl rfl rfl) ?_
    refine .cons (.bu [(0, .tmp 37), (1, .tmp 39)] [(0, 1), (1, 1)] [.slice none 0 0, .slice none 0 0] rfl rfl rfl rfl rfl) ?_
    refine .cons (.al 108 [.slice none 0 0, .slice none 0 0] rfl rfl rfl) ?_
    refine .cons (.sT 2 true rfl rfl rfl rfl rfl rfl rfl) ?_
    refine .nil ?_
    refine ks_n ?_
    refine ACode.seq ?_
    refine ACode.seq ?_
    refine ACode.region ?_
    refine .cons (.mv rfl rfl) ?_
    refine .cons (.cR [.tmp 41, .const (.int .i64 (12))] 0 rfl rfl rfl rfl (pick_fn hb (by omega) 12) rfl ⟨rfl, trivial⟩) ?_
    refine .nil ?_
    refine ks_n ?_
    refine ACode.block ?_
    refine ACode.seq ?_
    refine ACode.region ?_
    refine .cons (.eq rfl rfl rfl) ?_
    refine .cons (.asg rfl rfl) ?_
    refine .nil ?_
    refine ks_n ?_
    refine .cD rfl (fun h43 => ?_) (fun h43 => ?_)
    · skip
      refine ACode.drawK (by kernel_rfl) (by kernel_rfl) ?_
      refine .cons (.fB 1 0 false rfl rfl rfl) ?_
      refine .cons (.b1 1 rfl rfl rfl rfl rfl rfl) ?_
      refine .cons (.mv rfl rfl) ?_
      refine .cons (.li 3 0 2 [.const (.int .i64 (3)), .const (.int .i64 (2)), .const (.int .i64 (4))] rfl rfl rfl rfl rfl rfl) ?_
      refine .cons (.cR [.tmp 47, .tmp 48] 0 rfl rfl rfl rfl (num_fn hb (by omega) [3, 2, 4] (by simp)) rfl ⟨rfl, trivial⟩) ?_
      refine .cons (.cP [.tmp 49] rfl rfl rfl rfl (l1Const_fn _) rfl) ?_
      refine .cons (.li 51 1 0 [.tmp 50] rfl rfl rfl rfl rfl rfl) ?_
      refine .cons (St1.appB (k' := 152) (e := 51) (sz := 1) (by' := 32) rfl rfl rfl rfl rfl (by kernel_rfl) rfl rfl rfl rfl (by first | rfl | simp) (by first | (simp; done) | (simp; omega) | omega) rfl rfl rfl) ?_
      refine .cons (.fB 1 0 false rfl rfl rfl) ?_
      refine .cons (.sT 1 false rfl rfl rfl rfl rfl rfl rfl) ?_
      refine .nil ⟨by kernel_rfl, ?_⟩
      refine kb_n ?_
      refine ks_n ?_
      refine ACode.seq ?_
      refine ACode.region ?_
      refine .cons (.bN 2 rfl rfl rfl rfl rfl rfl) ?_
      refine .cons (.sT 2 true rfl rfl rfl rfl rfl rfl rfl) ?_
      refine .nil ?_
      refine ks_n ?_
      refine ACode.ret ?_
      obtain ⟨r, hr⟩ : ∃ r, r = loopD bs p d := ⟨_, rfl⟩
      rw [← hr]
      unfold loopD loopE at hr
      simp only [*, ↓reduceIte] at hr
      refine kf_wret [(.t 4, .v (.o (.c (.box 100 2 0 0)))), (.b 0, .b 105 2 (dR ([rRd bs r.2]))), (.u 0, .u), (.b 100, .b 67 2 [[.d (dAs r.1.1), .d (dAs r.1.2)]]), (.u 100, .u)] (Wk.keep [(0, 0), (100, 104)] rfl rfl ⟨ks rfl (.c .bx), kb 0 rfl (.dt rfl (by first | (rw [hr]; done) | (rw [hr]; rfl))), kb 104 rfl (.cons (.cons (.fz rfl (by first | (rw [hr]; done) | (rw [hr]; rfl)) (by first | (rw [hr]; done) | (rw [hr]; rfl)) (by simp)) (.cons (.fz rfl (by first | (rw [hr]; done) | (rw [hr]; rfl)) (by first | (rw [hr]; done) | (rw [hr]; rfl)) (by simp)) Ctos.nil)) .nil), trivial⟩) rfl ?_ (hbR_box rfl)
      rfl
    · skip
      refine ACode.seq ?_
      refine ACode.region ?_
      refine .cons (.eq rfl rfl rfl) ?_
      refine .cons (.asg rfl rfl) ?_
      refine .nil ?_
      refine ks_n ?_
      refine .cD rfl (fun h54 => ?_) (fun h54 => ?_)
      · skip
        refine ACode.drawK (by kernel_rfl) (by kernel_rfl) ?_
        refine .cons (.fB 0 0 false rfl rfl rfl) ?_
        refine .cons (.b1 1 rfl rfl rfl rfl rfl rfl) ?_
        refine .cons (.mv rfl rfl) ?_
        refine .cons (.li 3 0 1 [.const (.int .i64 (0)), .const (.int .i64 (1))] rfl rfl rfl rfl rfl rfl) ?_
        refine .cons (.cR [.tmp 58, .tmp 59] 0 rfl rfl rfl rfl (num_fn hb (by omega) [0, 1] (by simp)) rfl ⟨rfl, trivial⟩) ?_
        refine .cons (.cP [.tmp 60] rfl rfl rfl rfl (l1Const_fn _) rfl) ?_
        refine .cons (.li 51 1 0 [.tmp 61] rfl rfl rfl rfl rfl rfl) ?_
        refine .cons (St1.appB (k' := 163) (e := 51) (sz := 1) (by' := 32) rfl rfl rfl rfl rfl (by kernel_rfl) rfl rfl rfl rfl (by first | rfl | simp) (by first | (simp; done) | (simp; omega) | omega) rfl rfl rfl) ?_
        refine .cons (.fB 0 0 false rfl rfl rfl) ?_
        refine .cons (.sT 1 false rfl rfl rfl rfl rfl rfl rfl) ?_
        refine .nil ⟨by kernel_rfl, ?_⟩
        refine kb_n ?_
        refine ks_n ?_
        refine ACode.seq ?_
        refine ACode.region ?_
        refine .cons (.bN 2 rfl rfl rfl rfl rfl rfl) ?_
        refine .cons (.sT 2 true rfl rfl rfl rfl rfl rfl rfl) ?_
        refine .nil ?_
        refine ks_n ?_
        refine ACode.ret ?_
        obtain ⟨r, hr⟩ : ∃ r, r = loopD bs p d := ⟨_, rfl⟩
        rw [← hr]
        unfold loopD loopE at hr
        simp only [*, ↓reduceIte] at hr
        refine kf_wret [(.t 4, .v (.o (.c (.box 100 2 0 0)))), (.b 0, .b 105 2 (dR ([rRd bs r.2]))), (.u 0, .u), (.b 100, .b 67 2 [[.d (dAs r.1.1), .d (dAs r.1.2)]]), (.u 100, .u)] (Wk.keep [(0, 0), (100, 104)] rfl rfl ⟨ks rfl (.c .bx), kb 0 rfl (.dt rfl (by first | (rw [hr]; done) | (rw [hr]; rfl))), kb 104 rfl (.cons (.cons (.fz rfl (by first | (rw [hr]; done) | (rw [hr]; rfl)) (by first | (rw [hr]; done) | (rw [hr]; rfl)) (by simp)) (.cons (.fz rfl (by first | (rw [hr]; done) | (rw [hr]; rfl)) (by first | (rw [hr]; done) | (rw [hr]; rfl)) (by simp)) Ctos.nil)) .nil), trivial⟩) rfl ?_ (hbR_box rfl)
        rfl
      · skip
        refine ACode.skip ?_
        refine kb_n ?_
        refine ks_n ?_
        refine ACode.seq ?_
        refine ACode.region ?_
        refine .cons (.bN 2 rfl rfl rfl rfl rfl rfl) ?_
        refine .cons (.sT 2 true rfl rfl rfl rfl rfl rfl rfl) ?_
        refine .nil ?_
        refine ks_n ?_
        refine ACode.ret ?_
        obtain ⟨r, hr⟩ : ∃ r, r = loopD bs p d := ⟨_, rfl⟩
        rw [← hr]
        unfold loopD loopE at hr
        simp only [*, ↓reduceIte] at hr
        refine kf_wret [(.t 4, .v (.o (.c (.box 100 2 0 0)))), (.b 0, .b 105 2 (dR ([rRd bs r.2]))), (.u 0, .u), (.b 100, .b 67 2 [[.d (dAs r.1.1), .d (dAs r.1.2)]]), (.u 100, .u)] (Wk.keep [(0, 0), (100, 104)] rfl rfl ⟨ks rfl (.c .bx), kb 0 rfl (.dt rfl (by first | (rw [hr]; done) | (rw [hr]; rfl))), kb 104 rfl (.cons (.cons (.fz rfl (by first | (rw [hr]; done) | (rw [hr]; rfl)) (by first | (rw [hr]; done) | (rw [hr]; rfl)) (by simp)) (.cons (.fz rfl (by first | (rw [hr]; done) | (rw [hr]; rfl)) (by first | (rw [hr]; done) | (rw [hr]; rfl)) (by simp)) Ctos.nil)) .nil), trivial⟩) rfl ?_ (hbR_box rfl)
        rfl

end Go.Proofs.Ytgcpdpbapgkdjaa

/- Drawn nests; condition: the reader's bytes. -/
namespace Go.Proofs.Ytgcpdpbapgkdjaa
set_option linter.unusedVariables false
set_option linter.unusedSimpArgs false
open Go.RowKit

theorem nestE_step (bs : List Int) (n : Nat) (ns : List Lp) (p : Nat) : nestE bs (n + 1) ns p = nestE bs n (ns ++ [(loopD bs p ns.length).1]) (loopD bs p ns.length).2 := rfl
theorem loopE_p (bs : List Int) (lo hi : Aff) (p : Nat) : (loopE bs lo hi p).2 ≤ p + 2 := by
  unfold loopE
  split
  · exact Nat.le_refl _
  · split
    · exact Nat.le_refl _
    · exact Nat.le_succ _
theorem loopD_p (bs : List Int) (p d : Nat) : (loopD bs p d).2 ≤ p + 7 := by
  unfold loopD
  split
  · split
    · split
      · exact loopE_p _ _ _ _
      · exact loopE_p _ _ _ _
    · exact Nat.le_trans (loopE_p _ _ _ _) (by omega)
  · exact Nat.le_trans (loopE_p _ _ _ _) (by omega)

set_option maxRecDepth 100000 in
set_option maxHeartbeats 1600000 in
theorem l2Nest_own {bs : List Int} (hb : Bytes bs) {p : Nat} (hp : p ≤ 100000000) : Fn Try.prog 44 (hbR bs p) [vR] (.o (vD (dLs (nestD bs p).1))) (hbR bs (nestD bs p).2) := by
  have hm := numV_mem hb (p := p) (by omega) (xs := [2, 1, 2, 3]) (by simp)
  obtain ⟨N, hN⟩ : ∃ N : Nat, N = (numV bs p [2, 1, 2, 3]).toNat := ⟨_, rfl⟩
  have hN3 : N ≤ 3 := by simp at hm; omega
  have hNv : numV bs p [2, 1, 2, 3] = (N : Int) := by simp at hm; omega
  refine Fn.of_code Try.func44 rfl rfl (hbR_HB _ _) rfl rfl (hbR_HB _ _) rfl (hbR_num _ _ _) ?_
  refine ACode.seq ?_
  refine ACode.region ?_
  refine .cons (.asg rfl rfl) ?_
  refine .nil ?_
  refine ks_n ?_
  refine ACode.seq ?_
  refine ACode.region ?_
  refine .cons (St1.lit0 (k' := 105) (e := 67) (sz := 2) (b := true) rfl rfl rfl rfl (by kernel_rfl) rfl rfl) ?_
  refine .cons (.asg rfl rfl) ?_
  refine .nil ?_
  refine ks_n ?_
  refine ACode.seq ?_
  refine ACode.seq ?_
  refine ACode.region ?_
  refine .cons (.mv rfl rfl) ?_
  refine .cons (.li 3 0 3 [.const (.int .i64 (2)), .const (.int .i64 (1)), .const (.int .i64 (2)), .const (.int .i64 (3))] rfl rfl rfl rfl rfl rfl) ?_
  refine .cons (.cR [.tmp 6, .tmp 7] 0 rfl rfl rfl rfl (num_fn hb (by omega) [2, 1, 2, 3] (by simp)) rfl ⟨rfl, trivial⟩) ?_
  refine .cons (.asg rfl rfl) ?_
  refine .nil ?_
  refine ks_n ?_
  refine ACode.block ?_
  refine .loopK (fun m σ => (∃ (n : Nat) (ns : List Lp) (q : Nat), m = n + 0 ∧ (nestE bs n ns q = nestD bs p) ∧ (n + ns.length ≤ 3) ∧ (q ≤ p + 1 + 7 * ns.length) ∧ σ = [(.t 0, .v (.o (.c (.box 0 2 0 0)))), (.t 3, .v (.o (.c (.own 110 2 (ns.length))))), (.t 4, .v (.o (nat1 (n : Nat)))), (.b 0, .b 105 2 (dR ([rRd bs q]))), (.u 0, .u), (.b 110, .b 67 2 (dR (ns.map rL))), (.u 110, .u)])) [(0, 0), (110, 105)] ⟨N, [], p + 1, rfl, by rw [nestD, ← hN], by simpa using hN3, by simp, rfl⟩ ⟨ks rfl (.c .bx), ks rfl (.c .ow), ks rfl .dt, kb 0 rfl (.dt rfl), kb 105 rfl (.dt rfl (by first | (simp only [dR_app]; simp; done) | (simp [dR]; done) | (rw [dR_app]; simp; rfl))), trivial⟩ ?_
  rintro m σ ⟨n, ns, q, hm0, hE, hl, hq, rfl⟩
  refine ACode.seq ?_
  refine ACode.seq ?_
  refine ACode.region ?_
  refine .cons (.mv rfl rfl) ?_
  refine .cons (.gt rfl rfl rfl) ?_
  refine .nil ?_
  refine ks_n ?_
  refine .cD rfl (fun h10 => ?_) (fun h10 => ?_)
  · skip
    refine ACode.skip ?_
    refine ks_n ?_
    refine ACode.seq ?_
    refine ACode.block ?_
    refine ACode.region ?_
    refine .cons (.mv rfl rfl) ?_
    refine .cons (.mv rfl rfl) ?_
    refine .cons (.mv rfl rfl) ?_
    refine .cons (.lB 67 2 48 rfl rfl rfl rfl) ?_
    refine .cons (.cR [.tmp 14, .tmp 16] 0 rfl rfl rfl rfl (l2Loop_fn hb (by omega) ns.length (by omega)) rfl ⟨rfl, trivial⟩) ?_
    refine .cons (.li 67 1 0 [.tmp 17] rfl rfl rfl rfl rfl rfl) ?_
    refine .cons (St1.appB (k' := 119) (e := 67) (sz := 1) (by' := 48) rfl rfl rfl rfl rfl (by kernel_rfl) rfl rfl rfl rfl (by simp [dR]) (by simp [dR]; omega) rfl rfl rfl) ?_
    refine .cons (.asg rfl rfl) ?_
    refine .nil ?_
    refine kb_n ?_
    refine ks_n ?_
    refine ACode.region ?_
    refine .cons (.mv rfl rfl) ?_
    refine .cons (.sb rfl rfl rfl) ?_
    refine .cons (.asg rfl rfl) ?_
    refine .nil ?_
    refine kl_k [(0, 0), (110, 119)] ⟨n - 1, ns ++ [(loopD bs q ns.length).1], (loopD bs q ns.length).2, rfl, by rw [← hE, ← nestE_step, Nat.sub_add_cancel (by omega)], by simp; omega, by have := loopD_p bs q ns.length; simp; omega, rfl⟩ ⟨ks rfl (.c .bx), ks rfl (.c .ow), ks rfl .dt, kb 0 rfl (.dt rfl), kb 119 rfl (.dt rfl (by first | (simp only [dR_app]; simp; done) | (simp [dR]; done) | (rw [dR_app]; simp; rfl))), trivial⟩
  · skip
    obtain rfl : n = 0 := by omega
    have hR : nestD bs p = (ns, q) := hE.symm
    rw [hR]
    refine ACode.exit ?_
    refine ks_e ?_
    refine kl_e ?_
    refine kb_hit ?_
    refine ks_n ?_
    refine ACode.seq ?_
    refine ACode.region ?_
    refine .cons (.mv rfl rfl) ?_
    refine .cons (.asg rfl rfl) ?_
    refine .nil ?_
    refine ks_n ?_
    refine ACode.ret ?_
    refine kf_wret [(.t 2, .v (.o (vD (dLs ns)))), (.b 0, .b 105 2 (dR ([rRd bs q]))), (.u 0, .u)] (Wk.keep [(0, 0)] rfl rfl ⟨ks rfl (.c (.fz rfl)), kb 0 rfl (.dt rfl), trivial⟩) rfl ?_ (hbR_box rfl)
    rfl

end Go.Proofs.Ytgcpdpbapgkdjaa

/- Copies of nests; condition: small nests. -/
namespace Go.Proofs.Ytgcpdpbapgkdjaa
set_option linter.unusedVariables false
set_option linter.unusedSimpArgs false
open Go.RowKit

def smL (l : Lp) : Prop := l.1.length ≤ 100 ∧ l.2.length ≤ 100 ∧ (∀ a ∈ l.1, a.1.length ≤ 100) ∧ ∀ a ∈ l.2, a.1.length ≤ 100
def smN (ns : List Lp) : Prop := ns.length ≤ 100 ∧ ∀ l ∈ ns, smL l
theorem dR_take {α : Type} (f : α → List D) {l : List α} {k : Nat} {x : α} (h : l[k]? = some x) : dR ((l.take k).map f) ++ [f x].map (·.map C.d) = dR ((l.take (k + 1)).map f) := by
  rw [dR_app, List.take_add_one, h, List.map_append]; rfl
theorem dR_take1 {α : Type} (f : α → List D) {l : List α} {x : α} (h : l[0]? = some x) : [f x].map (·.map C.d) = dR ((l.take 1).map f) := by
  rw [List.take_one, List.head?_eq_getElem?, h]; rfl
theorem at_sm {l : List Aff} (h : ∀ a ∈ l, a.1.length ≤ 100) {k : Nat} (hk : k < l.length) : ∃ x, l[k]? = some x ∧ x.1.length ≤ 100 :=
  ⟨_, List.getElem?_eq_getElem hk, h _ (List.getElem_mem hk)⟩

set_option maxRecDepth 100000 in
set_option maxHeartbeats 1600000 in
theorem l2Copy_own {ns : List Lp} (hs : smN ns) : Fn Try.prog 90 [] [vD (dLs ns)] (.o (.c (.own 100 2 ns.length))) [(.b 100, .b 67 2 (dR (ns.map rL))), (.u 100, .u)] := by
  obtain ⟨hs1, hs2⟩ := hs
  refine Fn.of_code Try.func90 rfl rfl HB.nil rfl rfl HB.nil.data rfl (one_num rfl) ?_
  refine ACode.seq ?_
  refine ACode.region ?_
  refine .cons (.asg rfl rfl) ?_
  refine .nil ?_
  refine ks_n ?_
  refine ACode.seq ?_
  refine ACode.region ?_
  refine .cons (St1.lit0 (k' := 110) (e := 67) (sz := 2) (b := true) rfl rfl rfl rfl (by kernel_rfl) rfl rfl) ?_
  refine .cons (.asg rfl rfl) ?_
  refine .nil ?_
  refine ks_n ?_
  refine ACode.seq ?_
  refine ACode.seq ?_
  refine ACode.region ?_
  refine .cons (.asg rfl rfl) ?_
  refine .nil ?_
  refine ks_n ?_
  refine ACode.block ?_
  refine .loopK (fun m σ => (∃ i : Nat, m = ns.length - i ∧ (i ≤ ns.length) ∧ σ = [(.t 0, .v (.o (vD (dLs ns)))), (.t 3, .v (.o (.c (.own 110 2 (i))))), (.t 4, .v (.o (nat1 (i : Nat)))), (.b 110, .b 67 2 (dR ((ns.take i).map rL))), (.u 110, .u)])) [(110, 110)] ⟨0, rfl, by omega, rfl⟩ ⟨ks rfl .dt, ks rfl (.c .ow), ks rfl .dt, kb 110 rfl (.dt rfl (by first | exact dR_take rL hl | exact dR_take1 rL hl | rfl | (simp [dR]; done))), trivial⟩ ?_
  rintro m σ ⟨i, hm0, hi, rfl⟩
  refine ACode.seq ?_
  refine ACode.seq ?_
  refine ACode.region ?_
  refine .cons (.mv rfl rfl) ?_
  refine .cons (.mv rfl rfl) ?_
  refine .cons (.ln 67 2 48 rfl rfl rfl) ?_
  refine .cons (.ls rfl rfl rfl) ?_
  refine .nil ?_
  refine ks_n ?_
  refine .cD rfl (fun h14 => ?_) (fun h14 => ?_)
  · skip
    obtain ⟨l, hl⟩ : ∃ l, ns[i]? = some l := ⟨_, List.getElem?_eq_getElem (by omega)⟩
    obtain ⟨hla, hlb, hlc, hld⟩ := hs2 l (List.mem_of_getElem? hl)
    refine ACode.skip ?_
    refine ks_n ?_
    refine ACode.seq ?_
    refine ACode.block ?_
    refine ACode.seq ?_
    refine ACode.region ?_
    refine .cons (.bu [] [(0, 1), (1, 1)] [.slice none 0 0, .slice none 0 0] rfl rfl rfl rfl rfl) ?_
    refine .cons (.al 105 [.slice none 0 0, .slice none 0 0] rfl rfl rfl) ?_
    refine .cons (.sT 2 true rfl rfl rfl rfl rfl rfl rfl) ?_
    refine .nil ?_
    refine ks_n ?_
    refine ACode.seq ?_
    refine ACode.seq ?_
    refine ACode.region ?_
    refine .cons (.asg rfl rfl) ?_
    refine .nil ?_
    refine ks_n ?_
    refine ACode.block ?_
    refine .loopK (fun m σ => (∃ k : Nat, m = l.1.length - k ∧ (k = 0) ∧ σ = [(.t 0, .v (.o (vD (dLs ns)))), (.t 3, .v (.o (.c (.own 120 2 (i))))), (.t 4, .v (.o (nat1 (i : Nat)))), (.t 5, .v (.o (.c (.box 121 2 0 0)))), (.t 6, .v (.o (nat1 (k : Nat)))), (.b 120, .b 67 2 (dR ((ns.take i).map rL))), (.u 120, .u), (.b 121, .b 67 2 [[.d (.val (.slice none 0 0)), .d (.val (.slice none 0 0))]]), (.u 121, .u)]) ∨ (∃ k : Nat, m = l.1.length - k ∧ (1 ≤ k) ∧ (k ≤ l.1.length) ∧ σ = [(.t 0, .v (.o (vD (dLs ns)))), (.t 3, .v (.o (.c (.own 120 2 (i))))), (.t 4, .v (.o (nat1 (i : Nat)))), (.t 5, .v (.o (.c (.box 121 2 0 0)))), (.t 6, .v (.o (nat1 (k : Nat)))), (.b 120, .b 67 2 (dR ((ns.take i).map rL))), (.u 120, .u), (.b 122, .b 51 2 (dR ((l.1.take k).map rA))), (.u 122, .u), (.b 121, .b 67 2 [[.own 122 2 (k), .d (.val (.slice none 0 0))]]), (.u 121, .u)])) [(120, 110), (121, 105)] (.inl ⟨0, rfl, rfl, rfl⟩) ⟨ks rfl .dt, ks rfl (.c .ow), ks rfl .dt, ks rfl (.c .bx), ks rfl .dt, kb 110 rfl (.dt rfl (by first | exact dR_take rL hl | exact dR_take1 rL hl | rfl | (simp [dR]; done))), kb 105 rfl (.cons (.cons .dt (.cons .dt Ctos.nil)) .nil), trivial⟩ ?_
    rintro m σ (⟨k, hm0, rfl, rfl⟩ | ⟨k, hm0, hk1, hk2, rfl⟩)
    · skip
      refine ACode.seq ?_
      refine ACode.seq ?_
      refine ACode.region ?_
      refine .cons (.mv rfl rfl) ?_
      refine .cons (.mv rfl rfl) ?_
      refine .cons (.mv rfl rfl) ?_
      refine .cons (.xL 67 2 48 rfl rfl rfl rfl rfl) ?_
      refine .cons (.fP 0 0 false rfl rfl) ?_
      refine .cons (.l1 1 rfl rfl) ?_
      refine .cons (.ln 51 2 32 rfl rfl rfl) ?_
      refine .cons (.ls rfl rfl rfl) ?_
      refine .nil ?_
      refine ks_n ?_
      refine .cD rfl (fun h25 => ?_) (fun h25 => ?_)
      · skip
        obtain ⟨x, hx, hxs⟩ := at_sm hlc (show 0 < l.1.length by omega)
        refine ACode.skip ?_
        refine ks_n ?_
        refine ACode.seq ?_
        refine ACode.block ?_
        refine ACode.seq ?_
        refine ACode.region ?_
        refine .cons (.mv rfl rfl) ?_
        refine .cons (.mv rfl rfl) ?_
        refine .cons (.xL 67 2 48 rfl rfl rfl rfl rfl) ?_
        refine .cons (.fP 0 0 false rfl rfl) ?_
        refine .cons (.l1 1 rfl rfl) ?_
        refine .cons (.mv rfl rfl) ?_
        refine .cons (.xL 51 2 32 rfl rfl rfl rfl rfl) ?_
        refine .cons (.lN 2 rfl rfl rfl) ?_
        refine .cons (.al 107 [.slice none 0 0, .int .i64 0] rfl rfl rfl) ?_
        refine .cons (.sT 2 true rfl rfl rfl rfl rfl rfl rfl) ?_
        refine .nil ?_
        refine ks_n ?_
        refine ACode.drawK (by kernel_rfl) (by kernel_rfl) ?_
        refine .cons (.fB 0 0 false rfl rfl rfl) ?_
        refine .cons (.b1 1 rfl rfl rfl rfl rfl rfl) ?_
        refine .cons (St1.lit0 (k' := 138) (e := 3) (sz := 1) (b := true) rfl rfl rfl rfl (by kernel_rfl) rfl rfl) ?_
        refine .cons (.fB 0 0 false rfl rfl rfl) ?_
        refine .cons (.b1 1 rfl rfl rfl rfl rfl rfl) ?_
        refine .cons (St1.appD (rows := []) (e := 3) (sz := 0) (by' := 8) rfl rfl rfl rfl rfl (by kernel_rfl) rfl rfl rfl rfl rfl (by simp; omega) rfl) ?_
        refine .cons (.fB 1 0 false rfl rfl rfl) ?_
        refine .cons (.b1 1 rfl rfl rfl rfl rfl rfl) ?_
        refine .cons (.bu [(0, .tmp 41), (1, .tmp 43)] [(0, 1), (1, 1)] [.slice none 0 0, .int .i64 0] rfl rfl rfl rfl rfl) ?_
        refine .cons (.li 51 1 0 [.tmp 44] rfl rfl rfl rfl rfl rfl) ?_
        refine .cons (St1.appN (k' := 146) (e := 51) (sz := 1) (by' := 32) rfl rfl rfl rfl rfl (by kernel_rfl) rfl rfl rfl (by simp) (by first | (simp [dR]; done) | (simp [dR]; omega)) rfl rfl) ?_
        refine .cons (.fB 0 0 false rfl rfl rfl) ?_
        refine .cons (.sT 1 false rfl rfl rfl rfl rfl rfl rfl) ?_
        refine .nil ⟨by kernel_rfl, ?_⟩
        refine kb_n ?_
        refine ks_n ?_
        refine ACode.region ?_
        refine .cons (.mv rfl rfl) ?_
        refine .cons (.pl rfl rfl rfl) ?_
        refine .cons (.asg rfl rfl) ?_
        refine .nil ?_
        refine kl_k [(120, 120), (121, 121), (122, 146)] (.inr ⟨1, rfl, by omega, by omega, rfl⟩) ⟨ks rfl .dt, ks rfl (.c .ow), ks rfl .dt, ks rfl (.c .bx), ks rfl .dt, kb 120 rfl (.dt rfl (by first | exact dR_take rL hl | exact dR_take1 rL hl | rfl | (simp [dR]; done))), kb 146 rfl (.dt rfl (by first | exact dR_take rA hx | exact dR_take1 rA hx | rfl | (simp [dR]; done))), kb 121 rfl (.cons (.cons .ow (.cons .dt Ctos.nil)) .nil), trivial⟩
      · skip
        have hn1 : l.1 = [] := List.eq_nil_of_length_eq_zero (by omega)
        refine ACode.exit ?_
        refine ks_e ?_
        refine kl_e ?_
        refine kb_hit ?_
        refine ks_n ?_
        refine ACode.seq ?_
        refine ACode.seq ?_
        refine ACode.region ?_
        refine .cons (.asg rfl rfl) ?_
        refine .nil ?_
        refine ks_n ?_
        refine ACode.block ?_
        refine .loopK (fun m σ => (∃ j : Nat, m = l.2.length - j ∧ (j = 0) ∧ σ = [(.t 0, .v (.o (vD (dLs ns)))), (.t 3, .v (.o (.c (.own 130 2 (i))))), (.t 4, .v (.o (nat1 (i : Nat)))), (.t 5, .v (.o (.c (.box 131 2 0 0)))), (.t 8, .v (.o (nat1 (j : Nat)))), (.b 130, .b 67 2 (dR ((ns.take i).map rL))), (.u 130, .u), (.b 131, .b 67 2 [[.d (dAs l.1), .d (.val (.slice none 0 0))]]), (.u 131, .u)]) ∨ (∃ j : Nat, m = l.2.length - j ∧ (1 ≤ j) ∧ (j ≤ l.2.length) ∧ σ = [(.t 0, .v (.o (vD (dLs ns)))), (.t 3, .v (.o (.c (.own 130 2 (i))))), (.t 4, .v (.o (nat1 (i : Nat)))), (.t 5, .v (.o (.c (.box 131 2 0 0)))), (.t 8, .v (.o (nat1 (j : Nat)))), (.b 130, .b 67 2 (dR ((ns.take i).map rL))), (.u 130, .u), (.b 132, .b 51 2 (dR ((l.2.take j).map rA))), (.u 132, .u), (.b 131, .b 67 2 [[.d (dAs l.1), .own 132 2 (j)]]), (.u 131, .u)])) [(130, 120), (131, 121)] (.inl ⟨0, rfl, rfl, rfl⟩) ⟨ks rfl .dt, ks rfl (.c .ow), ks rfl .dt, ks rfl (.c .bx), ks rfl .dt, kb 120 rfl (.dt rfl (by first | exact dR_take rL hl | exact dR_take1 rL hl | rfl | (simp [dR]; done))), kb 121 rfl (.cons (.cons (Cto.nilE 2 (by rw [hn1]; rfl)) (.cons .dt Ctos.nil)) .nil), trivial⟩ ?_
        rintro m σ (⟨j, hm0, rfl, rfl⟩ | ⟨j, hm0, hj1, hj2, rfl⟩)
        · skip
          refine ACode.seq ?_
          refine ACode.seq ?_
          refine ACode.region ?_
          refine .cons (.mv rfl rfl) ?_
          refine .cons (.mv rfl rfl) ?_
          refine .cons (.mv rfl rfl) ?_
          refine .cons (.xL 67 2 48 rfl rfl rfl rfl rfl) ?_
          refine .cons (.fP 1 0 false rfl rfl) ?_
          refine .cons (.l1 1 rfl rfl) ?_
          refine .cons (.ln 51 2 32 rfl rfl rfl) ?_
          refine .cons (.ls rfl rfl rfl) ?_
          refine .nil ?_
          refine ks_n ?_
          refine .cD rfl (fun h55 => ?_) (fun h55 => ?_)
          · skip
            obtain ⟨x, hx, hxs⟩ := at_sm hld (show 0 < l.2.length by omega)
            refine ACode.skip ?_
            refine ks_n ?_
            refine ACode.seq ?_
            refine ACode.block ?_
            refine ACode.seq ?_
            refine ACode.region ?_
            refine .cons (.mv rfl rfl) ?_
            refine .cons (.mv rfl rfl) ?_
            refine .cons (.xL 67 2 48 rfl rfl rfl rfl rfl) ?_
            refine .cons (.fP 1 0 false rfl rfl) ?_
            refine .cons (.l1 1 rfl rfl) ?_
            refine .cons (.mv rfl rfl) ?_
            refine .cons (.xL 51 2 32 rfl rfl rfl rfl rfl) ?_
            refine .cons (.lN 2 rfl rfl rfl) ?_
            refine .cons (.al 109 [.slice none 0 0, .int .i64 0] rfl rfl rfl) ?_
            refine .cons (.sT 2 true rfl rfl rfl rfl rfl rfl rfl) ?_
            refine .nil ?_
            refine ks_n ?_
            refine ACode.drawK (by kernel_rfl) (by kernel_rfl) ?_
            refine .cons (.fB 1 0 false rfl rfl rfl) ?_
            refine .cons (.b1 1 rfl rfl rfl rfl rfl rfl) ?_
            refine .cons (St1.lit0 (k' := 168) (e := 3) (sz := 1) (b := true) rfl rfl rfl rfl (by kernel_rfl) rfl rfl) ?_
            refine .cons (.fB 0 0 false rfl rfl rfl) ?_
            refine .cons (.b1 1 rfl rfl rfl rfl rfl rfl) ?_
            refine .cons (St1.appD (rows := []) (e := 3) (sz := 0) (by' := 8) rfl rfl rfl rfl rfl (by kernel_rfl) rfl rfl rfl rfl rfl (by simp; omega) rfl) ?_
            refine .cons (.fB 1 0 false rfl rfl rfl) ?_
            refine .cons (.b1 1 rfl rfl rfl rfl rfl rfl) ?_
            refine .cons (.bu [(0, .tmp 71), (1, .tmp 73)] [(0, 1), (1, 1)] [.slice none 0 0, .int .i64 0] rfl rfl rfl rfl rfl) ?_
            refine .cons (.li 51 1 0 [.tmp 74] rfl rfl rfl rfl rfl rfl) ?_
            refine .cons (St1.appN (k' := 176) (e := 51) (sz := 1) (by' := 32) rfl rfl rfl rfl rfl (by kernel_rfl) rfl rfl rfl (by simp) (by first | (simp [dR]; done) | (simp [dR]; omega)) rfl rfl) ?_
            refine .cons (.fB 1 0 false rfl rfl rfl) ?_
            refine .cons (.sT 1 false rfl rfl rfl rfl rfl rfl rfl) ?_
            refine .nil ⟨by kernel_rfl, ?_⟩
            refine kb_n ?_
            refine ks_n ?_
            refine ACode.region ?_
            refine .cons (.mv rfl rfl) ?_
            refine .cons (.pl rfl rfl rfl) ?_
            refine .cons (.asg rfl rfl) ?_
            refine .nil ?_
            refine kl_k [(130, 130), (131, 131), (132, 176)] (.inr ⟨1, rfl, by omega, by omega, rfl⟩) ⟨ks rfl .dt, ks rfl (.c .ow), ks rfl .dt, ks rfl (.c .bx), ks rfl .dt, kb 130 rfl (.dt rfl (by first | exact dR_take rL hl | exact dR_take1 rL hl | rfl | (simp [dR]; done))), kb 176 rfl (.dt rfl (by first | exact dR_take rA hx | exact dR_take1 rA hx | rfl | (simp [dR]; done))), kb 131 rfl (.cons (.cons .dt (.cons .ow Ctos.nil)) .nil), trivial⟩
          · skip
            have hn2 : l.2 = [] := List.eq_nil_of_length_eq_zero (by omega)
            refine ACode.exit ?_
            refine ks_e ?_
            refine kl_e ?_
            refine kb_hit ?_
            refine ks_n ?_
            refine .keep [(.t 0, .v (.o (vD (dLs ns)))), (.t 3, .v (.o (.c (.own 860 2 (i))))), (.t 4, .v (.o (nat1 (i : Nat)))), (.t 5, .v (.o (.c (.box 861 2 0 0)))), (.b 860, .b 67 2 (dR ((ns.take i).map rL))), (.u 860, .u), (.b 861, .b 67 2 [[.d (dAs l.1), .d (dAs l.2)]]), (.u 861, .u)] [(860, 130), (861, 131)] ⟨ks rfl .dt, ks rfl (.c .ow), ks rfl .dt, ks rfl (.c .bx), kb 130 rfl (.dt rfl (by first | exact dR_take rL hl | exact dR_take1 rL hl | rfl | (simp [dR]; done))), kb 131 rfl (.cons (.cons .dt (.cons (Cto.nilE 2 (by rw [hn2]; rfl)) Ctos.nil)) .nil), trivial⟩ ?_
            refine ACode.region ?_
            refine .cons (.mv rfl rfl) ?_
            refine .cons (.bN 2 rfl rfl rfl rfl rfl rfl) ?_
            refine .cons (.li 67 1 0 [.tmp 79] rfl rfl rfl rfl rfl rfl) ?_
            refine .cons (St1.appB (k' := 181) (e := 67) (sz := 1) (by' := 48) rfl rfl rfl rfl rfl (by kernel_rfl) rfl rfl rfl rfl (by first | (simp [dR]; done) | (simp [dR]; omega)) (by first | (simp [dR]; done) | (simp [dR]; omega)) rfl rfl rfl) ?_
            refine .cons (.asg rfl rfl) ?_
            refine .nil ?_
            refine kb_n ?_
            refine ks_n ?_
            refine ACode.region ?_
            refine .cons (.mv rfl rfl) ?_
            refine .cons (.pl rfl rfl rfl) ?_
            refine .cons (.asg rfl rfl) ?_
            refine .nil ?_
            refine kl_k [(110, 181)] ⟨i + 1, rfl, by omega, rfl⟩ ⟨ks rfl .dt, ks rfl (.c .ow), ks rfl .dt, kb 181 rfl (.dt rfl (by first | exact dR_take rL hl | exact dR_take1 rL hl | rfl | (simp [dR]; done))), trivial⟩
        · skip
          refine ACode.seq ?_
          refine ACode.seq ?_
          refine ACode.region ?_
          refine .cons (.mv rfl rfl) ?_
          refine .cons (.mv rfl rfl) ?_
          refine .cons (.mv rfl rfl) ?_
          refine .cons (.xL 67 2 48 rfl rfl rfl rfl rfl) ?_
          refine .cons (.fP 1 0 false rfl rfl) ?_
          refine .cons (.l1 1 rfl rfl) ?_
          refine .cons (.ln 51 2 32 rfl rfl rfl) ?_
          refine .cons (.ls rfl rfl rfl) ?_
          refine .nil ?_
          refine ks_n ?_
          refine .cD rfl (fun h55 => ?_) (fun h55 => ?_)
          · skip
            obtain ⟨x, hx, hxs⟩ := at_sm hld (show j < l.2.length by omega)
            refine ACode.skip ?_
            refine ks_n ?_
            refine ACode.seq ?_
            refine ACode.block ?_
            refine ACode.seq ?_
            refine ACode.region ?_
            refine .cons (.mv rfl rfl) ?_
            refine .cons (.mv rfl rfl) ?_
            refine .cons (.xL 67 2 48 rfl rfl rfl rfl rfl) ?_
            refine .cons (.fP 1 0 false rfl rfl) ?_
            refine .cons (.l1 1 rfl rfl) ?_
            refine .cons (.mv rfl rfl) ?_
            refine .cons (.xL 51 2 32 rfl rfl rfl rfl rfl) ?_
            refine .cons (.lN 2 rfl rfl rfl) ?_
            refine .cons (.al 109 [.slice none 0 0, .int .i64 0] rfl rfl rfl) ?_
            refine .cons (.sT 2 true rfl rfl rfl rfl rfl rfl rfl) ?_
            refine .nil ?_
            refine ks_n ?_
            refine ACode.drawK (by kernel_rfl) (by kernel_rfl) ?_
            refine .cons (.fB 1 0 false rfl rfl rfl) ?_
            refine .cons (.b1 1 rfl rfl rfl rfl rfl rfl) ?_
            refine .cons (St1.lit0 (k' := 168) (e := 3) (sz := 1) (b := true) rfl rfl rfl rfl (by kernel_rfl) rfl rfl) ?_
            refine .cons (.fB 0 0 false rfl rfl rfl) ?_
            refine .cons (.b1 1 rfl rfl rfl rfl rfl rfl) ?_
            refine .cons (St1.appD (rows := []) (e := 3) (sz := 0) (by' := 8) rfl rfl rfl rfl rfl (by kernel_rfl) rfl rfl rfl rfl rfl (by simp; omega) rfl) ?_
            refine .cons (.fB 1 0 false rfl rfl rfl) ?_
            refine .cons (.b1 1 rfl rfl rfl rfl rfl rfl) ?_
            refine .cons (.bu [(0, .tmp 71), (1, .tmp 73)] [(0, 1), (1, 1)] [.slice none 0 0, .int .i64 0] rfl rfl rfl rfl rfl) ?_
            refine .cons (.li 51 1 0 [.tmp 74] rfl rfl rfl rfl rfl rfl) ?_
            refine .cons (St1.appB (k' := 176) (e := 51) (sz := 1) (by' := 32) rfl rfl rfl rfl rfl (by kernel_rfl) rfl rfl rfl rfl (by first | (simp [dR]; done) | (simp [dR]; omega)) (by first | (simp [dR]; done) | (simp [dR]; omega)) rfl rfl rfl) ?_
            refine .cons (.fB 1 0 false rfl rfl rfl) ?_
            refine .cons (.sT 1 false rfl rfl rfl rfl rfl rfl rfl) ?_
            refine .nil ⟨by kernel_rfl, ?_⟩
            refine kb_n ?_
            refine ks_n ?_
            refine ACode.region ?_
            refine .cons (.mv rfl rfl) ?_
            refine .cons (.pl rfl rfl rfl) ?_
            refine .cons (.asg rfl rfl) ?_
            refine .nil ?_
            refine kl_k [(130, 130), (131, 131), (132, 176)] (.inr ⟨j + 1, rfl, by omega, by omega, rfl⟩) ⟨ks rfl .dt, ks rfl (.c .ow), ks rfl .dt, ks rfl (.c .bx), ks rfl .dt, kb 130 rfl (.dt rfl (by first | exact dR_take rL hl | exact dR_take1 rL hl | rfl | (simp [dR]; done))), kb 176 rfl (.dt rfl (by first | exact dR_take rA hx | exact dR_take1 rA hx | rfl | (simp [dR]; done))), kb 131 rfl (.cons (.cons .dt (.cons .ow Ctos.nil)) .nil), trivial⟩
          · skip
            obtain rfl : j = l.2.length := by omega
            refine ACode.exit ?_
            refine ks_e ?_
            refine kl_e ?_
            refine kb_hit ?_
            refine ks_n ?_
            refine .keep [(.t 0, .v (.o (vD (dLs ns)))), (.t 3, .v (.o (.c (.own 860 2 (i))))), (.t 4, .v (.o (nat1 (i : Nat)))), (.t 5, .v (.o (.c (.box 861 2 0 0)))), (.b 860, .b 67 2 (dR ((ns.take i).map rL))), (.u 860, .u), (.b 861, .b 67 2 [[.d (dAs l.1), .d (dAs l.2)]]), (.u 861, .u)] [(860, 130), (861, 131)] ⟨ks rfl .dt, ks rfl (.c .ow), ks rfl .dt, ks rfl (.c .bx), kb 130 rfl (.dt rfl (by first | exact dR_take rL hl | exact dR_take1 rL hl | rfl | (simp [dR]; done))), kb 131 rfl (.cons (.cons .dt (.cons (.fz rfl (by first | rfl | (rw [List.take_length]; done)) (by first | rfl | (simp; done) | (simp; omega)) (by omega)) Ctos.nil)) .nil), trivial⟩ ?_
            refine ACode.region ?_
            refine .cons (.mv rfl rfl) ?_
            refine .cons (.bN 2 rfl rfl rfl rfl rfl rfl) ?_
            refine .cons (.li 67 1 0 [.tmp 79] rfl rfl rfl rfl rfl rfl) ?_
            refine .cons (St1.appB (k' := 181) (e := 67) (sz := 1) (by' := 48) rfl rfl rfl rfl rfl (by kernel_rfl) rfl rfl rfl rfl (by first | (simp [dR]; done) | (simp [dR]; omega)) (by first | (simp [dR]; done) | (simp [dR]; omega)) rfl rfl rfl) ?_
            refine .cons (.asg rfl rfl) ?_
            refine .nil ?_
            refine kb_n ?_
            refine ks_n ?_
            refine ACode.region ?_
            refine .cons (.mv rfl rfl) ?_
            refine .cons (.pl rfl rfl rfl) ?_
            refine .cons (.asg rfl rfl) ?_
            refine .nil ?_
            refine kl_k [(110, 181)] ⟨i + 1, rfl, by omega, rfl⟩ ⟨ks rfl .dt, ks rfl (.c .ow), ks rfl .dt, kb 181 rfl (.dt rfl (by first | exact dR_take rL hl | exact dR_take1 rL hl | rfl | (simp [dR]; done))), trivial⟩
    · skip
      refine ACode.seq ?_
      refine ACode.seq ?_
      refine ACode.region ?_
      refine .cons (.mv rfl rfl) ?_
      refine .cons (.mv rfl rfl) ?_
      refine .cons (.mv rfl rfl) ?_
      refine .cons (.xL 67 2 48 rfl rfl rfl rfl rfl) ?_
      refine .cons (.fP 0 0 false rfl rfl) ?_
      refine .cons (.l1 1 rfl rfl) ?_
      refine .cons (.ln 51 2 32 rfl rfl rfl) ?_
      refine .cons (.ls rfl rfl rfl) ?_
      refine .nil ?_
      refine ks_n ?_
      refine .cD rfl (fun h25 => ?_) (fun h25 => ?_)
      · skip
        obtain ⟨x, hx, hxs⟩ := at_sm hlc (show k < l.1.length by omega)
        refine ACode.skip ?_
        refine ks_n ?_
        refine ACode.seq ?_
        refine ACode.block ?_
        refine ACode.seq ?_
        refine ACode.region ?_
        refine .cons (.mv rfl rfl) ?_
        refine .cons (.mv rfl rfl) ?_
        refine .cons (.xL 67 2 48 rfl rfl rfl rfl rfl) ?_
        refine .cons (.fP 0 0 false rfl rfl) ?_
        refine .cons (.l1 1 rfl rfl) ?_
        refine .cons (.mv rfl rfl) ?_
        refine .cons (.xL 51 2 32 rfl rfl rfl rfl rfl) ?_
        refine .cons (.lN 2 rfl rfl rfl) ?_
        refine .cons (.al 107 [.slice none 0 0, .int .i64 0] rfl rfl rfl) ?_
        refine .cons (.sT 2 true rfl rfl rfl rfl rfl rfl rfl) ?_
        refine .nil ?_
        refine ks_n ?_
        refine ACode.drawK (by kernel_rfl) (by kernel_rfl) ?_
        refine .cons (.fB 0 0 false rfl rfl rfl) ?_
        refine .cons (.b1 1 rfl rfl rfl rfl rfl rfl) ?_
        refine .cons (St1.lit0 (k' := 138) (e := 3) (sz := 1) (b := true) rfl rfl rfl rfl (by kernel_rfl) rfl rfl) ?_
        refine .cons (.fB 0 0 false rfl rfl rfl) ?_
        refine .cons (.b1 1 rfl rfl rfl rfl rfl rfl) ?_
        refine .cons (St1.appD (rows := []) (e := 3) (sz := 0) (by' := 8) rfl rfl rfl rfl rfl (by kernel_rfl) rfl rfl rfl rfl rfl (by simp; omega) rfl) ?_
        refine .cons (.fB 1 0 false rfl rfl rfl) ?_
        refine .cons (.b1 1 rfl rfl rfl rfl rfl rfl) ?_
        refine .cons (.bu [(0, .tmp 41), (1, .tmp 43)] [(0, 1), (1, 1)] [.slice none 0 0, .int .i64 0] rfl rfl rfl rfl rfl) ?_
        refine .cons (.li 51 1 0 [.tmp 44] rfl rfl rfl rfl rfl rfl) ?_
        refine .cons (St1.appB (k' := 146) (e := 51) (sz := 1) (by' := 32) rfl rfl rfl rfl rfl (by kernel_rfl) rfl rfl rfl rfl (by first | (simp [dR]; done) | (simp [dR]; omega)) (by first | (simp [dR]; done) | (simp [dR]; omega)) rfl rfl rfl) ?_
        refine .cons (.fB 0 0 false rfl rfl rfl) ?_
        refine .cons (.sT 1 false rfl rfl rfl rfl rfl rfl rfl) ?_
        refine .nil ⟨by kernel_rfl, ?_⟩
        refine kb_n ?_
        refine ks_n ?_
        refine ACode.region ?_
        refine .cons (.mv rfl rfl) ?_
        refine .cons (.pl rfl rfl rfl) ?_
        refine .cons (.asg rfl rfl) ?_
        refine .nil ?_
        refine kl_k [(120, 120), (121, 121), (122, 146)] (.inr ⟨k + 1, rfl, by omega, by omega, rfl⟩) ⟨ks rfl .dt, ks rfl (.c .ow), ks rfl .dt, ks rfl (.c .bx), ks rfl .dt, kb 120 rfl (.dt rfl (by first | exact dR_take rL hl | exact dR_take1 rL hl | rfl | (simp [dR]; done))), kb 146 rfl (.dt rfl (by first | exact dR_take rA hx | exact dR_take1 rA hx | rfl | (simp [dR]; done))), kb 121 rfl (.cons (.cons .ow (.cons .dt Ctos.nil)) .nil), trivial⟩
      · skip
        obtain rfl : k = l.1.length := by omega
        refine ACode.exit ?_
        refine ks_e ?_
        refine kl_e ?_
        refine kb_hit ?_
        refine ks_n ?_
        refine ACode.seq ?_
        refine ACode.seq ?_
        refine ACode.region ?_
        refine .cons (.asg rfl rfl) ?_
        refine .nil ?_
        refine ks_n ?_
        refine ACode.block ?_
        refine .loopK (fun m σ => (∃ j : Nat, m = l.2.length - j ∧ (j = 0) ∧ σ = [(.t 0, .v (.o (vD (dLs ns)))), (.t 3, .v (.o (.c (.own 130 2 (i))))), (.t 4, .v (.o (nat1 (i : Nat)))), (.t 5, .v (.o (.c (.box 131 2 0 0)))), (.t 8, .v (.o (nat1 (j : Nat)))), (.b 130, .b 67 2 (dR ((ns.take i).map rL))), (.u 130, .u), (.b 131, .b 67 2 [[.d (dAs l.1), .d (.val (.slice none 0 0))]]), (.u 131, .u)]) ∨ (∃ j : Nat, m = l.2.length - j ∧ (1 ≤ j) ∧ (j ≤ l.2.length) ∧ σ = [(.t 0, .v (.o (vD (dLs ns)))), (.t 3, .v (.o (.c (.own 130 2 (i))))), (.t 4, .v (.o (nat1 (i : Nat)))), (.t 5, .v (.o (.c (.box 131 2 0 0)))), (.t 8, .v (.o (nat1 (j : Nat)))), (.b 130, .b 67 2 (dR ((ns.take i).map rL))), (.u 130, .u), (.b 132, .b 51 2 (dR ((l.2.take j).map rA))), (.u 132, .u), (.b 131, .b 67 2 [[.d (dAs l.1), .own 132 2 (j)]]), (.u 131, .u)])) [(130, 120), (131, 121)] (.inl ⟨0, rfl, rfl, rfl⟩) ⟨ks rfl .dt, ks rfl (.c .ow), ks rfl .dt, ks rfl (.c .bx), ks rfl .dt, kb 120 rfl (.dt rfl (by first | exact dR_take rL hl | exact dR_take1 rL hl | rfl | (simp [dR]; done))), kb 121 rfl (.cons (.cons (.fz rfl (by first | rfl | (rw [List.take_length]; done)) (by first | rfl | (simp; done) | (simp; omega)) (by omega)) (.cons .dt Ctos.nil)) .nil), trivial⟩ ?_
        rintro m σ (⟨j, hm0, rfl, rfl⟩ | ⟨j, hm0, hj1, hj2, rfl⟩)
        · skip
          refine ACode.seq ?_
          refine ACode.seq ?_
          refine ACode.region ?_
          refine .cons (.mv rfl rfl) ?_
          refine .cons (.mv rfl rfl) ?_
          refine .cons (.mv rfl rfl) ?_
          refine .cons (.xL 67 2 48 rfl rfl rfl rfl rfl) ?_
          refine .cons (.fP 1 0 false rfl rfl) ?_
          refine .cons (.l1 1 rfl rfl) ?_
          refine .cons (.ln 51 2 32 rfl rfl rfl) ?_
          refine .cons (.ls rfl rfl rfl) ?_
          refine .nil ?_
          refine ks_n ?_
          refine .cD rfl (fun h55 => ?_) (fun h55 => ?_)
          · skip
            obtain ⟨x, hx, hxs⟩ := at_sm hld (show 0 < l.2.length by omega)
            refine ACode.skip ?_
            refine ks_n ?_
            refine ACode.seq ?_
            refine ACode.block ?_
            refine ACode.seq ?_
            refine ACode.region ?_
            refine .cons (.mv rfl rfl) ?_
            refine .cons (.mv rfl rfl) ?_
            refine .cons (.xL 67 2 48 rfl rfl rfl rfl rfl) ?_
            refine .cons (.fP 1 0 false rfl rfl) ?_
            refine .cons (.l1 1 rfl rfl) ?_
            refine .cons (.mv rfl rfl) ?_
            refine .cons (.xL 51 2 32 rfl rfl rfl rfl rfl) ?_
            refine .cons (.lN 2 rfl rfl rfl) ?_
            refine .cons (.al 109 [.slice none 0 0, .int .i64 0] rfl rfl rfl) ?_
            refine .cons (.sT 2 true rfl rfl rfl rfl rfl rfl rfl) ?_
            refine .nil ?_
            refine ks_n ?_
            refine ACode.drawK (by kernel_rfl) (by kernel_rfl) ?_
            refine .cons (.fB 1 0 false rfl rfl rfl) ?_
            refine .cons (.b1 1 rfl rfl rfl rfl rfl rfl) ?_
            refine .cons (St1.lit0 (k' := 168) (e := 3) (sz := 1) (b := true) rfl rfl rfl rfl (by kernel_rfl) rfl rfl) ?_
            refine .cons (.fB 0 0 false rfl rfl rfl) ?_
            refine .cons (.b1 1 rfl rfl rfl rfl rfl rfl) ?_
            refine .cons (St1.appD (rows := []) (e := 3) (sz := 0) (by' := 8) rfl rfl rfl rfl rfl (by kernel_rfl) rfl rfl rfl rfl rfl (by simp; omega) rfl) ?_
            refine .cons (.fB 1 0 false rfl rfl rfl) ?_
            refine .cons (.b1 1 rfl rfl rfl rfl rfl rfl) ?_
            refine .cons (.bu [(0, .tmp 71), (1, .tmp 73)] [(0, 1), (1, 1)] [.slice none 0 0, .int .i64 0] rfl rfl rfl rfl rfl) ?_
            refine .cons (.li 51 1 0 [.tmp 74] rfl rfl rfl rfl rfl rfl) ?_
            refine .cons (St1.appN (k' := 176) (e := 51) (sz := 1) (by' := 32) rfl rfl rfl rfl rfl (by kernel_rfl) rfl rfl rfl (by simp) (by first | (simp [dR]; done) | (simp [dR]; omega)) rfl rfl) ?_
            refine .cons (.fB 1 0 false rfl rfl rfl) ?_
            refine .cons (.sT 1 false rfl rfl rfl rfl rfl rfl rfl) ?_
            refine .nil ⟨by kernel_rfl, ?_⟩
            refine kb_n ?_
            refine ks_n ?_
            refine ACode.region ?_
            refine .cons (.mv rfl rfl) ?_
            refine .cons (.pl rfl rfl rfl) ?_
            refine .cons (.asg rfl rfl) ?_
            refine .nil ?_
            refine kl_k [(130, 130), (131, 131), (132, 176)] (.inr ⟨1, rfl, by omega, by omega, rfl⟩) ⟨ks rfl .dt, ks rfl (.c .ow), ks rfl .dt, ks rfl (.c .bx), ks rfl .dt, kb 130 rfl (.dt rfl (by first | exact dR_take rL hl | exact dR_take1 rL hl | rfl | (simp [dR]; done))), kb 176 rfl (.dt rfl (by first | exact dR_take rA hx | exact dR_take1 rA hx | rfl | (simp [dR]; done))), kb 131 rfl (.cons (.cons .dt (.cons .ow Ctos.nil)) .nil), trivial⟩
          · skip
            have hn2 : l.2 = [] := List.eq_nil_of_length_eq_zero (by omega)
            refine ACode.exit ?_
            refine ks_e ?_
            refine kl_e ?_
            refine kb_hit ?_
            refine ks_n ?_
            refine .keep [(.t 0, .v (.o (vD (dLs ns)))), (.t 3, .v (.o (.c (.own 860 2 (i))))), (.t 4, .v (.o (nat1 (i : Nat)))), (.t 5, .v (.o (.c (.box 861 2 0 0)))), (.b 860, .b 67 2 (dR ((ns.take i).map rL))), (.u 860, .u), (.b 861, .b 67 2 [[.d (dAs l.1), .d (dAs l.2)]]), (.u 861, .u)] [(860, 130), (861, 131)] ⟨ks rfl .dt, ks rfl (.c .ow), ks rfl .dt, ks rfl (.c .bx), kb 130 rfl (.dt rfl (by first | exact dR_take rL hl | exact dR_take1 rL hl | rfl | (simp [dR]; done))), kb 131 rfl (.cons (.cons .dt (.cons (Cto.nilE 2 (by rw [hn2]; rfl)) Ctos.nil)) .nil), trivial⟩ ?_
            refine ACode.region ?_
            refine .cons (.mv rfl rfl) ?_
            refine .cons (.bN 2 rfl rfl rfl rfl rfl rfl) ?_
            refine .cons (.li 67 1 0 [.tmp 79] rfl rfl rfl rfl rfl rfl) ?_
            refine .cons (St1.appB (k' := 181) (e := 67) (sz := 1) (by' := 48) rfl rfl rfl rfl rfl (by kernel_rfl) rfl rfl rfl rfl (by first | (simp [dR]; done) | (simp [dR]; omega)) (by first | (simp [dR]; done) | (simp [dR]; omega)) rfl rfl rfl) ?_
            refine .cons (.asg rfl rfl) ?_
            refine .nil ?_
            refine kb_n ?_
            refine ks_n ?_
            refine ACode.region ?_
            refine .cons (.mv rfl rfl) ?_
            refine .cons (.pl rfl rfl rfl) ?_
            refine .cons (.asg rfl rfl) ?_
            refine .nil ?_
            refine kl_k [(110, 181)] ⟨i + 1, rfl, by omega, rfl⟩ ⟨ks rfl .dt, ks rfl (.c .ow), ks rfl .dt, kb 181 rfl (.dt rfl (by first | exact dR_take rL hl | exact dR_take1 rL hl | rfl | (simp [dR]; done))), trivial⟩
        · skip
          refine ACode.seq ?_
          refine ACode.seq ?_
          refine ACode.region ?_
          refine .cons (.mv rfl rfl) ?_
          refine .cons (.mv rfl rfl) ?_
          refine .cons (.mv rfl rfl) ?_
          refine .cons (.xL 67 2 48 rfl rfl rfl rfl rfl) ?_
          refine .cons (.fP 1 0 false rfl rfl) ?_
          refine .cons (.l1 1 rfl rfl) ?_
          refine .cons (.ln 51 2 32 rfl rfl rfl) ?_
          refine .cons (.ls rfl rfl rfl) ?_
          refine .nil ?_
          refine ks_n ?_
          refine .cD rfl (fun h55 => ?_) (fun h55 => ?_)
          · skip
            obtain ⟨x, hx, hxs⟩ := at_sm hld (show j < l.2.length by omega)
            refine ACode.skip ?_
            refine ks_n ?_
            refine ACode.seq ?_
            refine ACode.block ?_
            refine ACode.seq ?_
            refine ACode.region ?_
            refine .cons (.mv rfl rfl) ?_
            refine .cons (.mv rfl rfl) ?_
            refine .cons (.xL 67 2 48 rfl rfl rfl rfl rfl) ?_
            refine .cons (.fP 1 0 false rfl rfl) ?_
            refine .cons (.l1 1 rfl rfl) ?_
            refine .cons (.mv rfl rfl) ?_
            refine .cons (.xL 51 2 32 rfl rfl rfl rfl rfl) ?_
            refine .cons (.lN 2 rfl rfl rfl) ?_
            refine .cons (.al 109 [.slice none 0 0, .int .i64 0] rfl rfl rfl) ?_
            refine .cons (.sT 2 true rfl rfl rfl rfl rfl rfl rfl) ?_
            refine .nil ?_
            refine ks_n ?_
            refine ACode.drawK (by kernel_rfl) (by kernel_rfl) ?_
            refine .cons (.fB 1 0 false rfl rfl rfl) ?_
            refine .cons (.b1 1 rfl rfl rfl rfl rfl rfl) ?_
            refine .cons (St1.lit0 (k' := 168) (e := 3) (sz := 1) (b := true) rfl rfl rfl rfl (by kernel_rfl) rfl rfl) ?_
            refine .cons (.fB 0 0 false rfl rfl rfl) ?_
            refine .cons (.b1 1 rfl rfl rfl rfl rfl rfl) ?_
            refine .cons (St1.appD (rows := []) (e := 3) (sz := 0) (by' := 8) rfl rfl rfl rfl rfl (by kernel_rfl) rfl rfl rfl rfl rfl (by simp; omega) rfl) ?_
            refine .cons (.fB 1 0 false rfl rfl rfl) ?_
            refine .cons (.b1 1 rfl rfl rfl rfl rfl rfl) ?_
            refine .cons (.bu [(0, .tmp 71), (1, .tmp 73)] [(0, 1), (1, 1)] [.slice none 0 0, .int .i64 0] rfl rfl rfl rfl rfl) ?_
            refine .cons (.li 51 1 0 [.tmp 74] rfl rfl rfl rfl rfl rfl) ?_
            refine .cons (St1.appB (k' := 176) (e := 51) (sz := 1) (by' := 32) rfl rfl rfl rfl rfl (by kernel_rfl) rfl rfl rfl rfl (by first | (simp [dR]; done) | (simp [dR]; omega)) (by first | (simp [dR]; done) | (simp [dR]; omega)) rfl rfl rfl) ?_
            refine .cons (.fB 1 0 false rfl rfl rfl) ?_
            refine .cons (.sT 1 false rfl rfl rfl rfl rfl rfl rfl) ?_
            refine .nil ⟨by kernel_rfl, ?_⟩
            refine kb_n ?_
            refine ks_n ?_
            refine ACode.region ?_
            refine .cons (.mv rfl rfl) ?_
            refine .cons (.pl rfl rfl rfl) ?_
            refine .cons (.asg rfl rfl) ?_
            refine .nil ?_
            refine kl_k [(130, 130), (131, 131), (132, 176)] (.inr ⟨j + 1, rfl, by omega, by omega, rfl⟩) ⟨ks rfl .dt, ks rfl (.c .ow), ks rfl .dt, ks rfl (.c .bx), ks rfl .dt, kb 130 rfl (.dt rfl (by first | exact dR_take rL hl | exact dR_take1 rL hl | rfl | (simp [dR]; done))), kb 176 rfl (.dt rfl (by first | exact dR_take rA hx | exact dR_take1 rA hx | rfl | (simp [dR]; done))), kb 131 rfl (.cons (.cons .dt (.cons .ow Ctos.nil)) .nil), trivial⟩
          · skip
            obtain rfl : j = l.2.length := by omega
            refine ACode.exit ?_
            refine ks_e ?_
            refine kl_e ?_
            refine kb_hit ?_
            refine ks_n ?_
            refine .keep [(.t 0, .v (.o (vD (dLs ns)))), (.t 3, .v (.o (.c (.own 860 2 (i))))), (.t 4, .v (.o (nat1 (i : Nat)))), (.t 5, .v (.o (.c (.box 861 2 0 0)))), (.b 860, .b 67 2 (dR ((ns.take i).map rL))), (.u 860, .u), (.b 861, .b 67 2 [[.d (dAs l.1), .d (dAs l.2)]]), (.u 861, .u)] [(860, 130), (861, 131)] ⟨ks rfl .dt, ks rfl (.c .ow), ks rfl .dt, ks rfl (.c .bx), kb 130 rfl (.dt rfl (by first | exact dR_take rL hl | exact dR_take1 rL hl | rfl | (simp [dR]; done))), kb 131 rfl (.cons (.cons .dt (.cons (.fz rfl (by first | rfl | (rw [List.take_length]; done)) (by first | rfl | (simp; done) | (simp; omega)) (by omega)) Ctos.nil)) .nil), trivial⟩ ?_
            refine ACode.region ?_
            refine .cons (.mv rfl rfl) ?_
            refine .cons (.bN 2 rfl rfl rfl rfl rfl rfl) ?_
            refine .cons (.li 67 1 0 [.tmp 79] rfl rfl rfl rfl rfl rfl) ?_
            refine .cons (St1.appB (k' := 181) (e := 67) (sz := 1) (by' := 48) rfl rfl rfl rfl rfl (by kernel_rfl) rfl rfl rfl rfl (by first | (simp [dR]; done) | (simp [dR]; omega)) (by first | (simp [dR]; done) | (simp [dR]; omega)) rfl rfl rfl) ?_
            refine .cons (.asg rfl rfl) ?_
            refine .nil ?_
            refine kb_n ?_
            refine ks_n ?_
            refine ACode.region ?_
            refine .cons (.mv rfl rfl) ?_
            refine .cons (.pl rfl rfl rfl) ?_
            refine .cons (.asg rfl rfl) ?_
            refine .nil ?_
            refine kl_k [(110, 181)] ⟨i + 1, rfl, by omega, rfl⟩ ⟨ks rfl .dt, ks rfl (.c .ow), ks rfl .dt, kb 181 rfl (.dt rfl (by first | exact dR_take rL hl | exact dR_take1 rL hl | rfl | (simp [dR]; done))), trivial⟩
  · skip
    obtain rfl : i = ns.length := by omega
    refine ACode.exit ?_
    refine ks_e ?_
    refine kl_e ?_
    refine kb_hit ?_
    refine ks_n ?_
    refine ACode.seq ?_
    refine ACode.region ?_
    refine .cons (.mv rfl rfl) ?_
    refine .cons (.asg rfl rfl) ?_
    refine .nil ?_
    refine ks_n ?_
    refine ACode.ret ?_
    refine kf_wret [(.t 2, .v (.o (.c (.own 100 2 (ns.length))))), (.b 100, .b 67 2 (dR (ns.map rL))), (.u 100, .u)] (Wk.keep [(100, 110)] rfl rfl ⟨ks rfl (.c .ow), kb 110 rfl (.dt rfl (by rw [List.take_length])), trivial⟩) rfl ?_ (one_box rfl)
    rfl

end Go.Proofs.Ytgcpdpbapgkdjaa

/- Copies of nests with a side of its own; condition: small nests. -/
namespace Go.Proofs.Ytgcpdpbapgkdjaa
set_option linter.unusedVariables false
set_option linter.unusedSimpArgs false
open Go.RowKit

theorem HB.refs1 {k2 : Nat} {e2 : TypeId} {sz2 : Nat} {rows2 : List (List C)} {c d : C} {rows : List (List D)} {k : Nat} {l : St} (hc : ∀ l ∈ c.refs, l = k2) (hd : ∀ l ∈ d.refs, l = k2) : ∀ r ∈ [c, d] :: dR rows, ∀ c ∈ r, ∀ m ∈ c.refs, lk ((.u k, .u) :: (.b k2, .b e2 sz2 rows2) :: (.u k2, .u) :: l) (.u m) ≠ .no := by
  intro r hr c' hc' m hm
  have : m = k2 := by
    rcases List.mem_cons.1 hr with rfl | hr
    · rcases List.mem_cons.1 hc' with rfl | hc'
      · exact hc _ hm
      · rcases List.mem_cons.1 hc' with rfl | hc'
        · exact hd _ hm
        · cases hc'
    · exact (dR_refs hr hc' hm).elim
  subst this
  rw [lk_cons]
  by_cases e : k = m
  · subst e; rw [upd_same]; exact fun e => by cases e
  · rw [upd_other _ _ (by simpa using fun h => e h.symm), lk_cons, upd_other _ _ (by simp), lk_cons, upd_same]; exact fun e => by cases e
theorem HB.refs2 {k2 : Nat} {e2 : TypeId} {sz2 : Nat} {rows2 : List (List C)} {c d : C} {rows : List (List D)} {k : Nat} {l : St} (hc : ∀ l ∈ c.refs, l = k2) (hd : ∀ l ∈ d.refs, l = k2) : ∀ r ∈ dR rows ++ [[c, d]], ∀ c ∈ r, ∀ m ∈ c.refs, lk ((.u k, .u) :: (.b k2, .b e2 sz2 rows2) :: (.u k2, .u) :: l) (.u m) ≠ .no := by
  intro r hr c' hc' m hm
  rcases List.mem_append.1 hr with h | h
  · exact (dR_refs h hc' hm).elim
  · exact HB.refs1 (rows := []) hc hd r (List.mem_cons.2 (.inl (List.mem_singleton.1 h))) c' hc' m hm
theorem two_box {σ : St} {k0 k1 : Nat} {e0 e1 : TypeId} {sz0 sz1 : Nat} {rows0 rows1 : List (List C)} (h : lk σ (.b k0) = .b e0 sz0 rows0) (h2 : lk σ (.b k1) = .b e1 sz1 rows1) : ∀ k e sz rows, lk [(.b k0, .b e0 sz0 rows0), (.u k0, .u), (.b k1, .b e1 sz1 rows1), (.u k1, .u)] (.b k) = .b e sz rows → lk σ (.b k) = .b e sz rows := fun k e sz rows h1 => by
  have hm := lk_mem h1 (by simp)
  simp only [List.mem_cons, List.not_mem_nil, or_false] at hm
  rcases hm with hm | hm | hm | hm
  · cases hm; exact h
  · cases hm
  · cases hm; exact h2
  · cases hm
theorem two_num {σ : St} {k0 k1 : Nat} {e0 e1 : TypeId} {sz0 sz1 : Nat} {rows0 rows1 : List (List C)} (hk : Nat.ble 100 k0 = true) (hk2 : Nat.ble 100 k1 = true) : ∀ k, k < 100 → Al (lk [(.b k0, .b e0 sz0 rows0), (.u k0, .u), (.b k1, .b e1 sz1 rows1), (.u k1, .u)]) k → Al (lk σ) k := fun k h ⟨e, sz, rows, h1⟩ => by
  have hm := lk_mem h1 (by simp)
  have := Nat.le_of_ble_eq_true hk
  have := Nat.le_of_ble_eq_true hk2
  simp only [List.mem_cons, List.not_mem_nil, or_false] at hm
  rcases hm with hm | hm | hm | hm
  · cases hm; omega
  · cases hm
  · cases hm; omega
  · cases hm

def hbC1 (l0 : Lp) (rest : List Lp) : St := [(.b 100, .b 67 2 ([.own 101 2 l0.1.length, .d (dAs l0.2)] :: dR (rest.map rL))), (.u 100, .u), (.b 101, .b 51 2 (dR (l0.1.map rA))), (.u 101, .u)]
theorem hbC1_HB (l0 : Lp) (rest : List Lp) : HB (hbC1 l0 rest) := HB.cons HB.nil.data (HB.refs1 (fun l h => by simpa [C.refs] using h) (fun l h => by cases h))
def hbC2 (init : List Lp) (l0 : Lp) : St := [(.b 100, .b 67 2 (dR (init.map rL) ++ [[.d (dAs l0.1), .own 101 2 l0.2.length]])), (.u 100, .u), (.b 101, .b 51 2 (dR (l0.2.map rA))), (.u 101, .u)]
theorem hbC2_HB (init : List Lp) (l0 : Lp) : HB (hbC2 init l0) := HB.cons HB.nil.data (HB.refs2 (fun l h => by cases h) (fun l h => by simpa [C.refs] using h))
theorem hbC1_flat (l0 : Lp) (rest : List Lp) : flatS (hbC1 l0 rest) := (flatS.nil.cons rfl).cons rfl
theorem hbC2_flat (init : List Lp) (l0 : Lp) : flatS (hbC2 init l0) := (flatS.nil.cons rfl).cons rfl

set_option maxRecDepth 100000 in
set_option maxHeartbeats 1600000 in
theorem l2Copy_first {l0 : Lp} {rest : List Lp} (hs : smN (l0 :: rest)) (h0 : l0.1 ≠ []) : Fn Try.prog 90 [] [vD (dLs (l0 :: rest))] (.o (.c (.own 100 2 (rest.length + 1)))) (hbC1 l0 rest) := by
  obtain ⟨hs1, hs2⟩ := hs
  simp at hs1
  refine Fn.of_code Try.func90 rfl rfl HB.nil rfl rfl (hbC1_HB _ _) rfl (two_num rfl rfl) ?_
  refine ACode.seq ?_
  refine ACode.region ?_
  refine .cons (.asg rfl rfl) ?_
  refine .nil ?_
  refine ks_n ?_
  refine ACode.seq ?_
  refine ACode.region ?_
  refine .cons (St1.lit0 (k' := 110) (e := 67) (sz := 2) (b := true) rfl rfl rfl rfl (by kernel_rfl) rfl rfl) ?_
  refine .cons (.asg rfl rfl) ?_
  refine .nil ?_
  refine ks_n ?_
  refine ACode.seq ?_
  refine ACode.seq ?_
  refine ACode.region ?_
  refine .cons (.asg rfl rfl) ?_
  refine .nil ?_
  refine ks_n ?_
  refine ACode.block ?_
  refine .loopK (fun m σ => (∃ i : Nat, m = rest.length + 1 - i ∧ (i = 0) ∧ σ = [(.t 0, .v (.o (vD (dLs (l0 :: rest))))), (.t 3, .v (.o (.c (.own 110 2 (0))))), (.t 4, .v (.o (nat1 (i : Nat)))), (.b 110, .b 67 2 (dR (([] : List (List D))))), (.u 110, .u)]) ∨ (∃ j : Nat, m = rest.length - j ∧ (j ≤ rest.length) ∧ σ = [(.t 0, .v (.o (vD (dLs (l0 :: rest))))), (.t 3, .v (.o (.c (.own 110 2 (j + 1))))), (.t 4, .v (.o (nat1 ((j + 1 : Nat))))), (.b 110, .b 67 2 ([.own 111 2 l0.1.length, .d (dAs l0.2)] :: dR ((rest.take j).map rL))), (.u 110, .u), (.b 111, .b 51 2 (dR (l0.1.map rA))), (.u 111, .u)])) [(110, 110)] (.inl ⟨0, rfl, rfl, rfl⟩) ⟨ks rfl .dt, ks rfl (.c .ow), ks rfl .dt, kb 110 rfl (.dt rfl), trivial⟩ ?_
  rintro m σ (⟨i, hm0, rfl, rfl⟩ | ⟨j, hm0, hj, rfl⟩)
  · skip
    refine ACode.seq ?_
    refine ACode.seq ?_
    refine ACode.region ?_
    refine .cons (.mv rfl rfl) ?_
    refine .cons (.mv rfl rfl) ?_
    refine .cons (.ln 67 2 48 rfl rfl rfl) ?_
    refine .cons (.ls rfl rfl rfl) ?_
    refine .nil ?_
    refine ks_n ?_
    refine .cD rfl (fun h14 => ?_) (fun h14 => ?_)
    · skip
      have hn : (l0 :: rest)[0]? = some l0 := rfl
      obtain ⟨hla, hlb, hlc, hld⟩ := hs2 l0 (by first | exact List.mem_of_getElem? hn | simp)
      refine ACode.skip ?_
      refine ks_n ?_
      refine ACode.seq ?_
      refine ACode.block ?_
      refine ACode.seq ?_
      refine ACode.region ?_
      refine .cons (.bu [] [(0, 1), (1, 1)] [.slice none 0 0, .slice none 0 0] rfl rfl rfl rfl rfl) ?_
      refine .cons (.al 105 [.slice none 0 0, .slice none 0 0] rfl rfl rfl) ?_
      refine .cons (.sT 2 true rfl rfl rfl rfl rfl rfl rfl) ?_
      refine .nil ?_
      refine ks_n ?_
      refine ACode.seq ?_
      refine ACode.seq ?_
      refine ACode.region ?_
      refine .cons (.asg rfl rfl) ?_
      refine .nil ?_
      refine ks_n ?_
      refine ACode.block ?_
      refine .loopK (fun m σ => (∃ k : Nat, m = l0.1.length - k ∧ (k = 0) ∧ σ = [(.t 0, .v (.o (vD (dLs (l0 :: rest))))), (.t 3, .v (.o (.c (.own 120 2 (0))))), (.t 4, .v (.o (nat1 ((0 : Nat))))), (.t 5, .v (.o (.c (.box 121 2 0 0)))), (.t 6, .v (.o (nat1 (k : Nat)))), (.b 120, .b 67 2 (dR (([] : List (List D))))), (.u 120, .u), (.b 121, .b 67 2 [[.d (.val (.slice none 0 0)), .d (.val (.slice none 0 0))]]), (.u 121, .u)]) ∨ (∃ k : Nat, m = l0.1.length - k ∧ (1 ≤ k) ∧ (k ≤ l0.1.length) ∧ σ = [(.t 0, .v (.o (vD (dLs (l0 :: rest))))), (.t 3, .v (.o (.c (.own 120 2 (0))))), (.t 4, .v (.o (nat1 ((0 : Nat))))), (.t 5, .v (.o (.c (.box 121 2 0 0)))), (.t 6, .v (.o (nat1 (k : Nat)))), (.b 120, .b 67 2 (dR (([] : List (List D))))), (.u 120, .u), (.b 122, .b 51 2 (dR ((l0.1.take k).map rA))), (.u 122, .u), (.b 121, .b 67 2 [[.own 122 2 (k), .d (.val (.slice none 0 0))]]), (.u 121, .u)])) [(120, 110), (121, 105)] (.inl ⟨0, rfl, rfl, rfl⟩) ⟨ks rfl .dt, ks rfl (.c .ow), ks rfl .dt, ks rfl (.c .bx), ks rfl .dt, kb 110 rfl (.dt rfl), kb 105 rfl (.cons (.cons .dt (.cons .dt Ctos.nil)) .nil), trivial⟩ ?_
      rintro m σ (⟨k, hm0, rfl, rfl⟩ | ⟨k, hm0, hk1, hk2, rfl⟩)
      · skip
        refine ACode.seq ?_
        refine ACode.seq ?_
        refine ACode.region ?_
        refine .cons (.mv rfl rfl) ?_
        refine .cons (.mv rfl rfl) ?_
        refine .cons (.mv rfl rfl) ?_
        refine .cons (.xL 67 2 48 rfl rfl rfl rfl rfl) ?_
        refine .cons (.fP 0 0 false rfl rfl) ?_
        refine .cons (.l1 1 rfl rfl) ?_
        refine .cons (.ln 51 2 32 rfl rfl rfl) ?_
        refine .cons (.ls rfl rfl rfl) ?_
        refine .nil ?_
        refine ks_n ?_
        refine .cD rfl (fun h25 => ?_) (fun h25 => ?_)
        · skip
          obtain ⟨x, hx, hxs⟩ := at_sm hlc (show 0 < l0.1.length by omega)
          refine ACode.skip ?_
          refine ks_n ?_
          refine ACode.seq ?_
          refine ACode.block ?_
          refine ACode.seq ?_
          refine ACode.region ?_
          refine .cons (.mv rfl rfl) ?_
          refine .cons (.mv rfl rfl) ?_
          refine .cons (.xL 67 2 48 rfl rfl rfl rfl rfl) ?_
          refine .cons (.fP 0 0 false rfl rfl) ?_
          refine .cons (.l1 1 rfl rfl) ?_
          refine .cons (.mv rfl rfl) ?_
          refine .cons (.xL 51 2 32 rfl rfl rfl rfl rfl) ?_
          refine .cons (.lN 2 rfl rfl rfl) ?_
          refine .cons (.al 107 [.slice none 0 0, .int .i64 0] rfl rfl rfl) ?_
          refine .cons (.sT 2 true rfl rfl rfl rfl rfl rfl rfl) ?_
          refine .nil ?_
          refine ks_n ?_
          refine ACode.drawK (by kernel_rfl) (by kernel_rfl) ?_
          refine .cons (.fB 0 0 false rfl rfl rfl) ?_
          refine .cons (.b1 1 rfl rfl rfl rfl rfl rfl) ?_
          refine .cons (St1.lit0 (k' := 138) (e := 3) (sz := 1) (b := true) rfl rfl rfl rfl (by kernel_rfl) rfl rfl) ?_
          refine .cons (.fB 0 0 false rfl rfl rfl) ?_
          refine .cons (.b1 1 rfl rfl rfl rfl rfl rfl) ?_
          refine .cons (St1.appD (rows := []) (e := 3) (sz := 0) (by' := 8) rfl rfl rfl rfl rfl (by kernel_rfl) rfl rfl rfl rfl rfl (by simp; omega) rfl) ?_
          refine .cons (.fB 1 0 false rfl rfl rfl) ?_
          refine .cons (.b1 1 rfl rfl rfl rfl rfl rfl) ?_
          refine .cons (.bu [(0, .tmp 41), (1, .tmp 43)] [(0, 1), (1, 1)] [.slice none 0 0, .int .i64 0] rfl rfl rfl rfl rfl) ?_
          refine .cons (.li 51 1 0 [.tmp 44] rfl rfl rfl rfl rfl rfl) ?_
          refine .cons (St1.appN (k' := 146) (e := 51) (sz := 1) (by' := 32) rfl rfl rfl rfl rfl (by kernel_rfl) rfl rfl rfl (by simp) (by first | (simp [dR]; done) | (simp [dR]; omega)) rfl rfl) ?_
          refine .cons (.fB 0 0 false rfl rfl rfl) ?_
          refine .cons (.sT 1 false rfl rfl rfl rfl rfl rfl rfl) ?_
          refine .nil ⟨by kernel_rfl, ?_⟩
          refine kb_n ?_
          refine ks_n ?_
          refine ACode.region ?_
          refine .cons (.mv rfl rfl) ?_
          refine .cons (.pl rfl rfl rfl) ?_
          refine .cons (.asg rfl rfl) ?_
          refine .nil ?_
          refine kl_k [(120, 120), (121, 121), (122, 146)] (.inr ⟨1, rfl, by omega, by omega, rfl⟩) ⟨ks rfl .dt, ks rfl (.c .ow), ks rfl .dt, ks rfl (.c .bx), ks rfl .dt, kb 120 rfl (.dt rfl), kb 146 rfl (.dt rfl (by first | exact dR_take rA hx | exact dR_take1 rA hx | rfl | (rw [List.take_length]; done) | (simp [dR]; done))), kb 121 rfl (.cons (.cons .ow (.cons .dt Ctos.nil)) .nil), trivial⟩
        · skip
          exact absurd (List.eq_nil_of_length_eq_zero (by omega)) h0
      · skip
        refine ACode.seq ?_
        refine ACode.seq ?_
        refine ACode.region ?_
        refine .cons (.mv rfl rfl) ?_
        refine .cons (.mv rfl rfl) ?_
        refine .cons (.mv rfl rfl) ?_
        refine .cons (.xL 67 2 48 rfl rfl rfl rfl rfl) ?_
        refine .cons (.fP 0 0 false rfl rfl) ?_
        refine .cons (.l1 1 rfl rfl) ?_
        refine .cons (.ln 51 2 32 rfl rfl rfl) ?_
        refine .cons (.ls rfl rfl rfl) ?_
        refine .nil ?_
        refine ks_n ?_
        refine .cD rfl (fun h25 => ?_) (fun h25 => ?_)
        · skip
          obtain ⟨x, hx, hxs⟩ := at_sm hlc (show k < l0.1.length by omega)
          refine ACode.skip ?_
          refine ks_n ?_
          refine ACode.seq ?_
          refine ACode.block ?_
          refine ACode.seq ?_
          refine ACode.region ?_
          refine .cons (.mv rfl rfl) ?_
          refine .cons (.mv rfl rfl) ?_
          refine .cons (.xL 67 2 48 rfl rfl rfl rfl rfl) ?_
          refine .cons (.fP 0 0 false rfl rfl) ?_
          refine .cons (.l1 1 rfl rfl) ?_
          refine .cons (.mv rfl rfl) ?_
          refine .cons (.xL 51 2 32 rfl rfl rfl rfl rfl) ?_
          refine .cons (.lN 2 rfl rfl rfl) ?_
          refine .cons (.al 107 [.slice none 0 0, .int .i64 0] rfl rfl rfl) ?_
          refine .cons (.sT 2 true rfl rfl rfl rfl rfl rfl rfl) ?_
          refine .nil ?_
          refine ks_n ?_
          refine ACode.drawK (by kernel_rfl) (by kernel_rfl) ?_
          refine .cons (.fB 0 0 false rfl rfl rfl) ?_
          refine .cons (.b1 1 rfl rfl rfl rfl rfl rfl) ?_
          refine .cons (St1.lit0 (k' := 138) (e := 3) (sz := 1) (b := true) rfl rfl rfl rfl (by kernel_rfl) rfl rfl) ?_
          refine .cons (.fB 0 0 false rfl rfl rfl) ?_
          refine .cons (.b1 1 rfl rfl rfl rfl rfl rfl) ?_
          refine .cons (St1.appD (rows := []) (e := 3) (sz := 0) (by' := 8) rfl rfl rfl rfl rfl (by kernel_rfl) rfl rfl rfl rfl rfl (by simp; omega) rfl) ?_
          refine .cons (.fB 1 0 false rfl rfl rfl) ?_
          refine .cons (.b1 1 rfl rfl rfl rfl rfl rfl) ?_
          refine .cons (.bu [(0, .tmp 41), (1, .tmp 43)] [(0, 1), (1, 1)] [.slice none 0 0, .int .i64 0] rfl rfl rfl rfl rfl) ?_
          refine .cons (.li 51 1 0 [.tmp 44] rfl rfl rfl rfl rfl rfl) ?_
          refine .cons (St1.appB (k' := 146) (e := 51) (sz := 1) (by' := 32) rfl rfl rfl rfl rfl (by kernel_rfl) rfl rfl rfl rfl (by first | (simp [dR]; done) | (simp [dR]; omega)) (by first | (simp [dR]; done) | (simp [dR]; omega)) rfl rfl rfl) ?_
          refine .cons (.fB 0 0 false rfl rfl rfl) ?_
          refine .cons (.sT 1 false rfl rfl rfl rfl rfl rfl rfl) ?_
          refine .nil ⟨by kernel_rfl, ?_⟩
          refine kb_n ?_
          refine ks_n ?_
          refine ACode.region ?_
          refine .cons (.mv rfl rfl) ?_
          refine .cons (.pl rfl rfl rfl) ?_
          refine .cons (.asg rfl rfl) ?_
          refine .nil ?_
          refine kl_k [(120, 120), (121, 121), (122, 146)] (.inr ⟨k + 1, rfl, by omega, by omega, rfl⟩) ⟨ks rfl .dt, ks rfl (.c .ow), ks rfl .dt, ks rfl (.c .bx), ks rfl .dt, kb 120 rfl (.dt rfl), kb 146 rfl (.dt rfl (by first | exact dR_take rA hx | exact dR_take1 rA hx | rfl | (rw [List.take_length]; done) | (simp [dR]; done))), kb 121 rfl (.cons (.cons .ow (.cons .dt Ctos.nil)) .nil), trivial⟩
        · skip
          obtain rfl : k = l0.1.length := by omega
          refine ACode.exit ?_
          refine ks_e ?_
          refine kl_e ?_
          refine kb_hit ?_
          refine ks_n ?_
          refine ACode.seq ?_
          refine ACode.seq ?_
          refine ACode.region ?_
          refine .cons (.asg rfl rfl) ?_
          refine .nil ?_
          refine ks_n ?_
          refine ACode.block ?_
          refine .loopK (fun m σ => (∃ q : Nat, m = l0.2.length - q ∧ (q = 0) ∧ σ = [(.t 0, .v (.o (vD (dLs (l0 :: rest))))), (.t 3, .v (.o (.c (.own 130 2 (0))))), (.t 4, .v (.o (nat1 ((0 : Nat))))), (.t 5, .v (.o (.c (.box 131 2 0 0)))), (.t 8, .v (.o (nat1 (q : Nat)))), (.b 130, .b 67 2 (dR (([] : List (List D))))), (.u 130, .u), (.b 132, .b 51 2 (dR (l0.1.map rA))), (.u 132, .u), (.b 131, .b 67 2 [[.own 132 2 (l0.1.length), .d (.val (.slice none 0 0))]]), (.u 131, .u)]) ∨ (∃ q : Nat, m = l0.2.length - q ∧ (1 ≤ q) ∧ (q ≤ l0.2.length) ∧ σ = [(.t 0, .v (.o (vD (dLs (l0 :: rest))))), (.t 3, .v (.o (.c (.own 130 2 (0))))), (.t 4, .v (.o (nat1 ((0 : Nat))))), (.t 5, .v (.o (.c (.box 131 2 0 0)))), (.t 8, .v (.o (nat1 (q : Nat)))), (.b 130, .b 67 2 (dR (([] : List (List D))))), (.u 130, .u), (.b 132, .b 51 2 (dR (l0.1.map rA))), (.u 132, .u), (.b 133, .b 51 2 (dR ((l0.2.take q).map rA))), (.u 133, .u), (.b 131, .b 67 2 [[.own 132 2 (l0.1.length), .own 133 2 (q)]]), (.u 131, .u)])) [(130, 120), (131, 121), (132, 122)] (.inl ⟨0, rfl, rfl, rfl⟩) ⟨ks rfl .dt, ks rfl (.c .ow), ks rfl .dt, ks rfl (.c .bx), ks rfl .dt, kb 120 rfl (.dt rfl), kb 122 rfl (.dt rfl (by first | exact dR_take rA hx | exact dR_take1 rA hx | rfl | (rw [List.take_length]; done) | (simp [dR]; done))), kb 121 rfl (.cons (.cons .ow (.cons .dt Ctos.nil)) .nil), trivial⟩ ?_
          rintro m σ (⟨q, hm0, rfl, rfl⟩ | ⟨q, hm0, hq1, hq2, rfl⟩)
          · skip
            refine ACode.seq ?_
            refine ACode.seq ?_
            refine ACode.region ?_
            refine .cons (.mv rfl rfl) ?_
            refine .cons (.mv rfl rfl) ?_
            refine .cons (.mv rfl rfl) ?_
            refine .cons (.xL 67 2 48 rfl rfl rfl rfl rfl) ?_
            refine .cons (.fP 1 0 false rfl rfl) ?_
            refine .cons (.l1 1 rfl rfl) ?_
            refine .cons (.ln 51 2 32 rfl rfl rfl) ?_
            refine .cons (.ls rfl rfl rfl) ?_
            refine .nil ?_
            refine ks_n ?_
            refine .cD rfl (fun h55 => ?_) (fun h55 => ?_)
            · skip
              obtain ⟨x, hx, hxs⟩ := at_sm hld (show 0 < l0.2.length by omega)
              refine ACode.skip ?_
              refine ks_n ?_
              refine ACode.seq ?_
              refine ACode.block ?_
              refine ACode.seq ?_
              refine ACode.region ?_
              refine .cons (.mv rfl rfl) ?_
              refine .cons (.mv rfl rfl) ?_
              refine .cons (.xL 67 2 48 rfl rfl rfl rfl rfl) ?_
              refine .cons (.fP 1 0 false rfl rfl) ?_
              refine .cons (.l1 1 rfl rfl) ?_
              refine .cons (.mv rfl rfl) ?_
              refine .cons (.xL 51 2 32 rfl rfl rfl rfl rfl) ?_
              refine .cons (.lN 2 rfl rfl rfl) ?_
              refine .cons (.al 109 [.slice none 0 0, .int .i64 0] rfl rfl rfl) ?_
              refine .cons (.sT 2 true rfl rfl rfl rfl rfl rfl rfl) ?_
              refine .nil ?_
              refine ks_n ?_
              refine ACode.drawK (by kernel_rfl) (by kernel_rfl) ?_
              refine .cons (.fB 1 0 false rfl rfl rfl) ?_
              refine .cons (.b1 1 rfl rfl rfl rfl rfl rfl) ?_
              refine .cons (St1.lit0 (k' := 168) (e := 3) (sz := 1) (b := true) rfl rfl rfl rfl (by kernel_rfl) rfl rfl) ?_
              refine .cons (.fB 0 0 false rfl rfl rfl) ?_
              refine .cons (.b1 1 rfl rfl rfl rfl rfl rfl) ?_
              refine .cons (St1.appD (rows := []) (e := 3) (sz := 0) (by' := 8) rfl rfl rfl rfl rfl (by kernel_rfl) rfl rfl rfl rfl rfl (by simp; omega) rfl) ?_
              refine .cons (.fB 1 0 false rfl rfl rfl) ?_
              refine .cons (.b1 1 rfl rfl rfl rfl rfl rfl) ?_
              refine .cons (.bu [(0, .tmp 71), (1, .tmp 73)] [(0, 1), (1, 1)] [.slice none 0 0, .int .i64 0] rfl rfl rfl rfl rfl) ?_
              refine .cons (.li 51 1 0 [.tmp 74] rfl rfl rfl rfl rfl rfl) ?_
              refine .cons (St1.appN (k' := 176) (e := 51) (sz := 1) (by' := 32) rfl rfl rfl rfl rfl (by kernel_rfl) rfl rfl rfl (by simp) (by first | (simp [dR]; done) | (simp [dR]; omega)) rfl rfl) ?_
              refine .cons (.fB 1 0 false rfl rfl rfl) ?_
              refine .cons (.sT 1 false rfl rfl rfl rfl rfl rfl rfl) ?_
              refine .nil ⟨by kernel_rfl, ?_⟩
              refine kb_n ?_
              refine ks_n ?_
              refine ACode.region ?_
              refine .cons (.mv rfl rfl) ?_
              refine .cons (.pl rfl rfl rfl) ?_
              refine .cons (.asg rfl rfl) ?_
              refine .nil ?_
              refine kl_k [(130, 130), (131, 131), (132, 132), (133, 176)] (.inr ⟨1, rfl, by omega, by omega, rfl⟩) ⟨ks rfl .dt, ks rfl (.c .ow), ks rfl .dt, ks rfl (.c .bx), ks rfl .dt, kb 130 rfl (.dt rfl), kb 132 rfl (.dt rfl (by first | exact dR_take rA hx | exact dR_take1 rA hx | rfl | (rw [List.take_length]; done) | (simp [dR]; done))), kb 176 rfl (.dt rfl (by first | exact dR_take rA hx | exact dR_take1 rA hx | rfl | (rw [List.take_length]; done) | (simp [dR]; done))), kb 131 rfl (.cons (.cons .ow (.cons .ow Ctos.nil)) .nil), trivial⟩
            · skip
              have hn2 : l0.2 = [] := List.eq_nil_of_length_eq_zero (by omega)
              refine ACode.exit ?_
              refine ks_e ?_
              refine kl_e ?_
              refine kb_hit ?_
              refine ks_n ?_
              refine .keep [(.t 0, .v (.o (vD (dLs (l0 :: rest))))), (.t 3, .v (.o (.c (.own 860 2 (0))))), (.t 4, .v (.o (nat1 ((0 : Nat))))), (.t 5, .v (.o (.c (.box 861 2 0 0)))), (.b 860, .b 67 2 (dR (([] : List (List D))))), (.u 860, .u), (.b 862, .b 51 2 (dR (l0.1.map rA))), (.u 862, .u), (.b 861, .b 67 2 [[.own 862 2 (l0.1.length), .d (dAs l0.2)]]), (.u 861, .u)] [(860, 130), (861, 131), (862, 132)] ⟨ks rfl .dt, ks rfl (.c .ow), ks rfl .dt, ks rfl (.c .bx), kb 130 rfl (.dt rfl), kb 132 rfl (.dt rfl (by first | exact dR_take rA hx | exact dR_take1 rA hx | rfl | (rw [List.take_length]; done) | (simp [dR]; done))), kb 131 rfl (.cons (.cons .ow (.cons (Cto.nilE 2 (by rw [hn2]; rfl)) Ctos.nil)) .nil), trivial⟩ ?_
              refine ACode.region ?_
              refine .cons (.mv rfl rfl) ?_
              refine .cons (.bN 2 rfl rfl rfl rfl rfl rfl) ?_
              refine .cons (St1.litB (k' := 180) (e := 67) (sz := 1) (m := 0) (xs := [.tmp 79]) rfl rfl rfl rfl rfl (by kernel_rfl) rfl rfl rfl rfl rfl) ?_
              refine .cons (St1.appBB (k' := 181) (e := 67) (sz := 1) (by' := 48) rfl rfl rfl rfl rfl (by kernel_rfl) rfl rfl rfl rfl rfl (by first | (simp [dR]; done) | (simp [dR]; omega)) rfl (by first | (simp [dR]; done) | (simp [dR]; omega)) rfl rfl rfl) ?_
              refine .cons (.asg rfl rfl) ?_
              refine .nil ?_
              refine kb_n ?_
              refine ks_n ?_
              refine ACode.region ?_
              refine .cons (.mv rfl rfl) ?_
              refine .cons (.pl rfl rfl rfl) ?_
              refine .cons (.asg rfl rfl) ?_
              refine .nil ?_
              refine kl_k [(110, 181), (111, 862)] (.inr ⟨0, rfl, by omega, rfl⟩) ⟨ks rfl .dt, ks rfl (.c .ow), ks rfl .dt, kb 181 rfl ((by first | exact .cons (.cons (.own _ _ _ _ _ (by first | decide | simp) (by first | rfl | omega)) (.cons (.d _ _ rfl) .nil)) (.dat _ _ [] rfl rfl) | exact .cons (.cons (.own _ _ _ _ _ (by first | decide | simp) (by first | rfl | omega)) (.cons (.d _ _ rfl) .nil)) (.dat _ _ _ (dR_take rL hl) rfl) | exact .cons (.cons (.own _ _ _ _ _ (by first | decide | simp) (by first | rfl | omega)) (.cons (.d _ _ rfl) .nil)) (.dat _ _ _ rfl rfl) | exact .cons (.cons (.own _ _ _ _ _ (by first | decide | simp) (by first | rfl | omega)) (.cons (.d _ _ rfl) .nil)) (.dat _ _ _ (by rw [List.take_length]) rfl))), kb 862 rfl (.dt rfl (by first | exact dR_take rA hx | exact dR_take1 rA hx | rfl | (rw [List.take_length]; done) | (simp [dR]; done))), trivial⟩
          · skip
            refine ACode.seq ?_
            refine ACode.seq ?_
            refine ACode.region ?_
            refine .cons (.mv rfl rfl) ?_
            refine .cons (.mv rfl rfl) ?_
            refine .cons (.mv rfl rfl) ?_
            refine .cons (.xL 67 2 48 rfl rfl rfl rfl rfl) ?_
            refine .cons (.fP 1 0 false rfl rfl) ?_
            refine .cons (.l1 1 rfl rfl) ?_
            refine .cons (.ln 51 2 32 rfl rfl rfl) ?_
            refine .cons (.ls rfl rfl rfl) ?_
            refine .nil ?_
            refine ks_n ?_
            refine .cD rfl (fun h55 => ?_) (fun h55 => ?_)
            · skip
              obtain ⟨x, hx, hxs⟩ := at_sm hld (show q < l0.2.length by omega)
              refine ACode.skip ?_
              refine ks_n ?_
              refine ACode.seq ?_
              refine ACode.block ?_
              refine ACode.seq ?_
              refine ACode.region ?_
              refine .cons (.mv rfl rfl) ?_
              refine .cons (.mv rfl rfl) ?_
              refine .cons (.xL 67 2 48 rfl rfl rfl rfl rfl) ?_
              refine .cons (.fP 1 0 false rfl rfl) ?_
              refine .cons (.l1 1 rfl rfl) ?_
              refine .cons (.mv rfl rfl) ?_
              refine .cons (.xL 51 2 32 rfl rfl rfl rfl rfl) ?_
              refine .cons (.lN 2 rfl rfl rfl) ?_
              refine .cons (.al 109 [.slice none 0 0, .int .i64 0] rfl rfl rfl) ?_
              refine .cons (.sT 2 true rfl rfl rfl rfl rfl rfl rfl) ?_
              refine .nil ?_
              refine ks_n ?_
              refine ACode.drawK (by kernel_rfl) (by kernel_rfl) ?_
              refine .cons (.fB 1 0 false rfl rfl rfl) ?_
              refine .cons (.b1 1 rfl rfl rfl rfl rfl rfl) ?_
              refine .cons (St1.lit0 (k' := 168) (e := 3) (sz := 1) (b := true) rfl rfl rfl rfl (by kernel_rfl) rfl rfl) ?_
              refine .cons (.fB 0 0 false rfl rfl rfl) ?_
              refine .cons (.b1 1 rfl rfl rfl rfl rfl rfl) ?_
              refine .cons (St1.appD (rows := []) (e := 3) (sz := 0) (by' := 8) rfl rfl rfl rfl rfl (by kernel_rfl) rfl rfl rfl rfl rfl (by simp; omega) rfl) ?_
              refine .cons (.fB 1 0 false rfl rfl rfl) ?_
              refine .cons (.b1 1 rfl rfl rfl rfl rfl rfl) ?_
              refine .cons (.bu [(0, .tmp 71), (1, .tmp 73)] [(0, 1), (1, 1)] [.slice none 0 0, .int .i64 0] rfl rfl rfl rfl rfl) ?_
              refine .cons (.li 51 1 0 [.tmp 74] rfl rfl rfl rfl rfl rfl) ?_
              refine .cons (St1.appB (k' := 176) (e := 51) (sz := 1) (by' := 32) rfl rfl rfl rfl rfl (by kernel_rfl) rfl rfl rfl rfl (by first | (simp [dR]; done) | (simp [dR]; omega)) (by first | (simp [dR]; done) | (simp [dR]; omega)) rfl rfl rfl) ?_
              refine .cons (.fB 1 0 false rfl rfl rfl) ?_
              refine .cons (.sT 1 false rfl rfl rfl rfl rfl rfl rfl) ?_
              refine .nil ⟨by kernel_rfl, ?_⟩
              refine kb_n ?_
              refine ks_n ?_
              refine ACode.region ?_
              refine .cons (.mv rfl rfl) ?_
              refine .cons (.pl rfl rfl rfl) ?_
              refine .cons (.asg rfl rfl) ?_
              refine .nil ?_
              refine kl_k [(130, 130), (131, 131), (132, 132), (133, 176)] (.inr ⟨q + 1, rfl, by omega, by omega, rfl⟩) ⟨ks rfl .dt, ks rfl (.c .ow), ks rfl .dt, ks rfl (.c .bx), ks rfl .dt, kb 130 rfl (.dt rfl), kb 132 rfl (.dt rfl (by first | exact dR_take rA hx | exact dR_take1 rA hx | rfl | (rw [List.take_length]; done) | (simp [dR]; done))), kb 176 rfl (.dt rfl (by first | exact dR_take rA hx | exact dR_take1 rA hx | rfl | (rw [List.take_length]; done) | (simp [dR]; done))), kb 131 rfl (.cons (.cons .ow (.cons .ow Ctos.nil)) .nil), trivial⟩
            · skip
              obtain rfl : q = l0.2.length := by omega
              refine ACode.exit ?_
              refine ks_e ?_
              refine kl_e ?_
              refine kb_hit ?_
              refine ks_n ?_
              refine .keep [(.t 0, .v (.o (vD (dLs (l0 :: rest))))), (.t 3, .v (.o (.c (.own 860 2 (0))))), (.t 4, .v (.o (nat1 ((0 : Nat))))), (.t 5, .v (.o (.c (.box 861 2 0 0)))), (.b 860, .b 67 2 (dR (([] : List (List D))))), (.u 860, .u), (.b 862, .b 51 2 (dR (l0.1.map rA))), (.u 862, .u), (.b 861, .b 67 2 [[.own 862 2 (l0.1.length), .d (dAs l0.2)]]), (.u 861, .u)] [(860, 130), (861, 131), (862, 132)] ⟨ks rfl .dt, ks rfl (.c .ow), ks rfl .dt, ks rfl (.c .bx), kb 130 rfl (.dt rfl), kb 132 rfl (.dt rfl (by first | exact dR_take rA hx | exact dR_take1 rA hx | rfl | (rw [List.take_length]; done) | (simp [dR]; done))), kb 131 rfl (.cons (.cons .ow (.cons (.fz rfl (by first | rfl | (rw [List.take_length]; done)) (by first | rfl | (simp; done) | (simp; omega)) (by omega)) Ctos.nil)) .nil), trivial⟩ ?_
              refine ACode.region ?_
              refine .cons (.mv rfl rfl) ?_
              refine .cons (.bN 2 rfl rfl rfl rfl rfl rfl) ?_
              refine .cons (St1.litB (k' := 180) (e := 67) (sz := 1) (m := 0) (xs := [.tmp 79]) rfl rfl rfl rfl rfl (by kernel_rfl) rfl rfl rfl rfl rfl) ?_
              refine .cons (St1.appBB (k' := 181) (e := 67) (sz := 1) (by' := 48) rfl rfl rfl rfl rfl (by kernel_rfl) rfl rfl rfl rfl rfl (by first | (simp [dR]; done) | (simp [dR]; omega)) rfl (by first | (simp [dR]; done) | (simp [dR]; omega)) rfl rfl rfl) ?_
              refine .cons (.asg rfl rfl) ?_
              refine .nil ?_
              refine kb_n ?_
              refine ks_n ?_
              refine ACode.region ?_
              refine .cons (.mv rfl rfl) ?_
              refine .cons (.pl rfl rfl rfl) ?_
              refine .cons (.asg rfl rfl) ?_
              refine .nil ?_
              refine kl_k [(110, 181), (111, 862)] (.inr ⟨0, rfl, by omega, rfl⟩) ⟨ks rfl .dt, ks rfl (.c .ow), ks rfl .dt, kb 181 rfl ((by first | exact .cons (.cons (.own _ _ _ _ _ (by first | decide | simp) (by first | rfl | omega)) (.cons (.d _ _ rfl) .nil)) (.dat _ _ [] rfl rfl) | exact .cons (.cons (.own _ _ _ _ _ (by first | decide | simp) (by first | rfl | omega)) (.cons (.d _ _ rfl) .nil)) (.dat _ _ _ (dR_take rL hl) rfl) | exact .cons (.cons (.own _ _ _ _ _ (by first | decide | simp) (by first | rfl | omega)) (.cons (.d _ _ rfl) .nil)) (.dat _ _ _ rfl rfl) | exact .cons (.cons (.own _ _ _ _ _ (by first | decide | simp) (by first | rfl | omega)) (.cons (.d _ _ rfl) .nil)) (.dat _ _ _ (by rw [List.take_length]) rfl))), kb 862 rfl (.dt rfl (by first | exact dR_take rA hx | exact dR_take1 rA hx | rfl | (rw [List.take_length]; done) | (simp [dR]; done))), trivial⟩
    · skip
      simp at h14
  · skip
    refine ACode.seq ?_
    refine ACode.seq ?_
    refine ACode.region ?_
    refine .cons (.mv rfl rfl) ?_
    refine .cons (.mv rfl rfl) ?_
    refine .cons (.ln 67 2 48 rfl rfl rfl) ?_
    refine .cons (.ls rfl rfl rfl) ?_
    refine .nil ?_
    refine ks_n ?_
    refine .cD rfl (fun h14 => ?_) (fun h14 => ?_)
    · skip
      simp only [List.length_cons] at h14
      obtain ⟨l, hl⟩ : ∃ l, rest[j]? = some l := ⟨_, List.getElem?_eq_getElem (by omega)⟩
      have hn : (l0 :: rest)[j + 1]? = some l := hl
      obtain ⟨hla, hlb, hlc, hld⟩ := hs2 l (by first | exact List.mem_of_getElem? hn | simp)
      refine ACode.skip ?_
      refine ks_n ?_
      refine ACode.seq ?_
      refine ACode.block ?_
      refine ACode.seq ?_
      refine ACode.region ?_
      refine .cons (.bu [] [(0, 1), (1, 1)] [.slice none 0 0, .slice none 0 0] rfl rfl rfl rfl rfl) ?_
      refine .cons (.al 105 [.slice none 0 0, .slice none 0 0] rfl rfl rfl) ?_
      refine .cons (.sT 2 true rfl rfl rfl rfl rfl rfl rfl) ?_
      refine .nil ?_
      refine ks_n ?_
      refine ACode.seq ?_
      refine ACode.seq ?_
      refine ACode.region ?_
      refine .cons (.asg rfl rfl) ?_
      refine .nil ?_
      refine ks_n ?_
      refine ACode.block ?_
      refine .loopK (fun m σ => (∃ k : Nat, m = l.1.length - k ∧ (k = 0) ∧ σ = [(.t 0, .v (.o (vD (dLs (l0 :: rest))))), (.t 3, .v (.o (.c (.own 120 2 (j + 1))))), (.t 4, .v (.o (nat1 ((j + 1 : Nat))))), (.t 5, .v (.o (.c (.box 122 2 0 0)))), (.t 6, .v (.o (nat1 (k : Nat)))), (.b 120, .b 67 2 ([.own 121 2 l0.1.length, .d (dAs l0.2)] :: dR ((rest.take j).map rL))), (.u 120, .u), (.b 121, .b 51 2 (dR (l0.1.map rA))), (.u 121, .u), (.b 122, .b 67 2 [[.d (.val (.slice none 0 0)), .d (.val (.slice none 0 0))]]), (.u 122, .u)]) ∨ (∃ k : Nat, m = l.1.length - k ∧ (1 ≤ k) ∧ (k ≤ l.1.length) ∧ σ = [(.t 0, .v (.o (vD (dLs (l0 :: rest))))), (.t 3, .v (.o (.c (.own 120 2 (j + 1))))), (.t 4, .v (.o (nat1 ((j + 1 : Nat))))), (.t 5, .v (.o (.c (.box 122 2 0 0)))), (.t 6, .v (.o (nat1 (k : Nat)))), (.b 120, .b 67 2 ([.own 121 2 l0.1.length, .d (dAs l0.2)] :: dR ((rest.take j).map rL))), (.u 120, .u), (.b 121, .b 51 2 (dR (l0.1.map rA))), (.u 121, .u), (.b 123, .b 51 2 (dR ((l.1.take k).map rA))), (.u 123, .u), (.b 122, .b 67 2 [[.own 123 2 (k), .d (.val (.slice none 0 0))]]), (.u 122, .u)])) [(120, 110), (121, 111), (122, 105)] (.inl ⟨0, rfl, rfl, rfl⟩) ⟨ks rfl .dt, ks rfl (.c .ow), ks rfl .dt, ks rfl (.c .bx), ks rfl .dt, kb 110 rfl ((by first | exact .cons (.cons (.own _ _ _ _ _ (by first | decide | simp) (by first | rfl | omega)) (.cons (.d _ _ rfl) .nil)) (.dat _ _ [] rfl rfl) | exact .cons (.cons (.own _ _ _ _ _ (by first | decide | simp) (by first | rfl | omega)) (.cons (.d _ _ rfl) .nil)) (.dat _ _ _ (dR_take rL hl) rfl) | exact .cons (.cons (.own _ _ _ _ _ (by first | decide | simp) (by first | rfl | omega)) (.cons (.d _ _ rfl) .nil)) (.dat _ _ _ rfl rfl) | exact .cons (.cons (.own _ _ _ _ _ (by first | decide | simp) (by first | rfl | omega)) (.cons (.d _ _ rfl) .nil)) (.dat _ _ _ (by rw [List.take_length]) rfl))), kb 111 rfl (.dt rfl (by first | exact dR_take rA hx | exact dR_take1 rA hx | rfl | (rw [List.take_length]; done) | (simp [dR]; done))), kb 105 rfl (.cons (.cons .dt (.cons .dt Ctos.nil)) .nil), trivial⟩ ?_
      rintro m σ (⟨k, hm0, rfl, rfl⟩ | ⟨k, hm0, hk1, hk2, rfl⟩)
      · skip
        refine ACode.seq ?_
        refine ACode.seq ?_
        refine ACode.region ?_
        refine .cons (.mv rfl rfl) ?_
        refine .cons (.mv rfl rfl) ?_
        refine .cons (.mv rfl rfl) ?_
        refine .cons (.xL 67 2 48 rfl rfl rfl rfl rfl) ?_
        refine .cons (.fP 0 0 false rfl rfl) ?_
        refine .cons (.l1 1 rfl rfl) ?_
        refine .cons (.ln 51 2 32 rfl rfl rfl) ?_
        refine .cons (.ls rfl rfl rfl) ?_
        refine .nil ?_
        refine ks_n ?_
        refine .cD rfl (fun h25 => ?_) (fun h25 => ?_)
        · skip
          obtain ⟨x, hx, hxs⟩ := at_sm hlc (show 0 < l.1.length by omega)
          refine ACode.skip ?_
          refine ks_n ?_
          refine ACode.seq ?_
          refine ACode.block ?_
          refine ACode.seq ?_
          refine ACode.region ?_
          refine .cons (.mv rfl rfl) ?_
          refine .cons (.mv rfl rfl) ?_
          refine .cons (.xL 67 2 48 rfl rfl rfl rfl rfl) ?_
          refine .cons (.fP 0 0 false rfl rfl) ?_
          refine .cons (.l1 1 rfl rfl) ?_
          refine .cons (.mv rfl rfl) ?_
          refine .cons (.xL 51 2 32 rfl rfl rfl rfl rfl) ?_
          refine .cons (.lN 2 rfl rfl rfl) ?_
          refine .cons (.al 107 [.slice none 0 0, .int .i64 0] rfl rfl rfl) ?_
          refine .cons (.sT 2 true rfl rfl rfl rfl rfl rfl rfl) ?_
          refine .nil ?_
          refine ks_n ?_
          refine ACode.drawK (by kernel_rfl) (by kernel_rfl) ?_
          refine .cons (.fB 0 0 false rfl rfl rfl) ?_
          refine .cons (.b1 1 rfl rfl rfl rfl rfl rfl) ?_
          refine .cons (St1.lit0 (k' := 138) (e := 3) (sz := 1) (b := true) rfl rfl rfl rfl (by kernel_rfl) rfl rfl) ?_
          refine .cons (.fB 0 0 false rfl rfl rfl) ?_
          refine .cons (.b1 1 rfl rfl rfl rfl rfl rfl) ?_
          refine .cons (St1.appD (rows := []) (e := 3) (sz := 0) (by' := 8) rfl rfl rfl rfl rfl (by kernel_rfl) rfl rfl rfl rfl rfl (by simp; omega) rfl) ?_
          refine .cons (.fB 1 0 false rfl rfl rfl) ?_
          refine .cons (.b1 1 rfl rfl rfl rfl rfl rfl) ?_
          refine .cons (.bu [(0, .tmp 41), (1, .tmp 43)] [(0, 1), (1, 1)] [.slice none 0 0, .int .i64 0] rfl rfl rfl rfl rfl) ?_
          refine .cons (.li 51 1 0 [.tmp 44] rfl rfl rfl rfl rfl rfl) ?_
          refine .cons (St1.appN (k' := 146) (e := 51) (sz := 1) (by' := 32) rfl rfl rfl rfl rfl (by kernel_rfl) rfl rfl rfl (by simp) (by first | (simp [dR]; done) | (simp [dR]; omega)) rfl rfl) ?_
          refine .cons (.fB 0 0 false rfl rfl rfl) ?_
          refine .cons (.sT 1 false rfl rfl rfl rfl rfl rfl rfl) ?_
          refine .nil ⟨by kernel_rfl, ?_⟩
          refine kb_n ?_
          refine ks_n ?_
          refine ACode.region ?_
          refine .cons (.mv rfl rfl) ?_
          refine .cons (.pl rfl rfl rfl) ?_
          refine .cons (.asg rfl rfl) ?_
          refine .nil ?_
          refine kl_k [(120, 120), (121, 121), (122, 122), (123, 146)] (.inr ⟨1, rfl, by omega, by omega, rfl⟩) ⟨ks rfl .dt, ks rfl (.c .ow), ks rfl .dt, ks rfl (.c .bx), ks rfl .dt, kb 120 rfl ((by first | exact .cons (.cons (.own _ _ _ _ _ (by first | decide | simp) (by first | rfl | omega)) (.cons (.d _ _ rfl) .nil)) (.dat _ _ [] rfl rfl) | exact .cons (.cons (.own _ _ _ _ _ (by first | decide | simp) (by first | rfl | omega)) (.cons (.d _ _ rfl) .nil)) (.dat _ _ _ (dR_take rL hl) rfl) | exact .cons (.cons (.own _ _ _ _ _ (by first | decide | simp) (by first | rfl | omega)) (.cons (.d _ _ rfl) .nil)) (.dat _ _ _ rfl rfl) | exact .cons (.cons (.own _ _ _ _ _ (by first | decide | simp) (by first | rfl | omega)) (.cons (.d _ _ rfl) .nil)) (.dat _ _ _ (by rw [List.take_length]) rfl))), kb 121 rfl (.dt rfl (by first | exact dR_take rA hx | exact dR_take1 rA hx | rfl | (rw [List.take_length]; done) | (simp [dR]; done))), kb 146 rfl (.dt rfl (by first | exact dR_take rA hx | exact dR_take1 rA hx | rfl | (rw [List.take_length]; done) | (simp [dR]; done))), kb 122 rfl (.cons (.cons .ow (.cons .dt Ctos.nil)) .nil), trivial⟩
        · skip
          have hn1 : l.1 = [] := List.eq_nil_of_length_eq_zero (by omega)
          refine ACode.exit ?_
          refine ks_e ?_
          refine kl_e ?_
          refine kb_hit ?_
          refine ks_n ?_
          refine ACode.seq ?_
          refine ACode.seq ?_
          refine ACode.region ?_
          refine .cons (.asg rfl rfl) ?_
          refine .nil ?_
          refine ks_n ?_
          refine ACode.block ?_
          refine .loopK (fun m σ => (∃ q : Nat, m = l.2.length - q ∧ (q = 0) ∧ σ = [(.t 0, .v (.o (vD (dLs (l0 :: rest))))), (.t 3, .v (.o (.c (.own 130 2 (j + 1))))), (.t 4, .v (.o (nat1 ((j + 1 : Nat))))), (.t 5, .v (.o (.c (.box 132 2 0 0)))), (.t 8, .v (.o (nat1 (q : Nat)))), (.b 130, .b 67 2 ([.own 131 2 l0.1.length, .d (dAs l0.2)] :: dR ((rest.take j).map rL))), (.u 130, .u), (.b 131, .b 51 2 (dR (l0.1.map rA))), (.u 131, .u), (.b 132, .b 67 2 [[.d (dAs l.1), .d (.val (.slice none 0 0))]]), (.u 132, .u)]) ∨ (∃ q : Nat, m = l.2.length - q ∧ (1 ≤ q) ∧ (q ≤ l.2.length) ∧ σ = [(.t 0, .v (.o (vD (dLs (l0 :: rest))))), (.t 3, .v (.o (.c (.own 130 2 (j + 1))))), (.t 4, .v (.o (nat1 ((j + 1 : Nat))))), (.t 5, .v (.o (.c (.box 132 2 0 0)))), (.t 8, .v (.o (nat1 (q : Nat)))), (.b 130, .b 67 2 ([.own 131 2 l0.1.length, .d (dAs l0.2)] :: dR ((rest.take j).map rL))), (.u 130, .u), (.b 131, .b 51 2 (dR (l0.1.map rA))), (.u 131, .u), (.b 133, .b 51 2 (dR ((l.2.take q).map rA))), (.u 133, .u), (.b 132, .b 67 2 [[.d (dAs l.1), .own 133 2 (q)]]), (.u 132, .u)])) [(130, 120), (131, 121), (132, 122)] (.inl ⟨0, rfl, rfl, rfl⟩) ⟨ks rfl .dt, ks rfl (.c .ow), ks rfl .dt, ks rfl (.c .bx), ks rfl .dt, kb 120 rfl ((by first | exact .cons (.cons (.own _ _ _ _ _ (by first | decide | simp) (by first | rfl | omega)) (.cons (.d _ _ rfl) .nil)) (.dat _ _ [] rfl rfl) | exact .cons (.cons (.own _ _ _ _ _ (by first | decide | simp) (by first | rfl | omega)) (.cons (.d _ _ rfl) .nil)) (.dat _ _ _ (dR_take rL hl) rfl) | exact .cons (.cons (.own _ _ _ _ _ (by first | decide | simp) (by first | rfl | omega)) (.cons (.d _ _ rfl) .nil)) (.dat _ _ _ rfl rfl) | exact .cons (.cons (.own _ _ _ _ _ (by first | decide | simp) (by first | rfl | omega)) (.cons (.d _ _ rfl) .nil)) (.dat _ _ _ (by rw [List.take_length]) rfl))), kb 121 rfl (.dt rfl (by first | exact dR_take rA hx | exact dR_take1 rA hx | rfl | (rw [List.take_length]; done) | (simp [dR]; done))), kb 122 rfl (.cons (.cons (Cto.nilE 2 (by rw [hn1]; rfl)) (.cons .dt Ctos.nil)) .nil), trivial⟩ ?_
          rintro m σ (⟨q, hm0, rfl, rfl⟩ | ⟨q, hm0, hq1, hq2, rfl⟩)
          · skip
            refine ACode.seq ?_
            refine ACode.seq ?_
            refine ACode.region ?_
            refine .cons (.mv rfl rfl) ?_
            refine .cons (.mv rfl rfl) ?_
            refine .cons (.mv rfl rfl) ?_
            refine .cons (.xL 67 2 48 rfl rfl rfl rfl rfl) ?_
            refine .cons (.fP 1 0 false rfl rfl) ?_
            refine .cons (.l1 1 rfl rfl) ?_
            refine .cons (.ln 51 2 32 rfl rfl rfl) ?_
            refine .cons (.ls rfl rfl rfl) ?_
            refine .nil ?_
            refine ks_n ?_
            refine .cD rfl (fun h55 => ?_) (fun h55 => ?_)
            · skip
              obtain ⟨x, hx, hxs⟩ := at_sm hld (show 0 < l.2.length by omega)
              refine ACode.skip ?_
              refine ks_n ?_
              refine ACode.seq ?_
              refine ACode.block ?_
              refine ACode.seq ?_
              refine ACode.region ?_
              refine .cons (.mv rfl rfl) ?_
              refine .cons (.mv rfl rfl) ?_
              refine .cons (.xL 67 2 48 rfl rfl rfl rfl rfl) ?_
              refine .cons (.fP 1 0 false rfl rfl) ?_
              refine .cons (.l1 1 rfl rfl) ?_
              refine .cons (.mv rfl rfl) ?_
              refine .cons (.xL 51 2 32 rfl rfl rfl rfl rfl) ?_
              refine .cons (.lN 2 rfl rfl rfl) ?_
              refine .cons (.al 109 [.slice none 0 0, .int .i64 0] rfl rfl rfl) ?_
              refine .cons (.sT 2 true rfl rfl rfl rfl rfl rfl rfl) ?_
              refine .nil ?_
              refine ks_n ?_
              refine ACode.drawK (by kernel_rfl) (by kernel_rfl) ?_
              refine .cons (.fB 1 0 false rfl rfl rfl) ?_
              refine .cons (.b1 1 rfl rfl rfl rfl rfl rfl) ?_
              refine .cons (St1.lit0 (k' := 168) (e := 3) (sz := 1) (b := true) rfl rfl rfl rfl (by kernel_rfl) rfl rfl) ?_
              refine .cons (.fB 0 0 false rfl rfl rfl) ?_
              refine .cons (.b1 1 rfl rfl rfl rfl rfl rfl) ?_
              refine .cons (St1.appD (rows := []) (e := 3) (sz := 0) (by' := 8) rfl rfl rfl rfl rfl (by kernel_rfl) rfl rfl rfl rfl rfl (by simp; omega) rfl) ?_
              refine .cons (.fB 1 0 false rfl rfl rfl) ?_
              refine .cons (.b1 1 rfl rfl rfl rfl rfl rfl) ?_
              refine .cons (.bu [(0, .tmp 71), (1, .tmp 73)] [(0, 1), (1, 1)] [.slice none 0 0, .int .i64 0] rfl rfl rfl rfl rfl) ?_
              refine .cons (.li 51 1 0 [.tmp 74] rfl rfl rfl rfl rfl rfl) ?_
              refine .cons (St1.appN (k' := 176) (e := 51) (sz := 1) (by' := 32) rfl rfl rfl rfl rfl (by kernel_rfl) rfl rfl rfl (by simp) (by first | (simp [dR]; done) | (simp [dR]; omega)) rfl rfl) ?_
              refine .cons (.fB 1 0 false rfl rfl rfl) ?_
              refine .cons (.sT 1 false rfl rfl rfl rfl rfl rfl rfl) ?_
              refine .nil ⟨by kernel_rfl, ?_⟩
              refine kb_n ?_
              refine ks_n ?_
              refine ACode.region ?_
              refine .cons (.mv rfl rfl) ?_
              refine .cons (.pl rfl rfl rfl) ?_
              refine .cons (.asg rfl rfl) ?_
              refine .nil ?_
              refine kl_k [(130, 130), (131, 131), (132, 132), (133, 176)] (.inr ⟨1, rfl, by omega, by omega, rfl⟩) ⟨ks rfl .dt, ks rfl (.c .ow), ks rfl .dt, ks rfl (.c .bx), ks rfl .dt, kb 130 rfl ((by first | exact .cons (.cons (.own _ _ _ _ _ (by first | decide | simp) (by first | rfl | omega)) (.cons (.d _ _ rfl) .nil)) (.dat _ _ [] rfl rfl) | exact .cons (.cons (.own _ _ _ _ _ (by first | decide | simp) (by first | rfl | omega)) (.cons (.d _ _ rfl) .nil)) (.dat _ _ _ (dR_take rL hl) rfl) | exact .cons (.cons (.own _ _ _ _ _ (by first | decide | simp) (by first | rfl | omega)) (.cons (.d _ _ rfl) .nil)) (.dat _ _ _ rfl rfl) | exact .cons (.cons (.own _ _ _ _ _ (by first | decide | simp) (by first | rfl | omega)) (.cons (.d _ _ rfl) .nil)) (.dat _ _ _ (by rw [List.take_length]) rfl))), kb 131 rfl (.dt rfl (by first | exact dR_take rA hx | exact dR_take1 rA hx | rfl | (rw [List.take_length]; done) | (simp [dR]; done))), kb 176 rfl (.dt rfl (by first | exact dR_take rA hx | exact dR_take1 rA hx | rfl | (rw [List.take_length]; done) | (simp [dR]; done))), kb 132 rfl (.cons (.cons .dt (.cons .ow Ctos.nil)) .nil), trivial⟩
            · skip
              have hn2 : l.2 = [] := List.eq_nil_of_length_eq_zero (by omega)
              refine ACode.exit ?_
              refine ks_e ?_
              refine kl_e ?_
              refine kb_hit ?_
              refine ks_n ?_
              refine .keep [(.t 0, .v (.o (vD (dLs (l0 :: rest))))), (.t 3, .v (.o (.c (.own 860 2 (j + 1))))), (.t 4, .v (.o (nat1 ((j + 1 : Nat))))), (.t 5, .v (.o (.c (.box 862 2 0 0)))), (.b 860, .b 67 2 ([.own 861 2 l0.1.length, .d (dAs l0.2)] :: dR ((rest.take j).map rL))), (.u 860, .u), (.b 861, .b 51 2 (dR (l0.1.map rA))), (.u 861, .u), (.b 862, .b 67 2 [[.d (dAs l.1), .d (dAs l.2)]]), (.u 862, .u)] [(860, 130), (861, 131), (862, 132)] ⟨ks rfl .dt, ks rfl (.c .ow), ks rfl .dt, ks rfl (.c .bx), kb 130 rfl ((by first | exact .cons (.cons (.own _ _ _ _ _ (by first | decide | simp) (by first | rfl | omega)) (.cons (.d _ _ rfl) .nil)) (.dat _ _ [] rfl rfl) | exact .cons (.cons (.own _ _ _ _ _ (by first | decide | simp) (by first | rfl | omega)) (.cons (.d _ _ rfl) .nil)) (.dat _ _ _ (dR_take rL hl) rfl) | exact .cons (.cons (.own _ _ _ _ _ (by first | decide | simp) (by first | rfl | omega)) (.cons (.d _ _ rfl) .nil)) (.dat _ _ _ rfl rfl) | exact .cons (.cons (.own _ _ _ _ _ (by first | decide | simp) (by first | rfl | omega)) (.cons (.d _ _ rfl) .nil)) (.dat _ _ _ (by rw [List.take_length]) rfl))), kb 131 rfl (.dt rfl (by first | exact dR_take rA hx | exact dR_take1 rA hx | rfl | (rw [List.take_length]; done) | (simp [dR]; done))), kb 132 rfl (.cons (.cons .dt (.cons (Cto.nilE 2 (by rw [hn2]; rfl)) Ctos.nil)) .nil), trivial⟩ ?_
              refine ACode.region ?_
              refine .cons (.mv rfl rfl) ?_
              refine .cons (.bN 2 rfl rfl rfl rfl rfl rfl) ?_
              refine .cons (.li 67 1 0 [.tmp 79] rfl rfl rfl rfl rfl rfl) ?_
              refine .cons (St1.appB (k' := 181) (e := 67) (sz := 1) (by' := 48) rfl rfl rfl rfl rfl (by kernel_rfl) rfl rfl rfl rfl (by first | (simp [dR]; done) | (simp [dR]; omega)) (by first | (simp [dR]; done) | (simp [dR]; omega)) rfl rfl rfl) ?_
              refine .cons (.asg rfl rfl) ?_
              refine .nil ?_
              refine kb_n ?_
              refine ks_n ?_
              refine ACode.region ?_
              refine .cons (.mv rfl rfl) ?_
              refine .cons (.pl rfl rfl rfl) ?_
              refine .cons (.asg rfl rfl) ?_
              refine .nil ?_
              refine kl_k [(110, 181), (111, 861)] (.inr ⟨j + 1, rfl, by omega, rfl⟩) ⟨ks rfl .dt, ks rfl (.c .ow), ks rfl .dt, kb 181 rfl ((by first | exact .cons (.cons (.own _ _ _ _ _ (by first | decide | simp) (by first | rfl | omega)) (.cons (.d _ _ rfl) .nil)) (.dat _ _ [] rfl rfl) | exact .cons (.cons (.own _ _ _ _ _ (by first | decide | simp) (by first | rfl | omega)) (.cons (.d _ _ rfl) .nil)) (.dat _ _ _ (dR_take rL hl) rfl) | exact .cons (.cons (.own _ _ _ _ _ (by first | decide | simp) (by first | rfl | omega)) (.cons (.d _ _ rfl) .nil)) (.dat _ _ _ rfl rfl) | exact .cons (.cons (.own _ _ _ _ _ (by first | decide | simp) (by first | rfl | omega)) (.cons (.d _ _ rfl) .nil)) (.dat _ _ _ (by rw [List.take_length]) rfl))), kb 861 rfl (.dt rfl (by first | exact dR_take rA hx | exact dR_take1 rA hx | rfl | (rw [List.take_length]; done) | (simp [dR]; done))), trivial⟩
          · skip
            refine ACode.seq ?_
            refine ACode.seq ?_
            refine ACode.region ?_
            refine .cons (.mv rfl rfl) ?_
            refine .cons (.mv rfl rfl) ?_
            refine .cons (.mv rfl rfl) ?_
            refine .cons (.xL 67 2 48 rfl rfl rfl rfl rfl) ?_
            refine .cons (.fP 1 0 false rfl rfl) ?_
            refine .cons (.l1 1 rfl rfl) ?_
            refine .cons (.ln 51 2 32 rfl rfl rfl) ?_
            refine .cons (.ls rfl rfl rfl) ?_
            refine .nil ?_
            refine ks_n ?_
            refine .cD rfl (fun h55 => ?_) (fun h55 => ?_)
            · skip
              obtain ⟨x, hx, hxs⟩ := at_sm hld (show q < l.2.length by omega)
              refine ACode.skip ?_
              refine ks_n ?_
              refine ACode.seq ?_
              refine ACode.block ?_
              refine ACode.seq ?_
              refine ACode.region ?_
              refine .cons (.mv rfl rfl) ?_
              refine .cons (.mv rfl rfl) ?_
              refine .cons (.xL 67 2 48 rfl rfl rfl rfl rfl) ?_
              refine .cons (.fP 1 0 false rfl rfl) ?_
              refine .cons (.l1 1 rfl rfl) ?_
              refine .cons (.mv rfl rfl) ?_
              refine .cons (.xL 51 2 32 rfl rfl rfl rfl rfl) ?_
              refine .cons (.lN 2 rfl rfl rfl) ?_
              refine .cons (.al 109 [.slice none 0 0, .int .i64 0] rfl rfl rfl) ?_
              refine .cons (.sT 2 true rfl rfl rfl rfl rfl rfl rfl) ?_
              refine .nil ?_
              refine ks_n ?_
              refine ACode.drawK (by kernel_rfl) (by kernel_rfl) ?_
              refine .cons (.fB 1 0 false rfl rfl rfl) ?_
              refine .cons (.b1 1 rfl rfl rfl rfl rfl rfl) ?_
              refine .cons (St1.lit0 (k' := 168) (e := 3) (sz := 1) (b := true) rfl rfl rfl rfl (by kernel_rfl) rfl rfl) ?_
              refine .cons (.fB 0 0 false rfl rfl rfl) ?_
              refine .cons (.b1 1 rfl rfl rfl rfl rfl rfl) ?_
              refine .cons (St1.appD (rows := []) (e := 3) (sz := 0) (by' := 8) rfl rfl rfl rfl rfl (by kernel_rfl) rfl rfl rfl rfl rfl (by simp; omega) rfl) ?_
              refine .cons (.fB 1 0 false rfl rfl rfl) ?_
              refine .cons (.b1 1 rfl rfl rfl rfl rfl rfl) ?_
              refine .cons (.bu [(0, .tmp 71), (1, .tmp 73)] [(0, 1), (1, 1)] [.slice none 0 0, .int .i64 0] rfl rfl rfl rfl rfl) ?_
              refine .cons (.li 51 1 0 [.tmp 74] rfl rfl rfl rfl rfl rfl) ?_
              refine .cons (St1.appB (k' := 176) (e := 51) (sz := 1) (by' := 32) rfl rfl rfl rfl rfl (by kernel_rfl) rfl rfl rfl rfl (by first | (simp [dR]; done) | (simp [dR]; omega)) (by first | (simp [dR]; done) | (simp [dR]; omega)) rfl rfl rfl) ?_
              refine .cons (.fB 1 0 false rfl rfl rfl) ?_
              refine .cons (.sT 1 false rfl rfl rfl rfl rfl rfl rfl) ?_
              refine .nil ⟨by kernel_rfl, ?_⟩
              refine kb_n ?_
              refine ks_n ?_
              refine ACode.region ?_
              refine .cons (.mv rfl rfl) ?_
              refine .cons (.pl rfl rfl rfl) ?_
              refine .cons (.asg rfl rfl) ?_
              refine .nil ?_
              refine kl_k [(130, 130), (131, 131), (132, 132), (133, 176)] (.inr ⟨q + 1, rfl, by omega, by omega, rfl⟩) ⟨ks rfl .dt, ks rfl (.c .ow), ks rfl .dt, ks rfl (.c .bx), ks rfl .dt, kb 130 rfl ((by first | exact .cons (.cons (.own _ _ _ _ _ (by first | decide | simp) (by first | rfl | omega)) (.cons (.d _ _ rfl) .nil)) (.dat _ _ [] rfl rfl) | exact .cons (.cons (.own _ _ _ _ _ (by first | decide | simp) (by first | rfl | omega)) (.cons (.d _ _ rfl) .nil)) (.dat _ _ _ (dR_take rL hl) rfl) | exact .cons (.cons (.own _ _ _ _ _ (by first | decide | simp) (by first | rfl | omega)) (.cons (.d _ _ rfl) .nil)) (.dat _ _ _ rfl rfl) | exact .cons (.cons (.own _ _ _ _ _ (by first | decide | simp) (by first | rfl | omega)) (.cons (.d _ _ rfl) .nil)) (.dat _ _ _ (by rw [List.take_length]) rfl))), kb 131 rfl (.dt rfl (by first | exact dR_take rA hx | exact dR_take1 rA hx | rfl | (rw [List.take_length]; done) | (simp [dR]; done))), kb 176 rfl (.dt rfl (by first | exact dR_take rA hx | exact dR_take1 rA hx | rfl | (rw [List.take_length]; done) | (simp [dR]; done))), kb 132 rfl (.cons (.cons .dt (.cons .ow Ctos.nil)) .nil), trivial⟩
            · skip
              obtain rfl : q = l.2.length := by omega
              refine ACode.exit ?_
              refine ks_e ?_
              refine kl_e ?_
              refine kb_hit ?_
              refine ks_n ?_
              refine .keep [(.t 0, .v (.o (vD (dLs (l0 :: rest))))), (.t 3, .v (.o (.c (.own 860 2 (j + 1))))), (.t 4, .v (.o (nat1 ((j + 1 : Nat))))), (.t 5, .v (.o (.c (.box 862 2 0 0)))), (.b 860, .b 67 2 ([.own 861 2 l0.1.length, .d (dAs l0.2)] :: dR ((rest.take j).map rL))), (.u 860, .u), (.b 861, .b 51 2 (dR (l0.1.map rA))), (.u 861, .u), (.b 862, .b 67 2 [[.d (dAs l.1), .d (dAs l.2)]]), (.u 862, .u)] [(860, 130), (861, 131), (862, 132)] ⟨ks rfl .dt, ks rfl (.c .ow), ks rfl .dt, ks rfl (.c .bx), kb 130 rfl ((by first | exact .cons (.cons (.own _ _ _ _ _ (by first | decide | simp) (by first | rfl | omega)) (.cons (.d _ _ rfl) .nil)) (.dat _ _ [] rfl rfl) | exact .cons (.cons (.own _ _ _ _ _ (by first | decide | simp) (by first | rfl | omega)) (.cons (.d _ _ rfl) .nil)) (.dat _ _ _ (dR_take rL hl) rfl) | exact .cons (.cons (.own _ _ _ _ _ (by first | decide | simp) (by first | rfl | omega)) (.cons (.d _ _ rfl) .nil)) (.dat _ _ _ rfl rfl) | exact .cons (.cons (.own _ _ _ _ _ (by first | decide | simp) (by first | rfl | omega)) (.cons (.d _ _ rfl) .nil)) (.dat _ _ _ (by rw [List.take_length]) rfl))), kb 131 rfl (.dt rfl (by first | exact dR_take rA hx | exact dR_take1 rA hx | rfl | (rw [List.take_length]; done) | (simp [dR]; done))), kb 132 rfl (.cons (.cons .dt (.cons (.fz rfl (by first | rfl | (rw [List.take_length]; done)) (by first | rfl | (simp; done) | (simp; omega)) (by omega)) Ctos.nil)) .nil), trivial⟩ ?_
              refine ACode.region ?_
              refine .cons (.mv rfl rfl) ?_
              refine .cons (.bN 2 rfl rfl rfl rfl rfl rfl) ?_
              refine .cons (.li 67 1 0 [.tmp 79] rfl rfl rfl rfl rfl rfl) ?_
              refine .cons (St1.appB (k' := 181) (e := 67) (sz := 1) (by' := 48) rfl rfl rfl rfl rfl (by kernel_rfl) rfl rfl rfl rfl (by first | (simp [dR]; done) | (simp [dR]; omega)) (by first | (simp [dR]; done) | (simp [dR]; omega)) rfl rfl rfl) ?_
              refine .cons (.asg rfl rfl) ?_
              refine .nil ?_
              refine kb_n ?_
              refine ks_n ?_
              refine ACode.region ?_
              refine .cons (.mv rfl rfl) ?_
              refine .cons (.pl rfl rfl rfl) ?_
              refine .cons (.asg rfl rfl) ?_
              refine .nil ?_
              refine kl_k [(110, 181), (111, 861)] (.inr ⟨j + 1, rfl, by omega, rfl⟩) ⟨ks rfl .dt, ks rfl (.c .ow), ks rfl .dt, kb 181 rfl ((by first | exact .cons (.cons (.own _ _ _ _ _ (by first | decide | simp) (by first | rfl | omega)) (.cons (.d _ _ rfl) .nil)) (.dat _ _ [] rfl rfl) | exact .cons (.cons (.own _ _ _ _ _ (by first | decide | simp) (by first | rfl | omega)) (.cons (.d _ _ rfl) .nil)) (.dat _ _ _ (dR_take rL hl) rfl) | exact .cons (.cons (.own _ _ _ _ _ (by first | decide | simp) (by first | rfl | omega)) (.cons (.d _ _ rfl) .nil)) (.dat _ _ _ rfl rfl) | exact .cons (.cons (.own _ _ _ _ _ (by first | decide | simp) (by first | rfl | omega)) (.cons (.d _ _ rfl) .nil)) (.dat _ _ _ (by rw [List.take_length]) rfl))), kb 861 rfl (.dt rfl (by first | exact dR_take rA hx | exact dR_take1 rA hx | rfl | (rw [List.take_length]; done) | (simp [dR]; done))), trivial⟩
      · skip
        refine ACode.seq ?_
        refine ACode.seq ?_
        refine ACode.region ?_
        refine .cons (.mv rfl rfl) ?_
        refine .cons (.mv rfl rfl) ?_
        refine .cons (.mv rfl rfl) ?_
        refine .cons (.xL 67 2 48 rfl rfl rfl rfl rfl) ?_
        refine .cons (.fP 0 0 false rfl rfl) ?_
        refine .cons (.l1 1 rfl rfl) ?_
        refine .cons (.ln 51 2 32 rfl rfl rfl) ?_
        refine .cons (.ls rfl rfl rfl) ?_
        refine .nil ?_
        refine ks_n ?_
        refine .cD rfl (fun h25 => ?_) (fun h25 => ?_)
        · skip
          obtain ⟨x, hx, hxs⟩ := at_sm hlc (show k < l.1.length by omega)
          refine ACode.skip ?_
          refine ks_n ?_
          refine ACode.seq ?_
          refine ACode.block ?_
          refine ACode.seq ?_
          refine ACode.region ?_
          refine .cons (.mv rfl rfl) ?_
          refine .cons (.mv rfl rfl) ?_
          refine .cons (.xL 67 2 48 rfl rfl rfl rfl rfl) ?_
          refine .cons (.fP 0 0 false rfl rfl) ?_
          refine .cons (.l1 1 rfl rfl) ?_
          refine .cons (.mv rfl rfl) ?_
          refine .cons (.xL 51 2 32 rfl rfl rfl rfl rfl) ?_
          refine .cons (.lN 2 rfl rfl rfl) ?_
          refine .cons (.al 107 [.slice none 0 0, .int .i64 0] rfl rfl rfl) ?_
          refine .cons (.sT 2 true rfl rfl rfl rfl rfl rfl rfl) ?_
          refine .nil ?_
          refine ks_n ?_
          refine ACode.drawK (by kernel_rfl) (by kernel_rfl) ?_
          refine .cons (.fB 0 0 false rfl rfl rfl) ?_
          refine .cons (.b1 1 rfl rfl rfl rfl rfl rfl) ?_
          refine .cons (St1.lit0 (k' := 138) (e := 3) (sz := 1) (b := true) rfl rfl rfl rfl (by kernel_rfl) rfl rfl) ?_
          refine .cons (.fB 0 0 false rfl rfl rfl) ?_
          refine .cons (.b1 1 rfl rfl rfl rfl rfl rfl) ?_
          refine .cons (St1.appD (rows := []) (e := 3) (sz := 0) (by' := 8) rfl rfl rfl rfl rfl (by kernel_rfl) rfl rfl rfl rfl rfl (by simp; omega) rfl) ?_
          refine .cons (.fB 1 0 false rfl rfl rfl) ?_
          refine .cons (.b1 1 rfl rfl rfl rfl rfl rfl) ?_
          refine .cons (.bu [(0, .tmp 41), (1, .tmp 43)] [(0, 1), (1, 1)] [.slice none 0 0, .int .i64 0] rfl rfl rfl rfl rfl) ?_
          refine .cons (.li 51 1 0 [.tmp 44] rfl rfl rfl rfl rfl rfl) ?_
          refine .cons (St1.appB (k' := 146) (e := 51) (sz := 1) (by' := 32) rfl rfl rfl rfl rfl (by kernel_rfl) rfl rfl rfl rfl (by first | (simp [dR]; done) | (simp [dR]; omega)) (by first | (simp [dR]; done) | (simp [dR]; omega)) rfl rfl rfl) ?_
          refine .cons (.fB 0 0 false rfl rfl rfl) ?_
          refine .cons (.sT 1 false rfl rfl rfl rfl rfl rfl rfl) ?_
          refine .nil ⟨by kernel_rfl, ?_⟩
          refine kb_n ?_
          refine ks_n ?_
          refine ACode.region ?_
          refine .cons (.mv rfl rfl) ?_
          refine .cons (.pl rfl rfl rfl) ?_
          refine .cons (.asg rfl rfl) ?_
          refine .nil ?_
          refine kl_k [(120, 120), (121, 121), (122, 122), (123, 146)] (.inr ⟨k + 1, rfl, by omega, by omega, rfl⟩) ⟨ks rfl .dt, ks rfl (.c .ow), ks rfl .dt, ks rfl (.c .bx), ks rfl .dt, kb 120 rfl ((by first | exact .cons (.cons (.own _ _ _ _ _ (by first | decide | simp) (by first | rfl | omega)) (.cons (.d _ _ rfl) .nil)) (.dat _ _ [] rfl rfl) | exact .cons (.cons (.own _ _ _ _ _ (by first | decide | simp) (by first | rfl | omega)) (.cons (.d _ _ rfl) .nil)) (.dat _ _ _ (dR_take rL hl) rfl) | exact .cons (.cons (.own _ _ _ _ _ (by first | decide | simp) (by first | rfl | omega)) (.cons (.d _ _ rfl) .nil)) (.dat _ _ _ rfl rfl) | exact .cons (.cons (.own _ _ _ _ _ (by first | decide | simp) (by first | rfl | omega)) (.cons (.d _ _ rfl) .nil)) (.dat _ _ _ (by rw [List.take_length]) rfl))), kb 121 rfl (.dt rfl (by first | exact dR_take rA hx | exact dR_take1 rA hx | rfl | (rw [List.take_length]; done) | (simp [dR]; done))), kb 146 rfl (.dt rfl (by first | exact dR_take rA hx | exact dR_take1 rA hx | rfl | (rw [List.take_length]; done) | (simp [dR]; done))), kb 122 rfl (.cons (.cons .ow (.cons .dt Ctos.nil)) .nil), trivial⟩
        · skip
          obtain rfl : k = l.1.length := by omega
          refine ACode.exit ?_
          refine ks_e ?_
          refine kl_e ?_
          refine kb_hit ?_
          refine ks_n ?_
          refine ACode.seq ?_
          refine ACode.seq ?_
          refine ACode.region ?_
          refine .cons (.asg rfl rfl) ?_
          refine .nil ?_
          refine ks_n ?_
          refine ACode.block ?_
          refine .loopK (fun m σ => (∃ q : Nat, m = l.2.length - q ∧ (q = 0) ∧ σ = [(.t 0, .v (.o (vD (dLs (l0 :: rest))))), (.t 3, .v (.o (.c (.own 130 2 (j + 1))))), (.t 4, .v (.o (nat1 ((j + 1 : Nat))))), (.t 5, .v (.o (.c (.box 132 2 0 0)))), (.t 8, .v (.o (nat1 (q : Nat)))), (.b 130, .b 67 2 ([.own 131 2 l0.1.length, .d (dAs l0.2)] :: dR ((rest.take j).map rL))), (.u 130, .u), (.b 131, .b 51 2 (dR (l0.1.map rA))), (.u 131, .u), (.b 132, .b 67 2 [[.d (dAs l.1), .d (.val (.slice none 0 0))]]), (.u 132, .u)]) ∨ (∃ q : Nat, m = l.2.length - q ∧ (1 ≤ q) ∧ (q ≤ l.2.length) ∧ σ = [(.t 0, .v (.o (vD (dLs (l0 :: rest))))), (.t 3, .v (.o (.c (.own 130 2 (j + 1))))), (.t 4, .v (.o (nat1 ((j + 1 : Nat))))), (.t 5, .v (.o (.c (.box 132 2 0 0)))), (.t 8, .v (.o (nat1 (q : Nat)))), (.b 130, .b 67 2 ([.own 131 2 l0.1.length, .d (dAs l0.2)] :: dR ((rest.take j).map rL))), (.u 130, .u), (.b 131, .b 51 2 (dR (l0.1.map rA))), (.u 131, .u), (.b 133, .b 51 2 (dR ((l.2.take q).map rA))), (.u 133, .u), (.b 132, .b 67 2 [[.d (dAs l.1), .own 133 2 (q)]]), (.u 132, .u)])) [(130, 120), (131, 121), (132, 122)] (.inl ⟨0, rfl, rfl, rfl⟩) ⟨ks rfl .dt, ks rfl (.c .ow), ks rfl .dt, ks rfl (.c .bx), ks rfl .dt, kb 120 rfl ((by first | exact .cons (.cons (.own _ _ _ _ _ (by first | decide | simp) (by first | rfl | omega)) (.cons (.d _ _ rfl) .nil)) (.dat _ _ [] rfl rfl) | exact .cons (.cons (.own _ _ _ _ _ (by first | decide | simp) (by first | rfl | omega)) (.cons (.d _ _ rfl) .nil)) (.dat _ _ _ (dR_take rL hl) rfl) | exact .cons (.cons (.own _ _ _ _ _ (by first | decide | simp) (by first | rfl | omega)) (.cons (.d _ _ rfl) .nil)) (.dat _ _ _ rfl rfl) | exact .cons (.cons (.own _ _ _ _ _ (by first | decide | simp) (by first | rfl | omega)) (.cons (.d _ _ rfl) .nil)) (.dat _ _ _ (by rw [List.take_length]) rfl))), kb 121 rfl (.dt rfl (by first | exact dR_take rA hx | exact dR_take1 rA hx | rfl | (rw [List.take_length]; done) | (simp [dR]; done))), kb 122 rfl (.cons (.cons (.fz rfl (by first | rfl | (rw [List.take_length]; done)) (by first | rfl | (simp; done) | (simp; omega)) (by omega)) (.cons .dt Ctos.nil)) .nil), trivial⟩ ?_
          rintro m σ (⟨q, hm0, rfl, rfl⟩ | ⟨q, hm0, hq1, hq2, rfl⟩)
          · skip
            refine ACode.seq ?_
            refine ACode.seq ?_
            refine ACode.region ?_
            refine .cons (.mv rfl rfl) ?_
            refine .cons (.mv rfl rfl) ?_
            refine .cons (.mv rfl rfl) ?_
            refine .cons (.xL 67 2 48 rfl rfl rfl rfl rfl) ?_
            refine .cons (.fP 1 0 false rfl rfl) ?_
            refine .cons (.l1 1 rfl rfl) ?_
            refine .cons (.ln 51 2 32 rfl rfl rfl) ?_
            refine .cons (.ls rfl rfl rfl) ?_
            refine .nil ?_
            refine ks_n ?_
            refine .cD rfl (fun h55 => ?_) (fun h55 => ?_)
            · skip
              obtain ⟨x, hx, hxs⟩ := at_sm hld (show 0 < l.2.length by omega)
              refine ACode.skip ?_
              refine ks_n ?_
              refine ACode.seq ?_
              refine ACode.block ?_
              refine ACode.seq ?_
              refine ACode.region ?_
              refine .cons (.mv rfl rfl) ?_
              refine .cons (.mv rfl rfl) ?_
              refine .cons (.xL 67 2 48 rfl rfl rfl rfl rfl) ?_
              refine .cons (.fP 1 0 false rfl rfl) ?_
              refine .cons (.l1 1 rfl rfl) ?_
              refine .cons (.mv rfl rfl) ?_
              refine .cons (.xL 51 2 32 rfl rfl rfl rfl rfl) ?_
              refine .cons (.lN 2 rfl rfl rfl) ?_
              refine .cons (.al 109 [.slice none 0 0, .int .i64 0] rfl rfl rfl) ?_
              refine .cons (.sT 2 true rfl rfl rfl rfl rfl rfl rfl) ?_
              refine .nil ?_
              refine ks_n ?_
              refine ACode.drawK (by kernel_rfl) (by kernel_rfl) ?_
              refine .cons (.fB 1 0 false rfl rfl rfl) ?_
              refine .cons (.b1 1 rfl rfl rfl rfl rfl rfl) ?_
              refine .cons (St1.lit0 (k' := 168) (e := 3) (sz := 1) (b := true) rfl rfl rfl rfl (by kernel_rfl) rfl rfl) ?_
              refine .cons (.fB 0 0 false rfl rfl rfl) ?_
              refine .cons (.b1 1 rfl rfl rfl rfl rfl rfl) ?_
              refine .cons (St1.appD (rows := []) (e := 3) (sz := 0) (by' := 8) rfl rfl rfl rfl rfl (by kernel_rfl) rfl rfl rfl rfl rfl (by simp; omega) rfl) ?_
              refine .cons (.fB 1 0 false rfl rfl rfl) ?_
              refine .cons (.b1 1 rfl rfl rfl rfl rfl rfl) ?_
              refine .cons (.bu [(0, .tmp 71), (1, .tmp 73)] [(0, 1), (1, 1)] [.slice none 0 0, .int .i64 0] rfl rfl rfl rfl rfl) ?_
              refine .cons (.li 51 1 0 [.tmp 74] rfl rfl rfl rfl rfl rfl) ?_
              refine .cons (St1.appN (k' := 176) (e := 51) (sz := 1) (by' := 32) rfl rfl rfl rfl rfl (by kernel_rfl) rfl rfl rfl (by simp) (by first | (simp [dR]; done) | (simp [dR]; omega)) rfl rfl) ?_
              refine .cons (.fB 1 0 false rfl rfl rfl) ?_
              refine .cons (.sT 1 false rfl rfl rfl rfl rfl rfl rfl) ?_
              refine .nil ⟨by kernel_rfl, ?_⟩
              refine kb_n ?_
              refine ks_n ?_
              refine ACode.region ?_
              refine .cons (.mv rfl rfl) ?_
              refine .cons (.pl rfl rfl rfl) ?_
              refine .cons (.asg rfl rfl) ?_
              refine .nil ?_
              refine kl_k [(130, 130), (131, 131), (132, 132), (133, 176)] (.inr ⟨1, rfl, by omega, by omega, rfl⟩) ⟨ks rfl .dt, ks rfl (.c .ow), ks rfl .dt, ks rfl (.c .bx), ks rfl .dt, kb 130 rfl ((by first | exact .cons (.cons (.own _ _ _ _ _ (by first | decide | simp) (by first | rfl | omega)) (.cons (.d _ _ rfl) .nil)) (.dat _ _ [] rfl rfl) | exact .cons (.cons (.own _ _ _ _ _ (by first | decide | simp) (by first | rfl | omega)) (.cons (.d _ _ rfl) .nil)) (.dat _ _ _ (dR_take rL hl) rfl) | exact .cons (.cons (.own _ _ _ _ _ (by first | decide | simp) (by first | rfl | omega)) (.cons (.d _ _ rfl) .nil)) (.dat _ _ _ rfl rfl) | exact .cons (.cons (.own _ _ _ _ _ (by first | decide | simp) (by first | rfl | omega)) (.cons (.d _ _ rfl) .nil)) (.dat _ _ _ (by rw [List.take_length]) rfl))), kb 131 rfl (.dt rfl (by first | exact dR_take rA hx | exact dR_take1 rA hx | rfl | (rw [List.take_length]; done) | (simp [dR]; done))), kb 176 rfl (.dt rfl (by first | exact dR_take rA hx | exact dR_take1 rA hx | rfl | (rw [List.take_length]; done) | (simp [dR]; done))), kb 132 rfl (.cons (.cons .dt (.cons .ow Ctos.nil)) .nil), trivial⟩
            · skip
              have hn2 : l.2 = [] := List.eq_nil_of_length_eq_zero (by omega)
              refine ACode.exit ?_
              refine ks_e ?_
              refine kl_e ?_
              refine kb_hit ?_
              refine ks_n ?_
              refine .keep [(.t 0, .v (.o (vD (dLs (l0 :: rest))))), (.t 3, .v (.o (.c (.own 860 2 (j + 1))))), (.t 4, .v (.o (nat1 ((j + 1 : Nat))))), (.t 5, .v (.o (.c (.box 862 2 0 0)))), (.b 860, .b 67 2 ([.own 861 2 l0.1.length, .d (dAs l0.2)] :: dR ((rest.take j).map rL))), (.u 860, .u), (.b 861, .b 51 2 (dR (l0.1.map rA))), (.u 861, .u), (.b 862, .b 67 2 [[.d (dAs l.1), .d (dAs l.2)]]), (.u 862, .u)] [(860, 130), (861, 131), (862, 132)] ⟨ks rfl .dt, ks rfl (.c .ow), ks rfl .dt, ks rfl (.c .bx), kb 130 rfl ((by first | exact .cons (.cons (.own _ _ _ _ _ (by first | decide | simp) (by first | rfl | omega)) (.cons (.d _ _ rfl) .nil)) (.dat _ _ [] rfl rfl) | exact .cons (.cons (.own _ _ _ _ _ (by first | decide | simp) (by first | rfl | omega)) (.cons (.d _ _ rfl) .nil)) (.dat _ _ _ (dR_take rL hl) rfl) | exact .cons (.cons (.own _ _ _ _ _ (by first | decide | simp) (by first | rfl | omega)) (.cons (.d _ _ rfl) .nil)) (.dat _ _ _ rfl rfl) | exact .cons (.cons (.own _ _ _ _ _ (by first | decide | simp) (by first | rfl | omega)) (.cons (.d _ _ rfl) .nil)) (.dat _ _ _ (by rw [List.take_length]) rfl))), kb 131 rfl (.dt rfl (by first | exact dR_take rA hx | exact dR_take1 rA hx | rfl | (rw [List.take_length]; done) | (simp [dR]; done))), kb 132 rfl (.cons (.cons .dt (.cons (Cto.nilE 2 (by rw [hn2]; rfl)) Ctos.nil)) .nil), trivial⟩ ?_
              refine ACode.region ?_
              refine .cons (.mv rfl rfl) ?_
              refine .cons (.bN 2 rfl rfl rfl rfl rfl rfl) ?_
              refine .cons (.li 67 1 0 [.tmp 79] rfl rfl rfl rfl rfl rfl) ?_
              refine .cons (St1.appB (k' := 181) (e := 67) (sz := 1) (by' := 48) rfl rfl rfl rfl rfl (by kernel_rfl) rfl rfl rfl rfl (by first | (simp [dR]; done) | (simp [dR]; omega)) (by first | (simp [dR]; done) | (simp [dR]; omega)) rfl rfl rfl) ?_
              refine .cons (.asg rfl rfl) ?_
              refine .nil ?_
              refine kb_n ?_
              refine ks_n ?_
              refine ACode.region ?_
              refine .cons (.mv rfl rfl) ?_
              refine .cons (.pl rfl rfl rfl) ?_
              refine .cons (.asg rfl rfl) ?_
              refine .nil ?_
              refine kl_k [(110, 181), (111, 861)] (.inr ⟨j + 1, rfl, by omega, rfl⟩) ⟨ks rfl .dt, ks rfl (.c .ow), ks rfl .dt, kb 181 rfl ((by first | exact .cons (.cons (.own _ _ _ _ _ (by first | decide | simp) (by first | rfl | omega)) (.cons (.d _ _ rfl) .nil)) (.dat _ _ [] rfl rfl) | exact .cons (.cons (.own _ _ _ _ _ (by first | decide | simp) (by first | rfl | omega)) (.cons (.d _ _ rfl) .nil)) (.dat _ _ _ (dR_take rL hl) rfl) | exact .cons (.cons (.own _ _ _ _ _ (by first | decide | simp) (by first | rfl | omega)) (.cons (.d _ _ rfl) .nil)) (.dat _ _ _ rfl rfl) | exact .cons (.cons (.own _ _ _ _ _ (by first | decide | simp) (by first | rfl | omega)) (.cons (.d _ _ rfl) .nil)) (.dat _ _ _ (by rw [List.take_length]) rfl))), kb 861 rfl (.dt rfl (by first | exact dR_take rA hx | exact dR_take1 rA hx | rfl | (rw [List.take_length]; done) | (simp [dR]; done))), trivial⟩
          · skip
            refine ACode.seq ?_
            refine ACode.seq ?_
            refine ACode.region ?_
            refine .cons (.mv rfl rfl) ?_
            refine .cons (.mv rfl rfl) ?_
            refine .cons (.mv rfl rfl) ?_
            refine .cons (.xL 67 2 48 rfl rfl rfl rfl rfl) ?_
            refine .cons (.fP 1 0 false rfl rfl) ?_
            refine .cons (.l1 1 rfl rfl) ?_
            refine .cons (.ln 51 2 32 rfl rfl rfl) ?_
            refine .cons (.ls rfl rfl rfl) ?_
            refine .nil ?_
            refine ks_n ?_
            refine .cD rfl (fun h55 => ?_) (fun h55 => ?_)
            · skip
              obtain ⟨x, hx, hxs⟩ := at_sm hld (show q < l.2.length by omega)
              refine ACode.skip ?_
              refine ks_n ?_
              refine ACode.seq ?_
              refine ACode.block ?_
              refine ACode.seq ?_
              refine ACode.region ?_
              refine .cons (.mv rfl rfl) ?_
              refine .cons (.mv rfl rfl) ?_
              refine .cons (.xL 67 2 48 rfl rfl rfl rfl rfl) ?_
              refine .cons (.fP 1 0 false rfl rfl) ?_
              refine .cons (.l1 1 rfl rfl) ?_
              refine .cons (.mv rfl rfl) ?_
              refine .cons (.xL 51 2 32 rfl rfl rfl rfl rfl) ?_
              refine .cons (.lN 2 rfl rfl rfl) ?_
              refine .cons (.al 109 [.slice none 0 0, .int .i64 0] rfl rfl rfl) ?_
              refine .cons (.sT 2 true rfl rfl rfl rfl rfl rfl rfl) ?_
              refine .nil ?_
              refine ks_n ?_
              refine ACode.drawK (by kernel_rfl) (by kernel_rfl) ?_
              refine .cons (.fB 1 0 false rfl rfl rfl) ?_
              refine .cons (.b1 1 rfl rfl rfl rfl rfl rfl) ?_
              refine .cons (St1.lit0 (k' := 168) (e := 3) (sz := 1) (b := true) rfl rfl rfl rfl (by kernel_rfl) rfl rfl) ?_
              refine .cons (.fB 0 0 false rfl rfl rfl) ?_
              refine .cons (.b1 1 rfl rfl rfl rfl rfl rfl) ?_
              refine .cons (St1.appD (rows := []) (e := 3) (sz := 0) (by' := 8) rfl rfl rfl rfl rfl (by kernel_rfl) rfl rfl rfl rfl rfl (by simp; omega) rfl) ?_
              refine .cons (.fB 1 0 false rfl rfl rfl) ?_
              refine .cons (.b1 1 rfl rfl rfl rfl rfl rfl) ?_
              refine .cons (.bu [(0, .tmp 71), (1, .tmp 73)] [(0, 1), (1, 1)] [.slice none 0 0, .int .i64 0] rfl rfl rfl rfl rfl) ?_
              refine .cons (.li 51 1 0 [.tmp 74] rfl rfl rfl rfl rfl rfl) ?_
              refine .cons (St1.appB (k' := 176) (e := 51) (sz := 1) (by' := 32) rfl rfl rfl rfl rfl (by kernel_rfl) rfl rfl rfl rfl (by first | (simp [dR]; done) | (simp [dR]; omega)) (by first | (simp [dR]; done) | (simp [dR]; omega)) rfl rfl rfl) ?_
              refine .cons (.fB 1 0 false rfl rfl rfl) ?_
              refine .cons (.sT 1 false rfl rfl rfl rfl rfl rfl rfl) ?_
              refine .nil ⟨by kernel_rfl, ?_⟩
              refine kb_n ?_
              refine ks_n ?_
              refine ACode.region ?_
              refine .cons (.mv rfl rfl) ?_
              refine .cons (.pl rfl rfl rfl) ?_
              refine .cons (.asg rfl rfl) ?_
              refine .nil ?_
              refine kl_k [(130, 130), (131, 131), (132, 132), (133, 176)] (.inr ⟨q + 1, rfl, by omega, by omega, rfl⟩) ⟨ks rfl .dt, ks rfl (.c .ow), ks rfl .dt, ks rfl (.c .bx), ks rfl .dt, kb 130 rfl ((by first | exact .cons (.cons (.own _ _ _ _ _ (by first | decide | simp) (by first | rfl | omega)) (.cons (.d _ _ rfl) .nil)) (.dat _ _ [] rfl rfl) | exact .cons (.cons (.own _ _ _ _ _ (by first | decide | simp) (by first | rfl | omega)) (.cons (.d _ _ rfl) .nil)) (.dat _ _ _ (dR_take rL hl) rfl) | exact .cons (.cons (.own _ _ _ _ _ (by first | decide | simp) (by first | rfl | omega)) (.cons (.d _ _ rfl) .nil)) (.dat _ _ _ rfl rfl) | exact .cons (.cons (.own _ _ _ _ _ (by first | decide | simp) (by first | rfl | omega)) (.cons (.d _ _ rfl) .nil)) (.dat _ _ _ (by rw [List.take_length]) rfl))), kb 131 rfl (.dt rfl (by first | exact dR_take rA hx | exact dR_take1 rA hx | rfl | (rw [List.take_length]; done) | (simp [dR]; done))), kb 176 rfl (.dt rfl (by first | exact dR_take rA hx | exact dR_take1 rA hx | rfl | (rw [List.take_length]; done) | (simp [dR]; done))), kb 132 rfl (.cons (.cons .dt (.cons .ow Ctos.nil)) .nil), trivial⟩
            · skip
              obtain rfl : q = l.2.length := by omega
              refine ACode.exit ?_
              refine ks_e ?_
              refine kl_e ?_
              refine kb_hit ?_
              refine ks_n ?_
              refine .keep [(.t 0, .v (.o (vD (dLs (l0 :: rest))))), (.t 3, .v (.o (.c (.own 860 2 (j + 1))))), (.t 4, .v (.o (nat1 ((j + 1 : Nat))))), (.t 5, .v (.o (.c (.box 862 2 0 0)))), (.b 860, .b 67 2 ([.own 861 2 l0.1.length, .d (dAs l0.2)] :: dR ((rest.take j).map rL))), (.u 860, .u), (.b 861, .b 51 2 (dR (l0.1.map rA))), (.u 861, .u), (.b 862, .b 67 2 [[.d (dAs l.1), .d (dAs l.2)]]), (.u 862, .u)] [(860, 130), (861, 131), (862, 132)] ⟨ks rfl .dt, ks rfl (.c .ow), ks rfl .dt, ks rfl (.c .bx), kb 130 rfl ((by first | exact .cons (.cons (.own _ _ _ _ _ (by first | decide | simp) (by first | rfl | omega)) (.cons (.d _ _ rfl) .nil)) (.dat _ _ [] rfl rfl) | exact .cons (.cons (.own _ _ _ _ _ (by first | decide | simp) (by first | rfl | omega)) (.cons (.d _ _ rfl) .nil)) (.dat _ _ _ (dR_take rL hl) rfl) | exact .cons (.cons (.own _ _ _ _ _ (by first | decide | simp) (by first | rfl | omega)) (.cons (.d _ _ rfl) .nil)) (.dat _ _ _ rfl rfl) | exact .cons (.cons (.own _ _ _ _ _ (by first | decide | simp) (by first | rfl | omega)) (.cons (.d _ _ rfl) .nil)) (.dat _ _ _ (by rw [List.take_length]) rfl))), kb 131 rfl (.dt rfl (by first | exact dR_take rA hx | exact dR_take1 rA hx | rfl | (rw [List.take_length]; done) | (simp [dR]; done))), kb 132 rfl (.cons (.cons .dt (.cons (.fz rfl (by first | rfl | (rw [List.take_length]; done)) (by first | rfl | (simp; done) | (simp; omega)) (by omega)) Ctos.nil)) .nil), trivial⟩ ?_
              refine ACode.region ?_
              refine .cons (.mv rfl rfl) ?_
              refine .cons (.bN 2 rfl rfl rfl rfl rfl rfl) ?_
              refine .cons (.li 67 1 0 [.tmp 79] rfl rfl rfl rfl rfl rfl) ?_
              refine .cons (St1.appB (k' := 181) (e := 67) (sz := 1) (by' := 48) rfl rfl rfl rfl rfl (by kernel_rfl) rfl rfl rfl rfl (by first | (simp [dR]; done) | (simp [dR]; omega)) (by first | (simp [dR]; done) | (simp [dR]; omega)) rfl rfl rfl) ?_
              refine .cons (.asg rfl rfl) ?_
              refine .nil ?_
              refine kb_n ?_
              refine ks_n ?_
              refine ACode.region ?_
              refine .cons (.mv rfl rfl) ?_
              refine .cons (.pl rfl rfl rfl) ?_
              refine .cons (.asg rfl rfl) ?_
              refine .nil ?_
              refine kl_k [(110, 181), (111, 861)] (.inr ⟨j + 1, rfl, by omega, rfl⟩) ⟨ks rfl .dt, ks rfl (.c .ow), ks rfl .dt, kb 181 rfl ((by first | exact .cons (.cons (.own _ _ _ _ _ (by first | decide | simp) (by first | rfl | omega)) (.cons (.d _ _ rfl) .nil)) (.dat _ _ [] rfl rfl) | exact .cons (.cons (.own _ _ _ _ _ (by first | decide | simp) (by first | rfl | omega)) (.cons (.d _ _ rfl) .nil)) (.dat _ _ _ (dR_take rL hl) rfl) | exact .cons (.cons (.own _ _ _ _ _ (by first | decide | simp) (by first | rfl | omega)) (.cons (.d _ _ rfl) .nil)) (.dat _ _ _ rfl rfl) | exact .cons (.cons (.own _ _ _ _ _ (by first | decide | simp) (by first | rfl | omega)) (.cons (.d _ _ rfl) .nil)) (.dat _ _ _ (by rw [List.take_length]) rfl))), kb 861 rfl (.dt rfl (by first | exact dR_take rA hx | exact dR_take1 rA hx | rfl | (rw [List.take_length]; done) | (simp [dR]; done))), trivial⟩
    · skip
      obtain rfl : j = rest.length := by simp at h14; omega
      refine ACode.exit ?_
      refine ks_e ?_
      refine kl_e ?_
      refine kb_hit ?_
      refine ks_n ?_
      refine ACode.seq ?_
      refine ACode.region ?_
      refine .cons (.mv rfl rfl) ?_
      refine .cons (.asg rfl rfl) ?_
      refine .nil ?_
      refine ks_n ?_
      refine ACode.ret ?_
      refine kf_wret [(.t 2, .v (.o (.c (.own 100 2 (rest.length + 1))))), (.b 100, .b 67 2 ([.own 101 2 l0.1.length, .d (dAs l0.2)] :: dR (rest.map rL))), (.u 100, .u), (.b 101, .b 51 2 (dR (l0.1.map rA))), (.u 101, .u)] (Wk.keep [(100, 110), (101, 111)] rfl rfl ⟨ks rfl (.c .ow), kb 110 rfl ((by first | exact .cons (.cons (.own _ _ _ _ _ (by first | decide | simp) (by first | rfl | omega)) (.cons (.d _ _ rfl) .nil)) (.dat _ _ [] rfl rfl) | exact .cons (.cons (.own _ _ _ _ _ (by first | decide | simp) (by first | rfl | omega)) (.cons (.d _ _ rfl) .nil)) (.dat _ _ _ (dR_take rL hl) rfl) | exact .cons (.cons (.own _ _ _ _ _ (by first | decide | simp) (by first | rfl | omega)) (.cons (.d _ _ rfl) .nil)) (.dat _ _ _ rfl rfl) | exact .cons (.cons (.own _ _ _ _ _ (by first | decide | simp) (by first | rfl | omega)) (.cons (.d _ _ rfl) .nil)) (.dat _ _ _ (by rw [List.take_length]) rfl))), kb 111 rfl (.dt rfl (by first | exact dR_take rA hx | exact dR_take1 rA hx | rfl | (rw [List.take_length]; done) | (simp [dR]; done))), trivial⟩) rfl ?_ (two_box rfl rfl)
      rfl

end Go.Proofs.Ytgcpdpbapgkdjaa
