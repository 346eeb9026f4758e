/- Part 3 of 5 of the proof: laws on memory and data, then what the functions compute, in the order in which they build on each other; conditions: those that each theorem names. -/
import Derived.Test.YtigdfdhjnadieaaP2

/- Statements: the program counts nodes; condition: small lists. -/
namespace Go.Proofs.Ytigdfdhjnadieaa
set_option linter.unusedVariables false
set_option linter.unusedSimpArgs false
open Go.RowKit

/-- What the program asks of the fields that a kind does not use. -/
def hdV (e : Ex) : Bool := (decide (e.k = 1) || decide (e.n = 0)) && (decide (e.k = 2) || nonA e.i) && (decide (e.k = 3) || nonC e.r)
theorem scan_z (d c : Nat) (e : Ex) : scanV d 0 c e = (false, c + 1) := rfl
theorem scan_many {d L c : Nat} {e : Ex} (h : 12 < c + 1) : scanV d (L + 1) c e = (false, c + 1) := by rw [scanV, if_pos h]
theorem scan_hd {d L c : Nat} {e : Ex} (h : hdV e = false) : scanV d (L + 1) c e = (false, c + 1) := by
  rw [scanV]
  split
  · rfl
  · rw [if_neg]
    intro h2
    have h3 := (Bool.and_eq_true_iff.1 h2).2
    unfold fldV at h3
    unfold hdV at h
    cases hA : nonA e.i <;> cases hC : nonC e.r <;> simp only [hA, hC] at h h3 <;> (split at h3 <;> first | (split at h3 <;> first | (split at h3 <;> simp_all; done) | (simp_all; done)) | (simp_all; done))
theorem hd_rest {e : Ex} (h : hdV e = true) : (e.k = 1 ∨ e.n = 0) ∧ (e.k = 2 ∨ nonA e.i = true) ∧ (e.k = 3 ∨ nonC e.r = true) := by
  simp only [hdV, Bool.and_eq_true, Bool.or_eq_true, decide_eq_true_eq] at h
  exact ⟨h.1.1, h.1.2, h.2⟩
theorem scan_leaf {d L c : Nat} {e : Ex} (hk : 1 ≤ e.k ∧ e.k ≤ 3) (hc : ¬ 12 < c + 1) : scanV d (L + 1) c e = (decide (e.ks.length = 0) && fldV d e.k e.n e.i e.r, c + 1) := by
  rw [scanV, if_neg hc, kidV, if_pos hk]
  split
  · rename_i h
    rw [h]
    have := of_decide_eq_true (Bool.and_eq_true_iff.1 h).1
    rw [List.eq_nil_of_length_eq_zero this]; rfl
  · rename_i h
    rw [Bool.eq_false_iff.2 h]
theorem scan1 {d L c : Nat} {e : Ex} (hk : e.k = 1) (hh : hdV e = true) (hc : ¬ 12 < c + 1) : scanV d (L + 1) c e = (inB e.n 0 99 && decide (e.ks.length = 0), c + 1) := by
  obtain ⟨h1, h2, h3⟩ := hd_rest hh
  rw [scan_leaf (by omega) hc, fldV, if_pos hk, h2.resolve_left (by omega), h3.resolve_left (by omega), Bool.and_true, Bool.and_true, Bool.and_comm]
theorem scan2 {d L c : Nat} {e : Ex} (hk : e.k = 2) (hh : hdV e = true) (hc : ¬ 12 < c + 1) : scanV d (L + 1) c e = (affV e.i && decide (affDepth e.i ≤ d) && decide (e.ks.length = 0), c + 1) := by
  obtain ⟨h1, h2, h3⟩ := hd_rest hh
  rw [scan_leaf (by omega) hc, fldV, if_neg (by omega), if_pos hk, h3.resolve_left (by omega), decide_eq_true (h1.resolve_left (by omega)), Bool.and_true, Bool.true_and, Bool.and_comm]
theorem scan3 {d L c : Nat} {e : Ex} (hk : e.k = 3) (hh : hdV e = true) (hc : ¬ 12 < c + 1) : scanV d (L + 1) c e = (accV d e.r && decide (e.ks.length = 0), c + 1) := by
  obtain ⟨h1, h2, h3⟩ := hd_rest hh
  rw [scan_leaf (by omega) hc, fldV, if_neg (by omega), if_neg (by omega), if_pos hk, h2.resolve_left (by omega), decide_eq_true (h1.resolve_left (by omega)), Bool.and_true, Bool.true_and, Bool.and_comm]
theorem scan_bad {d L c : Nat} {e : Ex} (hk : ¬ e.k = 1 ∧ ¬ e.k = 2 ∧ ¬ e.k = 3) (hb : inB e.k 4 6 = false ∨ ¬ e.ks.length = 2) : scanV d (L + 1) c e = (false, c + 1) := by
  rw [scanV]
  split
  · rfl
  · rw [if_neg]
    intro h2
    have h3 := (Bool.and_eq_true_iff.1 h2).1
    unfold kidV at h3
    rw [if_neg (by omega)] at h3
    split at h3
    · rename_i h4
      have h5 := of_decide_eq_true h3
      rcases hb with h | h
      · rw [inB, decide_eq_true h4] at h; cases h
      · exact h h5
    · cases h3
theorem scan_op {d L c : Nat} {e : Ex} {x y : Ex} (hk : inB e.k 4 6 = true) (hh : hdV e = true) (hc : ¬ 12 < c + 1) (hks : e.ks = [x, y]) : scanV d (L + 1) c e = if (scanV d L (c + 1) x).1 = true then scanV d L (scanV d L (c + 1) x).2 y else (false, (scanV d L (c + 1) x).2) := by
  obtain ⟨h1, h2, h3⟩ := hd_rest hh
  simp only [inB, Bool.and_eq_true, decide_eq_true_eq] at hk
  rw [scanV, if_neg hc, if_pos, hks, scanK]
  · split
    · rename_i h
      rw [scanK]
      split
      · rename_i h4; rw [scanK, ← h4]
      · rename_i h4; rw [← Bool.eq_false_iff.2 h4]
    · rfl
  · rw [kidV, if_neg (by omega), if_pos hk, hks, fldV, if_neg (by omega), if_neg (by omega), if_neg (by omega), h2.resolve_left (by omega), h3.resolve_left (by omega), decide_eq_true (h1.resolve_left (by omega))]; rfl
theorem two_of {α : Type} {l : List α} (h : l.length = 2) : ∃ x y, l = [x, y] := by
  match l, h with
  | [x, y], _ => exact ⟨x, y, rfl⟩

set_option maxRecDepth 100000 in
set_option maxHeartbeats 1600000 in
theorem scan_zero (d : Nat) {deep : Int} {c : Nat} {e : Ex} (hc : c ≤ 12) (hd8 : -100 ≤ deep ∧ deep ≤ 100) (hrl : e.r.2.length ≤ 1099511627776) (hd5 : 5 < deep) : Fn Try.prog 55 (hbI (c : Nat)) [ad (rX e), nat1 (d : Nat), nat1 deep, .c (.box 0 1 0 0)] (.o (bo1 (scanV d 0 c e).1)) (hbI ((scanV d 0 c e).2 : Nat)) := by
  refine Fn.of_code Try.func55 rfl rfl (hbI_HB _) rfl rfl (hbI_HB _) rfl (hbI_num _ _) ?_
  refine ACode.seq ?_
  refine ACode.region ?_
  refine .cons (St1.boxP rfl rfl rfl rfl rfl rfl) ?_
  refine .cons (.asg rfl rfl) ?_
  refine .nil ?_
  refine ks_n ?_
  refine ACode.seq ?_
  refine ACode.region ?_
  refine .cons (.mv rfl rfl) ?_
  refine .cons (.nB rfl rfl rfl) ?_
  refine .cons (.b1 1 rfl rfl rfl rfl rfl rfl) ?_
  refine .cons (.pl rfl rfl rfl) ?_
  refine .cons (.nB rfl rfl rfl) ?_
  refine .cons (.sT 1 false rfl rfl rfl rfl rfl rfl rfl) ?_
  refine .nil ?_
  refine ks_n ?_
  refine ACode.seq ?_
  refine ACode.seq ?_
  refine ACode.cut [(.t 1, .v (.o (nat1 (d : Nat)))), (.t 2, .v (.o (nat1 deep))), (.t 3, .v (.o (.c (.box 0 1 0 0)))), (.t 4, .v (.o (.c (.ptr (rX e))))), (.t 8, .v (.o (bo1 false))), (.t 21, .v (.o (bo1 (decide (12 < c + 1 ∨ 5 < deep))))), (.b 0, .b 3 1 (dR ([rI ((c : Int) + 1)]))), (.u 0, .u)] ?_ ?_
  · skip
    refine ACode.region ?_
    refine .cons (.mv rfl rfl) ?_
    refine .cons (.nB rfl rfl rfl) ?_
    refine .cons (.b1 1 rfl rfl rfl rfl rfl rfl) ?_
    refine .cons (.gt rfl rfl rfl) ?_
    refine .cons (.mv rfl rfl) ?_
    refine .cD 18 rfl (fun g18 => ?_) (fun g18 => ?_)
    · skip
      refine .cons (.gF rfl rfl rfl) ?_
      refine .cons (.gF rfl rfl rfl) ?_
      refine .cons (.pT rfl rfl rfl) ?_
      refine .nil ?_
      exact kc_n (Wk.keep [(0, 0)] rfl rfl ⟨ks rfl .dt, ks rfl .dt, ks rfl (.c .bx), ks rfl .dt, ks rfl .dt, ks rfl (.dt (vB (by first | rfl | grind))), kb 0 rfl (.dt rfl), trivial⟩)
    · skip
      refine .cons (.gT rfl rfl rfl (.mv rfl rfl)) ?_
      refine .cons (.gT rfl rfl rfl (.gt rfl rfl rfl)) ?_
      refine .cons (.pF rfl rfl rfl) ?_
      refine .nil ?_
      exact kc_n (Wk.keep [(0, 0)] rfl rfl ⟨ks rfl .dt, ks rfl .dt, ks rfl (.c .bx), ks rfl .dt, ks rfl .dt, ks rfl (.dt (vB (by first | rfl | grind))), kb 0 rfl (.dt rfl), trivial⟩)
  refine ks_n ?_
  refine ACode.condT rfl (fun h21 => ?_) (fun h21 => ?_)
  · try simp only [List.length_map, decide_eq_true_eq, decide_eq_false_iff_not, Bool.not_eq_true', Bool.not_eq_false', Bool.not_eq_true, Bool.not_eq_false] at h21
    refine ACode.seq ?_
    have hR := scan_z d c e
    refine ACode.region ?_
    refine .cons (.asg rfl rfl) ?_
    refine .nil ?_
    refine ks_n ?_
    refine ACode.ret ?_
    refine ks_r ?_
    obtain ⟨r, hr⟩ : ∃ r, r = (scanV d 0 c e) := ⟨_, rfl⟩
    rw [← hr]
    rw [← hr] at hR
    refine kf_wret [(.t 3, .v (.o (.c (.box 0 1 0 0)))), (.t 8, .v (.o (bo1 r.1))), (.b 0, .b 3 1 (dR ([rI (r.2 : Nat)]))), (.u 0, .u)] (Wk.keep [(0, 0)] rfl rfl ⟨ks rfl (.c .bx), ks rfl (.dt (vB (by rw [hR] <;> first | rfl | grind))), kb 0 rfl (.dt rfl (by rw [hR] <;> rfl)), trivial⟩) rfl ?_ (hbI_box rfl)
    rfl
  · try simp only [List.length_map, decide_eq_true_eq, decide_eq_false_iff_not, Bool.not_eq_true', Bool.not_eq_false', Bool.not_eq_true, Bool.not_eq_false] at h21
    exact absurd (Or.inr hd5) h21

set_option maxRecDepth 100000 in
set_option maxHeartbeats 1600000 in
theorem scan_succ (d : Nat) {deep : Int} {c : Nat} {e : Ex} (hc : c ≤ 12) (hd8 : -100 ≤ deep ∧ deep ≤ 100) (hrl : e.r.2.length ≤ 1099511627776) (hd5 : ¬ 5 < deep) {L : Nat} (ih : ∀ x ∈ e.ks, ∀ c : Nat, c ≤ 12 → Fn Try.prog 55 (hbI (c : Nat)) [ad (rX x), nat1 (d : Nat), nat1 (deep + 1), .c (.box 0 1 0 0)] (.o (bo1 (scanV d L c x).1)) (hbI ((scanV d L c x).2 : Nat))) : Fn Try.prog 55 (hbI (c : Nat)) [ad (rX e), nat1 (d : Nat), nat1 deep, .c (.box 0 1 0 0)] (.o (bo1 (scanV d (L + 1) c e).1)) (hbI ((scanV d (L + 1) c e).2 : Nat)) := by
  refine Fn.of_code Try.func55 rfl rfl (hbI_HB _) rfl rfl (hbI_HB _) rfl (hbI_num _ _) ?_
  refine ACode.seq ?_
  refine ACode.region ?_
  refine .cons (St1.boxP rfl rfl rfl rfl rfl rfl) ?_
  refine .cons (.asg rfl rfl) ?_
  refine .nil ?_
  refine ks_n ?_
  refine ACode.seq ?_
  refine ACode.region ?_
  refine .cons (.mv rfl rfl) ?_
  refine .cons (.nB rfl rfl rfl) ?_
  refine .cons (.b1 1 rfl rfl rfl rfl rfl rfl) ?_
  refine .cons (.pl rfl rfl rfl) ?_
  refine .cons (.nB rfl rfl rfl) ?_
  refine .cons (.sT 1 false rfl rfl rfl rfl rfl rfl rfl) ?_
  refine .nil ?_
  refine ks_n ?_
  refine ACode.seq ?_
  refine ACode.seq ?_
  refine ACode.cut [(.t 1, .v (.o (nat1 (d : Nat)))), (.t 2, .v (.o (nat1 deep))), (.t 3, .v (.o (.c (.box 0 1 0 0)))), (.t 4, .v (.o (.c (.ptr (rX e))))), (.t 8, .v (.o (bo1 false))), (.t 21, .v (.o (bo1 (decide (12 < c + 1 ∨ 5 < deep))))), (.b 0, .b 3 1 (dR ([rI ((c : Int) + 1)]))), (.u 0, .u)] ?_ ?_
  · skip
    refine ACode.region ?_
    refine .cons (.mv rfl rfl) ?_
    refine .cons (.nB rfl rfl rfl) ?_
    refine .cons (.b1 1 rfl rfl rfl rfl rfl rfl) ?_
    refine .cons (.gt rfl rfl rfl) ?_
    refine .cons (.mv rfl rfl) ?_
    refine .cD 18 rfl (fun g18 => ?_) (fun g18 => ?_)
    · skip
      refine .cons (.gF rfl rfl rfl) ?_
      refine .cons (.gF rfl rfl rfl) ?_
      refine .cons (.pT rfl rfl rfl) ?_
      refine .nil ?_
      exact kc_n (Wk.keep [(0, 0)] rfl rfl ⟨ks rfl .dt, ks rfl .dt, ks rfl (.c .bx), ks rfl .dt, ks rfl .dt, ks rfl (.dt (vB (by first | rfl | grind))), kb 0 rfl (.dt rfl), trivial⟩)
    · skip
      refine .cons (.gT rfl rfl rfl (.mv rfl rfl)) ?_
      refine .cons (.gT rfl rfl rfl (.gt rfl rfl rfl)) ?_
      refine .cons (.pF rfl rfl rfl) ?_
      refine .nil ?_
      exact kc_n (Wk.keep [(0, 0)] rfl rfl ⟨ks rfl .dt, ks rfl .dt, ks rfl (.c .bx), ks rfl .dt, ks rfl .dt, ks rfl (.dt (vB (by first | rfl | grind))), kb 0 rfl (.dt rfl), trivial⟩)
  refine ks_n ?_
  refine ACode.condT rfl (fun h21 => ?_) (fun h21 => ?_)
  · try simp only [List.length_map, decide_eq_true_eq, decide_eq_false_iff_not, Bool.not_eq_true', Bool.not_eq_false', Bool.not_eq_true, Bool.not_eq_false] at h21
    refine ACode.seq ?_
    have hR := scan_many (d := d) (L := L) (e := e) (show 12 < c + 1 by omega)
    refine ACode.region ?_
    refine .cons (.asg rfl rfl) ?_
    refine .nil ?_
    refine ks_n ?_
    refine ACode.ret ?_
    refine ks_r ?_
    obtain ⟨r, hr⟩ : ∃ r, r = (scanV d (L + 1) c e) := ⟨_, rfl⟩
    rw [← hr]
    rw [← hr] at hR
    refine kf_wret [(.t 3, .v (.o (.c (.box 0 1 0 0)))), (.t 8, .v (.o (bo1 r.1))), (.b 0, .b 3 1 (dR ([rI (r.2 : Nat)]))), (.u 0, .u)] (Wk.keep [(0, 0)] rfl rfl ⟨ks rfl (.c .bx), ks rfl (.dt (vB (by rw [hR] <;> first | rfl | grind))), kb 0 rfl (.dt rfl (by rw [hR] <;> rfl)), trivial⟩) rfl ?_ (hbI_box rfl)
    rfl
  · try simp only [List.length_map, decide_eq_true_eq, decide_eq_false_iff_not, Bool.not_eq_true', Bool.not_eq_false', Bool.not_eq_true, Bool.not_eq_false] at h21
    have hc1 : ¬ 12 < c + 1 := by omega
    refine ACode.skip ?_
    refine ks_n ?_
    refine ACode.seq ?_
    refine ACode.seq ?_
    refine ACode.cut [(.t 1, .v (.o (nat1 (d : Nat)))), (.t 2, .v (.o (nat1 deep))), (.t 3, .v (.o (.c (.box 0 1 0 0)))), (.t 4, .v (.o (.c (.ptr (rX e))))), (.t 8, .v (.o (bo1 false))), (.t 51, .v (.o (bo1 (!hdV e)))), (.b 0, .b 3 1 (dR ([rI ((c : Int) + 1)]))), (.u 0, .u)] ?_ ?_
    · skip
      refine ACode.region ?_
      refine .cons (.fP 0 0 false rfl rfl) ?_
      refine .cons (.l1 1 rfl rfl) ?_
      refine .cons (.ne rfl rfl rfl) ?_
      refine .cons (.mv rfl rfl) ?_
      refine .cND 25 rfl (fun g25 => ?_) (fun g25 => ?_)
      · skip
        refine .cons (.gT rfl rfl rfl (.fP 1 0 false rfl rfl)) ?_
        refine .cons (.gT rfl rfl rfl (.l1 1 rfl rfl)) ?_
        refine .cons (.gT rfl rfl rfl (.ne rfl rfl rfl)) ?_
        refine .cons (.pT rfl rfl rfl) ?_
        refine .cons (.mv rfl rfl) ?_
        refine AOps.cases 30 _ rfl (fun g30 => ?_) (fun g30 => ?_)
        · try simp only [List.length_map, decide_eq_true_eq, decide_eq_false_iff_not, Bool.not_eq_true', Bool.not_eq_false', Bool.not_eq_true, Bool.not_eq_false] at g30
          refine .cons (.gF rfl rfl rfl) ?_
          refine .cons (.gF rfl rfl rfl) ?_
          refine .cons (.gF rfl rfl rfl) ?_
          refine .cons (.gF rfl rfl rfl) ?_
          refine .cons (.gU rfl rfl) ?_
          refine .cons (.gU rfl rfl) ?_
          refine .cons (.gU rfl rfl) ?_
          refine .cons (.gU rfl rfl) ?_
          refine .cons (.gF rfl rfl rfl) ?_
          refine .cons (.pT rfl rfl rfl) ?_
          refine .cons (.mv rfl rfl) ?_
          refine .cons (.gF rfl rfl rfl) ?_
          refine .cons (.gF rfl rfl rfl) ?_
          refine .cons (.gF rfl rfl rfl) ?_
          refine .cons (.gF rfl rfl rfl) ?_
          refine .cons (.gU rfl rfl) ?_
          refine .cons (.gU rfl rfl) ?_
          refine .cons (.gU rfl rfl) ?_
          refine .cons (.gU rfl rfl) ?_
          refine .cons (.gF rfl rfl rfl) ?_
          refine .cons (.pT rfl rfl rfl) ?_
          refine .nil ?_
          exact kc_n (Wk.keep [(0, 0)] rfl rfl ⟨ks rfl .dt, ks rfl .dt, ks rfl (.c .bx), ks rfl .dt, ks rfl .dt, ks rfl (.dt (vB (by first | (exfalso; omega) | (rw [hdV]; simp [*]; done) | (rw [hdV]; cases hA : nonA e.i <;> cases hC : nonC e.r <;> simp_all; done)))), kb 0 rfl (.dt rfl), trivial⟩)
        · try simp only [List.length_map, decide_eq_true_eq, decide_eq_false_iff_not, Bool.not_eq_true', Bool.not_eq_false', Bool.not_eq_true, Bool.not_eq_false] at g30
          refine .cons (.gT rfl rfl rfl (.fP 0 0 false rfl rfl)) ?_
          refine .cons (.gT rfl rfl rfl (.l1 1 rfl rfl)) ?_
          refine .cons (.gT rfl rfl rfl (.ne rfl rfl rfl)) ?_
          refine .cons (.gT rfl rfl rfl (.mv rfl rfl)) ?_
          refine .cND 34 rfl (fun g34 => ?_) (fun g34 => ?_)
          · skip
            refine .cons (.gT rfl rfl rfl (.fP 2 1 true rfl rfl)) ?_
            refine .cons (.gT rfl rfl rfl (.lN 2 rfl rfl rfl)) ?_
            refine .cons (.gT rfl rfl rfl (.cP [.tmp 36] rfl rfl rfl rfl (implNoA_fn _) rfl)) ?_
            refine .cons (.gT rfl rfl rfl (.nt rfl rfl)) ?_
            refine .cons (.gT rfl rfl rfl (.pT rfl rfl rfl)) ?_
            refine .cons (.pF rfl rfl rfl) ?_
            refine .cons (.mv rfl rfl) ?_
            refine AOps.cases 41 _ rfl (fun g41 => ?_) (fun g41 => ?_)
            · try simp only [List.length_map, decide_eq_true_eq, decide_eq_false_iff_not, Bool.not_eq_true', Bool.not_eq_false', Bool.not_eq_true, Bool.not_eq_false] at g41
              refine .cons (.gF rfl rfl rfl) ?_
              refine .cons (.gF rfl rfl rfl) ?_
              refine .cons (.gF rfl rfl rfl) ?_
              refine .cons (.gF rfl rfl rfl) ?_
              refine .cons (.gU rfl rfl) ?_
              refine .cons (.gU rfl rfl) ?_
              refine .cons (.gU rfl rfl) ?_
              refine .cons (.gU rfl rfl) ?_
              refine .cons (.gF rfl rfl rfl) ?_
              refine .cons (.pT rfl rfl rfl) ?_
              refine .nil ?_
              exact kc_n (Wk.keep [(0, 0)] rfl rfl ⟨ks rfl .dt, ks rfl .dt, ks rfl (.c .bx), ks rfl .dt, ks rfl .dt, ks rfl (.dt (vB (by first | (exfalso; omega) | (rw [hdV]; simp [*]; done) | (rw [hdV]; cases hA : nonA e.i <;> cases hC : nonC e.r <;> simp_all; done)))), kb 0 rfl (.dt rfl), trivial⟩)
            · try simp only [List.length_map, decide_eq_true_eq, decide_eq_false_iff_not, Bool.not_eq_true', Bool.not_eq_false', Bool.not_eq_true, Bool.not_eq_false] at g41
              refine .cons (.gT rfl rfl rfl (.fP 0 0 false rfl rfl)) ?_
              refine .cons (.gT rfl rfl rfl (.l1 1 rfl rfl)) ?_
              refine .cons (.gT rfl rfl rfl (.ne rfl rfl rfl)) ?_
              refine .cons (.gT rfl rfl rfl (.mv rfl rfl)) ?_
              refine .cND 45 rfl (fun g45 => ?_) (fun g45 => ?_)
              · skip
                refine .cons (.gT rfl rfl rfl (.fP 4 1 true rfl rfl)) ?_
                refine .cons (.gT rfl rfl rfl (.lN 2 rfl rfl rfl)) ?_
                refine .cons (.gT rfl rfl rfl (.cP [.tmp 47] rfl rfl rfl rfl (implNoC_fn _) rfl)) ?_
                refine .cons (.gT rfl rfl rfl (.nt rfl rfl)) ?_
                refine .cons (.gT rfl rfl rfl (.pT rfl rfl rfl)) ?_
                refine .cons (.pF rfl rfl rfl) ?_
                refine .nil ?_
                exact kc_n (Wk.keep [(0, 0)] rfl rfl ⟨ks rfl .dt, ks rfl .dt, ks rfl (.c .bx), ks rfl .dt, ks rfl .dt, ks rfl (.dt (vB (by first | (exfalso; omega) | (rw [hdV]; simp [*]; done) | (rw [hdV]; cases hA : nonA e.i <;> cases hC : nonC e.r <;> simp_all; done)))), kb 0 rfl (.dt rfl), trivial⟩)
              · skip
                refine .cons (.gF rfl rfl rfl) ?_
                refine .cons (.gF rfl rfl rfl) ?_
                refine .cons (.gF rfl rfl rfl) ?_
                refine .cons (.gF rfl rfl rfl) ?_
                refine .cons (.gT rfl rfl rfl (.pF rfl rfl rfl)) ?_
                refine .cons (.pF rfl rfl rfl) ?_
                refine .nil ?_
                exact kc_n (Wk.keep [(0, 0)] rfl rfl ⟨ks rfl .dt, ks rfl .dt, ks rfl (.c .bx), ks rfl .dt, ks rfl .dt, ks rfl (.dt (vB (by first | (exfalso; omega) | (rw [hdV]; simp [*]; done) | (rw [hdV]; cases hA : nonA e.i <;> cases hC : nonC e.r <;> simp_all; done)))), kb 0 rfl (.dt rfl), trivial⟩)
          · skip
            refine .cons (.gF rfl rfl rfl) ?_
            refine .cons (.gF rfl rfl rfl) ?_
            refine .cons (.gF rfl rfl rfl) ?_
            refine .cons (.gF rfl rfl rfl) ?_
            refine .cons (.gT rfl rfl rfl (.pF rfl rfl rfl)) ?_
            refine .cons (.pF rfl rfl rfl) ?_
            refine .cons (.mv rfl rfl) ?_
            refine .cons (.gT rfl rfl rfl (.fP 0 0 false rfl rfl)) ?_
            refine .cons (.gT rfl rfl rfl (.l1 1 rfl rfl)) ?_
            refine .cons (.gT rfl rfl rfl (.ne rfl rfl rfl)) ?_
            refine .cons (.gT rfl rfl rfl (.mv rfl rfl)) ?_
            refine .cND 45 rfl (fun g45 => ?_) (fun g45 => ?_)
            · skip
              refine .cons (.gT rfl rfl rfl (.fP 4 1 true rfl rfl)) ?_
              refine .cons (.gT rfl rfl rfl (.lN 2 rfl rfl rfl)) ?_
              refine .cons (.gT rfl rfl rfl (.cP [.tmp 47] rfl rfl rfl rfl (implNoC_fn _) rfl)) ?_
              refine .cons (.gT rfl rfl rfl (.nt rfl rfl)) ?_
              refine .cons (.gT rfl rfl rfl (.pT rfl rfl rfl)) ?_
              refine .cons (.pF rfl rfl rfl) ?_
              refine .nil ?_
              exact kc_n (Wk.keep [(0, 0)] rfl rfl ⟨ks rfl .dt, ks rfl .dt, ks rfl (.c .bx), ks rfl .dt, ks rfl .dt, ks rfl (.dt (vB (by first | (exfalso; omega) | (rw [hdV]; simp [*]; done) | (rw [hdV]; cases hA : nonA e.i <;> cases hC : nonC e.r <;> simp_all; done)))), kb 0 rfl (.dt rfl), trivial⟩)
            · skip
              refine .cons (.gF rfl rfl rfl) ?_
              refine .cons (.gF rfl rfl rfl) ?_
              refine .cons (.gF rfl rfl rfl) ?_
              refine .cons (.gF rfl rfl rfl) ?_
              refine .cons (.gT rfl rfl rfl (.pF rfl rfl rfl)) ?_
              refine .cons (.pF rfl rfl rfl) ?_
              refine .nil ?_
              exact kc_n (Wk.keep [(0, 0)] rfl rfl ⟨ks rfl .dt, ks rfl .dt, ks rfl (.c .bx), ks rfl .dt, ks rfl .dt, ks rfl (.dt (vB (by first | (exfalso; omega) | (rw [hdV]; simp [*]; done) | (rw [hdV]; cases hA : nonA e.i <;> cases hC : nonC e.r <;> simp_all; done)))), kb 0 rfl (.dt rfl), trivial⟩)
      · skip
        refine .cons (.gF rfl rfl rfl) ?_
        refine .cons (.gF rfl rfl rfl) ?_
        refine .cons (.gF rfl rfl rfl) ?_
        refine .cons (.pF rfl rfl rfl) ?_
        refine .cons (.mv rfl rfl) ?_
        refine .cons (.gT rfl rfl rfl (.fP 0 0 false rfl rfl)) ?_
        refine .cons (.gT rfl rfl rfl (.l1 1 rfl rfl)) ?_
        refine .cons (.gT rfl rfl rfl (.ne rfl rfl rfl)) ?_
        refine .cons (.gT rfl rfl rfl (.mv rfl rfl)) ?_
        refine .cND 34 rfl (fun g34 => ?_) (fun g34 => ?_)
        · skip
          refine .cons (.gT rfl rfl rfl (.fP 2 1 true rfl rfl)) ?_
          refine .cons (.gT rfl rfl rfl (.lN 2 rfl rfl rfl)) ?_
          refine .cons (.gT rfl rfl rfl (.cP [.tmp 36] rfl rfl rfl rfl (implNoA_fn _) rfl)) ?_
          refine .cons (.gT rfl rfl rfl (.nt rfl rfl)) ?_
          refine .cons (.gT rfl rfl rfl (.pT rfl rfl rfl)) ?_
          refine .cons (.pF rfl rfl rfl) ?_
          refine .cons (.mv rfl rfl) ?_
          refine AOps.cases 41 _ rfl (fun g41 => ?_) (fun g41 => ?_)
          · try simp only [List.length_map, decide_eq_true_eq, decide_eq_false_iff_not, Bool.not_eq_true', Bool.not_eq_false', Bool.not_eq_true, Bool.not_eq_false] at g41
            refine .cons (.gF rfl rfl rfl) ?_
            refine .cons (.gF rfl rfl rfl) ?_
            refine .cons (.gF rfl rfl rfl) ?_
            refine .cons (.gF rfl rfl rfl) ?_
            refine .cons (.gU rfl rfl) ?_
            refine .cons (.gU rfl rfl) ?_
            refine .cons (.gU rfl rfl) ?_
            refine .cons (.gU rfl rfl) ?_
            refine .cons (.gF rfl rfl rfl) ?_
            refine .cons (.pT rfl rfl rfl) ?_
            refine .nil ?_
            exact kc_n (Wk.keep [(0, 0)] rfl rfl ⟨ks rfl .dt, ks rfl .dt, ks rfl (.c .bx), ks rfl .dt, ks rfl .dt, ks rfl (.dt (vB (by first | (exfalso; omega) | (rw [hdV]; simp [*]; done) | (rw [hdV]; cases hA : nonA e.i <;> cases hC : nonC e.r <;> simp_all; done)))), kb 0 rfl (.dt rfl), trivial⟩)
          · try simp only [List.length_map, decide_eq_true_eq, decide_eq_false_iff_not, Bool.not_eq_true', Bool.not_eq_false', Bool.not_eq_true, Bool.not_eq_false] at g41
            refine .cons (.gT rfl rfl rfl (.fP 0 0 false rfl rfl)) ?_
            refine .cons (.gT rfl rfl rfl (.l1 1 rfl rfl)) ?_
            refine .cons (.gT rfl rfl rfl (.ne rfl rfl rfl)) ?_
            refine .cons (.gT rfl rfl rfl (.mv rfl rfl)) ?_
            refine .cND 45 rfl (fun g45 => ?_) (fun g45 => ?_)
            · skip
              refine .cons (.gT rfl rfl rfl (.fP 4 1 true rfl rfl)) ?_
              refine .cons (.gT rfl rfl rfl (.lN 2 rfl rfl rfl)) ?_
              refine .cons (.gT rfl rfl rfl (.cP [.tmp 47] rfl rfl rfl rfl (implNoC_fn _) rfl)) ?_
              refine .cons (.gT rfl rfl rfl (.nt rfl rfl)) ?_
              refine .cons (.gT rfl rfl rfl (.pT rfl rfl rfl)) ?_
              refine .cons (.pF rfl rfl rfl) ?_
              refine .nil ?_
              exact kc_n (Wk.keep [(0, 0)] rfl rfl ⟨ks rfl .dt, ks rfl .dt, ks rfl (.c .bx), ks rfl .dt, ks rfl .dt, ks rfl (.dt (vB (by first | (exfalso; omega) | (rw [hdV]; simp [*]; done) | (rw [hdV]; cases hA : nonA e.i <;> cases hC : nonC e.r <;> simp_all; done)))), kb 0 rfl (.dt rfl), trivial⟩)
            · skip
              refine .cons (.gF rfl rfl rfl) ?_
              refine .cons (.gF rfl rfl rfl) ?_
              refine .cons (.gF rfl rfl rfl) ?_
              refine .cons (.gF rfl rfl rfl) ?_
              refine .cons (.gT rfl rfl rfl (.pF rfl rfl rfl)) ?_
              refine .cons (.pF rfl rfl rfl) ?_
              refine .nil ?_
              exact kc_n (Wk.keep [(0, 0)] rfl rfl ⟨ks rfl .dt, ks rfl .dt, ks rfl (.c .bx), ks rfl .dt, ks rfl .dt, ks rfl (.dt (vB (by first | (exfalso; omega) | (rw [hdV]; simp [*]; done) | (rw [hdV]; cases hA : nonA e.i <;> cases hC : nonC e.r <;> simp_all; done)))), kb 0 rfl (.dt rfl), trivial⟩)
        · skip
          refine .cons (.gF rfl rfl rfl) ?_
          refine .cons (.gF rfl rfl rfl) ?_
          refine .cons (.gF rfl rfl rfl) ?_
          refine .cons (.gF rfl rfl rfl) ?_
          refine .cons (.gT rfl rfl rfl (.pF rfl rfl rfl)) ?_
          refine .cons (.pF rfl rfl rfl) ?_
          refine .cons (.mv rfl rfl) ?_
          refine .cons (.gT rfl rfl rfl (.fP 0 0 false rfl rfl)) ?_
          refine .cons (.gT rfl rfl rfl (.l1 1 rfl rfl)) ?_
          refine .cons (.gT rfl rfl rfl (.ne rfl rfl rfl)) ?_
          refine .cons (.gT rfl rfl rfl (.mv rfl rfl)) ?_
          refine .cND 45 rfl (fun g45 => ?_) (fun g45 => ?_)
          · skip
            refine .cons (.gT rfl rfl rfl (.fP 4 1 true rfl rfl)) ?_
            refine .cons (.gT rfl rfl rfl (.lN 2 rfl rfl rfl)) ?_
            refine .cons (.gT rfl rfl rfl (.cP [.tmp 47] rfl rfl rfl rfl (implNoC_fn _) rfl)) ?_
            refine .cons (.gT rfl rfl rfl (.nt rfl rfl)) ?_
            refine .cons (.gT rfl rfl rfl (.pT rfl rfl rfl)) ?_
            refine .cons (.pF rfl rfl rfl) ?_
            refine .nil ?_
            exact kc_n (Wk.keep [(0, 0)] rfl rfl ⟨ks rfl .dt, ks rfl .dt, ks rfl (.c .bx), ks rfl .dt, ks rfl .dt, ks rfl (.dt (vB (by first | (exfalso; omega) | (rw [hdV]; simp [*]; done) | (rw [hdV]; cases hA : nonA e.i <;> cases hC : nonC e.r <;> simp_all; done)))), kb 0 rfl (.dt rfl), trivial⟩)
          · skip
            refine .cons (.gF rfl rfl rfl) ?_
            refine .cons (.gF rfl rfl rfl) ?_
            refine .cons (.gF rfl rfl rfl) ?_
            refine .cons (.gF rfl rfl rfl) ?_
            refine .cons (.gT rfl rfl rfl (.pF rfl rfl rfl)) ?_
            refine .cons (.pF rfl rfl rfl) ?_
            refine .nil ?_
            exact kc_n (Wk.keep [(0, 0)] rfl rfl ⟨ks rfl .dt, ks rfl .dt, ks rfl (.c .bx), ks rfl .dt, ks rfl .dt, ks rfl (.dt (vB (by first | (exfalso; omega) | (rw [hdV]; simp [*]; done) | (rw [hdV]; cases hA : nonA e.i <;> cases hC : nonC e.r <;> simp_all; done)))), kb 0 rfl (.dt rfl), trivial⟩)
    refine ks_n ?_
    refine ACode.condT rfl (fun h51 => ?_) (fun h51 => ?_)
    · try simp only [List.length_map, decide_eq_true_eq, decide_eq_false_iff_not, Bool.not_eq_true', Bool.not_eq_false', Bool.not_eq_true, Bool.not_eq_false] at h51
      refine ACode.seq ?_
      have hR := scan_hd (d := d) (L := L) (c := c) h51
      refine ACode.region ?_
      refine .cons (.asg rfl rfl) ?_
      refine .nil ?_
      refine ks_n ?_
      refine ACode.ret ?_
      refine ks_r ?_
      obtain ⟨r, hr⟩ : ∃ r, r = (scanV d (L + 1) c e) := ⟨_, rfl⟩
      rw [← hr]
      rw [← hr] at hR
      refine kf_wret [(.t 3, .v (.o (.c (.box 0 1 0 0)))), (.t 8, .v (.o (bo1 r.1))), (.b 0, .b 3 1 (dR ([rI (r.2 : Nat)]))), (.u 0, .u)] (Wk.keep [(0, 0)] rfl rfl ⟨ks rfl (.c .bx), ks rfl (.dt (vB (by rw [hR] <;> first | rfl | grind))), kb 0 rfl (.dt rfl (by rw [hR] <;> rfl)), trivial⟩) rfl ?_ (hbI_box rfl)
      rfl
    · try simp only [List.length_map, decide_eq_true_eq, decide_eq_false_iff_not, Bool.not_eq_true', Bool.not_eq_false', Bool.not_eq_true, Bool.not_eq_false] at h51
      refine ACode.skip ?_
      refine ks_n ?_
      refine ACode.seq ?_
      refine ACode.block ?_
      refine ACode.seq ?_
      refine ACode.region ?_
      refine .cons (.fP 0 0 false rfl rfl) ?_
      refine .cons (.l1 1 rfl rfl) ?_
      refine .cons (.eq rfl rfl rfl) ?_
      refine .cons (.asg rfl rfl) ?_
      refine .nil ?_
      refine ks_n ?_
      refine .cD rfl (fun h52 => ?_) (fun h52 => ?_)
      · skip
        refine ACode.seq ?_
        have hR := scan1 (d := d) (L := L) h52 h51 hc1
        refine ACode.region ?_
        refine .cons (.fP 1 0 false rfl rfl) ?_
        refine .cons (.l1 1 rfl rfl) ?_
        refine .cons (.cP [.tmp 57, .const (.int .i64 (0)), .const (.int .i64 (99))] rfl rfl rfl rfl (within_fn _ 0 99) rfl) ?_
        refine .cons (.mv rfl rfl) ?_
        refine AOps.cases 59 _ rfl (fun g59 => ?_) (fun g59 => ?_)
        · try simp only [List.length_map, decide_eq_true_eq, decide_eq_false_iff_not, Bool.not_eq_true', Bool.not_eq_false', Bool.not_eq_true, Bool.not_eq_false] at g59
          refine .cons (.gT rfl rfl rfl (.fP 6 0 false rfl rfl)) ?_
          refine .cons (.gT rfl rfl rfl (.l1 1 rfl rfl)) ?_
          refine .cons (.gT rfl rfl rfl (.ln 31 7 112 rfl rfl rfl)) ?_
          refine .cons (.gT rfl rfl rfl (.eq rfl rfl rfl)) ?_
          refine .cons (.pT rfl rfl rfl) ?_
          refine .cons (.asg rfl rfl) ?_
          refine .nil ?_
          refine ks_n ?_
          refine ACode.ret ?_
          refine kb_r ?_
          refine ks_r ?_
          obtain ⟨r, hr⟩ : ∃ r, r = (scanV d (L + 1) c e) := ⟨_, rfl⟩
          rw [← hr]
          rw [← hr] at hR
          refine kf_wret [(.t 3, .v (.o (.c (.box 0 1 0 0)))), (.t 8, .v (.o (bo1 r.1))), (.b 0, .b 3 1 (dR ([rI (r.2 : Nat)]))), (.u 0, .u)] (Wk.keep [(0, 0)] rfl rfl ⟨ks rfl (.c .bx), ks rfl (.dt (vB (by rw [hR] <;> first | rfl | grind))), kb 0 rfl (.dt rfl (by rw [hR] <;> rfl)), trivial⟩) rfl ?_ (hbI_box rfl)
          rfl
        · try simp only [List.length_map, decide_eq_true_eq, decide_eq_false_iff_not, Bool.not_eq_true', Bool.not_eq_false', Bool.not_eq_true, Bool.not_eq_false] at g59
          refine .cons (.gF rfl rfl rfl) ?_
          refine .cons (.gF rfl rfl rfl) ?_
          refine .cons (.gF rfl rfl rfl) ?_
          refine .cons (.gF rfl rfl rfl) ?_
          refine .cons (.pF rfl rfl rfl) ?_
          refine .cons (.asg rfl rfl) ?_
          refine .nil ?_
          refine ks_n ?_
          refine ACode.ret ?_
          refine kb_r ?_
          refine ks_r ?_
          obtain ⟨r, hr⟩ : ∃ r, r = (scanV d (L + 1) c e) := ⟨_, rfl⟩
          rw [← hr]
          rw [← hr] at hR
          refine kf_wret [(.t 3, .v (.o (.c (.box 0 1 0 0)))), (.t 8, .v (.o (bo1 r.1))), (.b 0, .b 3 1 (dR ([rI (r.2 : Nat)]))), (.u 0, .u)] (Wk.keep [(0, 0)] rfl rfl ⟨ks rfl (.c .bx), ks rfl (.dt (vB (by rw [hR] <;> first | rfl | grind))), kb 0 rfl (.dt rfl (by rw [hR] <;> rfl)), trivial⟩) rfl ?_ (hbI_box rfl)
          rfl
      · skip
        refine ACode.seq ?_
        refine ACode.region ?_
        refine .cons (.fP 0 0 false rfl rfl) ?_
        refine .cons (.l1 1 rfl rfl) ?_
        refine .cons (.eq rfl rfl rfl) ?_
        refine .cons (.asg rfl rfl) ?_
        refine .nil ?_
        refine ks_n ?_
        refine .cD rfl (fun h65 => ?_) (fun h65 => ?_)
        · skip
          refine ACode.seq ?_
          have hR := scan2 (d := d) (L := L) h65 h51 hc1
          refine ACode.region ?_
          refine .cons (.fP 2 1 true rfl rfl) ?_
          refine .cons (.lN 2 rfl rfl rfl) ?_
          refine .cons (.cP [.tmp 70] rfl rfl rfl rfl (implAffV_fn _) rfl) ?_
          refine .cons (.mv rfl rfl) ?_
          refine AOps.cases 72 _ rfl (fun g72 => ?_) (fun g72 => ?_)
          · try simp only [List.length_map, decide_eq_true_eq, decide_eq_false_iff_not, Bool.not_eq_true', Bool.not_eq_false', Bool.not_eq_true, Bool.not_eq_false] at g72
            refine .cons (.gT rfl rfl rfl (.fP 2 1 true rfl rfl)) ?_
            refine .cons (.gT rfl rfl rfl (.lN 2 rfl rfl rfl)) ?_
            refine .cons (.gT rfl rfl rfl (.cP [.tmp 74] rfl rfl rfl rfl (depth_fn _) rfl)) ?_
            refine .cons (.gT rfl rfl rfl (.mv rfl rfl)) ?_
            refine .cons (.gT rfl rfl rfl (.le rfl rfl rfl)) ?_
            refine .cons (.pT rfl rfl rfl) ?_
            refine .cons (.mv rfl rfl) ?_
            refine AOps.cases 79 _ rfl (fun g79 => ?_) (fun g79 => ?_)
            · try simp only [List.length_map, decide_eq_true_eq, decide_eq_false_iff_not, Bool.not_eq_true', Bool.not_eq_false', Bool.not_eq_true, Bool.not_eq_false] at g79
              refine .cons (.gT rfl rfl rfl (.fP 6 0 false rfl rfl)) ?_
              refine .cons (.gT rfl rfl rfl (.l1 1 rfl rfl)) ?_
              refine .cons (.gT rfl rfl rfl (.ln 31 7 112 rfl rfl rfl)) ?_
              refine .cons (.gT rfl rfl rfl (.eq rfl rfl rfl)) ?_
              refine .cons (.pT rfl rfl rfl) ?_
              refine .cons (.asg rfl rfl) ?_
              refine .nil ?_
              refine ks_n ?_
              refine ACode.ret ?_
              refine kb_r ?_
              refine ks_r ?_
              obtain ⟨r, hr⟩ : ∃ r, r = (scanV d (L + 1) c e) := ⟨_, rfl⟩
              rw [← hr]
              rw [← hr] at hR
              refine kf_wret [(.t 3, .v (.o (.c (.box 0 1 0 0)))), (.t 8, .v (.o (bo1 r.1))), (.b 0, .b 3 1 (dR ([rI (r.2 : Nat)]))), (.u 0, .u)] (Wk.keep [(0, 0)] rfl rfl ⟨ks rfl (.c .bx), ks rfl (.dt (vB (by rw [hR] <;> first | rfl | grind))), kb 0 rfl (.dt rfl (by rw [hR] <;> rfl)), trivial⟩) rfl ?_ (hbI_box rfl)
              rfl
            · try simp only [List.length_map, decide_eq_true_eq, decide_eq_false_iff_not, Bool.not_eq_true', Bool.not_eq_false', Bool.not_eq_true, Bool.not_eq_false] at g79
              refine .cons (.gF rfl rfl rfl) ?_
              refine .cons (.gF rfl rfl rfl) ?_
              refine .cons (.gF rfl rfl rfl) ?_
              refine .cons (.gF rfl rfl rfl) ?_
              refine .cons (.pF rfl rfl rfl) ?_
              refine .cons (.asg rfl rfl) ?_
              refine .nil ?_
              refine ks_n ?_
              refine ACode.ret ?_
              refine kb_r ?_
              refine ks_r ?_
              obtain ⟨r, hr⟩ : ∃ r, r = (scanV d (L + 1) c e) := ⟨_, rfl⟩
              rw [← hr]
              rw [← hr] at hR
              refine kf_wret [(.t 3, .v (.o (.c (.box 0 1 0 0)))), (.t 8, .v (.o (bo1 r.1))), (.b 0, .b 3 1 (dR ([rI (r.2 : Nat)]))), (.u 0, .u)] (Wk.keep [(0, 0)] rfl rfl ⟨ks rfl (.c .bx), ks rfl (.dt (vB (by rw [hR] <;> first | rfl | grind))), kb 0 rfl (.dt rfl (by rw [hR] <;> rfl)), trivial⟩) rfl ?_ (hbI_box rfl)
              rfl
          · try simp only [List.length_map, decide_eq_true_eq, decide_eq_false_iff_not, Bool.not_eq_true', Bool.not_eq_false', Bool.not_eq_true, Bool.not_eq_false] at g72
            refine .cons (.gF rfl rfl rfl) ?_
            refine .cons (.gF rfl rfl rfl) ?_
            refine .cons (.gF rfl rfl rfl) ?_
            refine .cons (.gF rfl rfl rfl) ?_
            refine .cons (.gF rfl rfl rfl) ?_
            refine .cons (.pF rfl rfl rfl) ?_
            refine .cons (.mv rfl rfl) ?_
            refine .cons (.gF rfl rfl rfl) ?_
            refine .cons (.gF rfl rfl rfl) ?_
            refine .cons (.gF rfl rfl rfl) ?_
            refine .cons (.gF rfl rfl rfl) ?_
            refine .cons (.pF rfl rfl rfl) ?_
            refine .cons (.asg rfl rfl) ?_
            refine .nil ?_
            refine ks_n ?_
            refine ACode.ret ?_
            refine kb_r ?_
            refine ks_r ?_
            obtain ⟨r, hr⟩ : ∃ r, r = (scanV d (L + 1) c e) := ⟨_, rfl⟩
            rw [← hr]
            rw [← hr] at hR
            refine kf_wret [(.t 3, .v (.o (.c (.box 0 1 0 0)))), (.t 8, .v (.o (bo1 r.1))), (.b 0, .b 3 1 (dR ([rI (r.2 : Nat)]))), (.u 0, .u)] (Wk.keep [(0, 0)] rfl rfl ⟨ks rfl (.c .bx), ks rfl (.dt (vB (by rw [hR] <;> first | rfl | grind))), kb 0 rfl (.dt rfl (by rw [hR] <;> rfl)), trivial⟩) rfl ?_ (hbI_box rfl)
            rfl
        · skip
          refine ACode.seq ?_
          refine ACode.region ?_
          refine .cons (.fP 0 0 false rfl rfl) ?_
          refine .cons (.l1 1 rfl rfl) ?_
          refine .cons (.eq rfl rfl rfl) ?_
          refine .cons (.asg rfl rfl) ?_
          refine .nil ?_
          refine ks_n ?_
          refine .cD rfl (fun h85 => ?_) (fun h85 => ?_)
          · skip
            refine ACode.seq ?_
            have hR := scan3 (d := d) (L := L) h85 h51 hc1
            refine ACode.region ?_
            refine .cons (.fP 4 1 true rfl rfl) ?_
            refine .cons (.lN 2 rfl rfl rfl) ?_
            refine .cons (.mv rfl rfl) ?_
            refine .cons (.cP [.tmp 90, .tmp 91] rfl rfl rfl rfl (accOk_fn d _ hrl) rfl) ?_
            refine .cons (.mv rfl rfl) ?_
            refine AOps.cases 93 _ rfl (fun g93 => ?_) (fun g93 => ?_)
            · try simp only [List.length_map, decide_eq_true_eq, decide_eq_false_iff_not, Bool.not_eq_true', Bool.not_eq_false', Bool.not_eq_true, Bool.not_eq_false] at g93
              refine .cons (.gT rfl rfl rfl (.fP 6 0 false rfl rfl)) ?_
              refine .cons (.gT rfl rfl rfl (.l1 1 rfl rfl)) ?_
              refine .cons (.gT rfl rfl rfl (.ln 31 7 112 rfl rfl rfl)) ?_
              refine .cons (.gT rfl rfl rfl (.eq rfl rfl rfl)) ?_
              refine .cons (.pT rfl rfl rfl) ?_
              refine .cons (.asg rfl rfl) ?_
              refine .nil ?_
              refine ks_n ?_
              refine ACode.ret ?_
              refine kb_r ?_
              refine ks_r ?_
              obtain ⟨r, hr⟩ : ∃ r, r = (scanV d (L + 1) c e) := ⟨_, rfl⟩
              rw [← hr]
              rw [← hr] at hR
              refine kf_wret [(.t 3, .v (.o (.c (.box 0 1 0 0)))), (.t 8, .v (.o (bo1 r.1))), (.b 0, .b 3 1 (dR ([rI (r.2 : Nat)]))), (.u 0, .u)] (Wk.keep [(0, 0)] rfl rfl ⟨ks rfl (.c .bx), ks rfl (.dt (vB (by rw [hR] <;> first | rfl | grind))), kb 0 rfl (.dt rfl (by rw [hR] <;> rfl)), trivial⟩) rfl ?_ (hbI_box rfl)
              rfl
            · try simp only [List.length_map, decide_eq_true_eq, decide_eq_false_iff_not, Bool.not_eq_true', Bool.not_eq_false', Bool.not_eq_true, Bool.not_eq_false] at g93
              refine .cons (.gF rfl rfl rfl) ?_
              refine .cons (.gF rfl rfl rfl) ?_
              refine .cons (.gF rfl rfl rfl) ?_
              refine .cons (.gF rfl rfl rfl) ?_
              refine .cons (.pF rfl rfl rfl) ?_
              refine .cons (.asg rfl rfl) ?_
              refine .nil ?_
              refine ks_n ?_
              refine ACode.ret ?_
              refine kb_r ?_
              refine ks_r ?_
              obtain ⟨r, hr⟩ : ∃ r, r = (scanV d (L + 1) c e) := ⟨_, rfl⟩
              rw [← hr]
              rw [← hr] at hR
              refine kf_wret [(.t 3, .v (.o (.c (.box 0 1 0 0)))), (.t 8, .v (.o (bo1 r.1))), (.b 0, .b 3 1 (dR ([rI (r.2 : Nat)]))), (.u 0, .u)] (Wk.keep [(0, 0)] rfl rfl ⟨ks rfl (.c .bx), ks rfl (.dt (vB (by rw [hR] <;> first | rfl | grind))), kb 0 rfl (.dt rfl (by rw [hR] <;> rfl)), trivial⟩) rfl ?_ (hbI_box rfl)
              rfl
          · skip
            refine ACode.seq ?_
            refine ACode.region ?_
            refine .cons (.fP 0 0 false rfl rfl) ?_
            refine .cons (.l1 1 rfl rfl) ?_
            refine .cons (.cP [.tmp 101] rfl rfl rfl rfl (isOp_fn _) rfl) ?_
            refine .cons (.nt rfl rfl) ?_
            refine .cons (.mv rfl rfl) ?_
            refine AOps.cases 104 _ rfl (fun g104 => ?_) (fun g104 => ?_)
            · try simp only [List.length_map, decide_eq_true_eq, decide_eq_false_iff_not, Bool.not_eq_true', Bool.not_eq_false', Bool.not_eq_true, Bool.not_eq_false] at g104
              refine .cons (.gF rfl rfl rfl) ?_
              refine .cons (.gF rfl rfl rfl) ?_
              refine .cons (.gF rfl rfl rfl) ?_
              refine .cons (.gF rfl rfl rfl) ?_
              refine .cons (.pT rfl rfl rfl) ?_
              refine .cons (.asg rfl rfl) ?_
              refine .nil ?_
              refine ks_n ?_
              refine ACode.condT rfl (fun _ => ?_) (fun h => by first | (cases h; done) | (simp [*] at h; done) | (exfalso; simp_all; done))
              refine ACode.seq ?_
              have hR := scan_bad (d := d) (L := L) (c := c) ⟨h52, h65, h85⟩ (by first | exact .inl (by assumption) | exact .inr (by omega))
              refine ACode.region ?_
              refine .cons (.asg rfl rfl) ?_
              refine .nil ?_
              refine ks_n ?_
              refine ACode.ret ?_
              refine kb_r ?_
              refine ks_r ?_
              obtain ⟨r, hr⟩ : ∃ r, r = (scanV d (L + 1) c e) := ⟨_, rfl⟩
              rw [← hr]
              rw [← hr] at hR
              refine kf_wret [(.t 3, .v (.o (.c (.box 0 1 0 0)))), (.t 8, .v (.o (bo1 r.1))), (.b 0, .b 3 1 (dR ([rI (r.2 : Nat)]))), (.u 0, .u)] (Wk.keep [(0, 0)] rfl rfl ⟨ks rfl (.c .bx), ks rfl (.dt (vB (by rw [hR] <;> first | rfl | grind))), kb 0 rfl (.dt rfl (by rw [hR] <;> rfl)), trivial⟩) rfl ?_ (hbI_box rfl)
              rfl
            · try simp only [List.length_map, decide_eq_true_eq, decide_eq_false_iff_not, Bool.not_eq_true', Bool.not_eq_false', Bool.not_eq_true, Bool.not_eq_false] at g104
              refine .cons (.gT rfl rfl rfl (.fP 6 0 false rfl rfl)) ?_
              refine .cons (.gT rfl rfl rfl (.l1 1 rfl rfl)) ?_
              refine .cons (.gT rfl rfl rfl (.ln 31 7 112 rfl rfl rfl)) ?_
              refine .cons (.gT rfl rfl rfl (.ne rfl rfl rfl)) ?_
              refine .cons (.pF rfl rfl rfl) ?_
              refine .cons (.asg rfl rfl) ?_
              refine .nil ?_
              refine ks_n ?_
              refine ACode.condT rfl (fun h99 => ?_) (fun h99 => ?_)
              · try simp only [List.length_map, decide_eq_true_eq, decide_eq_false_iff_not, Bool.not_eq_true', Bool.not_eq_false', Bool.not_eq_true, Bool.not_eq_false] at h99
                refine ACode.seq ?_
                have hR := scan_bad (d := d) (L := L) (c := c) ⟨h52, h65, h85⟩ (by first | exact .inl (by assumption) | exact .inr (by omega))
                refine ACode.region ?_
                refine .cons (.asg rfl rfl) ?_
                refine .nil ?_
                refine ks_n ?_
                refine ACode.ret ?_
                refine kb_r ?_
                refine ks_r ?_
                obtain ⟨r, hr⟩ : ∃ r, r = (scanV d (L + 1) c e) := ⟨_, rfl⟩
                rw [← hr]
                rw [← hr] at hR
                refine kf_wret [(.t 3, .v (.o (.c (.box 0 1 0 0)))), (.t 8, .v (.o (bo1 r.1))), (.b 0, .b 3 1 (dR ([rI (r.2 : Nat)]))), (.u 0, .u)] (Wk.keep [(0, 0)] rfl rfl ⟨ks rfl (.c .bx), ks rfl (.dt (vB (by rw [hR] <;> first | rfl | grind))), kb 0 rfl (.dt rfl (by rw [hR] <;> rfl)), trivial⟩) rfl ?_ (hbI_box rfl)
                rfl
              · try simp only [List.length_map, decide_eq_true_eq, decide_eq_false_iff_not, Bool.not_eq_true', Bool.not_eq_false', Bool.not_eq_true, Bool.not_eq_false] at h99
                refine ACode.skip ?_
                refine kb_n ?_
                refine ks_n ?_
                refine ACode.seq ?_
                obtain ⟨x, y, hks⟩ := two_of (l := e.ks) (by omega)
                have hR := scan_op (d := d) (L := L) (by assumption) h51 hc1 hks
                obtain ⟨_, hx2, _, _⟩ := scanV_iff d L (c + 1) x
                refine ACode.region ?_
                refine .cons (.fP 6 0 false rfl rfl) ?_
                refine .cons (.l1 1 rfl rfl) ?_
                refine .cons (.xL 31 7 112 (i := 0) rfl rfl rfl rfl rfl (by rw [hks]; exact rE_at rfl)) ?_
                refine .cons (.lN 7 rfl rfl rfl) ?_
                refine .cons (.mv rfl rfl) ?_
                refine .cons (.mv rfl rfl) ?_
                refine .cons (.pl rfl rfl rfl) ?_
                refine .cons (.mv rfl rfl) ?_
                refine .cons (.cO [.tmp 113, .tmp 114, .tmp 116, .tmp 117] [(0, 0)] rfl rfl rfl rfl (ih x (by rw [hks]; simp) (c + 1) (by omega)) rfl ⟨rfl, trivial⟩ (hbI_flat _) (hbI_flat _) (hbI_HB _) outS_one) ?_
                refine .cons (.mv rfl rfl) ?_
                refine AOps.cases 119 _ rfl (fun g119 => ?_) (fun g119 => ?_)
                · try simp only [List.length_map, decide_eq_true_eq, decide_eq_false_iff_not, Bool.not_eq_true', Bool.not_eq_false', Bool.not_eq_true, Bool.not_eq_false] at g119
                  have hc2 : (scanV d L (c + 1) x).2 ≤ 12 := by have h1 := hx2 g119; have h2 := ((scanV_iff d L (c + 1) x).1.1 g119).2; omega
                  rw [if_pos g119] at hR
                  refine .cons (.gT rfl rfl rfl (.fP 6 0 false rfl rfl)) ?_
                  refine .cons (.gT rfl rfl rfl (.l1 1 rfl rfl)) ?_
                  refine .cons (.gT rfl rfl rfl (.xL 31 7 112 (i := 1) rfl rfl rfl rfl rfl (by rw [hks]; exact rE_at rfl))) ?_
                  refine .cons (.gT rfl rfl rfl (.lN 7 rfl rfl rfl)) ?_
                  refine .cons (.gT rfl rfl rfl (.mv rfl rfl)) ?_
                  refine .cons (.gT rfl rfl rfl (.mv rfl rfl)) ?_
                  refine .cons (.gT rfl rfl rfl (.pl rfl rfl rfl)) ?_
                  refine .cons (.gT rfl rfl rfl (.mv rfl rfl)) ?_
                  refine .cons (.gT rfl rfl rfl (.cO [.tmp 123, .tmp 124, .tmp 126, .tmp 127] [(0, 0)] rfl rfl rfl rfl (ih y (by rw [hks]; simp) (scanV d L (c + 1) x).2 hc2) rfl ⟨rfl, trivial⟩ (hbI_flat _) (hbI_flat _) (hbI_HB _) outS_one)) ?_
                  refine .cons (.pT rfl rfl rfl) ?_
                  refine .cons (.asg rfl rfl) ?_
                  refine .nil ?_
                  refine ks_n ?_
                  refine ACode.ret ?_
                  obtain ⟨r, hr⟩ : ∃ r, r = (scanV d (L + 1) c e) := ⟨_, rfl⟩
                  rw [← hr]
                  rw [← hr] at hR
                  refine kf_wret [(.t 3, .v (.o (.c (.box 0 1 0 0)))), (.t 8, .v (.o (bo1 r.1))), (.b 0, .b 3 1 (dR ([rI (r.2 : Nat)]))), (.u 0, .u)] (Wk.keep [(0, 0)] rfl rfl ⟨ks rfl (.c .bx), ks rfl (.dt (vB (by rw [hR] <;> first | rfl | grind))), kb 0 rfl (.dt rfl (by rw [hR] <;> rfl)), trivial⟩) rfl ?_ (hbI_box rfl)
                  rfl
                · try simp only [List.length_map, decide_eq_true_eq, decide_eq_false_iff_not, Bool.not_eq_true', Bool.not_eq_false', Bool.not_eq_true, Bool.not_eq_false] at g119
                  rw [if_neg (by rw [g119]; simp)] at hR
                  refine .cons (.gF rfl rfl rfl) ?_
                  refine .cons (.gF rfl rfl rfl) ?_
                  refine .cons (.gF rfl rfl rfl) ?_
                  refine .cons (.gF rfl rfl rfl) ?_
                  refine .cons (.gF rfl rfl rfl) ?_
                  refine .cons (.gF rfl rfl rfl) ?_
                  refine .cons (.gF rfl rfl rfl) ?_
                  refine .cons (.gF rfl rfl rfl) ?_
                  refine .cons (.gF rfl rfl rfl) ?_
                  refine .cons (.pF rfl rfl rfl) ?_
                  refine .cons (.asg rfl rfl) ?_
                  refine .nil ?_
                  refine ks_n ?_
                  refine ACode.ret ?_
                  obtain ⟨r, hr⟩ : ∃ r, r = (scanV d (L + 1) c e) := ⟨_, rfl⟩
                  rw [← hr]
                  rw [← hr] at hR
                  refine kf_wret [(.t 3, .v (.o (.c (.box 0 1 0 0)))), (.t 8, .v (.o (bo1 r.1))), (.b 0, .b 3 1 (dR ([rI (r.2 : Nat)]))), (.u 0, .u)] (Wk.keep [(0, 0)] rfl rfl ⟨ks rfl (.c .bx), ks rfl (.dt (vB (by rw [hR] <;> first | rfl | grind))), kb 0 rfl (.dt rfl (by rw [hR] <;> rfl)), trivial⟩) rfl ?_ (hbI_box rfl)
                  rfl

theorem szE_eq (e : Ex) : szE e = e.i.1.length + szC e.r + e.ks.length + szEs e.ks := by cases e; rw [szE]; rfl
theorem exprScan_fn (d : Nat) : ∀ (L : Nat) (deep : Int) (c : Nat) (e : Ex), deep = 6 - (L : Int) → L ≤ 5 → c ≤ 12 → szE e ≤ 1099511627776 →
    Fn Try.prog 55 (hbI (c : Nat)) [ad (rX e), nat1 (d : Nat), nat1 deep, .c (.box 0 1 0 0)] (.o (bo1 (scanV d L c e).1)) (hbI ((scanV d L c e).2 : Nat))
  | 0, deep, c, e, hd, hL, hc, hs => scan_zero d hc (by omega) (by rw [szE_eq, szC] at hs; have := szAs_len e.r.2; omega) (by omega)
  | L + 1, deep, c, e, hd, hL, hc, hs => scan_succ d hc (by omega) (by rw [szE_eq, szC] at hs; have := szAs_len e.r.2; omega) (by omega) fun x hx c hc =>
      exprScan_fn d L (deep + 1) c x (by omega) (by omega) hc (by have := szEs_mem hx; rw [szE_eq] at hs; omega)

end Go.Proofs.Ytigdfdhjnadieaa

/- Statements: validity walked; condition: small lists. -/
namespace Go.Proofs.Ytigdfdhjnadieaa
set_option linter.unusedVariables false
set_option linter.unusedSimpArgs false
open Go.RowKit

theorem szS_parts {s : Stm} (hs : szS s ≤ 1099511627776) : s.1.2.length ≤ 1099511627776 ∧ szE s.2 ≤ 1099511627776 := by
  rw [szS, szC] at hs
  have := szAs_len s.1.2
  exact ⟨by omega, by omega⟩
theorem stmtV_no {d : Int} {s : Stm} (h : inB d 0 4 = false) : stmtV d s = false := by rw [stmtV, h]; rfl
theorem stmtV_w {d : Int} {s : Stm} (h : inB d 0 4 = true) : stmtV d s = (accV d.toNat s.1 && (scanV d.toNat 5 0 s.2).1) := by
  rw [stmtV, h, Bool.true_and, Bool.and_assoc]
  congr 1
  rw [Bool.eq_iff_iff, Bool.and_eq_true, decide_eq_true_eq, (scanV_iff d.toNat 5 0 s.2).1, Nat.zero_add]

theorem accOk_fi {d : Int} (h : ((d.toNat : Nat) : Int) = d) (a : Acc) (ha : a.2.length ≤ 1099511627776) : Fn Try.prog 54 [] [ad (rC a), nat1 d] (.o (bo1 (accV d.toNat a))) [] := by
  have h2 := accOk_fn d.toNat a ha
  rw [h] at h2; exact h2
theorem exprScan_fi {d : Int} (h : ((d.toNat : Nat) : Int) = d) (e : Ex) (hs : szE e ≤ 1099511627776) : Fn Try.prog 55 (hbI 0) [ad (rX e), nat1 d, nat1 1, .c (.box 0 1 0 0)] (.o (bo1 (scanV d.toNat 5 0 e).1)) (hbI ((scanV d.toNat 5 0 e).2 : Nat)) := by
  have h2 := exprScan_fn d.toNat 5 1 0 e (by omega) (by omega) (by omega) hs
  rw [h] at h2; exact h2

set_option maxRecDepth 100000 in
set_option maxHeartbeats 1600000 in
theorem implStmtV_fn (d : Int) (s : Stm) (hs : szS s ≤ 1099511627776) : Fn Try.prog 16 [] [ad (rS s), nat1 d] (.o (bo1 (stmtV d s))) [] := by
  obtain ⟨hs1, hs2⟩ := szS_parts hs
  refine Fn.code0 Try.func16 rfl rfl rfl rfl ?_
  refine ACode.seq ?_
  refine ACode.region ?_
  refine .cons (St1.boxP rfl rfl rfl rfl rfl rfl) ?_
  refine .cons (.asg rfl rfl) ?_
  refine .nil ?_
  refine ks_n ?_
  refine ACode.seq ?_
  refine ACode.region ?_
  refine .cons (.al 105 [.int .i64 0] rfl rfl rfl) ?_
  refine .cons (.sT 1 false rfl rfl rfl rfl rfl rfl rfl) ?_
  refine .nil ?_
  refine ks_n ?_
  refine ACode.seq ?_
  refine ACode.region ?_
  refine .cons (.mv rfl rfl) ?_
  refine .cons (.cP [.tmp 6, .const (.int .i64 (0)), .const (.int .i64 (4))] rfl rfl rfl rfl (within_fn _ 0 4) rfl) ?_
  refine .cons (.mv rfl rfl) ?_
  refine AOps.cases 8 _ rfl (fun g8 => ?_) (fun g8 => ?_)
  · try simp only [List.length_map, decide_eq_true_eq, decide_eq_false_iff_not, Bool.not_eq_true', Bool.not_eq_false', Bool.not_eq_true, Bool.not_eq_false] at g8
    have hD : ((d.toNat : Nat) : Int) = d := by simp only [inB, decide_eq_true_eq] at g8; omega
    refine .cons (.gT rfl rfl rfl (.fP 0 1 true rfl rfl)) ?_
    refine .cons (.gT rfl rfl rfl (.lN 2 rfl rfl rfl)) ?_
    refine .cons (.gT rfl rfl rfl (.mv rfl rfl)) ?_
    refine .cons (.gT rfl rfl rfl (.cP [.tmp 10, .tmp 11] rfl rfl rfl rfl (accOk_fi hD s.1 hs1) rfl)) ?_
    refine .cons (.pT rfl rfl rfl) ?_
    refine .cons (.mv rfl rfl) ?_
    refine AOps.cases 14 _ rfl (fun g14 => ?_) (fun g14 => ?_)
    · try simp only [List.length_map, decide_eq_true_eq, decide_eq_false_iff_not, Bool.not_eq_true', Bool.not_eq_false', Bool.not_eq_true, Bool.not_eq_false] at g14
      refine .cons (.gT rfl rfl rfl (.fP 2 6 true rfl rfl)) ?_
      refine .cons (.gT rfl rfl rfl (.lN 7 rfl rfl rfl)) ?_
      refine .cons (.gT rfl rfl rfl (.mv rfl rfl)) ?_
      refine .cons (.gT rfl rfl rfl (.cO [.tmp 16, .tmp 17, .const (.int .i64 (1)), .tmp 5] [(0, 105)] rfl rfl rfl rfl (exprScan_fi hD s.2 hs2) rfl ⟨rfl, trivial⟩ (hbI_flat _) (hbI_flat _) (hbI_HB _) outS_one)) ?_
      refine .cons (.pT rfl rfl rfl) ?_
      refine .cons (.asg rfl rfl) ?_
      refine .nil ?_
      refine ks_n ?_
      refine ACode.ret ?_
      refine kf_ret rfl ?_ nobox
      first | exact leafB (stmtV_no g8).symm | exact leafB (by rw [stmtV_w g8, g14]; first | rfl | simp)
    · try simp only [List.length_map, decide_eq_true_eq, decide_eq_false_iff_not, Bool.not_eq_true', Bool.not_eq_false', Bool.not_eq_true, Bool.not_eq_false] at g14
      refine .cons (.gF rfl rfl rfl) ?_
      refine .cons (.gF rfl rfl rfl) ?_
      refine .cons (.gF rfl rfl rfl) ?_
      refine .cons (.gF rfl rfl rfl) ?_
      refine .cons (.pF rfl rfl rfl) ?_
      refine .cons (.asg rfl rfl) ?_
      refine .nil ?_
      refine ks_n ?_
      refine ACode.ret ?_
      refine kf_ret rfl ?_ nobox
      first | exact leafB (stmtV_no g8).symm | exact leafB (by rw [stmtV_w g8, g14]; first | rfl | simp)
  · try simp only [List.length_map, decide_eq_true_eq, decide_eq_false_iff_not, Bool.not_eq_true', Bool.not_eq_false', Bool.not_eq_true, Bool.not_eq_false] at g8
    refine .cons (.gF rfl rfl rfl) ?_
    refine .cons (.gF rfl rfl rfl) ?_
    refine .cons (.gF rfl rfl rfl) ?_
    refine .cons (.gF rfl rfl rfl) ?_
    refine .cons (.pF rfl rfl rfl) ?_
    refine .cons (.mv rfl rfl) ?_
    refine .cons (.gF rfl rfl rfl) ?_
    refine .cons (.gF rfl rfl rfl) ?_
    refine .cons (.gF rfl rfl rfl) ?_
    refine .cons (.gF rfl rfl rfl) ?_
    refine .cons (.pF rfl rfl rfl) ?_
    refine .cons (.asg rfl rfl) ?_
    refine .nil ?_
    refine ks_n ?_
    refine ACode.ret ?_
    refine kf_ret rfl ?_ nobox
    first | exact leafB (stmtV_no g8).symm | exact leafB (by rw [stmtV_w g8, g14]; first | rfl | simp)

set_option maxRecDepth 100000 in
set_option maxHeartbeats 1600000 in
theorem isStmt_fn (s : Stm) (hs : szS s ≤ 1099511627776) : Fn Try.prog 59 [] [ad (rS s)] (.o (bo1 (stmtV 4 s))) [] := by
  refine Fn.code0 Try.func59 rfl rfl rfl rfl ?_
  refine ACode.seq ?_
  refine ACode.region ?_
  refine .cons (St1.boxP rfl rfl rfl rfl rfl rfl) ?_
  refine .cons (.asg rfl rfl) ?_
  refine .nil ?_
  refine ks_n ?_
  refine ACode.seq ?_
  refine ACode.region ?_
  refine .cons (.lN 9 rfl rfl rfl) ?_
  refine .cons (.cP [.tmp 3, .const (.int .i64 (4))] rfl rfl rfl rfl (implStmtV_fn 4 s hs) rfl) ?_
  refine .cons (.asg rfl rfl) ?_
  refine .nil ?_
  refine ks_n ?_
  refine ACode.ret ?_
  refine kf_ret rfl ?_ nobox
  rfl

theorem kids_eq (k : Int) (n : Nat) : kidV k n = decide ((if 1 ≤ k ∧ k ≤ 3 then (0 : Int) else if 4 ≤ k ∧ k ≤ 6 then 2 else -1) = (n : Nat)) := by
  rw [kidV]
  split
  · rw [decide_eq_decide]; omega
  · split
    · rw [decide_eq_decide]; omega
    · rw [decide_eq_false]; omega
theorem arr_leaf {s : ByteArray} (h : s.size = 1) : arrV s = (!sLt s ⟨#[65]⟩ && (sLt s ⟨#[68]⟩ || sEq s ⟨#[68]⟩)) := by
  have hsz : s.size = s.data.toList.length := Lib.size_eq s
  obtain ⟨b, hb⟩ : ∃ b, s.data.toList = [b] := List.length_eq_one_iff.1 (by omega)
  obtain rfl : s = ⟨#[b]⟩ := by
    cases s with
    | mk data => exact congrArg ByteArray.mk (Array.toList_inj.1 (by rw [hb]))
  have key : ∀ n : Fin 256, arrV ⟨#[UInt8.ofNat n.val]⟩ = (!sLt ⟨#[UInt8.ofNat n.val]⟩ ⟨#[65]⟩ && (sLt ⟨#[UInt8.ofNat n.val]⟩ ⟨#[68]⟩ || sEq ⟨#[UInt8.ofNat n.val]⟩ ⟨#[68]⟩)) := by decide +kernel
  have := key ⟨b.toNat, b.toNat_lt⟩
  simpa using this

set_option maxRecDepth 100000 in
set_option maxHeartbeats 1600000 in
theorem l3Kids_fn (k : Int) : Fn Try.prog 118 [] [nat1 k] (.o (nat1 (if 1 ≤ k ∧ k ≤ 3 then 0 else if 4 ≤ k ∧ k ≤ 6 then 2 else -1))) [] := by
  refine Fn.code0 Try.func118 rfl rfl rfl rfl ?_
  refine ACode.seq ?_
  refine ACode.region ?_
  refine .cons (.asg rfl rfl) ?_
  refine .nil ?_
  refine ks_n ?_
  refine ACode.seq ?_
  refine ACode.seq ?_
  refine ACode.region ?_
  refine .cons (.mv rfl rfl) ?_
  refine .nil ?_
  refine ks_n ?_
  refine ACode.block ?_
  refine ACode.seq ?_
  refine ACode.cut [(.t 2, .v (.o (nat1 0))), (.t 3, .v (.o (nat1 k))), (.t 4, .v (.o (bo1 (decide (1 ≤ k ∧ k ≤ 3)))))] ?_ ?_
  · skip
    refine ACode.seq ?_
    refine ACode.region ?_
    refine .cons (.eq rfl rfl rfl) ?_
    refine .cons (.asg rfl rfl) ?_
    refine .nil ?_
    refine ks_n ?_
    refine .cD rfl (fun h4 => ?_) (fun h4 => ?_)
    · skip
      refine ACode.skip ?_
      exact kc_n (Wk.keep [] rfl rfl ⟨ks rfl .dt, ks rfl .dt, ks rfl (.dt (vB (by first | rfl | grind))), trivial⟩)
    · skip
      refine ACode.seq ?_
      refine ACode.region ?_
      refine .cons (.eq rfl rfl rfl) ?_
      refine .cons (.asg rfl rfl) ?_
      refine .nil ?_
      refine ks_n ?_
      refine .cD rfl (fun h4 => ?_) (fun h4 => ?_)
      · skip
        refine ACode.skip ?_
        exact kc_n (Wk.keep [] rfl rfl ⟨ks rfl .dt, ks rfl .dt, ks rfl (.dt (vB (by first | rfl | grind))), trivial⟩)
      · skip
        refine ACode.region ?_
        refine .cons (.eq rfl rfl rfl) ?_
        refine .cons (.asg rfl rfl) ?_
        refine .nil ?_
        exact kc_n (Wk.keep [] rfl rfl ⟨ks rfl .dt, ks rfl .dt, ks rfl (.dt (vB (by first | rfl | grind))), trivial⟩)
  refine ks_n ?_
  refine ACode.condT rfl (fun h4 => ?_) (fun h4 => ?_)
  · try simp only [List.length_map, decide_eq_true_eq, decide_eq_false_iff_not, Bool.not_eq_true', Bool.not_eq_false', Bool.not_eq_true, Bool.not_eq_false] at h4
    refine ACode.seq ?_
    refine ACode.region ?_
    refine .cons (.asg rfl rfl) ?_
    refine .nil ?_
    refine ks_n ?_
    refine ACode.ret ?_
    refine kb_r ?_
    refine ks_r ?_
    refine kf_ret rfl ?_ nobox
    first | exact leafI (by rw [if_pos h4]) | exact leafI (by rw [if_neg h4, if_pos h8]) | exact leafI (by rw [if_neg h4, if_neg h8])
  · try simp only [List.length_map, decide_eq_true_eq, decide_eq_false_iff_not, Bool.not_eq_true', Bool.not_eq_false', Bool.not_eq_true, Bool.not_eq_false] at h4
    refine ACode.seq ?_
    refine ACode.cut [(.t 2, .v (.o (nat1 0))), (.t 3, .v (.o (nat1 k))), (.t 8, .v (.o (bo1 (decide (4 ≤ k ∧ k ≤ 6)))))] ?_ ?_
    · skip
      refine ACode.seq ?_
      refine ACode.region ?_
      refine .cons (.eq rfl rfl rfl) ?_
      refine .cons (.asg rfl rfl) ?_
      refine .nil ?_
      refine ks_n ?_
      refine .cD rfl (fun h8 => ?_) (fun h8 => ?_)
      · skip
        refine ACode.skip ?_
        exact kc_n (Wk.keep [] rfl rfl ⟨ks rfl .dt, ks rfl .dt, ks rfl (.dt (vB (by first | rfl | grind))), trivial⟩)
      · skip
        refine ACode.seq ?_
        refine ACode.region ?_
        refine .cons (.eq rfl rfl rfl) ?_
        refine .cons (.asg rfl rfl) ?_
        refine .nil ?_
        refine ks_n ?_
        refine .cD rfl (fun h8 => ?_) (fun h8 => ?_)
        · skip
          refine ACode.skip ?_
          exact kc_n (Wk.keep [] rfl rfl ⟨ks rfl .dt, ks rfl .dt, ks rfl (.dt (vB (by first | rfl | grind))), trivial⟩)
        · skip
          refine ACode.region ?_
          refine .cons (.eq rfl rfl rfl) ?_
          refine .cons (.asg rfl rfl) ?_
          refine .nil ?_
          exact kc_n (Wk.keep [] rfl rfl ⟨ks rfl .dt, ks rfl .dt, ks rfl (.dt (vB (by first | rfl | grind))), trivial⟩)
    refine ks_n ?_
    refine ACode.condT rfl (fun h8 => ?_) (fun h8 => ?_)
    · try simp only [List.length_map, decide_eq_true_eq, decide_eq_false_iff_not, Bool.not_eq_true', Bool.not_eq_false', Bool.not_eq_true, Bool.not_eq_false] at h8
      refine ACode.seq ?_
      refine ACode.region ?_
      refine .cons (.asg rfl rfl) ?_
      refine .nil ?_
      refine ks_n ?_
      refine ACode.ret ?_
      refine kb_r ?_
      refine ks_r ?_
      refine kf_ret rfl ?_ nobox
      first | exact leafI (by rw [if_pos h4]) | exact leafI (by rw [if_neg h4, if_pos h8]) | exact leafI (by rw [if_neg h4, if_neg h8])
    · try simp only [List.length_map, decide_eq_true_eq, decide_eq_false_iff_not, Bool.not_eq_true', Bool.not_eq_false', Bool.not_eq_true, Bool.not_eq_false] at h8
      refine ACode.skip ?_
      refine kb_n ?_
      refine ks_n ?_
      refine ACode.seq ?_
      refine ACode.region ?_
      refine .cons (.asg rfl rfl) ?_
      refine .nil ?_
      refine ks_n ?_
      refine ACode.ret ?_
      refine kf_ret rfl ?_ nobox
      first | exact leafI (by rw [if_pos h4]) | exact leafI (by rw [if_neg h4, if_pos h8]) | exact leafI (by rw [if_neg h4, if_neg h8])

set_option maxRecDepth 100000 in
set_option maxHeartbeats 1600000 in
theorem l3Access_fn (d : Nat) (a : Acc) (ha : a.2.length ≤ 1099511627776) : Fn Try.prog 56 [] [ad (rC a), nat1 (d : Nat)] (.o (bo1 (accV d a))) [] := by
  refine Fn.code0 Try.func56 rfl rfl rfl rfl ?_
  refine ACode.seq ?_
  refine ACode.region ?_
  refine .cons (St1.boxP rfl rfl rfl rfl rfl rfl) ?_
  refine .cons (.asg rfl rfl) ?_
  refine .nil ?_
  refine ks_n ?_
  refine ACode.seq ?_
  refine ACode.seq ?_
  refine ACode.region ?_
  refine .cons (.asg rfl rfl) ?_
  refine .nil ?_
  refine ks_n ?_
  refine ACode.block ?_
  refine .loopK (fun m σ => (∃ i : Nat, m = a.2.length - i ∧ (i ≤ a.2.length) ∧ (a.2.all (bndV d) = (a.2.drop i).all (bndV d)) ∧ σ = [(.t 1, .v (.o (nat1 (d : Nat)))), (.t 2, .v (.o (.c (.ptr (rC a))))), (.t 4, .v (.o (bo1 false))), (.t 5, .v (.o (nat1 (i : Nat))))])) [] ⟨0, rfl, by omega, by simp, rfl⟩ ⟨ks rfl .dt, ks rfl .dt, ks rfl .dt, ks rfl .dt, trivial⟩ ?_
  rintro m σ ⟨i, hm0, hi, hF, rfl⟩
  refine ACode.seq ?_
  refine ACode.seq ?_
  refine ACode.region ?_
  refine .cons (.mv rfl rfl) ?_
  refine .cons (.fP 1 0 false rfl rfl) ?_
  refine .cons (.l1 1 rfl rfl) ?_
  refine .cons (.ln 28 2 32 rfl rfl rfl) ?_
  refine .cons (.ls rfl rfl rfl) ?_
  refine .nil ?_
  refine ks_n ?_
  refine .cD rfl (fun h10 => ?_) (fun h10 => ?_)
  · skip
    obtain ⟨x, hx1⟩ : ∃ x, a.2[i]? = some x := ⟨_, List.getElem?_eq_getElem (by omega)⟩
    refine ACode.skip ?_
    refine ks_n ?_
    refine ACode.seq ?_
    refine ACode.block ?_
    refine ACode.seq ?_
    refine ACode.region ?_
    refine .cons (.fP 1 0 false rfl rfl) ?_
    refine .cons (.l1 1 rfl rfl) ?_
    refine .cons (.mv rfl rfl) ?_
    refine .cons (.xL 28 2 32 rfl rfl rfl rfl rfl) ?_
    refine .cons (.lN 2 rfl rfl rfl) ?_
    refine .cons (.cP [.tmp 17] rfl rfl rfl rfl (specAffV_fn x) rfl) ?_
    refine .cons (.nt rfl rfl) ?_
    refine .cons (.mv rfl rfl) ?_
    refine AOps.cases 20 _ rfl (fun g20 => ?_) (fun g20 => ?_)
    · try simp only [List.length_map, decide_eq_true_eq, decide_eq_false_iff_not, Bool.not_eq_true', Bool.not_eq_false', Bool.not_eq_true, Bool.not_eq_false] at g20
      refine .cons (.gF rfl rfl rfl) ?_
      refine .cons (.gF rfl rfl rfl) ?_
      refine .cons (.gF rfl rfl rfl) ?_
      refine .cons (.gF rfl rfl rfl) ?_
      refine .cons (.gF rfl rfl rfl) ?_
      refine .cons (.gF rfl rfl rfl) ?_
      refine .cons (.gF rfl rfl rfl) ?_
      refine .cons (.gF rfl rfl rfl) ?_
      refine .cons (.pT rfl rfl rfl) ?_
      refine .nil ?_
      refine ks_n ?_
      refine ACode.condT rfl (fun _ => ?_) (fun h => by first | (cases h; done) | (simp [*] at h; done) | (exfalso; simp_all; done))
      refine ACode.seq ?_
      have g : bndV d x = false := bnd_no (by first | exact .inl (by assumption) | exact .inr (by omega))
      refine ACode.region ?_
      refine .cons (.asg rfl rfl) ?_
      refine .nil ?_
      refine ks_n ?_
      refine ACode.ret ?_
      refine kb_r ?_
      refine ks_r ?_
      refine kl_r ?_
      refine kb_r ?_
      refine ks_r ?_
      refine kf_ret rfl ?_ nobox
      exact leafB (by rw [accV, sideV, hF, all_drop hx1, g, Bool.false_and, Bool.false_and, Bool.false_and, Bool.and_false])
    · try simp only [List.length_map, decide_eq_true_eq, decide_eq_false_iff_not, Bool.not_eq_true', Bool.not_eq_false', Bool.not_eq_true, Bool.not_eq_false] at g20
      have g20 := g20
      refine .cons (.gT rfl rfl rfl (.fP 1 0 false rfl rfl)) ?_
      refine .cons (.gT rfl rfl rfl (.l1 1 rfl rfl)) ?_
      refine .cons (.gT rfl rfl rfl (.mv rfl rfl)) ?_
      refine .cons (.gT rfl rfl rfl (.xL 28 2 32 rfl rfl rfl rfl rfl)) ?_
      refine .cons (.gT rfl rfl rfl (.lN 2 rfl rfl rfl)) ?_
      refine .cons (.gT rfl rfl rfl (.cP [.tmp 25] rfl rfl rfl rfl (l1Depth_fn x) rfl)) ?_
      refine .cons (.gT rfl rfl rfl (.mv rfl rfl)) ?_
      refine .cons (.gT rfl rfl rfl (.gt rfl rfl rfl)) ?_
      refine .cons (.pF rfl rfl rfl) ?_
      refine .nil ?_
      refine ks_n ?_
      refine ACode.condT rfl (fun h29 => ?_) (fun h29 => ?_)
      · try simp only [List.length_map, decide_eq_true_eq, decide_eq_false_iff_not, Bool.not_eq_true', Bool.not_eq_false', Bool.not_eq_true, Bool.not_eq_false] at h29
        refine ACode.seq ?_
        have g : bndV d x = false := bnd_no (by first | exact .inl (by assumption) | exact .inr (by omega))
        refine ACode.region ?_
        refine .cons (.asg rfl rfl) ?_
        refine .nil ?_
        refine ks_n ?_
        refine ACode.ret ?_
        refine kb_r ?_
        refine ks_r ?_
        refine kl_r ?_
        refine kb_r ?_
        refine ks_r ?_
        refine kf_ret rfl ?_ nobox
        exact leafB (by rw [accV, sideV, hF, all_drop hx1, g, Bool.false_and, Bool.false_and, Bool.false_and, Bool.and_false])
      · try simp only [List.length_map, decide_eq_true_eq, decide_eq_false_iff_not, Bool.not_eq_true', Bool.not_eq_false', Bool.not_eq_true, Bool.not_eq_false] at h29
        replace h29 : ¬ d < affDepth x := by omega
        refine ACode.skip ?_
        refine kb_n ?_
        refine ks_n ?_
        refine ACode.region ?_
        refine .cons (.mv rfl rfl) ?_
        refine .cons (.pl rfl rfl rfl) ?_
        refine .cons (.asg rfl rfl) ?_
        refine .nil ?_
        refine kl_k [] ⟨i + 1, rfl, by omega, by rw [hF, all_drop hx1, bnd_yes g20 h29, Bool.true_and], rfl⟩ ⟨ks rfl .dt, ks rfl .dt, ks rfl .dt, ks rfl .dt, trivial⟩
  · skip
    have hA : a.2.all (bndV d) = true := by rw [hF, List.drop_of_length_le (by omega)]; rfl
    refine ACode.exit ?_
    refine ks_e ?_
    refine kl_e ?_
    refine kb_hit ?_
    refine ks_n ?_
    refine ACode.seq ?_
    refine ACode.region ?_
    refine .cons (.fP 0 0 false rfl rfl) ?_
    refine .cons (.l1 1 rfl rfl) ?_
    refine .cons (St1.lenS rfl rfl rfl rfl rfl (by kernel_rfl) rfl) ?_
    refine .cons (.eq rfl rfl rfl) ?_
    refine .cons (.mv rfl rfl) ?_
    refine .cD 34 rfl (fun g34 => ?_) (fun g34 => ?_)
    · skip
      have h1s : a.1.size = 1 := by omega
      have hAr := arr_leaf h1s
      refine .cons (.gT rfl rfl rfl (.fP 0 0 false rfl rfl)) ?_
      refine .cons (.gT rfl rfl rfl (.l1 1 rfl rfl)) ?_
      refine .cons (.gT rfl rfl rfl (St1.geS rfl rfl rfl)) ?_
      refine .cons (.pT rfl rfl rfl) ?_
      refine .cons (.mv rfl rfl) ?_
      refine AOps.cases 39 _ rfl (fun g39 => ?_) (fun g39 => ?_)
      · try simp only [List.length_map, decide_eq_true_eq, decide_eq_false_iff_not, Bool.not_eq_true', Bool.not_eq_false', Bool.not_eq_true, Bool.not_eq_false] at g39
        refine .cons (.gT rfl rfl rfl (.fP 0 0 false rfl rfl)) ?_
        refine .cons (.gT rfl rfl rfl (.l1 1 rfl rfl)) ?_
        refine .cons (.gT rfl rfl rfl (St1.leS rfl rfl rfl)) ?_
        refine .cons (.pT rfl rfl rfl) ?_
        refine .cons (.mv rfl rfl) ?_
        refine AOps.cases 44 _ rfl (fun g44 => ?_) (fun g44 => ?_)
        · try simp only [List.length_map, decide_eq_true_eq, decide_eq_false_iff_not, Bool.not_eq_true', Bool.not_eq_false', Bool.not_eq_true, Bool.not_eq_false] at g44
          refine .cons (.gT rfl rfl rfl (.fP 1 0 false rfl rfl)) ?_
          refine .cons (.gT rfl rfl rfl (.l1 1 rfl rfl)) ?_
          refine .cons (.gT rfl rfl rfl (.ln 28 2 32 rfl rfl rfl)) ?_
          refine .cons (.gT rfl rfl rfl (.ge rfl rfl rfl)) ?_
          refine .cons (.pT rfl rfl rfl) ?_
          refine .cons (.mv rfl rfl) ?_
          refine AOps.cases 50 _ rfl (fun g50 => ?_) (fun g50 => ?_)
          · try simp only [List.length_map, decide_eq_true_eq, decide_eq_false_iff_not, Bool.not_eq_true', Bool.not_eq_false', Bool.not_eq_true, Bool.not_eq_false] at g50
            refine .cons (.gT rfl rfl rfl (.fP 1 0 false rfl rfl)) ?_
            refine .cons (.gT rfl rfl rfl (.l1 1 rfl rfl)) ?_
            refine .cons (.gT rfl rfl rfl (.ln 28 2 32 rfl rfl rfl)) ?_
            refine .cons (.gT rfl rfl rfl (.le rfl rfl rfl)) ?_
            refine .cons (.pT rfl rfl rfl) ?_
            refine .cons (.asg rfl rfl) ?_
            refine .nil ?_
            refine ks_n ?_
            refine ACode.ret ?_
            refine kf_ret rfl ?_ nobox
            exact leafB (by rw [accV, hAr, sideV, hA]; first | rfl | grind)
          · try simp only [List.length_map, decide_eq_true_eq, decide_eq_false_iff_not, Bool.not_eq_true', Bool.not_eq_false', Bool.not_eq_true, Bool.not_eq_false] at g50
            refine .cons (.gF rfl rfl rfl) ?_
            refine .cons (.gF rfl rfl rfl) ?_
            refine .cons (.gF rfl rfl rfl) ?_
            refine .cons (.gF rfl rfl rfl) ?_
            refine .cons (.pF rfl rfl rfl) ?_
            refine .cons (.asg rfl rfl) ?_
            refine .nil ?_
            refine ks_n ?_
            refine ACode.ret ?_
            refine kf_ret rfl ?_ nobox
            exact leafB (by rw [accV, hAr, sideV, hA]; first | rfl | grind)
        · try simp only [List.length_map, decide_eq_true_eq, decide_eq_false_iff_not, Bool.not_eq_true', Bool.not_eq_false', Bool.not_eq_true, Bool.not_eq_false] at g44
          refine .cons (.gF rfl rfl rfl) ?_
          refine .cons (.gF rfl rfl rfl) ?_
          refine .cons (.gF rfl rfl rfl) ?_
          refine .cons (.gF rfl rfl rfl) ?_
          refine .cons (.pF rfl rfl rfl) ?_
          refine .cons (.mv rfl rfl) ?_
          refine .cons (.gF rfl rfl rfl) ?_
          refine .cons (.gF rfl rfl rfl) ?_
          refine .cons (.gF rfl rfl rfl) ?_
          refine .cons (.gF rfl rfl rfl) ?_
          refine .cons (.pF rfl rfl rfl) ?_
          refine .cons (.asg rfl rfl) ?_
          refine .nil ?_
          refine ks_n ?_
          refine ACode.ret ?_
          refine kf_ret rfl ?_ nobox
          exact leafB (by rw [accV, hAr, sideV, hA]; first | rfl | grind)
      · try simp only [List.length_map, decide_eq_true_eq, decide_eq_false_iff_not, Bool.not_eq_true', Bool.not_eq_false', Bool.not_eq_true, Bool.not_eq_false] at g39
        refine .cons (.gF rfl rfl rfl) ?_
        refine .cons (.gF rfl rfl rfl) ?_
        refine .cons (.gF rfl rfl rfl) ?_
        refine .cons (.pF rfl rfl rfl) ?_
        refine .cons (.mv rfl rfl) ?_
        refine .cons (.gF rfl rfl rfl) ?_
        refine .cons (.gF rfl rfl rfl) ?_
        refine .cons (.gF rfl rfl rfl) ?_
        refine .cons (.gF rfl rfl rfl) ?_
        refine .cons (.pF rfl rfl rfl) ?_
        refine .cons (.mv rfl rfl) ?_
        refine .cons (.gF rfl rfl rfl) ?_
        refine .cons (.gF rfl rfl rfl) ?_
        refine .cons (.gF rfl rfl rfl) ?_
        refine .cons (.gF rfl rfl rfl) ?_
        refine .cons (.pF rfl rfl rfl) ?_
        refine .cons (.asg rfl rfl) ?_
        refine .nil ?_
        refine ks_n ?_
        refine ACode.ret ?_
        refine kf_ret rfl ?_ nobox
        exact leafB (by rw [accV, hAr, sideV, hA]; first | rfl | grind)
    · skip
      have hAr := arrV_size (s := a.1) (by omega)
      refine .cons (.gF rfl rfl rfl) ?_
      refine .cons (.gF rfl rfl rfl) ?_
      refine .cons (.gF rfl rfl rfl) ?_
      refine .cons (.pF rfl rfl rfl) ?_
      refine .cons (.mv rfl rfl) ?_
      refine .cons (.gF rfl rfl rfl) ?_
      refine .cons (.gF rfl rfl rfl) ?_
      refine .cons (.gF rfl rfl rfl) ?_
      refine .cons (.pF rfl rfl rfl) ?_
      refine .cons (.mv rfl rfl) ?_
      refine .cons (.gF rfl rfl rfl) ?_
      refine .cons (.gF rfl rfl rfl) ?_
      refine .cons (.gF rfl rfl rfl) ?_
      refine .cons (.gF rfl rfl rfl) ?_
      refine .cons (.pF rfl rfl rfl) ?_
      refine .cons (.mv rfl rfl) ?_
      refine .cons (.gF rfl rfl rfl) ?_
      refine .cons (.gF rfl rfl rfl) ?_
      refine .cons (.gF rfl rfl rfl) ?_
      refine .cons (.gF rfl rfl rfl) ?_
      refine .cons (.pF rfl rfl rfl) ?_
      refine .cons (.asg rfl rfl) ?_
      refine .nil ?_
      refine ks_n ?_
      refine ACode.ret ?_
      refine kf_ret rfl ?_ nobox
      exact leafB (by rw [accV, hAr, sideV, hA]; first | rfl | grind)

set_option maxRecDepth 100000 in
set_option maxHeartbeats 1600000 in
theorem l3Own_fn (d : Nat) (e : Ex) (hr : e.r.2.length ≤ 1099511627776) : Fn Try.prog 119 [] [ad (rX e), nat1 (d : Nat)] (.o (bo1 (fldV d e.k e.n e.i e.r))) [] := by
  refine Fn.code0 Try.func119 rfl rfl rfl rfl ?_
  refine ACode.seq ?_
  refine ACode.region ?_
  refine .cons (St1.boxP rfl rfl rfl rfl rfl rfl) ?_
  refine .cons (.asg rfl rfl) ?_
  refine .nil ?_
  refine ks_n ?_
  refine ACode.seq ?_
  refine ACode.seq ?_
  refine ACode.region ?_
  refine .cons (.fP 0 0 false rfl rfl) ?_
  refine .cons (.l1 1 rfl rfl) ?_
  refine .cons (.eq rfl rfl rfl) ?_
  refine .nil ?_
  refine ks_n ?_
  refine .cD rfl (fun h7 => ?_) (fun h7 => ?_)
  · skip
    refine ACode.seq ?_
    refine ACode.region ?_
    refine .cons (.fP 1 0 false rfl rfl) ?_
    refine .cons (.l1 1 rfl rfl) ?_
    refine .cons (.eq rfl rfl rfl) ?_
    refine .cons (.mv rfl rfl) ?_
    refine .cD 11 rfl (fun g11 => ?_) (fun g11 => ?_)
    · skip
      refine .cons (.gT rfl rfl rfl (.fP 4 1 true rfl rfl)) ?_
      refine .cons (.gT rfl rfl rfl (.lN 2 rfl rfl rfl)) ?_
      refine .cons (.gT rfl rfl rfl (.cP [.tmp 13] rfl rfl rfl rfl (l3Empty_fn _) rfl)) ?_
      refine .cons (.pT rfl rfl rfl) ?_
      refine .cons (.mv rfl rfl) ?_
      refine AOps.cases 16 _ rfl (fun g16 => ?_) (fun g16 => ?_)
      · try simp only [List.length_map, decide_eq_true_eq, decide_eq_false_iff_not, Bool.not_eq_true', Bool.not_eq_false', Bool.not_eq_true, Bool.not_eq_false] at g16
        refine .cons (.gT rfl rfl rfl (.fP 2 1 true rfl rfl)) ?_
        refine .cons (.gT rfl rfl rfl (.lN 2 rfl rfl rfl)) ?_
        refine .cons (.gT rfl rfl rfl (.cP [.tmp 18] rfl rfl rfl rfl (specAffV_fn _) rfl)) ?_
        refine .cons (.pT rfl rfl rfl) ?_
        refine .cons (.mv rfl rfl) ?_
        refine AOps.cases 21 _ rfl (fun g21 => ?_) (fun g21 => ?_)
        · try simp only [List.length_map, decide_eq_true_eq, decide_eq_false_iff_not, Bool.not_eq_true', Bool.not_eq_false', Bool.not_eq_true, Bool.not_eq_false] at g21
          refine .cons (.gT rfl rfl rfl (.fP 2 1 true rfl rfl)) ?_
          refine .cons (.gT rfl rfl rfl (.lN 2 rfl rfl rfl)) ?_
          refine .cons (.gT rfl rfl rfl (.cP [.tmp 23] rfl rfl rfl rfl (l1Depth_fn _) rfl)) ?_
          refine .cons (.gT rfl rfl rfl (.mv rfl rfl)) ?_
          refine .cons (.gT rfl rfl rfl (.le rfl rfl rfl)) ?_
          refine .cons (.pT rfl rfl rfl) ?_
          refine .cons (.asg rfl rfl) ?_
          refine .nil ?_
          refine ks_n ?_
          refine ACode.ret ?_
          refine ks_r ?_
          refine kf_ret rfl ?_ nobox
          exact leafB (by rw [fldV, if_neg (show ¬ e.k = 1 by omega), if_pos h7]; cases hA : affV e.i <;> cases hC : nonC e.r <;> first | rfl | grind)
        · try simp only [List.length_map, decide_eq_true_eq, decide_eq_false_iff_not, Bool.not_eq_true', Bool.not_eq_false', Bool.not_eq_true, Bool.not_eq_false] at g21
          refine .cons (.gF rfl rfl rfl) ?_
          refine .cons (.gF rfl rfl rfl) ?_
          refine .cons (.gF rfl rfl rfl) ?_
          refine .cons (.gF rfl rfl rfl) ?_
          refine .cons (.gF rfl rfl rfl) ?_
          refine .cons (.pF rfl rfl rfl) ?_
          refine .cons (.asg rfl rfl) ?_
          refine .nil ?_
          refine ks_n ?_
          refine ACode.ret ?_
          refine ks_r ?_
          refine kf_ret rfl ?_ nobox
          exact leafB (by rw [fldV, if_neg (show ¬ e.k = 1 by omega), if_pos h7]; cases hA : affV e.i <;> cases hC : nonC e.r <;> first | rfl | grind)
      · try simp only [List.length_map, decide_eq_true_eq, decide_eq_false_iff_not, Bool.not_eq_true', Bool.not_eq_false', Bool.not_eq_true, Bool.not_eq_false] at g16
        refine .cons (.gF rfl rfl rfl) ?_
        refine .cons (.gF rfl rfl rfl) ?_
        refine .cons (.gF rfl rfl rfl) ?_
        refine .cons (.pF rfl rfl rfl) ?_
        refine .cons (.mv rfl rfl) ?_
        refine .cons (.gF rfl rfl rfl) ?_
        refine .cons (.gF rfl rfl rfl) ?_
        refine .cons (.gF rfl rfl rfl) ?_
        refine .cons (.gF rfl rfl rfl) ?_
        refine .cons (.gF rfl rfl rfl) ?_
        refine .cons (.pF rfl rfl rfl) ?_
        refine .cons (.asg rfl rfl) ?_
        refine .nil ?_
        refine ks_n ?_
        refine ACode.ret ?_
        refine ks_r ?_
        refine kf_ret rfl ?_ nobox
        exact leafB (by rw [fldV, if_neg (show ¬ e.k = 1 by omega), if_pos h7]; cases hA : affV e.i <;> cases hC : nonC e.r <;> first | rfl | grind)
    · skip
      refine .cons (.gF rfl rfl rfl) ?_
      refine .cons (.gF rfl rfl rfl) ?_
      refine .cons (.gF rfl rfl rfl) ?_
      refine .cons (.pF rfl rfl rfl) ?_
      refine .cons (.mv rfl rfl) ?_
      refine .cons (.gF rfl rfl rfl) ?_
      refine .cons (.gF rfl rfl rfl) ?_
      refine .cons (.gF rfl rfl rfl) ?_
      refine .cons (.pF rfl rfl rfl) ?_
      refine .cons (.mv rfl rfl) ?_
      refine .cons (.gF rfl rfl rfl) ?_
      refine .cons (.gF rfl rfl rfl) ?_
      refine .cons (.gF rfl rfl rfl) ?_
      refine .cons (.gF rfl rfl rfl) ?_
      refine .cons (.gF rfl rfl rfl) ?_
      refine .cons (.pF rfl rfl rfl) ?_
      refine .cons (.asg rfl rfl) ?_
      refine .nil ?_
      refine ks_n ?_
      refine ACode.ret ?_
      refine ks_r ?_
      refine kf_ret rfl ?_ nobox
      exact leafB (by rw [fldV, if_neg (show ¬ e.k = 1 by omega), if_pos h7]; cases hA : affV e.i <;> cases hC : nonC e.r <;> first | rfl | grind)
  · skip
    refine ACode.skip ?_
    refine ks_n ?_
    refine ACode.seq ?_
    refine ACode.seq ?_
    refine ACode.region ?_
    refine .cons (.fP 0 0 false rfl rfl) ?_
    refine .cons (.l1 1 rfl rfl) ?_
    refine .cons (.eq rfl rfl rfl) ?_
    refine .nil ?_
    refine ks_n ?_
    refine .cD rfl (fun h30 => ?_) (fun h30 => ?_)
    · skip
      refine ACode.seq ?_
      refine ACode.region ?_
      refine .cons (.fP 1 0 false rfl rfl) ?_
      refine .cons (.l1 1 rfl rfl) ?_
      refine .cons (.eq rfl rfl rfl) ?_
      refine .cons (.mv rfl rfl) ?_
      refine .cD 34 rfl (fun g34 => ?_) (fun g34 => ?_)
      · skip
        refine .cons (.gT rfl rfl rfl (.fP 2 1 true rfl rfl)) ?_
        refine .cons (.gT rfl rfl rfl (.lN 2 rfl rfl rfl)) ?_
        refine .cons (.gT rfl rfl rfl (.cP [.tmp 36] rfl rfl rfl rfl (l3None_fn _) rfl)) ?_
        refine .cons (.pT rfl rfl rfl) ?_
        refine .cons (.mv rfl rfl) ?_
        refine AOps.cases 39 _ rfl (fun g39 => ?_) (fun g39 => ?_)
        · try simp only [List.length_map, decide_eq_true_eq, decide_eq_false_iff_not, Bool.not_eq_true', Bool.not_eq_false', Bool.not_eq_true, Bool.not_eq_false] at g39
          refine .cons (.gT rfl rfl rfl (.fP 4 1 true rfl rfl)) ?_
          refine .cons (.gT rfl rfl rfl (.lN 2 rfl rfl rfl)) ?_
          refine .cons (.gT rfl rfl rfl (.mv rfl rfl)) ?_
          refine .cons (.gT rfl rfl rfl (.cP [.tmp 41, .tmp 42] rfl rfl rfl rfl (l3Access_fn d _ hr) rfl)) ?_
          refine .cons (.pT rfl rfl rfl) ?_
          refine .cons (.asg rfl rfl) ?_
          refine .nil ?_
          refine ks_n ?_
          refine ACode.ret ?_
          refine ks_r ?_
          refine kf_ret rfl ?_ nobox
          exact leafB (by rw [fldV, if_neg (show ¬ e.k = 1 by omega), if_neg h7, if_pos h30]; cases hA : nonA e.i <;> cases hC : accV d e.r <;> first | rfl | grind)
        · try simp only [List.length_map, decide_eq_true_eq, decide_eq_false_iff_not, Bool.not_eq_true', Bool.not_eq_false', Bool.not_eq_true, Bool.not_eq_false] at g39
          refine .cons (.gF rfl rfl rfl) ?_
          refine .cons (.gF rfl rfl rfl) ?_
          refine .cons (.gF rfl rfl rfl) ?_
          refine .cons (.gF rfl rfl rfl) ?_
          refine .cons (.pF rfl rfl rfl) ?_
          refine .cons (.asg rfl rfl) ?_
          refine .nil ?_
          refine ks_n ?_
          refine ACode.ret ?_
          refine ks_r ?_
          refine kf_ret rfl ?_ nobox
          exact leafB (by rw [fldV, if_neg (show ¬ e.k = 1 by omega), if_neg h7, if_pos h30]; cases hA : nonA e.i <;> cases hC : accV d e.r <;> first | rfl | grind)
      · skip
        refine .cons (.gF rfl rfl rfl) ?_
        refine .cons (.gF rfl rfl rfl) ?_
        refine .cons (.gF rfl rfl rfl) ?_
        refine .cons (.pF rfl rfl rfl) ?_
        refine .cons (.mv rfl rfl) ?_
        refine .cons (.gF rfl rfl rfl) ?_
        refine .cons (.gF rfl rfl rfl) ?_
        refine .cons (.gF rfl rfl rfl) ?_
        refine .cons (.gF rfl rfl rfl) ?_
        refine .cons (.pF rfl rfl rfl) ?_
        refine .cons (.asg rfl rfl) ?_
        refine .nil ?_
        refine ks_n ?_
        refine ACode.ret ?_
        refine ks_r ?_
        refine kf_ret rfl ?_ nobox
        exact leafB (by rw [fldV, if_neg (show ¬ e.k = 1 by omega), if_neg h7, if_pos h30]; cases hA : nonA e.i <;> cases hC : accV d e.r <;> first | rfl | grind)
    · skip
      refine ACode.skip ?_
      refine ks_n ?_
      refine ACode.seq ?_
      refine ACode.seq ?_
      refine ACode.region ?_
      refine .cons (.fP 0 0 false rfl rfl) ?_
      refine .cons (.l1 1 rfl rfl) ?_
      refine .cons (.eq rfl rfl rfl) ?_
      refine .nil ?_
      refine ks_n ?_
      refine .cD rfl (fun h47 => ?_) (fun h47 => ?_)
      · skip
        refine ACode.seq ?_
        refine ACode.region ?_
        refine .cons (.fP 1 0 false rfl rfl) ?_
        refine .cons (.l1 1 rfl rfl) ?_
        refine .cons (.ge rfl rfl rfl) ?_
        refine .cons (.mv rfl rfl) ?_
        refine .cD 51 rfl (fun g51 => ?_) (fun g51 => ?_)
        · skip
          refine .cons (.gT rfl rfl rfl (.fP 1 0 false rfl rfl)) ?_
          refine .cons (.gT rfl rfl rfl (.l1 1 rfl rfl)) ?_
          refine .cons (.gT rfl rfl rfl (.le rfl rfl rfl)) ?_
          refine .cons (.pT rfl rfl rfl) ?_
          refine .cons (.mv rfl rfl) ?_
          refine AOps.cases 56 _ rfl (fun g56 => ?_) (fun g56 => ?_)
          · try simp only [List.length_map, decide_eq_true_eq, decide_eq_false_iff_not, Bool.not_eq_true', Bool.not_eq_false', Bool.not_eq_true, Bool.not_eq_false] at g56
            refine .cons (.gT rfl rfl rfl (.fP 2 1 true rfl rfl)) ?_
            refine .cons (.gT rfl rfl rfl (.lN 2 rfl rfl rfl)) ?_
            refine .cons (.gT rfl rfl rfl (.cP [.tmp 58] rfl rfl rfl rfl (l3None_fn _) rfl)) ?_
            refine .cons (.pT rfl rfl rfl) ?_
            refine .cons (.mv rfl rfl) ?_
            refine AOps.cases 61 _ rfl (fun g61 => ?_) (fun g61 => ?_)
            · try simp only [List.length_map, decide_eq_true_eq, decide_eq_false_iff_not, Bool.not_eq_true', Bool.not_eq_false', Bool.not_eq_true, Bool.not_eq_false] at g61
              refine .cons (.gT rfl rfl rfl (.fP 4 1 true rfl rfl)) ?_
              refine .cons (.gT rfl rfl rfl (.lN 2 rfl rfl rfl)) ?_
              refine .cons (.gT rfl rfl rfl (.cP [.tmp 63] rfl rfl rfl rfl (l3Empty_fn _) rfl)) ?_
              refine .cons (.pT rfl rfl rfl) ?_
              refine .cons (.asg rfl rfl) ?_
              refine .nil ?_
              refine ks_n ?_
              refine ACode.ret ?_
              refine ks_r ?_
              refine kf_ret rfl ?_ nobox
              exact leafB (by rw [fldV, if_pos h47, inB]; cases hA : nonA e.i <;> cases hC : nonC e.r <;> first | rfl | grind)
            · try simp only [List.length_map, decide_eq_true_eq, decide_eq_false_iff_not, Bool.not_eq_true', Bool.not_eq_false', Bool.not_eq_true, Bool.not_eq_false] at g61
              refine .cons (.gF rfl rfl rfl) ?_
              refine .cons (.gF rfl rfl rfl) ?_
              refine .cons (.gF rfl rfl rfl) ?_
              refine .cons (.pF rfl rfl rfl) ?_
              refine .cons (.asg rfl rfl) ?_
              refine .nil ?_
              refine ks_n ?_
              refine ACode.ret ?_
              refine ks_r ?_
              refine kf_ret rfl ?_ nobox
              exact leafB (by rw [fldV, if_pos h47, inB]; cases hA : nonA e.i <;> cases hC : nonC e.r <;> first | rfl | grind)
          · try simp only [List.length_map, decide_eq_true_eq, decide_eq_false_iff_not, Bool.not_eq_true', Bool.not_eq_false', Bool.not_eq_true, Bool.not_eq_false] at g56
            refine .cons (.gF rfl rfl rfl) ?_
            refine .cons (.gF rfl rfl rfl) ?_
            refine .cons (.gF rfl rfl rfl) ?_
            refine .cons (.pF rfl rfl rfl) ?_
            refine .cons (.mv rfl rfl) ?_
            refine .cons (.gF rfl rfl rfl) ?_
            refine .cons (.gF rfl rfl rfl) ?_
            refine .cons (.gF rfl rfl rfl) ?_
            refine .cons (.pF rfl rfl rfl) ?_
            refine .cons (.asg rfl rfl) ?_
            refine .nil ?_
            refine ks_n ?_
            refine ACode.ret ?_
            refine ks_r ?_
            refine kf_ret rfl ?_ nobox
            exact leafB (by rw [fldV, if_pos h47, inB]; cases hA : nonA e.i <;> cases hC : nonC e.r <;> first | rfl | grind)
        · skip
          refine .cons (.gF rfl rfl rfl) ?_
          refine .cons (.gF rfl rfl rfl) ?_
          refine .cons (.gF rfl rfl rfl) ?_
          refine .cons (.pF rfl rfl rfl) ?_
          refine .cons (.mv rfl rfl) ?_
          refine .cons (.gF rfl rfl rfl) ?_
          refine .cons (.gF rfl rfl rfl) ?_
          refine .cons (.gF rfl rfl rfl) ?_
          refine .cons (.pF rfl rfl rfl) ?_
          refine .cons (.mv rfl rfl) ?_
          refine .cons (.gF rfl rfl rfl) ?_
          refine .cons (.gF rfl rfl rfl) ?_
          refine .cons (.gF rfl rfl rfl) ?_
          refine .cons (.pF rfl rfl rfl) ?_
          refine .cons (.asg rfl rfl) ?_
          refine .nil ?_
          refine ks_n ?_
          refine ACode.ret ?_
          refine ks_r ?_
          refine kf_ret rfl ?_ nobox
          exact leafB (by rw [fldV, if_pos h47, inB]; cases hA : nonA e.i <;> cases hC : nonC e.r <;> first | rfl | grind)
      · skip
        refine ACode.skip ?_
        refine ks_n ?_
        refine ACode.seq ?_
        refine ACode.region ?_
        refine .cons (.fP 1 0 false rfl rfl) ?_
        refine .cons (.l1 1 rfl rfl) ?_
        refine .cons (.eq rfl rfl rfl) ?_
        refine .cons (.mv rfl rfl) ?_
        refine .cD 69 rfl (fun g69 => ?_) (fun g69 => ?_)
        · skip
          refine .cons (.gT rfl rfl rfl (.fP 2 1 true rfl rfl)) ?_
          refine .cons (.gT rfl rfl rfl (.lN 2 rfl rfl rfl)) ?_
          refine .cons (.gT rfl rfl rfl (.cP [.tmp 71] rfl rfl rfl rfl (l3None_fn _) rfl)) ?_
          refine .cons (.pT rfl rfl rfl) ?_
          refine .cons (.mv rfl rfl) ?_
          refine AOps.cases 74 _ rfl (fun g74 => ?_) (fun g74 => ?_)
          · try simp only [List.length_map, decide_eq_true_eq, decide_eq_false_iff_not, Bool.not_eq_true', Bool.not_eq_false', Bool.not_eq_true, Bool.not_eq_false] at g74
            refine .cons (.gT rfl rfl rfl (.fP 4 1 true rfl rfl)) ?_
            refine .cons (.gT rfl rfl rfl (.lN 2 rfl rfl rfl)) ?_
            refine .cons (.gT rfl rfl rfl (.cP [.tmp 76] rfl rfl rfl rfl (l3Empty_fn _) rfl)) ?_
            refine .cons (.pT rfl rfl rfl) ?_
            refine .cons (.asg rfl rfl) ?_
            refine .nil ?_
            refine ks_n ?_
            refine ACode.ret ?_
            refine kf_ret rfl ?_ nobox
            exact leafB (by rw [fldV, if_neg h47, if_neg h7, if_neg h30]; cases hA : nonA e.i <;> cases hC : nonC e.r <;> first | rfl | grind)
          · try simp only [List.length_map, decide_eq_true_eq, decide_eq_false_iff_not, Bool.not_eq_true', Bool.not_eq_false', Bool.not_eq_true, Bool.not_eq_false] at g74
            refine .cons (.gF rfl rfl rfl) ?_
            refine .cons (.gF rfl rfl rfl) ?_
            refine .cons (.gF rfl rfl rfl) ?_
            refine .cons (.pF rfl rfl rfl) ?_
            refine .cons (.asg rfl rfl) ?_
            refine .nil ?_
            refine ks_n ?_
            refine ACode.ret ?_
            refine kf_ret rfl ?_ nobox
            exact leafB (by rw [fldV, if_neg h47, if_neg h7, if_neg h30]; cases hA : nonA e.i <;> cases hC : nonC e.r <;> first | rfl | grind)
        · skip
          refine .cons (.gF rfl rfl rfl) ?_
          refine .cons (.gF rfl rfl rfl) ?_
          refine .cons (.gF rfl rfl rfl) ?_
          refine .cons (.pF rfl rfl rfl) ?_
          refine .cons (.mv rfl rfl) ?_
          refine .cons (.gF rfl rfl rfl) ?_
          refine .cons (.gF rfl rfl rfl) ?_
          refine .cons (.gF rfl rfl rfl) ?_
          refine .cons (.pF rfl rfl rfl) ?_
          refine .cons (.asg rfl rfl) ?_
          refine .nil ?_
          refine ks_n ?_
          refine ACode.ret ?_
          refine kf_ret rfl ?_ nobox
          exact leafB (by rw [fldV, if_neg h47, if_neg h7, if_neg h30]; cases hA : nonA e.i <;> cases hC : nonC e.r <;> first | rfl | grind)

set_option maxRecDepth 100000 in
set_option maxHeartbeats 1600000 in
theorem shape_zero (d : Nat) (lv : Int) (hl : lv < 1) (e : Ex) (hr : e.r.2.length ≤ 1099511627776) (hkl : e.ks.length ≤ 1099511627776) : Fn Try.prog 57 [] [ad (rX e), nat1 (d : Nat), nat1 lv] (.o (bo1 false)) [] := by
  refine Fn.code0 Try.func57 rfl rfl rfl rfl ?_
  refine ACode.seq ?_
  refine ACode.region ?_
  refine .cons (St1.boxP rfl rfl rfl rfl rfl rfl) ?_
  refine .cons (.asg rfl rfl) ?_
  refine .nil ?_
  refine ks_n ?_
  refine ACode.seq ?_
  refine ACode.seq ?_
  refine ACode.drawK (by kernel_rfl) (by kernel_rfl) ?_
  refine .cons (.mv rfl rfl) ?_
  refine .cons (.ls rfl rfl rfl) ?_
  refine .cons (.mv rfl rfl) ?_
  refine .cD 10 rfl (fun g10 => ?_) (fun g10 => ?_)
  · skip
    refine .cons (.gF rfl rfl rfl) ?_
    refine .cons (.gF rfl rfl rfl) ?_
    refine .cons (.gF rfl rfl rfl) ?_
    refine .cons (.gF rfl rfl rfl) ?_
    refine .cons (.gF rfl rfl rfl) ?_
    refine .cons (.gF rfl rfl rfl) ?_
    refine .cons (.gF rfl rfl rfl) ?_
    refine .cons (.pT rfl rfl rfl) ?_
    refine .cons (.mv rfl rfl) ?_
    refine .cons (.gF rfl rfl rfl) ?_
    refine .cons (.gF rfl rfl rfl) ?_
    refine .cons (.gF rfl rfl rfl) ?_
    refine .cons (.gF rfl rfl rfl) ?_
    refine .cons (.pT rfl rfl rfl) ?_
    refine .nil ⟨by kernel_rfl, ?_⟩
    refine ks_n ?_
    refine ACode.condT rfl (fun _ => ?_) (fun h => by first | (cases h; done) | (simp [*] at h; done) | (exfalso; simp_all; done))
    refine ACode.seq ?_
    refine ACode.region ?_
    refine .cons (.asg rfl rfl) ?_
    refine .nil ?_
    refine ks_n ?_
    refine ACode.ret ?_
    refine ks_r ?_
    refine kf_ret rfl ?_ nobox
    rfl
  · skip
    exact absurd hl g10

set_option maxRecDepth 100000 in
set_option maxHeartbeats 1600000 in
theorem shape_succ (d L : Nat) (lv : Int) (hl : ¬ lv < 1) (hl2 : lv ≤ 100) (e : Ex) (hr : e.r.2.length ≤ 1099511627776) (hkl : e.ks.length ≤ 1099511627776) (ih : ∀ x ∈ e.ks, Fn Try.prog 57 [] [ad (rX x), nat1 (d : Nat), nat1 (lv - 1)] (.o (bo1 (exV d L x))) []) : Fn Try.prog 57 [] [ad (rX e), nat1 (d : Nat), nat1 lv] (.o (bo1 (exV d (L + 1) e))) [] := by
  refine Fn.code0 Try.func57 rfl rfl rfl rfl ?_
  refine ACode.seq ?_
  refine ACode.region ?_
  refine .cons (St1.boxP rfl rfl rfl rfl rfl rfl) ?_
  refine .cons (.asg rfl rfl) ?_
  refine .nil ?_
  refine ks_n ?_
  refine ACode.seq ?_
  refine ACode.seq ?_
  refine ACode.cut [(.t 1, .v (.o (nat1 (d : Nat)))), (.t 2, .v (.o (nat1 lv))), (.t 3, .v (.o (.c (.ptr (rX e))))), (.t 6, .v (.o (bo1 false))), (.t 24, .v (.o (bo1 (!(kidV e.k e.ks.length && fldV d e.k e.n e.i e.r)))))] ?_ ?_
  · skip
    refine ACode.drawK (by kernel_rfl) (by kernel_rfl) ?_
    refine .cons (.mv rfl rfl) ?_
    refine .cons (.ls rfl rfl rfl) ?_
    refine .cons (.mv rfl rfl) ?_
    refine .cD 10 rfl (fun g10 => ?_) (fun g10 => ?_)
    · skip
      exact absurd g10 hl
    · skip
      refine .cons (.gT rfl rfl rfl (.fP 0 0 false rfl rfl)) ?_
      refine .cons (.gT rfl rfl rfl (.l1 1 rfl rfl)) ?_
      refine .cons (.gT rfl rfl rfl (.cP [.tmp 12] rfl rfl rfl rfl (l3Kids_fn _) rfl)) ?_
      refine .cons (.gT rfl rfl rfl (.fP 6 0 false rfl rfl)) ?_
      refine .cons (.gT rfl rfl rfl (.l1 1 rfl rfl)) ?_
      refine .cons (.gT rfl rfl rfl (.ln 31 7 112 rfl rfl rfl)) ?_
      refine .cons (.gT rfl rfl rfl (.ne rfl rfl rfl)) ?_
      refine .cons (.pF rfl rfl rfl) ?_
      refine .cons (.mv rfl rfl) ?_
      refine RunK.cases 19 _ rfl (fun g19 => ?_) (fun g19 => ?_)
      · try simp only [List.length_map, decide_eq_true_eq, decide_eq_false_iff_not, Bool.not_eq_true', Bool.not_eq_false', Bool.not_eq_true, Bool.not_eq_false] at g19
        refine .cons (.gF rfl rfl rfl) ?_
        refine .cons (.gF rfl rfl rfl) ?_
        refine .cons (.gF rfl rfl rfl) ?_
        refine .cons (.gF rfl rfl rfl) ?_
        refine .cons (.pT rfl rfl rfl) ?_
        refine .nil ⟨by kernel_rfl, ?_⟩
        exact kc_n (Wk.keep [] rfl rfl ⟨ks rfl .dt, ks rfl .dt, ks rfl .dt, ks rfl .dt, ks rfl (.dt (vB (by rw [kids_eq]; first | rfl | grind))), trivial⟩)
      · try simp only [List.length_map, decide_eq_true_eq, decide_eq_false_iff_not, Bool.not_eq_true', Bool.not_eq_false', Bool.not_eq_true, Bool.not_eq_false] at g19
        refine .cons (.gT rfl rfl rfl (.lN 7 rfl rfl rfl)) ?_
        refine .cons (.gT rfl rfl rfl (.mv rfl rfl)) ?_
        refine .cons (.gT rfl rfl rfl (.cP [.tmp 20, .tmp 21] rfl rfl rfl rfl (l3Own_fn d e hr) rfl)) ?_
        refine .cons (.gT rfl rfl rfl (.nt rfl rfl)) ?_
        refine .cons (.pF rfl rfl rfl) ?_
        refine .nil ⟨by kernel_rfl, ?_⟩
        exact kc_n (Wk.keep [] rfl rfl ⟨ks rfl .dt, ks rfl .dt, ks rfl .dt, ks rfl .dt, ks rfl (.dt (vB (by rw [kids_eq]; first | rfl | grind))), trivial⟩)
  refine ks_n ?_
  refine ACode.condT rfl (fun h24 => ?_) (fun h24 => ?_)
  · try simp only [List.length_map, decide_eq_true_eq, decide_eq_false_iff_not, Bool.not_eq_true', Bool.not_eq_false', Bool.not_eq_true, Bool.not_eq_false] at h24
    refine ACode.seq ?_
    refine ACode.region ?_
    refine .cons (.asg rfl rfl) ?_
    refine .nil ?_
    refine ks_n ?_
    refine ACode.ret ?_
    refine ks_r ?_
    refine kf_ret rfl ?_ nobox
    exact leafB (by rw [exV, h24]; rfl)
  · try simp only [List.length_map, decide_eq_true_eq, decide_eq_false_iff_not, Bool.not_eq_true', Bool.not_eq_false', Bool.not_eq_true, Bool.not_eq_false] at h24
    refine ACode.skip ?_
    refine ks_n ?_
    refine ACode.seq ?_
    refine ACode.seq ?_
    refine ACode.region ?_
    refine .cons (.asg rfl rfl) ?_
    refine .nil ?_
    refine ks_n ?_
    refine ACode.block ?_
    refine .loopK (fun m σ => (∃ i : Nat, m = e.ks.length - i ∧ (i ≤ e.ks.length) ∧ (e.ks.all (exV d L) = (e.ks.drop i).all (exV d L)) ∧ σ = [(.t 1, .v (.o (nat1 (d : Nat)))), (.t 2, .v (.o (nat1 lv))), (.t 3, .v (.o (.c (.ptr (rX e))))), (.t 6, .v (.o (bo1 false))), (.t 7, .v (.o (nat1 (i : Nat))))])) [] ⟨0, rfl, by omega, by simp, rfl⟩ ⟨ks rfl .dt, ks rfl .dt, ks rfl .dt, ks rfl .dt, ks rfl .dt, trivial⟩ ?_
    rintro m σ ⟨i, hm0, hi, hF, rfl⟩
    refine ACode.seq ?_
    refine ACode.seq ?_
    refine ACode.region ?_
    refine .cons (.mv rfl rfl) ?_
    refine .cons (.fP 6 0 false rfl rfl) ?_
    refine .cons (.l1 1 rfl rfl) ?_
    refine .cons (.ln 31 7 112 rfl rfl rfl) ?_
    refine .cons (.ls rfl rfl rfl) ?_
    refine .nil ?_
    refine ks_n ?_
    refine .cD rfl (fun h29 => ?_) (fun h29 => ?_)
    · skip
      obtain ⟨x, hx1⟩ : ∃ x, e.ks[i]? = some x := ⟨_, List.getElem?_eq_getElem (by omega)⟩
      refine ACode.skip ?_
      refine ks_n ?_
      refine ACode.seq ?_
      refine ACode.block ?_
      refine ACode.seq ?_
      refine ACode.region ?_
      refine .cons (.fP 6 0 false rfl rfl) ?_
      refine .cons (.l1 1 rfl rfl) ?_
      refine .cons (.mv rfl rfl) ?_
      refine .cons (.xL 31 7 112 rfl rfl rfl rfl rfl (rE_at hx1)) ?_
      refine .cons (.lN 7 rfl rfl rfl) ?_
      refine .cons (.mv rfl rfl) ?_
      refine .cons (.mv rfl rfl) ?_
      refine .cons (.sb rfl rfl rfl) ?_
      refine .cons (.cP [.tmp 36, .tmp 37, .tmp 39] rfl rfl rfl rfl (ih x (List.mem_of_getElem? hx1)) rfl) ?_
      refine .cons (.nt rfl rfl) ?_
      refine .nil ?_
      refine ks_n ?_
      refine ACode.condT rfl (fun h41 => ?_) (fun h41 => ?_)
      · try simp only [List.length_map, decide_eq_true_eq, decide_eq_false_iff_not, Bool.not_eq_true', Bool.not_eq_false', Bool.not_eq_true, Bool.not_eq_false] at h41
        refine ACode.seq ?_
        refine ACode.region ?_
        refine .cons (.asg rfl rfl) ?_
        refine .nil ?_
        refine ks_n ?_
        refine ACode.ret ?_
        refine kb_r ?_
        refine ks_r ?_
        refine kl_r ?_
        refine kb_r ?_
        refine ks_r ?_
        refine kf_ret rfl ?_ nobox
        exact leafB (by rw [exV, h24, hF, all_drop hx1, h41]; rfl)
      · try simp only [List.length_map, decide_eq_true_eq, decide_eq_false_iff_not, Bool.not_eq_true', Bool.not_eq_false', Bool.not_eq_true, Bool.not_eq_false] at h41
        refine ACode.skip ?_
        refine kb_n ?_
        refine ks_n ?_
        refine ACode.region ?_
        refine .cons (.mv rfl rfl) ?_
        refine .cons (.pl rfl rfl rfl) ?_
        refine .cons (.asg rfl rfl) ?_
        refine .nil ?_
        refine kl_k [] ⟨i + 1, rfl, by omega, by rw [hF, all_drop hx1, h41, Bool.true_and], rfl⟩ ⟨ks rfl .dt, ks rfl .dt, ks rfl .dt, ks rfl .dt, ks rfl .dt, trivial⟩
    · skip
      refine ACode.exit ?_
      refine ks_e ?_
      refine kl_e ?_
      refine kb_hit ?_
      refine ks_n ?_
      refine ACode.seq ?_
      refine ACode.region ?_
      refine .cons (.asg rfl rfl) ?_
      refine .nil ?_
      refine ks_n ?_
      refine ACode.ret ?_
      refine kf_ret rfl ?_ nobox
      exact leafB (by rw [exV, h24, hF, List.drop_of_length_le (by omega)]; rfl)

theorem szE_parts {e : Ex} (hs : szE e ≤ 1099511627776) : e.i.1.length ≤ 1099511627776 ∧ e.r.2.length ≤ 1099511627776 ∧ e.ks.length ≤ 1099511627776 ∧ ∀ x ∈ e.ks, szE x ≤ 1099511627776 := by
  rw [szE_eq, szC] at hs
  have := szAs_len e.r.2
  exact ⟨by omega, by omega, by omega, fun x hx => by have := szEs_mem hx; omega⟩
theorem l3Shape_fn (d : Nat) : ∀ (L : Nat) (lv : Int) (e : Ex), lv = (L : Int) → L ≤ 100 → szE e ≤ 1099511627776 → Fn Try.prog 57 [] [ad (rX e), nat1 (d : Nat), nat1 lv] (.o (bo1 (exV d L e))) []
  | 0, lv, e, hd, hL, hs => shape_zero d lv (by omega) e (szE_parts hs).2.1 (szE_parts hs).2.2.1
  | L + 1, lv, e, hd, hL, hs => shape_succ d L lv (by omega) (by omega) e (szE_parts hs).2.1 (szE_parts hs).2.2.1 fun x hx => l3Shape_fn d L (lv - 1) x (by omega) (by omega) ((szE_parts hs).2.2.2 x hx)
theorem cntEs_take {l : List Ex} {i : Nat} {x : Ex} (h : l[i]? = some x) : cntEs (l.take (i + 1)) = cntEs (l.take i) + cntE x := by
  have key : ∀ (a : List Ex) (x : Ex), cntEs (a ++ [x]) = cntEs a + cntE x := by
    intro a x
    induction a with
    | nil => simp [cntEs]
    | cons y a ih => rw [List.cons_append, cntEs, cntEs, ih]; omega
  rw [List.take_add_one, h]
  exact key _ _
theorem cnt_bd {d : Nat} : ∀ {L : Nat} {e : Ex}, exV d L e = true → cntE e + 1 ≤ 2 ^ L
  | 0, e, h => by cases h
  | L + 1, e, h => by
    rw [exV, Bool.and_eq_true, Bool.and_eq_true] at h
    rw [cntE_eq]
    have hp : 1 ≤ 2 ^ L := Nat.one_le_two_pow
    rcases kidV_len h.1.1 with h1 | h1
    · rw [List.eq_nil_of_length_eq_zero h1, cntEs, Nat.pow_succ]; omega
    · obtain ⟨x, y, h2⟩ := two_of h1
      have h3 := h.2
      rw [h2, List.all_cons, List.all_cons, Bool.and_eq_true, Bool.and_eq_true] at h3
      have := cnt_bd h3.1
      have := cnt_bd h3.2.1
      rw [h2, cntEs, cntEs, cntEs, Nat.pow_succ]; omega
theorem exV_kids {d L : Nat} {e : Ex} (h : exV d L e = true) : e.ks.length ≤ 2 ∧ ∀ x ∈ e.ks, exV d (L - 1) x = true := by
  cases L with
  | zero => cases h
  | succ L =>
    rw [exV, Bool.and_eq_true, Bool.and_eq_true] at h
    exact ⟨by have := kidV_len h.1.1; omega, fun x hx => List.all_eq_true.1 h.2 x hx⟩

set_option maxRecDepth 100000 in
set_option maxHeartbeats 1600000 in
theorem l3Count_one (d L : Nat) (lv : Int) (hl : 0 < lv) (hl2 : lv ≤ 100) (e : Ex) (hk2 : e.ks.length ≤ 2) (hb : ∀ x ∈ e.ks, cntE x ≤ 1000) (ih : ∀ x ∈ e.ks, Fn Try.prog 58 [] [ad (rX x), nat1 (lv - 1)] (.o (nat1 (cntE x : Nat))) []) : Fn Try.prog 58 [] [ad (rX e), nat1 lv] (.o (nat1 (cntE e : Nat))) [] := by
  refine Fn.code0 Try.func58 rfl rfl rfl rfl ?_
  refine ACode.seq ?_
  refine ACode.region ?_
  refine .cons (St1.boxP rfl rfl rfl rfl rfl rfl) ?_
  refine .cons (.asg rfl rfl) ?_
  refine .nil ?_
  refine ks_n ?_
  refine ACode.seq ?_
  refine ACode.region ?_
  refine .cons (.asg rfl rfl) ?_
  refine .nil ?_
  refine ks_n ?_
  refine ACode.seq ?_
  refine ACode.seq ?_
  refine ACode.region ?_
  refine .cons (.asg rfl rfl) ?_
  refine .nil ?_
  refine ks_n ?_
  refine ACode.block ?_
  refine .loopK (fun m σ => (∃ i : Nat, m = e.ks.length - i ∧ (i ≤ e.ks.length) ∧ (cntEs (e.ks.take i) ≤ 1000 * i) ∧ σ = [(.t 1, .v (.o (nat1 lv))), (.t 2, .v (.o (.c (.ptr (rX e))))), (.t 5, .v (.o (nat1 ((1 + cntEs (e.ks.take i) : Nat))))), (.t 6, .v (.o (nat1 (i : Nat))))])) [] ⟨0, rfl, by omega, by simp [cntEs], rfl⟩ ⟨ks rfl .dt, ks rfl .dt, ks rfl (.dt (vI (by first | (simp [cntEs]; done) | (rw [cntEs_take hx1]; omega)))), ks rfl .dt, trivial⟩ ?_
  rintro m σ ⟨i, hm0, hi, hF, rfl⟩
  refine ACode.seq ?_
  refine ACode.seq ?_
  refine ACode.region ?_
  refine .cons (.mv rfl rfl) ?_
  refine .cons (.fP 6 0 false rfl rfl) ?_
  refine .cons (.l1 1 rfl rfl) ?_
  refine .cons (.ln 31 7 112 rfl rfl rfl) ?_
  refine .cons (.ls rfl rfl rfl) ?_
  refine .cons (.mv rfl rfl) ?_
  refine .cD 12 rfl (fun g12 => ?_) (fun g12 => ?_)
  · skip
    obtain ⟨x, hx1⟩ : ∃ x, e.ks[i]? = some x := ⟨_, List.getElem?_eq_getElem (by omega)⟩
    have hbx := hb x (List.mem_of_getElem? hx1)
    refine .cons (.gT rfl rfl rfl (.mv rfl rfl)) ?_
    refine .cons (.gT rfl rfl rfl (.gt rfl rfl rfl)) ?_
    refine .cons (.pT rfl rfl rfl) ?_
    refine .nil ?_
    refine ks_n ?_
    refine ACode.condT rfl (fun h15 => ?_) (fun h15 => ?_)
    · try simp only [List.length_map, decide_eq_true_eq, decide_eq_false_iff_not, Bool.not_eq_true', Bool.not_eq_false', Bool.not_eq_true, Bool.not_eq_false] at h15
      refine ACode.skip ?_
      refine ks_n ?_
      refine ACode.seq ?_
      refine ACode.block ?_
      refine ACode.region ?_
      refine .cons (.mv rfl rfl) ?_
      refine .cons (.fP 6 0 false rfl rfl) ?_
      refine .cons (.l1 1 rfl rfl) ?_
      refine .cons (.mv rfl rfl) ?_
      refine .cons (.xL 31 7 112 rfl rfl rfl rfl rfl (rE_at hx1)) ?_
      refine .cons (.lN 7 rfl rfl rfl) ?_
      refine .cons (.mv rfl rfl) ?_
      refine .cons (.sb rfl rfl rfl) ?_
      refine .cons (.cP [.tmp 23, .tmp 25] rfl rfl rfl rfl (ih x (List.mem_of_getElem? hx1)) rfl) ?_
      refine .cons (.pl rfl rfl rfl) ?_
      refine .cons (.asg rfl rfl) ?_
      refine .nil ?_
      refine kb_n ?_
      refine ks_n ?_
      refine ACode.region ?_
      refine .cons (.mv rfl rfl) ?_
      refine .cons (.pl rfl rfl rfl) ?_
      refine .cons (.asg rfl rfl) ?_
      refine .nil ?_
      refine kl_k [] ⟨i + 1, rfl, by omega, by rw [cntEs_take hx1]; omega, rfl⟩ ⟨ks rfl .dt, ks rfl .dt, ks rfl (.dt (vI (by first | (simp [cntEs]; done) | (rw [cntEs_take hx1]; omega)))), ks rfl .dt, trivial⟩
    · try simp only [List.length_map, decide_eq_true_eq, decide_eq_false_iff_not, Bool.not_eq_true', Bool.not_eq_false', Bool.not_eq_true, Bool.not_eq_false] at h15
      exact absurd hl h15
  · skip
    have hall : e.ks.take i = e.ks := List.take_of_length_le (by omega)
    refine .cons (.gF rfl rfl rfl) ?_
    refine .cons (.gF rfl rfl rfl) ?_
    refine .cons (.pF rfl rfl rfl) ?_
    refine .nil ?_
    refine ks_n ?_
    refine ACode.condT rfl (fun h => by first | (cases h; done) | (simp [*] at h; done) | (exfalso; simp_all; done)) (fun _ => ?_)
    refine ACode.exit ?_
    refine ks_e ?_
    refine kl_e ?_
    refine kb_hit ?_
    refine ks_n ?_
    refine ACode.seq ?_
    refine ACode.region ?_
    refine .cons (.mv rfl rfl) ?_
    refine .cons (.asg rfl rfl) ?_
    refine .nil ?_
    refine ks_n ?_
    refine ACode.ret ?_
    refine kf_ret rfl ?_ nobox
    exact leafI (by rw [cntE_eq, hall])

theorem l3Count_fn (d : Nat) : ∀ (L : Nat) (lv : Int) (e : Ex), lv = (L : Int) → L ≤ 6 → exV d L e = true → Fn Try.prog 58 [] [ad (rX e), nat1 lv] (.o (nat1 (cntE e : Nat))) []
  | 0, lv, e, hd, hL, h => by cases h
  | L + 1, lv, e, hd, hL, h => l3Count_one d L lv (by omega) (by omega) e (exV_kids h).1 (fun x hx => by
      have h1 := cnt_bd ((exV_kids h).2 x hx)
      have h2 : 2 ^ (L + 1 - 1) ≤ 2 ^ 6 := Nat.pow_le_pow_right (by omega) (by omega)
      omega) fun x hx => l3Count_fn d L (lv - 1) x (by omega) (by omega) ((exV_kids h).2 x hx)
theorem stmtV_s {d : Int} {s : Stm} (h : 0 ≤ d ∧ d ≤ 4) : stmtV d s = (accV d.toNat s.1 && exV d.toNat 5 s.2 && decide (cntE s.2 ≤ 12)) := by rw [stmtV, inB, decide_eq_true h, Bool.true_and]
theorem l3Access_fi {d : Int} (h : ((d.toNat : Nat) : Int) = d) (a : Acc) (ha : a.2.length ≤ 1099511627776) : Fn Try.prog 56 [] [ad (rC a), nat1 d] (.o (bo1 (accV d.toNat a))) [] := by
  have h2 := l3Access_fn d.toNat a ha
  rw [h] at h2; exact h2
theorem l3Shape_fi {d : Int} (h : ((d.toNat : Nat) : Int) = d) (e : Ex) (hs : szE e ≤ 1099511627776) : Fn Try.prog 57 [] [ad (rX e), nat1 d, nat1 5] (.o (bo1 (exV d.toNat 5 e))) [] := by
  have h2 := l3Shape_fn d.toNat 5 5 e rfl (by omega) hs
  rw [h] at h2; exact h2

set_option maxRecDepth 100000 in
set_option maxHeartbeats 1600000 in
theorem specStmtV_fn (d : Int) (s : Stm) (hs : szS s ≤ 1099511627776) : Fn Try.prog 17 [] [ad (rS s), nat1 d] (.o (bo1 (stmtV d s))) [] := by
  obtain ⟨hs1, hs2⟩ := szS_parts hs
  refine Fn.code0 Try.func17 rfl rfl rfl rfl ?_
  refine ACode.seq ?_
  refine ACode.region ?_
  refine .cons (St1.boxP rfl rfl rfl rfl rfl rfl) ?_
  refine .cons (.asg rfl rfl) ?_
  refine .nil ?_
  refine ks_n ?_
  refine ACode.seq ?_
  refine ACode.seq ?_
  refine ACode.cut [(.t 2, .v (.o (.c (.ptr (rS s))))), (.t 4, .v (.o (bo1 false))), (.t 24, .v (.o (bo1 (!(inB d 0 4 && (accV d.toNat s.1 && exV d.toNat 5 s.2))))))] ?_ ?_
  · skip
    refine ACode.region ?_
    refine .cons (.mv rfl rfl) ?_
    refine .cons (.ls rfl rfl rfl) ?_
    refine .cons (.mv rfl rfl) ?_
    refine .cD 7 rfl (fun g7 => ?_) (fun g7 => ?_)
    · skip
      refine .cons (.gF rfl rfl rfl) ?_
      refine .cons (.gF rfl rfl rfl) ?_
      refine .cons (.pT rfl rfl rfl) ?_
      refine .cons (.mv rfl rfl) ?_
      refine .cons (.gF rfl rfl rfl) ?_
      refine .cons (.gF rfl rfl rfl) ?_
      refine .cons (.gF rfl rfl rfl) ?_
      refine .cons (.gF rfl rfl rfl) ?_
      refine .cons (.gF rfl rfl rfl) ?_
      refine .cons (.pT rfl rfl rfl) ?_
      refine .cons (.mv rfl rfl) ?_
      refine .cons (.gF rfl rfl rfl) ?_
      refine .cons (.gF rfl rfl rfl) ?_
      refine .cons (.gF rfl rfl rfl) ?_
      refine .cons (.gF rfl rfl rfl) ?_
      refine .cons (.gF rfl rfl rfl) ?_
      refine .cons (.pT rfl rfl rfl) ?_
      refine .nil ?_
      exact kc_n (Wk.keep [] rfl rfl ⟨ks rfl .dt, ks rfl .dt, ks rfl (.dt (vB (by rw [inB]; cases hq1 : accV d.toNat s.1 <;> cases hq2 : exV d.toNat 5 s.2 <;> first | rfl | grind))), trivial⟩)
    · skip
      refine .cons (.gT rfl rfl rfl (.mv rfl rfl)) ?_
      refine .cons (.gT rfl rfl rfl (.gt rfl rfl rfl)) ?_
      refine .cons (.pF rfl rfl rfl) ?_
      refine .cons (.mv rfl rfl) ?_
      refine AOps.cases 11 _ rfl (fun g11 => ?_) (fun g11 => ?_)
      · try simp only [List.length_map, decide_eq_true_eq, decide_eq_false_iff_not, Bool.not_eq_true', Bool.not_eq_false', Bool.not_eq_true, Bool.not_eq_false] at g11
        refine .cons (.gF rfl rfl rfl) ?_
        refine .cons (.gF rfl rfl rfl) ?_
        refine .cons (.gF rfl rfl rfl) ?_
        refine .cons (.gF rfl rfl rfl) ?_
        refine .cons (.gF rfl rfl rfl) ?_
        refine .cons (.pT rfl rfl rfl) ?_
        refine .cons (.mv rfl rfl) ?_
        refine .cons (.gF rfl rfl rfl) ?_
        refine .cons (.gF rfl rfl rfl) ?_
        refine .cons (.gF rfl rfl rfl) ?_
        refine .cons (.gF rfl rfl rfl) ?_
        refine .cons (.gF rfl rfl rfl) ?_
        refine .cons (.pT rfl rfl rfl) ?_
        refine .nil ?_
        exact kc_n (Wk.keep [] rfl rfl ⟨ks rfl .dt, ks rfl .dt, ks rfl (.dt (vB (by rw [inB]; cases hq1 : accV d.toNat s.1 <;> cases hq2 : exV d.toNat 5 s.2 <;> first | rfl | grind))), trivial⟩)
      · try simp only [List.length_map, decide_eq_true_eq, decide_eq_false_iff_not, Bool.not_eq_true', Bool.not_eq_false', Bool.not_eq_true, Bool.not_eq_false] at g11
        have hD : ((d.toNat : Nat) : Int) = d := by omega
        refine .cons (.gT rfl rfl rfl (.fP 0 1 true rfl rfl)) ?_
        refine .cons (.gT rfl rfl rfl (.lN 2 rfl rfl rfl)) ?_
        refine .cons (.gT rfl rfl rfl (.mv rfl rfl)) ?_
        refine .cons (.gT rfl rfl rfl (.cP [.tmp 13, .tmp 14] rfl rfl rfl rfl (l3Access_fi hD s.1 hs1) rfl)) ?_
        refine .cons (.gT rfl rfl rfl (.nt rfl rfl)) ?_
        refine .cons (.pF rfl rfl rfl) ?_
        refine .cons (.mv rfl rfl) ?_
        refine AOps.cases 18 _ rfl (fun g18 => ?_) (fun g18 => ?_)
        · try simp only [List.length_map, decide_eq_true_eq, decide_eq_false_iff_not, Bool.not_eq_true', Bool.not_eq_false', Bool.not_eq_true, Bool.not_eq_false] at g18
          refine .cons (.gF rfl rfl rfl) ?_
          refine .cons (.gF rfl rfl rfl) ?_
          refine .cons (.gF rfl rfl rfl) ?_
          refine .cons (.gF rfl rfl rfl) ?_
          refine .cons (.gF rfl rfl rfl) ?_
          refine .cons (.pT rfl rfl rfl) ?_
          refine .nil ?_
          exact kc_n (Wk.keep [] rfl rfl ⟨ks rfl .dt, ks rfl .dt, ks rfl (.dt (vB (by rw [inB]; cases hq1 : accV d.toNat s.1 <;> cases hq2 : exV d.toNat 5 s.2 <;> first | rfl | grind))), trivial⟩)
        · try simp only [List.length_map, decide_eq_true_eq, decide_eq_false_iff_not, Bool.not_eq_true', Bool.not_eq_false', Bool.not_eq_true, Bool.not_eq_false] at g18
          refine .cons (.gT rfl rfl rfl (.fP 2 6 true rfl rfl)) ?_
          refine .cons (.gT rfl rfl rfl (.lN 7 rfl rfl rfl)) ?_
          refine .cons (.gT rfl rfl rfl (.mv rfl rfl)) ?_
          refine .cons (.gT rfl rfl rfl (.cP [.tmp 20, .tmp 21, .const (.int .i64 (5))] rfl rfl rfl rfl (l3Shape_fi hD s.2 hs2) rfl)) ?_
          refine .cons (.gT rfl rfl rfl (.nt rfl rfl)) ?_
          refine .cons (.pF rfl rfl rfl) ?_
          refine .nil ?_
          exact kc_n (Wk.keep [] rfl rfl ⟨ks rfl .dt, ks rfl .dt, ks rfl (.dt (vB (by rw [inB]; cases hq1 : accV d.toNat s.1 <;> cases hq2 : exV d.toNat 5 s.2 <;> first | rfl | grind))), trivial⟩)
  refine ks_n ?_
  refine ACode.condT rfl (fun h24 => ?_) (fun h24 => ?_)
  · try simp only [List.length_map, decide_eq_true_eq, decide_eq_false_iff_not, Bool.not_eq_true', Bool.not_eq_false', Bool.not_eq_true, Bool.not_eq_false] at h24
    refine ACode.seq ?_
    refine ACode.region ?_
    refine .cons (.asg rfl rfl) ?_
    refine .nil ?_
    refine ks_n ?_
    refine ACode.ret ?_
    refine ks_r ?_
    refine kf_ret rfl ?_ nobox
    exact leafB (by rw [stmtV, ← Bool.and_assoc, h24]; rfl)
  · try simp only [List.length_map, decide_eq_true_eq, decide_eq_false_iff_not, Bool.not_eq_true', Bool.not_eq_false', Bool.not_eq_true, Bool.not_eq_false] at h24
    have hX : exV d.toNat 5 s.2 = true := by simp only [Bool.and_eq_true] at h24; exact h24.2.2
    have hI : inB d 0 4 = true := by simp only [Bool.and_eq_true] at h24; exact h24.1
    have hA : accV d.toNat s.1 = true := by simp only [Bool.and_eq_true] at h24; exact h24.2.1
    refine ACode.skip ?_
    refine ks_n ?_
    refine ACode.seq ?_
    refine ACode.region ?_
    refine .cons (.fP 2 6 true rfl rfl) ?_
    refine .cons (.lN 7 rfl rfl rfl) ?_
    refine .cons (.cP [.tmp 26, .const (.int .i64 (5))] rfl rfl rfl rfl (l3Count_fn d.toNat 5 5 s.2 rfl (by omega) hX) rfl) ?_
    refine .cons (.le rfl rfl rfl) ?_
    refine .cons (.asg rfl rfl) ?_
    refine .nil ?_
    refine ks_n ?_
    refine ACode.ret ?_
    refine kf_ret rfl ?_ nobox
    exact leafB (by rw [stmtV, hI, hA, hX]; simp; omega)

end Go.Proofs.Ytigdfdhjnadieaa

/- Statements: copies and maps; condition: small lists. -/
namespace Go.Proofs.Ytigdfdhjnadieaa
set_option linter.unusedVariables false
set_option linter.unusedSimpArgs false
open Go.RowKit

theorem Fn.ofAff {P : Program} {f : FuncId} {args : List V1} {x : Aff} (hn : x.1.length ≤ 17592186044416) (h : ∀ (B : Nat → Prop) (bx : Nat → Nat × Nat) (al : Nat → Prop) (w : World) (vs : List Value), Vals (V1r bx al B w) args vs → Calls P f vs.toArray w (RetAff x w)) : Fn P f [] args (.o (ad (rA x))) [] :=
  Fn.pure fun B bx al w vs hv => (h B bx al w vs hv).mono fun e w' ⟨v, e1, ho, hb⟩ => ⟨v, e1, hb, aff_dr ((ho.r hn).mono fun b hb _ => .inr hb)⟩
theorem RetA2.mono {P Q : Nat → Prop} {x : Aff} {ok : Bool} {w : World} {e : Ending} {w' : World} (hp : ∀ b, P b → Q b) (h : RetA2 P x ok w e w') : RetA2 Q x ok w e w' := by
  obtain ⟨v, e, ha, hb⟩ := h
  exact ⟨v, e, ha.mono fun b hb _ => hp b hb, hb⟩
theorem ownAff_fn {x : Aff} (hx : x.1.length ≤ 1073741824) : Fn Try.prog 122 [] [ad (rA x)] (.o (ad (rA x))) [] :=
  Fn.ofAff (by omega) fun B bx al w vs hv => by
    obtain ⟨v, rfl, h⟩ := vals1 hv
    exact ownAff_any B v x w (dr_aff h) (by omega)
theorem EvalAff_fn (x : Aff) (p : List Int) : Fn Try.prog 39 [] [ad (rA x), vD (dIs p)] (.o (nat1 (evalOf x p))) [] :=
  Fn.pure fun B bx al w vs hv => by
    obtain ⟨u, v, rfl, h1, h2⟩ := vals2 hv
    have h3 := dr_ints h2
    obtain ⟨a, n, c, rfl, rfl⟩ := sl_form h3
    exact (implEval_any B B u x a _ c p w (dr_aff h1) h3).mono fun e w' ⟨h1, h2⟩ => ⟨_, h1, h2, .val _ rfl⟩
theorem rX_map (g : Aff → Aff) (e : Ex) : rX (mapE g e) = [dI e.k, dI e.n, dIs (if e.k = 2 then g e.i else ([], 0)).1, dI (if e.k = 2 then g e.i else ([], 0)).2, dS (if e.k = 3 then mapC g e.r else (ByteArray.empty, [])).1, dAs (if e.k = 3 then mapC g e.r else (ByteArray.empty, [])).2, dEs (e.ks.map (mapE g))] := by
  cases e with
  | mk k n i r ks => rw [mapE, mapEs_map]; rfl
theorem dR_ex (f : Ex → Ex) (l : List Ex) : dR ((l.take l.length).map fun x => rX (f x)) = dR ((l.map f).map rE) := by
  rw [List.take_length, List.map_map]
  congr 1
  exact List.map_congr_left fun x _ => (rE_eq _).symm
theorem dR_af (f : Aff → Aff) (l : List Aff) : dR ((l.take l.length).map fun x => rA (f x)) = dR ((l.map f).map rA) := by
  rw [List.take_length, List.map_map]; rfl

set_option maxRecDepth 100000 in
set_option maxHeartbeats 1600000 in
theorem accMap_fn {f : FuncId} {cap : List (List D)} (hc : callable Try.prog f = true) (g : Aff → Aff) (a : Acc) (ha : a.2.length ≤ 1073741824) (hg : ∀ x ∈ a.2, Fn Try.prog f [] (ad (rA x) :: cap.map fun c => .c (.ptr c)) (.o (ad (rA (g x)))) []) : Fn Try.prog 120 [] [ad (rC a), .c (.fn f cap)] (.o (ad (rC (mapC g a)))) [] := by
  refine Fn.code0 Try.func120 rfl rfl rfl rfl ?_
  refine ACode.seq ?_
  refine ACode.region ?_
  refine .cons (St1.boxP rfl rfl rfl rfl rfl rfl) ?_
  refine .cons (.al 104 [.string ByteArray.empty, .slice none 0 0] rfl rfl rfl) ?_
  refine .nil ?_
  refine ks_n ?_
  refine ACode.seq ?_
  refine ACode.region ?_
  refine .cons (.fP 0 0 false rfl rfl) ?_
  refine .cons (.l1 1 rfl rfl) ?_
  refine .cons (.bu [(0, .tmp 9)] [(0, 1), (1, 1)] [.string ByteArray.empty, .slice none 0 0] rfl rfl rfl rfl rfl) ?_
  refine .cons (.al 105 [.string ByteArray.empty, .slice none 0 0] rfl rfl rfl) ?_
  refine .cons (.sT 2 true rfl rfl rfl rfl rfl rfl rfl) ?_
  refine .nil ?_
  refine ks_n ?_
  refine ACode.seq ?_
  refine ACode.seq ?_
  refine ACode.region ?_
  refine .cons (.fP 1 0 false rfl rfl) ?_
  refine .cons (.l1 1 rfl rfl) ?_
  refine .cons (.ln 28 2 32 rfl rfl rfl) ?_
  refine .cons (.mv rfl rfl) ?_
  refine .nil ?_
  refine ks_n ?_
  refine ACode.block ?_
  refine .loopK (fun m σ => (∃ i : Nat, m = a.2.length - i ∧ (i = 0) ∧ σ = [(.t 1, .v (.o (.c (.fn f cap)))), (.t 2, .v (.o (.c (.ptr (rC a))))), (.t 4, .v (.o (.c (.box 110 2 0 0)))), (.t 5, .v (.o (.c (.box 111 2 0 0)))), (.t 12, .v (.o (vD (dAs a.2)))), (.t 13, .v (.o (nat1 (a.2.length : Nat)))), (.t 14, .v (.o (nat1 (i : Nat)))), (.b 110, .b 25 2 [[.d (dS ByteArray.empty), .d (.val (.slice none 0 0))]]), (.u 110, .u), (.b 111, .b 25 2 [[.d (dS a.1), .d (.val (.slice none 0 0))]]), (.u 111, .u)]) ∨ (∃ i : Nat, m = a.2.length - i ∧ (1 ≤ i) ∧ (i ≤ a.2.length) ∧ σ = [(.t 1, .v (.o (.c (.fn f cap)))), (.t 2, .v (.o (.c (.ptr (rC a))))), (.t 4, .v (.o (.c (.box 110 2 0 0)))), (.t 5, .v (.o (.c (.box 111 2 0 0)))), (.t 12, .v (.o (vD (dAs a.2)))), (.t 13, .v (.o (nat1 (a.2.length : Nat)))), (.t 14, .v (.o (nat1 (i : Nat)))), (.b 110, .b 25 2 [[.d (dS ByteArray.empty), .d (.val (.slice none 0 0))]]), (.u 110, .u), (.b 112, .b 28 2 (dR ((a.2.take i).map fun x => rA (g x)))), (.u 112, .u), (.b 111, .b 25 2 [[.d (dS a.1), .own 112 2 (i)]]), (.u 111, .u)])) [(110, 104), (111, 105)] (.inl ⟨0, rfl, rfl, rfl⟩) ⟨ks rfl .dt, ks rfl .dt, ks rfl (.c .bx), ks rfl (.c .bx), ks rfl .dt, ks rfl .dt, ks rfl .dt, kb 104 rfl (.cons (.cons .dt (.cons .dt Ctos.nil)) .nil), kb 105 rfl (.cons (.cons .dt (.cons .dt Ctos.nil)) .nil), trivial⟩ ?_
  rintro m σ (⟨i, hm0, rfl, rfl⟩ | ⟨i, hm0, hi1, hi2, rfl⟩)
  · skip
    refine ACode.seq ?_
    refine ACode.region ?_
    refine .cons (.ls rfl rfl rfl) ?_
    refine .nil ?_
    refine ks_n ?_
    refine ACode.seq ?_
    refine .cD rfl (fun h15 => ?_) (fun h15 => ?_)
    · skip
      obtain ⟨x, hx1⟩ : ∃ x, a.2[0]? = some x := ⟨_, List.getElem?_eq_getElem (by omega)⟩
      refine ACode.skip ?_
      refine ks_n ?_
      refine ACode.seq ?_
      refine ACode.block ?_
      refine ACode.seq ?_
      refine ACode.region ?_
      refine .cons (.xL 28 2 32 rfl rfl rfl rfl rfl) ?_
      refine .cons (.lN 2 rfl rfl rfl) ?_
      refine .cons (.al 107 [.slice none 0 0, .int .i64 0] rfl rfl rfl) ?_
      refine .cons (.sT 2 true rfl rfl rfl rfl rfl rfl rfl) ?_
      refine .nil ?_
      refine ks_n ?_
      refine ACode.drawK (by kernel_rfl) (by kernel_rfl) ?_
      refine .cons (.fB 1 0 false rfl rfl rfl) ?_
      refine .cons (.b1 1 rfl rfl rfl rfl rfl rfl) ?_
      refine .cons (.mv rfl rfl) ?_
      refine .cons (.bN 2 rfl rfl rfl rfl rfl rfl) ?_
      refine .cons (.cP [.tmp 21] rfl rfl rfl rfl (hg x (List.mem_of_getElem? hx1)) rfl hc) ?_
      refine .cons (.li 28 1 0 [.tmp 22] rfl rfl rfl rfl rfl rfl) ?_
      refine .cons (St1.appN (k' := 124) (e := 28) (sz := 1) (by' := 32) rfl rfl rfl rfl rfl (by kernel_rfl) rfl rfl rfl (by simp) (by first | (simp [dR]; done) | (simp [dR]; omega)) rfl rfl) ?_
      refine .cons (.fB 1 0 false rfl rfl rfl) ?_
      refine .cons (.sT 1 false rfl rfl rfl rfl rfl rfl rfl) ?_
      refine .nil ⟨by kernel_rfl, ?_⟩
      refine kb_n ?_
      refine ks_n ?_
      refine ACode.region ?_
      refine .cons (.pl rfl rfl rfl) ?_
      refine .cons (.mv rfl rfl) ?_
      refine .nil ?_
      refine kl_k [(110, 110), (111, 111), (112, 124)] (.inr ⟨1, rfl, by omega, by omega, rfl⟩) ⟨ks rfl .dt, ks rfl .dt, ks rfl (.c .bx), ks rfl (.c .bx), ks rfl .dt, ks rfl .dt, ks rfl .dt, kb 110 rfl (.cons (.cons .dt (.cons .dt Ctos.nil)) .nil), kb 124 rfl (.dt rfl (by first | exact dR_take (fun x => rA (g x)) hx1 | exact dR_take1 (fun x => rA (g x)) hx1 | rfl | (simp [dR]; done))), kb 111 rfl (.cons (.cons .dt (.cons .ow Ctos.nil)) .nil), trivial⟩
    · skip
      have hn : a.2 = [] := List.eq_nil_of_length_eq_zero (by omega)
      refine ACode.exit ?_
      refine ks_e ?_
      refine kl_e ?_
      refine kb_hit ?_
      refine ks_n ?_
      refine ACode.seq ?_
      refine ACode.region ?_
      refine .cons (.bN 2 rfl rfl rfl rfl rfl rfl) ?_
      refine .cons (.sT 2 true rfl rfl rfl rfl rfl rfl rfl) ?_
      refine .nil ?_
      refine ks_n ?_
      refine ACode.ret ?_
      refine kf_wret [(.t 4, .v (.o (.c (.box 100 2 0 0)))), (.b 100, .b 25 2 [[.d (dS a.1), .d (dAs (a.2.map g))]]), (.u 100, .u)] (Wk.keep [(100, 110)] rfl rfl ⟨ks rfl (.c .bx), kb 110 rfl (.cons (.cons .dt (.cons (Cto.nilE 2 (by rw [hn]; rfl)) Ctos.nil)) .nil), trivial⟩) rfl ?_ nobox
      rfl
  · skip
    refine ACode.seq ?_
    refine ACode.region ?_
    refine .cons (.ls rfl rfl rfl) ?_
    refine .nil ?_
    refine ks_n ?_
    refine ACode.seq ?_
    refine .cD rfl (fun h15 => ?_) (fun h15 => ?_)
    · skip
      obtain ⟨x, hx1⟩ : ∃ x, a.2[i]? = some x := ⟨_, List.getElem?_eq_getElem (by omega)⟩
      refine ACode.skip ?_
      refine ks_n ?_
      refine ACode.seq ?_
      refine ACode.block ?_
      refine ACode.seq ?_
      refine ACode.region ?_
      refine .cons (.xL 28 2 32 rfl rfl rfl rfl rfl) ?_
      refine .cons (.lN 2 rfl rfl rfl) ?_
      refine .cons (.al 107 [.slice none 0 0, .int .i64 0] rfl rfl rfl) ?_
      refine .cons (.sT 2 true rfl rfl rfl rfl rfl rfl rfl) ?_
      refine .nil ?_
      refine ks_n ?_
      refine ACode.drawK (by kernel_rfl) (by kernel_rfl) ?_
      refine .cons (.fB 1 0 false rfl rfl rfl) ?_
      refine .cons (.b1 1 rfl rfl rfl rfl rfl rfl) ?_
      refine .cons (.mv rfl rfl) ?_
      refine .cons (.bN 2 rfl rfl rfl rfl rfl rfl) ?_
      refine .cons (.cP [.tmp 21] rfl rfl rfl rfl (hg x (List.mem_of_getElem? hx1)) rfl hc) ?_
      refine .cons (.li 28 1 0 [.tmp 22] rfl rfl rfl rfl rfl rfl) ?_
      refine .cons (St1.appB (k' := 124) (e := 28) (sz := 1) (by' := 32) rfl rfl rfl rfl rfl (by kernel_rfl) rfl rfl rfl rfl (by first | (simp [dR]; done) | (simp [dR]; omega)) (by first | (simp [dR]; done) | (simp [dR]; omega)) rfl rfl rfl) ?_
      refine .cons (.fB 1 0 false rfl rfl rfl) ?_
      refine .cons (.sT 1 false rfl rfl rfl rfl rfl rfl rfl) ?_
      refine .nil ⟨by kernel_rfl, ?_⟩
      refine kb_n ?_
      refine ks_n ?_
      refine ACode.region ?_
      refine .cons (.pl rfl rfl rfl) ?_
      refine .cons (.mv rfl rfl) ?_
      refine .nil ?_
      refine kl_k [(110, 110), (111, 111), (112, 124)] (.inr ⟨i + 1, rfl, by omega, by omega, rfl⟩) ⟨ks rfl .dt, ks rfl .dt, ks rfl (.c .bx), ks rfl (.c .bx), ks rfl .dt, ks rfl .dt, ks rfl .dt, kb 110 rfl (.cons (.cons .dt (.cons .dt Ctos.nil)) .nil), kb 124 rfl (.dt rfl (by first | exact dR_take (fun x => rA (g x)) hx1 | exact dR_take1 (fun x => rA (g x)) hx1 | rfl | (simp [dR]; done))), kb 111 rfl (.cons (.cons .dt (.cons .ow Ctos.nil)) .nil), trivial⟩
    · skip
      obtain rfl : i = a.2.length := by omega
      refine ACode.exit ?_
      refine ks_e ?_
      refine kl_e ?_
      refine kb_hit ?_
      refine ks_n ?_
      refine ACode.seq ?_
      refine ACode.region ?_
      refine .cons (.bN 2 rfl rfl rfl rfl rfl rfl) ?_
      refine .cons (.sT 2 true rfl rfl rfl rfl rfl rfl rfl) ?_
      refine .nil ?_
      refine ks_n ?_
      refine ACode.ret ?_
      refine kf_wret [(.t 4, .v (.o (.c (.box 100 2 0 0)))), (.b 100, .b 25 2 [[.d (dS a.1), .d (dAs (a.2.map g))]]), (.u 100, .u)] (Wk.keep [(100, 110)] rfl rfl ⟨ks rfl (.c .bx), kb 110 rfl (.cons (.cons .dt (.cons (.fz rfl (by first | rfl | exact dR_af _ _ | (rw [List.take_length]; done)) (by first | rfl | (simp; done) | (simp; omega)) (by omega)) Ctos.nil)) .nil), trivial⟩) rfl ?_ nobox
      rfl

mutual
def affsE : Ex → List Aff
  | .mk k _ i r ks => (if k = 2 then [i] else []) ++ ((if k = 3 then r.2 else []) ++ affsEs ks)
def affsEs : List Ex → List Aff
  | [] => []
  | e :: l => affsE e ++ affsEs l
end
theorem affsE_eq (e : Ex) : affsE e = (if e.k = 2 then [e.i] else []) ++ ((if e.k = 3 then e.r.2 else []) ++ affsEs e.ks) := by cases e; rw [affsE]; rfl
theorem affsEs_mem : ∀ {l : List Ex} {e : Ex}, e ∈ l → ∀ a ∈ affsE e, a ∈ affsEs l
  | x :: l, e, h, a, ha => by
    rw [affsEs, List.mem_append]
    rcases List.mem_cons.1 h with rfl | h
    · exact .inl ha
    · exact .inr (affsEs_mem h a ha)
theorem affsE_i {e : Ex} (h : e.k = 2) : e.i ∈ affsE e := by rw [affsE_eq, if_pos h]; simp
theorem affsE_r {e : Ex} (h : e.k = 3) {a : Aff} (ha : a ∈ e.r.2) : a ∈ affsE e := by rw [affsE_eq, if_pos h]; simp [ha]
theorem affsE_k {e x : Ex} (h : x ∈ e.ks) {a : Aff} (ha : a ∈ affsE x) : a ∈ affsE e := by rw [affsE_eq]; simp [affsEs_mem h a ha]
def affsS (s : Stm) : List Aff := s.1.2 ++ affsE s.2

set_option maxRecDepth 100000 in
set_option maxHeartbeats 1600000 in
theorem exprMap_one {f : FuncId} {cap : List (List D)} (hc : callable Try.prog f = true) (g : Aff → Aff) (e : Ex) (hr : e.r.2.length ≤ 1073741824) (hk : e.ks.length ≤ 1073741824) (hg : ∀ x ∈ affsE e, Fn Try.prog f [] (ad (rA x) :: cap.map fun c => .c (.ptr c)) (.o (ad (rA (g x)))) []) (ih : ∀ x ∈ e.ks, Fn Try.prog 121 [] [ad (rX x), .c (.fn f cap)] (.o (ad (rX (mapE g x)))) []) : Fn Try.prog 121 [] [ad (rX e), .c (.fn f cap)] (.o (ad (rX (mapE g e)))) [] := by
  refine Fn.code0 Try.func121 rfl rfl rfl rfl ?_
  refine ACode.seq ?_
  refine ACode.region ?_
  refine .cons (St1.boxP rfl rfl rfl rfl rfl rfl) ?_
  refine .cons (.al 104 [.int .i64 0, .int .i64 0, .slice none 0 0, .int .i64 0, .string ByteArray.empty, .slice none 0 0, .slice none 0 0] rfl rfl rfl) ?_
  refine .nil ?_
  refine ks_n ?_
  refine ACode.seq ?_
  refine ACode.region ?_
  refine .cons (.fP 0 0 false rfl rfl) ?_
  refine .cons (.l1 1 rfl rfl) ?_
  refine .cons (.fP 1 0 false rfl rfl) ?_
  refine .cons (.l1 1 rfl rfl) ?_
  refine .cons (.bu [(0, .tmp 9), (1, .tmp 11)] [(0, 1), (1, 1), (2, 2), (4, 2), (6, 1)] [.int .i64 0, .int .i64 0, .slice none 0 0, .int .i64 0, .string ByteArray.empty, .slice none 0 0, .slice none 0 0] rfl rfl rfl rfl rfl) ?_
  refine .cons (.al 105 [.int .i64 0, .int .i64 0, .slice none 0 0, .int .i64 0, .string ByteArray.empty, .slice none 0 0, .slice none 0 0] rfl rfl rfl) ?_
  refine .cons (.sT 7 true rfl rfl rfl rfl rfl rfl rfl) ?_
  refine .nil ?_
  refine ks_n ?_
  refine ACode.seq ?_
  refine ACode.seq ?_
  refine ACode.region ?_
  refine .cons (.fP 0 0 false rfl rfl) ?_
  refine .cons (.l1 1 rfl rfl) ?_
  refine .nil ?_
  refine ks_n ?_
  refine ACode.block ?_
  refine ACode.seq ?_
  refine ACode.region ?_
  refine .cons (.eq rfl rfl rfl) ?_
  refine .cons (.asg rfl rfl) ?_
  refine .nil ?_
  refine ks_n ?_
  refine .cD rfl (fun h15 => ?_) (fun h15 => ?_)
  · skip
    refine ACode.region ?_
    refine .cons (.mv rfl rfl) ?_
    refine .cons (.fP 2 1 true rfl rfl) ?_
    refine .cons (.lN 2 rfl rfl rfl) ?_
    refine .cons (.cP [.tmp 19] rfl rfl rfl rfl (hg _ (affsE_i h15)) rfl hc) ?_
    refine .cons (.fB 2 1 true rfl rfl rfl) ?_
    refine .cons (.sT 2 true rfl rfl rfl rfl rfl rfl rfl) ?_
    refine .nil ?_
    refine kb_n ?_
    refine ks_n ?_
    refine ACode.seq ?_
    refine ACode.seq ?_
    refine ACode.region ?_
    refine .cons (.fP 6 0 false rfl rfl) ?_
    refine .cons (.l1 1 rfl rfl) ?_
    refine .cons (.ln 31 7 112 rfl rfl rfl) ?_
    refine .cons (.mv rfl rfl) ?_
    refine .nil ?_
    refine ks_n ?_
    refine ACode.block ?_
    refine .loopK (fun m σ => (∃ i : Nat, m = e.ks.length - i ∧ (i = 0) ∧ σ = [(.t 1, .v (.o (.c (.fn f cap)))), (.t 2, .v (.o (.c (.ptr (rX e))))), (.t 4, .v (.o (.c (.box 110 7 0 0)))), (.t 5, .v (.o (.c (.box 111 7 0 0)))), (.t 30, .v (.o (vD (dEs e.ks)))), (.t 31, .v (.o (nat1 (e.ks.length : Nat)))), (.t 32, .v (.o (nat1 (i : Nat)))), (.b 110, .b 31 7 [[.d (dI 0), .d (dI 0), .d (.val (.slice none 0 0)), .d (dI 0), .d (dS ByteArray.empty), .d (.val (.slice none 0 0)), .d (.val (.slice none 0 0))]]), (.u 110, .u), (.b 111, .b 31 7 [[.d (dI e.k), .d (dI e.n), .d (dIs (if e.k = 2 then g e.i else ([], 0)).1), .d (dI (if e.k = 2 then g e.i else ([], 0)).2), .d (dS (if e.k = 3 then mapC g e.r else (ByteArray.empty, [])).1), .d (dAs (if e.k = 3 then mapC g e.r else (ByteArray.empty, [])).2), .d (.val (.slice none 0 0))]]), (.u 111, .u)]) ∨ (∃ i : Nat, m = e.ks.length - i ∧ (1 ≤ i) ∧ (i ≤ e.ks.length) ∧ σ = [(.t 1, .v (.o (.c (.fn f cap)))), (.t 2, .v (.o (.c (.ptr (rX e))))), (.t 4, .v (.o (.c (.box 110 7 0 0)))), (.t 5, .v (.o (.c (.box 111 7 0 0)))), (.t 30, .v (.o (vD (dEs e.ks)))), (.t 31, .v (.o (nat1 (e.ks.length : Nat)))), (.t 32, .v (.o (nat1 (i : Nat)))), (.b 110, .b 31 7 [[.d (dI 0), .d (dI 0), .d (.val (.slice none 0 0)), .d (dI 0), .d (dS ByteArray.empty), .d (.val (.slice none 0 0)), .d (.val (.slice none 0 0))]]), (.u 110, .u), (.b 112, .b 31 7 (dR ((e.ks.take i).map fun x => rX (mapE g x)))), (.u 112, .u), (.b 111, .b 31 7 [[.d (dI e.k), .d (dI e.n), .d (dIs (if e.k = 2 then g e.i else ([], 0)).1), .d (dI (if e.k = 2 then g e.i else ([], 0)).2), .d (dS (if e.k = 3 then mapC g e.r else (ByteArray.empty, [])).1), .d (dAs (if e.k = 3 then mapC g e.r else (ByteArray.empty, [])).2), .own 112 7 (i)]]), (.u 111, .u)])) [(110, 104), (111, 105)] (.inl ⟨0, rfl, rfl, rfl⟩) ⟨ks rfl .dt, ks rfl .dt, ks rfl (.c .bx), ks rfl (.c .bx), ks rfl .dt, ks rfl .dt, ks rfl .dt, kb 104 rfl (.cons (.cons .dt (.cons .dt (.cons .dt (.cons .dt (.cons .dt (.cons .dt (.cons .dt Ctos.nil))))))) .nil), kb 105 rfl (.cons (.cons .dt (.cons .dt (.cons (.dt (by first | rfl | (simp [*]; done) | (simp [*]; rfl))) (.cons (.dt (by first | rfl | (simp [*]; done) | (simp [*]; rfl))) (.cons (.dt (by first | rfl | (simp [*]; done) | (simp [*]; rfl))) (.cons (Cto.nilE 2 (by rw [if_neg (show ¬ e.k = 3 by omega)]; rfl)) (.cons .dt Ctos.nil))))))) .nil), trivial⟩ ?_
    rintro m σ (⟨i, hm0, rfl, rfl⟩ | ⟨i, hm0, hi1, hi2, rfl⟩)
    · skip
      refine ACode.seq ?_
      refine ACode.region ?_
      refine .cons (.ls rfl rfl rfl) ?_
      refine .nil ?_
      refine ks_n ?_
      refine ACode.seq ?_
      refine .cD rfl (fun h33 => ?_) (fun h33 => ?_)
      · skip
        obtain ⟨x, hx1⟩ : ∃ x, e.ks[0]? = some x := ⟨_, List.getElem?_eq_getElem (by omega)⟩
        refine ACode.skip ?_
        refine ks_n ?_
        refine ACode.seq ?_
        refine ACode.block ?_
        refine ACode.seq ?_
        refine ACode.region ?_
        refine .cons (.xL 31 7 112 rfl rfl rfl rfl rfl (rE_at hx1)) ?_
        refine .cons (.lN 7 rfl rfl rfl) ?_
        refine .cons (.al 107 [.int .i64 0, .int .i64 0, .slice none 0 0, .int .i64 0, .string ByteArray.empty, .slice none 0 0, .slice none 0 0] rfl rfl rfl) ?_
        refine .cons (.sT 7 true rfl rfl rfl rfl rfl rfl rfl) ?_
        refine .nil ?_
        refine ks_n ?_
        refine ACode.drawK (by kernel_rfl) (by kernel_rfl) ?_
        refine .cons (.fB 6 0 false rfl rfl rfl) ?_
        refine .cons (.b1 1 rfl rfl rfl rfl rfl rfl) ?_
        refine .cons (.bN 7 rfl rfl rfl rfl rfl rfl) ?_
        refine .cons (.mv rfl rfl) ?_
        refine .cons (.cP [.tmp 38, .tmp 39] rfl rfl rfl rfl (ih x (List.mem_of_getElem? hx1)) rfl) ?_
        refine .cons (.li 31 6 0 [.tmp 40] rfl rfl rfl rfl rfl rfl) ?_
        refine .cons (St1.appN (k' := 142) (e := 31) (sz := 6) (by' := 112) rfl rfl rfl rfl rfl (by kernel_rfl) rfl rfl rfl (by simp) (by first | (simp [dR]; done) | (simp [dR]; omega)) rfl rfl) ?_
        refine .cons (.fB 6 0 false rfl rfl rfl) ?_
        refine .cons (.sT 1 false rfl rfl rfl rfl rfl rfl rfl) ?_
        refine .nil ⟨by kernel_rfl, ?_⟩
        refine kb_n ?_
        refine ks_n ?_
        refine ACode.region ?_
        refine .cons (.pl rfl rfl rfl) ?_
        refine .cons (.mv rfl rfl) ?_
        refine .nil ?_
        refine kl_k [(110, 110), (111, 111), (112, 142)] (.inr ⟨1, rfl, by omega, by omega, rfl⟩) ⟨ks rfl .dt, ks rfl .dt, ks rfl (.c .bx), ks rfl (.c .bx), ks rfl .dt, ks rfl .dt, ks rfl .dt, kb 110 rfl (.cons (.cons .dt (.cons .dt (.cons .dt (.cons .dt (.cons .dt (.cons .dt (.cons .dt Ctos.nil))))))) .nil), kb 142 rfl (.dt rfl (by first | exact dR_take (fun x => rX (mapE g x)) hx1 | exact dR_take1 (fun x => rX (mapE g x)) hx1 | rfl | (simp [dR]; done))), kb 111 rfl (.cons (.cons .dt (.cons .dt (.cons (.dt (by first | rfl | (simp [*]; done) | (simp [*]; rfl))) (.cons (.dt (by first | rfl | (simp [*]; done) | (simp [*]; rfl))) (.cons (.dt (by first | rfl | (simp [*]; done) | (simp [*]; rfl))) (.cons (.dt (by first | rfl | (simp [*]; done) | (simp [*]; rfl))) (.cons .ow Ctos.nil))))))) .nil), trivial⟩
      · skip
        have hn : e.ks = [] := List.eq_nil_of_length_eq_zero (by omega)
        refine ACode.exit ?_
        refine ks_e ?_
        refine kl_e ?_
        refine kb_hit ?_
        refine ks_n ?_
        refine ACode.seq ?_
        refine ACode.region ?_
        refine .cons (.bN 7 rfl rfl rfl rfl rfl rfl) ?_
        refine .cons (.sT 7 true rfl rfl rfl rfl rfl rfl rfl) ?_
        refine .nil ?_
        refine ks_n ?_
        refine ACode.ret ?_
        refine kf_wret [(.t 4, .v (.o (.c (.box 100 7 0 0)))), (.b 100, .b 31 7 [[.d (dI e.k), .d (dI e.n), .d (dIs (if e.k = 2 then g e.i else ([], 0)).1), .d (dI (if e.k = 2 then g e.i else ([], 0)).2), .d (dS (if e.k = 3 then mapC g e.r else (ByteArray.empty, [])).1), .d (dAs (if e.k = 3 then mapC g e.r else (ByteArray.empty, [])).2), .d (dEs (e.ks.map (mapE g)))]]), (.u 100, .u)] (Wk.keep [(100, 110)] rfl rfl ⟨ks rfl (.c .bx), kb 110 rfl (.cons (.cons .dt (.cons .dt (.cons (.dt (by first | rfl | (simp [*]; done) | (simp [*]; rfl))) (.cons (.dt (by first | rfl | (simp [*]; done) | (simp [*]; rfl))) (.cons (.dt (by first | rfl | (simp [*]; done) | (simp [*]; rfl))) (.cons (.dt (by first | rfl | (simp [*]; done) | (simp [*]; rfl))) (.cons (Cto.nilE 7 (by rw [hn]; rfl)) Ctos.nil))))))) .nil), trivial⟩) rfl ?_ nobox
        rw [rX_map]; rfl
    · skip
      refine ACode.seq ?_
      refine ACode.region ?_
      refine .cons (.ls rfl rfl rfl) ?_
      refine .nil ?_
      refine ks_n ?_
      refine ACode.seq ?_
      refine .cD rfl (fun h33 => ?_) (fun h33 => ?_)
      · skip
        obtain ⟨x, hx1⟩ : ∃ x, e.ks[i]? = some x := ⟨_, List.getElem?_eq_getElem (by omega)⟩
        refine ACode.skip ?_
        refine ks_n ?_
        refine ACode.seq ?_
        refine ACode.block ?_
        refine ACode.seq ?_
        refine ACode.region ?_
        refine .cons (.xL 31 7 112 rfl rfl rfl rfl rfl (rE_at hx1)) ?_
        refine .cons (.lN 7 rfl rfl rfl) ?_
        refine .cons (.al 107 [.int .i64 0, .int .i64 0, .slice none 0 0, .int .i64 0, .string ByteArray.empty, .slice none 0 0, .slice none 0 0] rfl rfl rfl) ?_
        refine .cons (.sT 7 true rfl rfl rfl rfl rfl rfl rfl) ?_
        refine .nil ?_
        refine ks_n ?_
        refine ACode.drawK (by kernel_rfl) (by kernel_rfl) ?_
        refine .cons (.fB 6 0 false rfl rfl rfl) ?_
        refine .cons (.b1 1 rfl rfl rfl rfl rfl rfl) ?_
        refine .cons (.bN 7 rfl rfl rfl rfl rfl rfl) ?_
        refine .cons (.mv rfl rfl) ?_
        refine .cons (.cP [.tmp 38, .tmp 39] rfl rfl rfl rfl (ih x (List.mem_of_getElem? hx1)) rfl) ?_
        refine .cons (.li 31 6 0 [.tmp 40] rfl rfl rfl rfl rfl rfl) ?_
        refine .cons (St1.appB (k' := 142) (e := 31) (sz := 6) (by' := 112) rfl rfl rfl rfl rfl (by kernel_rfl) rfl rfl rfl rfl (by first | (simp [dR]; done) | (simp [dR]; omega)) (by first | (simp [dR]; done) | (simp [dR]; omega)) rfl rfl rfl) ?_
        refine .cons (.fB 6 0 false rfl rfl rfl) ?_
        refine .cons (.sT 1 false rfl rfl rfl rfl rfl rfl rfl) ?_
        refine .nil ⟨by kernel_rfl, ?_⟩
        refine kb_n ?_
        refine ks_n ?_
        refine ACode.region ?_
        refine .cons (.pl rfl rfl rfl) ?_
        refine .cons (.mv rfl rfl) ?_
        refine .nil ?_
        refine kl_k [(110, 110), (111, 111), (112, 142)] (.inr ⟨i + 1, rfl, by omega, by omega, rfl⟩) ⟨ks rfl .dt, ks rfl .dt, ks rfl (.c .bx), ks rfl (.c .bx), ks rfl .dt, ks rfl .dt, ks rfl .dt, kb 110 rfl (.cons (.cons .dt (.cons .dt (.cons .dt (.cons .dt (.cons .dt (.cons .dt (.cons .dt Ctos.nil))))))) .nil), kb 142 rfl (.dt rfl (by first | exact dR_take (fun x => rX (mapE g x)) hx1 | exact dR_take1 (fun x => rX (mapE g x)) hx1 | rfl | (simp [dR]; done))), kb 111 rfl (.cons (.cons .dt (.cons .dt (.cons (.dt (by first | rfl | (simp [*]; done) | (simp [*]; rfl))) (.cons (.dt (by first | rfl | (simp [*]; done) | (simp [*]; rfl))) (.cons (.dt (by first | rfl | (simp [*]; done) | (simp [*]; rfl))) (.cons (.dt (by first | rfl | (simp [*]; done) | (simp [*]; rfl))) (.cons .ow Ctos.nil))))))) .nil), trivial⟩
      · skip
        obtain rfl : i = e.ks.length := by omega
        refine ACode.exit ?_
        refine ks_e ?_
        refine kl_e ?_
        refine kb_hit ?_
        refine ks_n ?_
        refine ACode.seq ?_
        refine ACode.region ?_
        refine .cons (.bN 7 rfl rfl rfl rfl rfl rfl) ?_
        refine .cons (.sT 7 true rfl rfl rfl rfl rfl rfl rfl) ?_
        refine .nil ?_
        refine ks_n ?_
        refine ACode.ret ?_
        refine kf_wret [(.t 4, .v (.o (.c (.box 100 7 0 0)))), (.b 100, .b 31 7 [[.d (dI e.k), .d (dI e.n), .d (dIs (if e.k = 2 then g e.i else ([], 0)).1), .d (dI (if e.k = 2 then g e.i else ([], 0)).2), .d (dS (if e.k = 3 then mapC g e.r else (ByteArray.empty, [])).1), .d (dAs (if e.k = 3 then mapC g e.r else (ByteArray.empty, [])).2), .d (dEs (e.ks.map (mapE g)))]]), (.u 100, .u)] (Wk.keep [(100, 110)] rfl rfl ⟨ks rfl (.c .bx), kb 110 rfl (.cons (.cons .dt (.cons .dt (.cons (.dt (by first | rfl | (simp [*]; done) | (simp [*]; rfl))) (.cons (.dt (by first | rfl | (simp [*]; done) | (simp [*]; rfl))) (.cons (.dt (by first | rfl | (simp [*]; done) | (simp [*]; rfl))) (.cons (.dt (by first | rfl | (simp [*]; done) | (simp [*]; rfl))) (.cons (.fz rfl (by first | rfl | exact dR_ex _ _ | (rw [List.take_length]; done)) (by first | rfl | (simp; done) | (simp; omega)) (by omega)) Ctos.nil))))))) .nil), trivial⟩) rfl ?_ nobox
        rw [rX_map]; rfl
  · skip
    refine ACode.seq ?_
    refine ACode.region ?_
    refine .cons (.eq rfl rfl rfl) ?_
    refine .cons (.asg rfl rfl) ?_
    refine .nil ?_
    refine ks_n ?_
    refine .cD rfl (fun h22 => ?_) (fun h22 => ?_)
    · skip
      refine ACode.region ?_
      refine .cons (.fP 4 1 true rfl rfl) ?_
      refine .cons (.lN 2 rfl rfl rfl) ?_
      refine .cons (.mv rfl rfl) ?_
      refine .cons (.cP [.tmp 25, .tmp 26] rfl rfl rfl rfl (accMap_fn hc g e.r hr (fun x hx => hg x (affsE_r h22 hx))) rfl) ?_
      refine .cons (.fB 4 1 true rfl rfl rfl) ?_
      refine .cons (.sT 2 true rfl rfl rfl rfl rfl rfl rfl) ?_
      refine .nil ?_
      refine kb_n ?_
      refine ks_n ?_
      refine ACode.seq ?_
      refine ACode.seq ?_
      refine ACode.region ?_
      refine .cons (.fP 6 0 false rfl rfl) ?_
      refine .cons (.l1 1 rfl rfl) ?_
      refine .cons (.ln 31 7 112 rfl rfl rfl) ?_
      refine .cons (.mv rfl rfl) ?_
      refine .nil ?_
      refine ks_n ?_
      refine ACode.block ?_
      refine .loopK (fun m σ => (∃ i : Nat, m = e.ks.length - i ∧ (i = 0) ∧ σ = [(.t 1, .v (.o (.c (.fn f cap)))), (.t 2, .v (.o (.c (.ptr (rX e))))), (.t 4, .v (.o (.c (.box 110 7 0 0)))), (.t 5, .v (.o (.c (.box 111 7 0 0)))), (.t 30, .v (.o (vD (dEs e.ks)))), (.t 31, .v (.o (nat1 (e.ks.length : Nat)))), (.t 32, .v (.o (nat1 (i : Nat)))), (.b 110, .b 31 7 [[.d (dI 0), .d (dI 0), .d (.val (.slice none 0 0)), .d (dI 0), .d (dS ByteArray.empty), .d (.val (.slice none 0 0)), .d (.val (.slice none 0 0))]]), (.u 110, .u), (.b 111, .b 31 7 [[.d (dI e.k), .d (dI e.n), .d (dIs (if e.k = 2 then g e.i else ([], 0)).1), .d (dI (if e.k = 2 then g e.i else ([], 0)).2), .d (dS (if e.k = 3 then mapC g e.r else (ByteArray.empty, [])).1), .d (dAs (if e.k = 3 then mapC g e.r else (ByteArray.empty, [])).2), .d (.val (.slice none 0 0))]]), (.u 111, .u)]) ∨ (∃ i : Nat, m = e.ks.length - i ∧ (1 ≤ i) ∧ (i ≤ e.ks.length) ∧ σ = [(.t 1, .v (.o (.c (.fn f cap)))), (.t 2, .v (.o (.c (.ptr (rX e))))), (.t 4, .v (.o (.c (.box 110 7 0 0)))), (.t 5, .v (.o (.c (.box 111 7 0 0)))), (.t 30, .v (.o (vD (dEs e.ks)))), (.t 31, .v (.o (nat1 (e.ks.length : Nat)))), (.t 32, .v (.o (nat1 (i : Nat)))), (.b 110, .b 31 7 [[.d (dI 0), .d (dI 0), .d (.val (.slice none 0 0)), .d (dI 0), .d (dS ByteArray.empty), .d (.val (.slice none 0 0)), .d (.val (.slice none 0 0))]]), (.u 110, .u), (.b 112, .b 31 7 (dR ((e.ks.take i).map fun x => rX (mapE g x)))), (.u 112, .u), (.b 111, .b 31 7 [[.d (dI e.k), .d (dI e.n), .d (dIs (if e.k = 2 then g e.i else ([], 0)).1), .d (dI (if e.k = 2 then g e.i else ([], 0)).2), .d (dS (if e.k = 3 then mapC g e.r else (ByteArray.empty, [])).1), .d (dAs (if e.k = 3 then mapC g e.r else (ByteArray.empty, [])).2), .own 112 7 (i)]]), (.u 111, .u)])) [(110, 104), (111, 105)] (.inl ⟨0, rfl, rfl, rfl⟩) ⟨ks rfl .dt, ks rfl .dt, ks rfl (.c .bx), ks rfl (.c .bx), ks rfl .dt, ks rfl .dt, ks rfl .dt, kb 104 rfl (.cons (.cons .dt (.cons .dt (.cons .dt (.cons .dt (.cons .dt (.cons .dt (.cons .dt Ctos.nil))))))) .nil), kb 105 rfl (.cons (.cons .dt (.cons .dt (.cons (Cto.nilE 1 (by rw [if_neg (show ¬ e.k = 2 by omega)]; rfl)) (.cons (.dt (by first | rfl | (simp [*]; done) | (simp [*]; rfl))) (.cons (.dt (by first | rfl | (simp [*]; done) | (simp [*]; rfl))) (.cons (.dt (by first | rfl | (simp [*]; done) | (simp [*]; rfl))) (.cons .dt Ctos.nil))))))) .nil), trivial⟩ ?_
      rintro m σ (⟨i, hm0, rfl, rfl⟩ | ⟨i, hm0, hi1, hi2, rfl⟩)
      · skip
        refine ACode.seq ?_
        refine ACode.region ?_
        refine .cons (.ls rfl rfl rfl) ?_
        refine .nil ?_
        refine ks_n ?_
        refine ACode.seq ?_
        refine .cD rfl (fun h33 => ?_) (fun h33 => ?_)
        · skip
          obtain ⟨x, hx1⟩ : ∃ x, e.ks[0]? = some x := ⟨_, List.getElem?_eq_getElem (by omega)⟩
          refine ACode.skip ?_
          refine ks_n ?_
          refine ACode.seq ?_
          refine ACode.block ?_
          refine ACode.seq ?_
          refine ACode.region ?_
          refine .cons (.xL 31 7 112 rfl rfl rfl rfl rfl (rE_at hx1)) ?_
          refine .cons (.lN 7 rfl rfl rfl) ?_
          refine .cons (.al 107 [.int .i64 0, .int .i64 0, .slice none 0 0, .int .i64 0, .string ByteArray.empty, .slice none 0 0, .slice none 0 0] rfl rfl rfl) ?_
          refine .cons (.sT 7 true rfl rfl rfl rfl rfl rfl rfl) ?_
          refine .nil ?_
          refine ks_n ?_
          refine ACode.drawK (by kernel_rfl) (by kernel_rfl) ?_
          refine .cons (.fB 6 0 false rfl rfl rfl) ?_
          refine .cons (.b1 1 rfl rfl rfl rfl rfl rfl) ?_
          refine .cons (.bN 7 rfl rfl rfl rfl rfl rfl) ?_
          refine .cons (.mv rfl rfl) ?_
          refine .cons (.cP [.tmp 38, .tmp 39] rfl rfl rfl rfl (ih x (List.mem_of_getElem? hx1)) rfl) ?_
          refine .cons (.li 31 6 0 [.tmp 40] rfl rfl rfl rfl rfl rfl) ?_
          refine .cons (St1.appN (k' := 142) (e := 31) (sz := 6) (by' := 112) rfl rfl rfl rfl rfl (by kernel_rfl) rfl rfl rfl (by simp) (by first | (simp [dR]; done) | (simp [dR]; omega)) rfl rfl) ?_
          refine .cons (.fB 6 0 false rfl rfl rfl) ?_
          refine .cons (.sT 1 false rfl rfl rfl rfl rfl rfl rfl) ?_
          refine .nil ⟨by kernel_rfl, ?_⟩
          refine kb_n ?_
          refine ks_n ?_
          refine ACode.region ?_
          refine .cons (.pl rfl rfl rfl) ?_
          refine .cons (.mv rfl rfl) ?_
          refine .nil ?_
          refine kl_k [(110, 110), (111, 111), (112, 142)] (.inr ⟨1, rfl, by omega, by omega, rfl⟩) ⟨ks rfl .dt, ks rfl .dt, ks rfl (.c .bx), ks rfl (.c .bx), ks rfl .dt, ks rfl .dt, ks rfl .dt, kb 110 rfl (.cons (.cons .dt (.cons .dt (.cons .dt (.cons .dt (.cons .dt (.cons .dt (.cons .dt Ctos.nil))))))) .nil), kb 142 rfl (.dt rfl (by first | exact dR_take (fun x => rX (mapE g x)) hx1 | exact dR_take1 (fun x => rX (mapE g x)) hx1 | rfl | (simp [dR]; done))), kb 111 rfl (.cons (.cons .dt (.cons .dt (.cons (.dt (by first | rfl | (simp [*]; done) | (simp [*]; rfl))) (.cons (.dt (by first | rfl | (simp [*]; done) | (simp [*]; rfl))) (.cons (.dt (by first | rfl | (simp [*]; done) | (simp [*]; rfl))) (.cons (.dt (by first | rfl | (simp [*]; done) | (simp [*]; rfl))) (.cons .ow Ctos.nil))))))) .nil), trivial⟩
        · skip
          have hn : e.ks = [] := List.eq_nil_of_length_eq_zero (by omega)
          refine ACode.exit ?_
          refine ks_e ?_
          refine kl_e ?_
          refine kb_hit ?_
          refine ks_n ?_
          refine ACode.seq ?_
          refine ACode.region ?_
          refine .cons (.bN 7 rfl rfl rfl rfl rfl rfl) ?_
          refine .cons (.sT 7 true rfl rfl rfl rfl rfl rfl rfl) ?_
          refine .nil ?_
          refine ks_n ?_
          refine ACode.ret ?_
          refine kf_wret [(.t 4, .v (.o (.c (.box 100 7 0 0)))), (.b 100, .b 31 7 [[.d (dI e.k), .d (dI e.n), .d (dIs (if e.k = 2 then g e.i else ([], 0)).1), .d (dI (if e.k = 2 then g e.i else ([], 0)).2), .d (dS (if e.k = 3 then mapC g e.r else (ByteArray.empty, [])).1), .d (dAs (if e.k = 3 then mapC g e.r else (ByteArray.empty, [])).2), .d (dEs (e.ks.map (mapE g)))]]), (.u 100, .u)] (Wk.keep [(100, 110)] rfl rfl ⟨ks rfl (.c .bx), kb 110 rfl (.cons (.cons .dt (.cons .dt (.cons (.dt (by first | rfl | (simp [*]; done) | (simp [*]; rfl))) (.cons (.dt (by first | rfl | (simp [*]; done) | (simp [*]; rfl))) (.cons (.dt (by first | rfl | (simp [*]; done) | (simp [*]; rfl))) (.cons (.dt (by first | rfl | (simp [*]; done) | (simp [*]; rfl))) (.cons (Cto.nilE 7 (by rw [hn]; rfl)) Ctos.nil))))))) .nil), trivial⟩) rfl ?_ nobox
          rw [rX_map]; rfl
      · skip
        refine ACode.seq ?_
        refine ACode.region ?_
        refine .cons (.ls rfl rfl rfl) ?_
        refine .nil ?_
        refine ks_n ?_
        refine ACode.seq ?_
        refine .cD rfl (fun h33 => ?_) (fun h33 => ?_)
        · skip
          obtain ⟨x, hx1⟩ : ∃ x, e.ks[i]? = some x := ⟨_, List.getElem?_eq_getElem (by omega)⟩
          refine ACode.skip ?_
          refine ks_n ?_
          refine ACode.seq ?_
          refine ACode.block ?_
          refine ACode.seq ?_
          refine ACode.region ?_
          refine .cons (.xL 31 7 112 rfl rfl rfl rfl rfl (rE_at hx1)) ?_
          refine .cons (.lN 7 rfl rfl rfl) ?_
          refine .cons (.al 107 [.int .i64 0, .int .i64 0, .slice none 0 0, .int .i64 0, .string ByteArray.empty, .slice none 0 0, .slice none 0 0] rfl rfl rfl) ?_
          refine .cons (.sT 7 true rfl rfl rfl rfl rfl rfl rfl) ?_
          refine .nil ?_
          refine ks_n ?_
          refine ACode.drawK (by kernel_rfl) (by kernel_rfl) ?_
          refine .cons (.fB 6 0 false rfl rfl rfl) ?_
          refine .cons (.b1 1 rfl rfl rfl rfl rfl rfl) ?_
          refine .cons (.bN 7 rfl rfl rfl rfl rfl rfl) ?_
          refine .cons (.mv rfl rfl) ?_
          refine .cons (.cP [.tmp 38, .tmp 39] rfl rfl rfl rfl (ih x (List.mem_of_getElem? hx1)) rfl) ?_
          refine .cons (.li 31 6 0 [.tmp 40] rfl rfl rfl rfl rfl rfl) ?_
          refine .cons (St1.appB (k' := 142) (e := 31) (sz := 6) (by' := 112) rfl rfl rfl rfl rfl (by kernel_rfl) rfl rfl rfl rfl (by first | (simp [dR]; done) | (simp [dR]; omega)) (by first | (simp [dR]; done) | (simp [dR]; omega)) rfl rfl rfl) ?_
          refine .cons (.fB 6 0 false rfl rfl rfl) ?_
          refine .cons (.sT 1 false rfl rfl rfl rfl rfl rfl rfl) ?_
          refine .nil ⟨by kernel_rfl, ?_⟩
          refine kb_n ?_
          refine ks_n ?_
          refine ACode.region ?_
          refine .cons (.pl rfl rfl rfl) ?_
          refine .cons (.mv rfl rfl) ?_
          refine .nil ?_
          refine kl_k [(110, 110), (111, 111), (112, 142)] (.inr ⟨i + 1, rfl, by omega, by omega, rfl⟩) ⟨ks rfl .dt, ks rfl .dt, ks rfl (.c .bx), ks rfl (.c .bx), ks rfl .dt, ks rfl .dt, ks rfl .dt, kb 110 rfl (.cons (.cons .dt (.cons .dt (.cons .dt (.cons .dt (.cons .dt (.cons .dt (.cons .dt Ctos.nil))))))) .nil), kb 142 rfl (.dt rfl (by first | exact dR_take (fun x => rX (mapE g x)) hx1 | exact dR_take1 (fun x => rX (mapE g x)) hx1 | rfl | (simp [dR]; done))), kb 111 rfl (.cons (.cons .dt (.cons .dt (.cons (.dt (by first | rfl | (simp [*]; done) | (simp [*]; rfl))) (.cons (.dt (by first | rfl | (simp [*]; done) | (simp [*]; rfl))) (.cons (.dt (by first | rfl | (simp [*]; done) | (simp [*]; rfl))) (.cons (.dt (by first | rfl | (simp [*]; done) | (simp [*]; rfl))) (.cons .ow Ctos.nil))))))) .nil), trivial⟩
        · skip
          obtain rfl : i = e.ks.length := by omega
          refine ACode.exit ?_
          refine ks_e ?_
          refine kl_e ?_
          refine kb_hit ?_
          refine ks_n ?_
          refine ACode.seq ?_
          refine ACode.region ?_
          refine .cons (.bN 7 rfl rfl rfl rfl rfl rfl) ?_
          refine .cons (.sT 7 true rfl rfl rfl rfl rfl rfl rfl) ?_
          refine .nil ?_
          refine ks_n ?_
          refine ACode.ret ?_
          refine kf_wret [(.t 4, .v (.o (.c (.box 100 7 0 0)))), (.b 100, .b 31 7 [[.d (dI e.k), .d (dI e.n), .d (dIs (if e.k = 2 then g e.i else ([], 0)).1), .d (dI (if e.k = 2 then g e.i else ([], 0)).2), .d (dS (if e.k = 3 then mapC g e.r else (ByteArray.empty, [])).1), .d (dAs (if e.k = 3 then mapC g e.r else (ByteArray.empty, [])).2), .d (dEs (e.ks.map (mapE g)))]]), (.u 100, .u)] (Wk.keep [(100, 110)] rfl rfl ⟨ks rfl (.c .bx), kb 110 rfl (.cons (.cons .dt (.cons .dt (.cons (.dt (by first | rfl | (simp [*]; done) | (simp [*]; rfl))) (.cons (.dt (by first | rfl | (simp [*]; done) | (simp [*]; rfl))) (.cons (.dt (by first | rfl | (simp [*]; done) | (simp [*]; rfl))) (.cons (.dt (by first | rfl | (simp [*]; done) | (simp [*]; rfl))) (.cons (.fz rfl (by first | rfl | exact dR_ex _ _ | (rw [List.take_length]; done)) (by first | rfl | (simp; done) | (simp; omega)) (by omega)) Ctos.nil))))))) .nil), trivial⟩) rfl ?_ nobox
          rw [rX_map]; rfl
    · skip
      refine ACode.skip ?_
      refine kb_n ?_
      refine ks_n ?_
      refine ACode.seq ?_
      refine ACode.seq ?_
      refine ACode.region ?_
      refine .cons (.fP 6 0 false rfl rfl) ?_
      refine .cons (.l1 1 rfl rfl) ?_
      refine .cons (.ln 31 7 112 rfl rfl rfl) ?_
      refine .cons (.mv rfl rfl) ?_
      refine .nil ?_
      refine ks_n ?_
      refine ACode.block ?_
      refine .loopK (fun m σ => (∃ i : Nat, m = e.ks.length - i ∧ (i = 0) ∧ σ = [(.t 1, .v (.o (.c (.fn f cap)))), (.t 2, .v (.o (.c (.ptr (rX e))))), (.t 4, .v (.o (.c (.box 110 7 0 0)))), (.t 5, .v (.o (.c (.box 111 7 0 0)))), (.t 30, .v (.o (vD (dEs e.ks)))), (.t 31, .v (.o (nat1 (e.ks.length : Nat)))), (.t 32, .v (.o (nat1 (i : Nat)))), (.b 110, .b 31 7 [[.d (dI 0), .d (dI 0), .d (.val (.slice none 0 0)), .d (dI 0), .d (dS ByteArray.empty), .d (.val (.slice none 0 0)), .d (.val (.slice none 0 0))]]), (.u 110, .u), (.b 111, .b 31 7 [[.d (dI e.k), .d (dI e.n), .d (dIs (if e.k = 2 then g e.i else ([], 0)).1), .d (dI (if e.k = 2 then g e.i else ([], 0)).2), .d (dS (if e.k = 3 then mapC g e.r else (ByteArray.empty, [])).1), .d (dAs (if e.k = 3 then mapC g e.r else (ByteArray.empty, [])).2), .d (.val (.slice none 0 0))]]), (.u 111, .u)]) ∨ (∃ i : Nat, m = e.ks.length - i ∧ (1 ≤ i) ∧ (i ≤ e.ks.length) ∧ σ = [(.t 1, .v (.o (.c (.fn f cap)))), (.t 2, .v (.o (.c (.ptr (rX e))))), (.t 4, .v (.o (.c (.box 110 7 0 0)))), (.t 5, .v (.o (.c (.box 111 7 0 0)))), (.t 30, .v (.o (vD (dEs e.ks)))), (.t 31, .v (.o (nat1 (e.ks.length : Nat)))), (.t 32, .v (.o (nat1 (i : Nat)))), (.b 110, .b 31 7 [[.d (dI 0), .d (dI 0), .d (.val (.slice none 0 0)), .d (dI 0), .d (dS ByteArray.empty), .d (.val (.slice none 0 0)), .d (.val (.slice none 0 0))]]), (.u 110, .u), (.b 112, .b 31 7 (dR ((e.ks.take i).map fun x => rX (mapE g x)))), (.u 112, .u), (.b 111, .b 31 7 [[.d (dI e.k), .d (dI e.n), .d (dIs (if e.k = 2 then g e.i else ([], 0)).1), .d (dI (if e.k = 2 then g e.i else ([], 0)).2), .d (dS (if e.k = 3 then mapC g e.r else (ByteArray.empty, [])).1), .d (dAs (if e.k = 3 then mapC g e.r else (ByteArray.empty, [])).2), .own 112 7 (i)]]), (.u 111, .u)])) [(110, 104), (111, 105)] (.inl ⟨0, rfl, rfl, rfl⟩) ⟨ks rfl .dt, ks rfl .dt, ks rfl (.c .bx), ks rfl (.c .bx), ks rfl .dt, ks rfl .dt, ks rfl .dt, kb 104 rfl (.cons (.cons .dt (.cons .dt (.cons .dt (.cons .dt (.cons .dt (.cons .dt (.cons .dt Ctos.nil))))))) .nil), kb 105 rfl (.cons (.cons .dt (.cons .dt (.cons (Cto.nilE 1 (by rw [if_neg (show ¬ e.k = 2 by omega)]; rfl)) (.cons (.dt (by first | rfl | (simp [*]; done) | (simp [*]; rfl))) (.cons (.dt (by first | rfl | (simp [*]; done) | (simp [*]; rfl))) (.cons (Cto.nilE 2 (by rw [if_neg (show ¬ e.k = 3 by omega)]; rfl)) (.cons .dt Ctos.nil))))))) .nil), trivial⟩ ?_
      rintro m σ (⟨i, hm0, rfl, rfl⟩ | ⟨i, hm0, hi1, hi2, rfl⟩)
      · skip
        refine ACode.seq ?_
        refine ACode.region ?_
        refine .cons (.ls rfl rfl rfl) ?_
        refine .nil ?_
        refine ks_n ?_
        refine ACode.seq ?_
        refine .cD rfl (fun h33 => ?_) (fun h33 => ?_)
        · skip
          obtain ⟨x, hx1⟩ : ∃ x, e.ks[0]? = some x := ⟨_, List.getElem?_eq_getElem (by omega)⟩
          refine ACode.skip ?_
          refine ks_n ?_
          refine ACode.seq ?_
          refine ACode.block ?_
          refine ACode.seq ?_
          refine ACode.region ?_
          refine .cons (.xL 31 7 112 rfl rfl rfl rfl rfl (rE_at hx1)) ?_
          refine .cons (.lN 7 rfl rfl rfl) ?_
          refine .cons (.al 107 [.int .i64 0, .int .i64 0, .slice none 0 0, .int .i64 0, .string ByteArray.empty, .slice none 0 0, .slice none 0 0] rfl rfl rfl) ?_
          refine .cons (.sT 7 true rfl rfl rfl rfl rfl rfl rfl) ?_
          refine .nil ?_
          refine ks_n ?_
          refine ACode.drawK (by kernel_rfl) (by kernel_rfl) ?_
          refine .cons (.fB 6 0 false rfl rfl rfl) ?_
          refine .cons (.b1 1 rfl rfl rfl rfl rfl rfl) ?_
          refine .cons (.bN 7 rfl rfl rfl rfl rfl rfl) ?_
          refine .cons (.mv rfl rfl) ?_
          refine .cons (.cP [.tmp 38, .tmp 39] rfl rfl rfl rfl (ih x (List.mem_of_getElem? hx1)) rfl) ?_
          refine .cons (.li 31 6 0 [.tmp 40] rfl rfl rfl rfl rfl rfl) ?_
          refine .cons (St1.appN (k' := 142) (e := 31) (sz := 6) (by' := 112) rfl rfl rfl rfl rfl (by kernel_rfl) rfl rfl rfl (by simp) (by first | (simp [dR]; done) | (simp [dR]; omega)) rfl rfl) ?_
          refine .cons (.fB 6 0 false rfl rfl rfl) ?_
          refine .cons (.sT 1 false rfl rfl rfl rfl rfl rfl rfl) ?_
          refine .nil ⟨by kernel_rfl, ?_⟩
          refine kb_n ?_
          refine ks_n ?_
          refine ACode.region ?_
          refine .cons (.pl rfl rfl rfl) ?_
          refine .cons (.mv rfl rfl) ?_
          refine .nil ?_
          refine kl_k [(110, 110), (111, 111), (112, 142)] (.inr ⟨1, rfl, by omega, by omega, rfl⟩) ⟨ks rfl .dt, ks rfl .dt, ks rfl (.c .bx), ks rfl (.c .bx), ks rfl .dt, ks rfl .dt, ks rfl .dt, kb 110 rfl (.cons (.cons .dt (.cons .dt (.cons .dt (.cons .dt (.cons .dt (.cons .dt (.cons .dt Ctos.nil))))))) .nil), kb 142 rfl (.dt rfl (by first | exact dR_take (fun x => rX (mapE g x)) hx1 | exact dR_take1 (fun x => rX (mapE g x)) hx1 | rfl | (simp [dR]; done))), kb 111 rfl (.cons (.cons .dt (.cons .dt (.cons (.dt (by first | rfl | (simp [*]; done) | (simp [*]; rfl))) (.cons (.dt (by first | rfl | (simp [*]; done) | (simp [*]; rfl))) (.cons (.dt (by first | rfl | (simp [*]; done) | (simp [*]; rfl))) (.cons (.dt (by first | rfl | (simp [*]; done) | (simp [*]; rfl))) (.cons .ow Ctos.nil))))))) .nil), trivial⟩
        · skip
          have hn : e.ks = [] := List.eq_nil_of_length_eq_zero (by omega)
          refine ACode.exit ?_
          refine ks_e ?_
          refine kl_e ?_
          refine kb_hit ?_
          refine ks_n ?_
          refine ACode.seq ?_
          refine ACode.region ?_
          refine .cons (.bN 7 rfl rfl rfl rfl rfl rfl) ?_
          refine .cons (.sT 7 true rfl rfl rfl rfl rfl rfl rfl) ?_
          refine .nil ?_
          refine ks_n ?_
          refine ACode.ret ?_
          refine kf_wret [(.t 4, .v (.o (.c (.box 100 7 0 0)))), (.b 100, .b 31 7 [[.d (dI e.k), .d (dI e.n), .d (dIs (if e.k = 2 then g e.i else ([], 0)).1), .d (dI (if e.k = 2 then g e.i else ([], 0)).2), .d (dS (if e.k = 3 then mapC g e.r else (ByteArray.empty, [])).1), .d (dAs (if e.k = 3 then mapC g e.r else (ByteArray.empty, [])).2), .d (dEs (e.ks.map (mapE g)))]]), (.u 100, .u)] (Wk.keep [(100, 110)] rfl rfl ⟨ks rfl (.c .bx), kb 110 rfl (.cons (.cons .dt (.cons .dt (.cons (.dt (by first | rfl | (simp [*]; done) | (simp [*]; rfl))) (.cons (.dt (by first | rfl | (simp [*]; done) | (simp [*]; rfl))) (.cons (.dt (by first | rfl | (simp [*]; done) | (simp [*]; rfl))) (.cons (.dt (by first | rfl | (simp [*]; done) | (simp [*]; rfl))) (.cons (Cto.nilE 7 (by rw [hn]; rfl)) Ctos.nil))))))) .nil), trivial⟩) rfl ?_ nobox
          rw [rX_map]; rfl
      · skip
        refine ACode.seq ?_
        refine ACode.region ?_
        refine .cons (.ls rfl rfl rfl) ?_
        refine .nil ?_
        refine ks_n ?_
        refine ACode.seq ?_
        refine .cD rfl (fun h33 => ?_) (fun h33 => ?_)
        · skip
          obtain ⟨x, hx1⟩ : ∃ x, e.ks[i]? = some x := ⟨_, List.getElem?_eq_getElem (by omega)⟩
          refine ACode.skip ?_
          refine ks_n ?_
          refine ACode.seq ?_
          refine ACode.block ?_
          refine ACode.seq ?_
          refine ACode.region ?_
          refine .cons (.xL 31 7 112 rfl rfl rfl rfl rfl (rE_at hx1)) ?_
          refine .cons (.lN 7 rfl rfl rfl) ?_
          refine .cons (.al 107 [.int .i64 0, .int .i64 0, .slice none 0 0, .int .i64 0, .string ByteArray.empty, .slice none 0 0, .slice none 0 0] rfl rfl rfl) ?_
          refine .cons (.sT 7 true rfl rfl rfl rfl rfl rfl rfl) ?_
          refine .nil ?_
          refine ks_n ?_
          refine ACode.drawK (by kernel_rfl) (by kernel_rfl) ?_
          refine .cons (.fB 6 0 false rfl rfl rfl) ?_
          refine .cons (.b1 1 rfl rfl rfl rfl rfl rfl) ?_
          refine .cons (.bN 7 rfl rfl rfl rfl rfl rfl) ?_
          refine .cons (.mv rfl rfl) ?_
          refine .cons (.cP [.tmp 38, .tmp 39] rfl rfl rfl rfl (ih x (List.mem_of_getElem? hx1)) rfl) ?_
          refine .cons (.li 31 6 0 [.tmp 40] rfl rfl rfl rfl rfl rfl) ?_
          refine .cons (St1.appB (k' := 142) (e := 31) (sz := 6) (by' := 112) rfl rfl rfl rfl rfl (by kernel_rfl) rfl rfl rfl rfl (by first | (simp [dR]; done) | (simp [dR]; omega)) (by first | (simp [dR]; done) | (simp [dR]; omega)) rfl rfl rfl) ?_
          refine .cons (.fB 6 0 false rfl rfl rfl) ?_
          refine .cons (.sT 1 false rfl rfl rfl rfl rfl rfl rfl) ?_
          refine .nil ⟨by kernel_rfl, ?_⟩
          refine kb_n ?_
          refine ks_n ?_
          refine ACode.region ?_
          refine .cons (.pl rfl rfl rfl) ?_
          refine .cons (.mv rfl rfl) ?_
          refine .nil ?_
          refine kl_k [(110, 110), (111, 111), (112, 142)] (.inr ⟨i + 1, rfl, by omega, by omega, rfl⟩) ⟨ks rfl .dt, ks rfl .dt, ks rfl (.c .bx), ks rfl (.c .bx), ks rfl .dt, ks rfl .dt, ks rfl .dt, kb 110 rfl (.cons (.cons .dt (.cons .dt (.cons .dt (.cons .dt (.cons .dt (.cons .dt (.cons .dt Ctos.nil))))))) .nil), kb 142 rfl (.dt rfl (by first | exact dR_take (fun x => rX (mapE g x)) hx1 | exact dR_take1 (fun x => rX (mapE g x)) hx1 | rfl | (simp [dR]; done))), kb 111 rfl (.cons (.cons .dt (.cons .dt (.cons (.dt (by first | rfl | (simp [*]; done) | (simp [*]; rfl))) (.cons (.dt (by first | rfl | (simp [*]; done) | (simp [*]; rfl))) (.cons (.dt (by first | rfl | (simp [*]; done) | (simp [*]; rfl))) (.cons (.dt (by first | rfl | (simp [*]; done) | (simp [*]; rfl))) (.cons .ow Ctos.nil))))))) .nil), trivial⟩
        · skip
          obtain rfl : i = e.ks.length := by omega
          refine ACode.exit ?_
          refine ks_e ?_
          refine kl_e ?_
          refine kb_hit ?_
          refine ks_n ?_
          refine ACode.seq ?_
          refine ACode.region ?_
          refine .cons (.bN 7 rfl rfl rfl rfl rfl rfl) ?_
          refine .cons (.sT 7 true rfl rfl rfl rfl rfl rfl rfl) ?_
          refine .nil ?_
          refine ks_n ?_
          refine ACode.ret ?_
          refine kf_wret [(.t 4, .v (.o (.c (.box 100 7 0 0)))), (.b 100, .b 31 7 [[.d (dI e.k), .d (dI e.n), .d (dIs (if e.k = 2 then g e.i else ([], 0)).1), .d (dI (if e.k = 2 then g e.i else ([], 0)).2), .d (dS (if e.k = 3 then mapC g e.r else (ByteArray.empty, [])).1), .d (dAs (if e.k = 3 then mapC g e.r else (ByteArray.empty, [])).2), .d (dEs (e.ks.map (mapE g)))]]), (.u 100, .u)] (Wk.keep [(100, 110)] rfl rfl ⟨ks rfl (.c .bx), kb 110 rfl (.cons (.cons .dt (.cons .dt (.cons (.dt (by first | rfl | (simp [*]; done) | (simp [*]; rfl))) (.cons (.dt (by first | rfl | (simp [*]; done) | (simp [*]; rfl))) (.cons (.dt (by first | rfl | (simp [*]; done) | (simp [*]; rfl))) (.cons (.dt (by first | rfl | (simp [*]; done) | (simp [*]; rfl))) (.cons (.fz rfl (by first | rfl | exact dR_ex _ _ | (rw [List.take_length]; done)) (by first | rfl | (simp; done) | (simp; omega)) (by omega)) Ctos.nil))))))) .nil), trivial⟩) rfl ?_ nobox
          rw [rX_map]; rfl

theorem exprMap_fn {f : FuncId} {cap : List (List D)} (hc : callable Try.prog f = true) (g : Aff → Aff) : ∀ e : Ex, szE e ≤ 1073741824 → (∀ x ∈ affsE e, Fn Try.prog f [] (ad (rA x) :: cap.map fun c => .c (.ptr c)) (.o (ad (rA (g x)))) []) → Fn Try.prog 121 [] [ad (rX e), .c (.fn f cap)] (.o (ad (rX (mapE g e)))) [] := by
  intro e
  induction e using Ex.rec' with
  | h e ih =>
    intro hs hg
    rw [szE_eq, szC] at hs
    have := szAs_len e.r.2
    exact exprMap_one hc g e (by omega) (by omega) hg fun x hx => ih x hx (by have := szEs_mem hx; omega) fun a ha => hg a (affsE_k hx ha)

set_option maxRecDepth 100000 in
set_option maxHeartbeats 1600000 in
theorem stmtMap_fn {f : FuncId} {cap : List (List D)} (hc : callable Try.prog f = true) (g : Aff → Aff) (s : Stm) (hs : szS s ≤ 1073741824) (hg : ∀ x ∈ affsS s, Fn Try.prog f [] (ad (rA x) :: cap.map fun c => .c (.ptr c)) (.o (ad (rA (g x)))) []) : Fn Try.prog 60 [] [ad (rS s), .c (.fn f cap)] (.o (ad (rS (mapS g s)))) [] := by
  have h1 : s.1.2.length ≤ 1073741824 := by rw [szS, szC] at hs; have := szAs_len s.1.2; omega
  have h2 : szE s.2 ≤ 1073741824 := by rw [szS] at hs; omega
  refine Fn.code0 Try.func60 rfl rfl rfl rfl ?_
  refine ACode.seq ?_
  refine ACode.region ?_
  refine .cons (St1.boxP rfl rfl rfl rfl rfl rfl) ?_
  refine .cons (.al 104 [.string ByteArray.empty, .slice none 0 0, .int .i64 0, .int .i64 0, .slice none 0 0, .int .i64 0, .string ByteArray.empty, .slice none 0 0, .slice none 0 0] rfl rfl rfl) ?_
  refine .nil ?_
  refine ks_n ?_
  refine ACode.seq ?_
  refine ACode.drawK (by kernel_rfl) (by kernel_rfl) ?_
  refine .cons (.fP 0 1 true rfl rfl) ?_
  refine .cons (.lN 2 rfl rfl rfl) ?_
  refine .cons (.mv rfl rfl) ?_
  refine .cons (.cP [.tmp 6, .tmp 7] rfl rfl rfl rfl (accMap_fn hc g s.1 h1 (fun x hx => hg x (by rw [affsS]; exact List.mem_append_left _ hx))) rfl) ?_
  refine .cons (.fP 2 6 true rfl rfl) ?_
  refine .cons (.lN 7 rfl rfl rfl) ?_
  refine .cons (.mv rfl rfl) ?_
  refine .cons (.cP [.tmp 10, .tmp 11] rfl rfl rfl rfl (exprMap_fn hc g s.2 h2 (fun x hx => hg x (by rw [affsS]; exact List.mem_append_right _ hx))) rfl) ?_
  refine .cons (.bu [(0, .tmp 8), (1, .tmp 12)] [(0, 2), (2, 7)] [.string ByteArray.empty, .slice none 0 0, .int .i64 0, .int .i64 0, .slice none 0 0, .int .i64 0, .string ByteArray.empty, .slice none 0 0, .slice none 0 0] rfl rfl rfl rfl rfl) ?_
  refine .cons (.sT 9 true rfl rfl rfl rfl rfl rfl rfl) ?_
  refine .nil ⟨by kernel_rfl, ?_⟩
  refine ks_n ?_
  refine ACode.ret ?_
  refine kf_ret rfl ?_ nobox
  rfl

theorem szE_aff : ∀ {e : Ex} {m : Nat}, szE e ≤ m → ∀ x ∈ affsE e, x.1.length ≤ m := by
  intro e
  induction e using Ex.rec' with
  | h e ih =>
    intro m hs x hx
    rw [szE_eq, szC] at hs
    rw [affsE_eq, List.mem_append, List.mem_append] at hx
    rcases hx with hx | hx | hx
    · split at hx
      · rw [List.mem_singleton.1 hx]; omega
      · cases hx
    · split at hx
      · have := szAs_mem hx; omega
      · cases hx
    · have key : ∀ l : List Ex, x ∈ affsEs l → ∃ y ∈ l, x ∈ affsE y := by
        intro l
        induction l with
        | nil => intro h; cases h
        | cons y l ih =>
          intro h
          rw [affsEs, List.mem_append] at h
          rcases h with h | h
          · exact ⟨y, by simp, h⟩
          · obtain ⟨z, h1, h2⟩ := ih h; exact ⟨z, by simp [h1], h2⟩
      obtain ⟨y, hy, hxy⟩ := key _ hx
      exact ih y hy (by have := szEs_mem hy; omega) x hxy
theorem szS_aff {s : Stm} {m : Nat} (hs : szS s ≤ m) : ∀ x ∈ affsS s, x.1.length ≤ m := by
  intro x hx
  rw [szS, szC] at hs
  rw [affsS, List.mem_append] at hx
  rcases hx with hx | hx
  · have := szAs_mem hx; omega
  · exact szE_aff (by omega) x hx
set_option maxRecDepth 100000 in
set_option maxHeartbeats 1600000 in
theorem ownStmt_fn (s : Stm) (hs : szS s ≤ 1073741824) : Fn Try.prog 67 [] [ad (rS s)] (.o (ad (rS (mapS id s)))) [] := by
  refine Fn.code0 Try.func67 rfl rfl rfl rfl ?_
  refine ACode.seq ?_
  refine ACode.region ?_
  refine .cons (St1.boxP rfl rfl rfl rfl rfl rfl) ?_
  refine .cons (.al 102 [.string ByteArray.empty, .slice none 0 0, .int .i64 0, .int .i64 0, .slice none 0 0, .int .i64 0, .string ByteArray.empty, .slice none 0 0, .slice none 0 0] rfl rfl rfl) ?_
  refine .nil ?_
  refine ks_n ?_
  refine ACode.seq ?_
  refine ACode.region ?_
  refine .cons (.lN 9 rfl rfl rfl) ?_
  refine .cons (.cP [.tmp 3, .func 122] rfl rfl rfl rfl (stmtMap_fn (f := 122) (cap := []) (by kernel_rfl) id s hs (fun x hx => ownAff_fn (szS_aff hs x hx))) rfl) ?_
  refine .cons (.sT 9 true rfl rfl rfl rfl rfl rfl rfl) ?_
  refine .nil ?_
  refine ks_n ?_
  refine ACode.ret ?_
  refine kf_ret rfl ?_ nobox
  rfl

set_option maxRecDepth 100000 in
set_option maxHeartbeats 1600000 in
theorem l3CopyAff_fn {x : Aff} (hx : x.1.length ≤ 1073741824) : Fn Try.prog 147 [] [ad (rA x)] (.o (ad (rA x))) [] := by
  refine Fn.code0 Try.func147 rfl rfl rfl rfl ?_
  refine ACode.seq ?_
  refine ACode.region ?_
  refine .cons (St1.boxP rfl rfl rfl rfl rfl rfl) ?_
  refine .cons (.al 102 [.slice none 0 0, .int .i64 0] rfl rfl rfl) ?_
  refine .nil ?_
  refine ks_n ?_
  refine ACode.seq ?_
  refine ACode.seq ?_
  refine ACode.region ?_
  refine .cons (.fP 0 0 false rfl rfl) ?_
  refine .cons (.l1 1 rfl rfl) ?_
  refine .cons (.ln 3 1 8 rfl rfl rfl) ?_
  refine .cons (.eq rfl rfl rfl) ?_
  refine .nil ?_
  refine ks_n ?_
  refine .cD rfl (fun h6 => ?_) (fun h6 => ?_)
  · skip
    have hn : x.1 = [] := List.eq_nil_of_length_eq_zero (by omega)
    refine ACode.seq ?_
    refine ACode.region ?_
    refine .cons (.fP 1 0 false rfl rfl) ?_
    refine .cons (.l1 1 rfl rfl) ?_
    refine .cons (.bu [(1, .tmp 8)] [(0, 1), (1, 1)] [.slice none 0 0, .int .i64 0] rfl rfl rfl rfl rfl) ?_
    refine .cons (.sT 2 true rfl rfl rfl rfl rfl rfl rfl) ?_
    refine .nil ?_
    refine ks_n ?_
    refine ACode.ret ?_
    refine ks_r ?_
    refine kf_wret [(.t 2, .v (.o (.c (.box 100 2 0 0)))), (.b 100, .b 28 2 [[.d (dIs x.1), .d (dI x.2)]]), (.u 100, .u)] (Wk.keep [(100, 102)] rfl rfl ⟨ks rfl (.c .bx), kb 102 rfl (.cons (.cons (Cto.nilE 1 (by rw [hn]; rfl)) (.cons .dt Ctos.nil)) .nil), trivial⟩) rfl ?_ nobox
    rfl
  · skip
    refine ACode.skip ?_
    refine ks_n ?_
    refine ACode.seq ?_
    refine ACode.drawK (by kernel_rfl) (by kernel_rfl) ?_
    refine .cons (St1.lit0 (k' := 110) (e := 3) (sz := 1) (b := true) rfl rfl rfl rfl (by kernel_rfl) rfl rfl) ?_
    refine .cons (.fP 0 0 false rfl rfl) ?_
    refine .cons (.l1 1 rfl rfl) ?_
    refine .cons (St1.appD (rows := []) (e := 3) (sz := 0) (by' := 8) rfl rfl rfl rfl rfl (by kernel_rfl) rfl rfl rfl rfl rfl (by simp; omega) rfl) ?_
    refine .cons (.fP 1 0 false rfl rfl) ?_
    refine .cons (.l1 1 rfl rfl) ?_
    refine .cons (.bu [(0, .tmp 13), (1, .tmp 15)] [(0, 1), (1, 1)] [.slice none 0 0, .int .i64 0] rfl rfl rfl rfl rfl) ?_
    refine .cons (.sT 2 true rfl rfl rfl rfl rfl rfl rfl) ?_
    refine .nil ⟨by kernel_rfl, ?_⟩
    refine ks_n ?_
    refine ACode.ret ?_
    refine kf_wret [(.t 2, .v (.o (.c (.box 100 2 0 0)))), (.b 100, .b 28 2 [[.d (dIs x.1), .d (dI x.2)]]), (.u 100, .u)] (Wk.keep [(100, 102)] rfl rfl ⟨ks rfl (.c .bx), kb 102 rfl (.cons (.cons (.dt) (.cons .dt Ctos.nil)) .nil), trivial⟩) rfl ?_ nobox
    rfl

set_option maxRecDepth 100000 in
set_option maxHeartbeats 1600000 in
theorem l3CopyAcc_fn (a : Acc) (ha : a.2.length ≤ 1073741824) (hq : ∀ x ∈ a.2, x.1.length ≤ 1073741824) : Fn Try.prog 104 [] [ad (rC a)] (.o (ad (rC a))) [] := by
  refine Fn.code0 Try.func104 rfl rfl rfl rfl ?_
  refine ACode.seq ?_
  refine ACode.region ?_
  refine .cons (St1.boxP rfl rfl rfl rfl rfl rfl) ?_
  refine .cons (.al 102 [.string ByteArray.empty, .slice none 0 0] rfl rfl rfl) ?_
  refine .nil ?_
  refine ks_n ?_
  refine ACode.seq ?_
  refine ACode.region ?_
  refine .cons (.fP 0 0 false rfl rfl) ?_
  refine .cons (.l1 1 rfl rfl) ?_
  refine .cons (.bu [(0, .tmp 6)] [(0, 1), (1, 1)] [.string ByteArray.empty, .slice none 0 0] rfl rfl rfl rfl rfl) ?_
  refine .cons (.al 103 [.string ByteArray.empty, .slice none 0 0] rfl rfl rfl) ?_
  refine .cons (.sT 2 true rfl rfl rfl rfl rfl rfl rfl) ?_
  refine .nil ?_
  refine ks_n ?_
  refine ACode.seq ?_
  refine ACode.seq ?_
  refine ACode.region ?_
  refine .cons (.asg rfl rfl) ?_
  refine .nil ?_
  refine ks_n ?_
  refine ACode.block ?_
  refine .loopK (fun m σ => (∃ i : Nat, m = a.2.length - i ∧ (i = 0) ∧ σ = [(.t 1, .v (.o (.c (.ptr (rC a))))), (.t 2, .v (.o (.c (.box 110 2 0 0)))), (.t 3, .v (.o (.c (.box 111 2 0 0)))), (.t 4, .v (.o (nat1 (i : Nat)))), (.b 110, .b 25 2 [[.d (dS ByteArray.empty), .d (.val (.slice none 0 0))]]), (.u 110, .u), (.b 111, .b 25 2 [[.d (dS a.1), .d (.val (.slice none 0 0))]]), (.u 111, .u)]) ∨ (∃ i : Nat, m = a.2.length - i ∧ (1 ≤ i) ∧ (i ≤ a.2.length) ∧ σ = [(.t 1, .v (.o (.c (.ptr (rC a))))), (.t 2, .v (.o (.c (.box 110 2 0 0)))), (.t 3, .v (.o (.c (.box 111 2 0 0)))), (.t 4, .v (.o (nat1 (i : Nat)))), (.b 110, .b 25 2 [[.d (dS ByteArray.empty), .d (.val (.slice none 0 0))]]), (.u 110, .u), (.b 112, .b 28 2 (dR ((a.2.take i).map rA))), (.u 112, .u), (.b 111, .b 25 2 [[.d (dS a.1), .own 112 2 (i)]]), (.u 111, .u)])) [(110, 102), (111, 103)] (.inl ⟨0, rfl, rfl, rfl⟩) ⟨ks rfl .dt, ks rfl (.c .bx), ks rfl (.c .bx), ks rfl .dt, kb 102 rfl (.cons (.cons .dt (.cons .dt Ctos.nil)) .nil), kb 103 rfl (.cons (.cons .dt (.cons .dt Ctos.nil)) .nil), trivial⟩ ?_
  rintro m σ (⟨i, hm0, rfl, rfl⟩ | ⟨i, hm0, hi1, hi2, rfl⟩)
  · skip
    refine ACode.seq ?_
    refine ACode.seq ?_
    refine ACode.region ?_
    refine .cons (.mv rfl rfl) ?_
    refine .cons (.fP 1 0 false rfl rfl) ?_
    refine .cons (.l1 1 rfl rfl) ?_
    refine .cons (.ln 28 2 32 rfl rfl rfl) ?_
    refine .cons (.ls rfl rfl rfl) ?_
    refine .nil ?_
    refine ks_n ?_
    refine .cD rfl (fun h12 => ?_) (fun h12 => ?_)
    · skip
      obtain ⟨x, hx1⟩ : ∃ x, a.2[0]? = some x := ⟨_, List.getElem?_eq_getElem (by omega)⟩
      refine ACode.skip ?_
      refine ks_n ?_
      refine ACode.seq ?_
      refine ACode.block ?_
      refine ACode.drawK (by kernel_rfl) (by kernel_rfl) ?_
      refine .cons (.fB 1 0 false rfl rfl rfl) ?_
      refine .cons (.b1 1 rfl rfl rfl rfl rfl rfl) ?_
      refine .cons (.fP 1 0 false rfl rfl) ?_
      refine .cons (.l1 1 rfl rfl) ?_
      refine .cons (.mv rfl rfl) ?_
      refine .cons (.xL 28 2 32 rfl rfl rfl rfl rfl) ?_
      refine .cons (.lN 2 rfl rfl rfl) ?_
      refine .cons (.cP [.tmp 21] rfl rfl rfl rfl (l3CopyAff_fn (hq x (List.mem_of_getElem? hx1))) rfl) ?_
      refine .cons (.li 28 1 0 [.tmp 22] rfl rfl rfl rfl rfl rfl) ?_
      refine .cons (St1.appN (k' := 124) (e := 28) (sz := 1) (by' := 32) rfl rfl rfl rfl rfl (by kernel_rfl) rfl rfl rfl (by simp) (by first | (simp [dR]; done) | (simp [dR]; omega)) rfl rfl) ?_
      refine .cons (.fB 1 0 false rfl rfl rfl) ?_
      refine .cons (.sT 1 false rfl rfl rfl rfl rfl rfl rfl) ?_
      refine .nil ⟨by kernel_rfl, ?_⟩
      refine kb_n ?_
      refine ks_n ?_
      refine ACode.region ?_
      refine .cons (.mv rfl rfl) ?_
      refine .cons (.pl rfl rfl rfl) ?_
      refine .cons (.asg rfl rfl) ?_
      refine .nil ?_
      refine kl_k [(110, 110), (111, 111), (112, 124)] (.inr ⟨1, rfl, by omega, by omega, rfl⟩) ⟨ks rfl .dt, ks rfl (.c .bx), ks rfl (.c .bx), ks rfl .dt, kb 110 rfl (.cons (.cons .dt (.cons .dt Ctos.nil)) .nil), kb 124 rfl (.dt rfl (by first | exact dR_take (rA) hx1 | exact dR_take1 (rA) hx1 | rfl | (simp [dR]; done))), kb 111 rfl (.cons (.cons .dt (.cons .ow Ctos.nil)) .nil), trivial⟩
    · skip
      have hn : a.2 = [] := List.eq_nil_of_length_eq_zero (by omega)
      refine ACode.exit ?_
      refine ks_e ?_
      refine kl_e ?_
      refine kb_hit ?_
      refine ks_n ?_
      refine ACode.seq ?_
      refine ACode.region ?_
      refine .cons (.bN 2 rfl rfl rfl rfl rfl rfl) ?_
      refine .cons (.sT 2 true rfl rfl rfl rfl rfl rfl rfl) ?_
      refine .nil ?_
      refine ks_n ?_
      refine ACode.ret ?_
      refine kf_wret [(.t 2, .v (.o (.c (.box 100 2 0 0)))), (.b 100, .b 25 2 [[.d (dS a.1), .d (dAs a.2)]]), (.u 100, .u)] (Wk.keep [(100, 110)] rfl rfl ⟨ks rfl (.c .bx), kb 110 rfl (.cons (.cons .dt (.cons (Cto.nilE 2 (by rw [hn]; rfl)) Ctos.nil)) .nil), trivial⟩) rfl ?_ nobox
      rfl
  · skip
    refine ACode.seq ?_
    refine ACode.seq ?_
    refine ACode.region ?_
    refine .cons (.mv rfl rfl) ?_
    refine .cons (.fP 1 0 false rfl rfl) ?_
    refine .cons (.l1 1 rfl rfl) ?_
    refine .cons (.ln 28 2 32 rfl rfl rfl) ?_
    refine .cons (.ls rfl rfl rfl) ?_
    refine .nil ?_
    refine ks_n ?_
    refine .cD rfl (fun h12 => ?_) (fun h12 => ?_)
    · skip
      obtain ⟨x, hx1⟩ : ∃ x, a.2[i]? = some x := ⟨_, List.getElem?_eq_getElem (by omega)⟩
      refine ACode.skip ?_
      refine ks_n ?_
      refine ACode.seq ?_
      refine ACode.block ?_
      refine ACode.drawK (by kernel_rfl) (by kernel_rfl) ?_
      refine .cons (.fB 1 0 false rfl rfl rfl) ?_
      refine .cons (.b1 1 rfl rfl rfl rfl rfl rfl) ?_
      refine .cons (.fP 1 0 false rfl rfl) ?_
      refine .cons (.l1 1 rfl rfl) ?_
      refine .cons (.mv rfl rfl) ?_
      refine .cons (.xL 28 2 32 rfl rfl rfl rfl rfl) ?_
      refine .cons (.lN 2 rfl rfl rfl) ?_
      refine .cons (.cP [.tmp 21] rfl rfl rfl rfl (l3CopyAff_fn (hq x (List.mem_of_getElem? hx1))) rfl) ?_
      refine .cons (.li 28 1 0 [.tmp 22] rfl rfl rfl rfl rfl rfl) ?_
      refine .cons (St1.appB (k' := 124) (e := 28) (sz := 1) (by' := 32) rfl rfl rfl rfl rfl (by kernel_rfl) rfl rfl rfl rfl (by first | (simp [dR]; done) | (simp [dR]; omega)) (by first | (simp [dR]; done) | (simp [dR]; omega)) rfl rfl rfl) ?_
      refine .cons (.fB 1 0 false rfl rfl rfl) ?_
      refine .cons (.sT 1 false rfl rfl rfl rfl rfl rfl rfl) ?_
      refine .nil ⟨by kernel_rfl, ?_⟩
      refine kb_n ?_
      refine ks_n ?_
      refine ACode.region ?_
      refine .cons (.mv rfl rfl) ?_
      refine .cons (.pl rfl rfl rfl) ?_
      refine .cons (.asg rfl rfl) ?_
      refine .nil ?_
      refine kl_k [(110, 110), (111, 111), (112, 124)] (.inr ⟨i + 1, rfl, by omega, by omega, rfl⟩) ⟨ks rfl .dt, ks rfl (.c .bx), ks rfl (.c .bx), ks rfl .dt, kb 110 rfl (.cons (.cons .dt (.cons .dt Ctos.nil)) .nil), kb 124 rfl (.dt rfl (by first | exact dR_take (rA) hx1 | exact dR_take1 (rA) hx1 | rfl | (simp [dR]; done))), kb 111 rfl (.cons (.cons .dt (.cons .ow Ctos.nil)) .nil), trivial⟩
    · skip
      obtain rfl : i = a.2.length := by omega
      refine ACode.exit ?_
      refine ks_e ?_
      refine kl_e ?_
      refine kb_hit ?_
      refine ks_n ?_
      refine ACode.seq ?_
      refine ACode.region ?_
      refine .cons (.bN 2 rfl rfl rfl rfl rfl rfl) ?_
      refine .cons (.sT 2 true rfl rfl rfl rfl rfl rfl rfl) ?_
      refine .nil ?_
      refine ks_n ?_
      refine ACode.ret ?_
      refine kf_wret [(.t 2, .v (.o (.c (.box 100 2 0 0)))), (.b 100, .b 25 2 [[.d (dS a.1), .d (dAs a.2)]]), (.u 100, .u)] (Wk.keep [(100, 110)] rfl rfl ⟨ks rfl (.c .bx), kb 110 rfl (.cons (.cons .dt (.cons (.fz rfl (by first | rfl | exact dR_af _ _ | (rw [List.take_length]; done)) (by first | rfl | (simp; done) | (simp; omega)) (by omega)) Ctos.nil)) .nil), trivial⟩) rfl ?_ nobox
      rfl

set_option maxRecDepth 100000 in
set_option maxHeartbeats 1600000 in
theorem l3CopyEx_one (e : Ex) (hi : e.i.1.length ≤ 1073741824) (hr : e.r.2.length ≤ 1073741824) (hq : ∀ x ∈ e.r.2, x.1.length ≤ 1073741824) (hk : e.ks.length ≤ 1073741824) (ih : ∀ x ∈ e.ks, Fn Try.prog 142 [] [ad (rX x)] (.o (ad (rX x))) []) : Fn Try.prog 142 [] [ad (rX e)] (.o (ad (rX e))) [] := by
  refine Fn.code0 Try.func142 rfl rfl rfl rfl ?_
  refine ACode.seq ?_
  refine ACode.region ?_
  refine .cons (St1.boxP rfl rfl rfl rfl rfl rfl) ?_
  refine .cons (.al 102 [.int .i64 0, .int .i64 0, .slice none 0 0, .int .i64 0, .string ByteArray.empty, .slice none 0 0, .slice none 0 0] rfl rfl rfl) ?_
  refine .nil ?_
  refine ks_n ?_
  refine ACode.seq ?_
  refine ACode.drawK (by kernel_rfl) (by kernel_rfl) ?_
  refine .cons (.fP 0 0 false rfl rfl) ?_
  refine .cons (.l1 1 rfl rfl) ?_
  refine .cons (.fP 1 0 false rfl rfl) ?_
  refine .cons (.l1 1 rfl rfl) ?_
  refine .cons (.fP 2 1 true rfl rfl) ?_
  refine .cons (.lN 2 rfl rfl rfl) ?_
  refine .cons (.cP [.tmp 10] rfl rfl rfl rfl (l3CopyAff_fn hi) rfl) ?_
  refine .cons (.fP 4 1 true rfl rfl) ?_
  refine .cons (.lN 2 rfl rfl rfl) ?_
  refine .cons (.cP [.tmp 13] rfl rfl rfl rfl (l3CopyAcc_fn e.r hr hq) rfl) ?_
  refine .cons (.bu [(0, .tmp 6), (1, .tmp 8), (2, .tmp 11), (3, .tmp 14)] [(0, 1), (1, 1), (2, 2), (4, 2), (6, 1)] [.int .i64 0, .int .i64 0, .slice none 0 0, .int .i64 0, .string ByteArray.empty, .slice none 0 0, .slice none 0 0] rfl rfl rfl rfl rfl) ?_
  refine .cons (.al 103 [.int .i64 0, .int .i64 0, .slice none 0 0, .int .i64 0, .string ByteArray.empty, .slice none 0 0, .slice none 0 0] rfl rfl rfl) ?_
  refine .cons (.sT 7 true rfl rfl rfl rfl rfl rfl rfl) ?_
  refine .nil ⟨by kernel_rfl, ?_⟩
  refine ks_n ?_
  refine ACode.seq ?_
  refine ACode.seq ?_
  refine ACode.region ?_
  refine .cons (.asg rfl rfl) ?_
  refine .nil ?_
  refine ks_n ?_
  refine ACode.block ?_
  refine .loopK (fun m σ => (∃ i : Nat, m = e.ks.length - i ∧ (i = 0) ∧ σ = [(.t 1, .v (.o (.c (.ptr (rX e))))), (.t 2, .v (.o (.c (.box 110 7 0 0)))), (.t 3, .v (.o (.c (.box 111 7 0 0)))), (.t 4, .v (.o (nat1 (i : Nat)))), (.b 110, .b 31 7 [[.d (dI 0), .d (dI 0), .d (.val (.slice none 0 0)), .d (dI 0), .d (dS ByteArray.empty), .d (.val (.slice none 0 0)), .d (.val (.slice none 0 0))]]), (.u 110, .u), (.b 111, .b 31 7 [[.d (dI e.k), .d (dI e.n), .d (dIs e.i.1), .d (dI e.i.2), .d (dS e.r.1), .d (dAs e.r.2), .d (.val (.slice none 0 0))]]), (.u 111, .u)]) ∨ (∃ i : Nat, m = e.ks.length - i ∧ (1 ≤ i) ∧ (i ≤ e.ks.length) ∧ σ = [(.t 1, .v (.o (.c (.ptr (rX e))))), (.t 2, .v (.o (.c (.box 110 7 0 0)))), (.t 3, .v (.o (.c (.box 111 7 0 0)))), (.t 4, .v (.o (nat1 (i : Nat)))), (.b 110, .b 31 7 [[.d (dI 0), .d (dI 0), .d (.val (.slice none 0 0)), .d (dI 0), .d (dS ByteArray.empty), .d (.val (.slice none 0 0)), .d (.val (.slice none 0 0))]]), (.u 110, .u), (.b 112, .b 31 7 (dR ((e.ks.take i).map fun x => rX x))), (.u 112, .u), (.b 111, .b 31 7 [[.d (dI e.k), .d (dI e.n), .d (dIs e.i.1), .d (dI e.i.2), .d (dS e.r.1), .d (dAs e.r.2), .own 112 7 (i)]]), (.u 111, .u)])) [(110, 102), (111, 103)] (.inl ⟨0, rfl, rfl, rfl⟩) ⟨ks rfl .dt, ks rfl (.c .bx), ks rfl (.c .bx), ks rfl .dt, kb 102 rfl (.cons (.cons .dt (.cons .dt (.cons .dt (.cons .dt (.cons .dt (.cons .dt (.cons .dt Ctos.nil))))))) .nil), kb 103 rfl (.cons (.cons .dt (.cons .dt (.cons .dt (.cons .dt (.cons .dt (.cons .dt (.cons .dt Ctos.nil))))))) .nil), trivial⟩ ?_
  rintro m σ (⟨i, hm0, rfl, rfl⟩ | ⟨i, hm0, hi1, hi2, rfl⟩)
  · skip
    refine ACode.seq ?_
    refine ACode.seq ?_
    refine ACode.region ?_
    refine .cons (.mv rfl rfl) ?_
    refine .cons (.fP 6 0 false rfl rfl) ?_
    refine .cons (.l1 1 rfl rfl) ?_
    refine .cons (.ln 31 7 112 rfl rfl rfl) ?_
    refine .cons (.ls rfl rfl rfl) ?_
    refine .nil ?_
    refine ks_n ?_
    refine .cD rfl (fun h20 => ?_) (fun h20 => ?_)
    · skip
      obtain ⟨x, hx1⟩ : ∃ x, e.ks[0]? = some x := ⟨_, List.getElem?_eq_getElem (by omega)⟩
      refine ACode.skip ?_
      refine ks_n ?_
      refine ACode.seq ?_
      refine ACode.block ?_
      refine ACode.drawK (by kernel_rfl) (by kernel_rfl) ?_
      refine .cons (.fB 6 0 false rfl rfl rfl) ?_
      refine .cons (.b1 1 rfl rfl rfl rfl rfl rfl) ?_
      refine .cons (.fP 6 0 false rfl rfl) ?_
      refine .cons (.l1 1 rfl rfl) ?_
      refine .cons (.mv rfl rfl) ?_
      refine .cons (.xL 31 7 112 rfl rfl rfl rfl rfl (rE_at hx1)) ?_
      refine .cons (.lN 7 rfl rfl rfl) ?_
      refine .cons (.cP [.tmp 29] rfl rfl rfl rfl (ih x (List.mem_of_getElem? hx1)) rfl) ?_
      refine .cons (.li 31 6 0 [.tmp 30] rfl rfl rfl rfl rfl rfl) ?_
      refine .cons (St1.appN (k' := 132) (e := 31) (sz := 6) (by' := 112) rfl rfl rfl rfl rfl (by kernel_rfl) rfl rfl rfl (by simp) (by first | (simp [dR]; done) | (simp [dR]; omega)) rfl rfl) ?_
      refine .cons (.fB 6 0 false rfl rfl rfl) ?_
      refine .cons (.sT 1 false rfl rfl rfl rfl rfl rfl rfl) ?_
      refine .nil ⟨by kernel_rfl, ?_⟩
      refine kb_n ?_
      refine ks_n ?_
      refine ACode.region ?_
      refine .cons (.mv rfl rfl) ?_
      refine .cons (.pl rfl rfl rfl) ?_
      refine .cons (.asg rfl rfl) ?_
      refine .nil ?_
      refine kl_k [(110, 110), (111, 111), (112, 132)] (.inr ⟨1, rfl, by omega, by omega, rfl⟩) ⟨ks rfl .dt, ks rfl (.c .bx), ks rfl (.c .bx), ks rfl .dt, kb 110 rfl (.cons (.cons .dt (.cons .dt (.cons .dt (.cons .dt (.cons .dt (.cons .dt (.cons .dt Ctos.nil))))))) .nil), kb 132 rfl (.dt rfl (by first | exact dR_take (fun x => rX x) hx1 | exact dR_take1 (fun x => rX x) hx1 | rfl | (simp [dR]; done))), kb 111 rfl (.cons (.cons .dt (.cons .dt (.cons .dt (.cons .dt (.cons .dt (.cons .dt (.cons .ow Ctos.nil))))))) .nil), trivial⟩
    · skip
      have hn : e.ks = [] := List.eq_nil_of_length_eq_zero (by omega)
      refine ACode.exit ?_
      refine ks_e ?_
      refine kl_e ?_
      refine kb_hit ?_
      refine ks_n ?_
      refine ACode.seq ?_
      refine ACode.region ?_
      refine .cons (.bN 7 rfl rfl rfl rfl rfl rfl) ?_
      refine .cons (.sT 7 true rfl rfl rfl rfl rfl rfl rfl) ?_
      refine .nil ?_
      refine ks_n ?_
      refine ACode.ret ?_
      refine kf_wret [(.t 2, .v (.o (.c (.box 100 7 0 0)))), (.b 100, .b 31 7 [[.d (dI e.k), .d (dI e.n), .d (dIs e.i.1), .d (dI e.i.2), .d (dS e.r.1), .d (dAs e.r.2), .d (dEs e.ks)]]), (.u 100, .u)] (Wk.keep [(100, 110)] rfl rfl ⟨ks rfl (.c .bx), kb 110 rfl (.cons (.cons .dt (.cons .dt (.cons .dt (.cons .dt (.cons .dt (.cons .dt (.cons (Cto.nilE 7 (by rw [hn]; rfl)) Ctos.nil))))))) .nil), trivial⟩) rfl ?_ nobox
      rfl
  · skip
    refine ACode.seq ?_
    refine ACode.seq ?_
    refine ACode.region ?_
    refine .cons (.mv rfl rfl) ?_
    refine .cons (.fP 6 0 false rfl rfl) ?_
    refine .cons (.l1 1 rfl rfl) ?_
    refine .cons (.ln 31 7 112 rfl rfl rfl) ?_
    refine .cons (.ls rfl rfl rfl) ?_
    refine .nil ?_
    refine ks_n ?_
    refine .cD rfl (fun h20 => ?_) (fun h20 => ?_)
    · skip
      obtain ⟨x, hx1⟩ : ∃ x, e.ks[i]? = some x := ⟨_, List.getElem?_eq_getElem (by omega)⟩
      refine ACode.skip ?_
      refine ks_n ?_
      refine ACode.seq ?_
      refine ACode.block ?_
      refine ACode.drawK (by kernel_rfl) (by kernel_rfl) ?_
      refine .cons (.fB 6 0 false rfl rfl rfl) ?_
      refine .cons (.b1 1 rfl rfl rfl rfl rfl rfl) ?_
      refine .cons (.fP 6 0 false rfl rfl) ?_
      refine .cons (.l1 1 rfl rfl) ?_
      refine .cons (.mv rfl rfl) ?_
      refine .cons (.xL 31 7 112 rfl rfl rfl rfl rfl (rE_at hx1)) ?_
      refine .cons (.lN 7 rfl rfl rfl) ?_
      refine .cons (.cP [.tmp 29] rfl rfl rfl rfl (ih x (List.mem_of_getElem? hx1)) rfl) ?_
      refine .cons (.li 31 6 0 [.tmp 30] rfl rfl rfl rfl rfl rfl) ?_
      refine .cons (St1.appB (k' := 132) (e := 31) (sz := 6) (by' := 112) rfl rfl rfl rfl rfl (by kernel_rfl) rfl rfl rfl rfl (by first | (simp [dR]; done) | (simp [dR]; omega)) (by first | (simp [dR]; done) | (simp [dR]; omega)) rfl rfl rfl) ?_
      refine .cons (.fB 6 0 false rfl rfl rfl) ?_
      refine .cons (.sT 1 false rfl rfl rfl rfl rfl rfl rfl) ?_
      refine .nil ⟨by kernel_rfl, ?_⟩
      refine kb_n ?_
      refine ks_n ?_
      refine ACode.region ?_
      refine .cons (.mv rfl rfl) ?_
      refine .cons (.pl rfl rfl rfl) ?_
      refine .cons (.asg rfl rfl) ?_
      refine .nil ?_
      refine kl_k [(110, 110), (111, 111), (112, 132)] (.inr ⟨i + 1, rfl, by omega, by omega, rfl⟩) ⟨ks rfl .dt, ks rfl (.c .bx), ks rfl (.c .bx), ks rfl .dt, kb 110 rfl (.cons (.cons .dt (.cons .dt (.cons .dt (.cons .dt (.cons .dt (.cons .dt (.cons .dt Ctos.nil))))))) .nil), kb 132 rfl (.dt rfl (by first | exact dR_take (fun x => rX x) hx1 | exact dR_take1 (fun x => rX x) hx1 | rfl | (simp [dR]; done))), kb 111 rfl (.cons (.cons .dt (.cons .dt (.cons .dt (.cons .dt (.cons .dt (.cons .dt (.cons .ow Ctos.nil))))))) .nil), trivial⟩
    · skip
      obtain rfl : i = e.ks.length := by omega
      refine ACode.exit ?_
      refine ks_e ?_
      refine kl_e ?_
      refine kb_hit ?_
      refine ks_n ?_
      refine ACode.seq ?_
      refine ACode.region ?_
      refine .cons (.bN 7 rfl rfl rfl rfl rfl rfl) ?_
      refine .cons (.sT 7 true rfl rfl rfl rfl rfl rfl rfl) ?_
      refine .nil ?_
      refine ks_n ?_
      refine ACode.ret ?_
      refine kf_wret [(.t 2, .v (.o (.c (.box 100 7 0 0)))), (.b 100, .b 31 7 [[.d (dI e.k), .d (dI e.n), .d (dIs e.i.1), .d (dI e.i.2), .d (dS e.r.1), .d (dAs e.r.2), .d (dEs e.ks)]]), (.u 100, .u)] (Wk.keep [(100, 110)] rfl rfl ⟨ks rfl (.c .bx), kb 110 rfl (.cons (.cons .dt (.cons .dt (.cons .dt (.cons .dt (.cons .dt (.cons .dt (.cons (.fz rfl (by first | rfl | exact (dR_ex id _).trans (by rw [List.map_id]) | (rw [List.take_length]; done)) (by first | rfl | (simp; done) | (simp; omega)) (by omega)) Ctos.nil))))))) .nil), trivial⟩) rfl ?_ nobox
      rfl

theorem l3CopyEx_fn : ∀ e : Ex, szE e ≤ 1073741824 → Fn Try.prog 142 [] [ad (rX e)] (.o (ad (rX e))) [] := by
  intro e
  induction e using Ex.rec' with
  | h e ih =>
    intro hs
    rw [szE_eq, szC] at hs
    have := szAs_len e.r.2
    exact l3CopyEx_one e (by omega) (by omega) (fun x hx => by have := szAs_mem hx; omega) (by omega) fun x hx => ih x hx (by have := szEs_mem hx; omega)

set_option maxRecDepth 100000 in
set_option maxHeartbeats 1600000 in
theorem l3Copy_fn (s : Stm) (hs : szS s ≤ 1073741824) : Fn Try.prog 94 [] [ad (rS s)] (.o (ad (rS s))) [] := by
  rw [szS, szC] at hs
  have := szAs_len s.1.2
  refine Fn.code0 Try.func94 rfl rfl rfl rfl ?_
  refine ACode.seq ?_
  refine ACode.region ?_
  refine .cons (St1.boxP rfl rfl rfl rfl rfl rfl) ?_
  refine .cons (.al 102 [.string ByteArray.empty, .slice none 0 0, .int .i64 0, .int .i64 0, .slice none 0 0, .int .i64 0, .string ByteArray.empty, .slice none 0 0, .slice none 0 0] rfl rfl rfl) ?_
  refine .nil ?_
  refine ks_n ?_
  refine ACode.seq ?_
  refine ACode.drawK (by kernel_rfl) (by kernel_rfl) ?_
  refine .cons (.fP 0 1 true rfl rfl) ?_
  refine .cons (.lN 2 rfl rfl rfl) ?_
  refine .cons (.cP [.tmp 4] rfl rfl rfl rfl (l3CopyAcc_fn s.1 (by omega) (fun x hx => by have := szAs_mem hx; omega)) rfl) ?_
  refine .cons (.fP 2 6 true rfl rfl) ?_
  refine .cons (.lN 7 rfl rfl rfl) ?_
  refine .cons (.cP [.tmp 7] rfl rfl rfl rfl (l3CopyEx_fn s.2 (by omega)) rfl) ?_
  refine .cons (.bu [(0, .tmp 5), (1, .tmp 8)] [(0, 2), (2, 7)] [.string ByteArray.empty, .slice none 0 0, .int .i64 0, .int .i64 0, .slice none 0 0, .int .i64 0, .string ByteArray.empty, .slice none 0 0, .slice none 0 0] rfl rfl rfl rfl rfl) ?_
  refine .cons (.sT 9 true rfl rfl rfl rfl rfl rfl rfl) ?_
  refine .nil ⟨by kernel_rfl, ?_⟩
  refine ks_n ?_
  refine ACode.ret ?_
  refine kf_ret rfl ?_ nobox
  rfl

end Go.Proofs.Ytigdfdhjnadieaa

/- append of nothing to nothing; texts compared; condition: what the operands hold. -/
namespace Go.Proofs.Ytigdfdhjnadieaa
set_option linter.unusedVariables false
set_option linter.unusedSimpArgs false
open Go.RowKit

section
variable {P : Program} {n : Nat} {ops : Array Oper} {o : Oper} {σ : St} {d : Nat}
theorem run_appE {t ty e : TypeId} {sz by' : Nat} (ht : tyA P t = some (e, sz + 1, by', sz + 1)) (w : World) (ad : Option Addr) (c : Nat) : (Builtin.append_ #[t, t] ty #[.slice none 0 0, .slice ad 0 c]).run P w = .ok (.slice none 0 0) w := by
  obtain ⟨hu, i, z, hi, hz, hs1, hs2, hs3⟩ := tyA_out ht
  cases ad with
  | none => simp [Builtin.append_, run_underlying hu, sizeOf, typeInfo, hi, Builtin.lenOf, Builtin.firstCells]
  | some a =>
    have := run_firstCells_some (P := P) (w := w) i.size 0 a 0 c [] (by simp) (fun j v h => by simp at h)
    simp [Builtin.append_, run_underlying hu, sizeOf, typeInfo, hi, Builtin.lenOf, this]
theorem St1.appNE {t e : TypeId} {s x : Operand} {ts : Array TypeId} {sz by' : Nat} (ho : o.op = .call { callee := .builtin .append, args := #[s, x], argTypes := ts }) (hg : o.guard = none) (hd : o.dst = some d) (hn : Nat.blt d n = true) (hts : ts = #[t, t])
    (ht : tyA P t = some (e, sz + 1, by', sz + 1)) (hs' : ev σ s = some (.o (.c (.d (.val (.slice none 0 0)))))) (hx : ev σ x = some (.o (.c (.d (.list (sz + 1) []))))) :
    St1 P n ops o σ (rd s ++ rd x) [.t d] ((.t d, .v (.o (.c (.d (.val (.slice none 0 0)))))) :: σ) :=
  St1.value hg hd hn fun E bx τ a w hR hs => by
    subst hts
    obtain ⟨ad, c, e1, q1, q2, q3, q4⟩ := (ev_list hx (rd_r hR) hs).slice
    refine ⟨⟨.slice none 0 0, exec_app ho w w _ ?_, .val _ rfl⟩, fun k hk => by cases hk⟩
    rw [ev_val hs' (rd_l hR) hs, e1]
    exact run_appE ht w ad c
/-- A struct's zero cells, told as data: a nil slice may be told as the empty list. -/
inductive ZR : List Value → List D → Prop
  | nil : ZR [] []
  | val {z : Value} {zs : List Value} {ds : List D} (h : z.oneCell' = true) (hs : ZR zs ds) : ZR (z :: zs) (.val z :: ds)
  | list {zs : List Value} {ds : List D} (sz : Nat) (hs : ZR zs ds) : ZR (.slice none 0 0 :: zs) (.list sz [] :: ds)
theorem dr_empty {B : Nat → Prop} {w : World} (sz : Nat) : Dr B w (.list sz []) (.slice none 0 0) :=
  Dr.list sz [] none 0 0 0 0 (fun _ _ => undef) rfl (Nat.le_refl _) (by omega) (fun _ => rfl) (fun h => by simp at h) (fun i r h => by simp at h) (fun i r j x h => by simp at h) (fun i r j x h => by simp at h)
theorem ZR.cells {bx : Nat → Nat × Nat} {al B : Nat → Prop} {w : World} {zs : List Value} {ds : List D} (h : ZR zs ds) : zs.length = ds.length ∧ ∀ (i : Nat) c u, (ds.map C.d)[i]? = some c → zs[i]? = some u → Cr bx al B w c u := by
  induction h with
  | nil => exact ⟨rfl, fun i c u h => by simp at h⟩
  | val h hs ih =>
    refine ⟨by simp [ih.1], fun i c u hc hu => ?_⟩
    cases i with
    | zero => cases hc; cases hu; exact Dr.val _ h
    | succ i => exact ih.2 i c u hc hu
  | list sz hs ih =>
    refine ⟨by simp [ih.1], fun i c u hc hu => ?_⟩
    cases i with
    | zero => cases hc; cases hu; exact dr_empty sz
    | succ i => exact ih.2 i c u hc hu
theorem St1.buZ (pl : List (Nat × Operand)) (places : List (Nat × Nat)) (zs : List Value) (ds : List D) {t : TypeId} {parts : Array (Nat × Operand)} {ps : List (Nat × V1)} {cs : List C} (h4 : (o.op, o.guard, o.dst, Nat.blt d n) = (Op.build t parts, none, some d, true)) (hpl : parts = pl.toArray) (hz : ZR zs ds) (hp : evP σ pl = some ps) (hf : fillA (places[·]?) (ds.map C.d) ps = some cs) (ht : tyB P t = some (places, zs) := by kernel_rfl) :
    St1 P n ops o σ (rdP pl) [.t d] ((.t d, .v (.o (.agg cs))) :: σ) := by
  simp only [Prod.mk.injEq] at h4
  obtain ⟨ho, hg, hd, hn⟩ := h4
  refine St1.value hg hd hn fun E bx τ a w hR hs => ?_
  subst hpl
  obtain ⟨h1, h2⟩ := evP_ok hp hR hs
  have hzc := hz.cells (bx := bx) (al := Al τ) (B := Bf E bx τ) (w := w)
  obtain ⟨cells', h3, h4, h5⟩ := fillA_ok (bx := bx) (al := Al τ) (B := Bf E bx τ) (w := w) (cells := zs.toArray) hf h1 ⟨by simpa using hzc.1, hzc.2⟩
  refine ⟨⟨.agg cells', ?_, cells'.toList, by simp, h4.1, h4.2⟩, fun k hk => ?_⟩
  · have := run_build (P := P) w t (pl.toArray.map fun p => (p.1, a.eval p.2)) cells' (by rw [tyB_built ht]; simpa using h3)
    simp only [execOp, ho, Sem.run_bind]
    rw [this]; rfl
  · obtain ⟨c, hc, hk⟩ := List.mem_flatMap.1 hk
    rcases h5 c hc with h6 | ⟨p, hp, h6⟩
    · obtain ⟨z, _, rfl⟩ := List.mem_map.1 h6
      cases hk
    · exact h2 p hp k (V1.refs_cells h6 k hk)
end
end Go.Proofs.Ytigdfdhjnadieaa

/- Statements: reads and operators; condition: small lists. -/
namespace Go.Proofs.Ytigdfdhjnadieaa
set_option linter.unusedVariables false
set_option linter.unusedSimpArgs false
open Go.RowKit

theorem rdE_eq (e : Ex) : rdE e = (if e.k = 3 then [e.r] else []) ++ rdEs e.ks := by cases e; rw [rdE]; rfl
theorem rdEs_take {l : List Ex} {i : Nat} {x : Ex} (h : l[i]? = some x) : rdEs (l.take (i + 1)) = rdEs (l.take i) ++ rdE x := by
  have key : ∀ (a : List Ex) (x : Ex), rdEs (a ++ [x]) = rdEs a ++ rdE x := by
    intro a x
    induction a with
    | nil => simp [rdEs]
    | cons y a ih => rw [List.cons_append, rdEs, rdEs, ih, List.append_assoc]
  rw [List.take_add_one, h]
  exact key _ _
mutual
theorem rdE_len : ∀ e : Ex, (rdE e).length ≤ cntE e
  | .mk k n i r ks => by
    rw [rdE, cntE, List.length_append]
    have := rdEs_len ks
    split
    · simp; omega
    · simp; omega
theorem rdEs_len : ∀ l : List Ex, (rdEs l).length ≤ cntEs l
  | [] => by simp [rdEs]
  | e :: l => by
    rw [rdEs, cntEs, List.length_append]
    have := rdE_len e
    have := rdEs_len l
    omega
end
theorem cntEs_le {l : List Ex} {i : Nat} : cntEs (l.take i) ≤ cntEs l := by
  induction l generalizing i with
  | nil => simp [cntEs]
  | cons y l ih =>
    cases i with
    | zero => simp [cntEs]
    | succ i => rw [List.take_succ_cons, cntEs, cntEs]; have := ih (i := i); omega
theorem cnt64 {d L : Nat} {e : Ex} (h : exV d L e = true) (hL : L ≤ 6) : cntE e ≤ 64 := by
  have h1 := cnt_bd h
  have : 2 ^ L ≤ 2 ^ 6 := Nat.pow_le_pow_right (by omega) hL
  omega
theorem kids64 {e : Ex} {i : Nat} (h : cntE e ≤ 64) : (rdEs (e.ks.take i)).length ≤ 64 := by
  have h1 := rdEs_len (e.ks.take i)
  have h2 := cntEs_le (l := e.ks) (i := i)
  rw [cntE_eq] at h
  omega
theorem leaf_nil {d L : Nat} {e : Ex} (h : exV d L e = true) (hk : 1 ≤ e.k ∧ e.k ≤ 3) : e.ks = [] := by
  cases L with
  | zero => cases h
  | succ L =>
    rw [exV, Bool.and_eq_true, Bool.and_eq_true] at h
    have h1 := h.1.1
    rw [kidV, if_pos hk] at h1
    exact List.eq_nil_of_length_eq_zero (of_decide_eq_true h1)
theorem dR_apC (a b : List Acc) : dR (a.map rC) ++ (b.map rC).map (·.map C.d) = dR ((a ++ b).map rC) := by rw [dR_app, List.map_append]

set_option maxRecDepth 100000 in
set_option maxHeartbeats 1600000 in
theorem reads_one (e : Ex) {d L : Nat} (hv : exV d L e = true) (hcn : cntE e ≤ 64) (ih : ∀ x ∈ e.ks, Fn Try.prog 66 [] [ad (rX x)] (.o (vD (dCs (rdE x)))) []) : Fn Try.prog 66 [] [ad (rX e)] (.o (vD (dCs (rdE e)))) [] := by
  have hkl := (exV_kids hv).1
  refine Fn.code0 Try.func66 rfl rfl rfl rfl ?_
  refine ACode.seq ?_
  refine ACode.region ?_
  refine .cons (St1.boxP rfl rfl rfl rfl rfl rfl) ?_
  refine .cons (.asg rfl rfl) ?_
  refine .nil ?_
  refine ks_n ?_
  refine ACode.seq ?_
  refine ACode.seq ?_
  refine ACode.region ?_
  refine .cons (.fP 0 0 false rfl rfl) ?_
  refine .cons (.l1 1 rfl rfl) ?_
  refine .cons (.eq rfl rfl rfl) ?_
  refine .nil ?_
  refine ks_n ?_
  refine .cD rfl (fun h8 => ?_) (fun h8 => ?_)
  · skip
    refine ACode.seq ?_
    refine ACode.region ?_
    refine .cons (.fP 4 1 true rfl rfl) ?_
    refine .cons (.lN 2 rfl rfl rfl) ?_
    refine .cons (.li 25 1 0 [.tmp 10] rfl rfl rfl rfl rfl rfl) ?_
    refine .cons (.asg rfl rfl) ?_
    refine .nil ?_
    refine ks_n ?_
    refine ACode.ret ?_
    refine ks_r ?_
    refine kf_wret [(.t 2, .v (.o (vD (dCs (rdE e)))))] (Wk.keep [] rfl rfl ⟨ks rfl (.dt (by rw [rdE_eq, if_pos h8, leaf_nil hv (by omega)]; rfl)), trivial⟩) rfl ?_ nobox
    rfl
  · skip
    refine ACode.skip ?_
    refine ks_n ?_
    refine ACode.seq ?_
    refine ACode.region ?_
    refine .cons (.asg rfl rfl) ?_
    refine .nil ?_
    refine ks_n ?_
    refine ACode.seq ?_
    refine ACode.seq ?_
    refine ACode.region ?_
    refine .cons (.fP 6 0 false rfl rfl) ?_
    refine .cons (.l1 1 rfl rfl) ?_
    refine .cons (.ln 31 7 112 rfl rfl rfl) ?_
    refine .cons (.mv rfl rfl) ?_
    refine .nil ?_
    refine ks_n ?_
    refine ACode.block ?_
    refine .loopK (fun m σ => (∃ i : Nat, m = e.ks.length - i ∧ (i ≤ e.ks.length) ∧ (rdEs (e.ks.take i) = []) ∧ σ = [(.t 1, .v (.o (.c (.ptr (rX e))))), (.t 2, .v (.o (.c (.d (.val (.slice none 0 0)))))), (.t 3, .v (.o (.c (.d (.val (.slice none 0 0)))))), (.t 13, .v (.o (vD (dEs e.ks)))), (.t 14, .v (.o (nat1 (e.ks.length : Nat)))), (.t 15, .v (.o (nat1 (i : Nat))))]) ∨ (∃ i : Nat, m = e.ks.length - i ∧ (i ≤ e.ks.length) ∧ (0 < (rdEs (e.ks.take i)).length) ∧ σ = [(.t 1, .v (.o (.c (.ptr (rX e))))), (.t 2, .v (.o (.c (.d (.val (.slice none 0 0)))))), (.t 3, .v (.o (.c (.own 110 2 ((rdEs (e.ks.take i)).length))))), (.t 13, .v (.o (vD (dEs e.ks)))), (.t 14, .v (.o (nat1 (e.ks.length : Nat)))), (.t 15, .v (.o (nat1 (i : Nat)))), (.b 110, .b 25 2 (dR ((rdEs (e.ks.take i)).map rC))), (.u 110, .u)])) [] (.inl ⟨0, rfl, by omega, by simp [rdEs], rfl⟩) ⟨ks rfl .dt, ks rfl .dt, ks rfl .dt, ks rfl .dt, ks rfl .dt, ks rfl .dt, trivial⟩ ?_
    rintro m σ (⟨i, hm0, hi, h0, rfl⟩ | ⟨i, hm0, hi, h0, rfl⟩)
    · skip
      refine ACode.seq ?_
      refine ACode.region ?_
      refine .cons (.ls rfl rfl rfl) ?_
      refine .nil ?_
      refine ks_n ?_
      refine ACode.seq ?_
      refine .cD rfl (fun h16 => ?_) (fun h16 => ?_)
      · skip
        obtain ⟨x, hx1⟩ : ∃ x, e.ks[i]? = some x := ⟨_, List.getElem?_eq_getElem (by omega)⟩
        have hmx := List.mem_of_getElem? hx1
        have hT := rdEs_take hx1
        have h64 := kids64 (i := i + 1) hcn
        refine ACode.skip ?_
        refine ks_n ?_
        refine ACode.seq ?_
        refine ACode.block ?_
        refine ACode.seq ?_
        refine ACode.region ?_
        refine .cons (.xL 31 7 112 rfl rfl rfl rfl rfl (rE_at hx1)) ?_
        refine .cons (.lN 7 rfl rfl rfl) ?_
        refine .cons (.al 105 [.int .i64 0, .int .i64 0, .slice none 0 0, .int .i64 0, .string ByteArray.empty, .slice none 0 0, .slice none 0 0] rfl rfl rfl) ?_
        refine .cons (.sT 7 true rfl rfl rfl rfl rfl rfl rfl) ?_
        refine .nil ?_
        refine ks_n ?_
        by_cases hsp : rdE x = []
        · skip
          refine ACode.region ?_
          refine .cons (.mv rfl rfl) ?_
          refine .cons (.bN 7 rfl rfl rfl rfl rfl rfl) ?_
          refine .cons (.cP [.tmp 20] rfl rfl rfl rfl (ih x hmx) rfl) ?_
          refine .cons (St1.appNE (e := 25) (sz := 1) (by' := 40) rfl rfl rfl rfl rfl (by kernel_rfl) rfl (congrArg (fun l => some (V.o (vD (dCs l)))) hsp)) ?_
          refine .cons (.asg rfl rfl) ?_
          refine .nil ?_
          refine kb_n ?_
          refine ks_n ?_
          refine ACode.region ?_
          refine .cons (.pl rfl rfl rfl) ?_
          refine .cons (.mv rfl rfl) ?_
          refine .nil ?_
          refine kl_k [] (.inl ⟨i + 1, rfl, by omega, by rw [hT, h0, hsp]; rfl, rfl⟩) ⟨ks rfl .dt, ks rfl .dt, ks rfl .dt, ks rfl .dt, ks rfl .dt, ks rfl .dt, trivial⟩
        · skip
          refine ACode.region ?_
          refine .cons (.mv rfl rfl) ?_
          refine .cons (.bN 7 rfl rfl rfl rfl rfl rfl) ?_
          refine .cons (.cP [.tmp 20] rfl rfl rfl rfl (ih x hmx) rfl) ?_
          refine .cons (St1.appN (k' := 122) (e := 25) (sz := 1) (by' := 40) rfl rfl rfl rfl rfl (by kernel_rfl) rfl rfl rfl (by rw [List.length_map]; exact List.length_pos_iff.2 hsp) (by rw [hT, List.length_append] at h64; simp [dR]; omega) rfl rfl) ?_
          refine .cons (.asg rfl rfl) ?_
          refine .nil ?_
          refine kb_n ?_
          refine ks_n ?_
          refine ACode.region ?_
          refine .cons (.pl rfl rfl rfl) ?_
          refine .cons (.mv rfl rfl) ?_
          refine .nil ?_
          refine kl_k [(110, 122)] (.inr ⟨i + 1, rfl, by omega, by rw [hT, List.length_append]; have := List.length_pos_iff.2 hsp; omega, rfl⟩) ⟨ks rfl .dt, ks rfl .dt, ks rfl (.c (.ow (by first | (simp [rdEs]; done) | (rw [hT, List.length_append, List.length_map]; done) | (rw [hT, h0, List.length_map]; rfl) | (simp [hT, h0]; done)))), ks rfl .dt, ks rfl .dt, ks rfl .dt, kb 122 rfl (.dt rfl (by first | (rw [hT, ← dR_apC]; done) | (rw [hT, h0]; rfl) | (rw [hT, dR_apC]; done) | (simp [dR, hT, h0]; done))), trivial⟩
      · skip
        have hR : rdEs (e.ks.take i) = rdE e := by rw [List.take_of_length_le (by omega), rdE_eq, if_neg h8]; rfl
        refine ACode.exit ?_
        refine ks_e ?_
        refine kl_e ?_
        refine kb_hit ?_
        refine ks_n ?_
        refine ACode.seq ?_
        refine ACode.region ?_
        refine .cons (.mv rfl rfl) ?_
        refine .cons (.asg rfl rfl) ?_
        refine .nil ?_
        refine ks_n ?_
        refine ACode.ret ?_
        refine kf_wret [(.t 2, .v (.o (vD (dCs (rdE e)))))] (Wk.keep [] rfl rfl ⟨ks rfl (.c (Cto.nilE 2 (by rw [← hR, h0]; rfl))), trivial⟩) rfl ?_ nobox
        rfl
    · skip
      refine ACode.seq ?_
      refine ACode.region ?_
      refine .cons (.ls rfl rfl rfl) ?_
      refine .nil ?_
      refine ks_n ?_
      refine ACode.seq ?_
      refine .cD rfl (fun h16 => ?_) (fun h16 => ?_)
      · skip
        obtain ⟨x, hx1⟩ : ∃ x, e.ks[i]? = some x := ⟨_, List.getElem?_eq_getElem (by omega)⟩
        have hmx := List.mem_of_getElem? hx1
        have hT := rdEs_take hx1
        have h64 := kids64 (i := i + 1) hcn
        refine ACode.skip ?_
        refine ks_n ?_
        refine ACode.seq ?_
        refine ACode.block ?_
        refine ACode.seq ?_
        refine ACode.region ?_
        refine .cons (.xL 31 7 112 rfl rfl rfl rfl rfl (rE_at hx1)) ?_
        refine .cons (.lN 7 rfl rfl rfl) ?_
        refine .cons (.al 105 [.int .i64 0, .int .i64 0, .slice none 0 0, .int .i64 0, .string ByteArray.empty, .slice none 0 0, .slice none 0 0] rfl rfl rfl) ?_
        refine .cons (.sT 7 true rfl rfl rfl rfl rfl rfl rfl) ?_
        refine .nil ?_
        refine ks_n ?_
        refine ACode.region ?_
        refine .cons (.mv rfl rfl) ?_
        refine .cons (.bN 7 rfl rfl rfl rfl rfl rfl) ?_
        refine .cons (.cP [.tmp 20] rfl rfl rfl rfl (ih x hmx) rfl) ?_
        refine .cons (St1.appB (k' := 122) (e := 25) (sz := 1) (by' := 40) rfl rfl rfl rfl rfl (by kernel_rfl) rfl rfl rfl rfl (by simp [dR]) (by rw [hT, List.length_append] at h64; simp [dR]; omega) rfl rfl rfl) ?_
        refine .cons (.asg rfl rfl) ?_
        refine .nil ?_
        refine kb_n ?_
        refine ks_n ?_
        refine ACode.region ?_
        refine .cons (.pl rfl rfl rfl) ?_
        refine .cons (.mv rfl rfl) ?_
        refine .nil ?_
        refine kl_k [(110, 122)] (.inr ⟨i + 1, rfl, by omega, by rw [hT, List.length_append]; omega, rfl⟩) ⟨ks rfl .dt, ks rfl .dt, ks rfl (.c (.ow (by first | (simp [rdEs]; done) | (rw [hT, List.length_append, List.length_map]; done) | (rw [hT, h0, List.length_map]; rfl) | (simp [hT, h0]; done)))), ks rfl .dt, ks rfl .dt, ks rfl .dt, kb 122 rfl (.dt rfl (by first | (rw [hT, ← dR_apC]; done) | (rw [hT, h0]; rfl) | (rw [hT, dR_apC]; done) | (simp [dR, hT, h0]; done))), trivial⟩
      · skip
        have hR : rdEs (e.ks.take i) = rdE e := by rw [List.take_of_length_le (by omega), rdE_eq, if_neg h8]; rfl
        refine ACode.exit ?_
        refine ks_e ?_
        refine kl_e ?_
        refine kb_hit ?_
        refine ks_n ?_
        refine ACode.seq ?_
        refine ACode.region ?_
        refine .cons (.mv rfl rfl) ?_
        refine .cons (.asg rfl rfl) ?_
        refine .nil ?_
        refine ks_n ?_
        refine ACode.ret ?_
        refine kf_wret [(.t 2, .v (.o (vD (dCs (rdE e)))))] (Wk.keep [] rfl rfl ⟨ks rfl (.c (.fz rfl (by rw [hR]) (by rw [hR, List.length_map]) (by have := rdE_len e; first | omega | (rw [hR]; omega)))), trivial⟩) rfl ?_ nobox
        rfl

theorem reads_fn {d : Nat} : ∀ {L : Nat} (e : Ex), L ≤ 6 → exV d L e = true → Fn Try.prog 66 [] [ad (rX e)] (.o (vD (dCs (rdE e)))) []
  | 0, e, hL, h => by cases h
  | L + 1, e, hL, h => reads_one e h (cnt64 h hL) fun x hx => reads_fn (L := L) x (by omega) ((exV_kids h).2 x hx)
/-- A statement that is valid somewhere. -/
theorem stmtV_ex {d : Int} {s : Stm} (h : stmtV d s = true) : exV d.toNat 5 s.2 = true ∧ accV d.toNat s.1 = true ∧ cntE s.2 ≤ 12 ∧ 0 ≤ d ∧ d ≤ 4 := by
  rw [stmtV, Bool.and_eq_true, Bool.and_eq_true, Bool.and_eq_true, decide_eq_true_eq, inB, decide_eq_true_eq] at h
  exact ⟨h.2.1.2, h.2.1.1, h.2.2, h.1⟩
theorem nonA_iff {x : Aff} : nonA x = true ↔ x = ([], 0) := by
  obtain ⟨a, b⟩ := x
  simp [nonA, List.length_eq_zero_iff]
theorem nonC_iff {a : Acc} : nonC a = true ↔ a = (ByteArray.empty, []) := by
  obtain ⟨a, b⟩ := a
  simp [nonC, sEq_iff, List.length_eq_zero_iff]
theorem fld_map {d : Nat} {e : Ex} (h : fldV d e.k e.n e.i e.r = true) : (if e.k = 2 then e.i else ([], 0)) = e.i ∧ (if e.k = 3 then e.r else (ByteArray.empty, [])) = e.r := by
  unfold fldV at h
  split at h
  · simp only [Bool.and_eq_true] at h
    rw [if_neg (by omega), if_neg (by omega), nonA_iff.1 h.1.2, nonC_iff.1 h.2]; exact ⟨rfl, rfl⟩
  · split at h
    · simp only [Bool.and_eq_true] at h
      rw [if_pos (by assumption), if_neg (by omega), nonC_iff.1 h.2]; exact ⟨rfl, rfl⟩
    · split at h
      · simp only [Bool.and_eq_true] at h
        rw [if_neg (by omega), if_pos (by assumption), nonA_iff.1 h.1.2]; exact ⟨rfl, rfl⟩
      · simp only [Bool.and_eq_true] at h
        rw [if_neg (by omega), if_neg (by omega), nonA_iff.1 h.1.2, nonC_iff.1 h.2]; exact ⟨rfl, rfl⟩
theorem mapE_eq (g : Aff → Aff) (e : Ex) : mapE g e = .mk e.k e.n (if e.k = 2 then g e.i else ([], 0)) (if e.k = 3 then mapC g e.r else (ByteArray.empty, [])) (e.ks.map (mapE g)) := by
  cases e with
  | mk k n i r ks => rw [mapE, mapEs_map]; rfl
theorem mapC_id (a : Acc) : mapC id a = a := by rw [mapC, List.map_id]
theorem mapE_id {d : Nat} : ∀ {L : Nat} {e : Ex}, exV d L e = true → mapE id e = e
  | 0, e, h => by cases h
  | L + 1, e, h => by
    have h1 := (exV_kids h).2
    rw [exV, Bool.and_eq_true, Bool.and_eq_true] at h
    obtain ⟨f1, f2⟩ := fld_map h.1.2
    rw [mapE_eq, mapC_id, show e.ks.map (mapE id) = e.ks from (List.map_congr_left fun x hx => mapE_id (h1 x hx)).trans (List.map_id _)]
    show Ex.mk e.k e.n (if e.k = 2 then e.i else ([], 0)) _ _ = e
    rw [f1, f2, Ex.eta]
theorem mapS_id {d : Int} {s : Stm} (h : stmtV d s = true) : mapS id s = s := by
  rw [mapS, mapC_id, mapE_id (stmtV_ex h).1]

/-- The accesses that a statement reads. -/
def rdS (s : Stm) : List Acc := if stmtV 4 s = true then rdE s.2 else []

end Go.Proofs.Ytigdfdhjnadieaa

/- Statements: equality and reductions; condition: small lists. -/
namespace Go.Proofs.Ytigdfdhjnadieaa
set_option linter.unusedVariables false
set_option linter.unusedSimpArgs false
open Go.RowKit

theorem sameE_eq (x y : Ex) : sameE x y = (decide (x.k = y.k) && decide (x.n = y.n) && decide (x.i = y.i) && sameC x.r y.r && sameEs x.ks y.ks) := by
  cases x; cases y
  rw [sameE, sameC]
  simp only [Ex.k, Ex.n, Ex.i, Ex.r, Ex.ks, Bool.and_assoc]
  congr 3
  rw [← Bool.and_assoc, ← Bool.and_assoc]
  congr 1
  exact Bool.and_comm _ _
theorem eqF_sameE : ∀ a b : List Ex, eqF sameE a b = sameEs a b
  | [], [] => rfl
  | [], _ :: _ => rfl
  | _ :: _, [] => rfl
  | x :: a, y :: b => by rw [eqF, sameEs, eqF_sameE a b]

set_option maxRecDepth 100000 in
set_option maxHeartbeats 1600000 in
theorem eqf_ex {f : FuncId} {cap : List (List D)} (hc : callable Try.prog f = true) (p : Ex → Ex → Bool) (xs ys : List Ex) (hx : xs.length ≤ 1099511627776) (hf : ∀ x ∈ xs, ∀ y ∈ ys, Fn Try.prog f [] (ad (rX x) :: ad (rX y) :: cap.map fun c => .c (.ptr c)) (.o (bo1 (p x y))) []) : Fn Try.prog 124 [] [vD (dEs xs), vD (dEs ys), .c (.fn f cap)] (.o (bo1 (eqF p xs ys))) [] := by
  refine Fn.code0 Try.func124 rfl rfl rfl rfl ?_
  refine ACode.seq ?_
  refine ACode.region ?_
  refine .cons (.asg rfl rfl) ?_
  refine .nil ?_
  refine ks_n ?_
  refine ACode.seq ?_
  refine ACode.seq ?_
  refine ACode.region ?_
  refine .cons (.mv rfl rfl) ?_
  refine .cons (.ln 31 7 112 rfl rfl rfl) ?_
  refine .cons (.mv rfl rfl) ?_
  refine .cons (.ln 31 7 112 rfl rfl rfl) ?_
  refine .cons (.ne rfl rfl rfl) ?_
  refine .nil ?_
  refine ks_n ?_
  refine .cND rfl (fun h14 => ?_) (fun h14 => ?_)
  · skip
    refine ACode.seq ?_
    refine ACode.region ?_
    refine .cons (.asg rfl rfl) ?_
    refine .nil ?_
    refine ks_n ?_
    refine ACode.ret ?_
    refine ks_r ?_
    refine kf_ret rfl ?_ nobox
    exact leafB (eqF_len (by omega)).symm
  · skip
    refine ACode.skip ?_
    refine ks_n ?_
    refine ACode.seq ?_
    refine ACode.seq ?_
    refine ACode.region ?_
    refine .cons (.mv rfl rfl) ?_
    refine .cons (.ln 31 7 112 rfl rfl rfl) ?_
    refine .cons (.mv rfl rfl) ?_
    refine .nil ?_
    refine ks_n ?_
    refine ACode.block ?_
    refine .loopK (fun m σ => (∃ i : Nat, m = xs.length - i ∧ (i ≤ xs.length) ∧ (eqF p xs ys = eqF p (xs.drop i) (ys.drop i)) ∧ σ = [(.t 1, .v (.o (vD (dEs ys)))), (.t 2, .v (.o (.c (.fn f cap)))), (.t 15, .v (.o (vD (dEs xs)))), (.t 16, .v (.o (nat1 (xs.length : Nat)))), (.t 17, .v (.o (nat1 (i : Nat))))])) [] ⟨0, rfl, by omega, by simp, rfl⟩ ⟨ks rfl .dt, ks rfl .dt, ks rfl .dt, ks rfl .dt, ks rfl .dt, trivial⟩ ?_
    rintro m σ ⟨i, hm0, hi, hF, rfl⟩
    refine ACode.seq ?_
    refine ACode.region ?_
    refine .cons (.ls rfl rfl rfl) ?_
    refine .nil ?_
    refine ks_n ?_
    refine ACode.seq ?_
    refine .cD rfl (fun h18 => ?_) (fun h18 => ?_)
    · skip
      obtain ⟨x, hx1⟩ : ∃ x, xs[i]? = some x := ⟨_, List.getElem?_eq_getElem (by omega)⟩
      obtain ⟨y, hy1⟩ : ∃ x, ys[i]? = some x := ⟨_, List.getElem?_eq_getElem (by omega)⟩
      refine ACode.skip ?_
      refine ks_n ?_
      refine ACode.seq ?_
      refine ACode.block ?_
      refine ACode.seq ?_
      refine ACode.region ?_
      refine .cons (.mv rfl rfl) ?_
      refine .cons (.xL 31 7 112 rfl rfl rfl rfl rfl (rE_at hx1)) ?_
      refine .cons (.lN 7 rfl rfl rfl) ?_
      refine .cons (.al 108 [.int .i64 0, .int .i64 0, .slice none 0 0, .int .i64 0, .string ByteArray.empty, .slice none 0 0, .slice none 0 0] rfl rfl rfl) ?_
      refine .cons (.asg rfl rfl) ?_
      refine .cons (.sT 7 true rfl rfl rfl rfl rfl rfl rfl) ?_
      refine .nil ?_
      refine ks_n ?_
      refine ACode.seq ?_
      refine ACode.region ?_
      refine .cons (.mv rfl rfl) ?_
      refine .cons (.mv rfl rfl) ?_
      refine .cons (.xL 31 7 112 rfl rfl rfl rfl rfl (rE_at hy1)) ?_
      refine .cons (.lN 7 rfl rfl rfl) ?_
      refine .cons (.al 109 [.int .i64 0, .int .i64 0, .slice none 0 0, .int .i64 0, .string ByteArray.empty, .slice none 0 0, .slice none 0 0] rfl rfl rfl) ?_
      refine .cons (.sT 7 true rfl rfl rfl rfl rfl rfl rfl) ?_
      refine .nil ?_
      refine ks_n ?_
      refine ACode.seq ?_
      refine ACode.region ?_
      refine .cons (.mv rfl rfl) ?_
      refine .cons (.bN 7 rfl rfl rfl rfl rfl rfl) ?_
      refine .cons (.bN 7 rfl rfl rfl rfl rfl rfl) ?_
      refine .cons (.cP [.tmp 27, .tmp 28] rfl rfl rfl rfl (hf x (List.mem_of_getElem? hx1) y (List.mem_of_getElem? hy1)) rfl hc) ?_
      refine .cons (.nt rfl rfl) ?_
      refine .nil ?_
      refine ks_n ?_
      refine ACode.condT rfl (fun h30 => ?_) (fun h30 => ?_)
      · try simp only [List.length_map, decide_eq_true_eq, decide_eq_false_iff_not, Bool.not_eq_true', Bool.not_eq_false', Bool.not_eq_true, Bool.not_eq_false] at h30
        have g := h30
        refine ACode.seq ?_
        refine ACode.region ?_
        refine .cons (.asg rfl rfl) ?_
        refine .nil ?_
        refine ks_n ?_
        refine ACode.ret ?_
        refine kb_r ?_
        refine ks_r ?_
        refine kl_r ?_
        refine kb_r ?_
        refine ks_r ?_
        refine kf_ret rfl ?_ nobox
        exact leafB (by rw [hF, eqF_drop hx1 hy1, g]; rfl)
      · try simp only [List.length_map, decide_eq_true_eq, decide_eq_false_iff_not, Bool.not_eq_true', Bool.not_eq_false', Bool.not_eq_true, Bool.not_eq_false] at h30
        have g := h30
        refine ACode.skip ?_
        refine kb_n ?_
        refine ks_n ?_
        refine ACode.region ?_
        refine .cons (.pl rfl rfl rfl) ?_
        refine .cons (.mv rfl rfl) ?_
        refine .nil ?_
        refine kl_k [] ⟨i + 1, rfl, by omega, by rw [hF, eqF_drop hx1 hy1, g, Bool.true_and], rfl⟩ ⟨ks rfl .dt, ks rfl .dt, ks rfl .dt, ks rfl .dt, ks rfl .dt, trivial⟩
    · skip
      refine ACode.exit ?_
      refine ks_e ?_
      refine kl_e ?_
      refine kb_hit ?_
      refine ks_n ?_
      refine ACode.seq ?_
      refine ACode.region ?_
      refine .cons (.asg rfl rfl) ?_
      refine .nil ?_
      refine ks_n ?_
      refine ACode.ret ?_
      refine kf_ret rfl ?_ nobox
      exact leafB (by rw [hF, show i = xs.length by omega, eqF_end (by omega)])

set_option maxRecDepth 100000 in
set_option maxHeartbeats 1600000 in
theorem accSame_fn (a b : Acc) (ha : a.2.length ≤ 1099511627776) : Fn Try.prog 69 [] [ad (rC a), ad (rC b)] (.o (bo1 (sameC a b))) [] := by
  refine Fn.code0 Try.func69 rfl rfl rfl rfl ?_
  refine ACode.seq ?_
  refine ACode.region ?_
  refine .cons (St1.boxP rfl rfl rfl rfl rfl rfl) ?_
  refine .cons (St1.boxP rfl rfl rfl rfl rfl rfl) ?_
  refine .cons (.asg rfl rfl) ?_
  refine .nil ?_
  refine ks_n ?_
  refine ACode.seq ?_
  refine ACode.region ?_
  refine .cons (.fP 0 0 false rfl rfl) ?_
  refine .cons (.l1 1 rfl rfl) ?_
  refine .cons (.fP 0 0 false rfl rfl) ?_
  refine .cons (.l1 1 rfl rfl) ?_
  refine .cons (St1.eqS rfl rfl rfl) ?_
  refine .cons (.mv rfl rfl) ?_
  refine AOps.cases 10 _ rfl (fun g10 => ?_) (fun g10 => ?_)
  · try simp only [List.length_map, decide_eq_true_eq, decide_eq_false_iff_not, Bool.not_eq_true', Bool.not_eq_false', Bool.not_eq_true, Bool.not_eq_false] at g10
    refine .cons (.gT rfl rfl rfl (.fP 1 0 false rfl rfl)) ?_
    refine .cons (.gT rfl rfl rfl (.l1 1 rfl rfl)) ?_
    refine .cons (.gT rfl rfl rfl (.fP 1 0 false rfl rfl)) ?_
    refine .cons (.gT rfl rfl rfl (.l1 1 rfl rfl)) ?_
    refine .cons (.gT rfl rfl rfl (.cP [.tmp 12, .tmp 14, .func 43] rfl rfl rfl rfl (eqfA_fn _ _ ha) rfl)) ?_
    refine .cons (.pT rfl rfl rfl) ?_
    refine .cons (.asg rfl rfl) ?_
    refine .nil ?_
    refine ks_n ?_
    refine ACode.ret ?_
    refine kf_ret rfl ?_ nobox
    exact leafB (by rw [sameC, g10]; rfl)
  · try simp only [List.length_map, decide_eq_true_eq, decide_eq_false_iff_not, Bool.not_eq_true', Bool.not_eq_false', Bool.not_eq_true, Bool.not_eq_false] at g10
    refine .cons (.gF rfl rfl rfl) ?_
    refine .cons (.gF rfl rfl rfl) ?_
    refine .cons (.gF rfl rfl rfl) ?_
    refine .cons (.gF rfl rfl rfl) ?_
    refine .cons (.gF rfl rfl rfl) ?_
    refine .cons (.pF rfl rfl rfl) ?_
    refine .cons (.asg rfl rfl) ?_
    refine .nil ?_
    refine ks_n ?_
    refine ACode.ret ?_
    refine kf_ret rfl ?_ nobox
    exact leafB (by rw [sameC, g10]; rfl)

set_option maxRecDepth 100000 in
set_option maxHeartbeats 1600000 in
theorem exprSame_one (x y : Ex) (hr : x.r.2.length ≤ 1099511627776) (hk : x.ks.length ≤ 1099511627776) (ih : ∀ a ∈ x.ks, ∀ b, Fn Try.prog 70 [] [ad (rX a), ad (rX b)] (.o (bo1 (sameE a b))) []) : Fn Try.prog 70 [] [ad (rX x), ad (rX y)] (.o (bo1 (sameE x y))) [] := by
  refine Fn.code0 Try.func70 rfl rfl rfl rfl ?_
  refine ACode.seq ?_
  refine ACode.region ?_
  refine .cons (St1.boxP rfl rfl rfl rfl rfl rfl) ?_
  refine .cons (St1.boxP rfl rfl rfl rfl rfl rfl) ?_
  refine .cons (.asg rfl rfl) ?_
  refine .nil ?_
  refine ks_n ?_
  refine ACode.seq ?_
  refine ACode.region ?_
  refine .cons (.fP 0 0 false rfl rfl) ?_
  refine .cons (.l1 1 rfl rfl) ?_
  refine .cons (.fP 0 0 false rfl rfl) ?_
  refine .cons (.l1 1 rfl rfl) ?_
  refine .cons (.eq rfl rfl rfl) ?_
  refine .cons (.mv rfl rfl) ?_
  refine .cD 10 rfl (fun g10 => ?_) (fun g10 => ?_)
  · skip
    refine .cons (.gT rfl rfl rfl (.fP 1 0 false rfl rfl)) ?_
    refine .cons (.gT rfl rfl rfl (.l1 1 rfl rfl)) ?_
    refine .cons (.gT rfl rfl rfl (.fP 1 0 false rfl rfl)) ?_
    refine .cons (.gT rfl rfl rfl (.l1 1 rfl rfl)) ?_
    refine .cons (.gT rfl rfl rfl (.eq rfl rfl rfl)) ?_
    refine .cons (.pT rfl rfl rfl) ?_
    refine .cons (.mv rfl rfl) ?_
    refine AOps.cases 17 _ rfl (fun g17 => ?_) (fun g17 => ?_)
    · try simp only [List.length_map, decide_eq_true_eq, decide_eq_false_iff_not, Bool.not_eq_true', Bool.not_eq_false', Bool.not_eq_true, Bool.not_eq_false] at g17
      refine .cons (.gT rfl rfl rfl (.fP 2 1 true rfl rfl)) ?_
      refine .cons (.gT rfl rfl rfl (.lN 2 rfl rfl rfl)) ?_
      refine .cons (.gT rfl rfl rfl (.fP 2 1 true rfl rfl)) ?_
      refine .cons (.gT rfl rfl rfl (.lN 2 rfl rfl rfl)) ?_
      refine .cons (.gT rfl rfl rfl (.cP [.tmp 19, .tmp 21] rfl rfl rfl rfl (implSame_fn _ _) rfl)) ?_
      refine .cons (.pT rfl rfl rfl) ?_
      refine .cons (.mv rfl rfl) ?_
      refine AOps.cases 24 _ rfl (fun g24 => ?_) (fun g24 => ?_)
      · try simp only [List.length_map, decide_eq_true_eq, decide_eq_false_iff_not, Bool.not_eq_true', Bool.not_eq_false', Bool.not_eq_true, Bool.not_eq_false] at g24
        refine .cons (.gT rfl rfl rfl (.fP 4 1 true rfl rfl)) ?_
        refine .cons (.gT rfl rfl rfl (.lN 2 rfl rfl rfl)) ?_
        refine .cons (.gT rfl rfl rfl (.fP 4 1 true rfl rfl)) ?_
        refine .cons (.gT rfl rfl rfl (.lN 2 rfl rfl rfl)) ?_
        refine .cons (.gT rfl rfl rfl (.cP [.tmp 26, .tmp 28] rfl rfl rfl rfl (accSame_fn _ _ hr) rfl)) ?_
        refine .cons (.pT rfl rfl rfl) ?_
        refine .cons (.mv rfl rfl) ?_
        refine AOps.cases 31 _ rfl (fun g31 => ?_) (fun g31 => ?_)
        · try simp only [List.length_map, decide_eq_true_eq, decide_eq_false_iff_not, Bool.not_eq_true', Bool.not_eq_false', Bool.not_eq_true, Bool.not_eq_false] at g31
          refine .cons (.gT rfl rfl rfl (.fP 6 0 false rfl rfl)) ?_
          refine .cons (.gT rfl rfl rfl (.l1 1 rfl rfl)) ?_
          refine .cons (.gT rfl rfl rfl (.fP 6 0 false rfl rfl)) ?_
          refine .cons (.gT rfl rfl rfl (.l1 1 rfl rfl)) ?_
          refine .cons (.gT rfl rfl rfl (.cP [.tmp 33, .tmp 35, .func 70] rfl rfl rfl rfl (eqf_ex (f := 70) (cap := []) (by kernel_rfl) sameE x.ks y.ks hk (fun a ha b _ => ih a ha b)) rfl)) ?_
          refine .cons (.pT rfl rfl rfl) ?_
          refine .cons (.asg rfl rfl) ?_
          refine .nil ?_
          refine ks_n ?_
          refine ACode.ret ?_
          refine kf_ret rfl ?_ nobox
          exact leafB (by rw [sameE_eq, ← eqF_sameE]; simp [*])
        · try simp only [List.length_map, decide_eq_true_eq, decide_eq_false_iff_not, Bool.not_eq_true', Bool.not_eq_false', Bool.not_eq_true, Bool.not_eq_false] at g31
          refine .cons (.gF rfl rfl rfl) ?_
          refine .cons (.gF rfl rfl rfl) ?_
          refine .cons (.gF rfl rfl rfl) ?_
          refine .cons (.gF rfl rfl rfl) ?_
          refine .cons (.gF rfl rfl rfl) ?_
          refine .cons (.pF rfl rfl rfl) ?_
          refine .cons (.asg rfl rfl) ?_
          refine .nil ?_
          refine ks_n ?_
          refine ACode.ret ?_
          refine kf_ret rfl ?_ nobox
          exact leafB (by rw [sameE_eq, ← eqF_sameE]; simp [*])
      · try simp only [List.length_map, decide_eq_true_eq, decide_eq_false_iff_not, Bool.not_eq_true', Bool.not_eq_false', Bool.not_eq_true, Bool.not_eq_false] at g24
        refine .cons (.gF rfl rfl rfl) ?_
        refine .cons (.gF rfl rfl rfl) ?_
        refine .cons (.gF rfl rfl rfl) ?_
        refine .cons (.gF rfl rfl rfl) ?_
        refine .cons (.gF rfl rfl rfl) ?_
        refine .cons (.pF rfl rfl rfl) ?_
        refine .cons (.mv rfl rfl) ?_
        refine .cons (.gF rfl rfl rfl) ?_
        refine .cons (.gF rfl rfl rfl) ?_
        refine .cons (.gF rfl rfl rfl) ?_
        refine .cons (.gF rfl rfl rfl) ?_
        refine .cons (.gF rfl rfl rfl) ?_
        refine .cons (.pF rfl rfl rfl) ?_
        refine .cons (.asg rfl rfl) ?_
        refine .nil ?_
        refine ks_n ?_
        refine ACode.ret ?_
        refine kf_ret rfl ?_ nobox
        exact leafB (by rw [sameE_eq, ← eqF_sameE]; simp [*])
    · try simp only [List.length_map, decide_eq_true_eq, decide_eq_false_iff_not, Bool.not_eq_true', Bool.not_eq_false', Bool.not_eq_true, Bool.not_eq_false] at g17
      refine .cons (.gF rfl rfl rfl) ?_
      refine .cons (.gF rfl rfl rfl) ?_
      refine .cons (.gF rfl rfl rfl) ?_
      refine .cons (.gF rfl rfl rfl) ?_
      refine .cons (.gF rfl rfl rfl) ?_
      refine .cons (.pF rfl rfl rfl) ?_
      refine .cons (.mv rfl rfl) ?_
      refine .cons (.gF rfl rfl rfl) ?_
      refine .cons (.gF rfl rfl rfl) ?_
      refine .cons (.gF rfl rfl rfl) ?_
      refine .cons (.gF rfl rfl rfl) ?_
      refine .cons (.gF rfl rfl rfl) ?_
      refine .cons (.pF rfl rfl rfl) ?_
      refine .cons (.mv rfl rfl) ?_
      refine .cons (.gF rfl rfl rfl) ?_
      refine .cons (.gF rfl rfl rfl) ?_
      refine .cons (.gF rfl rfl rfl) ?_
      refine .cons (.gF rfl rfl rfl) ?_
      refine .cons (.gF rfl rfl rfl) ?_
      refine .cons (.pF rfl rfl rfl) ?_
      refine .cons (.asg rfl rfl) ?_
      refine .nil ?_
      refine ks_n ?_
      refine ACode.ret ?_
      refine kf_ret rfl ?_ nobox
      exact leafB (by rw [sameE_eq, ← eqF_sameE]; simp [*])
  · skip
    refine .cons (.gF rfl rfl rfl) ?_
    refine .cons (.gF rfl rfl rfl) ?_
    refine .cons (.gF rfl rfl rfl) ?_
    refine .cons (.gF rfl rfl rfl) ?_
    refine .cons (.gF rfl rfl rfl) ?_
    refine .cons (.pF rfl rfl rfl) ?_
    refine .cons (.mv rfl rfl) ?_
    refine .cons (.gF rfl rfl rfl) ?_
    refine .cons (.gF rfl rfl rfl) ?_
    refine .cons (.gF rfl rfl rfl) ?_
    refine .cons (.gF rfl rfl rfl) ?_
    refine .cons (.gF rfl rfl rfl) ?_
    refine .cons (.pF rfl rfl rfl) ?_
    refine .cons (.mv rfl rfl) ?_
    refine .cons (.gF rfl rfl rfl) ?_
    refine .cons (.gF rfl rfl rfl) ?_
    refine .cons (.gF rfl rfl rfl) ?_
    refine .cons (.gF rfl rfl rfl) ?_
    refine .cons (.gF rfl rfl rfl) ?_
    refine .cons (.pF rfl rfl rfl) ?_
    refine .cons (.mv rfl rfl) ?_
    refine .cons (.gF rfl rfl rfl) ?_
    refine .cons (.gF rfl rfl rfl) ?_
    refine .cons (.gF rfl rfl rfl) ?_
    refine .cons (.gF rfl rfl rfl) ?_
    refine .cons (.gF rfl rfl rfl) ?_
    refine .cons (.pF rfl rfl rfl) ?_
    refine .cons (.asg rfl rfl) ?_
    refine .nil ?_
    refine ks_n ?_
    refine ACode.ret ?_
    refine kf_ret rfl ?_ nobox
    exact leafB (by rw [sameE_eq, ← eqF_sameE]; simp [*])

theorem exprSame_fn : ∀ x y : Ex, szE x ≤ 1099511627776 → Fn Try.prog 70 [] [ad (rX x), ad (rX y)] (.o (bo1 (sameE x y))) [] := by
  intro x
  induction x using Ex.rec' with
  | h x ih => exact fun y hs => exprSame_one x y (szE_parts hs).2.1 (szE_parts hs).2.2.1 fun a ha b => ih a ha b ((szE_parts hs).2.2.2 a ha)

set_option maxRecDepth 100000 in
set_option maxHeartbeats 1600000 in
theorem implStmtSame_fn (s t : Stm) (hs : szS s ≤ 1099511627776) : Fn Try.prog 26 [] [ad (rS s), ad (rS t)] (.o (bo1 (sameS s t))) [] := by
  refine Fn.code0 Try.func26 rfl rfl rfl rfl ?_
  refine ACode.seq ?_
  refine ACode.region ?_
  refine .cons (St1.boxP rfl rfl rfl rfl rfl rfl) ?_
  refine .cons (St1.boxP rfl rfl rfl rfl rfl rfl) ?_
  refine .cons (.asg rfl rfl) ?_
  refine .nil ?_
  refine ks_n ?_
  refine ACode.seq ?_
  refine ACode.region ?_
  refine .cons (.fP 0 1 true rfl rfl) ?_
  refine .cons (.lN 2 rfl rfl rfl) ?_
  refine .cons (.fP 0 1 true rfl rfl) ?_
  refine .cons (.lN 2 rfl rfl rfl) ?_
  refine .cons (.cP [.tmp 6, .tmp 8] rfl rfl rfl rfl (accSame_fn _ _ (szS_parts hs).1) rfl) ?_
  refine .cons (.mv rfl rfl) ?_
  refine AOps.cases 10 _ rfl (fun g10 => ?_) (fun g10 => ?_)
  · try simp only [List.length_map, decide_eq_true_eq, decide_eq_false_iff_not, Bool.not_eq_true', Bool.not_eq_false', Bool.not_eq_true, Bool.not_eq_false] at g10
    refine .cons (.gT rfl rfl rfl (.fP 2 6 true rfl rfl)) ?_
    refine .cons (.gT rfl rfl rfl (.lN 7 rfl rfl rfl)) ?_
    refine .cons (.gT rfl rfl rfl (.fP 2 6 true rfl rfl)) ?_
    refine .cons (.gT rfl rfl rfl (.lN 7 rfl rfl rfl)) ?_
    refine .cons (.gT rfl rfl rfl (.cP [.tmp 12, .tmp 14] rfl rfl rfl rfl (exprSame_fn _ _ (szS_parts hs).2) rfl)) ?_
    refine .cons (.pT rfl rfl rfl) ?_
    refine .cons (.asg rfl rfl) ?_
    refine .nil ?_
    refine ks_n ?_
    refine ACode.ret ?_
    refine kf_ret rfl ?_ nobox
    exact leafB (by rw [sameS, g10]; rfl)
  · try simp only [List.length_map, decide_eq_true_eq, decide_eq_false_iff_not, Bool.not_eq_true', Bool.not_eq_false', Bool.not_eq_true, Bool.not_eq_false] at g10
    refine .cons (.gF rfl rfl rfl) ?_
    refine .cons (.gF rfl rfl rfl) ?_
    refine .cons (.gF rfl rfl rfl) ?_
    refine .cons (.gF rfl rfl rfl) ?_
    refine .cons (.gF rfl rfl rfl) ?_
    refine .cons (.pF rfl rfl rfl) ?_
    refine .cons (.asg rfl rfl) ?_
    refine .nil ?_
    refine ks_n ?_
    refine ACode.ret ?_
    refine kf_ret rfl ?_ nobox
    exact leafB (by rw [sameS, g10]; rfl)

end Go.Proofs.Ytigdfdhjnadieaa

/- Statements: reads of the reference, replacements; condition: small lists. -/
namespace Go.Proofs.Ytigdfdhjnadieaa
set_option linter.unusedVariables false
set_option linter.unusedSimpArgs false
open Go.RowKit

theorem cmb_subst (x y : Aff) (v : Nat) : cmbA (x.1.set v 0, x.2) 1 y (x.1.getD v 0) = affSubst x v y := by
  rw [affSubst, affSum, cmbA, cmbTo]
  simp [List.range_succ, Int.one_mul]
theorem affM_1000 {x : Aff} (h : affM x) : x.1.length = 4 ∧ (-1000 ≤ x.2 ∧ x.2 ≤ 1000) ∧ ∀ i, -1000 ≤ x.1.getD i 0 ∧ x.1.getD i 0 ≤ 1000 := ⟨h.1, ⟨by have := h.2.2; omega, by have := h.2.2; omega⟩, fun i => by have := h.2.1 i; omega⟩

end Go.Proofs.Ytigdfdhjnadieaa

/- Statements: SubstStmt, StmtDepth; condition: small lists. -/
namespace Go.Proofs.Ytigdfdhjnadieaa
set_option linter.unusedVariables false
set_option linter.unusedSimpArgs false
open Go.RowKit

theorem fld_aff {d : Nat} {e : Ex} (h : fldV d e.k e.n e.i e.r = true) : (e.k = 2 → bndV d e.i = true) ∧ (e.k = 3 → ∀ x ∈ e.r.2, bndV d x = true) := by
  unfold fldV at h
  refine ⟨fun hk => ?_, fun hk x hx => ?_⟩
  · rw [if_neg (by omega), if_pos hk] at h
    simp only [Bool.and_eq_true] at h
    rw [bndV]; exact Bool.and_eq_true_iff.2 h.1.2
  · rw [if_neg (by omega), if_neg (by omega), if_pos hk] at h
    simp only [Bool.and_eq_true, accV, sideV] at h
    exact List.all_eq_true.1 h.2.2.1.1 x hx
theorem affsEs_of {l : List Ex} {a : Aff} (h : a ∈ affsEs l) : ∃ e ∈ l, a ∈ affsE e := by
  induction l with
  | nil => cases h
  | cons y l ih =>
    rw [affsEs, List.mem_append] at h
    rcases h with h | h
    · exact ⟨y, by simp, h⟩
    · obtain ⟨z, h1, h2⟩ := ih h; exact ⟨z, by simp [h1], h2⟩
theorem exV_aff {d : Nat} : ∀ {L : Nat} {e : Ex}, exV d L e = true → ∀ x ∈ affsE e, bndV d x = true
  | 0, e, h => by cases h
  | L + 1, e, h => by
    intro x hx
    have hk := (exV_kids h).2
    rw [exV, Bool.and_eq_true, Bool.and_eq_true] at h
    obtain ⟨f1, f2⟩ := fld_aff h.1.2
    rw [affsE_eq, List.mem_append, List.mem_append] at hx
    rcases hx with hx | hx | hx
    · split at hx
      · rename_i hk; rw [List.mem_singleton.1 hx]; exact f1 hk
      · cases hx
    · split at hx
      · rename_i hk; exact f2 hk x hx
      · cases hx
    · obtain ⟨z, h1, h2⟩ := affsEs_of hx
      exact exV_aff (hk z h1) x h2
theorem stmtV_aff {d : Int} {s : Stm} (h : stmtV d s = true) : ∀ x ∈ affsS s, affV x = true ∧ affDepth x ≤ d.toNat := by
  intro x hx
  obtain ⟨h1, h2, _⟩ := stmtV_ex h
  have : bndV d.toNat x = true := by
    rw [affsS, List.mem_append] at hx
    rcases hx with hx | hx
    · simp only [accV, sideV, Bool.and_eq_true] at h2
      exact List.all_eq_true.1 h2.2.1.1 x hx
    · exact exV_aff h1 x hx
  simp only [bndV, Bool.and_eq_true, decide_eq_true_eq] at this
  exact this
theorem szAs_map {g : Aff → Aff} : ∀ {l : List Aff}, (∀ x ∈ l, (g x).1.length ≤ x.1.length) → szAs (l.map g) ≤ szAs l
  | [], _ => Nat.le_refl _
  | a :: l, h => by
    have h1 := szAs_map (l := l) fun x hx => h x (by simp [hx])
    have h2 := h a (by simp)
    simp only [szAs, List.length_map, List.map_cons, List.sum_cons, List.length_cons] at h1 ⊢
    omega
theorem szE_map {g : Aff → Aff} : ∀ {e : Ex}, (∀ x ∈ affsE e, (g x).1.length ≤ x.1.length) → szE (mapE g e) ≤ szE e := by
  intro e
  induction e using Ex.rec' with
  | h e ih =>
    intro h
    have hk : ∀ l : List Ex, (∀ x ∈ l, szE (mapE g x) ≤ szE x) → szEs (l.map (mapE g)) ≤ szEs l := by
      intro l
      induction l with
      | nil => intro _; exact Nat.le_refl _
      | cons y l ih =>
        intro h
        have := ih fun x hx => h x (by simp [hx])
        have := h y (by simp)
        simp only [List.map_cons, szEs]; omega
    have h3 := hk e.ks fun x hx => ih x hx fun a ha => h a (affsE_k hx ha)
    rw [mapE_eq, szE, szE_eq, List.length_map]
    have h1 : (if e.k = 2 then g e.i else ([], 0)).1.length ≤ e.i.1.length := by
      split
      · exact h _ (affsE_i (by assumption))
      · exact Nat.zero_le _
    have h2 : szC (if e.k = 3 then mapC g e.r else (ByteArray.empty, [])) ≤ szC e.r := by
      split
      · rw [szC, szC, mapC]
        have := szAs_map (l := e.r.2) fun x hx => h x (affsE_r (by assumption) hx)
        exact Nat.add_le_add_left this _
      · show ByteArray.empty.size + szAs [] ≤ _
        exact Nat.zero_le _
    omega
theorem szS_map {g : Aff → Aff} {s : Stm} (h : ∀ x ∈ affsS s, (g x).1.length ≤ x.1.length) : szS (mapS g s) ≤ szS s := by
  rw [szS, szS, mapS, szC, szC, mapC]
  have h1 := szAs_map (l := s.1.2) fun x hx => h x (List.mem_append_left _ hx)
  have h2 := szE_map (e := s.2) fun x hx => h x (List.mem_append_right _ hx)
  show s.1.1.size + szAs (s.1.2.map g) + szE (mapE g s.2) ≤ _
  omega
/-- The statement without anything. -/
def zS : Stm := ((ByteArray.empty, []), .mk 0 0 ([], 0) (ByteArray.empty, []) [])
def chkS (d : Int) (s : Stm) : Stm × Bool := if stmtV d s = true then (s, true) else (zS, false)
theorem chkS_no {d : Int} {s : Stm} (h : stmtV d s = false) : chkS d s = (zS, false) := by rw [chkS, h]; rfl
theorem chkS_yes {d : Int} {s : Stm} (h : stmtV d s = true) : chkS d s = (s, true) := by rw [chkS, if_pos h]
end Go.Proofs.Ytigdfdhjnadieaa

/- Statements: simplification by the program; condition: small lists. -/
namespace Go.Proofs.Ytigdfdhjnadieaa
set_option linter.unusedVariables false
set_option linter.unusedSimpArgs false
open Go.RowKit

end Go.Proofs.Ytigdfdhjnadieaa

/- Statements: simplification; condition: small lists. -/
namespace Go.Proofs.Ytigdfdhjnadieaa
set_option linter.unusedVariables false
set_option linter.unusedSimpArgs false
open Go.RowKit

end Go.Proofs.Ytigdfdhjnadieaa

/- Drawn affine expressions; condition: bytes. -/
namespace Go.Proofs.Ytigdfdhjnadieaa
set_option linter.unusedVariables false
set_option linter.unusedSimpArgs false
open Go.RowKit

def drE (bs : List Int) : Nat → Nat → List Int → Nat → List Int × Nat
  | 0, _, cs, p => (cs, p)
  | n + 1, i, cs, p => drE bs n (i + 1) (cs.set i (numV bs p [0, 1, 0, -1, 2, 0, 9])) (p + 1)
def drD (bs : List Int) (p d : Nat) : Aff × Nat := (((drE bs d 0 [0, 0, 0, 0] (p + 1)).1, numV bs p [0, 1, -1, 2, 0, 5, -9, 99]), (drE bs d 0 [0, 0, 0, 0] (p + 1)).2)
theorem drE_len (bs : List Int) : ∀ (n i : Nat) (cs : List Int) (p : Nat), (drE bs n i cs p).1.length = cs.length ∧ (drE bs n i cs p).2 = p + n
  | 0, i, cs, p => ⟨rfl, rfl⟩
  | n + 1, i, cs, p => by
    obtain ⟨h1, h2⟩ := drE_len bs n (i + 1) (cs.set i (numV bs p [0, 1, 0, -1, 2, 0, 9])) (p + 1)
    exact ⟨by rw [drE, h1, List.length_set], by rw [drE, h2]; omega⟩
set_option maxRecDepth 100000 in
set_option maxHeartbeats 1600000 in
theorem l1Draw_fn {bs : List Int} (hb : Bytes bs) {p : Nat} (hp : p ≤ 100000000) (d : Nat) (hd : d ≤ 4) : Fn Try.prog 78 (hbR bs p) [vR, nat1 (d : Nat)] (.o (ad (rA (drD bs p d).1))) (hbR bs (drD bs p d).2) := by
  refine Fn.of_code Try.func78 rfl rfl (hbR_HB _ _) rfl rfl (hbR_HB _ _) rfl (hbR_num _ _ _) ?_
  refine ACode.seq ?_
  refine ACode.region ?_
  refine .cons (.al 104 [.slice none 0 0, .int .i64 0] rfl rfl rfl) ?_
  refine .nil ?_
  refine ks_n ?_
  refine ACode.seq ?_
  refine ACode.region ?_
  refine .cons (.mv rfl rfl) ?_
  refine .cons (.li 3 0 7 [.const (.int .i64 (0)), .const (.int .i64 (1)), .const (.int .i64 (-1)), .const (.int .i64 (2)), .const (.int .i64 (0)), .const (.int .i64 (5)), .const (.int .i64 (-9)), .const (.int .i64 (99))] rfl rfl rfl rfl rfl rfl) ?_
  refine .cons (.cR [.tmp 7, .tmp 8] 0 rfl rfl rfl rfl (num_fn hb (by omega) [0, 1, -1, 2, 0, 5, -9, 99] (by simp)) rfl ⟨rfl, trivial⟩) ?_
  refine .cons (.cO [.tmp 9] [(101, 610)] rfl rfl rfl rfl (l1Const_own _) rfl trivial flatS.nil (flatS.nil.cons rfl) HB.nil.data outS_one) ?_
  refine .cons (.al 105 [.slice none 0 0, .int .i64 0] rfl rfl rfl) ?_
  refine .cons (.sT 2 true rfl rfl rfl rfl rfl rfl rfl) ?_
  refine .nil ?_
  refine ks_n ?_
  refine ACode.seq ?_
  refine ACode.seq ?_
  refine ACode.region ?_
  refine .cons (.asg rfl rfl) ?_
  refine .nil ?_
  refine ks_n ?_
  refine ACode.block ?_
  refine .loopK (fun m σ => (∃ (i : Nat) (cs : List Int) (q : Nat), m = d - i ∧ (i ≤ d) ∧ (cs.length = 4) ∧ (q + (d - i) ≤ p + 1 + d) ∧ (drE bs (d - i) i cs q = drE bs d 0 [0, 0, 0, 0] (p + 1)) ∧ σ = [(.t 0, .v (.o (.c (.box 0 2 0 0)))), (.t 1, .v (.o (nat1 (d : Nat)))), (.t 4, .v (.o (.c (.box 110 2 0 0)))), (.t 5, .v (.o (.c (.box 111 2 0 0)))), (.t 6, .v (.o (nat1 (i : Nat)))), (.b 0, .b 113 2 (dR ([rRd bs q]))), (.u 0, .u), (.b 110, .b 28 2 [[.d (.val (.slice none 0 0)), .d (dI 0)]]), (.u 110, .u), (.b 112, .b 3 1 (dR (cs.map rI))), (.u 112, .u), (.b 111, .b 28 2 [[.own 112 1 (4), .d (dI (numV bs p [0, 1, -1, 2, 0, 5, -9, 99]))]]), (.u 111, .u)])) [(0, 0), (110, 104), (111, 105), (112, 610)] ⟨0, [0, 0, 0, 0], p + 1, rfl, (by omega), rfl, (by omega), rfl, rfl⟩ ⟨ks rfl (.c .bx), ks rfl .dt, ks rfl (.c .bx), ks rfl (.c .bx), ks rfl .dt, kb 0 rfl (.dt rfl), kb 104 rfl (.cons (.cons .dt (.cons .dt Ctos.nil)) .nil), kb 610 rfl (.dt rfl (by first | rfl | exact dR_setI _ _ _ _)), kb 105 rfl (.cons (.cons .ow (.cons .dt Ctos.nil)) .nil), trivial⟩ ?_
  rintro m σ ⟨i, cs, q, hm0, hi, hc, hq, hE, rfl⟩
  refine ACode.seq ?_
  refine ACode.seq ?_
  refine ACode.region ?_
  refine .cons (.mv rfl rfl) ?_
  refine .cons (.mv rfl rfl) ?_
  refine .cons (.ls rfl rfl rfl) ?_
  refine .nil ?_
  refine ks_n ?_
  refine .cD rfl (fun h13 => ?_) (fun h13 => ?_)
  · skip
    refine ACode.skip ?_
    refine ks_n ?_
    refine ACode.seq ?_
    refine ACode.block ?_
    refine ACode.drawK (by kernel_rfl) (by kernel_rfl) ?_
    refine .cons (.fB 0 0 false rfl rfl rfl) ?_
    refine .cons (.b1 1 rfl rfl rfl rfl rfl rfl) ?_
    refine .cons (.mv rfl rfl) ?_
    refine .cons (.mv rfl rfl) ?_
    refine .cons (.li 3 0 6 [.const (.int .i64 (0)), .const (.int .i64 (1)), .const (.int .i64 (0)), .const (.int .i64 (-1)), .const (.int .i64 (2)), .const (.int .i64 (0)), .const (.int .i64 (9))] rfl rfl rfl rfl rfl rfl) ?_
    refine .cons (.cR [.tmp 19, .tmp 20] 0 rfl rfl rfl rfl (num_fn hb (by omega) [0, 1, 0, -1, 2, 0, 9] (by simp)) rfl ⟨rfl, trivial⟩) ?_
    refine .cons (.xB 3 1 8 rfl rfl rfl rfl rfl rfl (by omega)) ?_
    refine .cons (.sT 1 false rfl rfl rfl rfl (dR_at (map_at (getD_at (by omega)))) rfl rfl) ?_
    refine .nil ⟨by kernel_rfl, ?_⟩
    refine kb_n ?_
    refine ks_n ?_
    refine ACode.region ?_
    refine .cons (.mv rfl rfl) ?_
    refine .cons (.pl rfl rfl rfl) ?_
    refine .cons (.asg rfl rfl) ?_
    refine .nil ?_
    refine kl_k [(0, 0), (110, 110), (111, 111), (112, 112)] ⟨i + 1, cs.set i (numV bs q [0, 1, 0, -1, 2, 0, 9]), q + 1, rfl, by omega, by rw [List.length_set, hc], by omega, by rw [← hE, show d - i = (d - (i + 1)) + 1 by omega]; rfl, rfl⟩ ⟨ks rfl (.c .bx), ks rfl .dt, ks rfl (.c .bx), ks rfl (.c .bx), ks rfl .dt, kb 0 rfl (.dt rfl), kb 110 rfl (.cons (.cons .dt (.cons .dt Ctos.nil)) .nil), kb 112 rfl (.dt rfl (by first | rfl | exact dR_setI _ _ _ _)), kb 111 rfl (.cons (.cons .ow (.cons .dt Ctos.nil)) .nil), trivial⟩
  · skip
    obtain rfl : i = d := by omega
    rw [Nat.sub_self] at hE
    obtain ⟨r, hr⟩ : ∃ r, r = drD bs p i := ⟨_, rfl⟩
    rw [← hr]
    have hr2 : r = ((cs, numV bs p [0, 1, -1, 2, 0, 5, -9, 99]), q) := by rw [hr, drD, ← hE]; rfl
    subst hr2
    refine ACode.exit ?_
    refine ks_e ?_
    refine kl_e ?_
    refine kb_hit ?_
    refine ks_n ?_
    refine ACode.seq ?_
    refine ACode.region ?_
    refine .cons (.bN 2 rfl rfl rfl rfl rfl rfl) ?_
    refine .cons (.sT 2 true rfl rfl rfl rfl rfl rfl rfl) ?_
    refine .nil ?_
    refine ks_n ?_
    refine ACode.ret ?_
    refine kf_wret [(.t 4, .v (.o (.c (.box 100 2 0 0)))), (.b 0, .b 113 2 (dR ([rRd bs q]))), (.u 0, .u), (.b 100, .b 28 2 [[.d (dIs cs), .d (dI (numV bs p [0, 1, -1, 2, 0, 5, -9, 99]))]]), (.u 100, .u)] (Wk.keep [(0, 0), (100, 110)] rfl rfl ⟨ks rfl (.c .bx), kb 0 rfl (.dt rfl), kb 110 rfl (.cons (.cons (.fz rfl rfl (by rw [List.length_map, hc]) (by omega)) (.cons .dt Ctos.nil)) .nil), trivial⟩) rfl ?_ (hbR_box rfl)
    rfl

end Go.Proofs.Ytigdfdhjnadieaa
