/- Part 6 of 6 of the proof: laws on memory and data, then what the functions compute, in the order in which they build on each other; conditions: those that each theorem names. -/
import Derived.Test.YtgcpdpbapgkdjaaP5

/- Lists compared; draws of points; condition: small nests. -/
namespace Go.Proofs.Ytgcpdpbapgkdjaa
set_option linter.unusedVariables false
set_option linter.unusedSimpArgs false
open Go.RowKit

set_option maxRecDepth 100000 in
set_option maxHeartbeats 1600000 in
theorem lnInts_fn (xs ys : List Int) (hx : xs.length ≤ 1099511627776) : Fn Try.prog 39 [] [vD (dIs xs), vD (dIs ys)] (.o (bo1 (decide (xs = ys)))) [] := by
  rw [← eqF_dec]
  refine Fn.code0 Try.func39 rfl rfl rfl rfl ?_
  refine ACode.seq ?_
  refine ACode.region ?_
  refine .cons (.asg rfl rfl) ?_
  refine .nil ?_
  refine ks_n ?_
  refine ACode.seq ?_
  refine ACode.seq ?_
  refine ACode.region ?_
  refine .cons (.mv rfl rfl) ?_
  refine .cons (.ln 3 1 8 rfl rfl rfl) ?_
  refine .cons (.mv rfl rfl) ?_
  refine .cons (.ln 3 1 8 rfl rfl rfl) ?_
  refine .cons (.ne rfl rfl rfl) ?_
  refine .nil ?_
  refine ks_n ?_
  refine .cND rfl (fun h10 => ?_) (fun h10 => ?_)
  · skip
    refine ACode.seq ?_
    refine ACode.region ?_
    refine .cons (.asg rfl rfl) ?_
    refine .nil ?_
    refine ks_n ?_
    refine ACode.ret ?_
    refine ks_r ?_
    refine kf_ret rfl ?_ nobox
    exact leafB (eqF_len (by omega)).symm
  · skip
    refine ACode.skip ?_
    refine ks_n ?_
    refine ACode.seq ?_
    refine ACode.seq ?_
    refine ACode.region ?_
    refine .cons (.asg rfl rfl) ?_
    refine .nil ?_
    refine ks_n ?_
    refine ACode.block ?_
    refine .loopK (fun m σ => (∃ i : Nat, m = xs.length - i ∧ (i ≤ xs.length) ∧ (eqF (fun x y => decide (x = y)) xs ys = eqF (fun x y => decide (x = y)) (xs.drop i) (ys.drop i)) ∧ σ = [(.t 0, .v (.o (vD (dIs xs)))), (.t 1, .v (.o (vD (dIs ys)))), (.t 5, .v (.o (nat1 (i : Nat))))])) [] ⟨0, rfl, by omega, by simp, rfl⟩ ⟨ks rfl .dt, ks rfl .dt, ks rfl .dt, trivial⟩ ?_
    rintro m σ ⟨i, hm0, hi, hF, rfl⟩
    refine ACode.seq ?_
    refine ACode.seq ?_
    refine ACode.region ?_
    refine .cons (.mv rfl rfl) ?_
    refine .cons (.mv rfl rfl) ?_
    refine .cons (.ln 3 1 8 rfl rfl rfl) ?_
    refine .cons (.ls rfl rfl rfl) ?_
    refine .nil ?_
    refine ks_n ?_
    refine .cD rfl (fun h14 => ?_) (fun h14 => ?_)
    · skip
      obtain ⟨x, hx1⟩ : ∃ x, xs[i]? = some x := ⟨_, List.getElem?_eq_getElem (by omega)⟩
      obtain ⟨y, hy1⟩ : ∃ x, ys[i]? = some x := ⟨_, List.getElem?_eq_getElem (by omega)⟩
      refine ACode.skip ?_
      refine ks_n ?_
      refine ACode.seq ?_
      refine ACode.block ?_
      refine ACode.seq ?_
      refine ACode.drawK (by kernel_rfl) (by kernel_rfl) ?_
      refine .cons (.mv rfl rfl) ?_
      refine .cons (.mv rfl rfl) ?_
      refine .cons (.xL 3 1 8 rfl rfl rfl rfl rfl) ?_
      refine .cons (.l1 1 rfl rfl) ?_
      refine .cons (.mv rfl rfl) ?_
      refine .cons (.mv rfl rfl) ?_
      refine .cons (.xL 3 1 8 rfl rfl rfl rfl rfl) ?_
      refine .cons (.l1 1 rfl rfl) ?_
      refine .cons (.ne rfl rfl rfl) ?_
      refine .nil ⟨by kernel_rfl, ?_⟩
      refine ks_n ?_
      refine .cND rfl (fun h25 => ?_) (fun h25 => ?_)
      · skip
        refine ACode.seq ?_
        have gg : decide (x = y) = false := decide_eq_false h25
        refine ACode.region ?_
        refine .cons (.asg rfl rfl) ?_
        refine .nil ?_
        refine ks_n ?_
        refine ACode.ret ?_
        refine kb_r ?_
        refine ks_r ?_
        refine kl_r ?_
        refine kb_r ?_
        refine ks_r ?_
        refine kf_ret rfl ?_ nobox
        exact leafB (by rw [hF, eqF_drop hx1 hy1, gg]; rfl)
      · skip
        refine ACode.skip ?_
        refine kb_n ?_
        refine ks_n ?_
        have gg : decide (x = y) = true := decide_eq_true h25
        refine ACode.region ?_
        refine .cons (.mv rfl rfl) ?_
        refine .cons (.pl rfl rfl rfl) ?_
        refine .cons (.asg rfl rfl) ?_
        refine .nil ?_
        refine kl_k [] ⟨i + 1, rfl, by omega, by rw [hF, eqF_drop hx1 hy1, gg, Bool.true_and], rfl⟩ ⟨ks rfl .dt, ks rfl .dt, ks rfl .dt, trivial⟩
    · skip
      refine ACode.exit ?_
      refine ks_e ?_
      refine kl_e ?_
      refine kb_hit ?_
      refine ks_n ?_
      refine ACode.seq ?_
      refine ACode.region ?_
      refine .cons (.asg rfl rfl) ?_
      refine .nil ?_
      refine ks_n ?_
      refine ACode.ret ?_
      refine kf_ret rfl ?_ nobox
      exact leafB (by rw [hF, show i = xs.length by omega, eqF_end (by omega)])

set_option maxRecDepth 100000 in
set_option maxHeartbeats 1600000 in
theorem lnLists_fn (xs ys : List (List Int)) (hx : xs.length ≤ 1099511627776) (hq : ∀ x ∈ xs, x.length ≤ 1099511627776) : Fn Try.prog 30 [] [vD (dPs xs), vD (dPs ys)] (.o (bo1 (decide (xs = ys)))) [] := by
  rw [← eqF_dec]
  refine Fn.code0 Try.func30 rfl rfl rfl rfl ?_
  refine ACode.seq ?_
  refine ACode.region ?_
  refine .cons (.asg rfl rfl) ?_
  refine .nil ?_
  refine ks_n ?_
  refine ACode.seq ?_
  refine ACode.seq ?_
  refine ACode.region ?_
  refine .cons (.mv rfl rfl) ?_
  refine .cons (.ln 28 1 24 rfl rfl rfl) ?_
  refine .cons (.mv rfl rfl) ?_
  refine .cons (.ln 28 1 24 rfl rfl rfl) ?_
  refine .cons (.ne rfl rfl rfl) ?_
  refine .nil ?_
  refine ks_n ?_
  refine .cND rfl (fun h10 => ?_) (fun h10 => ?_)
  · skip
    refine ACode.seq ?_
    refine ACode.region ?_
    refine .cons (.asg rfl rfl) ?_
    refine .nil ?_
    refine ks_n ?_
    refine ACode.ret ?_
    refine ks_r ?_
    refine kf_ret rfl ?_ nobox
    exact leafB (eqF_len (by omega)).symm
  · skip
    refine ACode.skip ?_
    refine ks_n ?_
    refine ACode.seq ?_
    refine ACode.seq ?_
    refine ACode.region ?_
    refine .cons (.asg rfl rfl) ?_
    refine .nil ?_
    refine ks_n ?_
    refine ACode.block ?_
    refine .loopK (fun m σ => (∃ i : Nat, m = xs.length - i ∧ (i ≤ xs.length) ∧ (eqF (fun x y => decide (x = y)) xs ys = eqF (fun x y => decide (x = y)) (xs.drop i) (ys.drop i)) ∧ σ = [(.t 0, .v (.o (vD (dPs xs)))), (.t 1, .v (.o (vD (dPs ys)))), (.t 5, .v (.o (nat1 (i : Nat))))])) [] ⟨0, rfl, by omega, by simp, rfl⟩ ⟨ks rfl .dt, ks rfl .dt, ks rfl .dt, trivial⟩ ?_
    rintro m σ ⟨i, hm0, hi, hF, rfl⟩
    refine ACode.seq ?_
    refine ACode.seq ?_
    refine ACode.region ?_
    refine .cons (.mv rfl rfl) ?_
    refine .cons (.mv rfl rfl) ?_
    refine .cons (.ln 28 1 24 rfl rfl rfl) ?_
    refine .cons (.ls rfl rfl rfl) ?_
    refine .nil ?_
    refine ks_n ?_
    refine .cD rfl (fun h14 => ?_) (fun h14 => ?_)
    · skip
      obtain ⟨x, hx1⟩ : ∃ x, xs[i]? = some x := ⟨_, List.getElem?_eq_getElem (by omega)⟩
      obtain ⟨y, hy1⟩ : ∃ x, ys[i]? = some x := ⟨_, List.getElem?_eq_getElem (by omega)⟩
      refine ACode.skip ?_
      refine ks_n ?_
      refine ACode.seq ?_
      refine ACode.block ?_
      refine ACode.seq ?_
      refine ACode.drawK (by kernel_rfl) (by kernel_rfl) ?_
      refine .cons (.mv rfl rfl) ?_
      refine .cons (.mv rfl rfl) ?_
      refine .cons (.xL 28 1 24 rfl rfl rfl rfl rfl) ?_
      refine .cons (.l1 1 rfl rfl) ?_
      refine .cons (.mv rfl rfl) ?_
      refine .cons (.mv rfl rfl) ?_
      refine .cons (.xL 28 1 24 rfl rfl rfl rfl rfl) ?_
      refine .cons (.l1 1 rfl rfl) ?_
      refine .cons (.cP [.tmp 20, .tmp 24] rfl rfl rfl rfl (lnInts_fn x y (hq x (List.mem_of_getElem? hx1))) rfl) ?_
      refine .cons (.nt rfl rfl) ?_
      refine .nil ⟨by kernel_rfl, ?_⟩
      refine ks_n ?_
      refine ACode.condT rfl (fun h26 => ?_) (fun h26 => ?_)
      · try simp only [List.length_map, decide_eq_true_eq, decide_eq_false_iff_not, Bool.not_eq_true', Bool.not_eq_false', Bool.not_eq_true, Bool.not_eq_false] at h26
        refine ACode.seq ?_
        have gg : decide (x = y) = false := decide_eq_false (by assumption)
        refine ACode.region ?_
        refine .cons (.asg rfl rfl) ?_
        refine .nil ?_
        refine ks_n ?_
        refine ACode.ret ?_
        refine kb_r ?_
        refine ks_r ?_
        refine kl_r ?_
        refine kb_r ?_
        refine ks_r ?_
        refine kf_ret rfl ?_ nobox
        exact leafB (by rw [hF, eqF_drop hx1 hy1, gg]; rfl)
      · try simp only [List.length_map, decide_eq_true_eq, decide_eq_false_iff_not, Bool.not_eq_true', Bool.not_eq_false', Bool.not_eq_true, Bool.not_eq_false] at h26
        refine ACode.skip ?_
        refine kb_n ?_
        refine ks_n ?_
        have gg : decide (x = y) = true := decide_eq_true (by assumption)
        refine ACode.region ?_
        refine .cons (.mv rfl rfl) ?_
        refine .cons (.pl rfl rfl rfl) ?_
        refine .cons (.asg rfl rfl) ?_
        refine .nil ?_
        refine kl_k [] ⟨i + 1, rfl, by omega, by rw [hF, eqF_drop hx1 hy1, gg, Bool.true_and], rfl⟩ ⟨ks rfl .dt, ks rfl .dt, ks rfl .dt, trivial⟩
    · skip
      refine ACode.exit ?_
      refine ks_e ?_
      refine kl_e ?_
      refine kb_hit ?_
      refine ks_n ?_
      refine ACode.seq ?_
      refine ACode.region ?_
      refine .cons (.asg rfl rfl) ?_
      refine .nil ?_
      refine ks_n ?_
      refine ACode.ret ?_
      refine kf_ret rfl ?_ nobox
      exact leafB (by rw [hF, show i = xs.length by omega, eqF_end (by omega)])

theorem implLex_fn (p q : List Int) : Fn Try.prog 42 [] [vD (dIs p), vD (dIs q)] (.o (bo1 (lexB p q))) [] :=
  Fn.pure fun B bx al w vs hv => by
    obtain ⟨u, v, rfl, h1, h2⟩ := vals2 hv
    have h3 := dr_ints h1
    have h4 := dr_ints h2
    obtain ⟨a, n, c, rfl, rfl⟩ := sl_form h3
    obtain ⟨a2, n2, c2, rfl, rfl⟩ := sl_form h4
    exact (implLex_any B B a a2 _ _ c c2 p q w h3 h4).mono fun e w' ⟨h1, h2⟩ => ⟨_, h1, by rw [← h2]; exact Below.refl _ _, .val _ rfl⟩
theorem npR_len (ns : List Lp) : (npR ns).length ≤ 120 := by
  rw [npR]
  split
  · rename_i h; exact (okP_iff.1 h).2.2
  · simp
theorem npR_mem {ns : List Lp} {x : List Int} (h : x ∈ npR ns) : okP ns = true ∧ x ∈ ptsG ns [] ∧ x.length = ns.length := by
  rw [npR] at h
  split at h
  · rename_i h1; exact ⟨h1, h, (mem_pts.1 h).1⟩
  · cases h
theorem npR_x {ns : List Lp} (hs : smN ns) : ∀ x ∈ npR ns, x.length ≤ 1099511627776 := fun x hx => by rw [(npR_mem hx).2.2]; exact Nat.le_trans hs.1 (by omega)
theorem nsV3 {ns : List Lp} (h : nsV ns = true) (h3 : ns.length ≤ 3 ∨ 4 < ns.length) : ns.length ≤ 3 := by have := (nsV_at h).1; omega

set_option maxRecDepth 100000 in
set_option maxHeartbeats 1600000 in
theorem drawNP_core {bs : List Int} {ns : List Lp} (hF : Fn Try.prog 64 [] [vD (dYs bs)] (.o (vD (dLs ns))) []) : Fn Try.prog 28 [] [vD (dYs bs)] (.o (vD (dLs ns))) [] := by
  refine Fn.code0 Try.func28 rfl rfl rfl rfl ?_
  refine ACode.seq ?_
  refine ACode.region ?_
  refine .cons (.asg rfl rfl) ?_
  refine .nil ?_
  refine ks_n ?_
  refine ACode.seq ?_
  refine ACode.region ?_
  refine .cons (.mv rfl rfl) ?_
  refine .cons (.cP [.tmp 3] rfl rfl rfl rfl (hF) rfl) ?_
  refine .cons (.asg rfl rfl) ?_
  refine .nil ?_
  refine ks_n ?_
  refine ACode.ret ?_
  refine kf_ret rfl ?_ nobox
  rfl

def spotE (bs : List Int) : Nat → List Int → Nat → List Int × Nat
  | 0, xs, p => (xs, p)
  | n + 1, xs, p => spotE bs n (xs ++ [numV bs p [0, 1, 2, 3, -1, 9999]]) (p + 1)
def spotF (bs : List Int) (p n : Nat) : List Int × Nat := if pickV bs (spotE bs n [] p).2 12 = 0 then ((spotE bs n [] p).1 ++ [0], (spotE bs n [] p).2 + 1) else ((spotE bs n [] p).1, (spotE bs n [] p).2 + 1)
theorem spotE_bd {bs : List Int} (hb : Bytes bs) : ∀ (n : Nat) (xs : List Int) (p : Nat), p + n ≤ 1099511627776 → (∀ x ∈ xs, -9999 ≤ x ∧ x ≤ 9999) → (spotE bs n xs p).2 = p + n ∧ (spotE bs n xs p).1.length = xs.length + n ∧ ∀ x ∈ (spotE bs n xs p).1, -9999 ≤ x ∧ x ≤ 9999
  | 0, xs, p, _, h => ⟨rfl, rfl, h⟩
  | n + 1, xs, p, hp, h => by
    rw [spotE]
    have hm := numV_mem hb (p := p) (by omega) (xs := [0, 1, 2, 3, -1, 9999]) (by simp)
    obtain ⟨h1, h2, h3⟩ := spotE_bd hb n (xs ++ [numV bs p [0, 1, 2, 3, -1, 9999]]) (p + 1) (by omega) (fun x hx => by
      rcases List.mem_append.1 hx with hx | hx
      · exact h x hx
      · rw [List.mem_singleton.1 hx]; simp at hm; omega)
    exact ⟨by omega, by rw [h2]; simp; omega, h3⟩

set_option maxRecDepth 100000 in
set_option maxHeartbeats 1600000 in
theorem spot_list {bs : List Int} (hb : Bytes bs) {p : Nat} (hp : p ≤ 100000000) {ns : List Lp} (hs : smN ns) (ho : okP ns = true) (hn0 : 0 < (npR ns).length) (hk : 0 < pickV bs p 3) {x : List Int} (hx : (npR ns)[(pickV bs (p + 1) ((npR ns).length : Nat)).toNat]? = some x) : Fn Try.prog 69 (hbR bs p) [vR, vD (dLs ns)] (.o (vD (dIs x))) (hbR bs (p + 1 + 1)) := by
  have hl := npR_len ns
  refine Fn.of_code Try.func69 rfl rfl (hbR_HB _ _) rfl rfl (hbR_HB _ _) rfl (hbR_num _ _ _) ?_
  refine ACode.seq ?_
  refine ACode.region ?_
  refine .cons (.asg rfl rfl) ?_
  refine .nil ?_
  refine ks_n ?_
  refine ACode.seq ?_
  refine ACode.region ?_
  refine .cons (.mv rfl rfl) ?_
  refine .cons (.cP [.tmp 10] rfl rfl rfl rfl (specNestPts_fn ns hs) rfl) ?_
  refine .cons (.mv rfl rfl) ?_
  refine .cons (.ex rfl rfl rfl) ?_
  refine .cons (.ex rfl rfl rfl) ?_
  refine .cons (.asg rfl rfl) ?_
  refine .cons (.asg rfl rfl) ?_
  refine .nil ?_
  refine ks_n ?_
  refine ACode.seq ?_
  refine ACode.seq ?_
  refine ACode.region ?_
  refine .cons (.mv rfl rfl) ?_
  refine .cons (.mv rfl rfl) ?_
  refine AOps.cases 15 _ rfl (fun g15 => ?_) (fun g15 => ?_)
  · try simp only [List.length_map, decide_eq_true_eq, decide_eq_false_iff_not, Bool.not_eq_true', Bool.not_eq_false', Bool.not_eq_true, Bool.not_eq_false] at g15
    refine .cons (.gT rfl rfl rfl (.mv rfl rfl)) ?_
    refine .cons (.gT rfl rfl rfl (.ln 28 1 24 rfl rfl rfl)) ?_
    refine .cons (.gT rfl rfl rfl (.gt rfl rfl rfl)) ?_
    refine .cons (.pT rfl rfl rfl) ?_
    refine .cons (.mv rfl rfl) ?_
    refine AOps.cases 20 _ rfl (fun g20 => ?_) (fun g20 => ?_)
    · try simp only [List.length_map, decide_eq_true_eq, decide_eq_false_iff_not, Bool.not_eq_true', Bool.not_eq_false', Bool.not_eq_true, Bool.not_eq_false] at g20
      refine .cons (.gT rfl rfl rfl (.mv rfl rfl)) ?_
      refine .cons (.gT rfl rfl rfl (.cR [.tmp 21, .const (.int .i64 (3))] 0 rfl rfl rfl rfl (pick_fn hb (by omega) 3) rfl ⟨rfl, trivial⟩)) ?_
      refine .cons (.gT rfl rfl rfl (.gt rfl rfl rfl)) ?_
      refine .cons (.pT rfl rfl rfl) ?_
      refine .nil ?_
      refine ks_n ?_
      refine ACode.condT rfl (fun h24 => ?_) (fun h24 => ?_)
      · try simp only [List.length_map, decide_eq_true_eq, decide_eq_false_iff_not, Bool.not_eq_true', Bool.not_eq_false', Bool.not_eq_true, Bool.not_eq_false] at h24
        refine ACode.seq ?_
        refine ACode.region ?_
        refine .cons (.mv rfl rfl) ?_
        refine .cons (.mv rfl rfl) ?_
        refine .cons (.mv rfl rfl) ?_
        refine .cons (.ln 28 1 24 rfl rfl rfl) ?_
        refine .cons (.cR [.tmp 26, .tmp 28] 0 rfl rfl rfl rfl (pick_fn hb (by omega) _) rfl ⟨rfl, trivial⟩) ?_
        refine .cons (.xL 28 1 24 (i := (pickV bs (p + 1) ((npR ns).length : Nat)).toNat) rfl rfl rfl rfl (by have h := pickV_bd hb (show p + 1 ≤ 1099511627776 by omega) ((npR ns).length : Nat); have h1 := h.1; have h2 := h.2 (by omega); omega) (map_at hx)) ?_
        refine .cons (.l1 1 rfl rfl) ?_
        refine .cons (.asg rfl rfl) ?_
        refine .nil ?_
        refine ks_n ?_
        refine ACode.ret ?_
        refine ks_r ?_
        refine kf_wret [(.t 4, .v (.o (vD (dIs x)))), (.b 0, .b 105 2 (dR ([rRd bs (p + 1 + 1)]))), (.u 0, .u)] (Wk.keep [(0, 0)] rfl rfl ⟨ks rfl .dt, kb 0 rfl (.dt rfl), trivial⟩) rfl ?_ (hbR_box rfl)
        rfl
      · try simp only [List.length_map, decide_eq_true_eq, decide_eq_false_iff_not, Bool.not_eq_true', Bool.not_eq_false', Bool.not_eq_true, Bool.not_eq_false] at h24
        omega
    · try simp only [List.length_map, decide_eq_true_eq, decide_eq_false_iff_not, Bool.not_eq_true', Bool.not_eq_false', Bool.not_eq_true, Bool.not_eq_false] at g20
      omega
  · try simp only [List.length_map, decide_eq_true_eq, decide_eq_false_iff_not, Bool.not_eq_true', Bool.not_eq_false', Bool.not_eq_true, Bool.not_eq_false] at g15
    rw [ho] at g15; cases g15

set_option maxRecDepth 100000 in
set_option maxHeartbeats 1600000 in
theorem spot_newA {bs : List Int} (hb : Bytes bs) {p : Nat} (hp : p ≤ 100000000) {ns : List Lp} (hs : smN ns) (ho : okP ns = true) (hn0 : 0 < (npR ns).length) (hk : ¬ 0 < pickV bs p 3) : Fn Try.prog 69 (hbR bs p) [vR, vD (dLs ns)] (.o (vD (dIs (spotF bs (p + 1) ns.length).1))) (hbR bs (spotF bs (p + 1) ns.length).2) := by
  have hl := npR_len ns
  have hns := hs.1
  obtain ⟨r, hr⟩ : ∃ r, r = spotF bs (p + 1) ns.length := ⟨_, rfl⟩
  rw [← hr]
  refine Fn.of_code Try.func69 rfl rfl (hbR_HB _ _) rfl rfl (hbR_HB _ _) rfl (hbR_num _ _ _) ?_
  refine ACode.seq ?_
  refine ACode.region ?_
  refine .cons (.asg rfl rfl) ?_
  refine .nil ?_
  refine ks_n ?_
  refine ACode.seq ?_
  refine ACode.region ?_
  refine .cons (.mv rfl rfl) ?_
  refine .cons (.cP [.tmp 10] rfl rfl rfl rfl (specNestPts_fn ns hs) rfl) ?_
  refine .cons (.mv rfl rfl) ?_
  refine .cons (.ex rfl rfl rfl) ?_
  refine .cons (.ex rfl rfl rfl) ?_
  refine .cons (.asg rfl rfl) ?_
  refine .cons (.asg rfl rfl) ?_
  refine .nil ?_
  refine ks_n ?_
  refine ACode.seq ?_
  refine ACode.seq ?_
  refine ACode.region ?_
  refine .cons (.mv rfl rfl) ?_
  refine .cons (.mv rfl rfl) ?_
  refine AOps.cases 15 _ rfl (fun g15 => ?_) (fun g15 => ?_)
  · try simp only [List.length_map, decide_eq_true_eq, decide_eq_false_iff_not, Bool.not_eq_true', Bool.not_eq_false', Bool.not_eq_true, Bool.not_eq_false] at g15
    refine .cons (.gT rfl rfl rfl (.mv rfl rfl)) ?_
    refine .cons (.gT rfl rfl rfl (.ln 28 1 24 rfl rfl rfl)) ?_
    refine .cons (.gT rfl rfl rfl (.gt rfl rfl rfl)) ?_
    refine .cons (.pT rfl rfl rfl) ?_
    refine .cons (.mv rfl rfl) ?_
    refine AOps.cases 20 _ rfl (fun g20 => ?_) (fun g20 => ?_)
    · try simp only [List.length_map, decide_eq_true_eq, decide_eq_false_iff_not, Bool.not_eq_true', Bool.not_eq_false', Bool.not_eq_true, Bool.not_eq_false] at g20
      refine .cons (.gT rfl rfl rfl (.mv rfl rfl)) ?_
      refine .cons (.gT rfl rfl rfl (.cR [.tmp 21, .const (.int .i64 (3))] 0 rfl rfl rfl rfl (pick_fn hb (by omega) 3) rfl ⟨rfl, trivial⟩)) ?_
      refine .cons (.gT rfl rfl rfl (.gt rfl rfl rfl)) ?_
      refine .cons (.pT rfl rfl rfl) ?_
      refine .nil ?_
      refine ks_n ?_
      refine ACode.condT rfl (fun h24 => ?_) (fun h24 => ?_)
      · try simp only [List.length_map, decide_eq_true_eq, decide_eq_false_iff_not, Bool.not_eq_true', Bool.not_eq_false', Bool.not_eq_true, Bool.not_eq_false] at h24
        omega
      · try simp only [List.length_map, decide_eq_true_eq, decide_eq_false_iff_not, Bool.not_eq_true', Bool.not_eq_false', Bool.not_eq_true, Bool.not_eq_false] at h24
        refine ACode.skip ?_
        refine ks_n ?_
        refine ACode.seq ?_
        refine ACode.region ?_
        refine .cons (St1.lit0 (k' := 132) (e := 3) (sz := 1) (b := true) rfl rfl rfl rfl (by kernel_rfl) rfl rfl) ?_
        refine .cons (.asg rfl rfl) ?_
        refine .nil ?_
        refine ks_n ?_
        refine ACode.seq ?_
        refine ACode.seq ?_
        refine ACode.region ?_
        refine .cons (.asg rfl rfl) ?_
        refine .nil ?_
        refine ks_n ?_
        refine ACode.block ?_
        refine .loopK (fun m σ => (∃ (i : Nat) (xs : List Int), m = ns.length - i ∧ (i ≤ ns.length) ∧ (xs.length = i) ∧ (spotE bs (ns.length - i) xs ((p + 1) + i) = spotE bs ns.length [] (p + 1)) ∧ σ = [(.t 0, .v (.o (.c (.box 0 2 0 0)))), (.t 1, .v (.o (vD (dLs ns)))), (.t 7, .v (.o (.c (.own 110 1 (xs.length))))), (.t 8, .v (.o (nat1 (i : Nat)))), (.b 0, .b 105 2 (dR ([rRd bs ((p + 1) + i)]))), (.u 0, .u), (.b 110, .b 3 1 (dR (xs.map rI))), (.u 110, .u)])) [(0, 0), (110, 132)] ⟨0, [], rfl, (by omega), rfl, rfl, rfl⟩ ⟨ks rfl (.c .bx), ks rfl .dt, ks rfl (.c .ow), ks rfl .dt, kb 0 rfl (.dt rfl), kb 132 rfl (.dt rfl (by first | rfl | (simp [dR]; done) | (simp [dR]; rfl))), trivial⟩ ?_
        rintro m σ ⟨i, xs, hm0, hi, hl2, hE, rfl⟩
        refine ACode.seq ?_
        refine ACode.seq ?_
        refine ACode.region ?_
        refine .cons (.mv rfl rfl) ?_
        refine .cons (.mv rfl rfl) ?_
        refine .cons (.ln 67 2 48 rfl rfl rfl) ?_
        refine .cons (.ls rfl rfl rfl) ?_
        refine .nil ?_
        refine ks_n ?_
        refine .cD rfl (fun h36 => ?_) (fun h36 => ?_)
        · skip
          refine ACode.skip ?_
          refine ks_n ?_
          refine ACode.seq ?_
          refine ACode.block ?_
          refine ACode.region ?_
          refine .cons (.mv rfl rfl) ?_
          refine .cons (.mv rfl rfl) ?_
          refine .cons (.li 3 0 5 [.const (.int .i64 (0)), .const (.int .i64 (1)), .const (.int .i64 (2)), .const (.int .i64 (3)), .const (.int .i64 (-1)), .const (.int .i64 (9999))] rfl rfl rfl rfl rfl rfl) ?_
          refine .cons (.cR [.tmp 40, .tmp 41] 0 rfl rfl rfl rfl (num_fn hb (by omega) [0, 1, 2, 3, -1, 9999] (by simp)) rfl ⟨rfl, trivial⟩) ?_
          refine .cons (.li 3 0 0 [.tmp 42] rfl rfl rfl rfl rfl rfl) ?_
          refine .cons (St1.appB (k' := 144) (e := 3) (sz := 0) (by' := 8) rfl rfl rfl rfl rfl (by kernel_rfl) rfl rfl rfl rfl (by simp [dR]) (by simp [dR]; omega) rfl rfl rfl) ?_
          refine .cons (.asg rfl rfl) ?_
          refine .nil ?_
          refine kb_n ?_
          refine ks_n ?_
          refine ACode.region ?_
          refine .cons (.mv rfl rfl) ?_
          refine .cons (.pl rfl rfl rfl) ?_
          refine .cons (.asg rfl rfl) ?_
          refine .nil ?_
          refine kl_k [(0, 0), (110, 144)] ⟨i + 1, xs ++ [numV bs ((p + 1) + i) [0, 1, 2, 3, -1, 9999]], rfl, by omega, by simp; omega, by rw [← hE, show ns.length - i = (ns.length - (i + 1)) + 1 by omega]; rfl, rfl⟩ ⟨ks rfl (.c .bx), ks rfl .dt, ks rfl (.c .ow), ks rfl .dt, kb 0 rfl (.dt rfl), kb 144 rfl (.dt rfl (by first | rfl | (simp [dR]; done) | (simp [dR]; rfl))), trivial⟩
        · skip
          obtain rfl : i = ns.length := by omega
          rw [Nat.sub_self] at hE
          have hE2 : spotE bs ns.length [] (p + 1) = (xs, (p + 1) + ns.length) := hE.symm
          refine ACode.exit ?_
          refine ks_e ?_
          refine kl_e ?_
          refine kb_hit ?_
          refine ks_n ?_
          refine ACode.seq ?_
          refine ACode.seq ?_
          refine ACode.region ?_
          refine .cons (.mv rfl rfl) ?_
          refine .cons (.cR [.tmp 45, .const (.int .i64 (12))] 0 rfl rfl rfl rfl (pick_fn hb (by omega) 12) rfl ⟨rfl, trivial⟩) ?_
          refine .cons (.eq rfl rfl rfl) ?_
          refine .nil ?_
          refine ks_n ?_
          refine .cD rfl (fun h47 => ?_) (fun h47 => ?_)
          · skip
            have hr2 : r = (xs ++ [0], (p + 1) + ns.length + 1) := by rw [hr, spotF, hE2, if_pos h47]
            subst hr2
            refine ACode.region ?_
            refine .cons (.mv rfl rfl) ?_
            refine .cons (.li 3 0 0 [.const (.int .i64 (0))] rfl rfl rfl rfl rfl rfl) ?_
            refine .cons (St1.appB (k' := 150) (e := 3) (sz := 0) (by' := 8) rfl rfl rfl rfl rfl (by kernel_rfl) rfl rfl rfl rfl (by simp [dR]) (by simp [dR]; omega) rfl rfl rfl) ?_
            refine .cons (.asg rfl rfl) ?_
            refine .nil ?_
            refine ks_n ?_
            refine ACode.seq ?_
            refine ACode.region ?_
            refine .cons (.mv rfl rfl) ?_
            refine .cons (.asg rfl rfl) ?_
            refine .nil ?_
            refine ks_n ?_
            refine ACode.ret ?_
            refine kf_wret [(.t 4, .v (.o (vD (dIs (xs ++ [0]))))), (.b 0, .b 105 2 (dR ([rRd bs ((p + 1) + ns.length + 1)]))), (.u 0, .u)] (Wk.keep [(0, 0)] rfl rfl ⟨ks rfl (.c (.fz rfl (by first | rfl | (simp [dR]; done) | (simp [dR]; rfl)) (by simp) (by first | (simp; omega) | omega))), kb 0 rfl (.dt rfl), trivial⟩) rfl ?_ (hbR_box rfl)
            rfl
          · skip
            have hr2 : r = (xs, (p + 1) + ns.length + 1) := by rw [hr, spotF, hE2, if_neg h47]
            subst hr2
            refine ACode.skip ?_
            refine ks_n ?_
            refine ACode.seq ?_
            refine ACode.region ?_
            refine .cons (.mv rfl rfl) ?_
            refine .cons (.asg rfl rfl) ?_
            refine .nil ?_
            refine ks_n ?_
            refine ACode.ret ?_
            refine kf_wret [(.t 4, .v (.o (vD (dIs (xs))))), (.b 0, .b 105 2 (dR ([rRd bs ((p + 1) + ns.length + 1)]))), (.u 0, .u)] (Wk.keep [(0, 0)] rfl rfl ⟨ks rfl (.c (.fz rfl (by first | rfl | (simp [dR]; done) | (simp [dR]; rfl)) (by simp) (by first | (simp; omega) | omega))), kb 0 rfl (.dt rfl), trivial⟩) rfl ?_ (hbR_box rfl)
            rfl
    · try simp only [List.length_map, decide_eq_true_eq, decide_eq_false_iff_not, Bool.not_eq_true', Bool.not_eq_false', Bool.not_eq_true, Bool.not_eq_false] at g20
      omega
  · try simp only [List.length_map, decide_eq_true_eq, decide_eq_false_iff_not, Bool.not_eq_true', Bool.not_eq_false', Bool.not_eq_true, Bool.not_eq_false] at g15
    rw [ho] at g15; cases g15

set_option maxRecDepth 100000 in
set_option maxHeartbeats 1600000 in
theorem spot_newB {bs : List Int} (hb : Bytes bs) {p : Nat} (hp : p ≤ 100000000) {ns : List Lp} (hs : smN ns) (hno : ¬ (okP ns = true ∧ 0 < (npR ns).length)) : Fn Try.prog 69 (hbR bs p) [vR, vD (dLs ns)] (.o (vD (dIs (spotF bs p ns.length).1))) (hbR bs (spotF bs p ns.length).2) := by
  have hl := npR_len ns
  have hns := hs.1
  obtain ⟨r, hr⟩ : ∃ r, r = spotF bs p ns.length := ⟨_, rfl⟩
  rw [← hr]
  refine Fn.of_code Try.func69 rfl rfl (hbR_HB _ _) rfl rfl (hbR_HB _ _) rfl (hbR_num _ _ _) ?_
  refine ACode.seq ?_
  refine ACode.region ?_
  refine .cons (.asg rfl rfl) ?_
  refine .nil ?_
  refine ks_n ?_
  refine ACode.seq ?_
  refine ACode.region ?_
  refine .cons (.mv rfl rfl) ?_
  refine .cons (.cP [.tmp 10] rfl rfl rfl rfl (specNestPts_fn ns hs) rfl) ?_
  refine .cons (.mv rfl rfl) ?_
  refine .cons (.ex rfl rfl rfl) ?_
  refine .cons (.ex rfl rfl rfl) ?_
  refine .cons (.asg rfl rfl) ?_
  refine .cons (.asg rfl rfl) ?_
  refine .nil ?_
  refine ks_n ?_
  refine ACode.seq ?_
  refine ACode.seq ?_
  refine ACode.region ?_
  refine .cons (.mv rfl rfl) ?_
  refine .cons (.mv rfl rfl) ?_
  refine AOps.cases 15 _ rfl (fun g15 => ?_) (fun g15 => ?_)
  · try simp only [List.length_map, decide_eq_true_eq, decide_eq_false_iff_not, Bool.not_eq_true', Bool.not_eq_false', Bool.not_eq_true, Bool.not_eq_false] at g15
    refine .cons (.gT rfl rfl rfl (.mv rfl rfl)) ?_
    refine .cons (.gT rfl rfl rfl (.ln 28 1 24 rfl rfl rfl)) ?_
    refine .cons (.gT rfl rfl rfl (.gt rfl rfl rfl)) ?_
    refine .cons (.pT rfl rfl rfl) ?_
    refine .cons (.mv rfl rfl) ?_
    refine AOps.cases 20 _ rfl (fun g20 => ?_) (fun g20 => ?_)
    · try simp only [List.length_map, decide_eq_true_eq, decide_eq_false_iff_not, Bool.not_eq_true', Bool.not_eq_false', Bool.not_eq_true, Bool.not_eq_false] at g20
      exact absurd ⟨g15, by omega⟩ hno
    · try simp only [List.length_map, decide_eq_true_eq, decide_eq_false_iff_not, Bool.not_eq_true', Bool.not_eq_false', Bool.not_eq_true, Bool.not_eq_false] at g20
      refine .cons (.gF rfl rfl rfl) ?_
      refine .cons (.gF rfl rfl rfl) ?_
      refine .cons (.gF rfl rfl rfl) ?_
      refine .cons (.pF rfl rfl rfl) ?_
      refine .nil ?_
      refine ks_n ?_
      refine ACode.condT rfl (fun h => by first | (cases h; done) | (simp [*] at h; done) | (exfalso; simp_all; done)) (fun _ => ?_)
      refine ACode.skip ?_
      refine ks_n ?_
      refine ACode.seq ?_
      refine ACode.region ?_
      refine .cons (St1.lit0 (k' := 132) (e := 3) (sz := 1) (b := true) rfl rfl rfl rfl (by kernel_rfl) rfl rfl) ?_
      refine .cons (.asg rfl rfl) ?_
      refine .nil ?_
      refine ks_n ?_
      refine ACode.seq ?_
      refine ACode.seq ?_
      refine ACode.region ?_
      refine .cons (.asg rfl rfl) ?_
      refine .nil ?_
      refine ks_n ?_
      refine ACode.block ?_
      refine .loopK (fun m σ => (∃ (i : Nat) (xs : List Int), m = ns.length - i ∧ (i ≤ ns.length) ∧ (xs.length = i) ∧ (spotE bs (ns.length - i) xs (p + i) = spotE bs ns.length [] p) ∧ σ = [(.t 0, .v (.o (.c (.box 0 2 0 0)))), (.t 1, .v (.o (vD (dLs ns)))), (.t 7, .v (.o (.c (.own 110 1 (xs.length))))), (.t 8, .v (.o (nat1 (i : Nat)))), (.b 0, .b 105 2 (dR ([rRd bs (p + i)]))), (.u 0, .u), (.b 110, .b 3 1 (dR (xs.map rI))), (.u 110, .u)])) [(0, 0), (110, 132)] ⟨0, [], rfl, (by omega), rfl, rfl, rfl⟩ ⟨ks rfl (.c .bx), ks rfl .dt, ks rfl (.c .ow), ks rfl .dt, kb 0 rfl (.dt rfl), kb 132 rfl (.dt rfl (by first | rfl | (simp [dR]; done) | (simp [dR]; rfl))), trivial⟩ ?_
      rintro m σ ⟨i, xs, hm0, hi, hl2, hE, rfl⟩
      refine ACode.seq ?_
      refine ACode.seq ?_
      refine ACode.region ?_
      refine .cons (.mv rfl rfl) ?_
      refine .cons (.mv rfl rfl) ?_
      refine .cons (.ln 67 2 48 rfl rfl rfl) ?_
      refine .cons (.ls rfl rfl rfl) ?_
      refine .nil ?_
      refine ks_n ?_
      refine .cD rfl (fun h36 => ?_) (fun h36 => ?_)
      · skip
        refine ACode.skip ?_
        refine ks_n ?_
        refine ACode.seq ?_
        refine ACode.block ?_
        refine ACode.region ?_
        refine .cons (.mv rfl rfl) ?_
        refine .cons (.mv rfl rfl) ?_
        refine .cons (.li 3 0 5 [.const (.int .i64 (0)), .const (.int .i64 (1)), .const (.int .i64 (2)), .const (.int .i64 (3)), .const (.int .i64 (-1)), .const (.int .i64 (9999))] rfl rfl rfl rfl rfl rfl) ?_
        refine .cons (.cR [.tmp 40, .tmp 41] 0 rfl rfl rfl rfl (num_fn hb (by omega) [0, 1, 2, 3, -1, 9999] (by simp)) rfl ⟨rfl, trivial⟩) ?_
        refine .cons (.li 3 0 0 [.tmp 42] rfl rfl rfl rfl rfl rfl) ?_
        refine .cons (St1.appB (k' := 144) (e := 3) (sz := 0) (by' := 8) rfl rfl rfl rfl rfl (by kernel_rfl) rfl rfl rfl rfl (by simp [dR]) (by simp [dR]; omega) rfl rfl rfl) ?_
        refine .cons (.asg rfl rfl) ?_
        refine .nil ?_
        refine kb_n ?_
        refine ks_n ?_
        refine ACode.region ?_
        refine .cons (.mv rfl rfl) ?_
        refine .cons (.pl rfl rfl rfl) ?_
        refine .cons (.asg rfl rfl) ?_
        refine .nil ?_
        refine kl_k [(0, 0), (110, 144)] ⟨i + 1, xs ++ [numV bs (p + i) [0, 1, 2, 3, -1, 9999]], rfl, by omega, by simp; omega, by rw [← hE, show ns.length - i = (ns.length - (i + 1)) + 1 by omega]; rfl, rfl⟩ ⟨ks rfl (.c .bx), ks rfl .dt, ks rfl (.c .ow), ks rfl .dt, kb 0 rfl (.dt rfl), kb 144 rfl (.dt rfl (by first | rfl | (simp [dR]; done) | (simp [dR]; rfl))), trivial⟩
      · skip
        obtain rfl : i = ns.length := by omega
        rw [Nat.sub_self] at hE
        have hE2 : spotE bs ns.length [] p = (xs, p + ns.length) := hE.symm
        refine ACode.exit ?_
        refine ks_e ?_
        refine kl_e ?_
        refine kb_hit ?_
        refine ks_n ?_
        refine ACode.seq ?_
        refine ACode.seq ?_
        refine ACode.region ?_
        refine .cons (.mv rfl rfl) ?_
        refine .cons (.cR [.tmp 45, .const (.int .i64 (12))] 0 rfl rfl rfl rfl (pick_fn hb (by omega) 12) rfl ⟨rfl, trivial⟩) ?_
        refine .cons (.eq rfl rfl rfl) ?_
        refine .nil ?_
        refine ks_n ?_
        refine .cD rfl (fun h47 => ?_) (fun h47 => ?_)
        · skip
          have hr2 : r = (xs ++ [0], p + ns.length + 1) := by rw [hr, spotF, hE2, if_pos h47]
          subst hr2
          refine ACode.region ?_
          refine .cons (.mv rfl rfl) ?_
          refine .cons (.li 3 0 0 [.const (.int .i64 (0))] rfl rfl rfl rfl rfl rfl) ?_
          refine .cons (St1.appB (k' := 150) (e := 3) (sz := 0) (by' := 8) rfl rfl rfl rfl rfl (by kernel_rfl) rfl rfl rfl rfl (by simp [dR]) (by simp [dR]; omega) rfl rfl rfl) ?_
          refine .cons (.asg rfl rfl) ?_
          refine .nil ?_
          refine ks_n ?_
          refine ACode.seq ?_
          refine ACode.region ?_
          refine .cons (.mv rfl rfl) ?_
          refine .cons (.asg rfl rfl) ?_
          refine .nil ?_
          refine ks_n ?_
          refine ACode.ret ?_
          refine kf_wret [(.t 4, .v (.o (vD (dIs (xs ++ [0]))))), (.b 0, .b 105 2 (dR ([rRd bs (p + ns.length + 1)]))), (.u 0, .u)] (Wk.keep [(0, 0)] rfl rfl ⟨ks rfl (.c (.fz rfl (by first | rfl | (simp [dR]; done) | (simp [dR]; rfl)) (by simp) (by first | (simp; omega) | omega))), kb 0 rfl (.dt rfl), trivial⟩) rfl ?_ (hbR_box rfl)
          rfl
        · skip
          have hr2 : r = (xs, p + ns.length + 1) := by rw [hr, spotF, hE2, if_neg h47]
          subst hr2
          refine ACode.skip ?_
          refine ks_n ?_
          refine ACode.seq ?_
          refine ACode.region ?_
          refine .cons (.mv rfl rfl) ?_
          refine .cons (.asg rfl rfl) ?_
          refine .nil ?_
          refine ks_n ?_
          refine ACode.ret ?_
          refine kf_wret [(.t 4, .v (.o (vD (dIs (xs))))), (.b 0, .b 105 2 (dR ([rRd bs (p + ns.length + 1)]))), (.u 0, .u)] (Wk.keep [(0, 0)] rfl rfl ⟨ks rfl (.c (.fz rfl (by first | rfl | (simp [dR]; done) | (simp [dR]; rfl)) (by simp) (by first | (simp; omega) | omega))), kb 0 rfl (.dt rfl), trivial⟩) rfl ?_ (hbR_box rfl)
          rfl
  · try simp only [List.length_map, decide_eq_true_eq, decide_eq_false_iff_not, Bool.not_eq_true', Bool.not_eq_false', Bool.not_eq_true, Bool.not_eq_false] at g15
    refine .cons (.gF rfl rfl rfl) ?_
    refine .cons (.gF rfl rfl rfl) ?_
    refine .cons (.gF rfl rfl rfl) ?_
    refine .cons (.pF rfl rfl rfl) ?_
    refine .cons (.mv rfl rfl) ?_
    refine .cons (.gF rfl rfl rfl) ?_
    refine .cons (.gF rfl rfl rfl) ?_
    refine .cons (.gF rfl rfl rfl) ?_
    refine .cons (.pF rfl rfl rfl) ?_
    refine .nil ?_
    refine ks_n ?_
    refine ACode.condT rfl (fun h => by first | (cases h; done) | (simp [*] at h; done) | (exfalso; simp_all; done)) (fun _ => ?_)
    refine ACode.skip ?_
    refine ks_n ?_
    refine ACode.seq ?_
    refine ACode.region ?_
    refine .cons (St1.lit0 (k' := 132) (e := 3) (sz := 1) (b := true) rfl rfl rfl rfl (by kernel_rfl) rfl rfl) ?_
    refine .cons (.asg rfl rfl) ?_
    refine .nil ?_
    refine ks_n ?_
    refine ACode.seq ?_
    refine ACode.seq ?_
    refine ACode.region ?_
    refine .cons (.asg rfl rfl) ?_
    refine .nil ?_
    refine ks_n ?_
    refine ACode.block ?_
    refine .loopK (fun m σ => (∃ (i : Nat) (xs : List Int), m = ns.length - i ∧ (i ≤ ns.length) ∧ (xs.length = i) ∧ (spotE bs (ns.length - i) xs (p + i) = spotE bs ns.length [] p) ∧ σ = [(.t 0, .v (.o (.c (.box 0 2 0 0)))), (.t 1, .v (.o (vD (dLs ns)))), (.t 7, .v (.o (.c (.own 110 1 (xs.length))))), (.t 8, .v (.o (nat1 (i : Nat)))), (.b 0, .b 105 2 (dR ([rRd bs (p + i)]))), (.u 0, .u), (.b 110, .b 3 1 (dR (xs.map rI))), (.u 110, .u)])) [(0, 0), (110, 132)] ⟨0, [], rfl, (by omega), rfl, rfl, rfl⟩ ⟨ks rfl (.c .bx), ks rfl .dt, ks rfl (.c .ow), ks rfl .dt, kb 0 rfl (.dt rfl), kb 132 rfl (.dt rfl (by first | rfl | (simp [dR]; done) | (simp [dR]; rfl))), trivial⟩ ?_
    rintro m σ ⟨i, xs, hm0, hi, hl2, hE, rfl⟩
    refine ACode.seq ?_
    refine ACode.seq ?_
    refine ACode.region ?_
    refine .cons (.mv rfl rfl) ?_
    refine .cons (.mv rfl rfl) ?_
    refine .cons (.ln 67 2 48 rfl rfl rfl) ?_
    refine .cons (.ls rfl rfl rfl) ?_
    refine .nil ?_
    refine ks_n ?_
    refine .cD rfl (fun h36 => ?_) (fun h36 => ?_)
    · skip
      refine ACode.skip ?_
      refine ks_n ?_
      refine ACode.seq ?_
      refine ACode.block ?_
      refine ACode.region ?_
      refine .cons (.mv rfl rfl) ?_
      refine .cons (.mv rfl rfl) ?_
      refine .cons (.li 3 0 5 [.const (.int .i64 (0)), .const (.int .i64 (1)), .const (.int .i64 (2)), .const (.int .i64 (3)), .const (.int .i64 (-1)), .const (.int .i64 (9999))] rfl rfl rfl rfl rfl rfl) ?_
      refine .cons (.cR [.tmp 40, .tmp 41] 0 rfl rfl rfl rfl (num_fn hb (by omega) [0, 1, 2, 3, -1, 9999] (by simp)) rfl ⟨rfl, trivial⟩) ?_
      refine .cons (.li 3 0 0 [.tmp 42] rfl rfl rfl rfl rfl rfl) ?_
      refine .cons (St1.appB (k' := 144) (e := 3) (sz := 0) (by' := 8) rfl rfl rfl rfl rfl (by kernel_rfl) rfl rfl rfl rfl (by simp [dR]) (by simp [dR]; omega) rfl rfl rfl) ?_
      refine .cons (.asg rfl rfl) ?_
      refine .nil ?_
      refine kb_n ?_
      refine ks_n ?_
      refine ACode.region ?_
      refine .cons (.mv rfl rfl) ?_
      refine .cons (.pl rfl rfl rfl) ?_
      refine .cons (.asg rfl rfl) ?_
      refine .nil ?_
      refine kl_k [(0, 0), (110, 144)] ⟨i + 1, xs ++ [numV bs (p + i) [0, 1, 2, 3, -1, 9999]], rfl, by omega, by simp; omega, by rw [← hE, show ns.length - i = (ns.length - (i + 1)) + 1 by omega]; rfl, rfl⟩ ⟨ks rfl (.c .bx), ks rfl .dt, ks rfl (.c .ow), ks rfl .dt, kb 0 rfl (.dt rfl), kb 144 rfl (.dt rfl (by first | rfl | (simp [dR]; done) | (simp [dR]; rfl))), trivial⟩
    · skip
      obtain rfl : i = ns.length := by omega
      rw [Nat.sub_self] at hE
      have hE2 : spotE bs ns.length [] p = (xs, p + ns.length) := hE.symm
      refine ACode.exit ?_
      refine ks_e ?_
      refine kl_e ?_
      refine kb_hit ?_
      refine ks_n ?_
      refine ACode.seq ?_
      refine ACode.seq ?_
      refine ACode.region ?_
      refine .cons (.mv rfl rfl) ?_
      refine .cons (.cR [.tmp 45, .const (.int .i64 (12))] 0 rfl rfl rfl rfl (pick_fn hb (by omega) 12) rfl ⟨rfl, trivial⟩) ?_
      refine .cons (.eq rfl rfl rfl) ?_
      refine .nil ?_
      refine ks_n ?_
      refine .cD rfl (fun h47 => ?_) (fun h47 => ?_)
      · skip
        have hr2 : r = (xs ++ [0], p + ns.length + 1) := by rw [hr, spotF, hE2, if_pos h47]
        subst hr2
        refine ACode.region ?_
        refine .cons (.mv rfl rfl) ?_
        refine .cons (.li 3 0 0 [.const (.int .i64 (0))] rfl rfl rfl rfl rfl rfl) ?_
        refine .cons (St1.appB (k' := 150) (e := 3) (sz := 0) (by' := 8) rfl rfl rfl rfl rfl (by kernel_rfl) rfl rfl rfl rfl (by simp [dR]) (by simp [dR]; omega) rfl rfl rfl) ?_
        refine .cons (.asg rfl rfl) ?_
        refine .nil ?_
        refine ks_n ?_
        refine ACode.seq ?_
        refine ACode.region ?_
        refine .cons (.mv rfl rfl) ?_
        refine .cons (.asg rfl rfl) ?_
        refine .nil ?_
        refine ks_n ?_
        refine ACode.ret ?_
        refine kf_wret [(.t 4, .v (.o (vD (dIs (xs ++ [0]))))), (.b 0, .b 105 2 (dR ([rRd bs (p + ns.length + 1)]))), (.u 0, .u)] (Wk.keep [(0, 0)] rfl rfl ⟨ks rfl (.c (.fz rfl (by first | rfl | (simp [dR]; done) | (simp [dR]; rfl)) (by simp) (by first | (simp; omega) | omega))), kb 0 rfl (.dt rfl), trivial⟩) rfl ?_ (hbR_box rfl)
        rfl
      · skip
        have hr2 : r = (xs, p + ns.length + 1) := by rw [hr, spotF, hE2, if_neg h47]
        subst hr2
        refine ACode.skip ?_
        refine ks_n ?_
        refine ACode.seq ?_
        refine ACode.region ?_
        refine .cons (.mv rfl rfl) ?_
        refine .cons (.asg rfl rfl) ?_
        refine .nil ?_
        refine ks_n ?_
        refine ACode.ret ?_
        refine kf_wret [(.t 4, .v (.o (vD (dIs (xs))))), (.b 0, .b 105 2 (dR ([rRd bs (p + ns.length + 1)]))), (.u 0, .u)] (Wk.keep [(0, 0)] rfl rfl ⟨ks rfl (.c (.fz rfl (by first | rfl | (simp [dR]; done) | (simp [dR]; rfl)) (by simp) (by first | (simp; omega) | omega))), kb 0 rfl (.dt rfl), trivial⟩) rfl ?_ (hbR_box rfl)
        rfl

end Go.Proofs.Ytgcpdpbapgkdjaa

/- From a law's contract over data to its run at slices of bytes; condition: what the slices hold. -/
namespace Go.Proofs.Ytgcpdpbapgkdjaa
set_option linter.unusedVariables false
set_option linter.unusedSimpArgs false
open Go.RowKit

theorem ys_dr {B : Nat → Prop} {w : World} {v : Value} {xs : List Int} (h : Sl Sh.byte B w v xs) : Dr B w (dYs xs) v := by
  obtain ⟨a, cap, rfl, h1, h2, h3, h4⟩ := h
  by_cases h0 : xs.length = 0
  · have : xs = [] := List.eq_nil_of_length_eq_zero h0
    subst this
    exact Dr.list 1 [] a 0 cap 0 0 (fun _ _ => undef) rfl (Nat.zero_le _) (Nat.zero_le _) h3 (fun h => absurd h (Nat.lt_irrefl _)) (fun i r h => by simp at h) (fun i r j x h => by simp at h) (fun i r j x h => by simp at h)
  · obtain ⟨b, off, cs, rfl, _⟩ := h4 0 xs[0] (List.getElem?_eq_getElem (by omega))
    have hr : ∀ (i : Nat) r, (xs.map rY)[i]? = some r → ∃ x, xs[i]? = some x ∧ r = rY x := fun i r hr => by
      rw [List.getElem?_map] at hr
      cases hx : xs[i]? with
      | none => rw [hx] at hr; cases hr
      | some x => rw [hx] at hr; cases hr; exact ⟨x, rfl, rfl⟩
    refine Dr.list 1 (xs.map rY) (some ⟨b, off, none⟩) xs.length cap b off (fun i _ => .int .u8 (xs.getD i 0)) (by rw [List.length_map]) h1 h2 (fun h => by cases h) (fun _ => rfl) (fun i r hi => ?_) (fun i r j y hi hj => ?_) (fun i r j y hi hj => ?_)
    · obtain ⟨x, _, rfl⟩ := hr i r hi; rfl
    all_goals
      obtain ⟨x, hx, rfl⟩ := hr i r hi
      have hj0 : j = 0 ∧ y = .val (.int .u8 x) := by
        cases j with
        | zero => simp [rY] at hj; exact ⟨rfl, hj.symm⟩
        | succ j => simp [rY] at hj
      obtain ⟨rfl, rfl⟩ := hj0
      have hg : xs.getD i 0 = x := by rw [List.getD, hx]; rfl
    · obtain ⟨b', off', cs, e, hb, hr', hc⟩ := h4 i x hx
      cases e
      have hr2 : cs = [.int .u8 x] := hr'
      subst hr2
      exact ⟨hb, by rw [hg]; exact hc 0 _ rfl⟩
    · show Dr B w (.val (.int .u8 x)) (.int .u8 (xs.getD i 0))
      rw [hg]; exact .val _ rfl
/-- A law that answers true, and turns nothing that was there. -/
abbrev Truth (P : Program) (f : FuncId) (vs : Array Value) (w : World) : Prop := Calls P f vs w fun e w' => e = .returned (.bool true) ∧ Below w.heap.size w w'
theorem Fn.truth {P : Program} {f : FuncId} {args : List V1} {vs : List Value} {w : World} {B : Nat → Prop} (h : Fn P f [] args (.o (bo1 true)) []) (hv : Vals (V1r (fun _ => (0, 0)) (Al (lk [])) B w) args vs) : Truth P f vs.toArray w := by
  have hno : ∀ k, ¬ Al (lk []) k := fun k ⟨e, sz, rows, h⟩ => by cases h
  refine (h B (fun _ => (0, 0)) w vs ⟨fun k e sz rows h => (by cases h), fun k l hk => (hno k hk).elim, fun k hk => (hno k hk).elim⟩ hv).mono ?_
  rintro e w' ⟨v, bx', rfl, hp⟩
  have hv : Dr _ w' (.val (.bool true)) v := hp.val
  cases hv
  exact ⟨rfl, hp.os, hp.tape, hp.output, hp.size, fun b hb => hp.old b hb fun k hk => (hno k hk).elim⟩
/-- A slice of bytes, as a law takes it. -/
structure Byt (w : World) (a : Option Addr) (n c : Nat) (bs : List Int) : Prop where
  sl : n ≤ 1048576 → Sl Sh.byte (fun b => b < w.heap.size) w (.slice a n c) bs
  bd : ∀ x ∈ bs, 0 ≤ x ∧ x ≤ 255
abbrev vX (a : Option Addr) (n c : Nat) : V1 := vD (.val (.slice a n c))
theorem bytes_take {bs : List Int} (h : ∀ x ∈ bs, 0 ≤ x ∧ x ≤ 255) : Bytes (bs.take 2000) := ⟨by rw [List.length_take]; omega, fun x hx => h x (List.mem_of_mem_take hx)⟩
theorem law1 {P : Program} {f : FuncId} {a : Option Addr} {n c : Nat} {bs : List Int} {w : World} (h : Byt w a n c bs) (hbig : 1048576 < n → Fn P f [] [vX a n c] (.o (bo1 true)) [])
    (hsm : bs.length ≤ 1048576 → Bytes (bs.take 2000) → Fn P f [] [vD (dYs bs)] (.o (bo1 true)) []) : Truth P f #[.slice a n c] w := by
  by_cases hn : 1048576 < n
  · exact (hbig hn).truth (vs := [_]) (B := fun _ => True) ⟨rfl, fun i x v hx hv => by
      match i, hx, hv with
      | 0, hx, hv => cases hx; cases hv; exact Dr.val _ rfl⟩
  · have hs := h.sl (by omega)
    have hl : bs.length = n := hs.len
    exact (hsm (by omega) (bytes_take h.bd)).truth (vs := [_]) ⟨rfl, fun i x v hx hv => by
      match i, hx, hv with
      | 0, hx, hv => cases hx; cases hv; exact ys_dr hs⟩
theorem law2 {P : Program} {f : FuncId} {a a2 : Option Addr} {n c n2 c2 : Nat} {bs bs2 : List Int} {w : World} (h : Byt w a n c bs) (h2 : Byt w a2 n2 c2 bs2) (hbig : 1048576 < n ∨ 1048576 < n2 → Fn P f [] [vX a n c, vX a2 n2 c2] (.o (bo1 true)) [])
    (hsm : bs.length ≤ 1048576 → bs2.length ≤ 1048576 → Bytes (bs.take 2000) → Bytes (bs2.take 2000) → Fn P f [] [vD (dYs bs), vD (dYs bs2)] (.o (bo1 true)) []) : Truth P f #[.slice a n c, .slice a2 n2 c2] w := by
  by_cases hn : 1048576 < n ∨ 1048576 < n2
  · exact (hbig hn).truth (vs := [_, _]) (B := fun _ => True) ⟨rfl, fun i x v hx hv => by
      match i, hx, hv with
      | 0, hx, hv => cases hx; cases hv; exact Dr.val _ rfl
      | 1, hx, hv => cases hx; cases hv; exact Dr.val _ rfl⟩
  · have hs := h.sl (by omega)
    have hs2 := h2.sl (by omega)
    have hl : bs.length = n := hs.len
    have hl2 : bs2.length = n2 := hs2.len
    exact (hsm (by omega) (by omega) (bytes_take h.bd) (bytes_take h2.bd)).truth (vs := [_, _]) ⟨rfl, fun i x v hx hv => by
      match i, hx, hv with
      | 0, hx, hv => cases hx; cases hv; exact ys_dr hs
      | 1, hx, hv => cases hx; cases hv; exact ys_dr hs2⟩
end Go.Proofs.Ytgcpdpbapgkdjaa

/- How an argument that is a slice of bytes is read; no condition. -/
namespace Go.Proofs.Ytgcpdpbapgkdjaa
set_option linter.unusedVariables false
set_option linter.unusedSimpArgs false
open Go.RowKit

theorem IsRow.bytes {w : World} {a : Option Addr} {n cap : Nat} {zs : List Int} (h : IsRow .u8 w a n cap zs) (hn : n ≤ 17592186044416) : Sl Sh.byte (fun b => b < w.heap.size) w (.slice a n cap) (zs.take n) := by
  rcases h with ⟨rfl, rfl, rfl, rfl⟩ | ⟨x, rfl, h1, _, h2, h3, _⟩
  · exact Sl.nil _ _ _
  · have hl : (zs.take n).length = n := by rw [List.length_take]; omega
    refine ⟨_, cap, by rw [hl], by rw [hl]; exact h1, by rw [hl]; exact hn, (fun e => by cases e), fun i y hy => ?_⟩
    have hi : i < n := by rw [← hl]; exact (List.getElem?_eq_some_iff.1 hy).1
    have hc := h3 i (by omega)
    obtain ⟨b, off, spot⟩ := x
    have hs : spot = none := by
      have h0 := h3 0 (by omega)
      simpa [Addr.add] using World.cell?_spot h0
    subst hs
    rw [Addr.add_lit] at hc
    rw [List.getElem?_take, if_pos hi] at hy
    rw [List.getD, hy] at hc
    refine ⟨b, off, [.int .u8 y], rfl, World.block_lt_of_cell? _ _ hc, rfl, fun j c hj => ?_⟩
    cases j with
    | succ j => simp at hj
    | zero =>
      simp only [List.getElem?_cons_zero, Option.some.injEq] at hj
      subst hj
      simpa [Sh.byte] using hc
theorem IsRow.bytesBd {w : World} {a : Option Addr} {n cap : Nat} {zs : List Int} (h : IsRow .u8 w a n cap zs) : ∀ x ∈ zs.take n, 0 ≤ x ∧ x ≤ 255 := by
  intro x hx
  have := h.wf x hx
  simp [Lit.wf, IntKind.min, IntKind.max, IntKind.bits, IntKind.signed] at this
  omega
end Go.Proofs.Ytgcpdpbapgkdjaa

/- Rectangular nests; condition: small nests. -/
namespace Go.Proofs.Ytgcpdpbapgkdjaa
set_option linter.unusedVariables false
set_option linter.unusedSimpArgs false
open Go.RowKit

theorem flat_no {x : Aff} (h : 0 < affDepth x) : flatA x = false := decide_eq_false (by omega)
theorem flat_yes {x : Aff} (h : ¬ 0 < affDepth x) : flatA x = true := decide_eq_true (by omega)
theorem flat_gt (x : Aff) : decide ((0 : Int) < (affDepth x : Nat)) = !flatA x := by
  rw [Bool.eq_iff_iff]; simp [flatA]; omega

set_option maxRecDepth 100000 in
set_option maxHeartbeats 1600000 in
theorem l2Flat_fn {l : Lp} (h : l.1.length ≤ 100 ∧ l.2.length ≤ 100) : Fn Try.prog 65 [] [ad (rL l)] (.o (bo1 (lpFlat l))) [] := by
  refine Fn.code0 Try.func65 rfl rfl rfl rfl ?_
  refine ACode.seq ?_
  refine ACode.region ?_
  refine .cons (St1.boxP rfl rfl rfl rfl rfl rfl) ?_
  refine .cons (.asg rfl rfl) ?_
  refine .nil ?_
  refine ks_n ?_
  refine ACode.seq ?_
  refine ACode.seq ?_
  refine ACode.region ?_
  refine .cons (.asg rfl rfl) ?_
  refine .nil ?_
  refine ks_n ?_
  refine ACode.block ?_
  refine .loopK (fun m σ => (∃ i : Nat, m = l.1.length - i ∧ (i ≤ l.1.length) ∧ (l.1.all flatA = (l.1.drop i).all flatA) ∧ σ = [(.t 1, .v (.o (.c (.ptr (rL l))))), (.t 3, .v (.o (nat1 (i : Nat))))])) [] ⟨0, rfl, by omega, by simp, rfl⟩ ⟨ks rfl .dt, ks rfl .dt, trivial⟩ ?_
  rintro m σ ⟨i, hm0, hi, hF, rfl⟩
  refine ACode.seq ?_
  refine ACode.seq ?_
  refine ACode.region ?_
  refine .cons (.mv rfl rfl) ?_
  refine .cons (.fP 0 0 false rfl rfl) ?_
  refine .cons (.l1 1 rfl rfl) ?_
  refine .cons (.ln 51 2 32 rfl rfl rfl) ?_
  refine .cons (.ls rfl rfl rfl) ?_
  refine .nil ?_
  refine ks_n ?_
  refine .cD rfl (fun h9 => ?_) (fun h9 => ?_)
  · skip
    obtain ⟨x, hx1⟩ : ∃ x, l.1[i]? = some x := ⟨_, List.getElem?_eq_getElem (by omega)⟩
    refine ACode.skip ?_
    refine ks_n ?_
    refine ACode.seq ?_
    refine ACode.block ?_
    refine ACode.seq ?_
    refine ACode.region ?_
    refine .cons (.fP 0 0 false rfl rfl) ?_
    refine .cons (.l1 1 rfl rfl) ?_
    refine .cons (.mv rfl rfl) ?_
    refine .cons (.xL 51 2 32 rfl rfl rfl rfl rfl) ?_
    refine .cons (.lN 2 rfl rfl rfl) ?_
    refine .cons (.cP [.tmp 16] rfl rfl rfl rfl (l1Depth_fn x) rfl) ?_
    refine .cons (.gt rfl rfl rfl) ?_
    refine .nil ?_
    refine ks_n ?_
    refine .cD rfl (fun h18 => ?_) (fun h18 => ?_)
    · skip
      refine ACode.seq ?_
      refine ACode.region ?_
      refine .cons (.asg rfl rfl) ?_
      refine .nil ?_
      refine ks_n ?_
      refine ACode.ret ?_
      refine kb_r ?_
      refine ks_r ?_
      refine kl_r ?_
      refine kb_r ?_
      refine ks_r ?_
      refine kf_ret rfl ?_ nobox
      exact leafB (by rw [lpFlat, hF, all_drop hx1, flat_no (by omega)]; rfl)
    · skip
      refine ACode.skip ?_
      refine kb_n ?_
      refine ks_n ?_
      refine ACode.region ?_
      refine .cons (.mv rfl rfl) ?_
      refine .cons (.pl rfl rfl rfl) ?_
      refine .cons (.asg rfl rfl) ?_
      refine .nil ?_
      refine kl_k [] ⟨i + 1, rfl, by omega, by rw [hF, all_drop hx1, flat_yes (by omega), Bool.true_and], rfl⟩ ⟨ks rfl .dt, ks rfl .dt, trivial⟩
  · skip
    have hA : l.1.all flatA = true := by rw [hF, List.drop_of_length_le (by omega)]; rfl
    refine ACode.exit ?_
    refine ks_e ?_
    refine kl_e ?_
    refine kb_hit ?_
    refine ks_n ?_
    refine ACode.seq ?_
    refine ACode.seq ?_
    refine ACode.region ?_
    refine .cons (.asg rfl rfl) ?_
    refine .nil ?_
    refine ks_n ?_
    refine ACode.block ?_
    refine .loopK (fun m σ => (∃ i : Nat, m = l.2.length - i ∧ (i ≤ l.2.length) ∧ (l.2.all flatA = (l.2.drop i).all flatA) ∧ σ = [(.t 1, .v (.o (.c (.ptr (rL l))))), (.t 4, .v (.o (nat1 (i : Nat))))])) [] ⟨0, rfl, by omega, by simp, rfl⟩ ⟨ks rfl .dt, ks rfl .dt, trivial⟩ ?_
    rintro m σ ⟨i, hm0, hi, hF, rfl⟩
    refine ACode.seq ?_
    refine ACode.seq ?_
    refine ACode.region ?_
    refine .cons (.mv rfl rfl) ?_
    refine .cons (.fP 1 0 false rfl rfl) ?_
    refine .cons (.l1 1 rfl rfl) ?_
    refine .cons (.ln 51 2 32 rfl rfl rfl) ?_
    refine .cons (.ls rfl rfl rfl) ?_
    refine .nil ?_
    refine ks_n ?_
    refine .cD rfl (fun h23 => ?_) (fun h23 => ?_)
    · skip
      obtain ⟨x, hx1⟩ : ∃ x, l.2[i]? = some x := ⟨_, List.getElem?_eq_getElem (by omega)⟩
      refine ACode.skip ?_
      refine ks_n ?_
      refine ACode.seq ?_
      refine ACode.block ?_
      refine ACode.seq ?_
      refine ACode.region ?_
      refine .cons (.fP 1 0 false rfl rfl) ?_
      refine .cons (.l1 1 rfl rfl) ?_
      refine .cons (.mv rfl rfl) ?_
      refine .cons (.xL 51 2 32 rfl rfl rfl rfl rfl) ?_
      refine .cons (.lN 2 rfl rfl rfl) ?_
      refine .cons (.cP [.tmp 30] rfl rfl rfl rfl (l1Depth_fn x) rfl) ?_
      refine .cons (.gt rfl rfl rfl) ?_
      refine .nil ?_
      refine ks_n ?_
      refine .cD rfl (fun h32 => ?_) (fun h32 => ?_)
      · skip
        refine ACode.seq ?_
        refine ACode.region ?_
        refine .cons (.asg rfl rfl) ?_
        refine .nil ?_
        refine ks_n ?_
        refine ACode.ret ?_
        refine kb_r ?_
        refine ks_r ?_
        refine kl_r ?_
        refine kb_r ?_
        refine ks_r ?_
        refine kf_ret rfl ?_ nobox
        exact leafB (by rw [lpFlat, hA, hF, all_drop hx1, flat_no (by omega)]; rfl)
      · skip
        refine ACode.skip ?_
        refine kb_n ?_
        refine ks_n ?_
        refine ACode.region ?_
        refine .cons (.mv rfl rfl) ?_
        refine .cons (.pl rfl rfl rfl) ?_
        refine .cons (.asg rfl rfl) ?_
        refine .nil ?_
        refine kl_k [] ⟨i + 1, rfl, by omega, by rw [hF, all_drop hx1, flat_yes (by omega), Bool.true_and], rfl⟩ ⟨ks rfl .dt, ks rfl .dt, trivial⟩
    · skip
      refine ACode.exit ?_
      refine ks_e ?_
      refine kl_e ?_
      refine kb_hit ?_
      refine ks_n ?_
      refine ACode.seq ?_
      refine ACode.region ?_
      refine .cons (.asg rfl rfl) ?_
      refine .nil ?_
      refine ks_n ?_
      refine ACode.ret ?_
      refine kf_ret rfl ?_ nobox
      exact leafB (by rw [lpFlat, hA, hF, List.drop_of_length_le (by omega)]; rfl)

set_option maxRecDepth 100000 in
set_option maxHeartbeats 1600000 in
theorem specRect_fn (ns : List Lp) (hs : smN ns) : Fn Try.prog 23 [] [vD (dLs ns)] (.o (bo1 (nsRect ns))) [] := by
  have hn := hs.1
  refine Fn.code0 Try.func23 rfl rfl rfl rfl ?_
  refine ACode.seq ?_
  refine ACode.region ?_
  refine .cons (.asg rfl rfl) ?_
  refine .nil ?_
  refine ks_n ?_
  refine ACode.seq ?_
  refine ACode.seq ?_
  refine ACode.region ?_
  refine .cons (.asg rfl rfl) ?_
  refine .nil ?_
  refine ks_n ?_
  refine ACode.block ?_
  refine .loopK (fun m σ => (∃ i : Nat, m = ns.length - i ∧ (i ≤ ns.length) ∧ (ns.all lpFlat = (ns.drop i).all lpFlat) ∧ σ = [(.t 0, .v (.o (vD (dLs ns)))), (.t 3, .v (.o (nat1 (i : Nat))))])) [] ⟨0, rfl, by omega, by simp, rfl⟩ ⟨ks rfl .dt, ks rfl .dt, trivial⟩ ?_
  rintro m σ ⟨i, hm0, hi, hF, rfl⟩
  refine ACode.seq ?_
  refine ACode.seq ?_
  refine ACode.region ?_
  refine .cons (.mv rfl rfl) ?_
  refine .cons (.mv rfl rfl) ?_
  refine .cons (.ln 67 2 48 rfl rfl rfl) ?_
  refine .cons (.ls rfl rfl rfl) ?_
  refine .nil ?_
  refine ks_n ?_
  refine .cD rfl (fun h7 => ?_) (fun h7 => ?_)
  · skip
    obtain ⟨x, hx1⟩ : ∃ x, ns[i]? = some x := ⟨_, List.getElem?_eq_getElem (by omega)⟩
    have hq := hs.2 x (List.mem_of_getElem? hx1)
    refine ACode.skip ?_
    refine ks_n ?_
    refine ACode.seq ?_
    refine ACode.block ?_
    refine ACode.seq ?_
    refine ACode.region ?_
    refine .cons (.mv rfl rfl) ?_
    refine .cons (.mv rfl rfl) ?_
    refine .cons (.xL 67 2 48 rfl rfl rfl rfl rfl) ?_
    refine .cons (.lN 2 rfl rfl rfl) ?_
    refine .cons (.cP [.tmp 13] rfl rfl rfl rfl (l2Flat_fn ⟨hq.1, hq.2.1⟩) rfl) ?_
    refine .cons (.nt rfl rfl) ?_
    refine .nil ?_
    refine ks_n ?_
    refine ACode.condT rfl (fun h15 => ?_) (fun h15 => ?_)
    · try simp only [List.length_map, decide_eq_true_eq, decide_eq_false_iff_not, Bool.not_eq_true', Bool.not_eq_false', Bool.not_eq_true, Bool.not_eq_false] at h15
      refine ACode.seq ?_
      refine ACode.region ?_
      refine .cons (.asg rfl rfl) ?_
      refine .nil ?_
      refine ks_n ?_
      refine ACode.ret ?_
      refine kb_r ?_
      refine ks_r ?_
      refine kl_r ?_
      refine kb_r ?_
      refine ks_r ?_
      refine kf_ret rfl ?_ nobox
      exact leafB (by rw [nsRect, hF, all_drop hx1, h15]; rfl)
    · try simp only [List.length_map, decide_eq_true_eq, decide_eq_false_iff_not, Bool.not_eq_true', Bool.not_eq_false', Bool.not_eq_true, Bool.not_eq_false] at h15
      refine ACode.skip ?_
      refine kb_n ?_
      refine ks_n ?_
      refine ACode.region ?_
      refine .cons (.mv rfl rfl) ?_
      refine .cons (.pl rfl rfl rfl) ?_
      refine .cons (.asg rfl rfl) ?_
      refine .nil ?_
      refine kl_k [] ⟨i + 1, rfl, by omega, by rw [hF, all_drop hx1, h15, Bool.true_and], rfl⟩ ⟨ks rfl .dt, ks rfl .dt, trivial⟩
  · skip
    refine ACode.exit ?_
    refine ks_e ?_
    refine kl_e ?_
    refine kb_hit ?_
    refine ks_n ?_
    refine ACode.seq ?_
    refine ACode.region ?_
    refine .cons (.mv rfl rfl) ?_
    refine .cons (.cP [.tmp 16] rfl rfl rfl rfl (specNestV_fn ns hs) rfl) ?_
    refine .cons (.asg rfl rfl) ?_
    refine .nil ?_
    refine ks_n ?_
    refine ACode.ret ?_
    refine kf_ret rfl ?_ nobox
    exact leafB (by rw [nsRect, hF, List.drop_of_length_le (by omega)]; rfl)

set_option maxRecDepth 100000 in
set_option maxHeartbeats 1600000 in
theorem fixed1_fn (x : Aff) : Fn Try.prog 99 [] [ad (rA x)] (.o (bo1 (!flatA x))) [] := by
  refine Fn.code0 Try.func99 rfl rfl rfl rfl ?_
  refine ACode.seq ?_
  refine ACode.region ?_
  refine .cons (St1.boxP rfl rfl rfl rfl rfl rfl) ?_
  refine .cons (.asg rfl rfl) ?_
  refine .nil ?_
  refine ks_n ?_
  refine ACode.seq ?_
  refine ACode.region ?_
  refine .cons (.lN 2 rfl rfl rfl) ?_
  refine .cons (.cP [.tmp 3] rfl rfl rfl rfl (depth_fn x) rfl) ?_
  refine .cons (.gt rfl rfl rfl) ?_
  refine .cons (.asg rfl rfl) ?_
  refine .nil ?_
  refine ks_n ?_
  refine ACode.ret ?_
  refine kf_ret rfl ?_ nobox
  exact leafB (flat_gt x)

set_option maxRecDepth 100000 in
set_option maxHeartbeats 1600000 in
theorem isFixed_fn (xs : List Aff) (hx : xs.length ≤ 1099511627776) : Fn Try.prog 63 [] [vD (dAs xs)] (.o (bo1 (xs.all flatA))) [] := by
  refine Fn.code0 Try.func63 rfl rfl rfl rfl ?_
  refine ACode.seq ?_
  refine ACode.region ?_
  refine .cons (.asg rfl rfl) ?_
  refine .nil ?_
  refine ks_n ?_
  refine ACode.seq ?_
  refine ACode.region ?_
  refine .cons (.mv rfl rfl) ?_
  refine .cons (.cP [.tmp 3, .func 99] rfl rfl rfl rfl (cnt_aff (f := 99) (cap := []) (by kernel_rfl) (fun x => !flatA x) xs hx (fun x _ => fixed1_fn x)) rfl) ?_
  refine .cons (.nt rfl rfl) ?_
  refine .cons (.asg rfl rfl) ?_
  refine .nil ?_
  refine ks_n ?_
  refine ACode.ret ?_
  refine kf_ret rfl ?_ nobox
  exact leafB (nany _ _)

set_option maxRecDepth 100000 in
set_option maxHeartbeats 1600000 in
theorem rect1_fn (l : Lp) (h : l.1.length ≤ 1099511627776 ∧ l.2.length ≤ 1099511627776) : Fn Try.prog 62 [] [ad (rL l)] (.o (bo1 (!lpFlat l))) [] := by
  refine Fn.code0 Try.func62 rfl rfl rfl rfl ?_
  refine ACode.seq ?_
  refine ACode.region ?_
  refine .cons (St1.boxP rfl rfl rfl rfl rfl rfl) ?_
  refine .cons (.asg rfl rfl) ?_
  refine .nil ?_
  refine ks_n ?_
  refine ACode.seq ?_
  refine ACode.region ?_
  refine .cons (.fP 0 0 false rfl rfl) ?_
  refine .cons (.l1 1 rfl rfl) ?_
  refine .cons (.cP [.tmp 4] rfl rfl rfl rfl (isFixed_fn _ h.1) rfl) ?_
  refine .cons (.nt rfl rfl) ?_
  refine .cons (.mv rfl rfl) ?_
  refine AOps.cases 7 _ rfl (fun g7 => ?_) (fun g7 => ?_)
  · try simp only [List.length_map, decide_eq_true_eq, decide_eq_false_iff_not, Bool.not_eq_true', Bool.not_eq_false', Bool.not_eq_true, Bool.not_eq_false] at g7
    refine .cons (.gF rfl rfl rfl) ?_
    refine .cons (.gF rfl rfl rfl) ?_
    refine .cons (.gF rfl rfl rfl) ?_
    refine .cons (.gF rfl rfl rfl) ?_
    refine .cons (.pT rfl rfl rfl) ?_
    refine .cons (.asg rfl rfl) ?_
    refine .nil ?_
    refine ks_n ?_
    refine ACode.ret ?_
    refine kf_ret rfl ?_ nobox
    exact leafB (by rw [lpFlat, g7]; rfl)
  · try simp only [List.length_map, decide_eq_true_eq, decide_eq_false_iff_not, Bool.not_eq_true', Bool.not_eq_false', Bool.not_eq_true, Bool.not_eq_false] at g7
    refine .cons (.gT rfl rfl rfl (.fP 1 0 false rfl rfl)) ?_
    refine .cons (.gT rfl rfl rfl (.l1 1 rfl rfl)) ?_
    refine .cons (.gT rfl rfl rfl (.cP [.tmp 9] rfl rfl rfl rfl (isFixed_fn _ h.2) rfl)) ?_
    refine .cons (.gT rfl rfl rfl (.nt rfl rfl)) ?_
    refine .cons (.pF rfl rfl rfl) ?_
    refine .cons (.asg rfl rfl) ?_
    refine .nil ?_
    refine ks_n ?_
    refine ACode.ret ?_
    refine kf_ret rfl ?_ nobox
    exact leafB (by rw [lpFlat, g7]; rfl)

set_option maxRecDepth 100000 in
set_option maxHeartbeats 1600000 in
theorem implRect_fn (ns : List Lp) (hs : smN ns) : Fn Try.prog 21 [] [vD (dLs ns)] (.o (bo1 (nsRect ns))) [] := by
  refine Fn.code0 Try.func21 rfl rfl rfl rfl ?_
  refine ACode.seq ?_
  refine ACode.region ?_
  refine .cons (.asg rfl rfl) ?_
  refine .nil ?_
  refine ks_n ?_
  refine ACode.seq ?_
  refine ACode.region ?_
  refine .cons (.mv rfl rfl) ?_
  refine .cons (.cP [.tmp 3] rfl rfl rfl rfl (implNestV_fn ns hs) rfl) ?_
  refine .cons (.mv rfl rfl) ?_
  refine AOps.cases 5 _ rfl (fun g5 => ?_) (fun g5 => ?_)
  · try simp only [List.length_map, decide_eq_true_eq, decide_eq_false_iff_not, Bool.not_eq_true', Bool.not_eq_false', Bool.not_eq_true, Bool.not_eq_false] at g5
    refine .cons (.gT rfl rfl rfl (.mv rfl rfl)) ?_
    refine .cons (.gT rfl rfl rfl (.cP [.tmp 6, .func 62] rfl rfl rfl rfl (cnt_lp (f := 62) (cap := []) (by kernel_rfl) (fun l => !lpFlat l) ns (Nat.le_trans hs.1 (by omega)) (fun l hl => rect1_fn l ⟨Nat.le_trans (hs.2 l hl).1 (by omega), Nat.le_trans (hs.2 l hl).2.1 (by omega)⟩)) rfl)) ?_
    refine .cons (.gT rfl rfl rfl (.nt rfl rfl)) ?_
    refine .cons (.pT rfl rfl rfl) ?_
    refine .cons (.asg rfl rfl) ?_
    refine .nil ?_
    refine ks_n ?_
    refine ACode.ret ?_
    refine kf_ret rfl ?_ nobox
    first | exact leafB (by rw [nany, nsRect, g5, Bool.and_true]) | exact leafB (by rw [nsRect, g5, Bool.and_false])
  · try simp only [List.length_map, decide_eq_true_eq, decide_eq_false_iff_not, Bool.not_eq_true', Bool.not_eq_false', Bool.not_eq_true, Bool.not_eq_false] at g5
    refine .cons (.gF rfl rfl rfl) ?_
    refine .cons (.gF rfl rfl rfl) ?_
    refine .cons (.gF rfl rfl rfl) ?_
    refine .cons (.pF rfl rfl rfl) ?_
    refine .cons (.asg rfl rfl) ?_
    refine .nil ?_
    refine ks_n ?_
    refine ACode.ret ?_
    refine kf_ret rfl ?_ nobox
    first | exact leafB (by rw [nany, nsRect, g5, Bool.and_true]) | exact leafB (by rw [nsRect, g5, Bool.and_false])

end Go.Proofs.Ytgcpdpbapgkdjaa

/- Law FnRectNest; condition: bytes. -/
namespace Go.Proofs.Ytgcpdpbapgkdjaa
set_option linter.unusedVariables false
set_option linter.unusedSimpArgs false
open Go.RowKit

set_option maxRecDepth 100000 in
set_option maxHeartbeats 1600000 in
theorem drawRect_core {bs : List Int} {ns : List Lp} (hF : Fn Try.prog 64 [] [vD (dYs bs)] (.o (vD (dLs ns))) []) : Fn Try.prog 22 [] [vD (dYs bs)] (.o (vD (dLs ns))) [] := by
  refine Fn.code0 Try.func22 rfl rfl rfl rfl ?_
  refine ACode.seq ?_
  refine ACode.region ?_
  refine .cons (.asg rfl rfl) ?_
  refine .nil ?_
  refine ks_n ?_
  refine ACode.seq ?_
  refine ACode.region ?_
  refine .cons (.mv rfl rfl) ?_
  refine .cons (.cP [.tmp 3] rfl rfl rfl rfl (hF) rfl) ?_
  refine .cons (.asg rfl rfl) ?_
  refine .nil ?_
  refine ks_n ?_
  refine ACode.ret ?_
  refine kf_ret rfl ?_ nobox
  rfl

theorem flat_ev {x : Aff} (h : flatA x = true) (p : List Int) : affEval x p = x.2 := by
  have h0 : affDepth x = 0 := of_decide_eq_true h
  have hz : ∀ k, k ≤ x.1.length → depthTo x.1 k = 0 → ∀ i, i < k → x.1.getD i 0 = 0 := by
    intro k
    induction k with
    | zero => intro _ _ i hi; omega
    | succ k ih =>
      intro hk hd i hi
      rw [depthTo] at hd
      by_cases hc : x.1.getD k 0 = 0
      · rw [if_pos hc] at hd
        by_cases e : i = k
        · rw [e]; exact hc
        · exact ih (by omega) hd i (by omega)
      · rw [if_neg hc] at hd; omega
  have hall : ∀ i, x.1.getD i 0 = 0 := fun i => by
    by_cases hi : i < x.1.length
    · exact hz _ (Nat.le_refl _) h0 i hi
    · rw [List.getD, List.getElem?_eq_none (by omega)]; rfl
  have he : ∀ k, evalTo x.1 p k = 0 := by
    intro k
    induction k with
    | zero => rfl
    | succ k ih => rw [evalTo, ih, hall, Int.zero_mul, Int.add_zero]
  rw [affEval, he, Int.add_zero]
theorem mxF_flat (p q : List Int) : ∀ (l : List Aff) (m : Int), l.all flatA = true → mxF p m l = mxF q m l
  | [], m, h => rfl
  | x :: l, m, h => by
    rw [List.all_cons, Bool.and_eq_true] at h
    rw [mxF, mxF, flat_ev h.1, flat_ev h.1, mxF_flat p q l _ h.2]
theorem mnF_flat (p q : List Int) : ∀ (l : List Aff) (m : Int), l.all flatA = true → mnF p m l = mnF q m l
  | [], m, h => rfl
  | x :: l, m, h => by
    rw [List.all_cons, Bool.and_eq_true] at h
    rw [mnF, mnF, flat_ev h.1, flat_ev h.1, mnF_flat p q l _ h.2]
theorem loF_flat (p q : List Int) {l : List Aff} (h : l.all flatA = true) : loF p l = loF q l := by
  cases l with
  | nil => rfl
  | cons x l =>
    rw [List.all_cons, Bool.and_eq_true] at h
    rw [loF, loF, flat_ev h.1, flat_ev h.1, mxF_flat p q l _ h.2]
theorem hiF_flat (p q : List Int) {l : List Aff} (h : l.all flatA = true) : hiF p l = hiF q l := by
  cases l with
  | nil => rfl
  | cons x l =>
    rw [List.all_cons, Bool.and_eq_true] at h
    rw [hiF, hiF, flat_ev h.1, flat_ev h.1, mnF_flat p q l _ h.2]
theorem lr_rect {ns : List Lp} (hr : nsRect ns = true) {k : Nat} (hk : k < ns.length) {p q : List Int} (hp : p.length = k) (hq : q.length = k) (h1 : isPt p = true) (h2 : isPt q = true) : ∃ a b, lrV ns p = (a, b, true) ∧ lrV ns q = (a, b, true) := by
  rw [nsRect, Bool.and_eq_true, List.all_eq_true] at hr
  obtain ⟨l, hl⟩ : ∃ l, ns[k]? = some l := ⟨_, List.getElem?_eq_getElem hk⟩
  have hf := hr.1 l (List.mem_of_getElem? hl)
  rw [lpFlat, Bool.and_eq_true] at hf
  refine ⟨loF p l.1, hiF p l.2, ?_, ?_⟩
  · rw [lrV, if_pos ⟨hr.2, h1, by omega⟩, hp, getD_some hl]
  · rw [lrV, if_pos ⟨hr.2, h2, by omega⟩, hq, getD_some hl, loF_flat q p hf.1, hiF_flat q p hf.2]

set_option maxRecDepth 100000 in
set_option maxHeartbeats 1600000 in
theorem rectNest_core {bs bs2 : List Int} (hl : bs.length ≤ 1048576) (hl2 : bs2.length ≤ 1048576) {ns : List Lp} (hs : smN ns) (hD : Fn Try.prog 22 [] [vD (dYs bs)] (.o (vD (dLs ns))) []) : Fn Try.prog 5 [] [vD (dYs bs), vD (dYs bs2)] (.o (bo1 true)) [] := by
  have hn := hs.1
  refine Fn.code0 Try.func5 rfl rfl rfl rfl ?_
  refine ACode.seq ?_
  refine ACode.region ?_
  refine .cons (.asg rfl rfl) ?_
  refine .nil ?_
  refine ks_n ?_
  refine ACode.seq ?_
  refine ACode.seq ?_
  refine ACode.region ?_
  refine .cons (.mv rfl rfl) ?_
  refine .cons (.ln 5 1 1 rfl rfl rfl) ?_
  refine .cons (.gt rfl rfl rfl) ?_
  refine .cons (.mv rfl rfl) ?_
  refine .cD 19 rfl (fun g19 => ?_) (fun g19 => ?_)
  · skip
    omega
  · skip
    refine .cons (.gT rfl rfl rfl (.mv rfl rfl)) ?_
    refine .cons (.gT rfl rfl rfl (.ln 5 1 1 rfl rfl rfl)) ?_
    refine .cons (.gT rfl rfl rfl (.gt rfl rfl rfl)) ?_
    refine .cons (.pF rfl rfl rfl) ?_
    refine .nil ?_
    refine ks_n ?_
    refine ACode.condT rfl (fun h23 => ?_) (fun h23 => ?_)
    · try simp only [List.length_map, decide_eq_true_eq, decide_eq_false_iff_not, Bool.not_eq_true', Bool.not_eq_false', Bool.not_eq_true, Bool.not_eq_false] at h23
      omega
    · try simp only [List.length_map, decide_eq_true_eq, decide_eq_false_iff_not, Bool.not_eq_true', Bool.not_eq_false', Bool.not_eq_true, Bool.not_eq_false] at h23
      refine ACode.skip ?_
      refine ks_n ?_
      refine ACode.seq ?_
      refine ACode.region ?_
      refine .cons (.mv rfl rfl) ?_
      refine .cons (.cP [.tmp 24] rfl rfl rfl rfl (hD) rfl) ?_
      refine .cons (.asg rfl rfl) ?_
      refine .nil ?_
      refine ks_n ?_
      refine ACode.seq ?_
      refine ACode.region ?_
      refine .cons (.mv rfl rfl) ?_
      refine .cons (.cP [.tmp 26] rfl rfl rfl rfl (implRect_fn ns hs) rfl) ?_
      refine .cons (.asg rfl rfl) ?_
      refine .nil ?_
      refine ks_n ?_
      refine ACode.seq ?_
      refine ACode.seq ?_
      refine ACode.region ?_
      refine .cons (.mv rfl rfl) ?_
      refine .cons (.mv rfl rfl) ?_
      refine .cons (.cP [.tmp 29] rfl rfl rfl rfl (specRect_fn ns hs) rfl) ?_
      refine .cons (St1.neqB rfl rfl rfl rfl (by kernel_rfl) rfl rfl) ?_
      refine .cons (.mv rfl rfl) ?_
      refine AOps.cases 32 _ rfl (fun g32 => ?_) (fun g32 => ?_)
      · try simp only [List.length_map, decide_eq_true_eq, decide_eq_false_iff_not, Bool.not_eq_true', Bool.not_eq_false', Bool.not_eq_true, Bool.not_eq_false] at g32
        rw [beq_self_eq_true] at g32; cases g32
      · try simp only [List.length_map, decide_eq_true_eq, decide_eq_false_iff_not, Bool.not_eq_true', Bool.not_eq_false', Bool.not_eq_true, Bool.not_eq_false] at g32
        refine .cons (.gT rfl rfl rfl (.mv rfl rfl)) ?_
        refine .cons (.gT rfl rfl rfl (.nt rfl rfl)) ?_
        refine .cons (.pF rfl rfl rfl) ?_
        refine .cons (.mv rfl rfl) ?_
        refine AOps.cases 36 _ rfl (fun g36 => ?_) (fun g36 => ?_)
        · try simp only [List.length_map, decide_eq_true_eq, decide_eq_false_iff_not, Bool.not_eq_true', Bool.not_eq_false', Bool.not_eq_true, Bool.not_eq_false] at g36
          refine .cons (.gF rfl rfl rfl) ?_
          refine .cons (.gF rfl rfl rfl) ?_
          refine .cons (.gF rfl rfl rfl) ?_
          refine .cons (.pT rfl rfl rfl) ?_
          refine .nil ?_
          refine ks_n ?_
          refine ACode.condT rfl (fun _ => ?_) (fun h => by first | (cases h; done) | (simp [*] at h; done) | (exfalso; simp_all; done))
          refine ACode.seq ?_
          refine ACode.region ?_
          refine .cons (.mv rfl rfl) ?_
          refine .cons (.mv rfl rfl) ?_
          refine .cons (.cP [.tmp 42] rfl rfl rfl rfl (specRect_fn ns hs) rfl) ?_
          refine .cons (St1.eqlB rfl rfl rfl rfl (by kernel_rfl) rfl rfl) ?_
          refine .cons (.mv rfl rfl) ?_
          refine AOps.cases 45 _ rfl (fun g45 => ?_) (fun g45 => ?_)
          · try simp only [List.length_map, decide_eq_true_eq, decide_eq_false_iff_not, Bool.not_eq_true', Bool.not_eq_false', Bool.not_eq_true, Bool.not_eq_false] at g45
            refine .cons (.gT rfl rfl rfl (.mv rfl rfl)) ?_
            refine .cons (.gT rfl rfl rfl (.nt rfl rfl)) ?_
            refine .cons (.gT rfl rfl rfl (.mv rfl rfl)) ?_
            refine AOps.cases 48 _ rfl (fun g48 => ?_) (fun g48 => ?_)
            · try simp only [List.length_map, decide_eq_true_eq, decide_eq_false_iff_not, Bool.not_eq_true', Bool.not_eq_false', Bool.not_eq_true, Bool.not_eq_false] at g48
              refine .cons (.gF rfl rfl rfl) ?_
              refine .cons (.gF rfl rfl rfl) ?_
              refine .cons (.gT rfl rfl rfl (.pT rfl rfl rfl)) ?_
              refine .cons (.pT rfl rfl rfl) ?_
              refine .cons (.asg rfl rfl) ?_
              refine .nil ?_
              refine ks_n ?_
              refine ACode.ret ?_
              refine ks_r ?_
              refine kf_ret rfl ?_ nobox
              first | rfl | exact leafB (by simp_all [nsRect])
            · try simp only [List.length_map, decide_eq_true_eq, decide_eq_false_iff_not, Bool.not_eq_true', Bool.not_eq_false', Bool.not_eq_true, Bool.not_eq_false] at g48
              refine .cons (.gT rfl rfl rfl (.mv rfl rfl)) ?_
              refine .cons (.gT rfl rfl rfl (.cP [.tmp 49] rfl rfl rfl rfl (implNestV_fn ns hs) rfl)) ?_
              refine .cons (.gT rfl rfl rfl (.pF rfl rfl rfl)) ?_
              refine .cons (.pT rfl rfl rfl) ?_
              refine .cons (.asg rfl rfl) ?_
              refine .nil ?_
              refine ks_n ?_
              refine ACode.ret ?_
              refine ks_r ?_
              refine kf_ret rfl ?_ nobox
              first | rfl | exact leafB (by simp_all [nsRect])
          · try simp only [List.length_map, decide_eq_true_eq, decide_eq_false_iff_not, Bool.not_eq_true', Bool.not_eq_false', Bool.not_eq_true, Bool.not_eq_false] at g45
            rw [beq_self_eq_true] at g45; cases g45
        · try simp only [List.length_map, decide_eq_true_eq, decide_eq_false_iff_not, Bool.not_eq_true', Bool.not_eq_false', Bool.not_eq_true, Bool.not_eq_false] at g36
          refine .cons (.gT rfl rfl rfl (.mv rfl rfl)) ?_
          refine .cons (.gT rfl rfl rfl (.ln 67 2 48 rfl rfl rfl)) ?_
          refine .cons (.gT rfl rfl rfl (.eq rfl rfl rfl)) ?_
          refine .cons (.pF rfl rfl rfl) ?_
          refine .nil ?_
          refine ks_n ?_
          refine ACode.condT rfl (fun h40 => ?_) (fun h40 => ?_)
          · try simp only [List.length_map, decide_eq_true_eq, decide_eq_false_iff_not, Bool.not_eq_true', Bool.not_eq_false', Bool.not_eq_true, Bool.not_eq_false] at h40
            refine ACode.seq ?_
            refine ACode.region ?_
            refine .cons (.mv rfl rfl) ?_
            refine .cons (.mv rfl rfl) ?_
            refine .cons (.cP [.tmp 42] rfl rfl rfl rfl (specRect_fn ns hs) rfl) ?_
            refine .cons (St1.eqlB rfl rfl rfl rfl (by kernel_rfl) rfl rfl) ?_
            refine .cons (.mv rfl rfl) ?_
            refine AOps.cases 45 _ rfl (fun g45 => ?_) (fun g45 => ?_)
            · try simp only [List.length_map, decide_eq_true_eq, decide_eq_false_iff_not, Bool.not_eq_true', Bool.not_eq_false', Bool.not_eq_true, Bool.not_eq_false] at g45
              refine .cons (.gT rfl rfl rfl (.mv rfl rfl)) ?_
              refine .cons (.gT rfl rfl rfl (.nt rfl rfl)) ?_
              refine .cons (.gT rfl rfl rfl (.mv rfl rfl)) ?_
              refine AOps.cases 48 _ rfl (fun g48 => ?_) (fun g48 => ?_)
              · try simp only [List.length_map, decide_eq_true_eq, decide_eq_false_iff_not, Bool.not_eq_true', Bool.not_eq_false', Bool.not_eq_true, Bool.not_eq_false] at g48
                refine .cons (.gF rfl rfl rfl) ?_
                refine .cons (.gF rfl rfl rfl) ?_
                refine .cons (.gT rfl rfl rfl (.pT rfl rfl rfl)) ?_
                refine .cons (.pT rfl rfl rfl) ?_
                refine .cons (.asg rfl rfl) ?_
                refine .nil ?_
                refine ks_n ?_
                refine ACode.ret ?_
                refine ks_r ?_
                refine kf_ret rfl ?_ nobox
                first | rfl | exact leafB (by simp_all [nsRect])
              · try simp only [List.length_map, decide_eq_true_eq, decide_eq_false_iff_not, Bool.not_eq_true', Bool.not_eq_false', Bool.not_eq_true, Bool.not_eq_false] at g48
                refine .cons (.gT rfl rfl rfl (.mv rfl rfl)) ?_
                refine .cons (.gT rfl rfl rfl (.cP [.tmp 49] rfl rfl rfl rfl (implNestV_fn ns hs) rfl)) ?_
                refine .cons (.gT rfl rfl rfl (.pF rfl rfl rfl)) ?_
                refine .cons (.pT rfl rfl rfl) ?_
                refine .cons (.asg rfl rfl) ?_
                refine .nil ?_
                refine ks_n ?_
                refine ACode.ret ?_
                refine ks_r ?_
                refine kf_ret rfl ?_ nobox
                first | rfl | exact leafB (by simp_all [nsRect])
            · try simp only [List.length_map, decide_eq_true_eq, decide_eq_false_iff_not, Bool.not_eq_true', Bool.not_eq_false', Bool.not_eq_true, Bool.not_eq_false] at g45
              rw [beq_self_eq_true] at g45; cases g45
          · try simp only [List.length_map, decide_eq_true_eq, decide_eq_false_iff_not, Bool.not_eq_true', Bool.not_eq_false', Bool.not_eq_true, Bool.not_eq_false] at h40
            refine ACode.skip ?_
            refine ks_n ?_
            refine ACode.seq ?_
            have hr : nsRect ns = true := g36
            have hk : bs2.length % ns.length < ns.length := Nat.mod_lt _ (by omega)
            obtain ⟨k, hkd⟩ : ∃ k, k = bs2.length % ns.length := ⟨_, rfl⟩
            rw [← hkd] at hk
            have h4 : ns.length ≤ 4 := by rw [nsRect, Bool.and_eq_true] at hr; exact (nsV_at hr.2).1
            have hpt : isPt (([1, 2, 3] : List Int).take k) = true ∧ isPt (([4, 0, 9] : List Int).take k) = true := by rcases (show k = 0 ∨ k = 1 ∨ k = 2 ∨ k = 3 by omega) with rfl | rfl | rfl | rfl <;> decide
            obtain ⟨a, b, e1, e2⟩ := lr_rect hr hk (p := ([1, 2, 3] : List Int).take k) (q := ([4, 0, 9] : List Int).take k) (by simp; omega) (by simp; omega) hpt.1 hpt.2
            have c1 := loopRange_fn ns hs (([1, 2, 3] : List Int).take k) (by simp; omega)
            have c2 := loopRange_fn ns hs (([4, 0, 9] : List Int).take k) (by simp; omega)
            rw [e1] at c1; rw [e2] at c2
            refine ACode.region ?_
            refine .cons (.mv rfl rfl) ?_
            refine .cons (.ln 5 1 1 rfl rfl rfl) ?_
            refine .cons (.mv rfl rfl) ?_
            refine .cons (.ln 67 2 48 rfl rfl rfl) ?_
            refine .cons (St1.rem rfl rfl rfl rfl rfl rfl (by omega)) ?_
            refine .cons (.asg rfl rfl) ?_
            refine .nil ?_
            refine ks_n ?_
            refine ACode.seq ?_
            refine ACode.region ?_
            refine .cons (.li 3 0 2 [.const (.int .i64 (1)), .const (.int .i64 (2)), .const (.int .i64 (3))] rfl rfl rfl rfl rfl rfl) ?_
            refine .cons (.mv rfl rfl) ?_
            refine .cons (St1.sliceTo (e := 3) (sz := 1) (by' := 8) (k := k) rfl rfl rfl rfl (by kernel_rfl) rfl rfl rfl (by rw [hkd]; exact tmod_nat rfl rfl) (by simp; omega)) ?_
            refine .cons (.asg rfl rfl) ?_
            refine .nil ?_
            refine ks_n ?_
            refine ACode.seq ?_
            refine ACode.region ?_
            refine .cons (.li 3 0 2 [.const (.int .i64 (4)), .const (.int .i64 (0)), .const (.int .i64 (9))] rfl rfl rfl rfl rfl rfl) ?_
            refine .cons (.mv rfl rfl) ?_
            refine .cons (St1.sliceTo (e := 3) (sz := 1) (by' := 8) (k := k) rfl rfl rfl rfl (by kernel_rfl) rfl rfl rfl (by rw [hkd]; exact tmod_nat rfl rfl) (by simp; omega)) ?_
            refine .cons (.asg rfl rfl) ?_
            refine .nil ?_
            refine ks_n ?_
            refine ACode.seq ?_
            refine ACode.region ?_
            refine .cons (.mv rfl rfl) ?_
            refine .cons (.mv rfl rfl) ?_
            refine .cons (.cP [.tmp 65, .tmp 66] rfl rfl rfl rfl (Fn.arg2 (dIs_take [1, 2, 3] k) c1) rfl) ?_
            refine .cons (.mv rfl rfl) ?_
            refine .cons (.ex rfl rfl rfl) ?_
            refine .cons (.ex rfl rfl rfl) ?_
            refine .cons (.ex rfl rfl rfl) ?_
            refine .cons (.asg rfl rfl) ?_
            refine .cons (.asg rfl rfl) ?_
            refine .cons (.asg rfl rfl) ?_
            refine .nil ?_
            refine ks_n ?_
            refine ACode.seq ?_
            refine ACode.region ?_
            refine .cons (.mv rfl rfl) ?_
            refine .cons (.mv rfl rfl) ?_
            refine .cons (.cP [.tmp 72, .tmp 73] rfl rfl rfl rfl (Fn.arg2 (dIs_take [4, 0, 9] k) c2) rfl) ?_
            refine .cons (.mv rfl rfl) ?_
            refine .cons (.ex rfl rfl rfl) ?_
            refine .cons (.ex rfl rfl rfl) ?_
            refine .cons (.ex rfl rfl rfl) ?_
            refine .cons (.asg rfl rfl) ?_
            refine .cons (.asg rfl rfl) ?_
            refine .cons (.asg rfl rfl) ?_
            refine .nil ?_
            refine ks_n ?_
            refine ACode.seq ?_
            refine ACode.region ?_
            refine .cons (.mv rfl rfl) ?_
            refine .cons (.mv rfl rfl) ?_
            refine AOps.cases 79 _ rfl (fun g79 => ?_) (fun g79 => ?_)
            · try simp only [List.length_map, decide_eq_true_eq, decide_eq_false_iff_not, Bool.not_eq_true', Bool.not_eq_false', Bool.not_eq_true, Bool.not_eq_false] at g79
              refine .cons (.gT rfl rfl rfl (.mv rfl rfl)) ?_
              refine .cons (.pT rfl rfl rfl) ?_
              refine .cons (.mv rfl rfl) ?_
              refine AOps.cases 82 _ rfl (fun g82 => ?_) (fun g82 => ?_)
              · try simp only [List.length_map, decide_eq_true_eq, decide_eq_false_iff_not, Bool.not_eq_true', Bool.not_eq_false', Bool.not_eq_true, Bool.not_eq_false] at g82
                refine .cons (.gT rfl rfl rfl (.mv rfl rfl)) ?_
                refine .cons (.gT rfl rfl rfl (.mv rfl rfl)) ?_
                refine .cons (.gT rfl rfl rfl (.eq rfl rfl rfl)) ?_
                refine .cons (.pT rfl rfl rfl) ?_
                refine .cons (.mv rfl rfl) ?_
                refine AOps.cases 87 _ rfl (fun g87 => ?_) (fun g87 => ?_)
                · try simp only [List.length_map, decide_eq_true_eq, decide_eq_false_iff_not, Bool.not_eq_true', Bool.not_eq_false', Bool.not_eq_true, Bool.not_eq_false] at g87
                  refine .cons (.gT rfl rfl rfl (.mv rfl rfl)) ?_
                  refine .cons (.gT rfl rfl rfl (.mv rfl rfl)) ?_
                  refine .cons (.gT rfl rfl rfl (.eq rfl rfl rfl)) ?_
                  refine .cons (.pT rfl rfl rfl) ?_
                  refine .cons (.asg rfl rfl) ?_
                  refine .nil ?_
                  refine ks_n ?_
                  refine ACode.ret ?_
                  refine kf_ret rfl ?_ nobox
                  first | rfl | exact leafB (by simp_all [nsRect])
                · try simp only [List.length_map, decide_eq_true_eq, decide_eq_false_iff_not, Bool.not_eq_true', Bool.not_eq_false', Bool.not_eq_true, Bool.not_eq_false] at g87
                  refine .cons (.gF rfl rfl rfl) ?_
                  refine .cons (.gF rfl rfl rfl) ?_
                  refine .cons (.gF rfl rfl rfl) ?_
                  refine .cons (.pF rfl rfl rfl) ?_
                  refine .cons (.asg rfl rfl) ?_
                  refine .nil ?_
                  refine ks_n ?_
                  refine ACode.ret ?_
                  refine kf_ret rfl ?_ nobox
                  first | rfl | exact leafB (by simp_all [nsRect])
              · try simp only [List.length_map, decide_eq_true_eq, decide_eq_false_iff_not, Bool.not_eq_true', Bool.not_eq_false', Bool.not_eq_true, Bool.not_eq_false] at g82
                refine .cons (.gF rfl rfl rfl) ?_
                refine .cons (.gF rfl rfl rfl) ?_
                refine .cons (.gF rfl rfl rfl) ?_
                refine .cons (.pF rfl rfl rfl) ?_
                refine .cons (.mv rfl rfl) ?_
                refine .cons (.gF rfl rfl rfl) ?_
                refine .cons (.gF rfl rfl rfl) ?_
                refine .cons (.gF rfl rfl rfl) ?_
                refine .cons (.pF rfl rfl rfl) ?_
                refine .cons (.asg rfl rfl) ?_
                refine .nil ?_
                refine ks_n ?_
                refine ACode.ret ?_
                refine kf_ret rfl ?_ nobox
                first | rfl | exact leafB (by simp_all [nsRect])
            · try simp only [List.length_map, decide_eq_true_eq, decide_eq_false_iff_not, Bool.not_eq_true', Bool.not_eq_false', Bool.not_eq_true, Bool.not_eq_false] at g79
              refine .cons (.gF rfl rfl rfl) ?_
              refine .cons (.pF rfl rfl rfl) ?_
              refine .cons (.mv rfl rfl) ?_
              refine .cons (.gF rfl rfl rfl) ?_
              refine .cons (.gF rfl rfl rfl) ?_
              refine .cons (.gF rfl rfl rfl) ?_
              refine .cons (.pF rfl rfl rfl) ?_
              refine .cons (.mv rfl rfl) ?_
              refine .cons (.gF rfl rfl rfl) ?_
              refine .cons (.gF rfl rfl rfl) ?_
              refine .cons (.gF rfl rfl rfl) ?_
              refine .cons (.pF rfl rfl rfl) ?_
              refine .cons (.asg rfl rfl) ?_
              refine .nil ?_
              refine ks_n ?_
              refine ACode.ret ?_
              refine kf_ret rfl ?_ nobox
              first | rfl | exact leafB (by simp_all [nsRect])

set_option maxRecDepth 100000 in
set_option maxHeartbeats 1600000 in
theorem rectNest_big (a : Option Addr) (n c : Nat) (a2 : Option Addr) (n2 c2 : Nat) (hn : 1048576 < n ∨ 1048576 < n2) : Fn Try.prog 5 [] [vX a n c, vX a2 n2 c2] (.o (bo1 true)) [] := by
  refine Fn.code0 Try.func5 rfl rfl rfl rfl ?_
  refine ACode.seq ?_
  refine ACode.region ?_
  refine .cons (.asg rfl rfl) ?_
  refine .nil ?_
  refine ks_n ?_
  refine ACode.seq ?_
  refine ACode.seq ?_
  refine ACode.region ?_
  refine .cons (.mv rfl rfl) ?_
  refine .cons (St1.lenN (e := 5) (m := 1) (by' := 1) rfl rfl rfl rfl rfl (by kernel_rfl) rfl) ?_
  refine .cons (.gt rfl rfl rfl) ?_
  refine .cons (.mv rfl rfl) ?_
  refine .cD 19 rfl (fun g19 => ?_) (fun g19 => ?_)
  · skip
    refine .cons (.gF rfl rfl rfl) ?_
    refine .cons (.gF rfl rfl rfl) ?_
    refine .cons (.gF rfl rfl rfl) ?_
    refine .cons (.pT rfl rfl rfl) ?_
    refine .nil ?_
    refine ks_n ?_
    refine ACode.condT rfl (fun _ => ?_) (fun h => by first | (cases h; done) | (simp [*] at h; done) | (exfalso; simp_all; done))
    refine ACode.seq ?_
    refine ACode.region ?_
    refine .cons (.asg rfl rfl) ?_
    refine .nil ?_
    refine ks_n ?_
    refine ACode.ret ?_
    refine ks_r ?_
    refine kf_ret rfl ?_ nobox
    rfl
  · skip
    refine .cons (.gT rfl rfl rfl (.mv rfl rfl)) ?_
    refine .cons (.gT rfl rfl rfl (St1.lenN (e := 5) (m := 1) (by' := 1) rfl rfl rfl rfl rfl (by kernel_rfl) rfl)) ?_
    refine .cons (.gT rfl rfl rfl (.gt rfl rfl rfl)) ?_
    refine .cons (.pF rfl rfl rfl) ?_
    refine .nil ?_
    refine ks_n ?_
    refine ACode.condT rfl (fun h23 => ?_) (fun h23 => ?_)
    · try simp only [List.length_map, decide_eq_true_eq, decide_eq_false_iff_not, Bool.not_eq_true', Bool.not_eq_false', Bool.not_eq_true, Bool.not_eq_false] at h23
      refine ACode.seq ?_
      refine ACode.region ?_
      refine .cons (.asg rfl rfl) ?_
      refine .nil ?_
      refine ks_n ?_
      refine ACode.ret ?_
      refine ks_r ?_
      refine kf_ret rfl ?_ nobox
      rfl
    · try simp only [List.length_map, decide_eq_true_eq, decide_eq_false_iff_not, Bool.not_eq_true', Bool.not_eq_false', Bool.not_eq_true, Bool.not_eq_false] at h23
      omega

theorem lawRectNest (a : Option Addr) (n c : Nat) (bs : List Int) (a2 : Option Addr) (n2 c2 : Nat) (bs2 : List Int) (w : World) (hx : n ≤ 1048576 → Sl Sh.byte (fun b => b < w.heap.size) w (.slice a n c) bs) (hbs : ∀ x ∈ bs, 0 ≤ x ∧ x ≤ 255) (hx2 : n2 ≤ 1048576 → Sl Sh.byte (fun b => b < w.heap.size) w (.slice a2 n2 c2) bs2) (hbs2 : ∀ x ∈ bs2, 0 ≤ x ∧ x ≤ 255) : Truth Try.prog 5 #[.slice a n c, .slice a2 n2 c2] w :=
  law2 ⟨hx, hbs⟩ ⟨hx2, hbs2⟩ (fun h => rectNest_big a n c a2 n2 c2 h) (fun hl hl2 hb _ => by
    obtain ⟨ns, h1, _, h2⟩ := drawNV_fn hb
    exact rectNest_core hl hl2 (h1.sm (by omega)) (drawRect_core h2))

end Go.Proofs.Ytgcpdpbapgkdjaa

/- Boxes; condition: small lists. -/
namespace Go.Proofs.Ytgcpdpbapgkdjaa
set_option linter.unusedVariables false
set_option linter.unusedSimpArgs false
open Go.RowKit

def boxOk (xs : List Int) : Bool := decide (xs.length ≤ 4) && !xs.any fun n => !inB n 0 99
def bL (n : Int) : Lp := ([zA], [cA n])
def boxN (xs : List Int) : List Lp := if boxOk xs = true then xs.map bL else []
theorem boxOk_iff {xs : List Int} : boxOk xs = true ↔ xs.length ≤ 4 ∧ ∀ x ∈ xs, 0 ≤ x ∧ x ≤ 99 := by simp [boxOk, inB]
theorem boxN_no {xs : List Int} (h : boxOk xs = false) : boxN xs = [] := if_neg (by rw [h]; simp)
theorem boxN_yes {xs : List Int} (h : boxOk xs = true) : boxN xs = xs.map bL := if_pos h
theorem boxN_sm (xs : List Int) : smN (boxN xs) := by
  rw [boxN]
  split
  · rename_i h
    have h4 := (boxOk_iff.1 h).1
    refine ⟨by rw [List.length_map]; omega, fun l hl => ?_⟩
    obtain ⟨n, _, rfl⟩ := List.mem_map.1 hl
    refine ⟨by simp [bL], by simp [bL], fun a ha => ?_, fun a ha => ?_⟩
    · rw [List.mem_singleton.1 ha]; simp [zA]
    · rw [List.mem_singleton.1 ha]; simp [cA]
  · exact ⟨by simp, by simp⟩
def prodF : List Int → Int
  | [] => 1
  | x :: xs => x * prodF xs
def prodTo : Int → List Int → Int
  | p, [] => p
  | p, x :: xs => prodTo (p * x) xs
theorem prodTo_eq : ∀ (xs : List Int) (p : Int), prodTo p xs = p * prodF xs
  | [], p => by rw [prodTo, prodF, Int.mul_one]
  | x :: xs, p => by rw [prodTo, prodTo_eq xs, prodF, Int.mul_assoc]
theorem prodTo_drop {xs : List Int} {i : Nat} {x p : Int} (h : xs[i]? = some x) : prodTo p (xs.drop i) = prodTo (p * x) (xs.drop (i + 1)) := by rw [drop_at h]; rfl
theorem cA_flat (n : Int) : flatA (cA n) = true := rfl
theorem zA_flat : flatA zA = true := rfl
theorem loF_box (p : List Int) (n : Int) : loF p (bL n).1 = 0 := by
  show affEval zA p = 0
  rw [flat_ev zA_flat]; rfl
theorem hiF_box (p : List Int) (n : Int) : hiF p (bL n).2 = n := by
  show affEval (cA n) p = n
  rw [flat_ev (cA_flat n)]; rfl
theorem len_fromP {g : Int → Pts} {c : Nat} (h : ∀ u, (g u).length = c) : ∀ (k : Nat) (v : Int), (fromP g k v).length = k * c
  | 0, v => by rw [fromP, Nat.zero_mul]; rfl
  | k + 1, v => by rw [fromP, List.length_append, h, len_fromP h k, Nat.succ_mul, Nat.add_comm]
theorem len_box : ∀ (xs : List Int) (p : List Int), (∀ x ∈ xs, 0 ≤ x) → ((ptsG (xs.map bL) p).length : Int) = prodF xs
  | [], p, _ => rfl
  | x :: xs, p, h => by
    have h1 : ∀ u, ((ptsG (xs.map bL) (p ++ [u])).length : Int) = prodF xs := fun u => len_box xs (p ++ [u]) (fun y hy => h y (by simp [hy]))
    have h2 : ∀ u, (ptsG (xs.map bL) (p ++ [u])).length = (prodF xs).toNat := fun u => by rw [← h1 u]; rfl
    have h3 : 0 ≤ prodF xs := by rw [← h1 0]; omega
    have h4 := h x (by simp)
    rw [List.map_cons, ptsG, len_fromP h2, lenR, loF_box, hiF_box, Int.sub_zero, prodF, Int.natCast_mul]
    rw [show (x.toNat : Int) = x by omega, show ((prodF xs).toNat : Int) = prodF xs by omega]
theorem affV_c {n : Int} (h : 0 ≤ n ∧ n ≤ 99) : affV (cA n) = true := by
  have h1 : inB n (-99) 99 = true := decide_eq_true ⟨by omega, by omega⟩
  rw [affV, show (cA n).2 = n from rfl, h1]; rfl
theorem bnd_c {n : Int} (h : 0 ≤ n ∧ n ≤ 99) (d : Nat) : bndV d (cA n) = true := by
  rw [bndV, affV_c h, Bool.true_and, decide_eq_true_eq]
  have : affDepth (cA n) = 0 := rfl
  omega
theorem side_c {n : Int} (h : 0 ≤ n ∧ n ≤ 99) (d : Nat) : sideV d [cA n] = true := by
  rw [sideV, List.all_cons, bnd_c h]; rfl
theorem nest_box : ∀ (xs : List Int) (i : Nat), (∀ x ∈ xs, 0 ≤ x ∧ x ≤ 99) → nestG i (xs.map bL) = true
  | [], i, _ => rfl
  | x :: xs, i, h => by
    rw [List.map_cons, nestG, nest_box xs (i + 1) (fun y hy => h y (by simp [hy])), Bool.and_true, Bool.and_eq_true]
    exact ⟨side_c (n := 0) (by omega) i, side_c (h x (by simp)) i⟩
theorem nsV_box {xs : List Int} (h : boxOk xs = true) : nsV (boxN xs) = true := by
  obtain ⟨h1, h2⟩ := boxOk_iff.1 h
  rw [boxN_yes h, nsV, nest_box xs 0 h2, List.length_map, decide_eq_true h1]; rfl
theorem rect_box {xs : List Int} (h : boxOk xs = true) : nsRect (boxN xs) = true := by
  rw [nsRect, nsV_box h, Bool.and_true, boxN_yes h, List.all_eq_true]
  intro l hl
  obtain ⟨n, _, rfl⟩ := List.mem_map.1 hl
  rfl
theorem pts_box {xs : List Int} (h : boxOk xs = true) (ho : okP (boxN xs) = true) : ((npR (boxN xs)).length : Int) = prodF xs := by
  rw [npR, if_pos ho, boxN_yes h]
  exact len_box xs [] (fun x hx => ((boxOk_iff.1 h).2 x hx).1)
theorem constant_fn (n : Int) : Fn Try.prog 56 [] [nat1 n] (.o (ad (rA (cA n)))) [] :=
  Fn.pure fun B bx al w vs hv => by
    obtain ⟨v, rfl, h⟩ := vals1 hv
    have hv : v = .int .i64 n := dr_int h
    subst hv
    refine (constant_any n w).mono fun e w' ⟨v, h1, h2, h3⟩ => ⟨v, h1, h3, aff_dr ?_⟩
    obtain ⟨u, e1, e2⟩ := h2.r (by simp)
    exact ⟨u, e1, e2.mono fun b hb _ => .inr hb⟩

set_option maxRecDepth 100000 in
set_option maxHeartbeats 1600000 in
theorem box1_fn (n : Int) : Fn Try.prog 54 [] [nat1 n] (.o (bo1 (!inB n 0 99))) [] := by
  refine Fn.code0 Try.func54 rfl rfl rfl rfl ?_
  refine ACode.seq ?_
  refine ACode.region ?_
  refine .cons (.asg rfl rfl) ?_
  refine .nil ?_
  refine ks_n ?_
  refine ACode.seq ?_
  refine ACode.region ?_
  refine .cons (.mv rfl rfl) ?_
  refine .cons (.cP [.tmp 3, .const (.int .i64 (0)), .const (.int .i64 (99))] rfl rfl rfl rfl (within_fn n 0 99) rfl) ?_
  refine .cons (.nt rfl rfl) ?_
  refine .cons (.asg rfl rfl) ?_
  refine .nil ?_
  refine ks_n ?_
  refine ACode.ret ?_
  refine kf_ret rfl ?_ nobox
  rfl

set_option maxRecDepth 100000 in
set_option maxHeartbeats 1600000 in
theorem specBox_fn (xs : List Int) (hx : xs.length ≤ 1099511627776) : Fn Try.prog 18 [] [vD (dIs xs)] (.tup [vD (dLs (boxN xs)), bo1 (boxOk xs)]) [] := by
  refine Fn.code0 Try.func18 rfl rfl rfl rfl ?_
  refine ACode.seq ?_
  refine ACode.region ?_
  refine .cons (.asg rfl rfl) ?_
  refine .cons (.asg rfl rfl) ?_
  refine .nil ?_
  refine ks_n ?_
  refine ACode.seq ?_
  refine ACode.region ?_
  refine .cons (St1.lit0 (k' := 106) (e := 67) (sz := 2) (b := true) rfl rfl rfl rfl (by kernel_rfl) rfl rfl) ?_
  refine .cons (.asg rfl rfl) ?_
  refine .nil ?_
  refine ks_n ?_
  refine ACode.seq ?_
  refine ACode.seq ?_
  refine ACode.region ?_
  refine .cons (.mv rfl rfl) ?_
  refine .cons (.ln 3 1 8 rfl rfl rfl) ?_
  refine .cons (.gt rfl rfl rfl) ?_
  refine .nil ?_
  refine ks_n ?_
  refine .cD rfl (fun h9 => ?_) (fun h9 => ?_)
  · skip
    refine ACode.seq ?_
    have hO : boxOk xs = false := by cases hc : boxOk xs with | false => rfl | true => have := (boxOk_iff.1 hc).1; omega
    have hB := boxN_no hO
    refine ACode.region ?_
    refine .cons (.mv rfl rfl) ?_
    refine .cons (.asg rfl rfl) ?_
    refine .cons (.asg rfl rfl) ?_
    refine .nil ?_
    refine ks_n ?_
    refine ACode.ret ?_
    refine ks_r ?_
    refine kf_wret [(.t 2, .v (.o (vD (dLs (boxN xs))))), (.t 3, .v (.o (bo1 (boxOk xs))))] (Wk.keep [] rfl rfl ⟨ks rfl (.c (.fz rfl (by rw [hB]; first | rfl | (rw [List.take_length, List.map_map]; rfl) | (simp [dR]; done)) (by rw [hB]; simp) (by first | (simp; done) | (simp; omega) | omega))), ks rfl (.dt (by rw [hO])), trivial⟩) rfl ?_ nobox
    rfl
  · skip
    refine ACode.skip ?_
    refine ks_n ?_
    refine ACode.seq ?_
    refine ACode.seq ?_
    refine ACode.region ?_
    refine .cons (.asg rfl rfl) ?_
    refine .nil ?_
    refine ks_n ?_
    refine ACode.block ?_
    refine .loopK (fun m σ => (∃ i : Nat, m = xs.length - i ∧ (i ≤ xs.length) ∧ (∀ j, j < i → 0 ≤ xs.getD j 0 ∧ xs.getD j 0 ≤ 99) ∧ σ = [(.t 0, .v (.o (vD (dIs xs)))), (.t 4, .v (.o (.c (.own 110 2 (i))))), (.t 5, .v (.o (nat1 (i : Nat)))), (.b 110, .b 67 2 (dR ((xs.take i).map (fun n => rL (bL n))))), (.u 110, .u)])) [(110, 106)] ⟨0, rfl, (by omega), (by omega), rfl⟩ ⟨ks rfl .dt, ks rfl (.c .ow), ks rfl .dt, kb 106 rfl (.dt rfl (by first | exact dR_take (fun n => rL (bL n)) hx1 | exact dR_take1 (fun n => rL (bL n)) hx1 | rfl | (rw [hB, List.take_length, List.map_map]; rfl) | (simp [dR]; done))), trivial⟩ ?_
    rintro m σ ⟨i, hm0, hi, hF, rfl⟩
    refine ACode.seq ?_
    refine ACode.seq ?_
    refine ACode.region ?_
    refine .cons (.mv rfl rfl) ?_
    refine .cons (.mv rfl rfl) ?_
    refine .cons (.ln 3 1 8 rfl rfl rfl) ?_
    refine .cons (.ls rfl rfl rfl) ?_
    refine .nil ?_
    refine ks_n ?_
    refine .cD rfl (fun h14 => ?_) (fun h14 => ?_)
    · skip
      obtain ⟨x, hx1⟩ : ∃ x, xs[i]? = some x := ⟨_, List.getElem?_eq_getElem (by omega)⟩
      refine ACode.skip ?_
      refine ks_n ?_
      refine ACode.seq ?_
      refine ACode.block ?_
      refine ACode.seq ?_
      refine ACode.seq ?_
      refine ACode.region ?_
      refine .cons (.mv rfl rfl) ?_
      refine .cons (.mv rfl rfl) ?_
      refine .cons (.xL 3 1 8 rfl rfl rfl rfl rfl) ?_
      refine .cons (.l1 1 rfl rfl) ?_
      refine .cons (.ls rfl rfl rfl) ?_
      refine .cons (.mv rfl rfl) ?_
      refine .cD 22 rfl (fun g22 => ?_) (fun g22 => ?_)
      · skip
        refine .cons (.gF rfl rfl rfl) ?_
        refine .cons (.gF rfl rfl rfl) ?_
        refine .cons (.gF rfl rfl rfl) ?_
        refine .cons (.gF rfl rfl rfl) ?_
        refine .cons (.gF rfl rfl rfl) ?_
        refine .cons (.pT rfl rfl rfl) ?_
        refine .nil ?_
        refine ks_n ?_
        refine ACode.condT rfl (fun _ => ?_) (fun h => by first | (cases h; done) | (simp [*] at h; done) | (exfalso; simp_all; done))
        refine ACode.seq ?_
        have hO : boxOk xs = false := by cases hc : boxOk xs with | false => rfl | true => have := (boxOk_iff.1 hc).2 x (List.mem_of_getElem? hx1); omega
        have hB := boxN_no hO
        refine ACode.region ?_
        refine .cons (St1.lit0 (k' := 129) (e := 67) (sz := 2) (b := true) rfl rfl rfl rfl (by kernel_rfl) rfl rfl) ?_
        refine .cons (.asg rfl rfl) ?_
        refine .cons (.asg rfl rfl) ?_
        refine .nil ?_
        refine ks_n ?_
        refine ACode.ret ?_
        refine ks_r ?_
        refine kb_r ?_
        refine ks_r ?_
        refine kl_r ?_
        refine kb_r ?_
        refine ks_r ?_
        refine kf_wret [(.t 2, .v (.o (vD (dLs (boxN xs))))), (.t 3, .v (.o (bo1 (boxOk xs))))] (Wk.keep [] rfl rfl ⟨ks rfl (.c (.fz rfl (by rw [hB]; first | rfl | (rw [List.take_length, List.map_map]; rfl) | (simp [dR]; done)) (by rw [hB]; simp) (by first | (simp; done) | (simp; omega) | omega))), ks rfl (.dt (by rw [hO])), trivial⟩) rfl ?_ nobox
        rfl
      · skip
        refine .cons (.gT rfl rfl rfl (.mv rfl rfl)) ?_
        refine .cons (.gT rfl rfl rfl (.mv rfl rfl)) ?_
        refine .cons (.gT rfl rfl rfl (.xL 3 1 8 rfl rfl rfl rfl rfl)) ?_
        refine .cons (.gT rfl rfl rfl (.l1 1 rfl rfl)) ?_
        refine .cons (.gT rfl rfl rfl (.gt rfl rfl rfl)) ?_
        refine .cons (.pF rfl rfl rfl) ?_
        refine .nil ?_
        refine ks_n ?_
        refine ACode.condT rfl (fun h28 => ?_) (fun h28 => ?_)
        · try simp only [List.length_map, decide_eq_true_eq, decide_eq_false_iff_not, Bool.not_eq_true', Bool.not_eq_false', Bool.not_eq_true, Bool.not_eq_false] at h28
          refine ACode.seq ?_
          have hO : boxOk xs = false := by cases hc : boxOk xs with | false => rfl | true => have := (boxOk_iff.1 hc).2 x (List.mem_of_getElem? hx1); omega
          have hB := boxN_no hO
          refine ACode.region ?_
          refine .cons (St1.lit0 (k' := 129) (e := 67) (sz := 2) (b := true) rfl rfl rfl rfl (by kernel_rfl) rfl rfl) ?_
          refine .cons (.asg rfl rfl) ?_
          refine .cons (.asg rfl rfl) ?_
          refine .nil ?_
          refine ks_n ?_
          refine ACode.ret ?_
          refine ks_r ?_
          refine kb_r ?_
          refine ks_r ?_
          refine kl_r ?_
          refine kb_r ?_
          refine ks_r ?_
          refine kf_wret [(.t 2, .v (.o (vD (dLs (boxN xs))))), (.t 3, .v (.o (bo1 (boxOk xs))))] (Wk.keep [] rfl rfl ⟨ks rfl (.c (.fz rfl (by rw [hB]; first | rfl | (rw [List.take_length, List.map_map]; rfl) | (simp [dR]; done)) (by rw [hB]; simp) (by first | (simp; done) | (simp; omega) | omega))), ks rfl (.dt (by rw [hO])), trivial⟩) rfl ?_ nobox
          rfl
        · try simp only [List.length_map, decide_eq_true_eq, decide_eq_false_iff_not, Bool.not_eq_true', Bool.not_eq_false', Bool.not_eq_true, Bool.not_eq_false] at h28
          refine ACode.skip ?_
          refine ks_n ?_
          refine ACode.drawK (by kernel_rfl) (by kernel_rfl) ?_
          refine .cons (.mv rfl rfl) ?_
          refine .cons (.cP [] rfl rfl rfl rfl (l1Zero_fn) rfl) ?_
          refine .cons (.li 51 1 0 [.tmp 31] rfl rfl rfl rfl rfl rfl) ?_
          refine .cons (.mv rfl rfl) ?_
          refine .cons (.mv rfl rfl) ?_
          refine .cons (.xL 3 1 8 rfl rfl rfl rfl rfl) ?_
          refine .cons (.l1 1 rfl rfl) ?_
          refine .cons (.cP [.tmp 36] rfl rfl rfl rfl (l1Const_fn x) rfl) ?_
          refine .cons (.li 51 1 0 [.tmp 37] rfl rfl rfl rfl rfl rfl) ?_
          refine .cons (.bu [(0, .tmp 32), (1, .tmp 38)] [(0, 1), (1, 1)] [.slice none 0 0, .slice none 0 0] rfl rfl rfl rfl rfl) ?_
          refine .cons (.li 67 1 0 [.tmp 39] rfl rfl rfl rfl rfl rfl) ?_
          refine .cons (St1.appB (k' := 141) (e := 67) (sz := 1) (by' := 48) rfl rfl rfl rfl rfl (by kernel_rfl) rfl rfl rfl rfl (by simp [dR]; omega) (by simp [dR]; omega) rfl rfl rfl) ?_
          refine .cons (.asg rfl rfl) ?_
          refine .nil ⟨by kernel_rfl, ?_⟩
          refine kb_n ?_
          refine ks_n ?_
          refine ACode.region ?_
          refine .cons (.mv rfl rfl) ?_
          refine .cons (.pl rfl rfl rfl) ?_
          refine .cons (.asg rfl rfl) ?_
          refine .nil ?_
          refine kl_k [(110, 141)] ⟨i + 1, rfl, by omega, by intro j hj; by_cases e : j = i; (rw [e, getD_some hx1]; omega); exact hF j (by omega), rfl⟩ ⟨ks rfl .dt, ks rfl (.c .ow), ks rfl .dt, kb 141 rfl (.dt rfl (by first | exact dR_take (fun n => rL (bL n)) hx1 | exact dR_take1 (fun n => rL (bL n)) hx1 | rfl | (rw [hB, List.take_length, List.map_map]; rfl) | (simp [dR]; done))), trivial⟩
    · skip
      obtain rfl : i = xs.length := by omega
      have hO : boxOk xs = true := boxOk_iff.2 ⟨by omega, fun y hy => by obtain ⟨j, hj⟩ := List.mem_iff_getElem?.1 hy; have h := hF j (List.getElem?_eq_some_iff.1 hj).1; rwa [getD_some hj] at h⟩
      have hB := boxN_yes hO
      refine ACode.exit ?_
      refine ks_e ?_
      refine kl_e ?_
      refine kb_hit ?_
      refine ks_n ?_
      refine ACode.seq ?_
      refine ACode.region ?_
      refine .cons (.mv rfl rfl) ?_
      refine .cons (.asg rfl rfl) ?_
      refine .cons (.asg rfl rfl) ?_
      refine .nil ?_
      refine ks_n ?_
      refine ACode.ret ?_
      refine kf_wret [(.t 2, .v (.o (vD (dLs (boxN xs))))), (.t 3, .v (.o (bo1 (boxOk xs))))] (Wk.keep [] rfl rfl ⟨ks rfl (.c (.fz rfl (by rw [hB]; first | rfl | (rw [List.take_length, List.map_map]; rfl) | (simp [dR]; done)) (by rw [hB]; simp) (by first | (simp; done) | (simp; omega) | omega))), ks rfl (.dt (by rw [hO])), trivial⟩) rfl ?_ nobox
      rfl

set_option maxRecDepth 100000 in
set_option maxHeartbeats 1600000 in
theorem implBox_fn (xs : List Int) (hx : xs.length ≤ 1099511627776) : Fn Try.prog 17 [] [vD (dIs xs)] (.tup [vD (dLs (boxN xs)), bo1 (boxOk xs)]) [] := by
  refine Fn.code0 Try.func17 rfl rfl rfl rfl ?_
  refine ACode.seq ?_
  refine ACode.region ?_
  refine .cons (.asg rfl rfl) ?_
  refine .cons (.asg rfl rfl) ?_
  refine .nil ?_
  refine ks_n ?_
  refine ACode.seq ?_
  refine ACode.seq ?_
  refine ACode.region ?_
  refine .cons (.mv rfl rfl) ?_
  refine .cons (.ln 3 1 8 rfl rfl rfl) ?_
  refine .cons (.gt rfl rfl rfl) ?_
  refine .cons (.mv rfl rfl) ?_
  refine .cD 10 rfl (fun g10 => ?_) (fun g10 => ?_)
  · skip
    refine .cons (.gF rfl rfl rfl) ?_
    refine .cons (.gF rfl rfl rfl) ?_
    refine .cons (.pT rfl rfl rfl) ?_
    refine .nil ?_
    refine ks_n ?_
    refine ACode.condT rfl (fun _ => ?_) (fun h => by first | (cases h; done) | (simp [*] at h; done) | (exfalso; simp_all; done))
    refine ACode.seq ?_
    have hO : boxOk xs = false := by rw [boxOk]; first | (rw [decide_eq_false (show ¬ xs.length ≤ 4 by omega)]; rfl) | (rw [h13, Bool.not_true, Bool.and_false])
    have hB := boxN_no hO
    refine ACode.region ?_
    refine .cons (.asg rfl rfl) ?_
    refine .cons (.asg rfl rfl) ?_
    refine .nil ?_
    refine ks_n ?_
    refine ACode.ret ?_
    refine ks_r ?_
    refine kf_wret [(.t 2, .v (.o (vD (dLs (boxN xs))))), (.t 3, .v (.o (bo1 (boxOk xs))))] (Wk.keep [] rfl rfl ⟨ks rfl (.c (Cto.nilE 2 (by rw [hB]; first | rfl | (rw [hnil]; rfl)))), ks rfl (.dt (by rw [hO])), trivial⟩) rfl ?_ nobox
    rfl
  · skip
    refine .cons (.gT rfl rfl rfl (.mv rfl rfl)) ?_
    refine .cons (.gT rfl rfl rfl (.cP [.tmp 11, .func 54] rfl rfl rfl rfl (cnt_int (f := 54) (cap := []) (by kernel_rfl) (fun n => !inB n 0 99) xs hx (fun n _ => box1_fn n)) rfl)) ?_
    refine .cons (.pF rfl rfl rfl) ?_
    refine .nil ?_
    refine ks_n ?_
    refine ACode.condT rfl (fun h13 => ?_) (fun h13 => ?_)
    · try simp only [List.length_map, decide_eq_true_eq, decide_eq_false_iff_not, Bool.not_eq_true', Bool.not_eq_false', Bool.not_eq_true, Bool.not_eq_false] at h13
      refine ACode.seq ?_
      have hO : boxOk xs = false := by rw [boxOk]; first | (rw [decide_eq_false (show ¬ xs.length ≤ 4 by omega)]; rfl) | (rw [h13, Bool.not_true, Bool.and_false])
      have hB := boxN_no hO
      refine ACode.region ?_
      refine .cons (.asg rfl rfl) ?_
      refine .cons (.asg rfl rfl) ?_
      refine .nil ?_
      refine ks_n ?_
      refine ACode.ret ?_
      refine ks_r ?_
      refine kf_wret [(.t 2, .v (.o (vD (dLs (boxN xs))))), (.t 3, .v (.o (bo1 (boxOk xs))))] (Wk.keep [] rfl rfl ⟨ks rfl (.c (Cto.nilE 2 (by rw [hB]; first | rfl | (rw [hnil]; rfl)))), ks rfl (.dt (by rw [hO])), trivial⟩) rfl ?_ nobox
      rfl
    · try simp only [List.length_map, decide_eq_true_eq, decide_eq_false_iff_not, Bool.not_eq_true', Bool.not_eq_false', Bool.not_eq_true, Bool.not_eq_false] at h13
      refine ACode.skip ?_
      refine ks_n ?_
      refine ACode.seq ?_
      have hO : boxOk xs = true := by rw [boxOk, h13, decide_eq_true (show xs.length ≤ 4 by omega)]; rfl
      have hB := boxN_yes hO
      refine ACode.region ?_
      refine .cons (.asg rfl rfl) ?_
      refine .nil ?_
      refine ks_n ?_
      refine ACode.seq ?_
      refine ACode.seq ?_
      refine ACode.region ?_
      refine .cons (.mv rfl rfl) ?_
      refine .cons (.ln 3 1 8 rfl rfl rfl) ?_
      refine .cons (.mv rfl rfl) ?_
      refine .nil ?_
      refine ks_n ?_
      refine ACode.block ?_
      refine .loopK (fun m σ => (∃ i : Nat, m = xs.length - i ∧ (i = 0) ∧ σ = [(.t 4, .v (.o (.c (.d (.val (.slice none 0 0)))))), (.t 14, .v (.o (vD (dIs xs)))), (.t 15, .v (.o (nat1 (xs.length : Nat)))), (.t 16, .v (.o (nat1 (i : Nat))))]) ∨ (∃ i : Nat, m = xs.length - i ∧ (1 ≤ i) ∧ (i ≤ xs.length) ∧ σ = [(.t 4, .v (.o (.c (.own 110 2 (i))))), (.t 14, .v (.o (vD (dIs xs)))), (.t 15, .v (.o (nat1 (xs.length : Nat)))), (.t 16, .v (.o (nat1 (i : Nat)))), (.b 110, .b 67 2 (dR ((xs.take i).map (fun n => rL (bL n))))), (.u 110, .u)])) [] (.inl ⟨0, rfl, rfl, rfl⟩) ⟨ks rfl .dt, ks rfl .dt, ks rfl .dt, ks rfl .dt, trivial⟩ ?_
      rintro m σ (⟨i, hm0, rfl, rfl⟩ | ⟨i, hm0, hi1, hi, rfl⟩)
      · skip
        refine ACode.seq ?_
        refine ACode.region ?_
        refine .cons (.ls rfl rfl rfl) ?_
        refine .nil ?_
        refine ks_n ?_
        refine ACode.seq ?_
        refine .cD rfl (fun h17 => ?_) (fun h17 => ?_)
        · skip
          obtain ⟨x, hx1⟩ : ∃ x, xs[0]? = some x := ⟨_, List.getElem?_eq_getElem (by omega)⟩
          refine ACode.skip ?_
          refine ks_n ?_
          refine ACode.seq ?_
          refine ACode.block ?_
          refine ACode.seq ?_
          refine ACode.region ?_
          refine .cons (.xL 3 1 8 rfl rfl rfl rfl rfl) ?_
          refine .cons (.l1 1 rfl rfl) ?_
          refine .cons (.asg rfl rfl) ?_
          refine .nil ?_
          refine ks_n ?_
          refine ACode.region ?_
          refine .cons (.mv rfl rfl) ?_
          refine .cons (.cP [.const (.int .i64 (0))] rfl rfl rfl rfl (constant_fn 0) rfl) ?_
          refine .cons (.li 51 1 0 [.tmp 21] rfl rfl rfl rfl rfl rfl) ?_
          refine .cons (.mv rfl rfl) ?_
          refine .cons (.cP [.tmp 23] rfl rfl rfl rfl (constant_fn x) rfl) ?_
          refine .cons (.li 51 1 0 [.tmp 24] rfl rfl rfl rfl rfl rfl) ?_
          refine .cons (.bu [(0, .tmp 22), (1, .tmp 25)] [(0, 1), (1, 1)] [.slice none 0 0, .slice none 0 0] rfl rfl rfl rfl rfl) ?_
          refine .cons (.li 67 1 0 [.tmp 26] rfl rfl rfl rfl rfl rfl) ?_
          refine .cons (St1.appN (k' := 128) (e := 67) (sz := 1) (by' := 48) rfl rfl rfl rfl rfl (by kernel_rfl) rfl rfl rfl (by simp) (by first | (simp [dR]; done) | (simp [dR]; omega)) rfl rfl) ?_
          refine .cons (.asg rfl rfl) ?_
          refine .nil ?_
          refine kb_n ?_
          refine ks_n ?_
          refine ACode.region ?_
          refine .cons (.pl rfl rfl rfl) ?_
          refine .cons (.mv rfl rfl) ?_
          refine .nil ?_
          refine kl_k [(110, 128)] (.inr ⟨1, rfl, by omega, by omega, rfl⟩) ⟨ks rfl (.c .ow), ks rfl .dt, ks rfl .dt, ks rfl .dt, kb 128 rfl (.dt rfl (by first | exact dR_take (fun n => rL (bL n)) hx1 | exact dR_take1 (fun n => rL (bL n)) hx1 | rfl | (rw [hB, List.take_length, List.map_map]; rfl) | (simp [dR]; done))), trivial⟩
        · skip
          have hnil : xs = [] := List.eq_nil_of_length_eq_zero (by omega)
          refine ACode.exit ?_
          refine ks_e ?_
          refine kl_e ?_
          refine kb_hit ?_
          refine ks_n ?_
          refine ACode.seq ?_
          refine ACode.region ?_
          refine .cons (.mv rfl rfl) ?_
          refine .cons (.asg rfl rfl) ?_
          refine .cons (.asg rfl rfl) ?_
          refine .nil ?_
          refine ks_n ?_
          refine ACode.ret ?_
          refine kf_wret [(.t 2, .v (.o (vD (dLs (boxN xs))))), (.t 3, .v (.o (bo1 (boxOk xs))))] (Wk.keep [] rfl rfl ⟨ks rfl (.c (Cto.nilE 2 (by rw [hB]; first | rfl | (rw [hnil]; rfl)))), ks rfl (.dt (by rw [hO])), trivial⟩) rfl ?_ nobox
          rfl
      · skip
        refine ACode.seq ?_
        refine ACode.region ?_
        refine .cons (.ls rfl rfl rfl) ?_
        refine .nil ?_
        refine ks_n ?_
        refine ACode.seq ?_
        refine .cD rfl (fun h17 => ?_) (fun h17 => ?_)
        · skip
          obtain ⟨x, hx1⟩ : ∃ x, xs[i]? = some x := ⟨_, List.getElem?_eq_getElem (by omega)⟩
          refine ACode.skip ?_
          refine ks_n ?_
          refine ACode.seq ?_
          refine ACode.block ?_
          refine ACode.seq ?_
          refine ACode.region ?_
          refine .cons (.xL 3 1 8 rfl rfl rfl rfl rfl) ?_
          refine .cons (.l1 1 rfl rfl) ?_
          refine .cons (.asg rfl rfl) ?_
          refine .nil ?_
          refine ks_n ?_
          refine ACode.region ?_
          refine .cons (.mv rfl rfl) ?_
          refine .cons (.cP [.const (.int .i64 (0))] rfl rfl rfl rfl (constant_fn 0) rfl) ?_
          refine .cons (.li 51 1 0 [.tmp 21] rfl rfl rfl rfl rfl rfl) ?_
          refine .cons (.mv rfl rfl) ?_
          refine .cons (.cP [.tmp 23] rfl rfl rfl rfl (constant_fn x) rfl) ?_
          refine .cons (.li 51 1 0 [.tmp 24] rfl rfl rfl rfl rfl rfl) ?_
          refine .cons (.bu [(0, .tmp 22), (1, .tmp 25)] [(0, 1), (1, 1)] [.slice none 0 0, .slice none 0 0] rfl rfl rfl rfl rfl) ?_
          refine .cons (.li 67 1 0 [.tmp 26] rfl rfl rfl rfl rfl rfl) ?_
          refine .cons (St1.appB (k' := 128) (e := 67) (sz := 1) (by' := 48) rfl rfl rfl rfl rfl (by kernel_rfl) rfl rfl rfl rfl (by first | (simp [dR]; done) | (simp [dR]; omega)) (by first | (simp [dR]; done) | (simp [dR]; omega)) rfl rfl rfl) ?_
          refine .cons (.asg rfl rfl) ?_
          refine .nil ?_
          refine kb_n ?_
          refine ks_n ?_
          refine ACode.region ?_
          refine .cons (.pl rfl rfl rfl) ?_
          refine .cons (.mv rfl rfl) ?_
          refine .nil ?_
          refine kl_k [(110, 128)] (.inr ⟨i + 1, rfl, by omega, by omega, rfl⟩) ⟨ks rfl (.c .ow), ks rfl .dt, ks rfl .dt, ks rfl .dt, kb 128 rfl (.dt rfl (by first | exact dR_take (fun n => rL (bL n)) hx1 | exact dR_take1 (fun n => rL (bL n)) hx1 | rfl | (rw [hB, List.take_length, List.map_map]; rfl) | (simp [dR]; done))), trivial⟩
        · skip
          obtain rfl : i = xs.length := by omega
          refine ACode.exit ?_
          refine ks_e ?_
          refine kl_e ?_
          refine kb_hit ?_
          refine ks_n ?_
          refine ACode.seq ?_
          refine ACode.region ?_
          refine .cons (.mv rfl rfl) ?_
          refine .cons (.asg rfl rfl) ?_
          refine .cons (.asg rfl rfl) ?_
          refine .nil ?_
          refine ks_n ?_
          refine ACode.ret ?_
          refine kf_wret [(.t 2, .v (.o (vD (dLs (boxN xs))))), (.t 3, .v (.o (bo1 (boxOk xs))))] (Wk.keep [] rfl rfl ⟨ks rfl (.c (.fz rfl (by rw [hB]; first | rfl | (rw [List.take_length, List.map_map]; rfl) | (simp [dR]; done)) (by rw [hB]; simp) (by first | (simp; done) | (simp; omega) | omega))), ks rfl (.dt (by rw [hO])), trivial⟩) rfl ?_ nobox
          rfl

def boxE (bs : List Int) : Nat → List Int → Nat → List Int × Nat
  | 0, xs, p => (xs, p)
  | n + 1, xs, p => boxE bs n (xs ++ [numV bs p [2, 3, 1, 0, 4, 2, 99, 100, -1]]) (p + 1)
def boxD (bs : List Int) : List Int × Nat := boxE bs (numV bs 0 [2, 1, 3, 0, 4, 5]).toNat [] 1
theorem boxE_len (bs : List Int) : ∀ (n : Nat) (xs : List Int) (p : Nat), (boxE bs n xs p).1.length = xs.length + n
  | 0, xs, p => rfl
  | n + 1, xs, p => by rw [boxE, boxE_len bs n]; simp; omega

set_option maxRecDepth 100000 in
set_option maxHeartbeats 1600000 in
theorem drawBox_fn {bs : List Int} (hb : Bytes (bs.take 2000))  : Fn Try.prog 16 [] [vD (dYs bs)] (.o (vD (dIs (boxD (bs.take 2000)).1))) [] := by
  have hm := numV_mem hb (p := 0) (by omega) (xs := [2, 1, 3, 0, 4, 5]) (by simp)
  obtain ⟨N, hN⟩ : ∃ N : Nat, N = (numV (bs.take 2000) 0 [2, 1, 3, 0, 4, 5]).toNat := ⟨_, rfl⟩
  have hN5 : N ≤ 5 := by simp at hm; omega
  have hNv : numV (bs.take 2000) 0 [2, 1, 3, 0, 4, 5] = (N : Int) := by simp at hm; omega
  refine Fn.code0 Try.func16 rfl rfl rfl rfl ?_
  refine ACode.seq ?_
  refine ACode.region ?_
  refine .cons (.asg rfl rfl) ?_
  refine .nil ?_
  refine ks_n ?_
  refine ACode.seq ?_
  refine ACode.region ?_
  refine .cons (.mv rfl rfl) ?_
  refine .cons (.cO [.tmp 6] [(100, 107)] rfl rfl rfl rfl (l16Open_fn bs) rfl trivial flatS.nil (flatS.nil.cons rfl) HB.nil.data outS_one) ?_
  refine .cons (.asg rfl rfl) ?_
  refine .nil ?_
  refine ks_n ?_
  refine ACode.seq ?_
  refine ACode.region ?_
  refine .cons (St1.lit0 (k' := 108) (e := 3) (sz := 1) (b := true) rfl rfl rfl rfl (by kernel_rfl) rfl rfl) ?_
  refine .cons (.asg rfl rfl) ?_
  refine .nil ?_
  refine ks_n ?_
  refine ACode.seq ?_
  refine ACode.seq ?_
  refine ACode.region ?_
  refine .cons (.mv rfl rfl) ?_
  refine .cons (.li 3 0 5 [.const (.int .i64 (2)), .const (.int .i64 (1)), .const (.int .i64 (3)), .const (.int .i64 (0)), .const (.int .i64 (4)), .const (.int .i64 (5))] rfl rfl rfl rfl rfl rfl) ?_
  refine .cons (.cR [.tmp 9, .tmp 10] 107 rfl rfl rfl rfl (num_fn hb (by omega) [2, 1, 3, 0, 4, 5] (by simp)) rfl ⟨rfl, trivial⟩) ?_
  refine .cons (.asg rfl rfl) ?_
  refine .nil ?_
  refine ks_n ?_
  refine ACode.block ?_
  refine .loopK (fun m σ => (∃ (n : Nat) (xs : List Int) (q : Nat), m = n + 0 ∧ (boxE (bs.take 2000) n xs q = boxD (bs.take 2000)) ∧ (n + xs.length ≤ 5) ∧ (q + n ≤ 6) ∧ σ = [(.t 3, .v (.o (.c (.box 110 2 0 0)))), (.t 4, .v (.o (.c (.own 111 1 (xs.length))))), (.t 5, .v (.o (nat1 (n : Nat)))), (.b 110, .b 105 2 (dR ([rRd (bs.take 2000) q]))), (.u 110, .u), (.b 111, .b 3 1 (dR (xs.map rI))), (.u 111, .u)])) [(110, 107), (111, 108)] ⟨N, [], 1, rfl, (by rw [boxD, ← hN]), (by simpa using hN5), (by omega), rfl⟩ ⟨ks rfl (.c .bx), ks rfl (.c .ow), ks rfl .dt, kb 107 rfl (.dt rfl), kb 108 rfl (.dt rfl (by first | rfl | (simp [dR]; done) | (simp [dR]; rfl))), trivial⟩ ?_
  rintro m σ ⟨n, xs, q, hm0, hE, hl, hq, rfl⟩
  refine ACode.seq ?_
  refine ACode.seq ?_
  refine ACode.region ?_
  refine .cons (.mv rfl rfl) ?_
  refine .cons (.gt rfl rfl rfl) ?_
  refine .nil ?_
  refine ks_n ?_
  refine .cD rfl (fun h13 => ?_) (fun h13 => ?_)
  · skip
    refine ACode.skip ?_
    refine ks_n ?_
    refine ACode.seq ?_
    refine ACode.block ?_
    refine ACode.region ?_
    refine .cons (.mv rfl rfl) ?_
    refine .cons (.mv rfl rfl) ?_
    refine .cons (.li 3 0 8 [.const (.int .i64 (2)), .const (.int .i64 (3)), .const (.int .i64 (1)), .const (.int .i64 (0)), .const (.int .i64 (4)), .const (.int .i64 (2)), .const (.int .i64 (99)), .const (.int .i64 (100)), .const (.int .i64 (-1))] rfl rfl rfl rfl rfl rfl) ?_
    refine .cons (.cR [.tmp 17, .tmp 18] 110 rfl rfl rfl rfl (num_fn hb (by omega) [2, 3, 1, 0, 4, 2, 99, 100, -1] (by simp)) rfl ⟨rfl, trivial⟩) ?_
    refine .cons (.li 3 0 0 [.tmp 19] rfl rfl rfl rfl rfl rfl) ?_
    refine .cons (St1.appB (k' := 121) (e := 3) (sz := 0) (by' := 8) rfl rfl rfl rfl rfl (by kernel_rfl) rfl rfl rfl rfl (by simp [dR]) (by simp [dR]; omega) rfl rfl rfl) ?_
    refine .cons (.asg rfl rfl) ?_
    refine .nil ?_
    refine kb_n ?_
    refine ks_n ?_
    refine ACode.region ?_
    refine .cons (.mv rfl rfl) ?_
    refine .cons (.sb rfl rfl rfl) ?_
    refine .cons (.asg rfl rfl) ?_
    refine .nil ?_
    refine kl_k [(110, 110), (111, 121)] ⟨n - 1, xs ++ [numV (bs.take 2000) q [2, 3, 1, 0, 4, 2, 99, 100, -1]], q + 1, rfl, by rw [← hE, show n = (n - 1) + 1 by omega]; rfl, by simp; omega, by omega, rfl⟩ ⟨ks rfl (.c .bx), ks rfl (.c .ow), ks rfl .dt, kb 110 rfl (.dt rfl), kb 121 rfl (.dt rfl (by first | rfl | (simp [dR]; done) | (simp [dR]; rfl))), trivial⟩
  · skip
    obtain rfl : n = 0 := by omega
    have hRb : boxD (bs.take 2000) = (xs, q) := hE.symm
    rw [hRb]
    refine ACode.exit ?_
    refine ks_e ?_
    refine kl_e ?_
    refine kb_hit ?_
    refine ks_n ?_
    refine ACode.seq ?_
    refine ACode.region ?_
    refine .cons (.mv rfl rfl) ?_
    refine .cons (.asg rfl rfl) ?_
    refine .nil ?_
    refine ks_n ?_
    refine ACode.ret ?_
    refine kf_wret [(.t 2, .v (.o (vD (dIs xs))))] (Wk.keep [] rfl rfl ⟨ks rfl (.c (.fz rfl)), trivial⟩) rfl ?_ nobox
    rfl

end Go.Proofs.Ytgcpdpbapgkdjaa

/- Law FnBoxNest; condition: bytes. -/
namespace Go.Proofs.Ytgcpdpbapgkdjaa
set_option linter.unusedVariables false
set_option linter.unusedSimpArgs false
open Go.RowKit

theorem prod_bd {p x : Int} {i : Nat} (hp : 0 ≤ p ∧ p ≤ 100 ^ i) (hx : 0 ≤ x ∧ x ≤ 99) (hi : i < 4) : (0 ≤ p * x ∧ p * x ≤ 100 ^ (i + 1)) ∧ p * x ≤ 100000000 := by
  have h0 : 0 ≤ p * x := Int.mul_nonneg hp.1 hx.1
  have h1 : p * x ≤ 100 ^ i * 100 := Int.le_trans (Int.mul_le_mul_of_nonneg_left (show x ≤ 100 by omega) hp.1) (Int.mul_le_mul_of_nonneg_right hp.2 (by omega))
  rw [← Int.pow_succ] at h1
  have h2 : (100 : Int) ^ (i + 1) ≤ 100000000 := by
    match i, hi with
    | 0, _ => decide
    | 1, _ => decide
    | 2, _ => decide
    | 3, _ => decide
  exact ⟨⟨h0, h1⟩, Int.le_trans h1 h2⟩

theorem boxD_len {bs : List Int} (hb : Bytes bs) : (boxD bs).1.length ≤ 5 := by
  have hm := numV_mem hb (p := 0) (by omega) (xs := [2, 1, 3, 0, 4, 5]) (by simp)
  rw [boxD, boxE_len]
  simp at hm ⊢; omega

set_option maxRecDepth 100000 in
set_option maxHeartbeats 1600000 in
theorem boxNest_core {bs : List Int} (hl : bs.length ≤ 1048576) {xs : List Int} (hx : xs.length ≤ 100) (hD : Fn Try.prog 16 [] [vD (dYs bs)] (.o (vD (dIs xs))) []) : Fn Try.prog 4 [] [vD (dYs bs)] (.o (bo1 true)) [] := by
  have hs := boxN_sm xs
  have hn := npR_len (boxN xs)
  refine Fn.code0 Try.func4 rfl rfl rfl rfl ?_
  refine ACode.seq ?_
  refine ACode.region ?_
  refine .cons (.asg rfl rfl) ?_
  refine .nil ?_
  refine ks_n ?_
  refine ACode.seq ?_
  refine ACode.seq ?_
  refine ACode.region ?_
  refine .cons (.mv rfl rfl) ?_
  refine .cons (.ln 5 1 1 rfl rfl rfl) ?_
  refine .cons (.gt rfl rfl rfl) ?_
  refine .nil ?_
  refine ks_n ?_
  refine .cD rfl (fun h14 => ?_) (fun h14 => ?_)
  · skip
    omega
  · skip
    refine ACode.skip ?_
    refine ks_n ?_
    refine ACode.seq ?_
    refine ACode.region ?_
    refine .cons (.mv rfl rfl) ?_
    refine .cons (.cP [.tmp 15] rfl rfl rfl rfl (hD) rfl) ?_
    refine .cons (.asg rfl rfl) ?_
    refine .nil ?_
    refine ks_n ?_
    refine ACode.seq ?_
    refine ACode.region ?_
    refine .cons (.mv rfl rfl) ?_
    refine .cons (.cP [.tmp 18] rfl rfl rfl rfl (implBox_fn xs (by omega)) rfl) ?_
    refine .cons (.mv rfl rfl) ?_
    refine .cons (.ex rfl rfl rfl) ?_
    refine .cons (.ex rfl rfl rfl) ?_
    refine .cons (.asg rfl rfl) ?_
    refine .cons (.asg rfl rfl) ?_
    refine .nil ?_
    refine ks_n ?_
    refine ACode.seq ?_
    refine ACode.region ?_
    refine .cons (.mv rfl rfl) ?_
    refine .cons (.cP [.tmp 23] rfl rfl rfl rfl (specBox_fn xs (by omega)) rfl) ?_
    refine .cons (.mv rfl rfl) ?_
    refine .cons (.ex rfl rfl rfl) ?_
    refine .cons (.ex rfl rfl rfl) ?_
    refine .cons (.asg rfl rfl) ?_
    refine .cons (.asg rfl rfl) ?_
    refine .nil ?_
    refine ks_n ?_
    refine ACode.seq ?_
    refine ACode.seq ?_
    refine ACode.region ?_
    refine .cons (.mv rfl rfl) ?_
    refine .cons (.mv rfl rfl) ?_
    refine .cons (St1.neqB rfl rfl rfl rfl (by kernel_rfl) rfl rfl) ?_
    refine .cons (.mv rfl rfl) ?_
    refine AOps.cases 30 _ rfl (fun g30 => ?_) (fun g30 => ?_)
    · try simp only [List.length_map, decide_eq_true_eq, decide_eq_false_iff_not, Bool.not_eq_true', Bool.not_eq_false', Bool.not_eq_true, Bool.not_eq_false] at g30
      rw [beq_self_eq_true] at g30; cases g30
    · try simp only [List.length_map, decide_eq_true_eq, decide_eq_false_iff_not, Bool.not_eq_true', Bool.not_eq_false', Bool.not_eq_true, Bool.not_eq_false] at g30
      refine .cons (.gT rfl rfl rfl (.mv rfl rfl)) ?_
      refine .cons (.gT rfl rfl rfl (.mv rfl rfl)) ?_
      refine .cons (.gT rfl rfl rfl (.cP [.tmp 31, .tmp 32] rfl rfl rfl rfl (implNestSame_fn _ _ hs) rfl)) ?_
      refine .cons (.gT rfl rfl rfl (.nt rfl rfl)) ?_
      refine .cons (.pF rfl rfl rfl) ?_
      refine .cons (.mv rfl rfl) ?_
      refine AOps.cases 36 _ rfl (fun g36 => ?_) (fun g36 => ?_)
      · try simp only [List.length_map, decide_eq_true_eq, decide_eq_false_iff_not, Bool.not_eq_true', Bool.not_eq_false', Bool.not_eq_true, Bool.not_eq_false] at g36
        first | exact absurd trivial g36 | exact absurd rfl g36
      · try simp only [List.length_map, decide_eq_true_eq, decide_eq_false_iff_not, Bool.not_eq_true', Bool.not_eq_false', Bool.not_eq_true, Bool.not_eq_false] at g36
        refine .cons (.gT rfl rfl rfl (.mv rfl rfl)) ?_
        refine .cons (.gT rfl rfl rfl (.nt rfl rfl)) ?_
        refine .cons (.pF rfl rfl rfl) ?_
        refine .nil ?_
        refine ks_n ?_
        refine ACode.condT rfl (fun h39 => ?_) (fun h39 => ?_)
        · try simp only [List.length_map, decide_eq_true_eq, decide_eq_false_iff_not, Bool.not_eq_true', Bool.not_eq_false', Bool.not_eq_true, Bool.not_eq_false] at h39
          refine ACode.seq ?_
          refine ACode.region ?_
          refine .cons (.mv rfl rfl) ?_
          refine .cons (.mv rfl rfl) ?_
          refine .cons (St1.eqlB rfl rfl rfl rfl (by kernel_rfl) rfl rfl) ?_
          refine .cons (.mv rfl rfl) ?_
          refine AOps.cases 43 _ rfl (fun g43 => ?_) (fun g43 => ?_)
          · try simp only [List.length_map, decide_eq_true_eq, decide_eq_false_iff_not, Bool.not_eq_true', Bool.not_eq_false', Bool.not_eq_true, Bool.not_eq_false] at g43
            refine .cons (.gT rfl rfl rfl (.mv rfl rfl)) ?_
            refine .cons (.gT rfl rfl rfl (.mv rfl rfl)) ?_
            refine .cons (.gT rfl rfl rfl (.cP [.tmp 44, .tmp 45] rfl rfl rfl rfl (implNestSame_fn _ _ hs) rfl)) ?_
            refine .cons (.pT rfl rfl rfl) ?_
            refine .cons (.asg rfl rfl) ?_
            refine .nil ?_
            refine ks_n ?_
            refine ACode.ret ?_
            refine ks_r ?_
            refine kf_ret rfl ?_ nobox
            first | rfl | exact leafB (beq_self_eq_true _) | exact leafB (decide_eq_true (by rw [hpf]; exact pts_box ho (by assumption))) | exact leafB (by simp)
          · try simp only [List.length_map, decide_eq_true_eq, decide_eq_false_iff_not, Bool.not_eq_true', Bool.not_eq_false', Bool.not_eq_true, Bool.not_eq_false] at g43
            rw [beq_self_eq_true] at g43; cases g43
        · try simp only [List.length_map, decide_eq_true_eq, decide_eq_false_iff_not, Bool.not_eq_true', Bool.not_eq_false', Bool.not_eq_true, Bool.not_eq_false] at h39
          have ho : boxOk xs = true := h39
          obtain ⟨h4, hb⟩ := boxOk_iff.1 ho
          refine ACode.skip ?_
          refine ks_n ?_
          refine ACode.seq ?_
          refine ACode.region ?_
          refine .cons (.asg rfl rfl) ?_
          refine .nil ?_
          refine ks_n ?_
          refine ACode.seq ?_
          refine ACode.seq ?_
          refine ACode.region ?_
          refine .cons (.asg rfl rfl) ?_
          refine .nil ?_
          refine ks_n ?_
          refine ACode.block ?_
          refine .loopK (fun m σ => (∃ (i : Nat) (p : Int), m = xs.length - i ∧ (i ≤ xs.length) ∧ (0 ≤ p ∧ p ≤ 100 ^ i) ∧ (prodTo p (xs.drop i) = prodTo 1 xs) ∧ σ = [(.t 3, .v (.o (vD (dIs xs)))), (.t 4, .v (.o (vD (dLs (boxN xs))))), (.t 8, .v (.o (nat1 p))), (.t 9, .v (.o (nat1 (i : Nat))))])) [] ⟨0, 1, rfl, (by omega), (by simp), rfl, rfl⟩ ⟨ks rfl .dt, ks rfl .dt, ks rfl .dt, ks rfl .dt, trivial⟩ ?_
          rintro m σ ⟨i, p, hm0, hi, hp, hF, rfl⟩
          refine ACode.seq ?_
          refine ACode.seq ?_
          refine ACode.region ?_
          refine .cons (.mv rfl rfl) ?_
          refine .cons (.mv rfl rfl) ?_
          refine .cons (.ln 3 1 8 rfl rfl rfl) ?_
          refine .cons (.ls rfl rfl rfl) ?_
          refine .nil ?_
          refine ks_n ?_
          refine .cD rfl (fun h51 => ?_) (fun h51 => ?_)
          · skip
            obtain ⟨x, hx1⟩ : ∃ x, xs[i]? = some x := ⟨_, List.getElem?_eq_getElem (by omega)⟩
            have hq := prod_bd hp (hb x (List.mem_of_getElem? hx1)) (by omega)
            refine ACode.skip ?_
            refine ks_n ?_
            refine ACode.seq ?_
            refine ACode.block ?_
            refine ACode.region ?_
            refine .cons (.mv rfl rfl) ?_
            refine .cons (.mv rfl rfl) ?_
            refine .cons (.mv rfl rfl) ?_
            refine .cons (.xL 3 1 8 rfl rfl rfl rfl rfl) ?_
            refine .cons (.l1 1 rfl rfl) ?_
            refine .cons (.ml rfl rfl rfl) ?_
            refine .cons (.asg rfl rfl) ?_
            refine .nil ?_
            refine kb_n ?_
            refine ks_n ?_
            refine ACode.region ?_
            refine .cons (.mv rfl rfl) ?_
            refine .cons (.pl rfl rfl rfl) ?_
            refine .cons (.asg rfl rfl) ?_
            refine .nil ?_
            refine kl_k [] ⟨i + 1, p * x, rfl, by omega, hq.1, by rw [← hF, prodTo_drop hx1], rfl⟩ ⟨ks rfl .dt, ks rfl .dt, ks rfl .dt, ks rfl .dt, trivial⟩
          · skip
            have hpf : p = prodF xs := by rw [List.drop_of_length_le (by omega)] at hF; rw [prodTo] at hF; rw [hF, prodTo_eq, Int.one_mul]
            refine ACode.exit ?_
            refine ks_e ?_
            refine kl_e ?_
            refine kb_hit ?_
            refine ks_n ?_
            refine ACode.seq ?_
            refine ACode.region ?_
            refine .cons (.mv rfl rfl) ?_
            refine .cons (.cP [.tmp 61] rfl rfl rfl rfl (implNestPts_fn _ hs) rfl) ?_
            refine .cons (.mv rfl rfl) ?_
            refine .cons (.ex rfl rfl rfl) ?_
            refine .cons (.ex rfl rfl rfl) ?_
            refine .cons (.asg rfl rfl) ?_
            refine .cons (.asg rfl rfl) ?_
            refine .nil ?_
            refine ks_n ?_
            refine ACode.seq ?_
            refine ACode.region ?_
            refine .cons (.mv rfl rfl) ?_
            refine .cons (.cP [.tmp 65] rfl rfl rfl rfl (implNestV_fn _ hs) rfl) ?_
            refine .cons (.mv rfl rfl) ?_
            refine AOps.cases 67 _ rfl (fun g67 => ?_) (fun g67 => ?_)
            · try simp only [List.length_map, decide_eq_true_eq, decide_eq_false_iff_not, Bool.not_eq_true', Bool.not_eq_false', Bool.not_eq_true, Bool.not_eq_false] at g67
              refine .cons (.gT rfl rfl rfl (.mv rfl rfl)) ?_
              refine .cons (.gT rfl rfl rfl (.cP [.tmp 68] rfl rfl rfl rfl (implRect_fn _ hs) rfl)) ?_
              refine .cons (.pT rfl rfl rfl) ?_
              refine .cons (.mv rfl rfl) ?_
              refine AOps.cases 71 _ rfl (fun g71 => ?_) (fun g71 => ?_)
              · try simp only [List.length_map, decide_eq_true_eq, decide_eq_false_iff_not, Bool.not_eq_true', Bool.not_eq_false', Bool.not_eq_true, Bool.not_eq_false] at g71
                refine .cons (.gT rfl rfl rfl (.mv rfl rfl)) ?_
                refine .cons (.gT rfl rfl rfl (.nt rfl rfl)) ?_
                refine .cons (.gT rfl rfl rfl (.mv rfl rfl)) ?_
                refine AOps.cases 74 _ rfl (fun g74 => ?_) (fun g74 => ?_)
                · try simp only [List.length_map, decide_eq_true_eq, decide_eq_false_iff_not, Bool.not_eq_true', Bool.not_eq_false', Bool.not_eq_true, Bool.not_eq_false] at g74
                  refine .cons (.gF rfl rfl rfl) ?_
                  refine .cons (.gF rfl rfl rfl) ?_
                  refine .cons (.gF rfl rfl rfl) ?_
                  refine .cons (.gF rfl rfl rfl) ?_
                  refine .cons (.gT rfl rfl rfl (.pT rfl rfl rfl)) ?_
                  refine .cons (.pT rfl rfl rfl) ?_
                  refine .cons (.asg rfl rfl) ?_
                  refine .nil ?_
                  refine ks_n ?_
                  refine ACode.ret ?_
                  refine kf_ret rfl ?_ nobox
                  first | rfl | exact leafB (beq_self_eq_true _) | exact leafB (decide_eq_true (by rw [hpf]; exact pts_box ho (by assumption))) | exact leafB (by simp)
                · try simp only [List.length_map, decide_eq_true_eq, decide_eq_false_iff_not, Bool.not_eq_true', Bool.not_eq_false', Bool.not_eq_true, Bool.not_eq_false] at g74
                  refine .cons (.gT rfl rfl rfl (.mv rfl rfl)) ?_
                  refine .cons (.gT rfl rfl rfl (.ln 28 1 24 rfl rfl rfl)) ?_
                  refine .cons (.gT rfl rfl rfl (.mv rfl rfl)) ?_
                  refine .cons (.gT rfl rfl rfl (.eq rfl rfl rfl)) ?_
                  refine .cons (.gT rfl rfl rfl (.pF rfl rfl rfl)) ?_
                  refine .cons (.pT rfl rfl rfl) ?_
                  refine .cons (.asg rfl rfl) ?_
                  refine .nil ?_
                  refine ks_n ?_
                  refine ACode.ret ?_
                  refine kf_ret rfl ?_ nobox
                  first | rfl | exact leafB (beq_self_eq_true _) | exact leafB (decide_eq_true (by rw [hpf]; exact pts_box ho (by assumption))) | exact leafB (by simp)
              · try simp only [List.length_map, decide_eq_true_eq, decide_eq_false_iff_not, Bool.not_eq_true', Bool.not_eq_false', Bool.not_eq_true, Bool.not_eq_false] at g71
                rw [rect_box ho] at g71; cases g71
            · try simp only [List.length_map, decide_eq_true_eq, decide_eq_false_iff_not, Bool.not_eq_true', Bool.not_eq_false', Bool.not_eq_true, Bool.not_eq_false] at g67
              rw [nsV_box ho] at g67; cases g67

set_option maxRecDepth 100000 in
set_option maxHeartbeats 1600000 in
theorem boxNest_big (a : Option Addr) (n c : Nat) (hn : 1048576 < n) : Fn Try.prog 4 [] [vX a n c] (.o (bo1 true)) [] := by
  refine Fn.code0 Try.func4 rfl rfl rfl rfl ?_
  refine ACode.seq ?_
  refine ACode.region ?_
  refine .cons (.asg rfl rfl) ?_
  refine .nil ?_
  refine ks_n ?_
  refine ACode.seq ?_
  refine ACode.seq ?_
  refine ACode.region ?_
  refine .cons (.mv rfl rfl) ?_
  refine .cons (St1.lenN (e := 5) (m := 1) (by' := 1) rfl rfl rfl rfl rfl (by kernel_rfl) rfl) ?_
  refine .cons (.gt rfl rfl rfl) ?_
  refine .nil ?_
  refine ks_n ?_
  refine .cD rfl (fun h14 => ?_) (fun h14 => ?_)
  · skip
    refine ACode.seq ?_
    refine ACode.region ?_
    refine .cons (.asg rfl rfl) ?_
    refine .nil ?_
    refine ks_n ?_
    refine ACode.ret ?_
    refine ks_r ?_
    refine kf_ret rfl ?_ nobox
    rfl
  · skip
    omega

theorem lawBoxNest (a : Option Addr) (n c : Nat) (bs : List Int) (w : World) (hx : n ≤ 1048576 → Sl Sh.byte (fun b => b < w.heap.size) w (.slice a n c) bs) (hbs : ∀ x ∈ bs, 0 ≤ x ∧ x ≤ 255) : Truth Try.prog 4 #[.slice a n c] w :=
  law1 ⟨hx, hbs⟩ (fun h => boxNest_big a n c h) (fun hl hb => by
    exact boxNest_core hl (by have := boxD_len hb; omega) (drawBox_fn hb))

end Go.Proofs.Ytgcpdpbapgkdjaa
