/- Part 6 of 6 of the proof: laws on memory and data, then what the functions compute, in the order in which they build on each other; conditions: those that each theorem names. -/
import Derived.Test.YtgcpdpbapgkdjaaP5

/- Lists compared; draws of points; condition: small nests. -/
namespace Go.Proofs.Ytgcpdpbapgkdjaa
set_option linter.unusedVariables false
set_option linter.unusedSimpArgs false
open Go.RowKit

set_option maxRecDepth 100000 in
set_option maxHeartbeats 1600000 in
theorem lnInts_fn (xs ys : List Int) (hx : xs.length ≤ 1099511627776) : Fn Try.prog 39 [] [vD (dIs xs), vD (dIs ys)] (.o (bo1 (decide (xs = ys)))) [] := by
  rw [← eqF_dec]
  refine Fn.code0 Try.func39 rfl rfl rfl rfl ?_
  refine ACode.seq ?_
  refine ACode.region ?_
  refine .cons (.asg rfl rfl) ?_
  refine .nil ?_
  refine ks_n ?_
  refine ACode.seq ?_
  refine ACode.seq ?_
  refine ACode.region ?_
  refine .cons (.mv rfl rfl) ?_
  refine .cons (.ln 3 1 8 rfl rfl rfl) ?_
  refine .cons (.mv rfl rfl) ?_
  refine .cons (.ln 3 1 8 rfl rfl rfl) ?_
  refine .cons (.ne rfl rfl rfl) ?_
  refine .nil ?_
  refine ks_n ?_
  refine .cND rfl (fun h10 => ?_) (fun h10 => ?_)
  · skip
    refine ACode.seq ?_
    refine ACode.region ?_
    refine .cons (.asg rfl rfl) ?_
    refine .nil ?_
    refine ks_n ?_
    refine ACode.ret ?_
    refine ks_r ?_
    refine kf_ret rfl ?_ nobox
    exact leafB (eqF_len (by omega)).symm
  · skip
    refine ACode.skip ?_
    refine ks_n ?_
    refine ACode.seq ?_
    refine ACode.seq ?_
    refine ACode.region ?_
    refine .cons (.asg rfl rfl) ?_
    refine .nil ?_
    refine ks_n ?_
    refine ACode.block ?_
    refine .loopK (fun m σ => (∃ i : Nat, m = xs.length - i ∧ (i ≤ xs.length) ∧ (eqF (fun x y => decide (x = y)) xs ys = eqF (fun x y => decide (x = y)) (xs.drop i) (ys.drop i)) ∧ σ = [(.t 0, .v (.o (vD (dIs xs)))), (.t 1, .v (.o (vD (dIs ys)))), (.t 5, .v (.o (nat1 (i : Nat))))])) [] ⟨0, rfl, by omega, by simp, rfl⟩ ⟨ks rfl .dt, ks rfl .dt, ks rfl .dt, trivial⟩ ?_
    rintro m σ ⟨i, hm0, hi, hF, rfl⟩
    refine ACode.seq ?_
    refine ACode.seq ?_
    refine ACode.region ?_
    refine .cons (.mv rfl rfl) ?_
    refine .cons (.mv rfl rfl) ?_
    refine .cons (.ln 3 1 8 rfl rfl rfl) ?_
    refine .cons (.ls rfl rfl rfl) ?_
    refine .nil ?_
    refine ks_n ?_
    refine .cD rfl (fun h14 => ?_) (fun h14 => ?_)
    · skip
      obtain ⟨x, hx1⟩ : ∃ x, xs[i]? = some x := ⟨_, List.getElem?_eq_getElem (by omega)⟩
      obtain ⟨y, hy1⟩ : ∃ x, ys[i]? = some x := ⟨_, List.getElem?_eq_getElem (by omega)⟩
      refine ACode.skip ?_
      refine ks_n ?_
      refine ACode.seq ?_
      refine ACode.block ?_
      refine ACode.seq ?_
      refine ACode.drawK (by kernel_rfl) (by kernel_rfl) ?_
      refine .cons (.mv rfl rfl) ?_
      refine .cons (.mv rfl rfl) ?_
      refine .cons (.xL 3 1 8 rfl rfl rfl rfl rfl) ?_
      refine .cons (.l1 1 rfl rfl) ?_
      refine .cons (.mv rfl rfl) ?_
      refine .cons (.mv rfl rfl) ?_
      refine .cons (.xL 3 1 8 rfl rfl rfl rfl rfl) ?_
      refine .cons (.l1 1 rfl rfl) ?_
      refine .cons (.ne rfl rfl rfl) ?_
      refine .nil ⟨by kernel_rfl, ?_⟩
      refine ks_n ?_
      refine .cND rfl (fun h25 => ?_) (fun h25 => ?_)
      · skip
        refine ACode.seq ?_
        have gg : decide (x = y) = false := decide_eq_false h25
        refine ACode.region ?_
        refine .cons (.asg rfl rfl) ?_
        refine .nil ?_
        refine ks_n ?_
        refine ACode.ret ?_
        refine kb_r ?_
        refine ks_r ?_
        refine kl_r ?_
        refine kb_r ?_
        refine ks_r ?_
        refine kf_ret rfl ?_ nobox
        exact leafB (by rw [hF, eqF_drop hx1 hy1, gg]; rfl)
      · skip
        refine ACode.skip ?_
        refine kb_n ?_
        refine ks_n ?_
        have gg : decide (x = y) = true := decide_eq_true h25
        refine ACode.region ?_
        refine .cons (.mv rfl rfl) ?_
        refine .cons (.pl rfl rfl rfl) ?_
        refine .cons (.asg rfl rfl) ?_
        refine .nil ?_
        refine kl_k [] ⟨i + 1, rfl, by omega, by rw [hF, eqF_drop hx1 hy1, gg, Bool.true_and], rfl⟩ ⟨ks rfl .dt, ks rfl .dt, ks rfl .dt, trivial⟩
    · skip
      refine ACode.exit ?_
      refine ks_e ?_
      refine kl_e ?_
      refine kb_hit ?_
      refine ks_n ?_
      refine ACode.seq ?_
      refine ACode.region ?_
      refine .cons (.asg rfl rfl) ?_
      refine .nil ?_
      refine ks_n ?_
      refine ACode.ret ?_
      refine kf_ret rfl ?_ nobox
      exact leafB (by rw [hF, show i = xs.length by omega, eqF_end (by omega)])

set_option maxRecDepth 100000 in
set_option maxHeartbeats 1600000 in
theorem lnLists_fn (xs ys : List (List Int)) (hx : xs.length ≤ 1099511627776) (hq : ∀ x ∈ xs, x.length ≤ 1099511627776) : Fn Try.prog 30 [] [vD (dPs xs), vD (dPs ys)] (.o (bo1 (decide (xs = ys)))) [] := by
  rw [← eqF_dec]
  refine Fn.code0 Try.func30 rfl rfl rfl rfl ?_
  refine ACode.seq ?_
  refine ACode.region ?_
  refine .cons (.asg rfl rfl) ?_
  refine .nil ?_
  refine ks_n ?_
  refine ACode.seq ?_
  refine ACode.seq ?_
  refine ACode.region ?_
  refine .cons (.mv rfl rfl) ?_
  refine .cons (.ln 28 1 24 rfl rfl rfl) ?_
  refine .cons (.mv rfl rfl) ?_
  refine .cons (.ln 28 1 24 rfl rfl rfl) ?_
  refine .cons (.ne rfl rfl rfl) ?_
  refine .nil ?_
  refine ks_n ?_
  refine .cND rfl (fun h10 => ?_) (fun h10 => ?_)
  · skip
    refine ACode.seq ?_
    refine ACode.region ?_
    refine .cons (.asg rfl rfl) ?_
    refine .nil ?_
    refine ks_n ?_
    refine ACode.ret ?_
    refine ks_r ?_
    refine kf_ret rfl ?_ nobox
    exact leafB (eqF_len (by omega)).symm
  · skip
    refine ACode.skip ?_
    refine ks_n ?_
    refine ACode.seq ?_
    refine ACode.seq ?_
    refine ACode.region ?_
    refine .cons (.asg rfl rfl) ?_
    refine .nil ?_
    refine ks_n ?_
    refine ACode.block ?_
    refine .loopK (fun m σ => (∃ i : Nat, m = xs.length - i ∧ (i ≤ xs.length) ∧ (eqF (fun x y => decide (x = y)) xs ys = eqF (fun x y => decide (x = y)) (xs.drop i) (ys.drop i)) ∧ σ = [(.t 0, .v (.o (vD (dPs xs)))), (.t 1, .v (.o (vD (dPs ys)))), (.t 5, .v (.o (nat1 (i : Nat))))])) [] ⟨0, rfl, by omega, by simp, rfl⟩ ⟨ks rfl .dt, ks rfl .dt, ks rfl .dt, trivial⟩ ?_
    rintro m σ ⟨i, hm0, hi, hF, rfl⟩
    refine ACode.seq ?_
    refine ACode.seq ?_
    refine ACode.region ?_
    refine .cons (.mv rfl rfl) ?_
    refine .cons (.mv rfl rfl) ?_
    refine .cons (.ln 28 1 24 rfl rfl rfl) ?_
    refine .cons (.ls rfl rfl rfl) ?_
    refine .nil ?_
    refine ks_n ?_
    refine .cD rfl (fun h14 => ?_) (fun h14 => ?_)
    · skip
      obtain ⟨x, hx1⟩ : ∃ x, xs[i]? = some x := ⟨_, List.getElem?_eq_getElem (by omega)⟩
      obtain ⟨y, hy1⟩ : ∃ x, ys[i]? = some x := ⟨_, List.getElem?_eq_getElem (by omega)⟩
      refine ACode.skip ?_
      refine ks_n ?_
      refine ACode.seq ?_
      refine ACode.block ?_
      refine ACode.seq ?_
      refine ACode.drawK (by kernel_rfl) (by kernel_rfl) ?_
      refine .cons (.mv rfl rfl) ?_
      refine .cons (.mv rfl rfl) ?_
      refine .cons (.xL 28 1 24 rfl rfl rfl rfl rfl) ?_
      refine .cons (.l1 1 rfl rfl) ?_
      refine .cons (.mv rfl rfl) ?_
      refine .cons (.mv rfl rfl) ?_
      refine .cons (.xL 28 1 24 rfl rfl rfl rfl rfl) ?_
      refine .cons (.l1 1 rfl rfl) ?_
      refine .cons (.cP [.tmp 20, .tmp 24] rfl rfl rfl rfl (lnInts_fn x y (hq x (List.mem_of_getElem? hx1))) rfl) ?_
      refine .cons (.nt rfl rfl) ?_
      refine .nil ⟨by kernel_rfl, ?_⟩
      refine ks_n ?_
      refine ACode.condT rfl (fun h26 => ?_) (fun h26 => ?_)
      · try simp only [List.length_map, decide_eq_true_eq, decide_eq_false_iff_not, Bool.not_eq_true', Bool.not_eq_false', Bool.not_eq_true, Bool.not_eq_false] at h26
        refine ACode.seq ?_
        have gg : decide (x = y) = false := decide_eq_false (by assumption)
        refine ACode.region ?_
        refine .cons (.asg rfl rfl) ?_
        refine .nil ?_
        refine ks_n ?_
        refine ACode.ret ?_
        refine kb_r ?_
        refine ks_r ?_
        refine kl_r ?_
        refine kb_r ?_
        refine ks_r ?_
        refine kf_ret rfl ?_ nobox
        exact leafB (by rw [hF, eqF_drop hx1 hy1, gg]; rfl)
      · try simp only [List.length_map, decide_eq_true_eq, decide_eq_false_iff_not, Bool.not_eq_true', Bool.not_eq_false', Bool.not_eq_true, Bool.not_eq_false] at h26
        refine ACode.skip ?_
        refine kb_n ?_
        refine ks_n ?_
        have gg : decide (x = y) = true := decide_eq_true (by assumption)
        refine ACode.region ?_
        refine .cons (.mv rfl rfl) ?_
        refine .cons (.pl rfl rfl rfl) ?_
        refine .cons (.asg rfl rfl) ?_
        refine .nil ?_
        refine kl_k [] ⟨i + 1, rfl, by omega, by rw [hF, eqF_drop hx1 hy1, gg, Bool.true_and], rfl⟩ ⟨ks rfl .dt, ks rfl .dt, ks rfl .dt, trivial⟩
    · skip
      refine ACode.exit ?_
      refine ks_e ?_
      refine kl_e ?_
      refine kb_hit ?_
      refine ks_n ?_
      refine ACode.seq ?_
      refine ACode.region ?_
      refine .cons (.asg rfl rfl) ?_
      refine .nil ?_
      refine ks_n ?_
      refine ACode.ret ?_
      refine kf_ret rfl ?_ nobox
      exact leafB (by rw [hF, show i = xs.length by omega, eqF_end (by omega)])

theorem implLex_fn (p q : List Int) : Fn Try.prog 42 [] [vD (dIs p), vD (dIs q)] (.o (bo1 (lexB p q))) [] :=
  Fn.pure fun B bx al w vs hv => by
    obtain ⟨u, v, rfl, h1, h2⟩ := vals2 hv
    have h3 := dr_ints h1
    have h4 := dr_ints h2
    obtain ⟨a, n, c, rfl, rfl⟩ := sl_form h3
    obtain ⟨a2, n2, c2, rfl, rfl⟩ := sl_form h4
    exact (implLex_any B B a a2 _ _ c c2 p q w h3 h4).mono fun e w' ⟨h1, h2⟩ => ⟨_, h1, by rw [← h2]; exact Below.refl _ _, .val _ rfl⟩
theorem npR_len (ns : List Lp) : (npR ns).length ≤ 120 := by
  rw [npR]
  split
  · rename_i h; exact (okP_iff.1 h).2.2
  · simp
theorem npR_mem {ns : List Lp} {x : List Int} (h : x ∈ npR ns) : okP ns = true ∧ x ∈ ptsG ns [] ∧ x.length = ns.length := by
  rw [npR] at h
  split at h
  · rename_i h1; exact ⟨h1, h, (mem_pts.1 h).1⟩
  · cases h
theorem npR_x {ns : List Lp} (hs : smN ns) : ∀ x ∈ npR ns, x.length ≤ 1099511627776 := fun x hx => by rw [(npR_mem hx).2.2]; exact Nat.le_trans hs.1 (by omega)
theorem nsV3 {ns : List Lp} (h : nsV ns = true) (h3 : ns.length ≤ 3 ∨ 4 < ns.length) : ns.length ≤ 3 := by have := (nsV_at h).1; omega

set_option maxRecDepth 100000 in
set_option maxHeartbeats 1600000 in
theorem drawNP_core {bs : List Int} {ns : List Lp} (hF : Fn Try.prog 64 [] [vD (dYs bs)] (.o (vD (dLs ns))) []) : Fn Try.prog 28 [] [vD (dYs bs)] (.o (vD (dLs ns))) [] := by
  refine Fn.code0 Try.func28 rfl rfl rfl rfl ?_
  refine ACode.seq ?_
  refine ACode.region ?_
  refine .cons (.asg rfl rfl) ?_
  refine .nil ?_
  refine ks_n ?_
  refine ACode.seq ?_
  refine ACode.region ?_
  refine .cons (.mv rfl rfl) ?_
  refine .cons (.cP [.tmp 3] rfl rfl rfl rfl (hF) rfl) ?_
  refine .cons (.asg rfl rfl) ?_
  refine .nil ?_
  refine ks_n ?_
  refine ACode.ret ?_
  refine kf_ret rfl ?_ nobox
  rfl

def spotE (bs : List Int) : Nat → List Int → Nat → List Int × Nat
  | 0, xs, p => (xs, p)
  | n + 1, xs, p => spotE bs n (xs ++ [numV bs p [0, 1, 2, 3, -1, 9999]]) (p + 1)
def spotF (bs : List Int) (p n : Nat) : List Int × Nat := if pickV bs (spotE bs n [] p).2 12 = 0 then ((spotE bs n [] p).1 ++ [0], (spotE bs n [] p).2 + 1) else ((spotE bs n [] p).1, (spotE bs n [] p).2 + 1)
theorem spotE_bd {bs : List Int} (hb : Bytes bs) : ∀ (n : Nat) (xs : List Int) (p : Nat), p + n ≤ 1099511627776 → (∀ x ∈ xs, -9999 ≤ x ∧ x ≤ 9999) → (spotE bs n xs p).2 = p + n ∧ (spotE bs n xs p).1.length = xs.length + n ∧ ∀ x ∈ (spotE bs n xs p).1, -9999 ≤ x ∧ x ≤ 9999
  | 0, xs, p, _, h => ⟨rfl, rfl, h⟩
  | n + 1, xs, p, hp, h => by
    rw [spotE]
    have hm := numV_mem hb (p := p) (by omega) (xs := [0, 1, 2, 3, -1, 9999]) (by simp)
    obtain ⟨h1, h2, h3⟩ := spotE_bd hb n (xs ++ [numV bs p [0, 1, 2, 3, -1, 9999]]) (p + 1) (by omega) (fun x hx => by
      rcases List.mem_append.1 hx with hx | hx
      · exact h x hx
      · rw [List.mem_singleton.1 hx]; simp at hm; omega)
    exact ⟨by omega, by rw [h2]; simp; omega, h3⟩

set_option maxRecDepth 100000 in
set_option maxHeartbeats 1600000 in
theorem spot_list {bs : List Int} (hb : Bytes bs) {p : Nat} (hp : p ≤ 100000000) {ns : List Lp} (hs : smN ns) (ho : okP ns = true) (hn0 : 0 < (npR ns).length) (hk : 0 < pickV bs p 3) {x : List Int} (hx : (npR ns)[(pickV bs (p + 1) ((npR ns).length : Nat)).toNat]? = some x) : Fn Try.prog 69 (hbR bs p) [vR, vD (dLs ns)] (.o (vD (dIs x))) (hbR bs (p + 1 + 1)) := by
  have hl := npR_len ns
  refine Fn.of_code Try.func69 rfl rfl (hbR_HB _ _) rfl rfl (hbR_HB _ _) rfl (hbR_num _ _ _) ?_
  refine ACode.seq ?_
  refine ACode.region ?_
  refine .cons (.asg rfl rfl) ?_
  refine .nil ?_
  refine ks_n ?_
  refine ACode.seq ?_
  refine ACode.region ?_
  refine .cons (.mv rfl rfl) ?_
  refine .cons (.cP [.tmp 10] rfl rfl rfl rfl (specNestPts_fn ns hs) rfl) ?_
  refine .cons (.mv rfl rfl) ?_
  refine .cons (.ex rfl rfl rfl) ?_
  refine .cons (.ex rfl rfl rfl) ?_
  refine .cons (.asg rfl rfl) ?_
  refine .cons (.asg rfl rfl) ?_
  refine .nil ?_
  refine ks_n ?_
  refine ACode.seq ?_
  refine ACode.seq ?_
  refine ACode.region ?_
  refine .cons (.mv rfl rfl) ?_
  refine .cons (.mv rfl rfl) ?_
  refine AOps.cases 15 _ rfl (fun g15 => ?_) (fun g15 => ?_)
  · try simp only [List.length_map, decide_eq_true_eq, decide_eq_false_iff_not, Bool.not_eq_true', Bool.not_eq_false', Bool.not_eq_true, Bool.not_eq_false] at g15
    refine .cons (.gT rfl rfl rfl (.mv rfl rfl)) ?_
    refine .cons (.gT rfl rfl rfl (.ln 28 1 24 rfl rfl rfl)) ?_
    refine .cons (.gT rfl rfl rfl (.gt rfl rfl rfl)) ?_
    refine .cons (.pT rfl rfl rfl) ?_
    refine .cons (.mv rfl rfl) ?_
    refine AOps.cases 20 _ rfl (fun g20 => ?_) (fun g20 => ?_)
    · try simp only [List.length_map, decide_eq_true_eq, decide_eq_false_iff_not, Bool.not_eq_true', Bool.not_eq_false', Bool.not_eq_true, Bool.not_eq_false] at g20
      refine .cons (.gT rfl rfl rfl (.mv rfl rfl)) ?_
      refine .cons (.gT rfl rfl rfl (.cR [.tmp 21, .const (.int .i64 (3))] 0 rfl rfl rfl rfl (pick_fn hb (by omega) 3) rfl ⟨rfl, trivial⟩)) ?_
      refine .cons (.gT rfl rfl rfl (.gt rfl rfl rfl)) ?_
      refine .cons (.pT rfl rfl rfl) ?_
      refine .nil ?_
      refine ks_n ?_
      refine ACode.condT rfl (fun h24 => ?_) (fun h24 => ?_)
      · try simp only [List.length_map, decide_eq_true_eq, decide_eq_false_iff_not, Bool.not_eq_true', Bool.not_eq_false', Bool.not_eq_true, Bool.not_eq_false] at h24
        refine ACode.seq ?_
        refine ACode.region ?_
        refine .cons (.mv rfl rfl) ?_
        refine .cons (.mv rfl rfl) ?_
        refine .cons (.mv rfl rfl) ?_
        refine .cons (.ln 28 1 24 rfl rfl rfl) ?_
        refine .cons (.cR [.tmp 26, .tmp 28] 0 rfl rfl rfl rfl (pick_fn hb (by omega) _) rfl ⟨rfl, trivial⟩) ?_
        refine .cons (.xL 28 1 24 (i := (pickV bs (p + 1) ((npR ns).length : Nat)).toNat) rfl rfl rfl rfl (by have h := pickV_bd hb (show p + 1 ≤ 1099511627776 by omega) ((npR ns).length : Nat); have h1 := h.1; have h2 := h.2 (by omega); omega) (map_at hx)) ?_
        refine .cons (.l1 1 rfl rfl) ?_
        refine .cons (.asg rfl rfl) ?_
        refine .nil ?_
        refine ks_n ?_
        refine ACode.ret ?_
        refine ks_r ?_
        refine kf_wret [(.t 4, .v (.o (vD (dIs x)))), (.b 0, .b 105 2 (dR ([rRd bs (p + 1 + 1)]))), (.u 0, .u)] (Wk.keep [(0, 0)] rfl rfl ⟨ks rfl .dt, kb 0 rfl (.dt rfl), trivial⟩) rfl ?_ (hbR_box rfl)
        rfl
      · try simp only [List.length_map, decide_eq_true_eq, decide_eq_false_iff_not, Bool.not_eq_true', Bool.not_eq_false', Bool.not_eq_true, Bool.not_eq_false] at h24
        omega
    · try simp only [List.length_map, decide_eq_true_eq, decide_eq_false_iff_not, Bool.not_eq_true', Bool.not_eq_false', Bool.not_eq_true, Bool.not_eq_false] at g20
      omega
  · try simp only [List.length_map, decide_eq_true_eq, decide_eq_false_iff_not, Bool.not_eq_true', Bool.not_eq_false', Bool.not_eq_true, Bool.not_eq_false] at g15
    rw [ho] at g15; cases g15

set_option maxRecDepth 100000 in
set_option maxHeartbeats 1600000 in
theorem spot_newA {bs : List Int} (hb : Bytes bs) {p : Nat} (hp : p ≤ 100000000) {ns : List Lp} (hs : smN ns) (ho : okP ns = true) (hn0 : 0 < (npR ns).length) (hk : ¬ 0 < pickV bs p 3) : Fn Try.prog 69 (hbR bs p) [vR, vD (dLs ns)] (.o (vD (dIs (spotF bs (p + 1) ns.length).1))) (hbR bs (spotF bs (p + 1) ns.length).2) := by
  have hl := npR_len ns
  have hns := hs.1
  obtain ⟨r, hr⟩ : ∃ r, r = spotF bs (p + 1) ns.length := ⟨_, rfl⟩
  rw [← hr]
  refine Fn.of_code Try.func69 rfl rfl (hbR_HB _ _) rfl rfl (hbR_HB _ _) rfl (hbR_num _ _ _) ?_
  refine ACode.seq ?_
  refine ACode.region ?_
  refine .cons (.asg rfl rfl) ?_
  refine .nil ?_
  refine ks_n ?_
  refine ACode.seq ?_
  refine ACode.region ?_
  refine .cons (.mv rfl rfl) ?_
  refine .cons (.cP [.tmp 10] rfl rfl rfl rfl (specNestPts_fn ns hs) rfl) ?_
  refine .cons (.mv rfl rfl) ?_
  refine .cons (.ex rfl rfl rfl) ?_
  refine .cons (.ex rfl rfl rfl) ?_
  refine .cons (.asg rfl rfl) ?_
  refine .cons (.asg rfl rfl) ?_
  refine .nil ?_
  refine ks_n ?_
  refine ACode.seq ?_
  refine ACode.seq ?_
  refine ACode.region ?_
  refine .cons (.mv rfl rfl) ?_
  refine .cons (.mv rfl rfl) ?_
  refine AOps.cases 15 _ rfl (fun g15 => ?_) (fun g15 => ?_)
  · try simp only [List.length_map, decide_eq_true_eq, decide_eq_false_iff_not, Bool.not_eq_true', Bool.not_eq_false', Bool.not_eq_true, Bool.not_eq_false] at g15
    refine .cons (.gT rfl rfl rfl (.mv rfl rfl)) ?_
    refine .cons (.gT rfl rfl rfl (.ln 28 1 24 rfl rfl rfl)) ?_
    refine .cons (.gT rfl rfl rfl (.gt rfl rfl rfl)) ?_
    refine .cons (.pT rfl rfl rfl) ?_
    refine .cons (.mv rfl rfl) ?_
    refine AOps.cases 20 _ rfl (fun g20 => ?_) (fun g20 => ?_)
    · try simp only [List.length_map, decide_eq_true_eq, decide_eq_false_iff_not, Bool.not_eq_true', Bool.not_eq_false', Bool.not_eq_true, Bool.not_eq_false] at g20
      refine .cons (.gT rfl rfl rfl (.mv rfl rfl)) ?_
      refine .cons (.gT rfl rfl rfl (.cR [.tmp 21, .const (.int .i64 (3))] 0 rfl rfl rfl rfl (pick_fn hb (by omega) 3) rfl ⟨rfl, trivial⟩)) ?_
      refine .cons (.gT rfl rfl rfl (.gt rfl rfl rfl)) ?_
      refine .cons (.pT rfl rfl rfl) ?_
      refine .nil ?_
      refine ks_n ?_
      refine ACode.condT rfl (fun h24 => ?_) (fun h24 => ?_)
      · try simp only [List.length_map, decide_eq_true_eq, decide_eq_false_iff_not, Bool.not_eq_true', Bool.not_eq_false', Bool.not_eq_true, Bool.not_eq_false] at h24
        omega
      · try simp only [List.length_map, decide_eq_true_eq, decide_eq_false_iff_not, Bool.not_eq_true', Bool.not_eq_false', Bool.not_eq_true, Bool.not_eq_false] at h24
        refine ACode.skip ?_
        refine ks_n ?_
        refine ACode.seq ?_
        refine ACode.region ?_
        refine .cons (St1.lit0 (k' := 132) (e := 3) (sz := 1) (b := true) rfl rfl rfl rfl (by kernel_rfl) rfl rfl) ?_
        refine .cons (.asg rfl rfl) ?_
        refine .nil ?_
        refine ks_n ?_
        refine ACode.seq ?_
        refine ACode.seq ?_
        refine ACode.region ?_
        refine .cons (.asg rfl rfl) ?_
        refine .nil ?_
        refine ks_n ?_
        refine ACode.block ?_
        refine .loopK (fun m σ => (∃ (i : Nat) (xs : List Int), m = ns.length - i ∧ (i ≤ ns.length) ∧ (xs.length = i) ∧ (spotE bs (ns.length - i) xs ((p + 1) + i) = spotE bs ns.length [] (p + 1)) ∧ σ = [(.t 0, .v (.o (.c (.box 0 2 0 0)))), (.t 1, .v (.o (vD (dLs ns)))), (.t 7, .v (.o (.c (.own 110 1 (xs.length))))), (.t 8, .v (.o (nat1 (i : Nat)))), (.b 0, .b 105 2 (dR ([rRd bs ((p + 1) + i)]))), (.u 0, .u), (.b 110, .b 3 1 (dR (xs.map rI))), (.u 110, .u)])) [(0, 0), (110, 132)] ⟨0, [], rfl, (by omega), rfl, rfl, rfl⟩ ⟨ks rfl (.c .bx), ks rfl .dt, ks rfl (.c .ow), ks rfl .dt, kb 0 rfl (.dt rfl), kb 132 rfl (.dt rfl (by first | rfl | (simp [dR]; done) | (simp [dR]; rfl))), trivial⟩ ?_
        rintro m σ ⟨i, xs, hm0, hi, hl2, hE, rfl⟩
        refine ACode.seq ?_
        refine ACode.seq ?_
        refine ACode.region ?_
        refine .cons (.mv rfl rfl) ?_
        refine .cons (.mv rfl rfl) ?_
        refine .cons (.ln 67 2 48 rfl rfl rfl) ?_
        refine .cons (.ls rfl rfl rfl) ?_
        refine .nil ?_
        refine ks_n ?_
        refine .cD rfl (fun h36 => ?_) (fun h36 => ?_)
        · skip
          refine ACode.skip ?_
          refine ks_n ?_
          refine ACode.seq ?_
          refine ACode.block ?_
          refine ACode.region ?_
          refine .cons (.mv rfl rfl) ?_
          refine .cons (.mv rfl rfl) ?_
          refine .cons (.li 3 0 5 [.const (.int .i64 (0)), .const (.int .i64 (1)), .const (.int .i64 (2)), .const (.int .i64 (3)), .const (.int .i64 (-1)), .const (.int .i64 (9999))] rfl rfl rfl rfl rfl rfl) ?_
          refine .cons (.cR [.tmp 40, .tmp 41] 0 rfl rfl rfl rfl (num_fn hb (by omega) [0, 1, 2, 3, -1, 9999] (by simp)) rfl ⟨rfl, trivial⟩) ?_
          refine .cons (.li 3 0 0 [.tmp 42] rfl rfl rfl rfl rfl rfl) ?_
          refine .cons (St1.appB (k' := 144) (e := 3) (sz := 0) (by' := 8) rfl rfl rfl rfl rfl (by kernel_rfl) rfl rfl rfl rfl (by simp [dR]) (by simp [dR]; omega) rfl rfl rfl) ?_
          refine .cons (.asg rfl rfl) ?_
          refine .nil ?_
          refine kb_n ?_
          refine ks_n ?_
          refine ACode.region ?_
          refine .cons (.mv rfl rfl) ?_
          refine .cons (.pl rfl rfl rfl) ?_
          refine .cons (.asg rfl rfl) ?_
          refine .nil ?_
          refine kl_k [(0, 0), (110, 144)] ⟨i + 1, xs ++ [numV bs ((p + 1) + i) [0, 1, 2, 3, -1, 9999]], rfl, by omega, by simp; omega, by rw [← hE, show ns.length - i = (ns.length - (i + 1)) + 1 by omega]; rfl, rfl⟩ ⟨ks rfl (.c .bx), ks rfl .dt, ks rfl (.c .ow), ks rfl .dt, kb 0 rfl (.dt rfl), kb 144 rfl (.dt rfl (by first | rfl | (simp [dR]; done) | (simp [dR]; rfl))), trivial⟩
        · skip
          obtain rfl : i = ns.length := by omega
          rw [Nat.sub_self] at hE
          have hE2 : spotE bs ns.length [] (p + 1) = (xs, (p + 1) + ns.length) := hE.symm
          refine ACode.exit ?_
          refine ks_e ?_
          refine kl_e ?_
          refine kb_hit ?_
          refine ks_n ?_
          refine ACode.seq ?_
          refine ACode.seq ?_
          refine ACode.region ?_
          refine .cons (.mv rfl rfl) ?_
          refine .cons (.cR [.tmp 45, .const (.int .i64 (12))] 0 rfl rfl rfl rfl (pick_fn hb (by omega) 12) rfl ⟨rfl, trivial⟩) ?_
          refine .cons (.eq rfl rfl rfl) ?_
          refine .nil ?_
          refine ks_n ?_
          refine .cD rfl (fun h47 => ?_) (fun h47 => ?_)
          · skip
            have hr2 : r = (xs ++ [0], (p + 1) + ns.length + 1) := by rw [hr, spotF, hE2, if_pos h47]
            subst hr2
            refine ACode.region ?_
            refine .cons (.mv rfl rfl) ?_
            refine .cons (.li 3 0 0 [.const (.int .i64 (0))] rfl rfl rfl rfl rfl rfl) ?_
            refine .cons (St1.appB (k' := 150) (e := 3) (sz := 0) (by' := 8) rfl rfl rfl rfl rfl (by kernel_rfl) rfl rfl rfl rfl (by simp [dR]) (by simp [dR]; omega) rfl rfl rfl) ?_
            refine .cons (.asg rfl rfl) ?_
            refine .nil ?_
            refine ks_n ?_
            refine ACode.seq ?_
            refine ACode.region ?_
            refine .cons (.mv rfl rfl) ?_
            refine .cons (.asg rfl rfl) ?_
            refine .nil ?_
            refine ks_n ?_
            refine ACode.ret ?_
            refine kf_wret [(.t 4, .v (.o (vD (dIs (xs ++ [0]))))), (.b 0, .b 105 2 (dR ([rRd bs ((p + 1) + ns.length + 1)]))), (.u 0, .u)] (Wk.keep [(0, 0)] rfl rfl ⟨ks rfl (.c (.fz rfl (by first | rfl | (simp [dR]; done) | (simp [dR]; rfl)) (by simp) (by first | (simp; omega) | omega))), kb 0 rfl (.dt rfl), trivial⟩) rfl ?_ (hbR_box rfl)
            rfl
          · skip
            have hr2 : r = (xs, (p + 1) + ns.length + 1) := by rw [hr, spotF, hE2, if_neg h47]
            subst hr2
            refine ACode.skip ?_
            refine ks_n ?_
            refine ACode.seq ?_
            refine ACode.region ?_
            refine .cons (.mv rfl rfl) ?_
            refine .cons (.asg rfl rfl) ?_
            refine .nil ?_
            refine ks_n ?_
            refine ACode.ret ?_
            refine kf_wret [(.t 4, .v (.o (vD (dIs (xs))))), (.b 0, .b 105 2 (dR ([rRd bs ((p + 1) + ns.length + 1)]))), (.u 0, .u)] (Wk.keep [(0, 0)] rfl rfl ⟨ks rfl (.c (.fz rfl (by first | rfl | (simp [dR]; done) | (simp [dR]; rfl)) (by simp) (by first | (simp; omega) | omega))), kb 0 rfl (.dt rfl), trivial⟩) rfl ?_ (hbR_box rfl)
            rfl
    · try simp only [List.length_map, decide_eq_true_eq, decide_eq_false_iff_not, Bool.not_eq_true', Bool.not_eq_false', Bool.not_eq_true, Bool.not_eq_false] at g20
      omega
  · try simp only [List.length_map, decide_eq_true_eq, decide_eq_false_iff_not, Bool.not_eq_true', Bool.not_eq_false', Bool.not_eq_true, Bool.not_eq_false] at g15
    rw [ho] at g15; cases g15

set_option maxRecDepth 100000 in
set_option maxHeartbeats 1600000 in
theorem spot_newB {bs : List Int} (hb : Bytes bs) {p : Nat} (hp : p ≤ 100000000) {ns : List Lp} (hs : smN ns) (hno : ¬ (okP ns = true ∧ 0 < (npR ns).length)) : Fn Try.prog 69 (hbR bs p) [vR, vD (dLs ns)] (.o (vD (dIs (spotF bs p ns.length).1))) (hbR bs (spotF bs p ns.length).2) := by
  have hl := npR_len ns
  have hns := hs.1
  obtain ⟨r, hr⟩ : ∃ r, r = spotF bs p ns.length := ⟨_, rfl⟩
  rw [← hr]
  refine Fn.of_code Try.func69 rfl rfl (hbR_HB _ _) rfl rfl (hbR_HB _ _) rfl (hbR_num _ _ _) ?_
  refine ACode.seq ?_
  refine ACode.region ?_
  refine .cons (.asg rfl rfl) ?_
  refine .nil ?_
  refine ks_n ?_
  refine ACode.seq ?_
  refine ACode.region ?_
  refine .cons (.mv rfl rfl) ?_
  refine .cons (.cP [.tmp 10] rfl rfl rfl rfl (specNestPts_fn ns hs) rfl) ?_
  refine .cons (.mv rfl rfl) ?_
  refine .cons (.ex rfl rfl rfl) ?_
  refine .cons (.ex rfl rfl rfl) ?_
  refine .cons (.asg rfl rfl) ?_
  refine .cons (.asg rfl rfl) ?_
  refine .nil ?_
  refine ks_n ?_
  refine ACode.seq ?_
  refine ACode.seq ?_
  refine ACode.region ?_
  refine .cons (.mv rfl rfl) ?_
  refine .cons (.mv rfl rfl) ?_
  refine AOps.cases 15 _ rfl (fun g15 => ?_) (fun g15 => ?_)
  · try simp only [List.length_map, decide_eq_true_eq, decide_eq_false_iff_not, Bool.not_eq_true', Bool.not_eq_false', Bool.not_eq_true, Bool.not_eq_false] at g15
    refine .cons (.gT rfl rfl rfl (.mv rfl rfl)) ?_
    refine .cons (.gT rfl rfl rfl (.ln 28 1 24 rfl rfl rfl)) ?_
    refine .cons (.gT rfl rfl rfl (.gt rfl rfl rfl)) ?_
    refine .cons (.pT rfl rfl rfl) ?_
    refine .cons (.mv rfl rfl) ?_
    refine AOps.cases 20 _ rfl (fun g20 => ?_) (fun g20 => ?_)
    · try simp only [List.length_map, decide_eq_true_eq, decide_eq_false_iff_not, Bool.not_eq_true', Bool.not_eq_false', Bool.not_eq_true, Bool.not_eq_false] at g20
      exact absurd ⟨g15, by omega⟩ hno
    · try simp only [List.length_map, decide_eq_true_eq, decide_eq_false_iff_not, Bool.not_eq_true', Bool.not_eq_false', Bool.not_eq_true, Bool.not_eq_false] at g20
      refine .cons (.gF rfl rfl rfl) ?_
      refine .cons (.gF rfl rfl rfl) ?_
      refine .cons (.gF rfl rfl rfl) ?_
      refine .cons (.pF rfl rfl rfl) ?_
      refine .nil ?_
      refine ks_n ?_
      refine ACode.condT rfl (fun h => by first | (cases h; done) | (simp [*] at h; done) | (exfalso; simp_all; done)) (fun _ => ?_)
      refine ACode.skip ?_
      refine ks_n ?_
      refine ACode.seq ?_
      refine ACode.region ?_
      refine .cons (St1.lit0 (k' := 132) (e := 3) (sz := 1) (b := true) rfl rfl rfl rfl (by kernel_rfl) rfl rfl) ?_
      refine .cons (.asg rfl rfl) ?_
      refine .nil ?_
      refine ks_n ?_
      refine ACode.seq ?_
      refine ACode.seq ?_
      refine ACode.region ?_
      refine .cons (.asg rfl rfl) ?_
      refine .nil ?_
      refine ks_n ?_
      refine ACode.block ?_
      refine .loopK (fun m σ => (∃ (i : Nat) (xs : List Int), m = ns.length - i ∧ (i ≤ ns.length) ∧ (xs.length = i) ∧ (spotE bs (ns.length - i) xs (p + i) = spotE bs ns.length [] p) ∧ σ = [(.t 0, .v (.o (.c (.box 0 2 0 0)))), (.t 1, .v (.o (vD (dLs ns)))), (.t 7, .v (.o (.c (.own 110 1 (xs.length))))), (.t 8, .v (.o (nat1 (i : Nat)))), (.b 0, .b 105 2 (dR ([rRd bs (p + i)]))), (.u 0, .u), (.b 110, .b 3 1 (dR (xs.map rI))), (.u 110, .u)])) [(0, 0), (110, 132)] ⟨0, [], rfl, (by omega), rfl, rfl, rfl⟩ ⟨ks rfl (.c .bx), ks rfl .dt, ks rfl (.c .ow), ks rfl .dt, kb 0 rfl (.dt rfl), kb 132 rfl (.dt rfl (by first | rfl | (simp [dR]; done) | (simp [dR]; rfl))), trivial⟩ ?_
      rintro m σ ⟨i, xs, hm0, hi, hl2, hE, rfl⟩
      refine ACode.seq ?_
      refine ACode.seq ?_
      refine ACode.region ?_
      refine .cons (.mv rfl rfl) ?_
      refine .cons (.mv rfl rfl) ?_
      refine .cons (.ln 67 2 48 rfl rfl rfl) ?_
      refine .cons (.ls rfl rfl rfl) ?_
      refine .nil ?_
      refine ks_n ?_
      refine .cD rfl (fun h36 => ?_) (fun h36 => ?_)
      · skip
        refine ACode.skip ?_
        refine ks_n ?_
        refine ACode.seq ?_
        refine ACode.block ?_
        refine ACode.region ?_
        refine .cons (.mv rfl rfl) ?_
        refine .cons (.mv rfl rfl) ?_
        refine .cons (.li 3 0 5 [.const (.int .i64 (0)), .const (.int .i64 (1)), .const (.int .i64 (2)), .const (.int .i64 (3)), .const (.int .i64 (-1)), .const (.int .i64 (9999))] rfl rfl rfl rfl rfl rfl) ?_
        refine .cons (.cR [.tmp 40, .tmp 41] 0 rfl rfl rfl rfl (num_fn hb (by omega) [0, 1, 2, 3, -1, 9999] (by simp)) rfl ⟨rfl, trivial⟩) ?_
        refine .cons (.li 3 0 0 [.tmp 42] rfl rfl rfl rfl rfl rfl) ?_
        refine .cons (St1.appB (k' := 144) (e := 3) (sz := 0) (by' := 8) rfl rfl rfl rfl rfl (by kernel_rfl) rfl rfl rfl rfl (by simp [dR]) (by simp [dR]; omega) rfl rfl rfl) ?_
        refine .cons (.asg rfl rfl) ?_
        refine .nil ?_
        refine kb_n ?_
        refine ks_n ?_
        refine ACode.region ?_
        refine .cons (.mv rfl rfl) ?_
        refine .cons (.pl rfl rfl rfl) ?_
        refine .cons (.asg rfl rfl) ?_
        refine .nil ?_
        refine kl_k [(0, 0), (110, 144)] ⟨i + 1, xs ++ [numV bs (p + i) [0, 1, 2, 3, -1, 9999]], rfl, by omega, by simp; omega, by rw [← hE, show ns.length - i = (ns.length - (i + 1)) + 1 by omega]; rfl, rfl⟩ ⟨ks rfl (.c .bx), ks rfl .dt, ks rfl (.c .ow), ks rfl .dt, kb 0 rfl (.dt rfl), kb 144 rfl (.dt rfl (by first | rfl | (simp [dR]; done) | (simp [dR]; rfl))), trivial⟩
      · skip
        obtain rfl : i = ns.length := by omega
        rw [Nat.sub_self] at hE
        have hE2 : spotE bs ns.length [] p = (xs, p + ns.length) := hE.symm
        refine ACode.exit ?_
        refine ks_e ?_
        refine kl_e ?_
        refine kb_hit ?_
        refine ks_n ?_
        refine ACode.seq ?_
        refine ACode.seq ?_
        refine ACode.region ?_
        refine .cons (.mv rfl rfl) ?_
        refine .cons (.cR [.tmp 45, .const (.int .i64 (12))] 0 rfl rfl rfl rfl (pick_fn hb (by omega) 12) rfl ⟨rfl, trivial⟩) ?_
        refine .cons (.eq rfl rfl rfl) ?_
        refine .nil ?_
        refine ks_n ?_
        refine .cD rfl (fun h47 => ?_) (fun h47 => ?_)
        · skip
          have hr2 : r = (xs ++ [0], p + ns.length + 1) := by rw [hr, spotF, hE2, if_pos h47]
          subst hr2
          refine ACode.region ?_
          refine .cons (.mv rfl rfl) ?_
          refine .cons (.li 3 0 0 [.const (.int .i64 (0))] rfl rfl rfl rfl rfl rfl) ?_
          refine .cons (St1.appB (k' := 150) (e := 3) (sz := 0) (by' := 8) rfl rfl rfl rfl rfl (by kernel_rfl) rfl rfl rfl rfl (by simp [dR]) (by simp [dR]; omega) rfl rfl rfl) ?_
          refine .cons (.asg rfl rfl) ?_
          refine .nil ?_
          refine ks_n ?_
          refine ACode.seq ?_
          refine ACode.region ?_
          refine .cons (.mv rfl rfl) ?_
          refine .cons (.asg rfl rfl) ?_
          refine .nil ?_
          refine ks_n ?_
          refine ACode.ret ?_
          refine kf_wret [(.t 4, .v (.o (vD (dIs (xs ++ [0]))))), (.b 0, .b 105 2 (dR ([rRd bs (p + ns.length + 1)]))), (.u 0, .u)] (Wk.keep [(0, 0)] rfl rfl ⟨ks rfl (.c (.fz rfl (by first | rfl | (simp [dR]; done) | (simp [dR]; rfl)) (by simp) (by first | (simp; omega) | omega))), kb 0 rfl (.dt rfl), trivial⟩) rfl ?_ (hbR_box rfl)
          rfl
        · skip
          have hr2 : r = (xs, p + ns.length + 1) := by rw [hr, spotF, hE2, if_neg h47]
          subst hr2
          refine ACode.skip ?_
          refine ks_n ?_
          refine ACode.seq ?_
          refine ACode.region ?_
          refine .cons (.mv rfl rfl) ?_
          refine .cons (.asg rfl rfl) ?_
          refine .nil ?_
          refine ks_n ?_
          refine ACode.ret ?_
          refine kf_wret [(.t 4, .v (.o (vD (dIs (xs))))), (.b 0, .b 105 2 (dR ([rRd bs (p + ns.length + 1)]))), (.u 0, .u)] (Wk.keep [(0, 0)] rfl rfl ⟨ks rfl (.c (.fz rfl (by first | rfl | (simp [dR]; done) | (simp [dR]; rfl)) (by simp) (by first | (simp; omega) | omega))), kb 0 rfl (.dt rfl), trivial⟩) rfl ?_ (hbR_box rfl)
          rfl
  · try simp only [List.length_map, decide_eq_true_eq, decide_eq_false_iff_not, Bool.not_eq_true', Bool.not_eq_false', Bool.not_eq_true, Bool.not_eq_false] at g15
    refine .cons (.gF rfl rfl rfl) ?_
    refine .cons (.gF rfl rfl rfl) ?_
    refine .cons (.gF rfl rfl rfl) ?_
    refine .cons (.pF rfl rfl rfl) ?_
    refine .cons (.mv rfl rfl) ?_
    refine .cons (.gF rfl rfl rfl) ?_
    refine .cons (.gF rfl rfl rfl) ?_
    refine .cons (.gF rfl rfl rfl) ?_
    refine .cons (.pF rfl rfl rfl) ?_
    refine .nil ?_
    refine ks_n ?_
    refine ACode.condT rfl (fun h => by first | (cases h; done) | (simp [*] at h; done) | (exfalso; simp_all; done)) (fun _ => ?_)
    refine ACode.skip ?_
    refine ks_n ?_
    refine ACode.seq ?_
    refine ACode.region ?_
    refine .cons (St1.lit0 (k' := 132) (e := 3) (sz := 1) (b := true) rfl rfl rfl rfl (by kernel_rfl) rfl rfl) ?_
    refine .cons (.asg rfl rfl) ?_
    refine .nil ?_
    refine ks_n ?_
    refine ACode.seq ?_
    refine ACode.seq ?_
    refine ACode.region ?_
    refine .cons (.asg rfl rfl) ?_
    refine .nil ?_
    refine ks_n ?_
    refine ACode.block ?_
    refine .loopK (fun m σ => (∃ (i : Nat) (xs : List Int), m = ns.length - i ∧ (i ≤ ns.length) ∧ (xs.length = i) ∧ (spotE bs (ns.length - i) xs (p + i) = spotE bs ns.length [] p) ∧ σ = [(.t 0, .v (.o (.c (.box 0 2 0 0)))), (.t 1, .v (.o (vD (dLs ns)))), (.t 7, .v (.o (.c (.own 110 1 (xs.length))))), (.t 8, .v (.o (nat1 (i : Nat)))), (.b 0, .b 105 2 (dR ([rRd bs (p + i)]))), (.u 0, .u), (.b 110, .b 3 1 (dR (xs.map rI))), (.u 110, .u)])) [(0, 0), (110, 132)] ⟨0, [], rfl, (by omega), rfl, rfl, rfl⟩ ⟨ks rfl (.c .bx), ks rfl .dt, ks rfl (.c .ow), ks rfl .dt, kb 0 rfl (.dt rfl), kb 132 rfl (.dt rfl (by first | rfl | (simp [dR]; done) | (simp [dR]; rfl))), trivial⟩ ?_
    rintro m σ ⟨i, xs, hm0, hi, hl2, hE, rfl⟩
    refine ACode.seq ?_
    refine ACode.seq ?_
    refine ACode.region ?_
    refine .cons (.mv rfl rfl) ?_
    refine .cons (.mv rfl rfl) ?_
    refine .cons (.ln 67 2 48 rfl rfl rfl) ?_
    refine .cons (.ls rfl rfl rfl) ?_
    refine .nil ?_
    refine ks_n ?_
    refine .cD rfl (fun h36 => ?_) (fun h36 => ?_)
    · skip
      refine ACode.skip ?_
      refine ks_n ?_
      refine ACode.seq ?_
      refine ACode.block ?_
      refine ACode.region ?_
      refine .cons (.mv rfl rfl) ?_
      refine .cons (.mv rfl rfl) ?_
      refine .cons (.li 3 0 5 [.const (.int .i64 (0)), .const (.int .i64 (1)), .const (.int .i64 (2)), .const (.int .i64 (3)), .const (.int .i64 (-1)), .const (.int .i64 (9999))] rfl rfl rfl rfl rfl rfl) ?_
      refine .cons (.cR [.tmp 40, .tmp 41] 0 rfl rfl rfl rfl (num_fn hb (by omega) [0, 1, 2, 3, -1, 9999] (by simp)) rfl ⟨rfl, trivial⟩) ?_
      refine .cons (.li 3 0 0 [.tmp 42] rfl rfl rfl rfl rfl rfl) ?_
      refine .cons (St1.appB (k' := 144) (e := 3) (sz := 0) (by' := 8) rfl rfl rfl rfl rfl (by kernel_rfl) rfl rfl rfl rfl (by simp [dR]) (by simp [dR]; omega) rfl rfl rfl) ?_
      refine .cons (.asg rfl rfl) ?_
      refine .nil ?_
      refine kb_n ?_
      refine ks_n ?_
      refine ACode.region ?_
      refine .cons (.mv rfl rfl) ?_
      refine .cons (.pl rfl rfl rfl) ?_
      refine .cons (.asg rfl rfl) ?_
      refine .nil ?_
      refine kl_k [(0, 0), (110, 144)] ⟨i + 1, xs ++ [numV bs (p + i) [0, 1, 2, 3, -1, 9999]], rfl, by omega, by simp; omega, by rw [← hE, show ns.length - i = (ns.length - (i + 1)) + 1 by omega]; rfl, rfl⟩ ⟨ks rfl (.c .bx), ks rfl .dt, ks rfl (.c .ow), ks rfl .dt, kb 0 rfl (.dt rfl), kb 144 rfl (.dt rfl (by first | rfl | (simp [dR]; done) | (simp [dR]; rfl))), trivial⟩
    · skip
      obtain rfl : i = ns.length := by omega
      rw [Nat.sub_self] at hE
      have hE2 : spotE bs ns.length [] p = (xs, p + ns.length) := hE.symm
      refine ACode.exit ?_
      refine ks_e ?_
      refine kl_e ?_
      refine kb_hit ?_
      refine ks_n ?_
      refine ACode.seq ?_
      refine ACode.seq ?_
      refine ACode.region ?_
      refine .cons (.mv rfl rfl) ?_
      refine .cons (.cR [.tmp 45, .const (.int .i64 (12))] 0 rfl rfl rfl rfl (pick_fn hb (by omega) 12) rfl ⟨rfl, trivial⟩) ?_
      refine .cons (.eq rfl rfl rfl) ?_
      refine .nil ?_
      refine ks_n ?_
      refine .cD rfl (fun h47 => ?_) (fun h47 => ?_)
      · skip
        have hr2 : r = (xs ++ [0], p + ns.length + 1) := by rw [hr, spotF, hE2, if_pos h47]
        subst hr2
        refine ACode.region ?_
        refine .cons (.mv rfl rfl) ?_
        refine .cons (.li 3 0 0 [.const (.int .i64 (0))] rfl rfl rfl rfl rfl rfl) ?_
        refine .cons (St1.appB (k' := 150) (e := 3) (sz := 0) (by' := 8) rfl rfl rfl rfl rfl (by kernel_rfl) rfl rfl rfl rfl (by simp [dR]) (by simp [dR]; omega) rfl rfl rfl) ?_
        refine .cons (.asg rfl rfl) ?_
        refine .nil ?_
        refine ks_n ?_
        refine ACode.seq ?_
        refine ACode.region ?_
        refine .cons (.mv rfl rfl) ?_
        refine .cons (.asg rfl rfl) ?_
        refine .nil ?_
        refine ks_n ?_
        refine ACode.ret ?_
        refine kf_wret [(.t 4, .v (.o (vD (dIs (xs ++ [0]))))), (.b 0, .b 105 2 (dR ([rRd bs (p + ns.length + 1)]))), (.u 0, .u)] (Wk.keep [(0, 0)] rfl rfl ⟨ks rfl (.c (.fz rfl (by first | rfl | (simp [dR]; done) | (simp [dR]; rfl)) (by simp) (by first | (simp; omega) | omega))), kb 0 rfl (.dt rfl), trivial⟩) rfl ?_ (hbR_box rfl)
        rfl
      · skip
        have hr2 : r = (xs, p + ns.length + 1) := by rw [hr, spotF, hE2, if_neg h47]
        subst hr2
        refine ACode.skip ?_
        refine ks_n ?_
        refine ACode.seq ?_
        refine ACode.region ?_
        refine .cons (.mv rfl rfl) ?_
        refine .cons (.asg rfl rfl) ?_
        refine .nil ?_
        refine ks_n ?_
        refine ACode.ret ?_
        refine kf_wret [(.t 4, .v (.o (vD (dIs (xs))))), (.b 0, .b 105 2 (dR ([rRd bs (p + ns.length + 1)]))), (.u 0, .u)] (Wk.keep [(0, 0)] rfl rfl ⟨ks rfl (.c (.fz rfl (by first | rfl | (simp [dR]; done) | (simp [dR]; rfl)) (by simp) (by first | (simp; omega) | omega))), kb 0 rfl (.dt rfl), trivial⟩) rfl ?_ (hbR_box rfl)
        rfl

end Go.Proofs.Ytgcpdpbapgkdjaa

/- From a law's contract over data to its run at slices of bytes; condition: what the slices hold. -/
namespace Go.Proofs.Ytgcpdpbapgkdjaa
set_option linter.unusedVariables false
set_option linter.unusedSimpArgs false
open Go.RowKit

theorem ys_dr {B : Nat → Prop} {w : World} {v : Value} {xs : List Int} (h : Sl Sh.byte B w v xs) : Dr B w (dYs xs) v := by
  obtain ⟨a, cap, rfl, h1, h2, h3, h4⟩ := h
  by_cases h0 : xs.length = 0
  · have : xs = [] := List.eq_nil_of_length_eq_zero h0
    subst this
    exact Dr.list 1 [] a 0 cap 0 0 (fun _ _ => undef) rfl (Nat.zero_le _) (Nat.zero_le _) h3 (fun h => absurd h (Nat.lt_irrefl _)) (fun i r h => by simp at h) (fun i r j x h => by simp at h) (fun i r j x h => by simp at h)
  · obtain ⟨b, off, cs, rfl, _⟩ := h4 0 xs[0] (List.getElem?_eq_getElem (by omega))
    have hr : ∀ (i : Nat) r, (xs.map rY)[i]? = some r → ∃ x, xs[i]? = some x ∧ r = rY x := fun i r hr => by
      rw [List.getElem?_map] at hr
      cases hx : xs[i]? with
      | none => rw [hx] at hr; cases hr
      | some x => rw [hx] at hr; cases hr; exact ⟨x, rfl, rfl⟩
    refine Dr.list 1 (xs.map rY) (some ⟨b, off, none⟩) xs.length cap b off (fun i _ => .int .u8 (xs.getD i 0)) (by rw [List.length_map]) h1 h2 (fun h => by cases h) (fun _ => rfl) (fun i r hi => ?_) (fun i r j y hi hj => ?_) (fun i r j y hi hj => ?_)
    · obtain ⟨x, _, rfl⟩ := hr i r hi; rfl
    all_goals
      obtain ⟨x, hx, rfl⟩ := hr i r hi
      have hj0 : j = 0 ∧ y = .val (.int .u8 x) := by
        cases j with
        | zero => simp [rY] at hj; exact ⟨rfl, hj.symm⟩
        | succ j => simp [rY] at hj
      obtain ⟨rfl, rfl⟩ := hj0
      have hg : xs.getD i 0 = x := by rw [List.getD, hx]; rfl
    · obtain ⟨b', off', cs, e, hb, hr', hc⟩ := h4 i x hx
      cases e
      have hr2 : cs = [.int .u8 x] := hr'
      subst hr2
      exact ⟨hb, by rw [hg]; exact hc 0 _ rfl⟩
    · show Dr B w (.val (.int .u8 x)) (.int .u8 (xs.getD i 0))
      rw [hg]; exact .val _ rfl
/-- A law that answers true, and turns nothing that was there. -/
abbrev Truth (P : Program) (f : FuncId) (vs : Array Value) (w : World) : Prop := Calls P f vs w fun e w' => e = .returned (.bool true) ∧ Below w.heap.size w w'
theorem Fn.truth {P : Program} {f : FuncId} {args : List V1} {vs : List Value} {w : World} {B : Nat → Prop} (h : Fn P f [] args (.o (bo1 true)) []) (hv : Vals (V1r (fun _ => (0, 0)) (Al (lk [])) B w) args vs) : Truth P f vs.toArray w := by
  have hno : ∀ k, ¬ Al (lk []) k := fun k ⟨e, sz, rows, h⟩ => by cases h
  refine (h B (fun _ => (0, 0)) w vs ⟨fun k e sz rows h => (by cases h), fun k l hk => (hno k hk).elim, fun k hk => (hno k hk).elim⟩ hv).mono ?_
  rintro e w' ⟨v, bx', rfl, hp⟩
  have hv : Dr _ w' (.val (.bool true)) v := hp.val
  cases hv
  exact ⟨rfl, hp.os, hp.tape, hp.output, hp.size, fun b hb => hp.old b hb fun k hk => (hno k hk).elim⟩
/-- A slice of bytes, as a law takes it. -/
structure Byt (w : World) (a : Option Addr) (n c : Nat) (bs : List Int) : Prop where
  sl : n ≤ 1048576 → Sl Sh.byte (fun b => b < w.heap.size) w (.slice a n c) bs
  bd : ∀ x ∈ bs, 0 ≤ x ∧ x ≤ 255
abbrev vX (a : Option Addr) (n c : Nat) : V1 := vD (.val (.slice a n c))
theorem bytes_take {bs : List Int} (h : ∀ x ∈ bs, 0 ≤ x ∧ x ≤ 255) : Bytes (bs.take 2000) := ⟨by rw [List.length_take]; omega, fun x hx => h x (List.mem_of_mem_take hx)⟩
theorem law1 {P : Program} {f : FuncId} {a : Option Addr} {n c : Nat} {bs : List Int} {w : World} (h : Byt w a n c bs) (hbig : 1048576 < n → Fn P f [] [vX a n c] (.o (bo1 true)) [])
    (hsm : bs.length ≤ 1048576 → Bytes (bs.take 2000) → Fn P f [] [vD (dYs bs)] (.o (bo1 true)) []) : Truth P f #[.slice a n c] w := by
  by_cases hn : 1048576 < n
  · exact (hbig hn).truth (vs := [_]) (B := fun _ => True) ⟨rfl, fun i x v hx hv => by
      match i, hx, hv with
      | 0, hx, hv => cases hx; cases hv; exact Dr.val _ rfl⟩
  · have hs := h.sl (by omega)
    have hl : bs.length = n := hs.len
    exact (hsm (by omega) (bytes_take h.bd)).truth (vs := [_]) ⟨rfl, fun i x v hx hv => by
      match i, hx, hv with
      | 0, hx, hv => cases hx; cases hv; exact ys_dr hs⟩
theorem law2 {P : Program} {f : FuncId} {a a2 : Option Addr} {n c n2 c2 : Nat} {bs bs2 : List Int} {w : World} (h : Byt w a n c bs) (h2 : Byt w a2 n2 c2 bs2) (hbig : 1048576 < n ∨ 1048576 < n2 → Fn P f [] [vX a n c, vX a2 n2 c2] (.o (bo1 true)) [])
    (hsm : bs.length ≤ 1048576 → bs2.length ≤ 1048576 → Bytes (bs.take 2000) → Bytes (bs2.take 2000) → Fn P f [] [vD (dYs bs), vD (dYs bs2)] (.o (bo1 true)) []) : Truth P f #[.slice a n c, .slice a2 n2 c2] w := by
  by_cases hn : 1048576 < n ∨ 1048576 < n2
  · exact (hbig hn).truth (vs := [_, _]) (B := fun _ => True) ⟨rfl, fun i x v hx hv => by
      match i, hx, hv with
      | 0, hx, hv => cases hx; cases hv; exact Dr.val _ rfl
      | 1, hx, hv => cases hx; cases hv; exact Dr.val _ rfl⟩
  · have hs := h.sl (by omega)
    have hs2 := h2.sl (by omega)
    have hl : bs.length = n := hs.len
    have hl2 : bs2.length = n2 := hs2.len
    exact (hsm (by omega) (by omega) (bytes_take h.bd) (bytes_take h2.bd)).truth (vs := [_, _]) ⟨rfl, fun i x v hx hv => by
      match i, hx, hv with
      | 0, hx, hv => cases hx; cases hv; exact ys_dr hs
      | 1, hx, hv => cases hx; cases hv; exact ys_dr hs2⟩
end Go.Proofs.Ytgcpdpbapgkdjaa

/- How an argument that is a slice of bytes is read; no condition. -/
namespace Go.Proofs.Ytgcpdpbapgkdjaa
set_option linter.unusedVariables false
set_option linter.unusedSimpArgs false
open Go.RowKit

theorem IsRow.bytes {w : World} {a : Option Addr} {n cap : Nat} {zs : List Int} (h : IsRow .u8 w a n cap zs) (hn : n ≤ 17592186044416) : Sl Sh.byte (fun b => b < w.heap.size) w (.slice a n cap) (zs.take n) := by
  rcases h with ⟨rfl, rfl, rfl, rfl⟩ | ⟨x, rfl, h1, _, h2, h3, _⟩
  · exact Sl.nil _ _ _
  · have hl : (zs.take n).length = n := by rw [List.length_take]; omega
    refine ⟨_, cap, by rw [hl], by rw [hl]; exact h1, by rw [hl]; exact hn, (fun e => by cases e), fun i y hy => ?_⟩
    have hi : i < n := by rw [← hl]; exact (List.getElem?_eq_some_iff.1 hy).1
    have hc := h3 i (by omega)
    obtain ⟨b, off, spot⟩ := x
    have hs : spot = none := by
      have h0 := h3 0 (by omega)
      simpa [Addr.add] using World.cell?_spot h0
    subst hs
    rw [Addr.add_lit] at hc
    rw [List.getElem?_take, if_pos hi] at hy
    rw [List.getD, hy] at hc
    refine ⟨b, off, [.int .u8 y], rfl, World.block_lt_of_cell? _ _ hc, rfl, fun j c hj => ?_⟩
    cases j with
    | succ j => simp at hj
    | zero =>
      simp only [List.getElem?_cons_zero, Option.some.injEq] at hj
      subst hj
      simpa [Sh.byte] using hc
theorem IsRow.bytesBd {w : World} {a : Option Addr} {n cap : Nat} {zs : List Int} (h : IsRow .u8 w a n cap zs) : ∀ x ∈ zs.take n, 0 ≤ x ∧ x ≤ 255 := by
  intro x hx
  have := h.wf x hx
  simp [Lit.wf, IntKind.min, IntKind.max, IntKind.bits, IntKind.signed] at this
  omega
end Go.Proofs.Ytgcpdpbapgkdjaa

/- Law FnNestPrefix; condition: bytes. -/
namespace Go.Proofs.Ytgcpdpbapgkdjaa
set_option linter.unusedVariables false
set_option linter.unusedSimpArgs false
open Go.RowKit

theorem dLs_take (ns : List Lp) (k : Nat) : dLs (ns.take k) = .list 2 ((ns.map rL).take k) := by rw [dLs, List.map_take]
theorem Fn.arg12 {P : Program} {f : FuncId} {hb hb' : St} {d1 d2 e1 e2 : D} {y : V} (h : d1 = d2) (h' : e1 = e2) (F : Fn P f hb [vD d1, vD e1] y hb') : Fn P f hb [vD d2, vD e2] y hb' := h ▸ h' ▸ F
theorem Fn.arg1 {P : Program} {f : FuncId} {hb hb' : St} {d1 d2 : D} {y : V} (h : d1 = d2) (F : Fn P f hb [vD d1] y hb') : Fn P f hb [vD d2] y hb' := h ▸ F
theorem smN_take {ns : List Lp} (h : smN ns) (k : Nat) : smN (ns.take k) := ⟨by rw [List.length_take]; have := h.1; omega, fun l hl => h.2 l (List.mem_of_mem_take hl)⟩

set_option maxRecDepth 100000 in
set_option maxHeartbeats 1600000 in
theorem nestPrefix_core {bs : List Int} (hl : bs.length ≤ 1048576) {bs2 : List Int} (hl2 : bs2.length ≤ 1048576) {ns : List Lp} (hs : smN ns) (h3 : ns.length ≤ 3 ∨ 4 < ns.length) (hD : Fn Try.prog 28 [] [vD (dYs bs)] (.o (vD (dLs ns))) []) : Fn Try.prog 8 [] [vD (dYs bs), vD (dYs bs2)] (.o (bo1 true)) [] := by
  have hn := npR_len ns
  refine Fn.code0 Try.func8 rfl rfl rfl rfl ?_
  refine ACode.seq ?_
  refine ACode.region ?_
  refine .cons (.asg rfl rfl) ?_
  refine .nil ?_
  refine ks_n ?_
  refine ACode.seq ?_
  refine ACode.seq ?_
  refine ACode.region ?_
  refine .cons (.mv rfl rfl) ?_
  refine .cons (.ln 5 1 1 rfl rfl rfl) ?_
  refine .cons (.gt rfl rfl rfl) ?_
  refine .cons (.mv rfl rfl) ?_
  refine .cD 15 rfl (fun g15 => ?_) (fun g15 => ?_)
  · skip
    omega
  · skip
    refine .cons (.gT rfl rfl rfl (.mv rfl rfl)) ?_
    refine .cons (.gT rfl rfl rfl (.ln 5 1 1 rfl rfl rfl)) ?_
    refine .cons (.gT rfl rfl rfl (.gt rfl rfl rfl)) ?_
    refine .cons (.pF rfl rfl rfl) ?_
    refine .nil ?_
    refine ks_n ?_
    refine ACode.condT rfl (fun h19 => ?_) (fun h19 => ?_)
    · try simp only [List.length_map, decide_eq_true_eq, decide_eq_false_iff_not, Bool.not_eq_true', Bool.not_eq_false', Bool.not_eq_true, Bool.not_eq_false] at h19
      omega
    · try simp only [List.length_map, decide_eq_true_eq, decide_eq_false_iff_not, Bool.not_eq_true', Bool.not_eq_false', Bool.not_eq_true, Bool.not_eq_false] at h19
      refine ACode.skip ?_
      refine ks_n ?_
      refine ACode.seq ?_
      refine ACode.region ?_
      refine .cons (.mv rfl rfl) ?_
      refine .cons (.cP [.tmp 20] rfl rfl rfl rfl (hD) rfl) ?_
      refine .cons (.asg rfl rfl) ?_
      refine .nil ?_
      refine ks_n ?_
      refine ACode.seq ?_
      refine ACode.region ?_
      refine .cons (.mv rfl rfl) ?_
      refine .cons (.cP [.tmp 23] rfl rfl rfl rfl (implNestPts_fn ns hs) rfl) ?_
      refine .cons (.mv rfl rfl) ?_
      refine .cons (.ex rfl rfl rfl) ?_
      refine .cons (.ex rfl rfl rfl) ?_
      refine .cons (.asg rfl rfl) ?_
      refine .cons (.asg rfl rfl) ?_
      refine .nil ?_
      refine ks_n ?_
      refine ACode.seq ?_
      refine ACode.region ?_
      refine .cons (.mv rfl rfl) ?_
      refine .cons (.cP [.tmp 28] rfl rfl rfl rfl (specNestPts_fn ns hs) rfl) ?_
      refine .cons (.mv rfl rfl) ?_
      refine .cons (.ex rfl rfl rfl) ?_
      refine .cons (.ex rfl rfl rfl) ?_
      refine .cons (.asg rfl rfl) ?_
      refine .cons (.asg rfl rfl) ?_
      refine .nil ?_
      refine ks_n ?_
      refine ACode.seq ?_
      refine ACode.seq ?_
      refine ACode.region ?_
      refine .cons (.mv rfl rfl) ?_
      refine .cons (.mv rfl rfl) ?_
      refine .cons (St1.neqB rfl rfl rfl rfl (by kernel_rfl) rfl rfl) ?_
      refine .cons (.mv rfl rfl) ?_
      refine AOps.cases 35 _ rfl (fun g35 => ?_) (fun g35 => ?_)
      · try simp only [List.length_map, decide_eq_true_eq, decide_eq_false_iff_not, Bool.not_eq_true', Bool.not_eq_false', Bool.not_eq_true, Bool.not_eq_false] at g35
        rw [beq_self_eq_true] at g35; cases g35
      · try simp only [List.length_map, decide_eq_true_eq, decide_eq_false_iff_not, Bool.not_eq_true', Bool.not_eq_false', Bool.not_eq_true, Bool.not_eq_false] at g35
        refine .cons (.gT rfl rfl rfl (.mv rfl rfl)) ?_
        refine .cons (.gT rfl rfl rfl (.mv rfl rfl)) ?_
        refine .cons (.gT rfl rfl rfl (.cP [.tmp 36, .tmp 37] rfl rfl rfl rfl (lnLists_fn _ _ (by omega) (npR_x hs)) rfl)) ?_
        refine .cons (.gT rfl rfl rfl (.nt rfl rfl)) ?_
        refine .cons (.pF rfl rfl rfl) ?_
        refine .cons (.mv rfl rfl) ?_
        refine AOps.cases 41 _ rfl (fun g41 => ?_) (fun g41 => ?_)
        · try simp only [List.length_map, decide_eq_true_eq, decide_eq_false_iff_not, Bool.not_eq_true', Bool.not_eq_false', Bool.not_eq_true, Bool.not_eq_false] at g41
          first | exact absurd trivial g41 | exact absurd rfl g41
        · try simp only [List.length_map, decide_eq_true_eq, decide_eq_false_iff_not, Bool.not_eq_true', Bool.not_eq_false', Bool.not_eq_true, Bool.not_eq_false] at g41
          refine .cons (.gT rfl rfl rfl (.mv rfl rfl)) ?_
          refine .cons (.gT rfl rfl rfl (.nt rfl rfl)) ?_
          refine .cons (.pF rfl rfl rfl) ?_
          refine .cons (.mv rfl rfl) ?_
          refine AOps.cases 45 _ rfl (fun g45 => ?_) (fun g45 => ?_)
          · try simp only [List.length_map, decide_eq_true_eq, decide_eq_false_iff_not, Bool.not_eq_true', Bool.not_eq_false', Bool.not_eq_true, Bool.not_eq_false] at g45
            refine .cons (.gF rfl rfl rfl) ?_
            refine .cons (.gF rfl rfl rfl) ?_
            refine .cons (.gF rfl rfl rfl) ?_
            refine .cons (.pT rfl rfl rfl) ?_
            refine .nil ?_
            refine ks_n ?_
            refine ACode.condT rfl (fun _ => ?_) (fun h => by first | (cases h; done) | (simp [*] at h; done) | (exfalso; simp_all; done))
            refine ACode.seq ?_
            refine ACode.region ?_
            refine .cons (.mv rfl rfl) ?_
            refine .cons (.mv rfl rfl) ?_
            refine .cons (St1.eqlB rfl rfl rfl rfl (by kernel_rfl) rfl rfl) ?_
            refine .cons (.mv rfl rfl) ?_
            refine AOps.cases 53 _ rfl (fun g53 => ?_) (fun g53 => ?_)
            · try simp only [List.length_map, decide_eq_true_eq, decide_eq_false_iff_not, Bool.not_eq_true', Bool.not_eq_false', Bool.not_eq_true, Bool.not_eq_false] at g53
              refine .cons (.gT rfl rfl rfl (.mv rfl rfl)) ?_
              refine .cons (.gT rfl rfl rfl (.mv rfl rfl)) ?_
              refine .cons (.gT rfl rfl rfl (.cP [.tmp 54, .tmp 55] rfl rfl rfl rfl (lnLists_fn _ _ (by omega) (npR_x hs)) rfl)) ?_
              refine .cons (.pT rfl rfl rfl) ?_
              refine .cons (.asg rfl rfl) ?_
              refine .nil ?_
              refine ks_n ?_
              refine ACode.ret ?_
              refine ks_r ?_
              refine kf_ret rfl ?_ nobox
              first | rfl | exact leafB (beq_self_eq_true _) | exact leafB (nsV_take hv k) | exact leafB (by simp)
            · try simp only [List.length_map, decide_eq_true_eq, decide_eq_false_iff_not, Bool.not_eq_true', Bool.not_eq_false', Bool.not_eq_true, Bool.not_eq_false] at g53
              rw [beq_self_eq_true] at g53; cases g53
          · try simp only [List.length_map, decide_eq_true_eq, decide_eq_false_iff_not, Bool.not_eq_true', Bool.not_eq_false', Bool.not_eq_true, Bool.not_eq_false] at g45
            refine .cons (.gT rfl rfl rfl (.mv rfl rfl)) ?_
            refine .cons (.gT rfl rfl rfl (.ln 67 2 48 rfl rfl rfl)) ?_
            refine .cons (.gT rfl rfl rfl (.eq rfl rfl rfl)) ?_
            refine .cons (.pF rfl rfl rfl) ?_
            refine .nil ?_
            refine ks_n ?_
            refine ACode.condT rfl (fun h49 => ?_) (fun h49 => ?_)
            · try simp only [List.length_map, decide_eq_true_eq, decide_eq_false_iff_not, Bool.not_eq_true', Bool.not_eq_false', Bool.not_eq_true, Bool.not_eq_false] at h49
              refine ACode.seq ?_
              refine ACode.region ?_
              refine .cons (.mv rfl rfl) ?_
              refine .cons (.mv rfl rfl) ?_
              refine .cons (St1.eqlB rfl rfl rfl rfl (by kernel_rfl) rfl rfl) ?_
              refine .cons (.mv rfl rfl) ?_
              refine AOps.cases 53 _ rfl (fun g53 => ?_) (fun g53 => ?_)
              · try simp only [List.length_map, decide_eq_true_eq, decide_eq_false_iff_not, Bool.not_eq_true', Bool.not_eq_false', Bool.not_eq_true, Bool.not_eq_false] at g53
                refine .cons (.gT rfl rfl rfl (.mv rfl rfl)) ?_
                refine .cons (.gT rfl rfl rfl (.mv rfl rfl)) ?_
                refine .cons (.gT rfl rfl rfl (.cP [.tmp 54, .tmp 55] rfl rfl rfl rfl (lnLists_fn _ _ (by omega) (npR_x hs)) rfl)) ?_
                refine .cons (.pT rfl rfl rfl) ?_
                refine .cons (.asg rfl rfl) ?_
                refine .nil ?_
                refine ks_n ?_
                refine ACode.ret ?_
                refine ks_r ?_
                refine kf_ret rfl ?_ nobox
                first | rfl | exact leafB (beq_self_eq_true _) | exact leafB (nsV_take hv k) | exact leafB (by simp)
              · try simp only [List.length_map, decide_eq_true_eq, decide_eq_false_iff_not, Bool.not_eq_true', Bool.not_eq_false', Bool.not_eq_true, Bool.not_eq_false] at g53
                rw [beq_self_eq_true] at g53; cases g53
            · try simp only [List.length_map, decide_eq_true_eq, decide_eq_false_iff_not, Bool.not_eq_true', Bool.not_eq_false', Bool.not_eq_true, Bool.not_eq_false] at h49
              have ho : okP ns = true := g45
              have hv := (okP_iff.1 ho).1
              have hn3 := nsV3 hv h3
              have hP : ∀ x ∈ npR ns, x ∈ ptsG ns [] ∧ x.length = ns.length := fun x hx => (npR_mem hx).2
              have hk : bs2.length % ns.length < ns.length := Nat.mod_lt _ (by omega)
              obtain ⟨k, hkd⟩ : ∃ k, k = bs2.length % ns.length := ⟨_, rfl⟩
              rw [← hkd] at hk
              refine ACode.skip ?_
              refine ks_n ?_
              refine ACode.seq ?_
              refine ACode.region ?_
              refine .cons (.mv rfl rfl) ?_
              refine .cons (.ln 5 1 1 rfl rfl rfl) ?_
              refine .cons (.mv rfl rfl) ?_
              refine .cons (.ln 67 2 48 rfl rfl rfl) ?_
              refine .cons (St1.rem rfl rfl rfl rfl rfl rfl (by omega)) ?_
              refine .cons (.asg rfl rfl) ?_
              refine .nil ?_
              refine ks_n ?_
              refine ACode.seq ?_
              refine ACode.seq ?_
              refine ACode.region ?_
              refine .cons (.asg rfl rfl) ?_
              refine .nil ?_
              refine ks_n ?_
              refine ACode.block ?_
              refine .loopK (fun m σ => (∃ i : Nat, m = (npR ns).length - i ∧ (i ≤ (npR ns).length) ∧ (True) ∧ σ = [(.t 5, .v (.o (vD (dLs ns)))), (.t 6, .v (.o (vD (dPs (npR ns))))), (.t 10, .v (.o (nat1 (k : Nat)))), (.t 11, .v (.o (nat1 (i : Nat))))])) [] ⟨0, rfl, by omega, trivial, rfl⟩ ⟨ks rfl .dt, ks rfl .dt, ks rfl (.dt (congrArg (fun z => V.o (nat1 z)) (by first | rfl | (rw [hkd]; exact tmod_nat rfl rfl)))), ks rfl .dt, trivial⟩ ?_
              rintro m σ ⟨i, hm0, hi, hF, rfl⟩
              refine ACode.seq ?_
              refine ACode.seq ?_
              refine ACode.region ?_
              refine .cons (.mv rfl rfl) ?_
              refine .cons (.mv rfl rfl) ?_
              refine .cons (.ln 28 1 24 rfl rfl rfl) ?_
              refine .cons (.ls rfl rfl rfl) ?_
              refine .nil ?_
              refine ks_n ?_
              refine .cD rfl (fun h66 => ?_) (fun h66 => ?_)
              · skip
                obtain ⟨x, hx1⟩ : ∃ x, (npR ns)[i]? = some x := ⟨_, List.getElem?_eq_getElem (by omega)⟩
                have hxl := (hP x (List.mem_of_getElem? hx1)).2
                have cpi := implPointIn_fn (ns.take k) (smN_take hs k) (x.take k) (by rw [List.length_take]; omega)
                refine ACode.skip ?_
                refine ks_n ?_
                refine ACode.seq ?_
                refine ACode.block ?_
                refine ACode.seq ?_
                refine ACode.drawK (by kernel_rfl) (by kernel_rfl) ?_
                refine .cons (.mv rfl rfl) ?_
                refine .cons (.mv rfl rfl) ?_
                refine .cons (St1.sliceTo (e := 67) (sz := 2) (by' := 48) (k := k) rfl rfl rfl rfl (by kernel_rfl) rfl rfl rfl (by first | rfl | omega) (by simp; omega)) ?_
                refine .cons (.mv rfl rfl) ?_
                refine .cons (.mv rfl rfl) ?_
                refine .cons (.xL 28 1 24 rfl rfl rfl rfl rfl) ?_
                refine .cons (.l1 1 rfl rfl) ?_
                refine .cons (.mv rfl rfl) ?_
                refine .cons (St1.sliceTo (e := 3) (sz := 1) (by' := 8) (k := k) rfl rfl rfl rfl (by kernel_rfl) rfl rfl rfl (by first | rfl | omega) (by simp; omega)) ?_
                refine .cons (.cP [.tmp 71, .tmp 77] rfl rfl rfl rfl (Fn.arg12 (dLs_take ns k) (dIs_take x k) cpi) rfl) ?_
                refine .cons (.nt rfl rfl) ?_
                refine .nil ⟨by kernel_rfl, ?_⟩
                refine ks_n ?_
                refine ACode.condT rfl (fun h79 => ?_) (fun h79 => ?_)
                · try simp only [List.length_map, decide_eq_true_eq, decide_eq_false_iff_not, Bool.not_eq_true', Bool.not_eq_false', Bool.not_eq_true, Bool.not_eq_false] at h79
                  rw [inV_take hv hn3 (hP x (List.mem_of_getElem? hx1)).1 (by omega)] at h79; cases h79
                · try simp only [List.length_map, decide_eq_true_eq, decide_eq_false_iff_not, Bool.not_eq_true', Bool.not_eq_false', Bool.not_eq_true, Bool.not_eq_false] at h79
                  refine ACode.skip ?_
                  refine kb_n ?_
                  refine ks_n ?_
                  refine ACode.region ?_
                  refine .cons (.mv rfl rfl) ?_
                  refine .cons (.pl rfl rfl rfl) ?_
                  refine .cons (.asg rfl rfl) ?_
                  refine .nil ?_
                  refine kl_k [] ⟨i + 1, rfl, by omega, trivial, rfl⟩ ⟨ks rfl .dt, ks rfl .dt, ks rfl (.dt (congrArg (fun z => V.o (nat1 z)) (by first | rfl | (rw [hkd]; exact tmod_nat rfl rfl)))), ks rfl .dt, trivial⟩
              · skip
                refine ACode.exit ?_
                refine ks_e ?_
                refine kl_e ?_
                refine kb_hit ?_
                refine ks_n ?_
                refine ACode.seq ?_
                refine ACode.region ?_
                refine .cons (.mv rfl rfl) ?_
                refine .cons (.mv rfl rfl) ?_
                refine .cons (St1.sliceTo (e := 67) (sz := 2) (by' := 48) (k := k) rfl rfl rfl rfl (by kernel_rfl) rfl rfl rfl (by first | rfl | omega) (by simp; omega)) ?_
                refine .cons (.cP [.tmp 82] rfl rfl rfl rfl (Fn.arg1 (dLs_take ns k) (implNestV_fn (ns.take k) (smN_take hs k))) rfl) ?_
                refine .cons (.asg rfl rfl) ?_
                refine .nil ?_
                refine ks_n ?_
                refine ACode.ret ?_
                refine kf_ret rfl ?_ nobox
                first | rfl | exact leafB (beq_self_eq_true _) | exact leafB (nsV_take hv k) | exact leafB (by simp)

set_option maxRecDepth 100000 in
set_option maxHeartbeats 1600000 in
theorem nestPrefix_big (a : Option Addr) (n c : Nat) (a2 : Option Addr) (n2 c2 : Nat) (hn : 1048576 < n ∨ 1048576 < n2) : Fn Try.prog 8 [] [vX a n c, vX a2 n2 c2] (.o (bo1 true)) [] := by
  refine Fn.code0 Try.func8 rfl rfl rfl rfl ?_
  refine ACode.seq ?_
  refine ACode.region ?_
  refine .cons (.asg rfl rfl) ?_
  refine .nil ?_
  refine ks_n ?_
  refine ACode.seq ?_
  refine ACode.seq ?_
  refine ACode.region ?_
  refine .cons (.mv rfl rfl) ?_
  refine .cons (St1.lenN (e := 5) (m := 1) (by' := 1) rfl rfl rfl rfl rfl (by kernel_rfl) rfl) ?_
  refine .cons (.gt rfl rfl rfl) ?_
  refine .cons (.mv rfl rfl) ?_
  refine .cD 15 rfl (fun g15 => ?_) (fun g15 => ?_)
  · skip
    refine .cons (.gF rfl rfl rfl) ?_
    refine .cons (.gF rfl rfl rfl) ?_
    refine .cons (.gF rfl rfl rfl) ?_
    refine .cons (.pT rfl rfl rfl) ?_
    refine .nil ?_
    refine ks_n ?_
    refine ACode.condT rfl (fun _ => ?_) (fun h => by first | (cases h; done) | (simp [*] at h; done) | (exfalso; simp_all; done))
    refine ACode.seq ?_
    refine ACode.region ?_
    refine .cons (.asg rfl rfl) ?_
    refine .nil ?_
    refine ks_n ?_
    refine ACode.ret ?_
    refine ks_r ?_
    refine kf_ret rfl ?_ nobox
    rfl
  · skip
    refine .cons (.gT rfl rfl rfl (.mv rfl rfl)) ?_
    refine .cons (.gT rfl rfl rfl (St1.lenN (e := 5) (m := 1) (by' := 1) rfl rfl rfl rfl rfl (by kernel_rfl) rfl)) ?_
    refine .cons (.gT rfl rfl rfl (.gt rfl rfl rfl)) ?_
    refine .cons (.pF rfl rfl rfl) ?_
    refine .nil ?_
    refine ks_n ?_
    refine ACode.condT rfl (fun h19 => ?_) (fun h19 => ?_)
    · try simp only [List.length_map, decide_eq_true_eq, decide_eq_false_iff_not, Bool.not_eq_true', Bool.not_eq_false', Bool.not_eq_true, Bool.not_eq_false] at h19
      refine ACode.seq ?_
      refine ACode.region ?_
      refine .cons (.asg rfl rfl) ?_
      refine .nil ?_
      refine ks_n ?_
      refine ACode.ret ?_
      refine ks_r ?_
      refine kf_ret rfl ?_ nobox
      rfl
    · try simp only [List.length_map, decide_eq_true_eq, decide_eq_false_iff_not, Bool.not_eq_true', Bool.not_eq_false', Bool.not_eq_true, Bool.not_eq_false] at h19
      omega

theorem lawNestPrefix (a : Option Addr) (n c : Nat) (bs : List Int) (a2 : Option Addr) (n2 c2 : Nat) (bs2 : List Int) (w : World) (hx : n ≤ 1048576 → Sl Sh.byte (fun b => b < w.heap.size) w (.slice a n c) bs) (hbs : ∀ x ∈ bs, 0 ≤ x ∧ x ≤ 255) (hx2 : n2 ≤ 1048576 → Sl Sh.byte (fun b => b < w.heap.size) w (.slice a2 n2 c2) bs2) (hbs2 : ∀ x ∈ bs2, 0 ≤ x ∧ x ≤ 255) : Truth Try.prog 8 #[.slice a n c, .slice a2 n2 c2] w :=
  law2 ⟨hx, hbs⟩ ⟨hx2, hbs2⟩ (fun h => nestPrefix_big a n c a2 n2 c2 h) (fun hl hl2 hb hb2 => by
    obtain ⟨ns, h1, h2, h4⟩ := drawNV_fn hb
    exact nestPrefix_core hl hl2 (h1.sm (by omega)) h2 (drawNP_core h4))

end Go.Proofs.Ytgcpdpbapgkdjaa
