/- Part 6 of 6 of the proof: laws on memory and data, then what the functions compute, in the order in which they build on each other; conditions: those that each theorem names. -/
import Derived.Test.YtgcpdpbapgkdjaaP5

/- Lists compared; draws of points; condition: small nests. -/
namespace Go.Proofs.Ytgcpdpbapgkdjaa
set_option linter.unusedVariables false
set_option linter.unusedSimpArgs false
open Go.RowKit

set_option maxRecDepth 100000 in
set_option maxHeartbeats 1600000 in
theorem lnInts_fn (xs ys : List Int) (hx : xs.length ≤ 1099511627776) : Fn Try.prog 39 [] [vD (dIs xs), vD (dIs ys)] (.o (bo1 (decide (xs = ys)))) [] := by
  rw [← eqF_dec]
  refine Fn.code0 Try.func39 rfl rfl rfl rfl ?_
  refine ACode.seq ?_
  refine ACode.region ?_
  refine .cons (.asg rfl rfl) ?_
  refine .nil ?_
  refine ks_n ?_
  refine ACode.seq ?_
  refine ACode.seq ?_
  refine ACode.region ?_
  refine .cons (.mv rfl rfl) ?_
  refine .cons (.ln 3 1 8 rfl rfl rfl) ?_
  refine .cons (.mv rfl rfl) ?_
  refine .cons (.ln 3 1 8 rfl rfl rfl) ?_
  refine .cons (.ne rfl rfl rfl) ?_
  refine .nil ?_
  refine ks_n ?_
  refine .cND rfl (fun h10 => ?_) (fun h10 => ?_)
  · skip
    refine ACode.seq ?_
    refine ACode.region ?_
    refine .cons (.asg rfl rfl) ?_
    refine .nil ?_
    refine ks_n ?_
    refine ACode.ret ?_
    refine ks_r ?_
    refine kf_ret rfl ?_ nobox
    exact leafB (eqF_len (by omega)).symm
  · skip
    refine ACode.skip ?_
    refine ks_n ?_
    refine ACode.seq ?_
    refine ACode.seq ?_
    refine ACode.region ?_
    refine .cons (.asg rfl rfl) ?_
    refine .nil ?_
    refine ks_n ?_
    refine ACode.block ?_
    refine .loopK (fun m σ => (∃ i : Nat, m = xs.length - i ∧ (i ≤ xs.length) ∧ (eqF (fun x y => decide (x = y)) xs ys = eqF (fun x y => decide (x = y)) (xs.drop i) (ys.drop i)) ∧ σ = [(.t 0, .v (.o (vD (dIs xs)))), (.t 1, .v (.o (vD (dIs ys)))), (.t 5, .v (.o (nat1 (i : Nat))))])) [] ⟨0, rfl, by omega, by simp, rfl⟩ ⟨ks rfl .dt, ks rfl .dt, ks rfl .dt, trivial⟩ ?_
    rintro m σ ⟨i, hm0, hi, hF, rfl⟩
    refine ACode.seq ?_
    refine ACode.seq ?_
    refine ACode.region ?_
    refine .cons (.mv rfl rfl) ?_
    refine .cons (.mv rfl rfl) ?_
    refine .cons (.ln 3 1 8 rfl rfl rfl) ?_
    refine .cons (.ls rfl rfl rfl) ?_
    refine .nil ?_
    refine ks_n ?_
    refine .cD rfl (fun h14 => ?_) (fun h14 => ?_)
    · skip
      obtain ⟨x, hx1⟩ : ∃ x, xs[i]? = some x := ⟨_, List.getElem?_eq_getElem (by omega)⟩
      obtain ⟨y, hy1⟩ : ∃ x, ys[i]? = some x := ⟨_, List.getElem?_eq_getElem (by omega)⟩
      refine ACode.skip ?_
      refine ks_n ?_
      refine ACode.seq ?_
      refine ACode.block ?_
      refine ACode.seq ?_
      refine ACode.drawK (by kernel_rfl) (by kernel_rfl) ?_
      refine .cons (.mv rfl rfl) ?_
      refine .cons (.mv rfl rfl) ?_
      refine .cons (.xL 3 1 8 rfl rfl rfl rfl rfl) ?_
      refine .cons (.l1 1 rfl rfl) ?_
      refine .cons (.mv rfl rfl) ?_
      refine .cons (.mv rfl rfl) ?_
      refine .cons (.xL 3 1 8 rfl rfl rfl rfl rfl) ?_
      refine .cons (.l1 1 rfl rfl) ?_
      refine .cons (.ne rfl rfl rfl) ?_
      refine .nil ⟨by kernel_rfl, ?_⟩
      refine ks_n ?_
      refine .cND rfl (fun h25 => ?_) (fun h25 => ?_)
      · skip
        refine ACode.seq ?_
        have gg : decide (x = y) = false := decide_eq_false h25
        refine ACode.region ?_
        refine .cons (.asg rfl rfl) ?_
        refine .nil ?_
        refine ks_n ?_
        refine ACode.ret ?_
        refine kb_r ?_
        refine ks_r ?_
        refine kl_r ?_
        refine kb_r ?_
        refine ks_r ?_
        refine kf_ret rfl ?_ nobox
        exact leafB (by rw [hF, eqF_drop hx1 hy1, gg]; rfl)
      · skip
        refine ACode.skip ?_
        refine kb_n ?_
        refine ks_n ?_
        have gg : decide (x = y) = true := decide_eq_true h25
        refine ACode.region ?_
        refine .cons (.mv rfl rfl) ?_
        refine .cons (.pl rfl rfl rfl) ?_
        refine .cons (.asg rfl rfl) ?_
        refine .nil ?_
        refine kl_k [] ⟨i + 1, rfl, by omega, by rw [hF, eqF_drop hx1 hy1, gg, Bool.true_and], rfl⟩ ⟨ks rfl .dt, ks rfl .dt, ks rfl .dt, trivial⟩
    · skip
      refine ACode.exit ?_
      refine ks_e ?_
      refine kl_e ?_
      refine kb_hit ?_
      refine ks_n ?_
      refine ACode.seq ?_
      refine ACode.region ?_
      refine .cons (.asg rfl rfl) ?_
      refine .nil ?_
      refine ks_n ?_
      refine ACode.ret ?_
      refine kf_ret rfl ?_ nobox
      exact leafB (by rw [hF, show i = xs.length by omega, eqF_end (by omega)])

set_option maxRecDepth 100000 in
set_option maxHeartbeats 1600000 in
theorem lnLists_fn (xs ys : List (List Int)) (hx : xs.length ≤ 1099511627776) (hq : ∀ x ∈ xs, x.length ≤ 1099511627776) : Fn Try.prog 30 [] [vD (dPs xs), vD (dPs ys)] (.o (bo1 (decide (xs = ys)))) [] := by
  rw [← eqF_dec]
  refine Fn.code0 Try.func30 rfl rfl rfl rfl ?_
  refine ACode.seq ?_
  refine ACode.region ?_
  refine .cons (.asg rfl rfl) ?_
  refine .nil ?_
  refine ks_n ?_
  refine ACode.seq ?_
  refine ACode.seq ?_
  refine ACode.region ?_
  refine .cons (.mv rfl rfl) ?_
  refine .cons (.ln 28 1 24 rfl rfl rfl) ?_
  refine .cons (.mv rfl rfl) ?_
  refine .cons (.ln 28 1 24 rfl rfl rfl) ?_
  refine .cons (.ne rfl rfl rfl) ?_
  refine .nil ?_
  refine ks_n ?_
  refine .cND rfl (fun h10 => ?_) (fun h10 => ?_)
  · skip
    refine ACode.seq ?_
    refine ACode.region ?_
    refine .cons (.asg rfl rfl) ?_
    refine .nil ?_
    refine ks_n ?_
    refine ACode.ret ?_
    refine ks_r ?_
    refine kf_ret rfl ?_ nobox
    exact leafB (eqF_len (by omega)).symm
  · skip
    refine ACode.skip ?_
    refine ks_n ?_
    refine ACode.seq ?_
    refine ACode.seq ?_
    refine ACode.region ?_
    refine .cons (.asg rfl rfl) ?_
    refine .nil ?_
    refine ks_n ?_
    refine ACode.block ?_
    refine .loopK (fun m σ => (∃ i : Nat, m = xs.length - i ∧ (i ≤ xs.length) ∧ (eqF (fun x y => decide (x = y)) xs ys = eqF (fun x y => decide (x = y)) (xs.drop i) (ys.drop i)) ∧ σ = [(.t 0, .v (.o (vD (dPs xs)))), (.t 1, .v (.o (vD (dPs ys)))), (.t 5, .v (.o (nat1 (i : Nat))))])) [] ⟨0, rfl, by omega, by simp, rfl⟩ ⟨ks rfl .dt, ks rfl .dt, ks rfl .dt, trivial⟩ ?_
    rintro m σ ⟨i, hm0, hi, hF, rfl⟩
    refine ACode.seq ?_
    refine ACode.seq ?_
    refine ACode.region ?_
    refine .cons (.mv rfl rfl) ?_
    refine .cons (.mv rfl rfl) ?_
    refine .cons (.ln 28 1 24 rfl rfl rfl) ?_
    refine .cons (.ls rfl rfl rfl) ?_
    refine .nil ?_
    refine ks_n ?_
    refine .cD rfl (fun h14 => ?_) (fun h14 => ?_)
    · skip
      obtain ⟨x, hx1⟩ : ∃ x, xs[i]? = some x := ⟨_, List.getElem?_eq_getElem (by omega)⟩
      obtain ⟨y, hy1⟩ : ∃ x, ys[i]? = some x := ⟨_, List.getElem?_eq_getElem (by omega)⟩
      refine ACode.skip ?_
      refine ks_n ?_
      refine ACode.seq ?_
      refine ACode.block ?_
      refine ACode.seq ?_
      refine ACode.drawK (by kernel_rfl) (by kernel_rfl) ?_
      refine .cons (.mv rfl rfl) ?_
      refine .cons (.mv rfl rfl) ?_
      refine .cons (.xL 28 1 24 rfl rfl rfl rfl rfl) ?_
      refine .cons (.l1 1 rfl rfl) ?_
      refine .cons (.mv rfl rfl) ?_
      refine .cons (.mv rfl rfl) ?_
      refine .cons (.xL 28 1 24 rfl rfl rfl rfl rfl) ?_
      refine .cons (.l1 1 rfl rfl) ?_
      refine .cons (.cP [.tmp 20, .tmp 24] rfl rfl rfl rfl (lnInts_fn x y (hq x (List.mem_of_getElem? hx1))) rfl) ?_
      refine .cons (.nt rfl rfl) ?_
      refine .nil ⟨by kernel_rfl, ?_⟩
      refine ks_n ?_
      refine ACode.condT rfl (fun h26 => ?_) (fun h26 => ?_)
      · try simp only [List.length_map, decide_eq_true_eq, decide_eq_false_iff_not, Bool.not_eq_true', Bool.not_eq_false', Bool.not_eq_true, Bool.not_eq_false] at h26
        refine ACode.seq ?_
        have gg : decide (x = y) = false := decide_eq_false (by assumption)
        refine ACode.region ?_
        refine .cons (.asg rfl rfl) ?_
        refine .nil ?_
        refine ks_n ?_
        refine ACode.ret ?_
        refine kb_r ?_
        refine ks_r ?_
        refine kl_r ?_
        refine kb_r ?_
        refine ks_r ?_
        refine kf_ret rfl ?_ nobox
        exact leafB (by rw [hF, eqF_drop hx1 hy1, gg]; rfl)
      · try simp only [List.length_map, decide_eq_true_eq, decide_eq_false_iff_not, Bool.not_eq_true', Bool.not_eq_false', Bool.not_eq_true, Bool.not_eq_false] at h26
        refine ACode.skip ?_
        refine kb_n ?_
        refine ks_n ?_
        have gg : decide (x = y) = true := decide_eq_true (by assumption)
        refine ACode.region ?_
        refine .cons (.mv rfl rfl) ?_
        refine .cons (.pl rfl rfl rfl) ?_
        refine .cons (.asg rfl rfl) ?_
        refine .nil ?_
        refine kl_k [] ⟨i + 1, rfl, by omega, by rw [hF, eqF_drop hx1 hy1, gg, Bool.true_and], rfl⟩ ⟨ks rfl .dt, ks rfl .dt, ks rfl .dt, trivial⟩
    · skip
      refine ACode.exit ?_
      refine ks_e ?_
      refine kl_e ?_
      refine kb_hit ?_
      refine ks_n ?_
      refine ACode.seq ?_
      refine ACode.region ?_
      refine .cons (.asg rfl rfl) ?_
      refine .nil ?_
      refine ks_n ?_
      refine ACode.ret ?_
      refine kf_ret rfl ?_ nobox
      exact leafB (by rw [hF, show i = xs.length by omega, eqF_end (by omega)])

theorem implLex_fn (p q : List Int) : Fn Try.prog 42 [] [vD (dIs p), vD (dIs q)] (.o (bo1 (lexB p q))) [] :=
  Fn.pure fun B bx al w vs hv => by
    obtain ⟨u, v, rfl, h1, h2⟩ := vals2 hv
    have h3 := dr_ints h1
    have h4 := dr_ints h2
    obtain ⟨a, n, c, rfl, rfl⟩ := sl_form h3
    obtain ⟨a2, n2, c2, rfl, rfl⟩ := sl_form h4
    exact (implLex_any B B a a2 _ _ c c2 p q w h3 h4).mono fun e w' ⟨h1, h2⟩ => ⟨_, h1, by rw [← h2]; exact Below.refl _ _, .val _ rfl⟩
theorem npR_len (ns : List Lp) : (npR ns).length ≤ 120 := by
  rw [npR]
  split
  · rename_i h; exact (okP_iff.1 h).2.2
  · simp
theorem npR_mem {ns : List Lp} {x : List Int} (h : x ∈ npR ns) : okP ns = true ∧ x ∈ ptsG ns [] ∧ x.length = ns.length := by
  rw [npR] at h
  split at h
  · rename_i h1; exact ⟨h1, h, (mem_pts.1 h).1⟩
  · cases h
theorem npR_x {ns : List Lp} (hs : smN ns) : ∀ x ∈ npR ns, x.length ≤ 1099511627776 := fun x hx => by rw [(npR_mem hx).2.2]; exact Nat.le_trans hs.1 (by omega)
theorem nsV3 {ns : List Lp} (h : nsV ns = true) (h3 : ns.length ≤ 3 ∨ 4 < ns.length) : ns.length ≤ 3 := by have := (nsV_at h).1; omega

set_option maxRecDepth 100000 in
set_option maxHeartbeats 1600000 in
theorem drawNP_core {bs : List Int} {ns : List Lp} (hF : Fn Try.prog 64 [] [vD (dYs bs)] (.o (vD (dLs ns))) []) : Fn Try.prog 28 [] [vD (dYs bs)] (.o (vD (dLs ns))) [] := by
  refine Fn.code0 Try.func28 rfl rfl rfl rfl ?_
  refine ACode.seq ?_
  refine ACode.region ?_
  refine .cons (.asg rfl rfl) ?_
  refine .nil ?_
  refine ks_n ?_
  refine ACode.seq ?_
  refine ACode.region ?_
  refine .cons (.mv rfl rfl) ?_
  refine .cons (.cP [.tmp 3] rfl rfl rfl rfl (hF) rfl) ?_
  refine .cons (.asg rfl rfl) ?_
  refine .nil ?_
  refine ks_n ?_
  refine ACode.ret ?_
  refine kf_ret rfl ?_ nobox
  rfl

def spotE (bs : List Int) : Nat → List Int → Nat → List Int × Nat
  | 0, xs, p => (xs, p)
  | n + 1, xs, p => spotE bs n (xs ++ [numV bs p [0, 1, 2, 3, -1, 9999]]) (p + 1)
def spotF (bs : List Int) (p n : Nat) : List Int × Nat := if pickV bs (spotE bs n [] p).2 12 = 0 then ((spotE bs n [] p).1 ++ [0], (spotE bs n [] p).2 + 1) else ((spotE bs n [] p).1, (spotE bs n [] p).2 + 1)
theorem spotE_bd {bs : List Int} (hb : Bytes bs) : ∀ (n : Nat) (xs : List Int) (p : Nat), p + n ≤ 1099511627776 → (∀ x ∈ xs, -9999 ≤ x ∧ x ≤ 9999) → (spotE bs n xs p).2 = p + n ∧ (spotE bs n xs p).1.length = xs.length + n ∧ ∀ x ∈ (spotE bs n xs p).1, -9999 ≤ x ∧ x ≤ 9999
  | 0, xs, p, _, h => ⟨rfl, rfl, h⟩
  | n + 1, xs, p, hp, h => by
    rw [spotE]
    have hm := numV_mem hb (p := p) (by omega) (xs := [0, 1, 2, 3, -1, 9999]) (by simp)
    obtain ⟨h1, h2, h3⟩ := spotE_bd hb n (xs ++ [numV bs p [0, 1, 2, 3, -1, 9999]]) (p + 1) (by omega) (fun x hx => by
      rcases List.mem_append.1 hx with hx | hx
      · exact h x hx
      · rw [List.mem_singleton.1 hx]; simp at hm; omega)
    exact ⟨by omega, by rw [h2]; simp; omega, h3⟩

set_option maxRecDepth 100000 in
set_option maxHeartbeats 1600000 in
theorem spot_list {bs : List Int} (hb : Bytes bs) {p : Nat} (hp : p ≤ 100000000) {ns : List Lp} (hs : smN ns) (ho : okP ns = true) (hn0 : 0 < (npR ns).length) (hk : 0 < pickV bs p 3) {x : List Int} (hx : (npR ns)[(pickV bs (p + 1) ((npR ns).length : Nat)).toNat]? = some x) : Fn Try.prog 69 (hbR bs p) [vR, vD (dLs ns)] (.o (vD (dIs x))) (hbR bs (p + 1 + 1)) := by
  have hl := npR_len ns
  refine Fn.of_code Try.func69 rfl rfl (hbR_HB _ _) rfl rfl (hbR_HB _ _) rfl (hbR_num _ _ _) ?_
  refine ACode.seq ?_
  refine ACode.region ?_
  refine .cons (.asg rfl rfl) ?_
  refine .nil ?_
  refine ks_n ?_
  refine ACode.seq ?_
  refine ACode.region ?_
  refine .cons (.mv rfl rfl) ?_
  refine .cons (.cP [.tmp 10] rfl rfl rfl rfl (specNestPts_fn ns hs) rfl) ?_
  refine .cons (.mv rfl rfl) ?_
  refine .cons (.ex rfl rfl rfl) ?_
  refine .cons (.ex rfl rfl rfl) ?_
  refine .cons (.asg rfl rfl) ?_
  refine .cons (.asg rfl rfl) ?_
  refine .nil ?_
  refine ks_n ?_
  refine ACode.seq ?_
  refine ACode.seq ?_
  refine ACode.region ?_
  refine .cons (.mv rfl rfl) ?_
  refine .cons (.mv rfl rfl) ?_
  refine AOps.cases 15 _ rfl (fun g15 => ?_) (fun g15 => ?_)
  · try simp only [List.length_map, decide_eq_true_eq, decide_eq_false_iff_not, Bool.not_eq_true', Bool.not_eq_false', Bool.not_eq_true, Bool.not_eq_false] at g15
    refine .cons (.gT rfl rfl rfl (.mv rfl rfl)) ?_
    refine .cons (.gT rfl rfl rfl (.ln 28 1 24 rfl rfl rfl)) ?_
    refine .cons (.gT rfl rfl rfl (.gt rfl rfl rfl)) ?_
    refine .cons (.pT rfl rfl rfl) ?_
    refine .cons (.mv rfl rfl) ?_
    refine AOps.cases 20 _ rfl (fun g20 => ?_) (fun g20 => ?_)
    · try simp only [List.length_map, decide_eq_true_eq, decide_eq_false_iff_not, Bool.not_eq_true', Bool.not_eq_false', Bool.not_eq_true, Bool.not_eq_false] at g20
      refine .cons (.gT rfl rfl rfl (.mv rfl rfl)) ?_
      refine .cons (.gT rfl rfl rfl (.cR [.tmp 21, .const (.int .i64 (3))] 0 rfl rfl rfl rfl (pick_fn hb (by omega) 3) rfl ⟨rfl, trivial⟩)) ?_
      refine .cons (.gT rfl rfl rfl (.gt rfl rfl rfl)) ?_
      refine .cons (.pT rfl rfl rfl) ?_
      refine .nil ?_
      refine ks_n ?_
      refine ACode.condT rfl (fun h24 => ?_) (fun h24 => ?_)
      · try simp only [List.length_map, decide_eq_true_eq, decide_eq_false_iff_not, Bool.not_eq_true', Bool.not_eq_false', Bool.not_eq_true, Bool.not_eq_false] at h24
        refine ACode.seq ?_
        refine ACode.region ?_
        refine .cons (.mv rfl rfl) ?_
        refine .cons (.mv rfl rfl) ?_
        refine .cons (.mv rfl rfl) ?_
        refine .cons (.ln 28 1 24 rfl rfl rfl) ?_
        refine .cons (.cR [.tmp 26, .tmp 28] 0 rfl rfl rfl rfl (pick_fn hb (by omega) _) rfl ⟨rfl, trivial⟩) ?_
        refine .cons (.xL 28 1 24 (i := (pickV bs (p + 1) ((npR ns).length : Nat)).toNat) rfl rfl rfl rfl (by have h := pickV_bd hb (show p + 1 ≤ 1099511627776 by omega) ((npR ns).length : Nat); have h1 := h.1; have h2 := h.2 (by omega); omega) (map_at hx)) ?_
        refine .cons (.l1 1 rfl rfl) ?_
        refine .cons (.asg rfl rfl) ?_
        refine .nil ?_
        refine ks_n ?_
        refine ACode.ret ?_
        refine ks_r ?_
        refine kf_wret [(.t 4, .v (.o (vD (dIs x)))), (.b 0, .b 105 2 (dR ([rRd bs (p + 1 + 1)]))), (.u 0, .u)] (Wk.keep [(0, 0)] rfl rfl ⟨ks rfl .dt, kb 0 rfl (.dt rfl), trivial⟩) rfl ?_ (hbR_box rfl)
        rfl
      · try simp only [List.length_map, decide_eq_true_eq, decide_eq_false_iff_not, Bool.not_eq_true', Bool.not_eq_false', Bool.not_eq_true, Bool.not_eq_false] at h24
        omega
    · try simp only [List.length_map, decide_eq_true_eq, decide_eq_false_iff_not, Bool.not_eq_true', Bool.not_eq_false', Bool.not_eq_true, Bool.not_eq_false] at g20
      omega
  · try simp only [List.length_map, decide_eq_true_eq, decide_eq_false_iff_not, Bool.not_eq_true', Bool.not_eq_false', Bool.not_eq_true, Bool.not_eq_false] at g15
    rw [ho] at g15; cases g15

set_option maxRecDepth 100000 in
set_option maxHeartbeats 1600000 in
theorem spot_newA {bs : List Int} (hb : Bytes bs) {p : Nat} (hp : p ≤ 100000000) {ns : List Lp} (hs : smN ns) (ho : okP ns = true) (hn0 : 0 < (npR ns).length) (hk : ¬ 0 < pickV bs p 3) : Fn Try.prog 69 (hbR bs p) [vR, vD (dLs ns)] (.o (vD (dIs (spotF bs (p + 1) ns.length).1))) (hbR bs (spotF bs (p + 1) ns.length).2) := by
  have hl := npR_len ns
  have hns := hs.1
  obtain ⟨r, hr⟩ : ∃ r, r = spotF bs (p + 1) ns.length := ⟨_, rfl⟩
  rw [← hr]
  refine Fn.of_code Try.func69 rfl rfl (hbR_HB _ _) rfl rfl (hbR_HB _ _) rfl (hbR_num _ _ _) ?_
  refine ACode.seq ?_
  refine ACode.region ?_
  refine .cons (.asg rfl rfl) ?_
  refine .nil ?_
  refine ks_n ?_
  refine ACode.seq ?_
  refine ACode.region ?_
  refine .cons (.mv rfl rfl) ?_
  refine .cons (.cP [.tmp 10] rfl rfl rfl rfl (specNestPts_fn ns hs) rfl) ?_
  refine .cons (.mv rfl rfl) ?_
  refine .cons (.ex rfl rfl rfl) ?_
  refine .cons (.ex rfl rfl rfl) ?_
  refine .cons (.asg rfl rfl) ?_
  refine .cons (.asg rfl rfl) ?_
  refine .nil ?_
  refine ks_n ?_
  refine ACode.seq ?_
  refine ACode.seq ?_
  refine ACode.region ?_
  refine .cons (.mv rfl rfl) ?_
  refine .cons (.mv rfl rfl) ?_
  refine AOps.cases 15 _ rfl (fun g15 => ?_) (fun g15 => ?_)
  · try simp only [List.length_map, decide_eq_true_eq, decide_eq_false_iff_not, Bool.not_eq_true', Bool.not_eq_false', Bool.not_eq_true, Bool.not_eq_false] at g15
    refine .cons (.gT rfl rfl rfl (.mv rfl rfl)) ?_
    refine .cons (.gT rfl rfl rfl (.ln 28 1 24 rfl rfl rfl)) ?_
    refine .cons (.gT rfl rfl rfl (.gt rfl rfl rfl)) ?_
    refine .cons (.pT rfl rfl rfl) ?_
    refine .cons (.mv rfl rfl) ?_
    refine AOps.cases 20 _ rfl (fun g20 => ?_) (fun g20 => ?_)
    · try simp only [List.length_map, decide_eq_true_eq, decide_eq_false_iff_not, Bool.not_eq_true', Bool.not_eq_false', Bool.not_eq_true, Bool.not_eq_false] at g20
      refine .cons (.gT rfl rfl rfl (.mv rfl rfl)) ?_
      refine .cons (.gT rfl rfl rfl (.cR [.tmp 21, .const (.int .i64 (3))] 0 rfl rfl rfl rfl (pick_fn hb (by omega) 3) rfl ⟨rfl, trivial⟩)) ?_
      refine .cons (.gT rfl rfl rfl (.gt rfl rfl rfl)) ?_
      refine .cons (.pT rfl rfl rfl) ?_
      refine .nil ?_
      refine ks_n ?_
      refine ACode.condT rfl (fun h24 => ?_) (fun h24 => ?_)
      · try simp only [List.length_map, decide_eq_true_eq, decide_eq_false_iff_not, Bool.not_eq_true', Bool.not_eq_false', Bool.not_eq_true, Bool.not_eq_false] at h24
        omega
      · try simp only [List.length_map, decide_eq_true_eq, decide_eq_false_iff_not, Bool.not_eq_true', Bool.not_eq_false', Bool.not_eq_true, Bool.not_eq_false] at h24
        refine ACode.skip ?_
        refine ks_n ?_
        refine ACode.seq ?_
        refine ACode.region ?_
        refine .cons (St1.lit0 (k' := 132) (e := 3) (sz := 1) (b := true) rfl rfl rfl rfl (by kernel_rfl) rfl rfl) ?_
        refine .cons (.asg rfl rfl) ?_
        refine .nil ?_
        refine ks_n ?_
        refine ACode.seq ?_
        refine ACode.seq ?_
        refine ACode.region ?_
        refine .cons (.asg rfl rfl) ?_
        refine .nil ?_
        refine ks_n ?_
        refine ACode.block ?_
        refine .loopK (fun m σ => (∃ (i : Nat) (xs : List Int), m = ns.length - i ∧ (i ≤ ns.length) ∧ (xs.length = i) ∧ (spotE bs (ns.length - i) xs ((p + 1) + i) = spotE bs ns.length [] (p + 1)) ∧ σ = [(.t 0, .v (.o (.c (.box 0 2 0 0)))), (.t 1, .v (.o (vD (dLs ns)))), (.t 7, .v (.o (.c (.own 110 1 (xs.length))))), (.t 8, .v (.o (nat1 (i : Nat)))), (.b 0, .b 105 2 (dR ([rRd bs ((p + 1) + i)]))), (.u 0, .u), (.b 110, .b 3 1 (dR (xs.map rI))), (.u 110, .u)])) [(0, 0), (110, 132)] ⟨0, [], rfl, (by omega), rfl, rfl, rfl⟩ ⟨ks rfl (.c .bx), ks rfl .dt, ks rfl (.c .ow), ks rfl .dt, kb 0 rfl (.dt rfl), kb 132 rfl (.dt rfl (by first | rfl | (simp [dR]; done) | (simp [dR]; rfl))), trivial⟩ ?_
        rintro m σ ⟨i, xs, hm0, hi, hl2, hE, rfl⟩
        refine ACode.seq ?_
        refine ACode.seq ?_
        refine ACode.region ?_
        refine .cons (.mv rfl rfl) ?_
        refine .cons (.mv rfl rfl) ?_
        refine .cons (.ln 67 2 48 rfl rfl rfl) ?_
        refine .cons (.ls rfl rfl rfl) ?_
        refine .nil ?_
        refine ks_n ?_
        refine .cD rfl (fun h36 => ?_) (fun h36 => ?_)
        · skip
          refine ACode.skip ?_
          refine ks_n ?_
          refine ACode.seq ?_
          refine ACode.block ?_
          refine ACode.region ?_
          refine .cons (.mv rfl rfl) ?_
          refine .cons (.mv rfl rfl) ?_
          refine .cons (.li 3 0 5 [.const (.int .i64 (0)), .const (.int .i64 (1)), .const (.int .i64 (2)), .const (.int .i64 (3)), .const (.int .i64 (-1)), .const (.int .i64 (9999))] rfl rfl rfl rfl rfl rfl) ?_
          refine .cons (.cR [.tmp 40, .tmp 41] 0 rfl rfl rfl rfl (num_fn hb (by omega) [0, 1, 2, 3, -1, 9999] (by simp)) rfl ⟨rfl, trivial⟩) ?_
          refine .cons (.li 3 0 0 [.tmp 42] rfl rfl rfl rfl rfl rfl) ?_
          refine .cons (St1.appB (k' := 144) (e := 3) (sz := 0) (by' := 8) rfl rfl rfl rfl rfl (by kernel_rfl) rfl rfl rfl rfl (by simp [dR]) (by simp [dR]; omega) rfl rfl rfl) ?_
          refine .cons (.asg rfl rfl) ?_
          refine .nil ?_
          refine kb_n ?_
          refine ks_n ?_
          refine ACode.region ?_
          refine .cons (.mv rfl rfl) ?_
          refine .cons (.pl rfl rfl rfl) ?_
          refine .cons (.asg rfl rfl) ?_
          refine .nil ?_
          refine kl_k [(0, 0), (110, 144)] ⟨i + 1, xs ++ [numV bs ((p + 1) + i) [0, 1, 2, 3, -1, 9999]], rfl, by omega, by simp; omega, by rw [← hE, show ns.length - i = (ns.length - (i + 1)) + 1 by omega]; rfl, rfl⟩ ⟨ks rfl (.c .bx), ks rfl .dt, ks rfl (.c .ow), ks rfl .dt, kb 0 rfl (.dt rfl), kb 144 rfl (.dt rfl (by first | rfl | (simp [dR]; done) | (simp [dR]; rfl))), trivial⟩
        · skip
          obtain rfl : i = ns.length := by omega
          rw [Nat.sub_self] at hE
          have hE2 : spotE bs ns.length [] (p + 1) = (xs, (p + 1) + ns.length) := hE.symm
          refine ACode.exit ?_
          refine ks_e ?_
          refine kl_e ?_
          refine kb_hit ?_
          refine ks_n ?_
          refine ACode.seq ?_
          refine ACode.seq ?_
          refine ACode.region ?_
          refine .cons (.mv rfl rfl) ?_
          refine .cons (.cR [.tmp 45, .const (.int .i64 (12))] 0 rfl rfl rfl rfl (pick_fn hb (by omega) 12) rfl ⟨rfl, trivial⟩) ?_
          refine .cons (.eq rfl rfl rfl) ?_
          refine .nil ?_
          refine ks_n ?_
          refine .cD rfl (fun h47 => ?_) (fun h47 => ?_)
          · skip
            have hr2 : r = (xs ++ [0], (p + 1) + ns.length + 1) := by rw [hr, spotF, hE2, if_pos h47]
            subst hr2
            refine ACode.region ?_
            refine .cons (.mv rfl rfl) ?_
            refine .cons (.li 3 0 0 [.const (.int .i64 (0))] rfl rfl rfl rfl rfl rfl) ?_
            refine .cons (St1.appB (k' := 150) (e := 3) (sz := 0) (by' := 8) rfl rfl rfl rfl rfl (by kernel_rfl) rfl rfl rfl rfl (by simp [dR]) (by simp [dR]; omega) rfl rfl rfl) ?_
            refine .cons (.asg rfl rfl) ?_
            refine .nil ?_
            refine ks_n ?_
            refine ACode.seq ?_
            refine ACode.region ?_
            refine .cons (.mv rfl rfl) ?_
            refine .cons (.asg rfl rfl) ?_
            refine .nil ?_
            refine ks_n ?_
            refine ACode.ret ?_
            refine kf_wret [(.t 4, .v (.o (vD (dIs (xs ++ [0]))))), (.b 0, .b 105 2 (dR ([rRd bs ((p + 1) + ns.length + 1)]))), (.u 0, .u)] (Wk.keep [(0, 0)] rfl rfl ⟨ks rfl (.c (.fz rfl (by first | rfl | (simp [dR]; done) | (simp [dR]; rfl)) (by simp) (by first | (simp; omega) | omega))), kb 0 rfl (.dt rfl), trivial⟩) rfl ?_ (hbR_box rfl)
            rfl
          · skip
            have hr2 : r = (xs, (p + 1) + ns.length + 1) := by rw [hr, spotF, hE2, if_neg h47]
            subst hr2
            refine ACode.skip ?_
            refine ks_n ?_
            refine ACode.seq ?_
            refine ACode.region ?_
            refine .cons (.mv rfl rfl) ?_
            refine .cons (.asg rfl rfl) ?_
            refine .nil ?_
            refine ks_n ?_
            refine ACode.ret ?_
            refine kf_wret [(.t 4, .v (.o (vD (dIs (xs))))), (.b 0, .b 105 2 (dR ([rRd bs ((p + 1) + ns.length + 1)]))), (.u 0, .u)] (Wk.keep [(0, 0)] rfl rfl ⟨ks rfl (.c (.fz rfl (by first | rfl | (simp [dR]; done) | (simp [dR]; rfl)) (by simp) (by first | (simp; omega) | omega))), kb 0 rfl (.dt rfl), trivial⟩) rfl ?_ (hbR_box rfl)
            rfl
    · try simp only [List.length_map, decide_eq_true_eq, decide_eq_false_iff_not, Bool.not_eq_true', Bool.not_eq_false', Bool.not_eq_true, Bool.not_eq_false] at g20
      omega
  · try simp only [List.length_map, decide_eq_true_eq, decide_eq_false_iff_not, Bool.not_eq_true', Bool.not_eq_false', Bool.not_eq_true, Bool.not_eq_false] at g15
    rw [ho] at g15; cases g15

set_option maxRecDepth 100000 in
set_option maxHeartbeats 1600000 in
theorem spot_newB {bs : List Int} (hb : Bytes bs) {p : Nat} (hp : p ≤ 100000000) {ns : List Lp} (hs : smN ns) (hno : ¬ (okP ns = true ∧ 0 < (npR ns).length)) : Fn Try.prog 69 (hbR bs p) [vR, vD (dLs ns)] (.o (vD (dIs (spotF bs p ns.length).1))) (hbR bs (spotF bs p ns.length).2) := by
  have hl := npR_len ns
  have hns := hs.1
  obtain ⟨r, hr⟩ : ∃ r, r = spotF bs p ns.length := ⟨_, rfl⟩
  rw [← hr]
  refine Fn.of_code Try.func69 rfl rfl (hbR_HB _ _) rfl rfl (hbR_HB _ _) rfl (hbR_num _ _ _) ?_
  refine ACode.seq ?_
  refine ACode.region ?_
  refine .cons (.asg rfl rfl) ?_
  refine .nil ?_
  refine ks_n ?_
  refine ACode.seq ?_
  refine ACode.region ?_
  refine .cons (.mv rfl rfl) ?_
  refine .cons (.cP [.tmp 10] rfl rfl rfl rfl (specNestPts_fn ns hs) rfl) ?_
  refine .cons (.mv rfl rfl) ?_
  refine .cons (.ex rfl rfl rfl) ?_
  refine .cons (.ex rfl rfl rfl) ?_
  refine .cons (.asg rfl rfl) ?_
  refine .cons (.asg rfl rfl) ?_
  refine .nil ?_
  refine ks_n ?_
  refine ACode.seq ?_
  refine ACode.seq ?_
  refine ACode.region ?_
  refine .cons (.mv rfl rfl) ?_
  refine .cons (.mv rfl rfl) ?_
  refine AOps.cases 15 _ rfl (fun g15 => ?_) (fun g15 => ?_)
  · try simp only [List.length_map, decide_eq_true_eq, decide_eq_false_iff_not, Bool.not_eq_true', Bool.not_eq_false', Bool.not_eq_true, Bool.not_eq_false] at g15
    refine .cons (.gT rfl rfl rfl (.mv rfl rfl)) ?_
    refine .cons (.gT rfl rfl rfl (.ln 28 1 24 rfl rfl rfl)) ?_
    refine .cons (.gT rfl rfl rfl (.gt rfl rfl rfl)) ?_
    refine .cons (.pT rfl rfl rfl) ?_
    refine .cons (.mv rfl rfl) ?_
    refine AOps.cases 20 _ rfl (fun g20 => ?_) (fun g20 => ?_)
    · try simp only [List.length_map, decide_eq_true_eq, decide_eq_false_iff_not, Bool.not_eq_true', Bool.not_eq_false', Bool.not_eq_true, Bool.not_eq_false] at g20
      exact absurd ⟨g15, by omega⟩ hno
    · try simp only [List.length_map, decide_eq_true_eq, decide_eq_false_iff_not, Bool.not_eq_true', Bool.not_eq_false', Bool.not_eq_true, Bool.not_eq_false] at g20
      refine .cons (.gF rfl rfl rfl) ?_
      refine .cons (.gF rfl rfl rfl) ?_
      refine .cons (.gF rfl rfl rfl) ?_
      refine .cons (.pF rfl rfl rfl) ?_
      refine .nil ?_
      refine ks_n ?_
      refine ACode.condT rfl (fun h => by first | (cases h; done) | (simp [*] at h; done) | (exfalso; simp_all; done)) (fun _ => ?_)
      refine ACode.skip ?_
      refine ks_n ?_
      refine ACode.seq ?_
      refine ACode.region ?_
      refine .cons (St1.lit0 (k' := 132) (e := 3) (sz := 1) (b := true) rfl rfl rfl rfl (by kernel_rfl) rfl rfl) ?_
      refine .cons (.asg rfl rfl) ?_
      refine .nil ?_
      refine ks_n ?_
      refine ACode.seq ?_
      refine ACode.seq ?_
      refine ACode.region ?_
      refine .cons (.asg rfl rfl) ?_
      refine .nil ?_
      refine ks_n ?_
      refine ACode.block ?_
      refine .loopK (fun m σ => (∃ (i : Nat) (xs : List Int), m = ns.length - i ∧ (i ≤ ns.length) ∧ (xs.length = i) ∧ (spotE bs (ns.length - i) xs (p + i) = spotE bs ns.length [] p) ∧ σ = [(.t 0, .v (.o (.c (.box 0 2 0 0)))), (.t 1, .v (.o (vD (dLs ns)))), (.t 7, .v (.o (.c (.own 110 1 (xs.length))))), (.t 8, .v (.o (nat1 (i : Nat)))), (.b 0, .b 105 2 (dR ([rRd bs (p + i)]))), (.u 0, .u), (.b 110, .b 3 1 (dR (xs.map rI))), (.u 110, .u)])) [(0, 0), (110, 132)] ⟨0, [], rfl, (by omega), rfl, rfl, rfl⟩ ⟨ks rfl (.c .bx), ks rfl .dt, ks rfl (.c .ow), ks rfl .dt, kb 0 rfl (.dt rfl), kb 132 rfl (.dt rfl (by first | rfl | (simp [dR]; done) | (simp [dR]; rfl))), trivial⟩ ?_
      rintro m σ ⟨i, xs, hm0, hi, hl2, hE, rfl⟩
      refine ACode.seq ?_
      refine ACode.seq ?_
      refine ACode.region ?_
      refine .cons (.mv rfl rfl) ?_
      refine .cons (.mv rfl rfl) ?_
      refine .cons (.ln 67 2 48 rfl rfl rfl) ?_
      refine .cons (.ls rfl rfl rfl) ?_
      refine .nil ?_
      refine ks_n ?_
      refine .cD rfl (fun h36 => ?_) (fun h36 => ?_)
      · skip
        refine ACode.skip ?_
        refine ks_n ?_
        refine ACode.seq ?_
        refine ACode.block ?_
        refine ACode.region ?_
        refine .cons (.mv rfl rfl) ?_
        refine .cons (.mv rfl rfl) ?_
        refine .cons (.li 3 0 5 [.const (.int .i64 (0)), .const (.int .i64 (1)), .const (.int .i64 (2)), .const (.int .i64 (3)), .const (.int .i64 (-1)), .const (.int .i64 (9999))] rfl rfl rfl rfl rfl rfl) ?_
        refine .cons (.cR [.tmp 40, .tmp 41] 0 rfl rfl rfl rfl (num_fn hb (by omega) [0, 1, 2, 3, -1, 9999] (by simp)) rfl ⟨rfl, trivial⟩) ?_
        refine .cons (.li 3 0 0 [.tmp 42] rfl rfl rfl rfl rfl rfl) ?_
        refine .cons (St1.appB (k' := 144) (e := 3) (sz := 0) (by' := 8) rfl rfl rfl rfl rfl (by kernel_rfl) rfl rfl rfl rfl (by simp [dR]) (by simp [dR]; omega) rfl rfl rfl) ?_
        refine .cons (.asg rfl rfl) ?_
        refine .nil ?_
        refine kb_n ?_
        refine ks_n ?_
        refine ACode.region ?_
        refine .cons (.mv rfl rfl) ?_
        refine .cons (.pl rfl rfl rfl) ?_
        refine .cons (.asg rfl rfl) ?_
        refine .nil ?_
        refine kl_k [(0, 0), (110, 144)] ⟨i + 1, xs ++ [numV bs (p + i) [0, 1, 2, 3, -1, 9999]], rfl, by omega, by simp; omega, by rw [← hE, show ns.length - i = (ns.length - (i + 1)) + 1 by omega]; rfl, rfl⟩ ⟨ks rfl (.c .bx), ks rfl .dt, ks rfl (.c .ow), ks rfl .dt, kb 0 rfl (.dt rfl), kb 144 rfl (.dt rfl (by first | rfl | (simp [dR]; done) | (simp [dR]; rfl))), trivial⟩
      · skip
        obtain rfl : i = ns.length := by omega
        rw [Nat.sub_self] at hE
        have hE2 : spotE bs ns.length [] p = (xs, p + ns.length) := hE.symm
        refine ACode.exit ?_
        refine ks_e ?_
        refine kl_e ?_
        refine kb_hit ?_
        refine ks_n ?_
        refine ACode.seq ?_
        refine ACode.seq ?_
        refine ACode.region ?_
        refine .cons (.mv rfl rfl) ?_
        refine .cons (.cR [.tmp 45, .const (.int .i64 (12))] 0 rfl rfl rfl rfl (pick_fn hb (by omega) 12) rfl ⟨rfl, trivial⟩) ?_
        refine .cons (.eq rfl rfl rfl) ?_
        refine .nil ?_
        refine ks_n ?_
        refine .cD rfl (fun h47 => ?_) (fun h47 => ?_)
        · skip
          have hr2 : r = (xs ++ [0], p + ns.length + 1) := by rw [hr, spotF, hE2, if_pos h47]
          subst hr2
          refine ACode.region ?_
          refine .cons (.mv rfl rfl) ?_
          refine .cons (.li 3 0 0 [.const (.int .i64 (0))] rfl rfl rfl rfl rfl rfl) ?_
          refine .cons (St1.appB (k' := 150) (e := 3) (sz := 0) (by' := 8) rfl rfl rfl rfl rfl (by kernel_rfl) rfl rfl rfl rfl (by simp [dR]) (by simp [dR]; omega) rfl rfl rfl) ?_
          refine .cons (.asg rfl rfl) ?_
          refine .nil ?_
          refine ks_n ?_
          refine ACode.seq ?_
          refine ACode.region ?_
          refine .cons (.mv rfl rfl) ?_
          refine .cons (.asg rfl rfl) ?_
          refine .nil ?_
          refine ks_n ?_
          refine ACode.ret ?_
          refine kf_wret [(.t 4, .v (.o (vD (dIs (xs ++ [0]))))), (.b 0, .b 105 2 (dR ([rRd bs (p + ns.length + 1)]))), (.u 0, .u)] (Wk.keep [(0, 0)] rfl rfl ⟨ks rfl (.c (.fz rfl (by first | rfl | (simp [dR]; done) | (simp [dR]; rfl)) (by simp) (by first | (simp; omega) | omega))), kb 0 rfl (.dt rfl), trivial⟩) rfl ?_ (hbR_box rfl)
          rfl
        · skip
          have hr2 : r = (xs, p + ns.length + 1) := by rw [hr, spotF, hE2, if_neg h47]
          subst hr2
          refine ACode.skip ?_
          refine ks_n ?_
          refine ACode.seq ?_
          refine ACode.region ?_
          refine .cons (.mv rfl rfl) ?_
          refine .cons (.asg rfl rfl) ?_
          refine .nil ?_
          refine ks_n ?_
          refine ACode.ret ?_
          refine kf_wret [(.t 4, .v (.o (vD (dIs (xs))))), (.b 0, .b 105 2 (dR ([rRd bs (p + ns.length + 1)]))), (.u 0, .u)] (Wk.keep [(0, 0)] rfl rfl ⟨ks rfl (.c (.fz rfl (by first | rfl | (simp [dR]; done) | (simp [dR]; rfl)) (by simp) (by first | (simp; omega) | omega))), kb 0 rfl (.dt rfl), trivial⟩) rfl ?_ (hbR_box rfl)
          rfl
  · try simp only [List.length_map, decide_eq_true_eq, decide_eq_false_iff_not, Bool.not_eq_true', Bool.not_eq_false', Bool.not_eq_true, Bool.not_eq_false] at g15
    refine .cons (.gF rfl rfl rfl) ?_
    refine .cons (.gF rfl rfl rfl) ?_
    refine .cons (.gF rfl rfl rfl) ?_
    refine .cons (.pF rfl rfl rfl) ?_
    refine .cons (.mv rfl rfl) ?_
    refine .cons (.gF rfl rfl rfl) ?_
    refine .cons (.gF rfl rfl rfl) ?_
    refine .cons (.gF rfl rfl rfl) ?_
    refine .cons (.pF rfl rfl rfl) ?_
    refine .nil ?_
    refine ks_n ?_
    refine ACode.condT rfl (fun h => by first | (cases h; done) | (simp [*] at h; done) | (exfalso; simp_all; done)) (fun _ => ?_)
    refine ACode.skip ?_
    refine ks_n ?_
    refine ACode.seq ?_
    refine ACode.region ?_
    refine .cons (St1.lit0 (k' := 132) (e := 3) (sz := 1) (b := true) rfl rfl rfl rfl (by kernel_rfl) rfl rfl) ?_
    refine .cons (.asg rfl rfl) ?_
    refine .nil ?_
    refine ks_n ?_
    refine ACode.seq ?_
    refine ACode.seq ?_
    refine ACode.region ?_
    refine .cons (.asg rfl rfl) ?_
    refine .nil ?_
    refine ks_n ?_
    refine ACode.block ?_
    refine .loopK (fun m σ => (∃ (i : Nat) (xs : List Int), m = ns.length - i ∧ (i ≤ ns.length) ∧ (xs.length = i) ∧ (spotE bs (ns.length - i) xs (p + i) = spotE bs ns.length [] p) ∧ σ = [(.t 0, .v (.o (.c (.box 0 2 0 0)))), (.t 1, .v (.o (vD (dLs ns)))), (.t 7, .v (.o (.c (.own 110 1 (xs.length))))), (.t 8, .v (.o (nat1 (i : Nat)))), (.b 0, .b 105 2 (dR ([rRd bs (p + i)]))), (.u 0, .u), (.b 110, .b 3 1 (dR (xs.map rI))), (.u 110, .u)])) [(0, 0), (110, 132)] ⟨0, [], rfl, (by omega), rfl, rfl, rfl⟩ ⟨ks rfl (.c .bx), ks rfl .dt, ks rfl (.c .ow), ks rfl .dt, kb 0 rfl (.dt rfl), kb 132 rfl (.dt rfl (by first | rfl | (simp [dR]; done) | (simp [dR]; rfl))), trivial⟩ ?_
    rintro m σ ⟨i, xs, hm0, hi, hl2, hE, rfl⟩
    refine ACode.seq ?_
    refine ACode.seq ?_
    refine ACode.region ?_
    refine .cons (.mv rfl rfl) ?_
    refine .cons (.mv rfl rfl) ?_
    refine .cons (.ln 67 2 48 rfl rfl rfl) ?_
    refine .cons (.ls rfl rfl rfl) ?_
    refine .nil ?_
    refine ks_n ?_
    refine .cD rfl (fun h36 => ?_) (fun h36 => ?_)
    · skip
      refine ACode.skip ?_
      refine ks_n ?_
      refine ACode.seq ?_
      refine ACode.block ?_
      refine ACode.region ?_
      refine .cons (.mv rfl rfl) ?_
      refine .cons (.mv rfl rfl) ?_
      refine .cons (.li 3 0 5 [.const (.int .i64 (0)), .const (.int .i64 (1)), .const (.int .i64 (2)), .const (.int .i64 (3)), .const (.int .i64 (-1)), .const (.int .i64 (9999))] rfl rfl rfl rfl rfl rfl) ?_
      refine .cons (.cR [.tmp 40, .tmp 41] 0 rfl rfl rfl rfl (num_fn hb (by omega) [0, 1, 2, 3, -1, 9999] (by simp)) rfl ⟨rfl, trivial⟩) ?_
      refine .cons (.li 3 0 0 [.tmp 42] rfl rfl rfl rfl rfl rfl) ?_
      refine .cons (St1.appB (k' := 144) (e := 3) (sz := 0) (by' := 8) rfl rfl rfl rfl rfl (by kernel_rfl) rfl rfl rfl rfl (by simp [dR]) (by simp [dR]; omega) rfl rfl rfl) ?_
      refine .cons (.asg rfl rfl) ?_
      refine .nil ?_
      refine kb_n ?_
      refine ks_n ?_
      refine ACode.region ?_
      refine .cons (.mv rfl rfl) ?_
      refine .cons (.pl rfl rfl rfl) ?_
      refine .cons (.asg rfl rfl) ?_
      refine .nil ?_
      refine kl_k [(0, 0), (110, 144)] ⟨i + 1, xs ++ [numV bs (p + i) [0, 1, 2, 3, -1, 9999]], rfl, by omega, by simp; omega, by rw [← hE, show ns.length - i = (ns.length - (i + 1)) + 1 by omega]; rfl, rfl⟩ ⟨ks rfl (.c .bx), ks rfl .dt, ks rfl (.c .ow), ks rfl .dt, kb 0 rfl (.dt rfl), kb 144 rfl (.dt rfl (by first | rfl | (simp [dR]; done) | (simp [dR]; rfl))), trivial⟩
    · skip
      obtain rfl : i = ns.length := by omega
      rw [Nat.sub_self] at hE
      have hE2 : spotE bs ns.length [] p = (xs, p + ns.length) := hE.symm
      refine ACode.exit ?_
      refine ks_e ?_
      refine kl_e ?_
      refine kb_hit ?_
      refine ks_n ?_
      refine ACode.seq ?_
      refine ACode.seq ?_
      refine ACode.region ?_
      refine .cons (.mv rfl rfl) ?_
      refine .cons (.cR [.tmp 45, .const (.int .i64 (12))] 0 rfl rfl rfl rfl (pick_fn hb (by omega) 12) rfl ⟨rfl, trivial⟩) ?_
      refine .cons (.eq rfl rfl rfl) ?_
      refine .nil ?_
      refine ks_n ?_
      refine .cD rfl (fun h47 => ?_) (fun h47 => ?_)
      · skip
        have hr2 : r = (xs ++ [0], p + ns.length + 1) := by rw [hr, spotF, hE2, if_pos h47]
        subst hr2
        refine ACode.region ?_
        refine .cons (.mv rfl rfl) ?_
        refine .cons (.li 3 0 0 [.const (.int .i64 (0))] rfl rfl rfl rfl rfl rfl) ?_
        refine .cons (St1.appB (k' := 150) (e := 3) (sz := 0) (by' := 8) rfl rfl rfl rfl rfl (by kernel_rfl) rfl rfl rfl rfl (by simp [dR]) (by simp [dR]; omega) rfl rfl rfl) ?_
        refine .cons (.asg rfl rfl) ?_
        refine .nil ?_
        refine ks_n ?_
        refine ACode.seq ?_
        refine ACode.region ?_
        refine .cons (.mv rfl rfl) ?_
        refine .cons (.asg rfl rfl) ?_
        refine .nil ?_
        refine ks_n ?_
        refine ACode.ret ?_
        refine kf_wret [(.t 4, .v (.o (vD (dIs (xs ++ [0]))))), (.b 0, .b 105 2 (dR ([rRd bs (p + ns.length + 1)]))), (.u 0, .u)] (Wk.keep [(0, 0)] rfl rfl ⟨ks rfl (.c (.fz rfl (by first | rfl | (simp [dR]; done) | (simp [dR]; rfl)) (by simp) (by first | (simp; omega) | omega))), kb 0 rfl (.dt rfl), trivial⟩) rfl ?_ (hbR_box rfl)
        rfl
      · skip
        have hr2 : r = (xs, p + ns.length + 1) := by rw [hr, spotF, hE2, if_neg h47]
        subst hr2
        refine ACode.skip ?_
        refine ks_n ?_
        refine ACode.seq ?_
        refine ACode.region ?_
        refine .cons (.mv rfl rfl) ?_
        refine .cons (.asg rfl rfl) ?_
        refine .nil ?_
        refine ks_n ?_
        refine ACode.ret ?_
        refine kf_wret [(.t 4, .v (.o (vD (dIs (xs))))), (.b 0, .b 105 2 (dR ([rRd bs (p + ns.length + 1)]))), (.u 0, .u)] (Wk.keep [(0, 0)] rfl rfl ⟨ks rfl (.c (.fz rfl (by first | rfl | (simp [dR]; done) | (simp [dR]; rfl)) (by simp) (by first | (simp; omega) | omega))), kb 0 rfl (.dt rfl), trivial⟩) rfl ?_ (hbR_box rfl)
        rfl

end Go.Proofs.Ytgcpdpbapgkdjaa

/- From a law's contract over data to its run at slices of bytes; condition: what the slices hold. -/
namespace Go.Proofs.Ytgcpdpbapgkdjaa
set_option linter.unusedVariables false
set_option linter.unusedSimpArgs false
open Go.RowKit

theorem ys_dr {B : Nat → Prop} {w : World} {v : Value} {xs : List Int} (h : Sl Sh.byte B w v xs) : Dr B w (dYs xs) v := by
  obtain ⟨a, cap, rfl, h1, h2, h3, h4⟩ := h
  by_cases h0 : xs.length = 0
  · have : xs = [] := List.eq_nil_of_length_eq_zero h0
    subst this
    exact Dr.list 1 [] a 0 cap 0 0 (fun _ _ => undef) rfl (Nat.zero_le _) (Nat.zero_le _) h3 (fun h => absurd h (Nat.lt_irrefl _)) (fun i r h => by simp at h) (fun i r j x h => by simp at h) (fun i r j x h => by simp at h)
  · obtain ⟨b, off, cs, rfl, _⟩ := h4 0 xs[0] (List.getElem?_eq_getElem (by omega))
    have hr : ∀ (i : Nat) r, (xs.map rY)[i]? = some r → ∃ x, xs[i]? = some x ∧ r = rY x := fun i r hr => by
      rw [List.getElem?_map] at hr
      cases hx : xs[i]? with
      | none => rw [hx] at hr; cases hr
      | some x => rw [hx] at hr; cases hr; exact ⟨x, rfl, rfl⟩
    refine Dr.list 1 (xs.map rY) (some ⟨b, off, none⟩) xs.length cap b off (fun i _ => .int .u8 (xs.getD i 0)) (by rw [List.length_map]) h1 h2 (fun h => by cases h) (fun _ => rfl) (fun i r hi => ?_) (fun i r j y hi hj => ?_) (fun i r j y hi hj => ?_)
    · obtain ⟨x, _, rfl⟩ := hr i r hi; rfl
    all_goals
      obtain ⟨x, hx, rfl⟩ := hr i r hi
      have hj0 : j = 0 ∧ y = .val (.int .u8 x) := by
        cases j with
        | zero => simp [rY] at hj; exact ⟨rfl, hj.symm⟩
        | succ j => simp [rY] at hj
      obtain ⟨rfl, rfl⟩ := hj0
      have hg : xs.getD i 0 = x := by rw [List.getD, hx]; rfl
    · obtain ⟨b', off', cs, e, hb, hr', hc⟩ := h4 i x hx
      cases e
      have hr2 : cs = [.int .u8 x] := hr'
      subst hr2
      exact ⟨hb, by rw [hg]; exact hc 0 _ rfl⟩
    · show Dr B w (.val (.int .u8 x)) (.int .u8 (xs.getD i 0))
      rw [hg]; exact .val _ rfl
/-- A law that answers true, and turns nothing that was there. -/
abbrev Truth (P : Program) (f : FuncId) (vs : Array Value) (w : World) : Prop := Calls P f vs w fun e w' => e = .returned (.bool true) ∧ Below w.heap.size w w'
theorem Fn.truth {P : Program} {f : FuncId} {args : List V1} {vs : List Value} {w : World} {B : Nat → Prop} (h : Fn P f [] args (.o (bo1 true)) []) (hv : Vals (V1r (fun _ => (0, 0)) (Al (lk [])) B w) args vs) : Truth P f vs.toArray w := by
  have hno : ∀ k, ¬ Al (lk []) k := fun k ⟨e, sz, rows, h⟩ => by cases h
  refine (h B (fun _ => (0, 0)) w vs ⟨fun k e sz rows h => (by cases h), fun k l hk => (hno k hk).elim, fun k hk => (hno k hk).elim⟩ hv).mono ?_
  rintro e w' ⟨v, bx', rfl, hp⟩
  have hv : Dr _ w' (.val (.bool true)) v := hp.val
  cases hv
  exact ⟨rfl, hp.os, hp.tape, hp.output, hp.size, fun b hb => hp.old b hb fun k hk => (hno k hk).elim⟩
/-- A slice of bytes, as a law takes it. -/
structure Byt (w : World) (a : Option Addr) (n c : Nat) (bs : List Int) : Prop where
  sl : n ≤ 1048576 → Sl Sh.byte (fun b => b < w.heap.size) w (.slice a n c) bs
  bd : ∀ x ∈ bs, 0 ≤ x ∧ x ≤ 255
abbrev vX (a : Option Addr) (n c : Nat) : V1 := vD (.val (.slice a n c))
theorem bytes_take {bs : List Int} (h : ∀ x ∈ bs, 0 ≤ x ∧ x ≤ 255) : Bytes (bs.take 2000) := ⟨by rw [List.length_take]; omega, fun x hx => h x (List.mem_of_mem_take hx)⟩
theorem law1 {P : Program} {f : FuncId} {a : Option Addr} {n c : Nat} {bs : List Int} {w : World} (h : Byt w a n c bs) (hbig : 1048576 < n → Fn P f [] [vX a n c] (.o (bo1 true)) [])
    (hsm : bs.length ≤ 1048576 → Bytes (bs.take 2000) → Fn P f [] [vD (dYs bs)] (.o (bo1 true)) []) : Truth P f #[.slice a n c] w := by
  by_cases hn : 1048576 < n
  · exact (hbig hn).truth (vs := [_]) (B := fun _ => True) ⟨rfl, fun i x v hx hv => by
      match i, hx, hv with
      | 0, hx, hv => cases hx; cases hv; exact Dr.val _ rfl⟩
  · have hs := h.sl (by omega)
    have hl : bs.length = n := hs.len
    exact (hsm (by omega) (bytes_take h.bd)).truth (vs := [_]) ⟨rfl, fun i x v hx hv => by
      match i, hx, hv with
      | 0, hx, hv => cases hx; cases hv; exact ys_dr hs⟩
theorem law2 {P : Program} {f : FuncId} {a a2 : Option Addr} {n c n2 c2 : Nat} {bs bs2 : List Int} {w : World} (h : Byt w a n c bs) (h2 : Byt w a2 n2 c2 bs2) (hbig : 1048576 < n ∨ 1048576 < n2 → Fn P f [] [vX a n c, vX a2 n2 c2] (.o (bo1 true)) [])
    (hsm : bs.length ≤ 1048576 → bs2.length ≤ 1048576 → Bytes (bs.take 2000) → Bytes (bs2.take 2000) → Fn P f [] [vD (dYs bs), vD (dYs bs2)] (.o (bo1 true)) []) : Truth P f #[.slice a n c, .slice a2 n2 c2] w := by
  by_cases hn : 1048576 < n ∨ 1048576 < n2
  · exact (hbig hn).truth (vs := [_, _]) (B := fun _ => True) ⟨rfl, fun i x v hx hv => by
      match i, hx, hv with
      | 0, hx, hv => cases hx; cases hv; exact Dr.val _ rfl
      | 1, hx, hv => cases hx; cases hv; exact Dr.val _ rfl⟩
  · have hs := h.sl (by omega)
    have hs2 := h2.sl (by omega)
    have hl : bs.length = n := hs.len
    have hl2 : bs2.length = n2 := hs2.len
    exact (hsm (by omega) (by omega) (bytes_take h.bd) (bytes_take h2.bd)).truth (vs := [_, _]) ⟨rfl, fun i x v hx hv => by
      match i, hx, hv with
      | 0, hx, hv => cases hx; cases hv; exact ys_dr hs
      | 1, hx, hv => cases hx; cases hv; exact ys_dr hs2⟩
end Go.Proofs.Ytgcpdpbapgkdjaa

/- How an argument that is a slice of bytes is read; no condition. -/
namespace Go.Proofs.Ytgcpdpbapgkdjaa
set_option linter.unusedVariables false
set_option linter.unusedSimpArgs false
open Go.RowKit

theorem IsRow.bytes {w : World} {a : Option Addr} {n cap : Nat} {zs : List Int} (h : IsRow .u8 w a n cap zs) (hn : n ≤ 17592186044416) : Sl Sh.byte (fun b => b < w.heap.size) w (.slice a n cap) (zs.take n) := by
  rcases h with ⟨rfl, rfl, rfl, rfl⟩ | ⟨x, rfl, h1, _, h2, h3, _⟩
  · exact Sl.nil _ _ _
  · have hl : (zs.take n).length = n := by rw [List.length_take]; omega
    refine ⟨_, cap, by rw [hl], by rw [hl]; exact h1, by rw [hl]; exact hn, (fun e => by cases e), fun i y hy => ?_⟩
    have hi : i < n := by rw [← hl]; exact (List.getElem?_eq_some_iff.1 hy).1
    have hc := h3 i (by omega)
    obtain ⟨b, off, spot⟩ := x
    have hs : spot = none := by
      have h0 := h3 0 (by omega)
      simpa [Addr.add] using World.cell?_spot h0
    subst hs
    rw [Addr.add_lit] at hc
    rw [List.getElem?_take, if_pos hi] at hy
    rw [List.getD, hy] at hc
    refine ⟨b, off, [.int .u8 y], rfl, World.block_lt_of_cell? _ _ hc, rfl, fun j c hj => ?_⟩
    cases j with
    | succ j => simp at hj
    | zero =>
      simp only [List.getElem?_cons_zero, Option.some.injEq] at hj
      subst hj
      simpa [Sh.byte] using hc
theorem IsRow.bytesBd {w : World} {a : Option Addr} {n cap : Nat} {zs : List Int} (h : IsRow .u8 w a n cap zs) : ∀ x ∈ zs.take n, 0 ≤ x ∧ x ≤ 255 := by
  intro x hx
  have := h.wf x hx
  simp [Lit.wf, IntKind.min, IntKind.max, IntKind.bits, IntKind.signed] at this
  omega
end Go.Proofs.Ytgcpdpbapgkdjaa

/- Ranges of expressions; condition: small nests. -/
namespace Go.Proofs.Ytgcpdpbapgkdjaa
set_option linter.unusedVariables false
set_option linter.unusedSimpArgs false
open Go.RowKit

def mnQ (a : Aff) (m : Int) : Pts → Int
  | [] => m
  | x :: o => mnQ a (min m (affEval a x)) o
def mxQ (a : Aff) (m : Int) : Pts → Int
  | [] => m
  | x :: o => mxQ a (max m (affEval a x)) o
theorem mnQ_drop {a : Aff} {m : Int} {o : Pts} {i : Nat} {x : List Int} (h : o[i]? = some x) : mnQ a m (o.drop i) = mnQ a (min m (affEval a x)) (o.drop (i + 1)) := by rw [drop_at h]; rfl
theorem mxQ_drop {a : Aff} {m : Int} {o : Pts} {i : Nat} {x : List Int} (h : o[i]? = some x) : mxQ a m (o.drop i) = mxQ a (max m (affEval a x)) (o.drop (i + 1)) := by rw [drop_at h]; rfl
def loQ (a : Aff) : Pts → Int
  | [] => 0
  | x :: o => mnQ a (affEval a x) o
def hiQ (a : Aff) : Pts → Int
  | [] => 0
  | x :: o => mxQ a (affEval a x) o
section
variable {a : Aff} {o : Pts} {x : List Int}
theorem loQ_one (h : o[0]? = some x) : loQ a o = mnQ a (affEval a x) (o.drop 1) := by
  have := drop_at h
  rw [List.drop_zero] at this
  rw [this]; rfl
theorem hiQ_one (h : o[0]? = some x) : hiQ a o = mxQ a (affEval a x) (o.drop 1) := by
  have := drop_at h
  rw [List.drop_zero] at this
  rw [this]; rfl
theorem loQ_zero (h : o[0]? = some x) : loQ a o = mnQ a (affEval a x) (o.drop 0) := by
  rw [loQ_one h, mnQ_drop h, show min (affEval a x) (affEval a x) = affEval a x by omega]
theorem hiQ_zero (h : o[0]? = some x) : hiQ a o = mxQ a (affEval a x) (o.drop 0) := by
  rw [hiQ_one h, mxQ_drop h, show max (affEval a x) (affEval a x) = affEval a x by omega]
theorem mnQ_le : ∀ (o : Pts) (m : Int), mnQ a m o ≤ m ∧ ∀ x ∈ o, mnQ a m o ≤ affEval a x
  | [], m => ⟨Int.le_refl _, by simp⟩
  | y :: o, m => by
    obtain ⟨h1, h2⟩ := mnQ_le o (min m (affEval a y))
    rw [mnQ]
    refine ⟨by omega, fun x hx => ?_⟩
    rcases List.mem_cons.1 hx with rfl | hx
    · omega
    · exact h2 x hx
theorem mxQ_ge : ∀ (o : Pts) (m : Int), m ≤ mxQ a m o ∧ ∀ x ∈ o, affEval a x ≤ mxQ a m o
  | [], m => ⟨Int.le_refl _, by simp⟩
  | y :: o, m => by
    obtain ⟨h1, h2⟩ := mxQ_ge o (max m (affEval a y))
    rw [mxQ]
    refine ⟨by omega, fun x hx => ?_⟩
    rcases List.mem_cons.1 hx with rfl | hx
    · omega
    · exact h2 x hx
theorem mnQ_is : ∀ (o : Pts) (m : Int), mnQ a m o = m ∨ ∃ x ∈ o, affEval a x = mnQ a m o
  | [], m => .inl rfl
  | y :: o, m => by
    rw [mnQ]
    rcases mnQ_is o (min m (affEval a y)) with h | ⟨x, hx, h⟩
    · by_cases hc : m ≤ affEval a y
      · left; omega
      · right; exact ⟨y, by simp, by omega⟩
    · exact .inr ⟨x, by simp [hx], h⟩
theorem mxQ_is : ∀ (o : Pts) (m : Int), mxQ a m o = m ∨ ∃ x ∈ o, affEval a x = mxQ a m o
  | [], m => .inl rfl
  | y :: o, m => by
    rw [mxQ]
    rcases mxQ_is o (max m (affEval a y)) with h | ⟨x, hx, h⟩
    · by_cases hc : affEval a y ≤ m
      · left; omega
      · right; exact ⟨y, by simp, by omega⟩
    · exact .inr ⟨x, by simp [hx], h⟩
theorem loQ_le (x : List Int) (hx : x ∈ o) : loQ a o ≤ affEval a x := by
  cases o with
  | nil => cases hx
  | cons y o =>
    obtain ⟨h1, h2⟩ := mnQ_le (a := a) o (affEval a y)
    rcases List.mem_cons.1 hx with rfl | hx
    · exact h1
    · exact h2 x hx
theorem hiQ_ge (x : List Int) (hx : x ∈ o) : affEval a x ≤ hiQ a o := by
  cases o with
  | nil => cases hx
  | cons y o =>
    obtain ⟨h1, h2⟩ := mxQ_ge (a := a) o (affEval a y)
    rcases List.mem_cons.1 hx with rfl | hx
    · exact h1
    · exact h2 x hx
theorem loQ_is (h : o ≠ []) : ∃ x ∈ o, affEval a x = loQ a o := by
  cases o with
  | nil => exact absurd rfl h
  | cons y o =>
    rcases mnQ_is (a := a) o (affEval a y) with h | ⟨x, hx, h⟩
    · exact ⟨y, by simp, h.symm⟩
    · exact ⟨x, by simp [hx], h⟩
theorem hiQ_is (h : o ≠ []) : ∃ x ∈ o, affEval a x = hiQ a o := by
  cases o with
  | nil => exact absurd rfl h
  | cons y o =>
    rcases mxQ_is (a := a) o (affEval a y) with h | ⟨x, hx, h⟩
    · exact ⟨y, by simp, h.symm⟩
    · exact ⟨x, by simp [hx], h⟩
end
/-- What SubscriptRange answers. -/
def srV (ns : List Lp) (a : Aff) : Int × Int × Bool :=
  if okP ns = true ∧ (npR ns).length ≠ 0 ∧ affV a = true ∧ affDepth a ≤ ns.length then (loQ a (npR ns), hiQ a (npR ns), true) else (0, 0, false)
theorem npR_pt {ns : List Lp} {x : List Int} (h : x ∈ npR ns) : Small x ∧ x.length ≤ 4 := by
  obtain ⟨h1, h2, h3⟩ := npR_mem h
  have hv := (okP_iff.1 h1).1
  obtain ⟨h4, h5⟩ := mem_pts.1 h2
  have h6 := PB_of_in hv h4 h5 ns.length (Nat.le_refl _)
  rw [← h4, List.take_length] at h6
  have h7 := (nsV_at hv).1
  exact ⟨h6.small (by omega), by omega⟩

set_option maxRecDepth 100000 in
set_option maxHeartbeats 1600000 in
theorem implSR_fn (ns : List Lp) (hs : smN ns) (a : Aff) : Fn Try.prog 36 [] [vD (dLs ns), ad (rA a)] (.tup [nat1 (srV ns a).1, nat1 (srV ns a).2.1, bo1 (srV ns a).2.2]) [] := by
  have hn := npR_len ns
  have hnl := hs.1
  refine Fn.code0 Try.func36 rfl rfl rfl rfl ?_
  refine ACode.seq ?_
  refine ACode.region ?_
  refine .cons (St1.boxP rfl rfl rfl rfl rfl rfl) ?_
  refine .cons (.asg rfl rfl) ?_
  refine .cons (.asg rfl rfl) ?_
  refine .cons (.asg rfl rfl) ?_
  refine .nil ?_
  refine ks_n ?_
  refine ACode.seq ?_
  refine ACode.region ?_
  refine .cons (.mv rfl rfl) ?_
  refine .cons (.cP [.tmp 14] rfl rfl rfl rfl (implNestPts_fn ns hs) rfl) ?_
  refine .cons (.mv rfl rfl) ?_
  refine .cons (.ex rfl rfl rfl) ?_
  refine .cons (.ex rfl rfl rfl) ?_
  refine .cons (.asg rfl rfl) ?_
  refine .cons (.asg rfl rfl) ?_
  refine .nil ?_
  refine ks_n ?_
  refine ACode.seq ?_
  refine ACode.seq ?_
  refine ACode.region ?_
  refine .cons (.mv rfl rfl) ?_
  refine .cons (.nt rfl rfl) ?_
  refine .cons (.mv rfl rfl) ?_
  refine AOps.cases 20 _ rfl (fun g20 => ?_) (fun g20 => ?_)
  · try simp only [List.length_map, decide_eq_true_eq, decide_eq_false_iff_not, Bool.not_eq_true', Bool.not_eq_false', Bool.not_eq_true, Bool.not_eq_false] at g20
    refine .cons (.gF rfl rfl rfl) ?_
    refine .cons (.gF rfl rfl rfl) ?_
    refine .cons (.gF rfl rfl rfl) ?_
    refine .cons (.pT rfl rfl rfl) ?_
    refine .cons (.mv rfl rfl) ?_
    refine .cons (.gF rfl rfl rfl) ?_
    refine .cons (.gF rfl rfl rfl) ?_
    refine .cons (.gF rfl rfl rfl) ?_
    refine .cons (.pT rfl rfl rfl) ?_
    refine .cons (.mv rfl rfl) ?_
    refine .cons (.gF rfl rfl rfl) ?_
    refine .cons (.gF rfl rfl rfl) ?_
    refine .cons (.gF rfl rfl rfl) ?_
    refine .cons (.gF rfl rfl rfl) ?_
    refine .cons (.gF rfl rfl rfl) ?_
    refine .cons (.pT rfl rfl rfl) ?_
    refine .nil ?_
    refine ks_n ?_
    refine ACode.condT rfl (fun _ => ?_) (fun h => by first | (cases h; done) | (simp [*] at h; done) | (exfalso; simp_all; done))
    refine ACode.seq ?_
    refine ACode.region ?_
    refine .cons (.asg rfl rfl) ?_
    refine .cons (.asg rfl rfl) ?_
    refine .cons (.asg rfl rfl) ?_
    refine .nil ?_
    refine ks_n ?_
    refine ACode.ret ?_
    refine ks_r ?_
    refine kf_ret rfl ?_ nobox
    have e : srV ns a = (0, 0, false) := if_neg (fun ⟨q1, q2, q3, q4⟩ => by first | (rw [q1] at g20; cases g20; done) | (rw [q3] at g30; cases g30; done) | omega)
    rw [e]; rfl
  · try simp only [List.length_map, decide_eq_true_eq, decide_eq_false_iff_not, Bool.not_eq_true', Bool.not_eq_false', Bool.not_eq_true, Bool.not_eq_false] at g20
    refine .cons (.gT rfl rfl rfl (.mv rfl rfl)) ?_
    refine .cons (.gT rfl rfl rfl (.ln 28 1 24 rfl rfl rfl)) ?_
    refine .cons (.gT rfl rfl rfl (.eq rfl rfl rfl)) ?_
    refine .cons (.pF rfl rfl rfl) ?_
    refine .cons (.mv rfl rfl) ?_
    refine AOps.cases 25 _ rfl (fun g25 => ?_) (fun g25 => ?_)
    · try simp only [List.length_map, decide_eq_true_eq, decide_eq_false_iff_not, Bool.not_eq_true', Bool.not_eq_false', Bool.not_eq_true, Bool.not_eq_false] at g25
      refine .cons (.gF rfl rfl rfl) ?_
      refine .cons (.gF rfl rfl rfl) ?_
      refine .cons (.gF rfl rfl rfl) ?_
      refine .cons (.pT rfl rfl rfl) ?_
      refine .cons (.mv rfl rfl) ?_
      refine .cons (.gF rfl rfl rfl) ?_
      refine .cons (.gF rfl rfl rfl) ?_
      refine .cons (.gF rfl rfl rfl) ?_
      refine .cons (.gF rfl rfl rfl) ?_
      refine .cons (.gF rfl rfl rfl) ?_
      refine .cons (.pT rfl rfl rfl) ?_
      refine .nil ?_
      refine ks_n ?_
      refine ACode.condT rfl (fun _ => ?_) (fun h => by first | (cases h; done) | (simp [*] at h; done) | (exfalso; simp_all; done))
      refine ACode.seq ?_
      refine ACode.region ?_
      refine .cons (.asg rfl rfl) ?_
      refine .cons (.asg rfl rfl) ?_
      refine .cons (.asg rfl rfl) ?_
      refine .nil ?_
      refine ks_n ?_
      refine ACode.ret ?_
      refine ks_r ?_
      refine kf_ret rfl ?_ nobox
      have e : srV ns a = (0, 0, false) := if_neg (fun ⟨q1, q2, q3, q4⟩ => by first | (rw [q1] at g20; cases g20; done) | (rw [q3] at g30; cases g30; done) | omega)
      rw [e]; rfl
    · try simp only [List.length_map, decide_eq_true_eq, decide_eq_false_iff_not, Bool.not_eq_true', Bool.not_eq_false', Bool.not_eq_true, Bool.not_eq_false] at g25
      refine .cons (.gT rfl rfl rfl (.lN 2 rfl rfl rfl)) ?_
      refine .cons (.gT rfl rfl rfl (.cP [.tmp 26] rfl rfl rfl rfl (implAffV_fn a) rfl)) ?_
      refine .cons (.gT rfl rfl rfl (.nt rfl rfl)) ?_
      refine .cons (.pF rfl rfl rfl) ?_
      refine .cons (.mv rfl rfl) ?_
      refine AOps.cases 30 _ rfl (fun g30 => ?_) (fun g30 => ?_)
      · try simp only [List.length_map, decide_eq_true_eq, decide_eq_false_iff_not, Bool.not_eq_true', Bool.not_eq_false', Bool.not_eq_true, Bool.not_eq_false] at g30
        refine .cons (.gF rfl rfl rfl) ?_
        refine .cons (.gF rfl rfl rfl) ?_
        refine .cons (.gF rfl rfl rfl) ?_
        refine .cons (.gF rfl rfl rfl) ?_
        refine .cons (.gF rfl rfl rfl) ?_
        refine .cons (.pT rfl rfl rfl) ?_
        refine .nil ?_
        refine ks_n ?_
        refine ACode.condT rfl (fun _ => ?_) (fun h => by first | (cases h; done) | (simp [*] at h; done) | (exfalso; simp_all; done))
        refine ACode.seq ?_
        refine ACode.region ?_
        refine .cons (.asg rfl rfl) ?_
        refine .cons (.asg rfl rfl) ?_
        refine .cons (.asg rfl rfl) ?_
        refine .nil ?_
        refine ks_n ?_
        refine ACode.ret ?_
        refine ks_r ?_
        refine kf_ret rfl ?_ nobox
        have e : srV ns a = (0, 0, false) := if_neg (fun ⟨q1, q2, q3, q4⟩ => by first | (rw [q1] at g20; cases g20; done) | (rw [q3] at g30; cases g30; done) | omega)
        rw [e]; rfl
      · try simp only [List.length_map, decide_eq_true_eq, decide_eq_false_iff_not, Bool.not_eq_true', Bool.not_eq_false', Bool.not_eq_true, Bool.not_eq_false] at g30
        refine .cons (.gT rfl rfl rfl (.lN 2 rfl rfl rfl)) ?_
        refine .cons (.gT rfl rfl rfl (.cP [.tmp 31] rfl rfl rfl rfl (depth_fn a) rfl)) ?_
        refine .cons (.gT rfl rfl rfl (.mv rfl rfl)) ?_
        refine .cons (.gT rfl rfl rfl (.ln 67 2 48 rfl rfl rfl)) ?_
        refine .cons (.gT rfl rfl rfl (.gt rfl rfl rfl)) ?_
        refine .cons (.pF rfl rfl rfl) ?_
        refine .nil ?_
        refine ks_n ?_
        refine ACode.condT rfl (fun h36 => ?_) (fun h36 => ?_)
        · try simp only [List.length_map, decide_eq_true_eq, decide_eq_false_iff_not, Bool.not_eq_true', Bool.not_eq_false', Bool.not_eq_true, Bool.not_eq_false] at h36
          refine ACode.seq ?_
          refine ACode.region ?_
          refine .cons (.asg rfl rfl) ?_
          refine .cons (.asg rfl rfl) ?_
          refine .cons (.asg rfl rfl) ?_
          refine .nil ?_
          refine ks_n ?_
          refine ACode.ret ?_
          refine ks_r ?_
          refine kf_ret rfl ?_ nobox
          have e : srV ns a = (0, 0, false) := if_neg (fun ⟨q1, q2, q3, q4⟩ => by first | (rw [q1] at g20; cases g20; done) | (rw [q3] at g30; cases g30; done) | omega)
          rw [e]; rfl
        · try simp only [List.length_map, decide_eq_true_eq, decide_eq_false_iff_not, Bool.not_eq_true', Bool.not_eq_false', Bool.not_eq_true, Bool.not_eq_false] at h36
          obtain ⟨x0, hx0⟩ : ∃ x, (npR ns)[0]? = some x := ⟨_, List.getElem?_eq_getElem (by omega)⟩
          have hp0 := npR_pt (List.mem_of_getElem? hx0)
          refine ACode.skip ?_
          refine ks_n ?_
          refine ACode.seq ?_
          refine ACode.drawK (by kernel_rfl) (by kernel_rfl) ?_
          refine .cons (.lN 2 rfl rfl rfl) ?_
          refine .cons (.mv rfl rfl) ?_
          refine .cons (.xL 28 1 24 (i := 0) rfl rfl rfl rfl rfl (map_at hx0)) ?_
          refine .cons (.l1 1 rfl rfl) ?_
          refine .cons (.cP [.tmp 37, .tmp 40] rfl rfl rfl rfl (eval_fn g30 hp0.1 hp0.2) rfl) ?_
          refine .cons (.lN 2 rfl rfl rfl) ?_
          refine .cons (.mv rfl rfl) ?_
          refine .cons (.xL 28 1 24 (i := 0) rfl rfl rfl rfl rfl (map_at hx0)) ?_
          refine .cons (.l1 1 rfl rfl) ?_
          refine .cons (.cP [.tmp 42, .tmp 45] rfl rfl rfl rfl (eval_fn g30 hp0.1 hp0.2) rfl) ?_
          refine .cons (.asg rfl rfl) ?_
          refine .cons (.asg rfl rfl) ?_
          refine .nil ⟨by kernel_rfl, ?_⟩
          refine ks_n ?_
          refine ACode.seq ?_
          refine ACode.seq ?_
          refine ACode.region ?_
          refine .cons (.mv rfl rfl) ?_
          refine .cons (.ln 28 1 24 rfl rfl rfl) ?_
          refine .cons (.mv rfl rfl) ?_
          refine .nil ?_
          refine ks_n ?_
          refine ACode.block ?_
          refine .loopK (fun m σ => (∃ (i : Nat) (c d : Int), m = (npR ns).length - i ∧ (i ≤ (npR ns).length) ∧ (loQ a (npR ns) = mnQ a c ((npR ns).drop i)) ∧ (hiQ a (npR ns) = mxQ a d ((npR ns).drop i)) ∧ σ = [(.t 3, .v (.o (.c (.ptr (rA a))))), (.t 9, .v (.o (nat1 c))), (.t 10, .v (.o (nat1 d))), (.t 47, .v (.o (vD (dPs (npR ns))))), (.t 48, .v (.o (nat1 ((npR ns).length : Nat)))), (.t 49, .v (.o (nat1 (i : Nat))))])) [] ⟨0, affEval a x0, affEval a x0, rfl, (by omega), (loQ_zero hx0), (hiQ_zero hx0), rfl⟩ ⟨ks rfl .dt, ks rfl .dt, ks rfl .dt, ks rfl .dt, ks rfl .dt, ks rfl .dt, trivial⟩ ?_
          rintro m σ ⟨i, c, d, hm0, hi, hF1, hF2, rfl⟩
          refine ACode.seq ?_
          refine ACode.region ?_
          refine .cons (.ls rfl rfl rfl) ?_
          refine .nil ?_
          refine ks_n ?_
          refine ACode.seq ?_
          refine .cD rfl (fun h50 => ?_) (fun h50 => ?_)
          · skip
            obtain ⟨x, hx1⟩ : ∃ x, (npR ns)[i]? = some x := ⟨_, List.getElem?_eq_getElem (by omega)⟩
            have hpx := npR_pt (List.mem_of_getElem? hx1)
            refine ACode.skip ?_
            refine ks_n ?_
            refine ACode.seq ?_
            refine ACode.block ?_
            refine ACode.seq ?_
            refine ACode.region ?_
            refine .cons (.xL 28 1 24 rfl rfl rfl rfl rfl) ?_
            refine .cons (.l1 1 rfl rfl) ?_
            refine .cons (.asg rfl rfl) ?_
            refine .nil ?_
            refine ks_n ?_
            refine ACode.drawK (by kernel_rfl) (by kernel_rfl) ?_
            refine .cons (.mv rfl rfl) ?_
            refine .cons (.lN 2 rfl rfl rfl) ?_
            refine .cons (.mv rfl rfl) ?_
            refine .cons (.cP [.tmp 54, .tmp 55] rfl rfl rfl rfl (eval_fn g30 hpx.1 hpx.2) rfl) ?_
            refine .cons (St1.min2 rfl rfl rfl rfl rfl rfl) ?_
            refine .cons (.mv rfl rfl) ?_
            refine .cons (.lN 2 rfl rfl rfl) ?_
            refine .cons (.mv rfl rfl) ?_
            refine .cons (.cP [.tmp 59, .tmp 60] rfl rfl rfl rfl (eval_fn g30 hpx.1 hpx.2) rfl) ?_
            refine .cons (St1.max2 rfl rfl rfl rfl rfl rfl) ?_
            refine .cons (.asg rfl rfl) ?_
            refine .cons (.asg rfl rfl) ?_
            refine .nil ⟨by kernel_rfl, ?_⟩
            refine kb_n ?_
            refine ks_n ?_
            refine ACode.region ?_
            refine .cons (.pl rfl rfl rfl) ?_
            refine .cons (.mv rfl rfl) ?_
            refine .nil ?_
            refine kl_k [] ⟨i + 1, min c (affEval a x), max d (affEval a x), rfl, by omega, by rw [hF1, mnQ_drop hx1], by rw [hF2, mxQ_drop hx1], rfl⟩ ⟨ks rfl .dt, ks rfl .dt, ks rfl .dt, ks rfl .dt, ks rfl .dt, ks rfl .dt, trivial⟩
          · skip
            have hL : loQ a (npR ns) = c := by rw [hF1, List.drop_of_length_le (by omega)]; rfl
            have hH : hiQ a (npR ns) = d := by rw [hF2, List.drop_of_length_le (by omega)]; rfl
            refine ACode.exit ?_
            refine ks_e ?_
            refine kl_e ?_
            refine kb_hit ?_
            refine ks_n ?_
            refine ACode.seq ?_
            refine ACode.region ?_
            refine .cons (.mv rfl rfl) ?_
            refine .cons (.mv rfl rfl) ?_
            refine .cons (.asg rfl rfl) ?_
            refine .cons (.asg rfl rfl) ?_
            refine .cons (.asg rfl rfl) ?_
            refine .nil ?_
            refine ks_n ?_
            refine ACode.ret ?_
            refine kf_ret rfl ?_ nobox
            have e : srV ns a = (loQ a (npR ns), hiQ a (npR ns), true) := if_pos ⟨by assumption, by omega, by assumption, by omega⟩
            rw [e, hL, hH]; rfl

set_option maxRecDepth 100000 in
set_option maxHeartbeats 1600000 in
theorem specSR_fn (ns : List Lp) (hs : smN ns) (a : Aff) : Fn Try.prog 33 [] [vD (dLs ns), ad (rA a)] (.tup [nat1 (srV ns a).1, nat1 (srV ns a).2.1, bo1 (srV ns a).2.2]) [] := by
  have hn := npR_len ns
  have hnl := hs.1
  refine Fn.code0 Try.func33 rfl rfl rfl rfl ?_
  refine ACode.seq ?_
  refine ACode.region ?_
  refine .cons (St1.boxP rfl rfl rfl rfl rfl rfl) ?_
  refine .cons (.asg rfl rfl) ?_
  refine .cons (.asg rfl rfl) ?_
  refine .cons (.asg rfl rfl) ?_
  refine .nil ?_
  refine ks_n ?_
  refine ACode.seq ?_
  refine ACode.region ?_
  refine .cons (.mv rfl rfl) ?_
  refine .cons (.cP [.tmp 14] rfl rfl rfl rfl (specNestPts_fn ns hs) rfl) ?_
  refine .cons (.mv rfl rfl) ?_
  refine .cons (.ex rfl rfl rfl) ?_
  refine .cons (.ex rfl rfl rfl) ?_
  refine .cons (.asg rfl rfl) ?_
  refine .cons (.asg rfl rfl) ?_
  refine .nil ?_
  refine ks_n ?_
  refine ACode.seq ?_
  refine ACode.seq ?_
  refine ACode.region ?_
  refine .cons (.mv rfl rfl) ?_
  refine .cons (.nt rfl rfl) ?_
  refine .cons (.mv rfl rfl) ?_
  refine AOps.cases 20 _ rfl (fun g20 => ?_) (fun g20 => ?_)
  · try simp only [List.length_map, decide_eq_true_eq, decide_eq_false_iff_not, Bool.not_eq_true', Bool.not_eq_false', Bool.not_eq_true, Bool.not_eq_false] at g20
    refine .cons (.gF rfl rfl rfl) ?_
    refine .cons (.gF rfl rfl rfl) ?_
    refine .cons (.gF rfl rfl rfl) ?_
    refine .cons (.pT rfl rfl rfl) ?_
    refine .cons (.mv rfl rfl) ?_
    refine .cons (.gF rfl rfl rfl) ?_
    refine .cons (.gF rfl rfl rfl) ?_
    refine .cons (.gF rfl rfl rfl) ?_
    refine .cons (.gF rfl rfl rfl) ?_
    refine .cons (.gF rfl rfl rfl) ?_
    refine .cons (.pT rfl rfl rfl) ?_
    refine .cons (.mv rfl rfl) ?_
    refine .cons (.gF rfl rfl rfl) ?_
    refine .cons (.gF rfl rfl rfl) ?_
    refine .cons (.gF rfl rfl rfl) ?_
    refine .cons (.pT rfl rfl rfl) ?_
    refine .nil ?_
    refine ks_n ?_
    refine ACode.condT rfl (fun _ => ?_) (fun h => by first | (cases h; done) | (simp [*] at h; done) | (exfalso; simp_all; done))
    refine ACode.seq ?_
    refine ACode.region ?_
    refine .cons (.asg rfl rfl) ?_
    refine .cons (.asg rfl rfl) ?_
    refine .cons (.asg rfl rfl) ?_
    refine .nil ?_
    refine ks_n ?_
    refine ACode.ret ?_
    refine ks_r ?_
    refine kf_ret rfl ?_ nobox
    have e : srV ns a = (0, 0, false) := if_neg (fun ⟨q1, q2, q3, q4⟩ => by first | (rw [q1] at g20; cases g20; done) | (rw [q3] at g25; cases g25; done) | omega)
    rw [e]; rfl
  · try simp only [List.length_map, decide_eq_true_eq, decide_eq_false_iff_not, Bool.not_eq_true', Bool.not_eq_false', Bool.not_eq_true, Bool.not_eq_false] at g20
    refine .cons (.gT rfl rfl rfl (.lN 2 rfl rfl rfl)) ?_
    refine .cons (.gT rfl rfl rfl (.cP [.tmp 21] rfl rfl rfl rfl (specAffV_fn a) rfl)) ?_
    refine .cons (.gT rfl rfl rfl (.nt rfl rfl)) ?_
    refine .cons (.pF rfl rfl rfl) ?_
    refine .cons (.mv rfl rfl) ?_
    refine AOps.cases 25 _ rfl (fun g25 => ?_) (fun g25 => ?_)
    · try simp only [List.length_map, decide_eq_true_eq, decide_eq_false_iff_not, Bool.not_eq_true', Bool.not_eq_false', Bool.not_eq_true, Bool.not_eq_false] at g25
      refine .cons (.gF rfl rfl rfl) ?_
      refine .cons (.gF rfl rfl rfl) ?_
      refine .cons (.gF rfl rfl rfl) ?_
      refine .cons (.gF rfl rfl rfl) ?_
      refine .cons (.gF rfl rfl rfl) ?_
      refine .cons (.pT rfl rfl rfl) ?_
      refine .cons (.mv rfl rfl) ?_
      refine .cons (.gF rfl rfl rfl) ?_
      refine .cons (.gF rfl rfl rfl) ?_
      refine .cons (.gF rfl rfl rfl) ?_
      refine .cons (.pT rfl rfl rfl) ?_
      refine .nil ?_
      refine ks_n ?_
      refine ACode.condT rfl (fun _ => ?_) (fun h => by first | (cases h; done) | (simp [*] at h; done) | (exfalso; simp_all; done))
      refine ACode.seq ?_
      refine ACode.region ?_
      refine .cons (.asg rfl rfl) ?_
      refine .cons (.asg rfl rfl) ?_
      refine .cons (.asg rfl rfl) ?_
      refine .nil ?_
      refine ks_n ?_
      refine ACode.ret ?_
      refine ks_r ?_
      refine kf_ret rfl ?_ nobox
      have e : srV ns a = (0, 0, false) := if_neg (fun ⟨q1, q2, q3, q4⟩ => by first | (rw [q1] at g20; cases g20; done) | (rw [q3] at g25; cases g25; done) | omega)
      rw [e]; rfl
    · try simp only [List.length_map, decide_eq_true_eq, decide_eq_false_iff_not, Bool.not_eq_true', Bool.not_eq_false', Bool.not_eq_true, Bool.not_eq_false] at g25
      refine .cons (.gT rfl rfl rfl (.lN 2 rfl rfl rfl)) ?_
      refine .cons (.gT rfl rfl rfl (.cP [.tmp 26] rfl rfl rfl rfl (l1Depth_fn a) rfl)) ?_
      refine .cons (.gT rfl rfl rfl (.mv rfl rfl)) ?_
      refine .cons (.gT rfl rfl rfl (.ln 67 2 48 rfl rfl rfl)) ?_
      refine .cons (.gT rfl rfl rfl (.gt rfl rfl rfl)) ?_
      refine .cons (.pF rfl rfl rfl) ?_
      refine .cons (.mv rfl rfl) ?_
      refine AOps.cases 32 _ rfl (fun g32 => ?_) (fun g32 => ?_)
      · try simp only [List.length_map, decide_eq_true_eq, decide_eq_false_iff_not, Bool.not_eq_true', Bool.not_eq_false', Bool.not_eq_true, Bool.not_eq_false] at g32
        refine .cons (.gF rfl rfl rfl) ?_
        refine .cons (.gF rfl rfl rfl) ?_
        refine .cons (.gF rfl rfl rfl) ?_
        refine .cons (.pT rfl rfl rfl) ?_
        refine .nil ?_
        refine ks_n ?_
        refine ACode.condT rfl (fun _ => ?_) (fun h => by first | (cases h; done) | (simp [*] at h; done) | (exfalso; simp_all; done))
        refine ACode.seq ?_
        refine ACode.region ?_
        refine .cons (.asg rfl rfl) ?_
        refine .cons (.asg rfl rfl) ?_
        refine .cons (.asg rfl rfl) ?_
        refine .nil ?_
        refine ks_n ?_
        refine ACode.ret ?_
        refine ks_r ?_
        refine kf_ret rfl ?_ nobox
        have e : srV ns a = (0, 0, false) := if_neg (fun ⟨q1, q2, q3, q4⟩ => by first | (rw [q1] at g20; cases g20; done) | (rw [q3] at g25; cases g25; done) | omega)
        rw [e]; rfl
      · try simp only [List.length_map, decide_eq_true_eq, decide_eq_false_iff_not, Bool.not_eq_true', Bool.not_eq_false', Bool.not_eq_true, Bool.not_eq_false] at g32
        refine .cons (.gT rfl rfl rfl (.mv rfl rfl)) ?_
        refine .cons (.gT rfl rfl rfl (.ln 28 1 24 rfl rfl rfl)) ?_
        refine .cons (.gT rfl rfl rfl (.eq rfl rfl rfl)) ?_
        refine .cons (.pF rfl rfl rfl) ?_
        refine .nil ?_
        refine ks_n ?_
        refine ACode.condT rfl (fun h36 => ?_) (fun h36 => ?_)
        · try simp only [List.length_map, decide_eq_true_eq, decide_eq_false_iff_not, Bool.not_eq_true', Bool.not_eq_false', Bool.not_eq_true, Bool.not_eq_false] at h36
          refine ACode.seq ?_
          refine ACode.region ?_
          refine .cons (.asg rfl rfl) ?_
          refine .cons (.asg rfl rfl) ?_
          refine .cons (.asg rfl rfl) ?_
          refine .nil ?_
          refine ks_n ?_
          refine ACode.ret ?_
          refine ks_r ?_
          refine kf_ret rfl ?_ nobox
          have e : srV ns a = (0, 0, false) := if_neg (fun ⟨q1, q2, q3, q4⟩ => by first | (rw [q1] at g20; cases g20; done) | (rw [q3] at g25; cases g25; done) | omega)
          rw [e]; rfl
        · try simp only [List.length_map, decide_eq_true_eq, decide_eq_false_iff_not, Bool.not_eq_true', Bool.not_eq_false', Bool.not_eq_true, Bool.not_eq_false] at h36
          obtain ⟨x0, hx0⟩ : ∃ x, (npR ns)[0]? = some x := ⟨_, List.getElem?_eq_getElem (by omega)⟩
          have hp0 := npR_pt (List.mem_of_getElem? hx0)
          refine ACode.skip ?_
          refine ks_n ?_
          refine ACode.seq ?_
          refine ACode.drawK (by kernel_rfl) (by kernel_rfl) ?_
          refine .cons (.lN 2 rfl rfl rfl) ?_
          refine .cons (.mv rfl rfl) ?_
          refine .cons (.xL 28 1 24 (i := 0) rfl rfl rfl rfl rfl (map_at hx0)) ?_
          refine .cons (.l1 1 rfl rfl) ?_
          refine .cons (.cP [.tmp 37, .tmp 40] rfl rfl rfl rfl (l1Eval_fn g25 hp0.1 hp0.2) rfl) ?_
          refine .cons (.asg rfl rfl) ?_
          refine .nil ⟨by kernel_rfl, ?_⟩
          refine ks_n ?_
          refine ACode.seq ?_
          refine ACode.region ?_
          refine .cons (.mv rfl rfl) ?_
          refine .cons (.asg rfl rfl) ?_
          refine .nil ?_
          refine ks_n ?_
          refine ACode.seq ?_
          refine ACode.seq ?_
          refine ACode.region ?_
          refine .cons (.asg rfl rfl) ?_
          refine .nil ?_
          refine ks_n ?_
          refine ACode.block ?_
          refine .loopK (fun m σ => (∃ (i : Nat) (c d : Int), m = (npR ns).length - i ∧ (i ≤ (npR ns).length) ∧ (loQ a (npR ns) = mnQ a c ((npR ns).drop i)) ∧ (hiQ a (npR ns) = mxQ a d ((npR ns).drop i)) ∧ σ = [(.t 3, .v (.o (.c (.ptr (rA a))))), (.t 7, .v (.o (vD (dPs (npR ns))))), (.t 9, .v (.o (nat1 c))), (.t 10, .v (.o (nat1 d))), (.t 11, .v (.o (nat1 (i : Nat))))])) [] ⟨1, affEval a x0, affEval a x0, rfl, (by omega), (loQ_one hx0), (hiQ_one hx0), rfl⟩ ⟨ks rfl .dt, ks rfl .dt, ks rfl (.dt (congrArg (fun z => V.o (nat1 z)) (by first | rfl | omega))), ks rfl (.dt (congrArg (fun z => V.o (nat1 z)) (by first | rfl | omega))), ks rfl .dt, trivial⟩ ?_
          rintro m σ ⟨i, c, d, hm0, hi, hF1, hF2, rfl⟩
          refine ACode.seq ?_
          refine ACode.seq ?_
          refine ACode.region ?_
          refine .cons (.mv rfl rfl) ?_
          refine .cons (.mv rfl rfl) ?_
          refine .cons (.ln 28 1 24 rfl rfl rfl) ?_
          refine .cons (.ls rfl rfl rfl) ?_
          refine .nil ?_
          refine ks_n ?_
          refine .cD rfl (fun h46 => ?_) (fun h46 => ?_)
          · skip
            obtain ⟨x, hx1⟩ : ∃ x, (npR ns)[i]? = some x := ⟨_, List.getElem?_eq_getElem (by omega)⟩
            have hpx := npR_pt (List.mem_of_getElem? hx1)
            refine ACode.skip ?_
            refine ks_n ?_
            refine ACode.seq ?_
            refine ACode.block ?_
            refine ACode.seq ?_
            refine ACode.drawK (by kernel_rfl) (by kernel_rfl) ?_
            refine .cons (.lN 2 rfl rfl rfl) ?_
            refine .cons (.mv rfl rfl) ?_
            refine .cons (.mv rfl rfl) ?_
            refine .cons (.xL 28 1 24 rfl rfl rfl rfl rfl) ?_
            refine .cons (.l1 1 rfl rfl) ?_
            refine .cons (.cP [.tmp 49, .tmp 53] rfl rfl rfl rfl (l1Eval_fn g25 hpx.1 hpx.2) rfl) ?_
            refine .cons (.asg rfl rfl) ?_
            refine .nil ⟨by kernel_rfl, ?_⟩
            refine ks_n ?_
            refine ACode.seq ?_
            refine ACode.seq ?_
            refine ACode.region ?_
            refine .cons (.mv rfl rfl) ?_
            refine .cons (.mv rfl rfl) ?_
            refine .cons (.ls rfl rfl rfl) ?_
            refine .nil ?_
            refine ks_n ?_
            refine .cD rfl (fun h57 => ?_) (fun h57 => ?_)
            · skip
              refine ACode.region ?_
              refine .cons (.mv rfl rfl) ?_
              refine .cons (.asg rfl rfl) ?_
              refine .nil ?_
              refine ks_n ?_
              refine ACode.seq ?_
              refine ACode.region ?_
              refine .cons (.mv rfl rfl) ?_
              refine .cons (.mv rfl rfl) ?_
              refine .cons (.gt rfl rfl rfl) ?_
              refine .nil ?_
              refine ks_n ?_
              refine .cD rfl (fun h61 => ?_) (fun h61 => ?_)
              · skip
                refine ACode.region ?_
                refine .cons (.mv rfl rfl) ?_
                refine .cons (.asg rfl rfl) ?_
                refine .nil ?_
                refine kb_n ?_
                refine ks_n ?_
                refine ACode.region ?_
                refine .cons (.mv rfl rfl) ?_
                refine .cons (.pl rfl rfl rfl) ?_
                refine .cons (.asg rfl rfl) ?_
                refine .nil ?_
                refine kl_k [] ⟨i + 1, min c (affEval a x), max d (affEval a x), rfl, by omega, by rw [hF1, mnQ_drop hx1], by rw [hF2, mxQ_drop hx1], rfl⟩ ⟨ks rfl .dt, ks rfl .dt, ks rfl (.dt (congrArg (fun z => V.o (nat1 z)) (by first | rfl | omega))), ks rfl (.dt (congrArg (fun z => V.o (nat1 z)) (by first | rfl | omega))), ks rfl .dt, trivial⟩
              · skip
                refine ACode.skip ?_
                refine kb_n ?_
                refine ks_n ?_
                refine ACode.region ?_
                refine .cons (.mv rfl rfl) ?_
                refine .cons (.pl rfl rfl rfl) ?_
                refine .cons (.asg rfl rfl) ?_
                refine .nil ?_
                refine kl_k [] ⟨i + 1, min c (affEval a x), max d (affEval a x), rfl, by omega, by rw [hF1, mnQ_drop hx1], by rw [hF2, mxQ_drop hx1], rfl⟩ ⟨ks rfl .dt, ks rfl .dt, ks rfl (.dt (congrArg (fun z => V.o (nat1 z)) (by first | rfl | omega))), ks rfl (.dt (congrArg (fun z => V.o (nat1 z)) (by first | rfl | omega))), ks rfl .dt, trivial⟩
            · skip
              refine ACode.skip ?_
              refine ks_n ?_
              refine ACode.seq ?_
              refine ACode.region ?_
              refine .cons (.mv rfl rfl) ?_
              refine .cons (.mv rfl rfl) ?_
              refine .cons (.gt rfl rfl rfl) ?_
              refine .nil ?_
              refine ks_n ?_
              refine .cD rfl (fun h61 => ?_) (fun h61 => ?_)
              · skip
                refine ACode.region ?_
                refine .cons (.mv rfl rfl) ?_
                refine .cons (.asg rfl rfl) ?_
                refine .nil ?_
                refine kb_n ?_
                refine ks_n ?_
                refine ACode.region ?_
                refine .cons (.mv rfl rfl) ?_
                refine .cons (.pl rfl rfl rfl) ?_
                refine .cons (.asg rfl rfl) ?_
                refine .nil ?_
                refine kl_k [] ⟨i + 1, min c (affEval a x), max d (affEval a x), rfl, by omega, by rw [hF1, mnQ_drop hx1], by rw [hF2, mxQ_drop hx1], rfl⟩ ⟨ks rfl .dt, ks rfl .dt, ks rfl (.dt (congrArg (fun z => V.o (nat1 z)) (by first | rfl | omega))), ks rfl (.dt (congrArg (fun z => V.o (nat1 z)) (by first | rfl | omega))), ks rfl .dt, trivial⟩
              · skip
                refine ACode.skip ?_
                refine kb_n ?_
                refine ks_n ?_
                refine ACode.region ?_
                refine .cons (.mv rfl rfl) ?_
                refine .cons (.pl rfl rfl rfl) ?_
                refine .cons (.asg rfl rfl) ?_
                refine .nil ?_
                refine kl_k [] ⟨i + 1, min c (affEval a x), max d (affEval a x), rfl, by omega, by rw [hF1, mnQ_drop hx1], by rw [hF2, mxQ_drop hx1], rfl⟩ ⟨ks rfl .dt, ks rfl .dt, ks rfl (.dt (congrArg (fun z => V.o (nat1 z)) (by first | rfl | omega))), ks rfl (.dt (congrArg (fun z => V.o (nat1 z)) (by first | rfl | omega))), ks rfl .dt, trivial⟩
          · skip
            have hL : loQ a (npR ns) = c := by rw [hF1, List.drop_of_length_le (by omega)]; rfl
            have hH : hiQ a (npR ns) = d := by rw [hF2, List.drop_of_length_le (by omega)]; rfl
            refine ACode.exit ?_
            refine ks_e ?_
            refine kl_e ?_
            refine kb_hit ?_
            refine ks_n ?_
            refine ACode.seq ?_
            refine ACode.region ?_
            refine .cons (.mv rfl rfl) ?_
            refine .cons (.mv rfl rfl) ?_
            refine .cons (.asg rfl rfl) ?_
            refine .cons (.asg rfl rfl) ?_
            refine .cons (.asg rfl rfl) ?_
            refine .nil ?_
            refine ks_n ?_
            refine ACode.ret ?_
            refine kf_ret rfl ?_ nobox
            have e : srV ns a = (loQ a (npR ns), hiQ a (npR ns), true) := if_pos ⟨by assumption, by omega, by assumption, by omega⟩
            rw [e, hL, hH]; rfl

set_option maxRecDepth 100000 in
set_option maxHeartbeats 1600000 in
theorem evalAff_fn (a : Aff) (p : List Int) : Fn Try.prog 41 [] [ad (rA a), vD (dIs p)] (.o (nat1 (if affV a = true ∧ isPt p = true then affEval a p else 0))) [] := by
  refine Fn.code0 Try.func41 rfl rfl rfl rfl ?_
  refine ACode.seq ?_
  refine ACode.region ?_
  refine .cons (St1.boxP rfl rfl rfl rfl rfl rfl) ?_
  refine .cons (.asg rfl rfl) ?_
  refine .nil ?_
  refine ks_n ?_
  refine ACode.seq ?_
  refine ACode.seq ?_
  refine ACode.region ?_
  refine .cons (.lN 2 rfl rfl rfl) ?_
  refine .cons (.cP [.tmp 5] rfl rfl rfl rfl (implAffV_fn a) rfl) ?_
  refine .cons (.nt rfl rfl) ?_
  refine .cons (.mv rfl rfl) ?_
  refine AOps.cases 8 _ rfl (fun g8 => ?_) (fun g8 => ?_)
  · try simp only [List.length_map, decide_eq_true_eq, decide_eq_false_iff_not, Bool.not_eq_true', Bool.not_eq_false', Bool.not_eq_true, Bool.not_eq_false] at g8
    refine .cons (.gF rfl rfl rfl) ?_
    refine .cons (.gF rfl rfl rfl) ?_
    refine .cons (.gF rfl rfl rfl) ?_
    refine .cons (.pT rfl rfl rfl) ?_
    refine .nil ?_
    refine ks_n ?_
    refine ACode.condT rfl (fun _ => ?_) (fun h => by first | (cases h; done) | (simp [*] at h; done) | (exfalso; simp_all; done))
    refine ACode.seq ?_
    refine ACode.region ?_
    refine .cons (.asg rfl rfl) ?_
    refine .nil ?_
    refine ks_n ?_
    refine ACode.ret ?_
    refine ks_r ?_
    refine kf_ret rfl ?_ nobox
    exact leafI (by rw [if_neg (fun hh => by first | (rw [hh.1] at g8; cases g8; done) | (rw [hh.2] at h12; cases h12))])
  · try simp only [List.length_map, decide_eq_true_eq, decide_eq_false_iff_not, Bool.not_eq_true', Bool.not_eq_false', Bool.not_eq_true, Bool.not_eq_false] at g8
    refine .cons (.gT rfl rfl rfl (.mv rfl rfl)) ?_
    refine .cons (.gT rfl rfl rfl (.cP [.tmp 9] rfl rfl rfl rfl (isPoint_fn p) rfl)) ?_
    refine .cons (.gT rfl rfl rfl (.nt rfl rfl)) ?_
    refine .cons (.pF rfl rfl rfl) ?_
    refine .nil ?_
    refine ks_n ?_
    refine ACode.condT rfl (fun h12 => ?_) (fun h12 => ?_)
    · try simp only [List.length_map, decide_eq_true_eq, decide_eq_false_iff_not, Bool.not_eq_true', Bool.not_eq_false', Bool.not_eq_true, Bool.not_eq_false] at h12
      refine ACode.seq ?_
      refine ACode.region ?_
      refine .cons (.asg rfl rfl) ?_
      refine .nil ?_
      refine ks_n ?_
      refine ACode.ret ?_
      refine ks_r ?_
      refine kf_ret rfl ?_ nobox
      exact leafI (by rw [if_neg (fun hh => by first | (rw [hh.1] at g8; cases g8; done) | (rw [hh.2] at h12; cases h12))])
    · try simp only [List.length_map, decide_eq_true_eq, decide_eq_false_iff_not, Bool.not_eq_true', Bool.not_eq_false', Bool.not_eq_true, Bool.not_eq_false] at h12
      refine ACode.skip ?_
      refine ks_n ?_
      refine ACode.seq ?_
      refine ACode.region ?_
      refine .cons (.lN 2 rfl rfl rfl) ?_
      refine .cons (.mv rfl rfl) ?_
      refine .cons (.cP [.tmp 13, .tmp 14] rfl rfl rfl rfl (eval_fn g8 (isPt_small h12) (isPt_len h12)) rfl) ?_
      refine .cons (.asg rfl rfl) ?_
      refine .nil ?_
      refine ks_n ?_
      refine ACode.ret ?_
      refine kf_ret rfl ?_ nobox
      exact leafI (by rw [if_pos ⟨g8, h12⟩])

end Go.Proofs.Ytgcpdpbapgkdjaa

/- Drawn affine expressions; condition: bytes. -/
namespace Go.Proofs.Ytgcpdpbapgkdjaa
set_option linter.unusedVariables false
set_option linter.unusedSimpArgs false
open Go.RowKit

def drE (bs : List Int) : Nat → Nat → List Int → Nat → List Int × Nat
  | 0, _, cs, p => (cs, p)
  | n + 1, i, cs, p => drE bs n (i + 1) (cs.set i (numV bs p [0, 1, 0, -1, 2, 0, 9])) (p + 1)
def drD (bs : List Int) (p d : Nat) : Aff × Nat := (((drE bs d 0 [0, 0, 0, 0] (p + 1)).1, numV bs p [0, 1, -1, 2, 0, 5, -9, 99]), (drE bs d 0 [0, 0, 0, 0] (p + 1)).2)
theorem drE_len (bs : List Int) : ∀ (n i : Nat) (cs : List Int) (p : Nat), (drE bs n i cs p).1.length = cs.length ∧ (drE bs n i cs p).2 = p + n
  | 0, i, cs, p => ⟨rfl, rfl⟩
  | n + 1, i, cs, p => by
    obtain ⟨h1, h2⟩ := drE_len bs n (i + 1) (cs.set i (numV bs p [0, 1, 0, -1, 2, 0, 9])) (p + 1)
    exact ⟨by rw [drE, h1, List.length_set], by rw [drE, h2]; omega⟩
def amD (bs : List Int) (p : Nat) (x : Aff) : Aff × Nat :=
  if pickV bs p 40 = 0 then ((x.1, numV bs (p + 1) [100, -100, 9223372036854775807]), p + 1 + 1)
  else if pickV bs p 40 = 1 then ((x.1 ++ [0], x.2), p + 1)
  else if pickV bs p 40 = 2 then if (0 : Int) < (x.1.length : Nat) then ((x.1.set 0 (numV bs (p + 1) [10, -10, -9223372036854775808]), x.2), p + 1 + 1) else (x, p + 1)
  else if pickV bs p 40 = 3 then (([], 0), p + 1)
  else (x, p + 1)
theorem amD_len (bs : List Int) (p : Nat) (x : Aff) : (amD bs p x).1.1.length ≤ x.1.length + 1 ∧ (amD bs p x).2 ≤ p + 2 := by
  rw [amD]
  split
  · exact ⟨by simp, by simp⟩
  · split
    · exact ⟨by simp, by simp⟩
    · split
      · split
        · exact ⟨by simp, by simp⟩
        · exact ⟨by simp, by simp⟩
      · split
        · exact ⟨by simp, by simp⟩
        · exact ⟨by simp, by simp⟩

set_option maxRecDepth 100000 in
set_option maxHeartbeats 1600000 in
theorem l1Draw_fn {bs : List Int} (hb : Bytes bs) {p : Nat} (hp : p ≤ 100000000) (d : Nat) (hd : d ≤ 4) : Fn Try.prog 87 (hbR bs p) [vR, nat1 (d : Nat)] (.o (ad (rA (drD bs p d).1))) (hbR bs (drD bs p d).2) := by
  refine Fn.of_code Try.func87 rfl rfl (hbR_HB _ _) rfl rfl (hbR_HB _ _) rfl (hbR_num _ _ _) ?_
  refine ACode.seq ?_
  refine ACode.region ?_
  refine .cons (.al 104 [.slice none 0 0, .int .i64 0] rfl rfl rfl) ?_
  refine .nil ?_
  refine ks_n ?_
  refine ACode.seq ?_
  refine ACode.region ?_
  refine .cons (.mv rfl rfl) ?_
  refine .cons (.li 3 0 7 [.const (.int .i64 (0)), .const (.int .i64 (1)), .const (.int .i64 (-1)), .const (.int .i64 (2)), .const (.int .i64 (0)), .const (.int .i64 (5)), .const (.int .i64 (-9)), .const (.int .i64 (99))] rfl rfl rfl rfl rfl rfl) ?_
  refine .cons (.cR [.tmp 7, .tmp 8] 0 rfl rfl rfl rfl (num_fn hb (by omega) [0, 1, -1, 2, 0, 5, -9, 99] (by simp)) rfl ⟨rfl, trivial⟩) ?_
  refine .cons (.cO [.tmp 9] [(101, 610)] rfl rfl rfl rfl (l1Const_own _) rfl trivial flatS.nil (flatS.nil.cons rfl) HB.nil.data outS_one) ?_
  refine .cons (.al 105 [.slice none 0 0, .int .i64 0] rfl rfl rfl) ?_
  refine .cons (.sT 2 true rfl rfl rfl rfl rfl rfl rfl) ?_
  refine .nil ?_
  refine ks_n ?_
  refine ACode.seq ?_
  refine ACode.seq ?_
  refine ACode.region ?_
  refine .cons (.asg rfl rfl) ?_
  refine .nil ?_
  refine ks_n ?_
  refine ACode.block ?_
  refine .loopK (fun m σ => (∃ (i : Nat) (cs : List Int) (q : Nat), m = d - i ∧ (i ≤ d) ∧ (cs.length = 4) ∧ (q + (d - i) ≤ p + 1 + d) ∧ (drE bs (d - i) i cs q = drE bs d 0 [0, 0, 0, 0] (p + 1)) ∧ σ = [(.t 0, .v (.o (.c (.box 0 2 0 0)))), (.t 1, .v (.o (nat1 (d : Nat)))), (.t 4, .v (.o (.c (.box 110 2 0 0)))), (.t 5, .v (.o (.c (.box 111 2 0 0)))), (.t 6, .v (.o (nat1 (i : Nat)))), (.b 0, .b 105 2 (dR ([rRd bs q]))), (.u 0, .u), (.b 110, .b 51 2 [[.d (.val (.slice none 0 0)), .d (dI 0)]]), (.u 110, .u), (.b 112, .b 3 1 (dR (cs.map rI))), (.u 112, .u), (.b 111, .b 51 2 [[.own 112 1 (4), .d (dI (numV bs p [0, 1, -1, 2, 0, 5, -9, 99]))]]), (.u 111, .u)])) [(0, 0), (110, 104), (111, 105), (112, 610)] ⟨0, [0, 0, 0, 0], p + 1, rfl, (by omega), rfl, (by omega), rfl, rfl⟩ ⟨ks rfl (.c .bx), ks rfl .dt, ks rfl (.c .bx), ks rfl (.c .bx), ks rfl .dt, kb 0 rfl (.dt rfl), kb 104 rfl (.cons (.cons .dt (.cons .dt Ctos.nil)) .nil), kb 610 rfl (.dt rfl (by first | rfl | exact dR_setI _ _ _ _)), kb 105 rfl (.cons (.cons .ow (.cons .dt Ctos.nil)) .nil), trivial⟩ ?_
  rintro m σ ⟨i, cs, q, hm0, hi, hc, hq, hE, rfl⟩
  refine ACode.seq ?_
  refine ACode.seq ?_
  refine ACode.region ?_
  refine .cons (.mv rfl rfl) ?_
  refine .cons (.mv rfl rfl) ?_
  refine .cons (.ls rfl rfl rfl) ?_
  refine .nil ?_
  refine ks_n ?_
  refine .cD rfl (fun h13 => ?_) (fun h13 => ?_)
  · skip
    refine ACode.skip ?_
    refine ks_n ?_
    refine ACode.seq ?_
    refine ACode.block ?_
    refine ACode.drawK (by kernel_rfl) (by kernel_rfl) ?_
    refine .cons (.fB 0 0 false rfl rfl rfl) ?_
    refine .cons (.b1 1 rfl rfl rfl rfl rfl rfl) ?_
    refine .cons (.mv rfl rfl) ?_
    refine .cons (.mv rfl rfl) ?_
    refine .cons (.li 3 0 6 [.const (.int .i64 (0)), .const (.int .i64 (1)), .const (.int .i64 (0)), .const (.int .i64 (-1)), .const (.int .i64 (2)), .const (.int .i64 (0)), .const (.int .i64 (9))] rfl rfl rfl rfl rfl rfl) ?_
    refine .cons (.cR [.tmp 19, .tmp 20] 0 rfl rfl rfl rfl (num_fn hb (by omega) [0, 1, 0, -1, 2, 0, 9] (by simp)) rfl ⟨rfl, trivial⟩) ?_
    refine .cons (.xB 3 1 8 rfl rfl rfl rfl rfl rfl (by omega)) ?_
    refine .cons (.sT 1 false rfl rfl rfl rfl (dR_at (map_at (getD_at (by omega)))) rfl rfl) ?_
    refine .nil ⟨by kernel_rfl, ?_⟩
    refine kb_n ?_
    refine ks_n ?_
    refine ACode.region ?_
    refine .cons (.mv rfl rfl) ?_
    refine .cons (.pl rfl rfl rfl) ?_
    refine .cons (.asg rfl rfl) ?_
    refine .nil ?_
    refine kl_k [(0, 0), (110, 110), (111, 111), (112, 112)] ⟨i + 1, cs.set i (numV bs q [0, 1, 0, -1, 2, 0, 9]), q + 1, rfl, by omega, by rw [List.length_set, hc], by omega, by rw [← hE, show d - i = (d - (i + 1)) + 1 by omega]; rfl, rfl⟩ ⟨ks rfl (.c .bx), ks rfl .dt, ks rfl (.c .bx), ks rfl (.c .bx), ks rfl .dt, kb 0 rfl (.dt rfl), kb 110 rfl (.cons (.cons .dt (.cons .dt Ctos.nil)) .nil), kb 112 rfl (.dt rfl (by first | rfl | exact dR_setI _ _ _ _)), kb 111 rfl (.cons (.cons .ow (.cons .dt Ctos.nil)) .nil), trivial⟩
  · skip
    obtain rfl : i = d := by omega
    rw [Nat.sub_self] at hE
    obtain ⟨r, hr⟩ : ∃ r, r = drD bs p i := ⟨_, rfl⟩
    rw [← hr]
    have hr2 : r = ((cs, numV bs p [0, 1, -1, 2, 0, 5, -9, 99]), q) := by rw [hr, drD, ← hE]; rfl
    subst hr2
    refine ACode.exit ?_
    refine ks_e ?_
    refine kl_e ?_
    refine kb_hit ?_
    refine ks_n ?_
    refine ACode.seq ?_
    refine ACode.region ?_
    refine .cons (.bN 2 rfl rfl rfl rfl rfl rfl) ?_
    refine .cons (.sT 2 true rfl rfl rfl rfl rfl rfl rfl) ?_
    refine .nil ?_
    refine ks_n ?_
    refine ACode.ret ?_
    refine kf_wret [(.t 4, .v (.o (.c (.box 100 2 0 0)))), (.b 0, .b 105 2 (dR ([rRd bs q]))), (.u 0, .u), (.b 100, .b 51 2 [[.d (dIs cs), .d (dI (numV bs p [0, 1, -1, 2, 0, 5, -9, 99]))]]), (.u 100, .u)] (Wk.keep [(0, 0), (100, 110)] rfl rfl ⟨ks rfl (.c .bx), kb 0 rfl (.dt rfl), kb 110 rfl (.cons (.cons (.fz rfl rfl (by rw [List.length_map, hc]) (by omega)) (.cons .dt Ctos.nil)) .nil), trivial⟩) rfl ?_ (hbR_box rfl)
    rfl

set_option maxRecDepth 100000 in
set_option maxHeartbeats 1600000 in
theorem l1Mutate_fn {bs : List Int} (hb : Bytes bs) {p : Nat} (hp : p ≤ 100000000) {x : Aff} (hx : x.1.length ≤ 1000) : Fn Try.prog 86 (hbR bs p) [vR, ad (rA x)] (.o (ad (rA (amD bs p x).1))) (hbR bs (amD bs p x).2) := by
  refine Fn.of_code Try.func86 rfl rfl (hbR_HB _ _) rfl rfl (hbR_HB _ _) rfl (hbR_num _ _ _) ?_
  refine ACode.seq ?_
  refine ACode.region ?_
  refine .cons (St1.boxP rfl rfl rfl rfl rfl rfl) ?_
  refine .cons (.al 104 [.slice none 0 0, .int .i64 0] rfl rfl rfl) ?_
  refine .nil ?_
  refine ks_n ?_
  refine ACode.seq ?_
  refine ACode.drawK (by kernel_rfl) (by kernel_rfl) ?_
  refine .cons (St1.lit0 (k' := 106) (e := 3) (sz := 1) (b := true) rfl rfl rfl rfl (by kernel_rfl) rfl rfl) ?_
  refine .cons (.fP 0 0 false rfl rfl) ?_
  refine .cons (.l1 1 rfl rfl) ?_
  refine .cons (St1.appB (k' := 109) (e := 3) (sz := 0) (by' := 8) rfl rfl rfl rfl rfl (by kernel_rfl) rfl rfl rfl rfl rfl (by simp; omega) rfl rfl rfl) ?_
  refine .cons (.fP 1 0 false rfl rfl) ?_
  refine .cons (.l1 1 rfl rfl) ?_
  refine .cons (.bu [(0, .tmp 9), (1, .tmp 11)] [(0, 1), (1, 1)] [.slice none 0 0, .int .i64 0] rfl rfl rfl rfl rfl) ?_
  refine .cons (.al 105 [.slice none 0 0, .int .i64 0] rfl rfl rfl) ?_
  refine .cons (.sT 2 true rfl rfl rfl rfl rfl rfl rfl) ?_
  refine .nil ⟨by kernel_rfl, ?_⟩
  refine ks_n ?_
  refine ACode.seq ?_
  refine ACode.seq ?_
  refine ACode.region ?_
  refine .cons (.mv rfl rfl) ?_
  refine .cons (.cR [.tmp 13, .const (.int .i64 (40))] 0 rfl rfl rfl rfl (pick_fn hb (by omega) 40) rfl ⟨rfl, trivial⟩) ?_
  refine .nil ?_
  refine ks_n ?_
  refine ACode.block ?_
  refine ACode.seq ?_
  refine ACode.region ?_
  refine .cons (.eq rfl rfl rfl) ?_
  refine .cons (.asg rfl rfl) ?_
  refine .nil ?_
  refine ks_n ?_
  refine .cD rfl (fun h15 => ?_) (fun h15 => ?_)
  · skip
    refine ACode.region ?_
    refine .cons (.mv rfl rfl) ?_
    refine .cons (.li 3 0 2 [.const (.int .i64 (100)), .const (.int .i64 (-100)), .const (.int .i64 (9223372036854775807))] rfl rfl rfl rfl rfl rfl) ?_
    refine .cons (.cR [.tmp 17, .tmp 18] 0 rfl rfl rfl rfl (num_fn hb (by omega) [100, -100, 9223372036854775807] (by simp)) rfl ⟨rfl, trivial⟩) ?_
    refine .cons (.fB 1 0 false rfl rfl rfl) ?_
    refine .cons (.sT 1 false rfl rfl rfl rfl rfl rfl rfl) ?_
    refine .nil ?_
    refine kb_n ?_
    refine ks_n ?_
    refine ACode.seq ?_
    refine ACode.region ?_
    refine .cons (.bN 2 rfl rfl rfl rfl rfl rfl) ?_
    refine .cons (.sT 2 true rfl rfl rfl rfl rfl rfl rfl) ?_
    refine .nil ?_
    refine ks_n ?_
    refine ACode.ret ?_
    obtain ⟨r, hr⟩ : ∃ r, r = amD bs p x := ⟨_, rfl⟩
    rw [← hr]
    unfold amD at hr
    first | rw [if_pos h15] at hr | rw [if_neg h15, if_pos h21] at hr | rw [if_neg h15, if_neg h21, if_pos h28, if_pos hpos] at hr | rw [if_neg h15, if_neg h21, if_pos h28, if_neg hpos] at hr | rw [if_neg h15, if_neg h21, if_neg h28, if_pos h40] at hr | rw [if_neg h15, if_neg h21, if_neg h28, if_neg h40] at hr
    refine kf_wret [(.t 4, .v (.o (.c (.box 100 2 0 0)))), (.b 0, .b 105 2 (dR ([rRd bs r.2]))), (.u 0, .u), (.b 100, .b 51 2 [[.d (dIs r.1.1), .d (dI r.1.2)]]), (.u 100, .u)] (Wk.keep [(0, 0), (100, 104)] rfl rfl ⟨ks rfl (.c .bx), kb 0 rfl (.dt rfl (by first | (rw [hr]; done) | (rw [hr]; rfl) | (rw [hr]; simp [dR]; done) | (rw [hr]; simp [dR]; rfl) | (rw [hr]; exact dR_setI _ _ _ _))), kb 104 rfl (.cons (.cons (.fz rfl (by first | (rw [hr]; done) | (rw [hr]; rfl) | (rw [hr]; simp [dR]; done) | (rw [hr]; simp [dR]; rfl) | (rw [hr]; exact dR_setI _ _ _ _)) (by first | (rw [hr]; simp; done) | (rw [hr]; rfl)) (by first | omega | (simp; omega) | (simp; done))) (.cons (.dt (by first | (rw [hr]; done) | (rw [hr]; rfl) | (rw [hr]; simp [dR]; done) | (rw [hr]; simp [dR]; rfl) | (rw [hr]; exact dR_setI _ _ _ _))) Ctos.nil)) .nil), trivial⟩) rfl ?_ (hbR_box rfl)
    rfl
  · skip
    refine ACode.seq ?_
    refine ACode.region ?_
    refine .cons (.eq rfl rfl rfl) ?_
    refine .cons (.asg rfl rfl) ?_
    refine .nil ?_
    refine ks_n ?_
    refine .cD rfl (fun h21 => ?_) (fun h21 => ?_)
    · skip
      refine ACode.region ?_
      refine .cons (.fB 0 0 false rfl rfl rfl) ?_
      refine .cons (.b1 1 rfl rfl rfl rfl rfl rfl) ?_
      refine .cons (.li 3 0 0 [.const (.int .i64 (0))] rfl rfl rfl rfl rfl rfl) ?_
      refine .cons (St1.appB (k' := 126) (e := 3) (sz := 0) (by' := 8) rfl rfl rfl rfl rfl (by kernel_rfl) rfl rfl rfl rfl (by simp) (by simp; omega) rfl rfl rfl) ?_
      refine .cons (.fB 0 0 false rfl rfl rfl) ?_
      refine .cons (.sT 1 false rfl rfl rfl rfl rfl rfl rfl) ?_
      refine .nil ?_
      refine kb_n ?_
      refine ks_n ?_
      refine ACode.seq ?_
      refine ACode.region ?_
      refine .cons (.bN 2 rfl rfl rfl rfl rfl rfl) ?_
      refine .cons (.sT 2 true rfl rfl rfl rfl rfl rfl rfl) ?_
      refine .nil ?_
      refine ks_n ?_
      refine ACode.ret ?_
      obtain ⟨r, hr⟩ : ∃ r, r = amD bs p x := ⟨_, rfl⟩
      rw [← hr]
      unfold amD at hr
      first | rw [if_pos h15] at hr | rw [if_neg h15, if_pos h21] at hr | rw [if_neg h15, if_neg h21, if_pos h28, if_pos hpos] at hr | rw [if_neg h15, if_neg h21, if_pos h28, if_neg hpos] at hr | rw [if_neg h15, if_neg h21, if_neg h28, if_pos h40] at hr | rw [if_neg h15, if_neg h21, if_neg h28, if_neg h40] at hr
      refine kf_wret [(.t 4, .v (.o (.c (.box 100 2 0 0)))), (.b 0, .b 105 2 (dR ([rRd bs r.2]))), (.u 0, .u), (.b 100, .b 51 2 [[.d (dIs r.1.1), .d (dI r.1.2)]]), (.u 100, .u)] (Wk.keep [(0, 0), (100, 104)] rfl rfl ⟨ks rfl (.c .bx), kb 0 rfl (.dt rfl (by first | (rw [hr]; done) | (rw [hr]; rfl) | (rw [hr]; simp [dR]; done) | (rw [hr]; simp [dR]; rfl) | (rw [hr]; exact dR_setI _ _ _ _))), kb 104 rfl (.cons (.cons (.fz rfl (by first | (rw [hr]; done) | (rw [hr]; rfl) | (rw [hr]; simp [dR]; done) | (rw [hr]; simp [dR]; rfl) | (rw [hr]; exact dR_setI _ _ _ _)) (by first | (rw [hr]; simp; done) | (rw [hr]; rfl)) (by first | omega | (simp; omega) | (simp; done))) (.cons (.dt (by first | (rw [hr]; done) | (rw [hr]; rfl) | (rw [hr]; simp [dR]; done) | (rw [hr]; simp [dR]; rfl) | (rw [hr]; exact dR_setI _ _ _ _))) Ctos.nil)) .nil), trivial⟩) rfl ?_ (hbR_box rfl)
      rfl
    · skip
      refine ACode.seq ?_
      refine ACode.region ?_
      refine .cons (.eq rfl rfl rfl) ?_
      refine .cons (.asg rfl rfl) ?_
      refine .nil ?_
      refine ks_n ?_
      refine .cD rfl (fun h28 => ?_) (fun h28 => ?_)
      · skip
        refine ACode.seq ?_
        refine ACode.region ?_
        refine .cons (.fB 0 0 false rfl rfl rfl) ?_
        refine .cons (.b1 1 rfl rfl rfl rfl rfl rfl) ?_
        refine .cons (.lB 3 1 8 rfl rfl rfl rfl) ?_
        refine .cons (.gt rfl rfl rfl) ?_
        refine .nil ?_
        refine ks_n ?_
        refine .cD rfl (fun h33 => ?_) (fun h33 => ?_)
        · skip
          have hpos : (0 : Int) < (x.1.length : Nat) := by simpa using h33
          refine ACode.drawK (by kernel_rfl) (by kernel_rfl) ?_
          refine .cons (.fB 0 0 false rfl rfl rfl) ?_
          refine .cons (.b1 1 rfl rfl rfl rfl rfl rfl) ?_
          refine .cons (.mv rfl rfl) ?_
          refine .cons (.li 3 0 2 [.const (.int .i64 (10)), .const (.int .i64 (-10)), .const (.int .i64 (-9223372036854775808))] rfl rfl rfl rfl rfl rfl) ?_
          refine .cons (.cR [.tmp 36, .tmp 37] 0 rfl rfl rfl rfl (num_fn hb (by omega) [10, -10, -9223372036854775808] (by simp)) rfl ⟨rfl, trivial⟩) ?_
          refine .cons (.xB 3 1 8 (i := 0) rfl rfl rfl rfl rfl rfl (by rw [List.length_map]; omega)) ?_
          refine .cons (.sT 1 false rfl rfl rfl rfl (dR_at (map_at (getD_at (by omega)))) rfl rfl) ?_
          refine .nil ⟨by kernel_rfl, ?_⟩
          refine kb_n ?_
          refine ks_n ?_
          refine ACode.seq ?_
          refine ACode.region ?_
          refine .cons (.bN 2 rfl rfl rfl rfl rfl rfl) ?_
          refine .cons (.sT 2 true rfl rfl rfl rfl rfl rfl rfl) ?_
          refine .nil ?_
          refine ks_n ?_
          refine ACode.ret ?_
          obtain ⟨r, hr⟩ : ∃ r, r = amD bs p x := ⟨_, rfl⟩
          rw [← hr]
          unfold amD at hr
          first | rw [if_pos h15] at hr | rw [if_neg h15, if_pos h21] at hr | rw [if_neg h15, if_neg h21, if_pos h28, if_pos hpos] at hr | rw [if_neg h15, if_neg h21, if_pos h28, if_neg hpos] at hr | rw [if_neg h15, if_neg h21, if_neg h28, if_pos h40] at hr | rw [if_neg h15, if_neg h21, if_neg h28, if_neg h40] at hr
          refine kf_wret [(.t 4, .v (.o (.c (.box 100 2 0 0)))), (.b 0, .b 105 2 (dR ([rRd bs r.2]))), (.u 0, .u), (.b 100, .b 51 2 [[.d (dIs r.1.1), .d (dI r.1.2)]]), (.u 100, .u)] (Wk.keep [(0, 0), (100, 104)] rfl rfl ⟨ks rfl (.c .bx), kb 0 rfl (.dt rfl (by first | (rw [hr]; done) | (rw [hr]; rfl) | (rw [hr]; simp [dR]; done) | (rw [hr]; simp [dR]; rfl) | (rw [hr]; exact dR_setI _ _ _ _))), kb 104 rfl (.cons (.cons (.fz rfl (by first | (rw [hr]; done) | (rw [hr]; rfl) | (rw [hr]; simp [dR]; done) | (rw [hr]; simp [dR]; rfl) | (rw [hr]; exact dR_setI _ _ _ _)) (by first | (rw [hr]; simp; done) | (rw [hr]; rfl)) (by first | omega | (simp; omega) | (simp; done))) (.cons (.dt (by first | (rw [hr]; done) | (rw [hr]; rfl) | (rw [hr]; simp [dR]; done) | (rw [hr]; simp [dR]; rfl) | (rw [hr]; exact dR_setI _ _ _ _))) Ctos.nil)) .nil), trivial⟩) rfl ?_ (hbR_box rfl)
          rfl
        · skip
          have hpos : ¬ (0 : Int) < (x.1.length : Nat) := by simpa using h33
          refine ACode.skip ?_
          refine kb_n ?_
          refine ks_n ?_
          refine ACode.seq ?_
          refine ACode.region ?_
          refine .cons (.bN 2 rfl rfl rfl rfl rfl rfl) ?_
          refine .cons (.sT 2 true rfl rfl rfl rfl rfl rfl rfl) ?_
          refine .nil ?_
          refine ks_n ?_
          refine ACode.ret ?_
          obtain ⟨r, hr⟩ : ∃ r, r = amD bs p x := ⟨_, rfl⟩
          rw [← hr]
          unfold amD at hr
          first | rw [if_pos h15] at hr | rw [if_neg h15, if_pos h21] at hr | rw [if_neg h15, if_neg h21, if_pos h28, if_pos hpos] at hr | rw [if_neg h15, if_neg h21, if_pos h28, if_neg hpos] at hr | rw [if_neg h15, if_neg h21, if_neg h28, if_pos h40] at hr | rw [if_neg h15, if_neg h21, if_neg h28, if_neg h40] at hr
          refine kf_wret [(.t 4, .v (.o (.c (.box 100 2 0 0)))), (.b 0, .b 105 2 (dR ([rRd bs r.2]))), (.u 0, .u), (.b 100, .b 51 2 [[.d (dIs r.1.1), .d (dI r.1.2)]]), (.u 100, .u)] (Wk.keep [(0, 0), (100, 104)] rfl rfl ⟨ks rfl (.c .bx), kb 0 rfl (.dt rfl (by first | (rw [hr]; done) | (rw [hr]; rfl) | (rw [hr]; simp [dR]; done) | (rw [hr]; simp [dR]; rfl) | (rw [hr]; exact dR_setI _ _ _ _))), kb 104 rfl (.cons (.cons (.fz rfl (by first | (rw [hr]; done) | (rw [hr]; rfl) | (rw [hr]; simp [dR]; done) | (rw [hr]; simp [dR]; rfl) | (rw [hr]; exact dR_setI _ _ _ _)) (by first | (rw [hr]; simp; done) | (rw [hr]; rfl)) (by first | omega | (simp; omega) | (simp; done))) (.cons (.dt (by first | (rw [hr]; done) | (rw [hr]; rfl) | (rw [hr]; simp [dR]; done) | (rw [hr]; simp [dR]; rfl) | (rw [hr]; exact dR_setI _ _ _ _))) Ctos.nil)) .nil), trivial⟩) rfl ?_ (hbR_box rfl)
          rfl
      · skip
        refine ACode.seq ?_
        refine ACode.region ?_
        refine .cons (.eq rfl rfl rfl) ?_
        refine .cons (.asg rfl rfl) ?_
        refine .nil ?_
        refine ks_n ?_
        refine .cD rfl (fun h40 => ?_) (fun h40 => ?_)
        · skip
          refine ACode.seq ?_
          refine ACode.region ?_
          refine .cons (.bu [] [(0, 1), (1, 1)] [.slice none 0 0, .int .i64 0] rfl rfl rfl rfl rfl) ?_
          refine .cons (.sT 2 true rfl rfl rfl rfl rfl rfl rfl) ?_
          refine .nil ?_
          refine ks_n ?_
          refine ACode.ret ?_
          refine kb_r ?_
          refine ks_r ?_
          obtain ⟨r, hr⟩ : ∃ r, r = amD bs p x := ⟨_, rfl⟩
          rw [← hr]
          unfold amD at hr
          first | rw [if_pos h15] at hr | rw [if_neg h15, if_pos h21] at hr | rw [if_neg h15, if_neg h21, if_pos h28, if_pos hpos] at hr | rw [if_neg h15, if_neg h21, if_pos h28, if_neg hpos] at hr | rw [if_neg h15, if_neg h21, if_neg h28, if_pos h40] at hr | rw [if_neg h15, if_neg h21, if_neg h28, if_neg h40] at hr
          refine kf_wret [(.t 4, .v (.o (.c (.box 100 2 0 0)))), (.b 0, .b 105 2 (dR ([rRd bs r.2]))), (.u 0, .u), (.b 100, .b 51 2 [[.d (dIs r.1.1), .d (dI r.1.2)]]), (.u 100, .u)] (Wk.keep [(0, 0), (100, 104)] rfl rfl ⟨ks rfl (.c .bx), kb 0 rfl (.dt rfl (by first | (rw [hr]; done) | (rw [hr]; rfl) | (rw [hr]; simp [dR]; done) | (rw [hr]; simp [dR]; rfl) | (rw [hr]; exact dR_setI _ _ _ _))), kb 104 rfl (.cons (.cons (Cto.nilE 1 (by rw [hr]; rfl)) (.cons (.dt (by first | (rw [hr]; done) | (rw [hr]; rfl) | (rw [hr]; simp [dR]; done) | (rw [hr]; simp [dR]; rfl) | (rw [hr]; exact dR_setI _ _ _ _))) Ctos.nil)) .nil), trivial⟩) rfl ?_ (hbR_box rfl)
          rfl
        · skip
          refine ACode.skip ?_
          refine kb_n ?_
          refine ks_n ?_
          refine ACode.seq ?_
          refine ACode.region ?_
          refine .cons (.bN 2 rfl rfl rfl rfl rfl rfl) ?_
          refine .cons (.sT 2 true rfl rfl rfl rfl rfl rfl rfl) ?_
          refine .nil ?_
          refine ks_n ?_
          refine ACode.ret ?_
          obtain ⟨r, hr⟩ : ∃ r, r = amD bs p x := ⟨_, rfl⟩
          rw [← hr]
          unfold amD at hr
          first | rw [if_pos h15] at hr | rw [if_neg h15, if_pos h21] at hr | rw [if_neg h15, if_neg h21, if_pos h28, if_pos hpos] at hr | rw [if_neg h15, if_neg h21, if_pos h28, if_neg hpos] at hr | rw [if_neg h15, if_neg h21, if_neg h28, if_pos h40] at hr | rw [if_neg h15, if_neg h21, if_neg h28, if_neg h40] at hr
          refine kf_wret [(.t 4, .v (.o (.c (.box 100 2 0 0)))), (.b 0, .b 105 2 (dR ([rRd bs r.2]))), (.u 0, .u), (.b 100, .b 51 2 [[.d (dIs r.1.1), .d (dI r.1.2)]]), (.u 100, .u)] (Wk.keep [(0, 0), (100, 104)] rfl rfl ⟨ks rfl (.c .bx), kb 0 rfl (.dt rfl (by first | (rw [hr]; done) | (rw [hr]; rfl) | (rw [hr]; simp [dR]; done) | (rw [hr]; simp [dR]; rfl) | (rw [hr]; exact dR_setI _ _ _ _))), kb 104 rfl (.cons (.cons (.fz rfl (by first | (rw [hr]; done) | (rw [hr]; rfl) | (rw [hr]; simp [dR]; done) | (rw [hr]; simp [dR]; rfl) | (rw [hr]; exact dR_setI _ _ _ _)) (by first | (rw [hr]; simp; done) | (rw [hr]; rfl)) (by first | omega | (simp; omega) | (simp; done))) (.cons (.dt (by first | (rw [hr]; done) | (rw [hr]; rfl) | (rw [hr]; simp [dR]; done) | (rw [hr]; simp [dR]; rfl) | (rw [hr]; exact dR_setI _ _ _ _))) Ctos.nil)) .nil), trivial⟩) rfl ?_ (hbR_box rfl)
          rfl

end Go.Proofs.Ytgcpdpbapgkdjaa

/- Law FnSubscriptRange; condition: bytes. -/
namespace Go.Proofs.Ytgcpdpbapgkdjaa
set_option linter.unusedVariables false
set_option linter.unusedSimpArgs false
open Go.RowKit

theorem l1DrawI_fn {bs : List Int} (hb : Bytes bs) {p : Nat} (hp : p ≤ 100000000) {z : Int} (hz : 0 ≤ z ∧ z ≤ 4) : Fn Try.prog 87 (hbR bs p) [vR, nat1 z] (.o (ad (rA (drD bs p z.toNat).1))) (hbR bs (drD bs p z.toNat).2) := by
  have h : z = (z.toNat : Int) := by omega
  have := l1Draw_fn hb hp z.toNat (by omega)
  rwa [← h] at this
theorem srV_ok {ns : List Lp} {a : Aff} (h : (srV ns a).2.2 = true) : okP ns = true ∧ (npR ns).length ≠ 0 ∧ affV a = true ∧ srV ns a = (loQ a (npR ns), hiQ a (npR ns), true) := by
  rw [srV] at h ⊢
  split at h
  · rename_i hc
    exact ⟨hc.1, hc.2.1, hc.2.2.1, if_pos hc⟩
  · cases h
theorem any_drop {α : Type} {p : α → Bool} {l : List α} {i : Nat} {x : α} (h : l[i]? = some x) : (l.drop i).any p = (p x || (l.drop (i + 1)).any p) := by rw [drop_at h]; rfl

set_option maxRecDepth 100000 in
set_option maxHeartbeats 1600000 in
theorem drawSR_core {bs : List Int} (hb : Bytes (bs.take 2000)) {ms : List Lp} {q2 : Nat} (hq2 : q2 ≤ 1000) (hF : Fn Try.prog 46 (hbR (bs.take 2000) (nestD (bs.take 2000) 0).2) [vR, vD (dLs (nestD (bs.take 2000) 0).1)] (.o (vD (dLs ms))) (hbR (bs.take 2000) q2)) {x : Aff} (hx : x.1.length ≤ 1000) {q3 : Nat} (hq3 : q3 ≤ 10000) (hG : Fn Try.prog 87 (hbR (bs.take 2000) (q2 + 1)) [vR, nat1 (pickV (bs.take 2000) q2 3)] (.o (ad (rA x))) (hbR (bs.take 2000) q3)) : Fn Try.prog 40 [] [vD (dYs bs)] (.tup [vD (dLs ms), ad (rA (amD (bs.take 2000) q3 x).1)]) [] := by
  refine Fn.code0 Try.func40 rfl rfl rfl rfl ?_
  refine ACode.seq ?_
  refine ACode.region ?_
  refine .cons (.asg rfl rfl) ?_
  refine .cons (.al 103 [.slice none 0 0, .int .i64 0] rfl rfl rfl) ?_
  refine .nil ?_
  refine ks_n ?_
  refine ACode.seq ?_
  refine ACode.region ?_
  refine .cons (.mv rfl rfl) ?_
  refine .cons (.cO [.tmp 6] [(100, 107)] rfl rfl rfl rfl (l16Open_fn bs) rfl trivial flatS.nil (flatS.nil.cons rfl) HB.nil.data outS_one) ?_
  refine .cons (.asg rfl rfl) ?_
  refine .nil ?_
  refine ks_n ?_
  refine ACode.seq ?_
  refine ACode.region ?_
  refine .cons (.mv rfl rfl) ?_
  refine .cons (.mv rfl rfl) ?_
  refine .cons (.cR [.tmp 9] 107 rfl rfl rfl rfl (l2Nest_own hb (by omega)) rfl ⟨rfl, trivial⟩) ?_
  refine .cons (.cR [.tmp 8, .tmp 10] 107 rfl rfl rfl rfl (hF) rfl ⟨rfl, trivial⟩) ?_
  refine .cons (.asg rfl rfl) ?_
  refine .nil ?_
  refine ks_n ?_
  refine ACode.seq ?_
  refine ACode.region ?_
  refine .cons (.mv rfl rfl) ?_
  refine .cons (.mv rfl rfl) ?_
  refine .cons (.mv rfl rfl) ?_
  refine .cons (.mv rfl rfl) ?_
  refine .cons (.cR [.tmp 15, .const (.int .i64 (3))] 107 rfl rfl rfl rfl (pick_fn hb (by omega) 3) rfl ⟨rfl, trivial⟩) ?_
  refine .cons (.cR [.tmp 14, .tmp 16] 107 rfl rfl rfl rfl (hG) rfl ⟨rfl, trivial⟩) ?_
  refine .cons (.cR [.tmp 13, .tmp 17] 107 rfl rfl rfl rfl (l1Mutate_fn hb (by omega) hx) rfl ⟨rfl, trivial⟩) ?_
  refine .cons (.asg rfl rfl) ?_
  refine .cons (.sT 2 true rfl rfl rfl rfl rfl rfl rfl) ?_
  refine .nil ?_
  refine ks_n ?_
  refine ACode.ret ?_
  refine kf_ret rfl ?_ nobox
  rfl

theorem drawSR_fn {bs : List Int} (hb : Bytes (bs.take 2000)) : ∃ ns x, okN 8 ns ∧ (ns.length ≤ 3 ∨ 4 < ns.length) ∧ x.1.length ≤ 5 ∧ Fn Try.prog 40 [] [vD (dYs bs)] (.tup [vD (dLs ns), ad (rA x)]) [] := by
  obtain ⟨h1, h2⟩ := nestD_ok hb (p := 0) (by omega)
  obtain ⟨ms, q, h3, h4, h5, h6⟩ := l2Mutate_fn hb (p := (nestD (bs.take 2000) 0).2) (by omega) h1 (by omega)
  have h7 := h1.1
  have hk := pickV_bd hb (show q ≤ 1099511627776 by omega) 3
  have hk1 := hk.1
  have hk2 := hk.2 (by omega)
  obtain ⟨e1, e2⟩ := drE_len (bs.take 2000) (pickV (bs.take 2000) q 3).toNat 0 [0, 0, 0, 0] (q + 1 + 1)
  have e3 : (drD (bs.take 2000) (q + 1) (pickV (bs.take 2000) q 3).toNat).1.1.length = 4 := e1
  have e4 : (drD (bs.take 2000) (q + 1) (pickV (bs.take 2000) q 3).toNat).2 = q + 1 + 1 + (pickV (bs.take 2000) q 3).toNat := e2
  have e5 := (amD_len (bs.take 2000) (drD (bs.take 2000) (q + 1) (pickV (bs.take 2000) q 3).toNat).2 (drD (bs.take 2000) (q + 1) (pickV (bs.take 2000) q 3).toNat).1).1
  exact ⟨ms, _, h3, by omega, by omega, drawSR_core hb (by omega) h6 (by omega) (by omega) (l1DrawI_fn hb (by omega) (by omega))⟩

set_option maxRecDepth 100000 in
set_option maxHeartbeats 1600000 in
theorem subRange_core {bs : List Int} (hl : bs.length ≤ 1048576) {ns : List Lp} (hs : smN ns) (h3 : ns.length ≤ 3 ∨ 4 < ns.length) {a : Aff} (hD : Fn Try.prog 40 [] [vD (dYs bs)] (.tup [vD (dLs ns), ad (rA a)]) []) : Fn Try.prog 11 [] [vD (dYs bs)] (.o (bo1 true)) [] := by
  have hn := npR_len ns
  refine Fn.code0 Try.func11 rfl rfl rfl rfl ?_
  refine ACode.seq ?_
  refine ACode.region ?_
  refine .cons (.asg rfl rfl) ?_
  refine .nil ?_
  refine ks_n ?_
  refine ACode.seq ?_
  refine ACode.seq ?_
  refine ACode.region ?_
  refine .cons (.mv rfl rfl) ?_
  refine .cons (.ln 5 1 1 rfl rfl rfl) ?_
  refine .cons (.gt rfl rfl rfl) ?_
  refine .nil ?_
  refine ks_n ?_
  refine .cD rfl (fun h19 => ?_) (fun h19 => ?_)
  · skip
    omega
  · skip
    refine ACode.skip ?_
    refine ks_n ?_
    refine ACode.seq ?_
    refine ACode.region ?_
    refine .cons (.mv rfl rfl) ?_
    refine .cons (.cP [.tmp 21] rfl rfl rfl rfl (hD) rfl) ?_
    refine .cons (.mv rfl rfl) ?_
    refine .cons (.ex rfl rfl rfl) ?_
    refine .cons (.ex rfl rfl rfl) ?_
    refine .cons (.al 104 [.slice none 0 0, .int .i64 0] rfl rfl rfl) ?_
    refine .cons (.asg rfl rfl) ?_
    refine .cons (.sT 2 true rfl rfl rfl rfl rfl rfl rfl) ?_
    refine .nil ?_
    refine ks_n ?_
    refine ACode.seq ?_
    refine ACode.region ?_
    refine .cons (.mv rfl rfl) ?_
    refine .cons (.bN 2 rfl rfl rfl rfl rfl rfl) ?_
    refine .cons (.cP [.tmp 26, .tmp 27] rfl rfl rfl rfl (implSR_fn ns hs a) rfl) ?_
    refine .cons (.mv rfl rfl) ?_
    refine .cons (.ex rfl rfl rfl) ?_
    refine .cons (.ex rfl rfl rfl) ?_
    refine .cons (.ex rfl rfl rfl) ?_
    refine .cons (.asg rfl rfl) ?_
    refine .cons (.asg rfl rfl) ?_
    refine .cons (.asg rfl rfl) ?_
    refine .nil ?_
    refine ks_n ?_
    refine ACode.seq ?_
    refine ACode.region ?_
    refine .cons (.mv rfl rfl) ?_
    refine .cons (.bN 2 rfl rfl rfl rfl rfl rfl) ?_
    refine .cons (.cP [.tmp 33, .tmp 34] rfl rfl rfl rfl (specSR_fn ns hs a) rfl) ?_
    refine .cons (.mv rfl rfl) ?_
    refine .cons (.ex rfl rfl rfl) ?_
    refine .cons (.ex rfl rfl rfl) ?_
    refine .cons (.ex rfl rfl rfl) ?_
    refine .cons (.asg rfl rfl) ?_
    refine .cons (.asg rfl rfl) ?_
    refine .cons (.asg rfl rfl) ?_
    refine .nil ?_
    refine ks_n ?_
    refine ACode.seq ?_
    refine ACode.seq ?_
    refine ACode.region ?_
    refine .cons (.mv rfl rfl) ?_
    refine .cons (.mv rfl rfl) ?_
    refine .cons (St1.neqB rfl rfl rfl rfl (by kernel_rfl) rfl rfl) ?_
    refine .cons (.mv rfl rfl) ?_
    refine AOps.cases 42 _ rfl (fun g42 => ?_) (fun g42 => ?_)
    · try simp only [List.length_map, decide_eq_true_eq, decide_eq_false_iff_not, Bool.not_eq_true', Bool.not_eq_false', Bool.not_eq_true, Bool.not_eq_false] at g42
      rw [beq_self_eq_true] at g42; cases g42
    · try simp only [List.length_map, decide_eq_true_eq, decide_eq_false_iff_not, Bool.not_eq_true', Bool.not_eq_false', Bool.not_eq_true, Bool.not_eq_false] at g42
      refine .cons (.gT rfl rfl rfl (.mv rfl rfl)) ?_
      refine .cons (.gT rfl rfl rfl (.mv rfl rfl)) ?_
      refine .cons (.gT rfl rfl rfl (.ne rfl rfl rfl)) ?_
      refine .cons (.pF rfl rfl rfl) ?_
      refine .cons (.mv rfl rfl) ?_
      refine AOps.cases 47 _ rfl (fun g47 => ?_) (fun g47 => ?_)
      · try simp only [List.length_map, decide_eq_true_eq, decide_eq_false_iff_not, Bool.not_eq_true', Bool.not_eq_false', Bool.not_eq_true, Bool.not_eq_false] at g47
        first | exact absurd trivial g47 | exact absurd rfl g47
      · try simp only [List.length_map, decide_eq_true_eq, decide_eq_false_iff_not, Bool.not_eq_true', Bool.not_eq_false', Bool.not_eq_true, Bool.not_eq_false] at g47
        refine .cons (.gT rfl rfl rfl (.mv rfl rfl)) ?_
        refine .cons (.gT rfl rfl rfl (.mv rfl rfl)) ?_
        refine .cons (.gT rfl rfl rfl (.ne rfl rfl rfl)) ?_
        refine .cons (.pF rfl rfl rfl) ?_
        refine .cons (.mv rfl rfl) ?_
        refine AOps.cases 52 _ rfl (fun g52 => ?_) (fun g52 => ?_)
        · try simp only [List.length_map, decide_eq_true_eq, decide_eq_false_iff_not, Bool.not_eq_true', Bool.not_eq_false', Bool.not_eq_true, Bool.not_eq_false] at g52
          first | exact absurd trivial g52 | exact absurd rfl g52
        · try simp only [List.length_map, decide_eq_true_eq, decide_eq_false_iff_not, Bool.not_eq_true', Bool.not_eq_false', Bool.not_eq_true, Bool.not_eq_false] at g52
          refine .cons (.gT rfl rfl rfl (.mv rfl rfl)) ?_
          refine .cons (.gT rfl rfl rfl (.nt rfl rfl)) ?_
          refine .cons (.pF rfl rfl rfl) ?_
          refine .nil ?_
          refine ks_n ?_
          refine ACode.condT rfl (fun h55 => ?_) (fun h55 => ?_)
          · try simp only [List.length_map, decide_eq_true_eq, decide_eq_false_iff_not, Bool.not_eq_true', Bool.not_eq_false', Bool.not_eq_true, Bool.not_eq_false] at h55
            refine ACode.seq ?_
            refine ACode.region ?_
            refine .cons (.mv rfl rfl) ?_
            refine .cons (.mv rfl rfl) ?_
            refine .cons (St1.eqlB rfl rfl rfl rfl (by kernel_rfl) rfl rfl) ?_
            refine .cons (.mv rfl rfl) ?_
            refine AOps.cases 59 _ rfl (fun g59 => ?_) (fun g59 => ?_)
            · try simp only [List.length_map, decide_eq_true_eq, decide_eq_false_iff_not, Bool.not_eq_true', Bool.not_eq_false', Bool.not_eq_true, Bool.not_eq_false] at g59
              refine .cons (.gT rfl rfl rfl (.mv rfl rfl)) ?_
              refine .cons (.gT rfl rfl rfl (.mv rfl rfl)) ?_
              refine .cons (.gT rfl rfl rfl (.eq rfl rfl rfl)) ?_
              refine .cons (.pT rfl rfl rfl) ?_
              refine .cons (.mv rfl rfl) ?_
              refine AOps.cases 64 _ rfl (fun g64 => ?_) (fun g64 => ?_)
              · try simp only [List.length_map, decide_eq_true_eq, decide_eq_false_iff_not, Bool.not_eq_true', Bool.not_eq_false', Bool.not_eq_true, Bool.not_eq_false] at g64
                refine .cons (.gT rfl rfl rfl (.mv rfl rfl)) ?_
                refine .cons (.gT rfl rfl rfl (.mv rfl rfl)) ?_
                refine .cons (.gT rfl rfl rfl (.eq rfl rfl rfl)) ?_
                refine .cons (.pT rfl rfl rfl) ?_
                refine .cons (.asg rfl rfl) ?_
                refine .nil ?_
                refine ks_n ?_
                refine ACode.ret ?_
                refine ks_r ?_
                refine kf_ret rfl ?_ nobox
                first | rfl | exact leafB (beq_self_eq_true _) | exact leafB (by simp)
              · try simp only [List.length_map, decide_eq_true_eq, decide_eq_false_iff_not, Bool.not_eq_true', Bool.not_eq_false', Bool.not_eq_true, Bool.not_eq_false] at g64
                first | exact absurd trivial g64 | exact absurd rfl g64
            · try simp only [List.length_map, decide_eq_true_eq, decide_eq_false_iff_not, Bool.not_eq_true', Bool.not_eq_false', Bool.not_eq_true, Bool.not_eq_false] at g59
              rw [beq_self_eq_true] at g59; cases g59
          · try simp only [List.length_map, decide_eq_true_eq, decide_eq_false_iff_not, Bool.not_eq_true', Bool.not_eq_false', Bool.not_eq_true, Bool.not_eq_false] at h55
            obtain ⟨ho, hne, ha, e⟩ := srV_ok h55
            have hv := (okP_iff.1 ho).1
            have hn3 := nsV3 hv h3
            refine ACode.skip ?_
            refine ks_n ?_
            refine ACode.seq ?_
            refine ACode.region ?_
            refine .cons (.mv rfl rfl) ?_
            refine .cons (.cP [.tmp 70] rfl rfl rfl rfl (implNestPts_fn ns hs) rfl) ?_
            refine .cons (.mv rfl rfl) ?_
            refine .cons (.ex rfl rfl rfl) ?_
            refine .cons (.ex rfl rfl rfl) ?_
            refine .cons (.asg rfl rfl) ?_
            refine .cons (.asg rfl rfl) ?_
            refine .nil ?_
            refine ks_n ?_
            refine ACode.seq ?_
            refine ACode.region ?_
            refine .cons (.asg rfl rfl) ?_
            refine .nil ?_
            refine ks_n ?_
            refine ACode.seq ?_
            refine ACode.region ?_
            refine .cons (.asg rfl rfl) ?_
            refine .nil ?_
            refine ks_n ?_
            refine ACode.seq ?_
            refine ACode.seq ?_
            refine ACode.region ?_
            refine .cons (.asg rfl rfl) ?_
            refine .nil ?_
            refine ks_n ?_
            refine ACode.block ?_
            refine .loopK (fun m σ => (∃ (i : Nat) (b1 b2 : Bool), m = (npR ns).length - i ∧ (i ≤ (npR ns).length) ∧ ((npR ns).any (fun x => decide (affEval a x = loQ a (npR ns))) = (b1 || ((npR ns).drop i).any (fun x => decide (affEval a x = loQ a (npR ns))))) ∧ ((npR ns).any (fun x => decide (affEval a x = hiQ a (npR ns))) = (b2 || ((npR ns).drop i).any (fun x => decide (affEval a x = hiQ a (npR ns))))) ∧ σ = [(.t 4, .v (.o (.c (.box 110 2 0 0)))), (.t 5, .v (.o (nat1 (loQ a (npR ns))))), (.t 6, .v (.o (nat1 (hiQ a (npR ns))))), (.t 11, .v (.o (vD (dPs (npR ns))))), (.t 13, .v (.o (bo1 b1))), (.t 14, .v (.o (bo1 b2))), (.t 15, .v (.o (nat1 (i : Nat)))), (.b 110, .b 51 2 [[.d (dIs a.1), .d (dI a.2)]]), (.u 110, .u)])) [(110, 104)] ⟨0, false, false, rfl, (by omega), (by simp), (by simp), rfl⟩ ⟨ks rfl (.c .bx), ks rfl (.dt (by first | rfl | rw [e])), ks rfl (.dt (by first | rfl | rw [e])), ks rfl .dt, ks rfl (.dt (congrArg (fun z9 => V.o (bo1 z9)) (by first | rfl | simp [g95]))), ks rfl (.dt (congrArg (fun z9 => V.o (bo1 z9)) (by first | rfl | simp [g101]))), ks rfl .dt, kb 104 rfl (.cons (.cons .dt (.cons .dt Ctos.nil)) .nil), trivial⟩ ?_
            rintro m σ ⟨i, b1, b2, hm0, hi, hF1, hF2, rfl⟩
            refine ACode.seq ?_
            refine ACode.seq ?_
            refine ACode.region ?_
            refine .cons (.mv rfl rfl) ?_
            refine .cons (.mv rfl rfl) ?_
            refine .cons (.ln 28 1 24 rfl rfl rfl) ?_
            refine .cons (.ls rfl rfl rfl) ?_
            refine .nil ?_
            refine ks_n ?_
            refine .cD rfl (fun h77 => ?_) (fun h77 => ?_)
            · skip
              obtain ⟨x, hx1⟩ : ∃ x, (npR ns)[i]? = some x := ⟨_, List.getElem?_eq_getElem (by omega)⟩
              obtain ⟨_, hxp, hxl⟩ := npR_mem (List.mem_of_getElem? hx1)
              have hpt := isPt_of hv hn3 hxl (mem_pts.1 hxp).2
              have cev := evalAff_fn a x
              rw [if_pos ⟨ha, hpt⟩] at cev
              refine ACode.skip ?_
              refine ks_n ?_
              refine ACode.seq ?_
              refine ACode.block ?_
              refine ACode.seq ?_
              refine ACode.drawK (by kernel_rfl) (by kernel_rfl) ?_
              refine .cons (.bN 2 rfl rfl rfl rfl rfl rfl) ?_
              refine .cons (.mv rfl rfl) ?_
              refine .cons (.mv rfl rfl) ?_
              refine .cons (.xL 28 1 24 rfl rfl rfl rfl rfl) ?_
              refine .cons (.l1 1 rfl rfl) ?_
              refine .cons (.cP [.tmp 80, .tmp 84] rfl rfl rfl rfl (cev) rfl) ?_
              refine .cons (.asg rfl rfl) ?_
              refine .nil ⟨by kernel_rfl, ?_⟩
              refine ks_n ?_
              refine ACode.seq ?_
              refine ACode.seq ?_
              refine ACode.region ?_
              refine .cons (.mv rfl rfl) ?_
              refine .cons (.mv rfl rfl) ?_
              refine .cons (.ls rfl rfl rfl) ?_
              refine .cons (.mv rfl rfl) ?_
              refine .cD 89 rfl (fun g89 => ?_) (fun g89 => ?_)
              · skip
                have := loQ_le (a := a) x (List.mem_of_getElem? hx1); omega
              · skip
                refine .cons (.gT rfl rfl rfl (.mv rfl rfl)) ?_
                refine .cons (.gT rfl rfl rfl (.mv rfl rfl)) ?_
                refine .cons (.gT rfl rfl rfl (.gt rfl rfl rfl)) ?_
                refine .cons (.pF rfl rfl rfl) ?_
                refine .nil ?_
                refine ks_n ?_
                refine ACode.condT rfl (fun h93 => ?_) (fun h93 => ?_)
                · try simp only [List.length_map, decide_eq_true_eq, decide_eq_false_iff_not, Bool.not_eq_true', Bool.not_eq_false', Bool.not_eq_true, Bool.not_eq_false] at h93
                  have := hiQ_ge (a := a) x (List.mem_of_getElem? hx1); omega
                · try simp only [List.length_map, decide_eq_true_eq, decide_eq_false_iff_not, Bool.not_eq_true', Bool.not_eq_false', Bool.not_eq_true, Bool.not_eq_false] at h93
                  refine ACode.skip ?_
                  refine ks_n ?_
                  refine ACode.seq ?_
                  refine ACode.region ?_
                  refine .cons (.mv rfl rfl) ?_
                  refine .cons (.mv rfl rfl) ?_
                  refine AOps.cases 95 _ rfl (fun g95 => ?_) (fun g95 => ?_)
                  · try simp only [List.length_map, decide_eq_true_eq, decide_eq_false_iff_not, Bool.not_eq_true', Bool.not_eq_false', Bool.not_eq_true, Bool.not_eq_false] at g95
                    refine .cons (.gF rfl rfl rfl) ?_
                    refine .cons (.gF rfl rfl rfl) ?_
                    refine .cons (.gF rfl rfl rfl) ?_
                    refine .cons (.pT rfl rfl rfl) ?_
                    refine .cons (.asg rfl rfl) ?_
                    refine .nil ?_
                    refine ks_n ?_
                    refine ACode.region ?_
                    refine .cons (.mv rfl rfl) ?_
                    refine .cons (.mv rfl rfl) ?_
                    refine AOps.cases 101 _ rfl (fun g101 => ?_) (fun g101 => ?_)
                    · try simp only [List.length_map, decide_eq_true_eq, decide_eq_false_iff_not, Bool.not_eq_true', Bool.not_eq_false', Bool.not_eq_true, Bool.not_eq_false] at g101
                      refine .cons (.gF rfl rfl rfl) ?_
                      refine .cons (.gF rfl rfl rfl) ?_
                      refine .cons (.gF rfl rfl rfl) ?_
                      refine .cons (.pT rfl rfl rfl) ?_
                      refine .cons (.asg rfl rfl) ?_
                      refine .nil ?_
                      refine kb_n ?_
                      refine ks_n ?_
                      refine ACode.region ?_
                      refine .cons (.mv rfl rfl) ?_
                      refine .cons (.pl rfl rfl rfl) ?_
                      refine .cons (.asg rfl rfl) ?_
                      refine .nil ?_
                      refine kl_k [(110, 110)] ⟨i + 1, (b1 || decide (affEval a x = loQ a (npR ns))), (b2 || decide (affEval a x = hiQ a (npR ns))), rfl, by omega, by rw [hF1, any_drop hx1, Bool.or_assoc], by rw [hF2, any_drop hx1, Bool.or_assoc], rfl⟩ ⟨ks rfl (.c .bx), ks rfl (.dt (by first | rfl | rw [e])), ks rfl (.dt (by first | rfl | rw [e])), ks rfl .dt, ks rfl (.dt (congrArg (fun z9 => V.o (bo1 z9)) (by first | rfl | simp [g95]))), ks rfl (.dt (congrArg (fun z9 => V.o (bo1 z9)) (by first | rfl | simp [g101]))), ks rfl .dt, kb 110 rfl (.cons (.cons .dt (.cons .dt Ctos.nil)) .nil), trivial⟩
                    · try simp only [List.length_map, decide_eq_true_eq, decide_eq_false_iff_not, Bool.not_eq_true', Bool.not_eq_false', Bool.not_eq_true, Bool.not_eq_false] at g101
                      refine .cons (.gT rfl rfl rfl (.mv rfl rfl)) ?_
                      refine .cons (.gT rfl rfl rfl (.mv rfl rfl)) ?_
                      refine .cons (.gT rfl rfl rfl (.eq rfl rfl rfl)) ?_
                      refine .cons (.pF rfl rfl rfl) ?_
                      refine .cons (.asg rfl rfl) ?_
                      refine .nil ?_
                      refine kb_n ?_
                      refine ks_n ?_
                      refine ACode.region ?_
                      refine .cons (.mv rfl rfl) ?_
                      refine .cons (.pl rfl rfl rfl) ?_
                      refine .cons (.asg rfl rfl) ?_
                      refine .nil ?_
                      refine kl_k [(110, 110)] ⟨i + 1, (b1 || decide (affEval a x = loQ a (npR ns))), (b2 || decide (affEval a x = hiQ a (npR ns))), rfl, by omega, by rw [hF1, any_drop hx1, Bool.or_assoc], by rw [hF2, any_drop hx1, Bool.or_assoc], rfl⟩ ⟨ks rfl (.c .bx), ks rfl (.dt (by first | rfl | rw [e])), ks rfl (.dt (by first | rfl | rw [e])), ks rfl .dt, ks rfl (.dt (congrArg (fun z9 => V.o (bo1 z9)) (by first | rfl | simp [g95]))), ks rfl (.dt (congrArg (fun z9 => V.o (bo1 z9)) (by first | rfl | simp [g101]))), ks rfl .dt, kb 110 rfl (.cons (.cons .dt (.cons .dt Ctos.nil)) .nil), trivial⟩
                  · try simp only [List.length_map, decide_eq_true_eq, decide_eq_false_iff_not, Bool.not_eq_true', Bool.not_eq_false', Bool.not_eq_true, Bool.not_eq_false] at g95
                    refine .cons (.gT rfl rfl rfl (.mv rfl rfl)) ?_
                    refine .cons (.gT rfl rfl rfl (.mv rfl rfl)) ?_
                    refine .cons (.gT rfl rfl rfl (.eq rfl rfl rfl)) ?_
                    refine .cons (.pF rfl rfl rfl) ?_
                    refine .cons (.asg rfl rfl) ?_
                    refine .nil ?_
                    refine ks_n ?_
                    refine ACode.region ?_
                    refine .cons (.mv rfl rfl) ?_
                    refine .cons (.mv rfl rfl) ?_
                    refine AOps.cases 101 _ rfl (fun g101 => ?_) (fun g101 => ?_)
                    · try simp only [List.length_map, decide_eq_true_eq, decide_eq_false_iff_not, Bool.not_eq_true', Bool.not_eq_false', Bool.not_eq_true, Bool.not_eq_false] at g101
                      refine .cons (.gF rfl rfl rfl) ?_
                      refine .cons (.gF rfl rfl rfl) ?_
                      refine .cons (.gF rfl rfl rfl) ?_
                      refine .cons (.pT rfl rfl rfl) ?_
                      refine .cons (.asg rfl rfl) ?_
                      refine .nil ?_
                      refine kb_n ?_
                      refine ks_n ?_
                      refine ACode.region ?_
                      refine .cons (.mv rfl rfl) ?_
                      refine .cons (.pl rfl rfl rfl) ?_
                      refine .cons (.asg rfl rfl) ?_
                      refine .nil ?_
                      refine kl_k [(110, 110)] ⟨i + 1, (b1 || decide (affEval a x = loQ a (npR ns))), (b2 || decide (affEval a x = hiQ a (npR ns))), rfl, by omega, by rw [hF1, any_drop hx1, Bool.or_assoc], by rw [hF2, any_drop hx1, Bool.or_assoc], rfl⟩ ⟨ks rfl (.c .bx), ks rfl (.dt (by first | rfl | rw [e])), ks rfl (.dt (by first | rfl | rw [e])), ks rfl .dt, ks rfl (.dt (congrArg (fun z9 => V.o (bo1 z9)) (by first | rfl | simp [g95]))), ks rfl (.dt (congrArg (fun z9 => V.o (bo1 z9)) (by first | rfl | simp [g101]))), ks rfl .dt, kb 110 rfl (.cons (.cons .dt (.cons .dt Ctos.nil)) .nil), trivial⟩
                    · try simp only [List.length_map, decide_eq_true_eq, decide_eq_false_iff_not, Bool.not_eq_true', Bool.not_eq_false', Bool.not_eq_true, Bool.not_eq_false] at g101
                      refine .cons (.gT rfl rfl rfl (.mv rfl rfl)) ?_
                      refine .cons (.gT rfl rfl rfl (.mv rfl rfl)) ?_
                      refine .cons (.gT rfl rfl rfl (.eq rfl rfl rfl)) ?_
                      refine .cons (.pF rfl rfl rfl) ?_
                      refine .cons (.asg rfl rfl) ?_
                      refine .nil ?_
                      refine kb_n ?_
                      refine ks_n ?_
                      refine ACode.region ?_
                      refine .cons (.mv rfl rfl) ?_
                      refine .cons (.pl rfl rfl rfl) ?_
                      refine .cons (.asg rfl rfl) ?_
                      refine .nil ?_
                      refine kl_k [(110, 110)] ⟨i + 1, (b1 || decide (affEval a x = loQ a (npR ns))), (b2 || decide (affEval a x = hiQ a (npR ns))), rfl, by omega, by rw [hF1, any_drop hx1, Bool.or_assoc], by rw [hF2, any_drop hx1, Bool.or_assoc], rfl⟩ ⟨ks rfl (.c .bx), ks rfl (.dt (by first | rfl | rw [e])), ks rfl (.dt (by first | rfl | rw [e])), ks rfl .dt, ks rfl (.dt (congrArg (fun z9 => V.o (bo1 z9)) (by first | rfl | simp [g95]))), ks rfl (.dt (congrArg (fun z9 => V.o (bo1 z9)) (by first | rfl | simp [g101]))), ks rfl .dt, kb 110 rfl (.cons (.cons .dt (.cons .dt Ctos.nil)) .nil), trivial⟩
            · skip
              have hb1 : b1 = true := by have h := hF1; rw [List.drop_of_length_le (by omega)] at h; obtain ⟨x, hx, hx2⟩ := loQ_is (a := a) (o := npR ns) (fun h0 => by rw [h0] at hne; exact hne rfl); rw [show (npR ns).any (fun x => decide (affEval a x = loQ a (npR ns))) = true from List.any_eq_true.2 ⟨x, hx, decide_eq_true hx2⟩] at h; simpa using h.symm
              have hb2 : b2 = true := by have h := hF2; rw [List.drop_of_length_le (by omega)] at h; obtain ⟨x, hx, hx2⟩ := hiQ_is (a := a) (o := npR ns) (fun h0 => by rw [h0] at hne; exact hne rfl); rw [show (npR ns).any (fun x => decide (affEval a x = hiQ a (npR ns))) = true from List.any_eq_true.2 ⟨x, hx, decide_eq_true hx2⟩] at h; simpa using h.symm
              subst hb1 hb2
              refine ACode.exit ?_
              refine ks_e ?_
              refine kl_e ?_
              refine kb_hit ?_
              refine ks_n ?_
              refine ACode.seq ?_
              refine ACode.region ?_
              refine .cons (.mv rfl rfl) ?_
              refine .cons (.mv rfl rfl) ?_
              refine AOps.cases 107 _ rfl (fun g107 => ?_) (fun g107 => ?_)
              · try simp only [List.length_map, decide_eq_true_eq, decide_eq_false_iff_not, Bool.not_eq_true', Bool.not_eq_false', Bool.not_eq_true, Bool.not_eq_false] at g107
                refine .cons (.gT rfl rfl rfl (.mv rfl rfl)) ?_
                refine .cons (.pT rfl rfl rfl) ?_
                refine .cons (.asg rfl rfl) ?_
                refine .nil ?_
                refine ks_n ?_
                refine ACode.ret ?_
                refine kf_ret rfl ?_ nobox
                first | rfl | exact leafB (beq_self_eq_true _) | exact leafB (by simp)
              · try simp only [List.length_map, decide_eq_true_eq, decide_eq_false_iff_not, Bool.not_eq_true', Bool.not_eq_false', Bool.not_eq_true, Bool.not_eq_false] at g107
                cases g107

set_option maxRecDepth 100000 in
set_option maxHeartbeats 1600000 in
theorem subRange_big (a : Option Addr) (n c : Nat) (hn : 1048576 < n) : Fn Try.prog 11 [] [vX a n c] (.o (bo1 true)) [] := by
  refine Fn.code0 Try.func11 rfl rfl rfl rfl ?_
  refine ACode.seq ?_
  refine ACode.region ?_
  refine .cons (.asg rfl rfl) ?_
  refine .nil ?_
  refine ks_n ?_
  refine ACode.seq ?_
  refine ACode.seq ?_
  refine ACode.region ?_
  refine .cons (.mv rfl rfl) ?_
  refine .cons (St1.lenN (e := 5) (m := 1) (by' := 1) rfl rfl rfl rfl rfl (by kernel_rfl) rfl) ?_
  refine .cons (.gt rfl rfl rfl) ?_
  refine .nil ?_
  refine ks_n ?_
  refine .cD rfl (fun h19 => ?_) (fun h19 => ?_)
  · skip
    refine ACode.seq ?_
    refine ACode.region ?_
    refine .cons (.asg rfl rfl) ?_
    refine .nil ?_
    refine ks_n ?_
    refine ACode.ret ?_
    refine ks_r ?_
    refine kf_ret rfl ?_ nobox
    rfl
  · skip
    omega

theorem lawSubRange (a : Option Addr) (n c : Nat) (bs : List Int) (w : World) (hx : n ≤ 1048576 → Sl Sh.byte (fun b => b < w.heap.size) w (.slice a n c) bs) (hbs : ∀ x ∈ bs, 0 ≤ x ∧ x ≤ 255) : Truth Try.prog 11 #[.slice a n c] w :=
  law1 ⟨hx, hbs⟩ (fun h => subRange_big a n c h) (fun hl hb => by
    obtain ⟨ns, x, h1, h2, h4, h5⟩ := drawSR_fn hb
    exact subRange_core hl (h1.sm (by omega)) h2 h5)

end Go.Proofs.Ytgcpdpbapgkdjaa
