/- Part 5 of 5 of the proof: laws on memory and data, then what the functions compute, in the order in which they build on each other; conditions: those that each theorem names. -/
import Derived.Test.YtlelonbakckkgaaP4
set_option maxRecDepth 100000
set_option maxHeartbeats 1600000

namespace Go.Proofs.Ytlelonbakckkgaa
set_option linter.unusedVariables false
set_option linter.unusedSimpArgs false
open Go.RowKit
def someL : List Arr := [(⟨#[65]⟩, [6]), (⟨#[66]⟩, [4, 5]), (⟨#[67]⟩, [3])]

theorem l4Some_fn  : Fn Try.prog 45 [] [] (.o (vD (dRs someL))) [] := by
  refine Fn.code0 Try.func45 rfl rfl rfl rfl ?_
  refine .seq <| .region <| .cons (.asg rfl rfl) <| .nil <| ks_n <| .seq <| .region <| .cons (.li 3 0 0 [.const (.int .i64 (6))] rfl rfl rfl rfl rfl rfl) <| .cons (.bu [(0, .const (.string ⟨#[65]⟩)), (1, .tmp 1)] [(0, 1), (1, 1)] [.string ByteArray.empty, .slice none 0 0] rfl rfl rfl rfl rfl) <| .cons (.li 3 0 1 [.const (.int .i64 (4)), .const (.int .i64 (5))] rfl rfl rfl rfl rfl rfl) <| .cons (.bu [(0, .const (.string ⟨#[66]⟩)), (1, .tmp 3)] [(0, 1), (1, 1)] [.string ByteArray.empty, .slice none 0 0] rfl rfl rfl rfl rfl) <| .cons (.li 3 0 0 [.const (.int .i64 (3))] rfl rfl rfl rfl rfl rfl) <| .cons (.bu [(0, .const (.string ⟨#[67]⟩)), (1, .tmp 5)] [(0, 1), (1, 1)] [.string ByteArray.empty, .slice none 0 0] rfl rfl rfl rfl rfl) <| .cons (.li 88 1 2 [.tmp 2, .tmp 4, .tmp 6] rfl rfl rfl rfl rfl rfl) <| .cons (.asg rfl rfl) <| .nil <| ks_n <| .ret ?_
  refine kf_ret rfl ?_ nobox
  rfl

/-! ### Traces -/
def trL (bs : List Int) : Nat → List Int → Nat → List Int × Nat
  | 0, o, q => (o, q)
  | n + 1, o, q => trL bs n (o ++ [numV bs q [0, 1, 2, 3, 4, 1, 0, 9, -1]]) (q + 1)
def trM (bs : List Int) : Nat → List Int → Nat → List Int × Nat
  | 0, o, q => (o, q)
  | m + 1, o, q => if o.length ≤ 600 then trM bs m (o ++ [pickV bs q 5]) (q + 1) else (o, q)
def trA (bs : List Int) (p : Nat) : List Int × Nat := trL bs (numV bs (p + 1) [8, 12, 5, 20, 0, 30]).toNat [] (p + 2)
def trD (bs : List Int) (p : Nat) : List Int × Nat := if pickV bs (trA bs p).2 40 = 0 then trM bs 601 (trA bs p).1 ((trA bs p).2 + 1) else ((trA bs p).1, (trA bs p).2 + 1)
theorem trM_no {bs : List Int} {m : Nat} {o : List Int} {q : Nat} (h : ¬ o.length ≤ 600) : trM bs m o q = (o, q) := by
  cases m with
  | zero => rfl
  | succ m => rw [trM, if_neg h]
theorem trL_len (bs : List Int) : ∀ (n : Nat) (o : List Int) (q : Nat), (trL bs n o q).1.length = o.length + n ∧ (trL bs n o q).2 = q + n
  | 0, o, q => ⟨rfl, rfl⟩
  | n + 1, o, q => by
    have := trL_len bs n (o ++ [numV bs q [0, 1, 2, 3, 4, 1, 0, 9, -1]]) (q + 1)
    rw [trL, this.1, this.2, List.length_append, List.length_singleton]; omega
theorem trM_len (bs : List Int) : ∀ (m : Nat) (o : List Int) (q : Nat), o.length ≤ 601 → (trM bs m o q).1.length ≤ 601 ∧ (trM bs m o q).2 ≤ q + m
  | 0, o, q, h => ⟨h, Nat.le_refl _⟩
  | m + 1, o, q, h => by
    rw [trM]; split
    · have := trM_len bs m (o ++ [pickV bs q 5]) (q + 1) (by rw [List.length_append, List.length_singleton]; omega)
      exact ⟨this.1, by omega⟩
    · exact ⟨h, by omega⟩
theorem trD_len {bs : List Int} (hb : Bytes bs) {p : Nat} (hp : p ≤ 1000000) : (trD bs p).1.length ≤ 601 ∧ (trD bs p).2 ≤ p + 1000 := by
  have hm := numV_mem hb (p := p + 1) (by omega) (xs := [8, 12, 5, 20, 0, 30]) (by simp)
  have hN : (numV bs (p + 1) [8, 12, 5, 20, 0, 30]).toNat ≤ 30 := by simp at hm; omega
  have h1 := trL_len bs (numV bs (p + 1) [8, 12, 5, 20, 0, 30]).toNat [] (p + 2)
  rw [← trA, List.length_nil] at h1
  unfold trD; split
  · have := trM_len bs 601 (trA bs p).1 ((trA bs p).2 + 1) (by omega)
    exact ⟨this.1, by omega⟩
  · exact ⟨by dsimp only; omega, by dsimp only; omega⟩

theorem trD_fn {bs : List Int} (hb : Bytes bs) {p : Nat} (hp : p ≤ 1000000) (hk : pickV bs p 3 ≠ 0) : Fn Try.prog 20 (hbR bs p) [vR] (.o (vD (dIs (trD bs p).1))) (hbR bs (trD bs p).2) := by
  have hm := numV_mem hb (p := p + 1) (by omega) (xs := [8, 12, 5, 20, 0, 30]) (by simp)
  obtain ⟨N, hN⟩ : ∃ N : Nat, N = (numV bs (p + 1) [8, 12, 5, 20, 0, 30]).toNat := ⟨_, rfl⟩
  have hN3 : N ≤ 30 := by simp at hm; omega
  have hNv : numV bs (p + 1) [8, 12, 5, 20, 0, 30] = (N : Int) := by simp at hm; omega
  have hA : trA bs p = trL bs N [] (p + 2) := by rw [trA, ← hN]
  refine Fn.of_code Try.func20 rfl rfl (hbR_HB _ _) rfl rfl (hbR_HB _ _) rfl (hbR_num _ _ _) ?_
  refine .seq <| .region <| .cons (.asg rfl rfl) <| .nil <| ks_n <| .seq <| .seq <| .region <| .cons (.mv rfl rfl) <| .cons (.cR [.tmp 5, .const (.int .i64 (3))] 0 rfl rfl rfl rfl (pick_fn hb (by omega) 3) rfl ⟨rfl, trivial⟩) ?_
  refine .cons (.eq rfl rfl rfl) <| .nil <| ks_n ?_
  refine .cD rfl (fun h7 => ?_) (fun h7 => ?_)
  · skip
    exact absurd h7 hk
  · skip
    refine .skip <| ks_n <| .seq <| .region <| .cons (St1.lit0 (k' := 111) (e := 3) (sz := 1) (b := true) rfl rfl rfl rfl (by kernel_rfl) rfl rfl) ?_
    refine .cons (.asg rfl rfl) <| .nil <| ks_n <| .seq <| .seq <| .region <| .cons (.mv rfl rfl) <| .cons (.li 3 0 5 [.const (.int .i64 (8)), .const (.int .i64 (12)), .const (.int .i64 (5)), .const (.int .i64 (20)), .const (.int .i64 (0)), .const (.int .i64 (30))] rfl rfl rfl rfl rfl rfl) <| .cons (.cR [.tmp 12, .tmp 13] 0 rfl rfl rfl rfl (num_fn hb (by omega) [8, 12, 5, 20, 0, 30] (by simp)) rfl ⟨rfl, trivial⟩) ?_
    refine .cons (.asg rfl rfl) <| .nil <| ks_n <| .block ?_
    refine .loopK (fun m σ => (∃ (n : Nat) (o : List Int) (q : Nat), m = n + 0 ∧ (o.length + n ≤ 30) ∧ (q + n ≤ p + 40) ∧ (trA bs p = trL bs n o q) ∧ σ = [(.t 0, .v (.o (.c (.box 0 2 0 0)))), (.t 2, .v (.o (.c (.d (.val (.slice none 0 0)))))), (.t 3, .v (.o (.c (.own 110 1 (o.length))))), (.t 4, .v (.o (nat1 (n : Nat)))), (.b 0, .b 48 2 (dR ([rRd bs q]))), (.u 0, .u), (.b 110, .b 3 1 (dR (o.map rI))), (.u 110, .u)])) [(0, 0), (110, 111)] ⟨N, [], p + 1 + 1, rfl, by simpa using hN3, by omega, hA, rfl⟩ ⟨ks rfl (.c .bx), ks rfl .dt, ks rfl (.c (.ow (by first | rfl | (simp; done)))), ks rfl (.dt (vI (by omega))), kb 0 rfl (.dt rfl), kb 111 rfl (.dt rfl (by first | rfl | (simp [dR, rI]; done))), trivial⟩ ?_
    rintro m σ ⟨n, o, q, hm0, hl, hq, hF, rfl⟩
    refine .seq <| .seq <| .region <| .cons (.mv rfl rfl) <| .cons (.gt rfl rfl rfl) <| .nil <| ks_n ?_
    refine .cD rfl (fun h16 => ?_) (fun h16 => ?_)
    · skip
      refine .skip <| ks_n <| .seq <| .block <| .region <| .cons (.mv rfl rfl) <| .cons (.mv rfl rfl) <| .cons (.li 3 0 8 [.const (.int .i64 (0)), .const (.int .i64 (1)), .const (.int .i64 (2)), .const (.int .i64 (3)), .const (.int .i64 (4)), .const (.int .i64 (1)), .const (.int .i64 (0)), .const (.int .i64 (9)), .const (.int .i64 (-1))] rfl rfl rfl rfl rfl rfl) <| .cons (.cR [.tmp 20, .tmp 21] 0 rfl rfl rfl rfl (num_fn hb (by omega) [0, 1, 2, 3, 4, 1, 0, 9, -1] (by simp)) rfl ⟨rfl, trivial⟩) ?_
      refine .cons (.li 3 0 0 [.tmp 22] rfl rfl rfl rfl rfl rfl) <| .cons (St1.appB (k' := 124) (e := 3) (sz := 0) (by' := 8) rfl rfl rfl rfl rfl (by kernel_rfl) rfl rfl rfl rfl (by simp [dR]) (by simp [dR]; omega) rfl rfl rfl) ?_
      refine .cons (.asg rfl rfl) <| .nil <| kb_n <| ks_n <| .region <| .cons (.mv rfl rfl) <| .cons (.sb rfl rfl rfl) <| .cons (.asg rfl rfl) <| .nil ?_
      refine kl_k [(0, 0), (110, 124)] ⟨n - 1, o ++ [numV bs q [0, 1, 2, 3, 4, 1, 0, 9, -1]], q + 1, rfl, by simp; omega, by omega, by rw [hF]; obtain ⟨m, rfl⟩ : ∃ m, n = m + 1 := ⟨n - 1, by omega⟩; rfl, rfl⟩ ⟨ks rfl (.c .bx), ks rfl .dt, ks rfl (.c (.ow (by first | rfl | (simp; done)))), ks rfl (.dt (vI (by omega))), kb 0 rfl (.dt rfl), kb 124 rfl (.dt rfl (by first | rfl | (simp [dR, rI]; done))), trivial⟩
    · skip
      obtain rfl : n = 0 := by omega
      have hF0 : trA bs p = (o, q) := hF
      refine .exit <| ks_e <| kl_e <| kb_hit <| ks_n <| .seq <| .seq <| .region <| .cons (.mv rfl rfl) <| .cons (.cR [.tmp 25, .const (.int .i64 (40))] 0 rfl rfl rfl rfl (pick_fn hb (by omega) 40) rfl ⟨rfl, trivial⟩) ?_
      refine .cons (.eq rfl rfl rfl) <| .nil <| ks_n ?_
      refine .cD rfl (fun h27 => ?_) (fun h27 => ?_)
      · skip
        refine .block ?_
        refine .loopK (fun m σ => (∃ (m2 : Nat) (u : List Int) (r : Nat), m = 601 - u.length ∧ (601 ≤ u.length + m2 ∧ u.length ≤ 601) ∧ (r + m2 ≤ p + 1000) ∧ (trD bs p = trM bs m2 u r) ∧ σ = [(.t 0, .v (.o (.c (.box 0 2 0 0)))), (.t 2, .v (.o (.c (.d (.val (.slice none 0 0)))))), (.t 3, .v (.o (.c (.own 120 1 (u.length))))), (.b 0, .b 48 2 (dR ([rRd bs r]))), (.u 0, .u), (.b 120, .b 3 1 (dR (u.map rI))), (.u 120, .u)])) [(0, 0), (120, 110)] ⟨601, o, q + 1, rfl, by omega, by omega, by rw [trD, hF0, if_pos h27], rfl⟩ ⟨ks rfl (.c .bx), ks rfl .dt, ks rfl (.c (.ow (by first | rfl | (simp; done)))), kb 0 rfl (.dt rfl), kb 110 rfl (.dt rfl (by first | rfl | (simp [dR, rI]; done))), trivial⟩ ?_
        rintro m σ ⟨m2, u, r, hm0, hl2, hr, hG, rfl⟩
        refine .seq <| .seq <| .region <| .cons (.mv rfl rfl) <| .cons (.lB 3 1 8 rfl rfl rfl rfl) <| .cons (.le rfl rfl rfl) <| .nil <| ks_n ?_
        refine .cD rfl (fun h30 => ?_) (fun h30 => ?_)
        · skip
          refine .skip <| ks_n <| .block <| .region <| .cons (.mv rfl rfl) <| .cons (.mv rfl rfl) <| .cons (.cR [.tmp 32, .const (.int .i64 (5))] 0 rfl rfl rfl rfl (pick_fn hb (by omega) 5) rfl ⟨rfl, trivial⟩) ?_
          refine .cons (.li 3 0 0 [.tmp 33] rfl rfl rfl rfl rfl rfl) <| .cons (St1.appB (k' := 135) (e := 3) (sz := 0) (by' := 8) rfl rfl rfl rfl rfl (by kernel_rfl) rfl rfl rfl rfl (by simp [dR]) (by simp [dR]; omega) rfl rfl rfl) ?_
          refine .cons (.asg rfl rfl) <| .nil <| kb_n ?_
          refine kl_k [(0, 0), (120, 135)] ⟨m2 - 1, u ++ [pickV bs r 5], r + 1, rfl, by simp; omega, by omega, by rw [hG]; obtain ⟨m, rfl⟩ : ∃ m, m2 = m + 1 := ⟨m2 - 1, by omega⟩; rw [trM, if_pos (by omega)]; rfl, rfl⟩ ⟨ks rfl (.c .bx), ks rfl .dt, ks rfl (.c (.ow (by first | rfl | (simp; done)))), kb 0 rfl (.dt rfl), kb 135 rfl (.dt rfl (by first | rfl | (simp [dR, rI]; done))), trivial⟩ (by rw [List.length_append, List.length_singleton]; omega)
        · skip
          have hT : trD bs p = (u, r) := by rw [hG, trM_no (by omega)]
          refine .exit <| ks_e <| kl_e <| kb_hit <| ks_n <| .seq <| .region <| .cons (.mv rfl rfl) <| .cons (.asg rfl rfl) <| .nil <| ks_n <| .ret ?_
          refine kf_wret [(.t 2, .v (.o (vD (dIs (trD bs p).1)))), (.b 0, .b 48 2 (dR ([rRd bs (trD bs p).2]))), (.u 0, .u)] (Wk.keep [(0, 0)] rfl rfl ⟨ks rfl (.c (.fz rfl (by rw [hT]) (by rw [hT, List.length_map]) (by omega))), kb 0 rfl (.dt rfl (by rw [hT])), trivial⟩) rfl ?_ (hbR_box rfl)
          rfl
      · skip
        have hT : trD bs p = (o, q + 1) := by rw [trD, hF0, if_neg h27]
        refine .skip <| ks_n <| .seq <| .region <| .cons (.mv rfl rfl) <| .cons (.asg rfl rfl) <| .nil <| ks_n <| .ret ?_
        refine kf_wret [(.t 2, .v (.o (vD (dIs (trD bs p).1)))), (.b 0, .b 48 2 (dR ([rRd bs (trD bs p).2]))), (.u 0, .u)] (Wk.keep [(0, 0)] rfl rfl ⟨ks rfl (.c (.fz rfl (by rw [hT]) (by rw [hT, List.length_map]) (by omega))), kb 0 rfl (.dt rfl (by rw [hT])), trivial⟩) rfl ?_ (hbR_box rfl)
        rfl

theorem trG_fn {bs : List Int} (hb : Bytes bs) {p q : Nat} (hp : p ≤ 1000000) (hk : pickV bs p 3 = 0) {g : Prg} (hg : szG g ≤ 1073741824) (hF : Fn Try.prog 31 (hbR bs (p + 1)) [vR] (.o (ad (rG g))) (hbR bs q)) : Fn Try.prog 20 (hbR bs p) [vR] (.o (vD (dIs (trcV g)))) (hbR bs q) := by
  refine Fn.of_code Try.func20 rfl rfl (hbR_HB _ _) rfl rfl (hbR_HB _ _) rfl (hbR_num _ _ _) ?_
  refine .seq <| .region <| .cons (.asg rfl rfl) <| .nil <| ks_n <| .seq <| .seq <| .region <| .cons (.mv rfl rfl) <| .cons (.cR [.tmp 5, .const (.int .i64 (3))] 0 rfl rfl rfl rfl (pick_fn hb (by omega) 3) rfl ⟨rfl, trivial⟩) ?_
  refine .cons (.eq rfl rfl rfl) <| .nil <| ks_n ?_
  refine .cD rfl (fun h7 => ?_) (fun h7 => ?_)
  · skip
    refine .seq <| .region <| .cons (.mv rfl rfl) <| .cons (.cR [.tmp 8] 0 rfl rfl rfl rfl (hF) rfl ⟨rfl, trivial⟩) ?_
    refine .cons (.cP [.tmp 9] rfl rfl rfl rfl (specAT_fn hg) rfl) ?_
    refine .cons (.asg rfl rfl) <| .nil <| ks_n <| .ret <| ks_r ?_
    refine kf_ret rfl ?_ (hbR_box rfl)
    rfl
  · skip
    exact absurd hk h7

/-- What a draw of a program is to do. -/
def DrawG (bs : List Int) : Prop := ∀ p : Nat, p ≤ 200000 → ∃ (g : Prg) (q : Nat), szG g ≤ 1073741824 ∧ q ≤ 2000000 ∧ Fn Try.prog 31 (hbR bs p) [vR] (.o (ad (rG g))) (hbR bs q)
theorem drawLM_core {bs : List Int} (hb : Bytes (bs.take 2000)) {xs : List Int} {q : Nat} (hF : Fn Try.prog 20 (hbR (bs.take 2000) 0) [vR] (.o (vD (dIs xs))) (hbR (bs.take 2000) q)) (hq : q ≤ 2000000) : Fn Try.prog 16 [] [vD (dYs bs)] (.tup [vD (dIs xs), nat1 (numV (bs.take 2000) q [2, 3, 1, 4, 0, 8, 40, 41, -1])]) [] := by
  refine Fn.code0 Try.func16 rfl rfl rfl rfl ?_
  refine .seq <| .region <| .cons (.asg rfl rfl) <| .cons (.asg rfl rfl) <| .nil <| ks_n <| .seq <| .region <| .cons (.mv rfl rfl) <| .cons (.cO [.tmp 5] [(100, 106)] rfl rfl rfl rfl (l16Open_fn bs) rfl trivial flatS.nil (flatS.nil.cons rfl) HB.nil.data outS_one) ?_
  refine .cons (.asg rfl rfl) <| .nil <| ks_n <| .seq <| .region <| .cons (.mv rfl rfl) <| .cons (.cR [.tmp 7] 106 rfl rfl rfl rfl (hF) rfl ⟨rfl, trivial⟩) ?_
  refine .cons (.mv rfl rfl) <| .cons (.li 3 0 8 [.const (.int .i64 (2)), .const (.int .i64 (3)), .const (.int .i64 (1)), .const (.int .i64 (4)), .const (.int .i64 (0)), .const (.int .i64 (8)), .const (.int .i64 (40)), .const (.int .i64 (41)), .const (.int .i64 (-1))] rfl rfl rfl rfl rfl rfl) <| .cons (.cR [.tmp 9, .tmp 10] 106 rfl rfl rfl rfl (num_fn hb (by omega) [2, 3, 1, 4, 0, 8, 40, 41, -1] (by simp)) rfl ⟨rfl, trivial⟩) ?_
  refine .cons (.asg rfl rfl) <| .cons (.asg rfl rfl) <| .nil <| ks_n <| .ret ?_
  refine kf_ret rfl ?_ nobox
  rfl
def prD (f : Nat → Prt × Nat) : Nat → List Prt → Nat → List Prt × Nat
  | 0, o, q => (o, q)
  | n + 1, o, q => prD f n (o ++ [(f q).1]) (f q).2
/-- What a draw of a part is to do. -/
def DrawB (bs : List Int) (f : Nat → Prt × Nat) : Prop := ∀ p : Nat, p ≤ 2000000 → (f p).2 ≤ p + 100000 ∧ szPt (f p).1 ≤ 1000000 ∧ Fn Try.prog 46 (hbR bs p) [vR] (.o (ad (rP (f p).1))) (hbR bs (f p).2)
def prgD (bs : List Int) (f : Nat → Prt × Nat) (p : Nat) : Prg × Nat :=
  (if prgV (someL, (prD f (numV bs p [1, 2, 1, 3]).toNat [] (p + 1)).1) = true then (someL, (prD f (numV bs p [1, 2, 1, 3]).toNat [] (p + 1)).1) else (someL, (prD f (numV bs p [1, 2, 1, 3]).toNat [] (p + 1)).1.take 1), (prD f (numV bs p [1, 2, 1, 3]).toNat [] (p + 1)).2)
theorem szO_app {α : Type} (f : α → Nat) (l : List α) (x : α) : szO f (l ++ [x]) = szO f l + 1 + f x := by
  simp only [szO, List.length_append, List.map_append, List.sum_append, List.length_singleton, List.map_singleton]; simp; omega

theorem prgD_fn {bs : List Int} (hb : Bytes bs) {f : Nat → Prt × Nat} (hB : DrawB bs f) {p : Nat} (hp : p ≤ 1000000) : Fn Try.prog 37 (hbR bs p) [vR] (.o (ad (rG (prgD bs f p).1))) (hbR bs (prgD bs f p).2) := by
 have hm := numV_mem hb (p := p) (by omega) (xs := [1, 2, 1, 3]) (by simp)
 obtain ⟨N, hN⟩ : ∃ N : Nat, N = (numV bs p [1, 2, 1, 3]).toNat := ⟨_, rfl⟩
 have hN3 : 1 ≤ N ∧ N ≤ 3 := by simp at hm; omega
 have hNv : numV bs p [1, 2, 1, 3] = (N : Int) := by simp at hm; omega
 have hD : prgD bs f p = (if prgV (someL, (prD f N [] (p + 1)).1) = true then (someL, (prD f N [] (p + 1)).1) else (someL, (prD f N [] (p + 1)).1.take 1), (prD f N [] (p + 1)).2) := by rw [prgD, ← hN]
 have hs0 : szO szR someL ≤ 20 := by decide
 refine Fn.of_code Try.func37 rfl rfl (hbR_HB _ _) rfl rfl (hbR_HB _ _) rfl (hbR_num _ _ _) ?_
 refine .seq <| .region <| .cons (.al 102 [.slice none 0 0, .slice none 0 0] rfl rfl rfl) <| .nil <| ks_n <| .seq <| .region <| .cons (.cP [] rfl rfl rfl rfl (l4Some_fn) rfl) ?_
 refine .cons (.bu [(0, .tmp 5)] [(0, 1), (1, 1)] [.slice none 0 0, .slice none 0 0] rfl rfl rfl rfl rfl) <| .cons (.al 103 [.slice none 0 0, .slice none 0 0] rfl rfl rfl) <| .cons (.sT 2 true rfl rfl rfl rfl rfl rfl rfl) <| .nil <| ks_n <| .seq <| .seq <| .region <| .cons (.mv rfl rfl) <| .cons (.li 3 0 3 [.const (.int .i64 (1)), .const (.int .i64 (2)), .const (.int .i64 (1)), .const (.int .i64 (3))] rfl rfl rfl rfl rfl rfl) <| .cons (.cR [.tmp 7, .tmp 8] 0 rfl rfl rfl rfl (num_fn hb (by omega) [1, 2, 1, 3] (by simp)) rfl ⟨rfl, trivial⟩) ?_
 refine .cons (.asg rfl rfl) <| .nil <| ks_n <| .block ?_
 refine .loopK (fun m σ => (∃ n : Nat, m = n + 0 ∧ (n = N) ∧ σ = [(.t 0, .v (.o (.c (.box 0 2 0 0)))), (.t 2, .v (.o (.c (.box 110 2 0 0)))), (.t 3, .v (.o (.c (.box 111 2 0 0)))), (.t 4, .v (.o (nat1 (n : Nat)))), (.b 0, .b 48 2 (dR ([rRd bs (p + 1)]))), (.u 0, .u), (.b 110, .b 45 2 [[.d (.val (.slice none 0 0)), .d (.val (.slice none 0 0))]]), (.u 110, .u), (.b 111, .b 45 2 [[.d (dRs someL), .d (.val (.slice none 0 0))]]), (.u 111, .u)]) ∨ (∃ (n : Nat) (o : List Prt) (q : Nat), m = n + 0 ∧ (o.length + n = N ∧ 1 ≤ o.length) ∧ (q ≤ p + 1 + 100000 * o.length) ∧ (szO szPt o ≤ 1000001 * o.length) ∧ (prD f N [] (p + 1) = prD f n o q) ∧ σ = [(.t 0, .v (.o (.c (.box 0 2 0 0)))), (.t 2, .v (.o (.c (.box 110 2 0 0)))), (.t 3, .v (.o (.c (.box 111 2 0 0)))), (.t 4, .v (.o (nat1 (n : Nat)))), (.b 0, .b 48 2 (dR ([rRd bs q]))), (.u 0, .u), (.b 110, .b 45 2 [[.d (.val (.slice none 0 0)), .d (.val (.slice none 0 0))]]), (.u 110, .u), (.b 112, .b 65 2 (dR (o.map rP))), (.u 112, .u), (.b 111, .b 45 2 [[.d (dRs someL), .own 112 2 (o.length)]]), (.u 111, .u)])) [(0, 0), (110, 102), (111, 103)] (.inl ⟨N, rfl, rfl, rfl⟩) ⟨ks rfl (.c .bx), ks rfl (.c .bx), ks rfl (.c .bx), ks rfl (.dt (vI (by omega))), kb 0 rfl (.dt rfl), kb 102 rfl (.cons (.cons .dt (.cons .dt Ctos.nil)) .nil), kb 103 rfl (.cons (.cons .dt (.cons .dt Ctos.nil)) .nil), trivial⟩ ?_
 rintro m σ (⟨n, hm0, rfl, rfl⟩ | ⟨n, o, q, hm0, hl, hq, hz, hF, rfl⟩)
 ·skip
  obtain ⟨q, hq⟩ : ∃ q, q = p + 1 := ⟨_, rfl⟩
  rw [← hq]
  have hf := hB q (by omega)
  refine .seq <| .seq <| .region <| .cons (.mv rfl rfl) <| .cons (.gt rfl rfl rfl) <| .nil <| ks_n ?_
  refine .cD rfl (fun h11 => ?_) (fun h11 => ?_)
  ·skip
   refine .skip <| ks_n <| .seq <| .block ?_
   refine ACode.drawK (by kernel_rfl) (by kernel_rfl) ?_
   refine .cons (.fB 1 0 false rfl rfl rfl) <| .cons (.b1 1 rfl rfl rfl rfl rfl rfl) <| .cons (.mv rfl rfl) <| .cons (.cR [.tmp 16] 0 rfl rfl rfl rfl (hf.2.2) rfl ⟨rfl, trivial⟩) ?_
   refine .cons (.li 65 1 0 [.tmp 17] rfl rfl rfl rfl rfl rfl) <| .cons (St1.appN (k' := 119) (e := 65) (sz := 1) (by' := 48) rfl rfl rfl rfl rfl (by kernel_rfl) rfl rfl rfl (by simp) (by first | (simp [dR]; done) | (simp [dR]; omega) | omega) rfl rfl) ?_
   refine .cons (.fB 1 0 false rfl rfl rfl) <| .cons (.sT 1 false rfl rfl rfl rfl rfl rfl rfl) ?_
   refine .nil ⟨by kernel_rfl, ?_⟩
   refine kb_n <| ks_n <| .region <| .cons (.mv rfl rfl) <| .cons (.sb rfl rfl rfl) <| .cons (.asg rfl rfl) <| .nil ?_
   refine kl_k [(0, 0), (110, 110), (111, 111), (112, 119)] (.inr ⟨n - 1, [(f q).1], (f q).2, rfl, ⟨by rw [List.length_singleton]; omega, by simp⟩, by rw [List.length_singleton]; omega, by simp [szO]; omega, by obtain ⟨m, rfl⟩ : ∃ m, n = m + 1 := ⟨n - 1, by omega⟩; rfl, rfl⟩) ⟨ks rfl (.c .bx), ks rfl (.c .bx), ks rfl (.c .bx), ks rfl (.dt (vI (by omega))), kb 0 rfl (.dt rfl), kb 110 rfl (.cons (.cons .dt (.cons .dt Ctos.nil)) .nil), kb 119 rfl (.dt rfl (by first | rfl | (simp [dR, rP]; done))), kb 111 rfl (.cons (.cons .dt (.cons .ow Ctos.nil)) .nil), trivial⟩
  ·skip
   omega
 ·skip
  have hf := hB q (by omega)
  refine .seq <| .seq <| .region <| .cons (.mv rfl rfl) <| .cons (.gt rfl rfl rfl) <| .nil <| ks_n ?_
  refine .cD rfl (fun h11 => ?_) (fun h11 => ?_)
  ·skip
   refine .skip <| ks_n <| .seq <| .block ?_
   refine ACode.drawK (by kernel_rfl) (by kernel_rfl) ?_
   refine .cons (.fB 1 0 false rfl rfl rfl) <| .cons (.b1 1 rfl rfl rfl rfl rfl rfl) <| .cons (.mv rfl rfl) <| .cons (.cR [.tmp 16] 0 rfl rfl rfl rfl (hf.2.2) rfl ⟨rfl, trivial⟩) ?_
   refine .cons (.li 65 1 0 [.tmp 17] rfl rfl rfl rfl rfl rfl) <| .cons (St1.appB (k' := 119) (e := 65) (sz := 1) (by' := 48) rfl rfl rfl rfl rfl (by kernel_rfl) rfl rfl rfl rfl (by simp [dR]) (by first | (simp [dR]; done) | (simp [dR]; omega) | omega) rfl rfl rfl) ?_
   refine .cons (.fB 1 0 false rfl rfl rfl) <| .cons (.sT 1 false rfl rfl rfl rfl rfl rfl rfl) ?_
   refine .nil ⟨by kernel_rfl, ?_⟩
   refine kb_n <| ks_n <| .region <| .cons (.mv rfl rfl) <| .cons (.sb rfl rfl rfl) <| .cons (.asg rfl rfl) <| .nil ?_
   refine kl_k [(0, 0), (110, 110), (111, 111), (112, 119)] (.inr ⟨n - 1, o ++ [(f q).1], (f q).2, rfl, by rw [List.length_append, List.length_singleton]; omega, by rw [List.length_append, List.length_singleton]; omega, by rw [szO_app, List.length_append, List.length_singleton]; omega, by rw [hF]; obtain ⟨m, rfl⟩ : ∃ m, n = m + 1 := ⟨n - 1, by omega⟩; rfl, rfl⟩) ⟨ks rfl (.c .bx), ks rfl (.c .bx), ks rfl (.c .bx), ks rfl (.dt (vI (by omega))), kb 0 rfl (.dt rfl), kb 110 rfl (.cons (.cons .dt (.cons .dt Ctos.nil)) .nil), kb 119 rfl (.dt rfl (by first | rfl | (simp [dR, rP]; done))), kb 111 rfl (.cons (.cons .dt (.cons .ow Ctos.nil)) .nil), trivial⟩
  ·skip
   obtain rfl : n = 0 := by omega
   have hR : prD f N [] (p + 1) = (o, q) := hF
   rw [hR] at hD
   refine .exit <| ks_e <| kl_e <| kb_hit <| ks_n <| .seq <| .seq ?_
   refine .keep [(.t 0, .v (.o (.c (.box 0 2 0 0)))), (.t 2, .v (.o (.c (.box 500 2 0 0)))), (.t 3, .v (.o (.c (.box 501 2 0 0)))), (.b 0, .b 48 2 (dR ([rRd bs q]))), (.u 0, .u), (.b 500, .b 45 2 [[.d (.val (.slice none 0 0)), .d (.val (.slice none 0 0))]]), (.u 500, .u), (.b 501, .b 45 2 [[.d (dRs someL), .d (dPts o)]]), (.u 501, .u)] [(0, 0), (500, 110), (501, 111)] ⟨ks rfl (.c .bx), ks rfl (.c .bx), ks rfl (.c .bx), kb 0 rfl (.dt rfl), kb 110 rfl (.cons (.cons .dt (.cons .dt Ctos.nil)) .nil), kb 111 rfl (.cons (.cons .dt (.cons (.fz rfl rfl (by simp) (by omega)) Ctos.nil)) .nil), trivial⟩ ?_
   refine .region <| .cons (.bN 2 rfl rfl rfl rfl rfl rfl) <| .cons (.cP [.tmp 21] rfl rfl rfl rfl (specPV_fn (g := (someL, o)) (by show szO szR someL + szO szPt o ≤ 1073741824; omega)) rfl) ?_
   refine .nil <| ks_n ?_
   refine ACode.condT rfl (fun h22 => ?_) (fun h22 => ?_)
   ·try simp only [zs1, zs2, zs3, zs4, zs5, zs6, zs7] at h22
    have hT : prgD bs f p = ((someL, o), q) := by rw [hD, if_pos h22]
    refine .seq <| .region <| .cons (.bN 2 rfl rfl rfl rfl rfl rfl) <| .cons (.sT 2 true rfl rfl rfl rfl rfl rfl rfl) <| .nil <| ks_n <| .ret <| ks_r ?_
    refine kf_wret [(.t 2, .v (.o (.c (.box 100 2 0 0)))), (.b 0, .b 48 2 (dR ([rRd bs (prgD bs f p).2]))), (.u 0, .u), (.b 100, .b 45 2 [[.d (dRs someL), .d (dPts o)]]), (.u 100, .u)] (Wk.keep [(0, 0), (100, 500)] rfl rfl ⟨ks rfl (.c .bx), kb 0 rfl (.dt rfl (by rw [hT])), kb 500 rfl (.cons (.cons .dt (.cons .dt Ctos.nil)) .nil), trivial⟩) rfl ?_ (hbR_box rfl)
    rw [hT]; rfl
   ·try simp only [zs1, zs2, zs3, zs4, zs5, zs6, zs7] at h22
    have hT : prgD bs f p = ((someL, o.take 1), q) := by rw [hD, if_neg (by rw [h22]; decide)]
    refine .skip <| ks_n <| .seq ?_
    refine ACode.drawK (by kernel_rfl) (by kernel_rfl) ?_
    refine .cons (.cP [] rfl rfl rfl rfl (l4Some_fn) rfl) ?_
    refine .cons (.fB 1 0 false rfl rfl rfl) <| .cons (.b1 1 rfl rfl rfl rfl rfl rfl) <| .cons (St1.sliceTo (e := 65) (sz := 2) (by' := 48) (k := 1) rfl rfl rfl rfl (by kernel_rfl) rfl rfl rfl (by first | rfl | omega) (by first | (simp; done) | (simp; omega) | omega)) ?_
    refine .cons (.bu [(0, .tmp 24), (1, .tmp 27)] [(0, 1), (1, 1)] [.slice none 0 0, .slice none 0 0] rfl rfl rfl rfl rfl) <| .cons (.sT 2 true rfl rfl rfl rfl rfl rfl rfl) ?_
    refine .nil ⟨by kernel_rfl, ?_⟩
    refine ks_n <| .ret ?_
    refine kf_wret [(.t 2, .v (.o (.c (.box 100 2 0 0)))), (.b 0, .b 48 2 (dR ([rRd bs (prgD bs f p).2]))), (.u 0, .u), (.b 100, .b 45 2 [[.d (dRs someL), .d (dPts (o.take 1))]]), (.u 100, .u)] (Wk.keep [(0, 0), (100, 500)] rfl rfl ⟨ks rfl (.c .bx), kb 0 rfl (.dt rfl (by rw [hT])), kb 500 rfl (.cons (.cons .dt (.cons (.dt (by rw [dPts, List.map_take])) Ctos.nil)) .nil), trivial⟩) rfl ?_ (hbR_box rfl)
    rw [hT]; rfl

/-- The texts that are drawn from, and what stands ahead of them. -/
def txt8 : List ByteArray := [⟨#[112, 97, 114, 116, 10, 102, 111, 114, 32, 48, 32, 51, 10, 102, 111, 114, 32, 48, 32, 52, 10, 66, 91, 105, 44, 106, 93, 61, 40, 66, 91, 105, 44, 106, 93, 43, 123, 50, 42, 105, 43, 106, 125, 41, 10]⟩, ⟨#[112, 97, 114, 116, 10, 102, 111, 114, 32, 48, 32, 51, 10, 102, 111, 114, 32, 48, 32, 52, 10, 66, 91, 105, 44, 106, 43, 49, 93, 61, 40, 66, 91, 105, 44, 106, 93, 43, 49, 41, 10]⟩, ⟨#[112, 97, 114, 116, 10, 102, 111, 114, 32, 48, 32, 51, 10, 102, 111, 114, 32, 49, 32, 52, 10, 66, 91, 105, 43, 49, 44, 106, 45, 49, 93, 61, 40, 66, 91, 105, 44, 106, 93, 42, 50, 41, 10]⟩, ⟨#[112, 97, 114, 116, 10, 102, 111, 114, 32, 48, 32, 51, 10, 102, 111, 114, 32, 49, 32, 53, 10, 66, 91, 105, 43, 49, 44, 106, 93, 61, 40, 66, 91, 105, 44, 106, 45, 49, 93, 43, 66, 91, 105, 44, 106, 93, 41, 10, 65, 91, 105, 93, 61, 123, 106, 125, 10]⟩, ⟨#[112, 97, 114, 116, 10, 102, 111, 114, 32, 48, 32, 52, 10, 65, 91, 105, 93, 61, 40, 123, 105, 125, 42, 50, 41, 10, 112, 97, 114, 116, 10, 102, 111, 114, 32, 48, 32, 52, 10, 65, 91, 105, 43, 49, 93, 61, 40, 65, 91, 105, 93, 43, 67, 91, 48, 93, 41, 10]⟩, ⟨#[112, 97, 114, 116, 10, 102, 111, 114, 32, 48, 32, 53, 10, 65, 91, 105, 93, 61, 40, 65, 91, 105, 93, 43, 51, 41, 10, 66, 91, 48, 44, 105, 93, 61, 65, 91, 105, 93, 10]⟩, ⟨#[112, 97, 114, 116, 10, 102, 111, 114, 32, 48, 32, 51, 10, 102, 111, 114, 32, 48, 32, 51, 10, 67, 91, 105, 93, 61, 40, 67, 91, 105, 93, 43, 66, 91, 105, 44, 106, 93, 41, 10, 112, 97, 114, 116, 10, 102, 111, 114, 32, 48, 32, 51, 10, 102, 111, 114, 32, 48, 32, 51, 10, 65, 91, 106, 93, 61, 40, 65, 91, 106, 93, 45, 66, 91, 106, 44, 105, 93, 41, 10]⟩, ⟨#[112, 97, 114, 116, 10, 102, 111, 114, 32, 48, 32, 52, 10, 102, 111, 114, 32, 48, 32, 105, 43, 49, 10, 66, 91, 105, 44, 106, 93, 61, 40, 65, 91, 106, 93, 42, 67, 91, 48, 93, 41, 10]⟩]
def hd8 : ByteArray := ⟨#[112, 114, 111, 103, 114, 97, 109, 10, 97, 114, 114, 97, 121, 32, 65, 32, 54, 10, 97, 114, 114, 97, 121, 32, 66, 32, 52, 32, 53, 10, 97, 114, 114, 97, 121, 32, 67, 32, 51, 10]⟩
/-- What the reading of these texts is to do. -/
def ReadP (pg : ByteArray → Prg × Bool) : Prop := ∀ t ∈ txt8, szG (pg t).1 ≤ 1073741824 ∧ Fn Try.prog 36 [] [st1 (hd8 ++ t)] (.tup [ad (rG (pg t).1), bo1 (pg t).2]) []
theorem txt8_len (t : ByteArray) (h : t ∈ txt8) : t.size ≤ 1000 := by
  have : ∀ t ∈ txt8, t.size ≤ 1000 := by decide
  exact this t h
def l8D (bs : List Int) (f : Nat → Prt × Nat) (pg : ByteArray → Prg × Bool) (p : Nat) : Prg × Nat :=
  if (pg (ofV bs p txt8)).2 = true then (if 0 < pickV bs (p + 1) 3 then ((pg (ofV bs p txt8)).1, p + 1 + 1) else prgD bs f (p + 1 + 1)) else prgD bs f (p + 1)
theorem prD_bd {bs : List Int} {f : Nat → Prt × Nat} (hB : DrawB bs f) : ∀ (n : Nat) (o : List Prt) (q : Nat), q + 100000 * n ≤ 2000000 → szO szPt (prD f n o q).1 ≤ szO szPt o + 1000001 * n ∧ (prD f n o q).2 ≤ q + 100000 * n
  | 0, o, q, h => ⟨Nat.le_refl _, Nat.le_refl _⟩
  | n + 1, o, q, h => by
    have h1 := hB q (by omega)
    have h2 := prD_bd hB n (o ++ [(f q).1]) (f q).2 (by omega)
    rw [szO_app] at h2
    rw [prD]; omega

theorem l8D_fn {bs : List Int} (hb : Bytes bs) {f : Nat → Prt × Nat} (hB : DrawB bs f) {pg : ByteArray → Prg × Bool} (hP : ReadP pg) {p : Nat} (hp : p ≤ 900000) : Fn Try.prog 31 (hbR bs p) [vR] (.o (ad (rG (l8D bs f pg p).1))) (hbR bs (l8D bs f pg p).2) := by
 have ht := ofV_mem (bs := bs) (xs := txt8) hb (p := p) (by omega) (by decide)
 obtain ⟨t, hte⟩ : ∃ t, ofV bs p txt8 = t := ⟨_, rfl⟩
 have hof := of_fn hb (p := p) (by omega) txt8 (by decide)
 rw [hte] at ht hof
 obtain ⟨hz, hr⟩ := hP t ht
 have hts : t.size ≤ 1000 := txt8_len t ht
 obtain ⟨g, k, hg⟩ : ∃ g k, pg t = (g, k) := ⟨_, _, rfl⟩
 rw [hg] at hz hr
 have hD0 : l8D bs f pg p = if k = true then (if 0 < pickV bs (p + 1) 3 then (g, p + 1 + 1) else prgD bs f (p + 1 + 1)) else prgD bs f (p + 1) := by rw [l8D, hte, hg]
 refine Fn.of_code Try.func31 rfl rfl (hbR_HB _ _) rfl rfl (hbR_HB _ _) rfl (hbR_num _ _ _) ?_
 refine .seq <| .region <| .cons (.al 102 [.slice none 0 0, .slice none 0 0] rfl rfl rfl) <| .nil <| ks_n <| .seq <| .region <| .cons (.mv rfl rfl) <| .cons (.li 9 0 7 [.const (.string ⟨#[112, 97, 114, 116, 10, 102, 111, 114, 32, 48, 32, 51, 10, 102, 111, 114, 32, 48, 32, 52, 10, 66, 91, 105, 44, 106, 93, 61, 40, 66, 91, 105, 44, 106, 93, 43, 123, 50, 42, 105, 43, 106, 125, 41, 10]⟩), .const (.string ⟨#[112, 97, 114, 116, 10, 102, 111, 114, 32, 48, 32, 51, 10, 102, 111, 114, 32, 48, 32, 52, 10, 66, 91, 105, 44, 106, 43, 49, 93, 61, 40, 66, 91, 105, 44, 106, 93, 43, 49, 41, 10]⟩), .const (.string ⟨#[112, 97, 114, 116, 10, 102, 111, 114, 32, 48, 32, 51, 10, 102, 111, 114, 32, 49, 32, 52, 10, 66, 91, 105, 43, 49, 44, 106, 45, 49, 93, 61, 40, 66, 91, 105, 44, 106, 93, 42, 50, 41, 10]⟩), .const (.string ⟨#[112, 97, 114, 116, 10, 102, 111, 114, 32, 48, 32, 51, 10, 102, 111, 114, 32, 49, 32, 53, 10, 66, 91, 105, 43, 49, 44, 106, 93, 61, 40, 66, 91, 105, 44, 106, 45, 49, 93, 43, 66, 91, 105, 44, 106, 93, 41, 10, 65, 91, 105, 93, 61, 123, 106, 125, 10]⟩), .const (.string ⟨#[112, 97, 114, 116, 10, 102, 111, 114, 32, 48, 32, 52, 10, 65, 91, 105, 93, 61, 40, 123, 105, 125, 42, 50, 41, 10, 112, 97, 114, 116, 10, 102, 111, 114, 32, 48, 32, 52, 10, 65, 91, 105, 43, 49, 93, 61, 40, 65, 91, 105, 93, 43, 67, 91, 48, 93, 41, 10]⟩), .const (.string ⟨#[112, 97, 114, 116, 10, 102, 111, 114, 32, 48, 32, 53, 10, 65, 91, 105, 93, 61, 40, 65, 91, 105, 93, 43, 51, 41, 10, 66, 91, 48, 44, 105, 93, 61, 65, 91, 105, 93, 10]⟩), .const (.string ⟨#[112, 97, 114, 116, 10, 102, 111, 114, 32, 48, 32, 51, 10, 102, 111, 114, 32, 48, 32, 51, 10, 67, 91, 105, 93, 61, 40, 67, 91, 105, 93, 43, 66, 91, 105, 44, 106, 93, 41, 10, 112, 97, 114, 116, 10, 102, 111, 114, 32, 48, 32, 51, 10, 102, 111, 114, 32, 48, 32, 51, 10, 65, 91, 106, 93, 61, 40, 65, 91, 106, 93, 45, 66, 91, 106, 44, 105, 93, 41, 10]⟩), .const (.string ⟨#[112, 97, 114, 116, 10, 102, 111, 114, 32, 48, 32, 52, 10, 102, 111, 114, 32, 48, 32, 105, 43, 49, 10, 66, 91, 105, 44, 106, 93, 61, 40, 65, 91, 106, 93, 42, 67, 91, 48, 93, 41, 10]⟩)] rfl rfl rfl rfl rfl rfl) <| .cons (.cR [.tmp 6, .tmp 7] 0 rfl rfl rfl rfl (hof) rfl ⟨rfl, trivial⟩) ?_
 refine .cons (.asg rfl rfl) <| .nil <| ks_n <| .seq <| .region <| .cons (.mv rfl rfl) <| .cons (St1.addS rfl rfl rfl (Nat.le_trans (Nat.add_le_add (show hd8.size ≤ 100 by decide) hts) (by omega))) ?_
 refine .cons (.cP [.tmp 11] rfl rfl rfl rfl (hr) rfl) ?_
 refine .cons (.mv rfl rfl) <| .cons (.ex rfl rfl rfl) <| .cons (.ex rfl rfl rfl) <| .cons (.al 104 [.slice none 0 0, .slice none 0 0] rfl rfl rfl) <| .cons (.sT 2 true rfl rfl rfl rfl rfl rfl rfl) <| .cons (.asg rfl rfl) <| .nil <| ks_n <| .seq <| .seq <| .region <| .cons (.mv rfl rfl) <| .cons (.mv rfl rfl) ?_
 refine AOps.cases 16 _ rfl (fun g16 => ?_) (fun g16 => ?_)
 ·try simp only [zs1, zs2, zs3, zs4, zs5, zs6, zs7] at g16
  have hk : k = true := by first | exact g16 | simpa using g16
  refine .cons (.gT rfl rfl rfl (.mv rfl rfl)) <| .cons (.gT rfl rfl rfl (.cR [.tmp 17, .const (.int .i64 (3))] 0 rfl rfl rfl rfl (pick_fn hb (by omega) 3) rfl ⟨rfl, trivial⟩)) ?_
  refine .cons (.gT rfl rfl rfl (.gt rfl rfl rfl)) <| .cons (.pT rfl rfl rfl) <| .nil <| ks_n ?_
  refine ACode.condT rfl (fun h20 => ?_) (fun h20 => ?_)
  ·try simp only [zs1, zs2, zs3, zs4, zs5, zs6, zs7] at h20
   have hT : l8D bs f pg p = (g, p + 1 + 1) := by rw [hD0, if_pos hk, if_pos (by first | exact h20 | simpa using h20)]
   refine .seq <| .region <| .cons (.bN 2 rfl rfl rfl rfl rfl rfl) <| .cons (.sT 2 true rfl rfl rfl rfl rfl rfl rfl) <| .nil <| ks_n <| .ret <| ks_r ?_
   refine kf_wret [(.t 2, .v (.o (.c (.box 100 2 0 0)))), (.b 0, .b 48 2 (dR ([rRd bs (l8D bs f pg p).2]))), (.u 0, .u), (.b 100, .b 45 2 [[.d (dRs (l8D bs f pg p).1.1), .d (dPts (l8D bs f pg p).1.2)]]), (.u 100, .u)] (Wk.keep [(0, 0), (100, 102)] rfl rfl ⟨ks rfl (.c .bx), kb 0 rfl (.dt rfl (by rw [hT])), kb 102 rfl (.cons (.cons (.dt (by rw [hT])) (.cons (.dt (by rw [hT])) Ctos.nil)) .nil), trivial⟩) rfl ?_ (hbR_box rfl)
   rfl
  ·try simp only [zs1, zs2, zs3, zs4, zs5, zs6, zs7] at h20
   have hT : l8D bs f pg p = prgD bs f (p + 1 + 1) := by rw [hD0, if_pos hk, if_neg (by first | exact h20 | simpa using h20)]
   refine .skip <| ks_n <| .seq <| .region <| .cons (.mv rfl rfl) <| .cons (.cR [.tmp 22] 0 rfl rfl rfl rfl (prgD_fn hb hB (by omega)) rfl ⟨rfl, trivial⟩) ?_
   refine .cons (.sT 2 true rfl rfl rfl rfl rfl rfl rfl) <| .nil <| ks_n <| .ret ?_
   refine kf_wret [(.t 2, .v (.o (.c (.box 100 2 0 0)))), (.b 0, .b 48 2 (dR ([rRd bs (l8D bs f pg p).2]))), (.u 0, .u), (.b 100, .b 45 2 [[.d (dRs (l8D bs f pg p).1.1), .d (dPts (l8D bs f pg p).1.2)]]), (.u 100, .u)] (Wk.keep [(0, 0), (100, 102)] rfl rfl ⟨ks rfl (.c .bx), kb 0 rfl (.dt rfl (by rw [hT])), kb 102 rfl (.cons (.cons (.dt (by rw [hT])) (.cons (.dt (by rw [hT])) Ctos.nil)) .nil), trivial⟩) rfl ?_ (hbR_box rfl)
   rfl
 ·try simp only [zs1, zs2, zs3, zs4, zs5, zs6, zs7] at g16
  have hk : k = false := by first | exact g16 | simpa using g16
  have hT : l8D bs f pg p = prgD bs f (p + 1) := by rw [hD0, if_neg (by rw [hk]; decide)]
  refine .cons (.gF rfl rfl rfl) <| .cons (.gF rfl rfl rfl) <| .cons (.gF rfl rfl rfl) <| .cons (.pF rfl rfl rfl) <| .nil <| ks_n ?_
  refine ACode.condT rfl (fun h => by first | (cases h; done) | (simp [*] at h; done) | (exfalso; simp_all; done)) (fun _ => ?_)
  refine .skip <| ks_n <| .seq <| .region <| .cons (.mv rfl rfl) <| .cons (.cR [.tmp 22] 0 rfl rfl rfl rfl (prgD_fn hb hB (by omega)) rfl ⟨rfl, trivial⟩) ?_
  refine .cons (.sT 2 true rfl rfl rfl rfl rfl rfl rfl) <| .nil <| ks_n <| .ret ?_
  refine kf_wret [(.t 2, .v (.o (.c (.box 100 2 0 0)))), (.b 0, .b 48 2 (dR ([rRd bs (l8D bs f pg p).2]))), (.u 0, .u), (.b 100, .b 45 2 [[.d (dRs (l8D bs f pg p).1.1), .d (dPts (l8D bs f pg p).1.2)]]), (.u 100, .u)] (Wk.keep [(0, 0), (100, 102)] rfl rfl ⟨ks rfl (.c .bx), kb 0 rfl (.dt rfl (by rw [hT])), kb 102 rfl (.cons (.cons (.dt (by rw [hT])) (.cons (.dt (by rw [hT])) Ctos.nil)) .nil), trivial⟩) rfl ?_ (hbR_box rfl)
  rfl

theorem szO_take {α : Type} (f : α → Nat) (l : List α) : szO f (l.take 1) ≤ szO f l := by
  cases l with
  | nil => exact Nat.le_refl _
  | cons x l => simp [szO]; omega
theorem prgD_bd {bs : List Int} (hb : Bytes bs) {f : Nat → Prt × Nat} (hB : DrawB bs f) {p : Nat} (hp : p ≤ 1000000) : szG (prgD bs f p).1 ≤ 4000000 ∧ (prgD bs f p).2 ≤ p + 300001 := by
  have hm := numV_mem hb (p := p) (by omega) (xs := [1, 2, 1, 3]) (by simp)
  obtain ⟨N, hN⟩ : ∃ N : Nat, N = (numV bs p [1, 2, 1, 3]).toNat := ⟨_, rfl⟩
  have hN3 : N ≤ 3 := by simp at hm; omega
  have hs0 : szO szR someL ≤ 20 := by decide
  have h1 := prD_bd hB N [] (p + 1) (by omega)
  have e0 : szO szPt [] = 0 := rfl
  have h2 := szO_take szPt (prD f N [] (p + 1)).1
  rw [prgD, ← hN]
  refine ⟨?_, by dsimp only; omega⟩
  dsimp only
  split
  · show szO szR someL + szO szPt (prD f N [] (p + 1)).1 ≤ 4000000
    omega
  · show szO szR someL + szO szPt ((prD f N [] (p + 1)).1.take 1) ≤ 4000000
    omega
theorem drawG_of {bs : List Int} (hb : Bytes bs) {f : Nat → Prt × Nat} (hB : DrawB bs f) {pg : ByteArray → Prg × Bool} (hP : ReadP pg) : DrawG bs := fun p hp => by
  refine ⟨(l8D bs f pg p).1, (l8D bs f pg p).2, ?_, ?_, l8D_fn hb hB hP (by omega)⟩
  all_goals
    have ht := ofV_mem (bs := bs) (xs := txt8) hb (p := p) (by omega) (by decide)
    have hz := (hP _ ht).1
    have h1 := prgD_bd hb hB (p := p + 1) (by omega)
    have h2 := prgD_bd hb hB (p := p + 1 + 1) (by omega)
    unfold l8D
    split
    · split
      · dsimp only; omega
      · omega
    · omega


def boxOk (xs : List Int) : Bool := decide (xs.length ≤ 4) && !xs.any fun n => !inB n 0 99
def bL (n : Int) : Lp := ([zA], [cA n])
def boxN (xs : List Int) : List Lp := if boxOk xs = true then xs.map bL else []
theorem boxOk_iff {xs : List Int} : boxOk xs = true ↔ xs.length ≤ 4 ∧ ∀ x ∈ xs, 0 ≤ x ∧ x ≤ 99 := by simp [boxOk, inB]
theorem boxN_no {xs : List Int} (h : boxOk xs = false) : boxN xs = [] := if_neg (by rw [h]; simp)
theorem boxN_yes {xs : List Int} (h : boxOk xs = true) : boxN xs = xs.map bL := if_pos h
theorem specBox_fn (xs : List Int) (hx : xs.length ≤ 1099511627776) : Fn Try.prog 63 [] [vD (dIs xs)] (.tup [vD (dLs (boxN xs)), bo1 (boxOk xs)]) [] := by
 refine Fn.code0 Try.func63 rfl rfl rfl rfl ?_
 refine .seq <| .region <| .cons (.asg rfl rfl) <| .cons (.asg rfl rfl) <| .nil <| ks_n <| .seq <| .region <| .cons (St1.lit0 (k' := 106) (e := 100) (sz := 2) (b := true) rfl rfl rfl rfl (by kernel_rfl) rfl rfl) ?_
 refine .cons (.asg rfl rfl) <| .nil <| ks_n <| .seq <| .seq <| .region <| .cons (.mv rfl rfl) <| .cons (.ln 3 1 8 rfl rfl rfl) <| .cons (.gt rfl rfl rfl) <| .nil <| ks_n ?_
 refine .cD rfl (fun h9 => ?_) (fun h9 => ?_)
 ·skip
  refine .seq ?_
  have hO : boxOk xs = false := by cases hc : boxOk xs with | false => rfl | true => have := (boxOk_iff.1 hc).1; omega
  have hB := boxN_no hO
  refine .region <| .cons (.mv rfl rfl) <| .cons (.asg rfl rfl) <| .cons (.asg rfl rfl) <| .nil <| ks_n <| .ret <| ks_r ?_
  refine kf_wret [(.t 2, .v (.o (vD (dLs (boxN xs))))), (.t 3, .v (.o (bo1 (boxOk xs))))] (Wk.keep [] rfl rfl ⟨ks rfl (.c (.fz rfl (by rw [hB]; first | rfl | (rw [List.take_length, List.map_map]; rfl) | (simp [dR]; done)) (by rw [hB]; simp) (by first | (simp; done) | (simp; omega) | omega))), ks rfl (.dt (by rw [hO])), trivial⟩) rfl ?_ nobox
  rfl
 ·skip
  refine .skip <| ks_n <| .seq <| .seq <| .region <| .cons (.asg rfl rfl) <| .nil <| ks_n <| .block ?_
  refine .loopK (fun m σ => (∃ i : Nat, m = xs.length - i ∧ (i ≤ xs.length) ∧ (∀ j, j < i → 0 ≤ xs.getD j 0 ∧ xs.getD j 0 ≤ 99) ∧ σ = [(.t 0, .v (.o (vD (dIs xs)))), (.t 4, .v (.o (.c (.own 110 2 (i))))), (.t 5, .v (.o (nat1 (i : Nat)))), (.b 110, .b 100 2 (dR ((xs.take i).map (fun n => rL (bL n))))), (.u 110, .u)])) [(110, 106)] ⟨0, rfl, (by omega), (by omega), rfl⟩ ⟨ks rfl .dt, ks rfl (.c .ow), ks rfl .dt, kb 106 rfl (.dt rfl (by first | exact dR_take (fun n => rL (bL n)) hx1 | exact dR_take1 (fun n => rL (bL n)) hx1 | rfl | (rw [hB, List.take_length, List.map_map]; rfl) | (simp [dR]; done))), trivial⟩ ?_
  rintro m σ ⟨i, hm0, hi, hF, rfl⟩
  refine .seq <| .seq <| .region <| .cons (.mv rfl rfl) <| .cons (.mv rfl rfl) <| .cons (.ln 3 1 8 rfl rfl rfl) <| .cons (.ls rfl rfl rfl) <| .nil <| ks_n ?_
  refine .cD rfl (fun h14 => ?_) (fun h14 => ?_)
  ·skip
   obtain ⟨x, hx1⟩ : ∃ x, xs[i]? = some x := ⟨_, List.getElem?_eq_getElem (by omega)⟩
   refine .skip <| ks_n <| .seq <| .block <| .seq <| .seq <| .region <| .cons (.mv rfl rfl) <| .cons (.mv rfl rfl) <| .cons (.xL 3 1 8 rfl rfl rfl rfl rfl) ?_
   refine .cons (.l1 1 rfl rfl) <| .cons (.ls rfl rfl rfl) <| .cons (.mv rfl rfl) ?_
   refine .cD 22 rfl (fun g22 => ?_) (fun g22 => ?_)
   ·skip
    refine .cons (.gF rfl rfl rfl) <| .cons (.gF rfl rfl rfl) <| .cons (.gF rfl rfl rfl) <| .cons (.gF rfl rfl rfl) <| .cons (.gF rfl rfl rfl) <| .cons (.pT rfl rfl rfl) <| .nil <| ks_n ?_
    refine ACode.condT rfl (fun _ => ?_) (fun h => by first | (cases h; done) | (simp [*] at h; done) | (exfalso; simp_all; done))
    refine .seq ?_
    have hO : boxOk xs = false := by cases hc : boxOk xs with | false => rfl | true => have := (boxOk_iff.1 hc).2 x (List.mem_of_getElem? hx1); omega
    have hB := boxN_no hO
    refine .region <| .cons (St1.lit0 (k' := 129) (e := 100) (sz := 2) (b := true) rfl rfl rfl rfl (by kernel_rfl) rfl rfl) ?_
    refine .cons (.asg rfl rfl) <| .cons (.asg rfl rfl) <| .nil <| ks_n <| .ret <| ks_r <| kb_r <| ks_r <| kl_r <| kb_r <| ks_r ?_
    refine kf_wret [(.t 2, .v (.o (vD (dLs (boxN xs))))), (.t 3, .v (.o (bo1 (boxOk xs))))] (Wk.keep [] rfl rfl ⟨ks rfl (.c (.fz rfl (by rw [hB]; first | rfl | (rw [List.take_length, List.map_map]; rfl) | (simp [dR]; done)) (by rw [hB]; simp) (by first | (simp; done) | (simp; omega) | omega))), ks rfl (.dt (by rw [hO])), trivial⟩) rfl ?_ nobox
    rfl
   ·skip
    refine .cons (.gT rfl rfl rfl (.mv rfl rfl)) <| .cons (.gT rfl rfl rfl (.mv rfl rfl)) <| .cons (.gT rfl rfl rfl (.xL 3 1 8 rfl rfl rfl rfl rfl)) ?_
    refine .cons (.gT rfl rfl rfl (.l1 1 rfl rfl)) <| .cons (.gT rfl rfl rfl (.gt rfl rfl rfl)) <| .cons (.pF rfl rfl rfl) <| .nil <| ks_n ?_
    refine ACode.condT rfl (fun h28 => ?_) (fun h28 => ?_)
    ·try simp only [zs1, zs2, zs3, zs4, zs5, zs6, zs7] at h28
     refine .seq ?_
     have hO : boxOk xs = false := by cases hc : boxOk xs with | false => rfl | true => have := (boxOk_iff.1 hc).2 x (List.mem_of_getElem? hx1); omega
     have hB := boxN_no hO
     refine .region <| .cons (St1.lit0 (k' := 129) (e := 100) (sz := 2) (b := true) rfl rfl rfl rfl (by kernel_rfl) rfl rfl) ?_
     refine .cons (.asg rfl rfl) <| .cons (.asg rfl rfl) <| .nil <| ks_n <| .ret <| ks_r <| kb_r <| ks_r <| kl_r <| kb_r <| ks_r ?_
     refine kf_wret [(.t 2, .v (.o (vD (dLs (boxN xs))))), (.t 3, .v (.o (bo1 (boxOk xs))))] (Wk.keep [] rfl rfl ⟨ks rfl (.c (.fz rfl (by rw [hB]; first | rfl | (rw [List.take_length, List.map_map]; rfl) | (simp [dR]; done)) (by rw [hB]; simp) (by first | (simp; done) | (simp; omega) | omega))), ks rfl (.dt (by rw [hO])), trivial⟩) rfl ?_ nobox
     rfl
    ·try simp only [zs1, zs2, zs3, zs4, zs5, zs6, zs7] at h28
     refine .skip <| ks_n ?_
     refine ACode.drawK (by kernel_rfl) (by kernel_rfl) ?_
     refine .cons (.mv rfl rfl) <| .cons (.cP [] rfl rfl rfl rfl (l1Zero_fn) rfl) ?_
     refine .cons (.li 74 1 0 [.tmp 31] rfl rfl rfl rfl rfl rfl) <| .cons (.mv rfl rfl) <| .cons (.mv rfl rfl) <| .cons (.xL 3 1 8 rfl rfl rfl rfl rfl) ?_
     refine .cons (.l1 1 rfl rfl) <| .cons (.cP [.tmp 36] rfl rfl rfl rfl (l1Const_fn x) rfl) ?_
     refine .cons (.li 74 1 0 [.tmp 37] rfl rfl rfl rfl rfl rfl) <| .cons (.bu [(0, .tmp 32), (1, .tmp 38)] [(0, 1), (1, 1)] [.slice none 0 0, .slice none 0 0] rfl rfl rfl rfl rfl) <| .cons (.li 100 1 0 [.tmp 39] rfl rfl rfl rfl rfl rfl) <| .cons (St1.appB (k' := 141) (e := 100) (sz := 1) (by' := 48) rfl rfl rfl rfl rfl (by kernel_rfl) rfl rfl rfl rfl (by simp [dR]; omega) (by simp [dR]; omega) rfl rfl rfl) ?_
     refine .cons (.asg rfl rfl) ?_
     refine .nil ⟨by kernel_rfl, ?_⟩
     refine kb_n <| ks_n <| .region <| .cons (.mv rfl rfl) <| .cons (.pl rfl rfl rfl) <| .cons (.asg rfl rfl) <| .nil ?_
     refine kl_k [(110, 141)] ⟨i + 1, rfl, by omega, by intro j hj; by_cases e : j = i; (rw [e, getD_some hx1]; omega); exact hF j (by omega), rfl⟩ ⟨ks rfl .dt, ks rfl (.c .ow), ks rfl .dt, kb 141 rfl (.dt rfl (by first | exact dR_take (fun n => rL (bL n)) hx1 | exact dR_take1 (fun n => rL (bL n)) hx1 | rfl | (rw [hB, List.take_length, List.map_map]; rfl) | (simp [dR]; done))), trivial⟩
  ·skip
   obtain rfl : i = xs.length := by omega
   have hO : boxOk xs = true := boxOk_iff.2 ⟨by omega, fun y hy => by obtain ⟨j, hj⟩ := List.mem_iff_getElem?.1 hy; have h := hF j (List.getElem?_eq_some_iff.1 hj).1; rwa [getD_some hj] at h⟩
   have hB := boxN_yes hO
   refine .exit <| ks_e <| kl_e <| kb_hit <| ks_n <| .seq <| .region <| .cons (.mv rfl rfl) <| .cons (.asg rfl rfl) <| .cons (.asg rfl rfl) <| .nil <| ks_n <| .ret ?_
   refine kf_wret [(.t 2, .v (.o (vD (dLs (boxN xs))))), (.t 3, .v (.o (bo1 (boxOk xs))))] (Wk.keep [] rfl rfl ⟨ks rfl (.c (.fz rfl (by rw [hB]; first | rfl | (rw [List.take_length, List.map_map]; rfl) | (simp [dR]; done)) (by rw [hB]; simp) (by first | (simp; done) | (simp; omega) | omega))), ks rfl (.dt (by rw [hO])), trivial⟩) rfl ?_ nobox
   rfl
def tryS (bs : List Int) (ns : List Lp) : Nat → Nat → Option Stm × Nat
  | 0, q => (none, q)
  | m + 1, q => if prtV someL (ns, [(stmD bs ns.length q).1]) = true then (some (stmD bs ns.length q).1, (stmD bs ns.length q).2) else tryS bs ns m (stmD bs ns.length q).2
def addO (o : List Stm) : Option Stm → List Stm
  | none => o
  | some s => o ++ [s]
def bodS (bs : List Int) (ns : List Lp) : Nat → List Stm → Nat → List Stm × Nat
  | 0, o, q => (o, q)
  | k + 1, o, q => bodS bs ns k (addO o (tryS bs ns 5 q).1) (tryS bs ns 5 q).2
def dfS : Stm := (psV ⟨#[65, 91, 105, 93, 61, 40, 65, 91, 105, 93, 43, 123, 105, 125, 41]⟩).1
def dfP : Prt := (boxN [4], [dfS])
def bodQ (bs : List Int) (q : Nat) : List Stm × Nat := bodS bs (nestD bs q).1 (numV bs (nestD bs q).2 [1, 2, 1, 3]).toNat [] ((nestD bs q).2 + 1)
def bodD (bs : List Int) : Nat → Nat → Prt × Nat
  | 0, q => (dfP, q)
  | m + 1, q => if prtV someL ((nestD bs q).1, (bodQ bs q).1) = true ∧ cntP someL ((nestD bs q).1, (bodQ bs q).1) ≤ 40 then (((nestD bs q).1, (bodQ bs q).1), (bodQ bs q).2) else bodD bs m (bodQ bs q).2
theorem tryS_bd {bs : List Int} (hb : Bytes bs) {ns : List Lp} (hn : ns.length ≤ 4) : ∀ (m q : Nat), q + 266 * m ≤ 1000000000 → q ≤ (tryS bs ns m q).2 ∧ (tryS bs ns m q).2 ≤ q + 266 * m ∧ ∀ s, (tryS bs ns m q).1 = some s → szS s ≤ 266
  | 0, q, h => ⟨Nat.le_refl _, Nat.le_refl _, fun s hs => by cases hs⟩
  | m + 1, q, h => by
    have hq : q ≤ 1000000000 := by omega
    have h1 := stmD_bd hb hn q hq
    rw [tryS]
    generalize stmD bs ns.length q = r at *
    obtain ⟨s1, q1⟩ := r
    dsimp only at h1 ⊢
    split
    · exact ⟨h1.1, by dsimp only; omega, fun s hs => by cases hs; exact h1.2.2.1⟩
    · have h3 : q1 + 266 * m ≤ 1000000000 := by omega
      have h2 := tryS_bd hb hn m q1 h3
      exact ⟨by omega, by omega, h2.2.2⟩
theorem bodS_bd {bs : List Int} (hb : Bytes bs) {ns : List Lp} (hn : ns.length ≤ 4) : ∀ (k : Nat) (o : List Stm) (q : Nat), q + 1330 * k ≤ 100000000 → q ≤ (bodS bs ns k o q).2 ∧ (bodS bs ns k o q).2 ≤ q + 1330 * k ∧ szO szS (bodS bs ns k o q).1 ≤ szO szS o + 267 * k
  | 0, o, q, h => ⟨Nat.le_refl _, Nat.le_refl _, Nat.le_refl _⟩
  | k + 1, o, q, h => by
    have h5 : q + 1330 ≤ 1000000000 := by rw [Nat.mul_add] at h; omega
    have h1 := tryS_bd hb hn 5 q h5
    rw [bodS]
    generalize tryS bs ns 5 q = r at *
    obtain ⟨s1, q1⟩ := r
    dsimp only at h1 ⊢
    rw [Nat.mul_add, Nat.mul_one] at h ⊢
    have h0 : q1 + 1330 * k ≤ 100000000 := by omega
    have h2 := bodS_bd hb hn k (addO o s1) q1 h0
    have h3 : szO szS (addO o s1) ≤ szO szS o + 267 := by
      cases s1 with
      | none => rw [addO]; omega
      | some s => rw [addO, szO_app]; have := h1.2.2 s rfl; omega
    omega
theorem bodD_at {bs : List Int} {q i r0 r : Nat} {ns : List Lp} {o : List Stm} (hns : nestD bs q = (ns, r0)) (hE : bodQ bs q = (o, r)) (hi : i < 4) : bodD bs (4 - i) q = if prtV someL (ns, o) = true ∧ cntP someL (ns, o) ≤ 40 then ((ns, o), r) else bodD bs (4 - (i + 1)) (bodQ bs q).2 := by
  rw [show 4 - i = (4 - (i + 1)) + 1 by omega, bodD, hns, hE]
theorem some_ok : arrsV someL = true := by decide +kernel
theorem tryS_yes {bs : List Int} {ns : List Lp} {n w : Nat} {tr : Option Stm} {tq : Nat} (hn : n < 5) (h : prtV someL (ns, [(stmD bs ns.length w).1]) = true) (hT : tryS bs ns (5 - n) w = (tr, tq)) : tr = some (stmD bs ns.length w).1 ∧ tq = (stmD bs ns.length w).2 := by
  rw [show 5 - n = (5 - (n + 1)) + 1 by omega, tryS, if_pos h] at hT
  cases hT; exact ⟨rfl, rfl⟩
theorem tryS_end {bs : List Int} {ns : List Lp} {n w : Nat} {tr : Option Stm} {tq : Nat} (hn : 5 ≤ n) (hT : tryS bs ns (5 - n) w = (tr, tq)) : tr = none ∧ tq = w := by
  rw [show 5 - n = 0 by omega, tryS] at hT
  cases hT; exact ⟨rfl, rfl⟩
theorem sum_bd {α : Type} {f : α → Nat} {c : Nat} : ∀ {l : List α}, (∀ x ∈ l, f x ≤ c) → (l.map f).sum ≤ c * l.length
  | [], _ => by simp
  | x :: l, h => by
    have h1 := sum_bd (l := l) fun y hy => h y (List.mem_cons_of_mem _ hy)
    have h2 := h x List.mem_cons_self
    rw [List.map_cons, List.sum_cons, List.length_cons, Nat.mul_add]; omega
theorem szLs_ok {ns : List Lp} (h : okN 3 ns) : szLs ns ≤ 1000 := by
  have h1 := sum_bd (f := szL) (c := 30) (l := ns) fun l hl => by
    obtain ⟨_, a1, a2, a3, a4⟩ := h.2 l hl
    have b1 := szAs_le a3
    have b2 := szAs_le a4
    rw [szL]; omega
  have h2 := h.1
  rw [szLs]; omega

theorem bodD_fn {bs : List Int} (hb : Bytes bs) {p : Nat} (hp : p ≤ 2000000) : Fn Try.prog 46 (hbR bs p) [vR] (.o (ad (rP (bodD bs 4 p).1))) (hbR bs (bodD bs 4 p).2) := by
  refine Fn.of_code Try.func46 rfl rfl (hbR_HB _ _) rfl rfl (hbR_HB _ _) rfl (hbR_num _ _ _) ?_
  refine .seq <| .region <| .cons (.al 102 [.slice none 0 0, .slice none 0 0] rfl rfl rfl) <| .nil <| ks_n <| .seq <| .seq <| .region <| .cons (.asg rfl rfl) <| .nil <| ks_n <| .block ?_
  refine .loopK (fun m σ => (∃ (i q : Nat), m = 4 - i ∧ (i ≤ 4) ∧ (q ≤ p + 5000 * i) ∧ (bodD bs 4 p = bodD bs (4 - i) q) ∧ σ = [(.t 0, .v (.o (.c (.box 0 2 0 0)))), (.t 2, .v (.o (.c (.box 110 2 0 0)))), (.t 3, .v (.o (nat1 (i : Nat)))), (.b 0, .b 48 2 (dR ([rRd bs q]))), (.u 0, .u), (.b 110, .b 65 2 [[.d (.val (.slice none 0 0)), .d (.val (.slice none 0 0))]]), (.u 110, .u)])) [(0, 0), (110, 102)] ⟨0, p, rfl, by omega, by omega, rfl, rfl⟩ ⟨ks rfl (.c .bx), ks rfl (.c .bx), ks rfl .dt, kb 0 rfl (.dt rfl (by first | rfl | (rw [hw2]; done) | (rw [hE]; done))), kb 102 rfl (.cons (.cons .dt (.cons .dt Ctos.nil)) .nil), trivial⟩ ?_
  rintro m σ ⟨i, q, hm0, hi, hq, hF, rfl⟩
  refine .seq <| .seq <| .region <| .cons (.mv rfl rfl) <| .cons (.ls rfl rfl rfl) <| .nil <| ks_n ?_
  refine .cD rfl (fun h17 => ?_) (fun h17 => ?_)
  · skip
    obtain ⟨ns, r0, hns⟩ : ∃ a b, nestD bs q = (a, b) := ⟨_, _, rfl⟩
    have hnd := l2Nest_own hb (p := q) (by omega)
    have hok := nestD_ok hb (p := q) (by omega)
    rw [hns] at hnd hok
    dsimp only at hnd hok
    have hn4 : ns.length ≤ 4 := Nat.le_trans hok.1.1 (by omega)
    have hm := numV_mem hb (p := r0) (by omega) (xs := [1, 2, 1, 3]) (by simp)
    obtain ⟨K, hK⟩ : ∃ N : Nat, N = (numV bs r0 [1, 2, 1, 3]).toNat := ⟨_, rfl⟩
    have hK3 : K ≤ 3 := by simp at hm; omega
    have hKv : numV bs r0 [1, 2, 1, 3] = (K : Int) := by simp at hm; omega
    have hQ : bodQ bs q = bodS bs ns K [] (r0 + 1) := by rw [bodQ, hns, ← hK]
    refine .skip <| ks_n <| .seq <| .block <| .seq <| .region <| .cons (.mv rfl rfl) <| .cons (.cR [.tmp 20] 0 rfl rfl rfl rfl (hnd) rfl ⟨rfl, trivial⟩) ?_
    refine .cons (.bu [(0, .tmp 21)] [(0, 1), (1, 1)] [.slice none 0 0, .slice none 0 0] rfl rfl rfl rfl rfl) <| .cons (.al 104 [.slice none 0 0, .slice none 0 0] rfl rfl rfl) <| .cons (.sT 2 true rfl rfl rfl rfl rfl rfl rfl) <| .nil <| ks_n <| .seq <| .seq <| .region <| .cons (.mv rfl rfl) <| .cons (.li 3 0 3 [.const (.int .i64 (1)), .const (.int .i64 (2)), .const (.int .i64 (1)), .const (.int .i64 (3))] rfl rfl rfl rfl rfl rfl) <| .cons (.cR [.tmp 23, .tmp 24] 0 rfl rfl rfl rfl (num_fn hb (by omega) [1, 2, 1, 3] (by simp)) rfl ⟨rfl, trivial⟩) ?_
    refine .cons (.asg rfl rfl) <| .nil <| ks_n <| .block ?_
    refine .loopK (fun m σ => (∃ (k r : Nat), m = k + 0 ∧ (k ≤ 3) ∧ (r ≤ r0 + 1 + 1330 * (3 - k)) ∧ (bodQ bs q = bodS bs ns k [] r) ∧ σ = [(.t 0, .v (.o (.c (.box 0 2 0 0)))), (.t 2, .v (.o (.c (.box 120 2 0 0)))), (.t 3, .v (.o (nat1 (i : Nat)))), (.t 4, .v (.o (.c (.box 121 2 0 0)))), (.t 5, .v (.o (nat1 (k : Nat)))), (.b 0, .b 48 2 (dR ([rRd bs r]))), (.u 0, .u), (.b 120, .b 65 2 [[.d (.val (.slice none 0 0)), .d (.val (.slice none 0 0))]]), (.u 120, .u), (.b 121, .b 65 2 [[.d (dLs ns), .d (.val (.slice none 0 0))]]), (.u 121, .u)]) ∨ (∃ (k : Nat) (o : List Stm) (r : Nat), m = k + 0 ∧ (k ≤ 3) ∧ (r ≤ r0 + 1 + 1330 * (3 - k)) ∧ (bodQ bs q = bodS bs ns k o r) ∧ (1 ≤ o.length ∧ o.length + k ≤ 3) ∧ (szO szS o ≤ 300 * o.length) ∧ σ = [(.t 0, .v (.o (.c (.box 0 2 0 0)))), (.t 2, .v (.o (.c (.box 120 2 0 0)))), (.t 3, .v (.o (nat1 (i : Nat)))), (.t 4, .v (.o (.c (.box 121 2 0 0)))), (.t 5, .v (.o (nat1 (k : Nat)))), (.b 0, .b 48 2 (dR ([rRd bs r]))), (.u 0, .u), (.b 120, .b 65 2 [[.d (.val (.slice none 0 0)), .d (.val (.slice none 0 0))]]), (.u 120, .u), (.b 122, .b 79 9 (dR (o.map rS))), (.u 122, .u), (.b 121, .b 65 2 [[.d (dLs ns), .own 122 9 (o.length)]]), (.u 121, .u)])) [(0, 0), (120, 110), (121, 104)] (.inl ⟨K, r0 + 1, rfl, by omega, by omega, hQ, rfl⟩) ⟨ks rfl (.c .bx), ks rfl (.c .bx), ks rfl .dt, ks rfl (.c .bx), ks rfl (.dt (vI (by omega))), kb 0 rfl (.dt rfl (by first | rfl | (rw [hw2]; done) | (rw [hE]; done))), kb 110 rfl (.cons (.cons .dt (.cons .dt Ctos.nil)) .nil), kb 104 rfl (.cons (.cons .dt (.cons .dt Ctos.nil)) .nil), trivial⟩ ?_
    rintro m σ (⟨k, r, hm0, hk, hr, hG, rfl⟩ | ⟨k, o, r, hm0, hk, hr, hG, ho, hz, rfl⟩)
    · skip
      obtain ⟨tr, tq, htr⟩ : ∃ a b, tryS bs ns 5 r = (a, b) := ⟨_, _, rfl⟩
      have hbt := tryS_bd hb hn4 5 r (by omega)
      rw [htr] at hbt
      dsimp only at hbt
      refine .seq <| .seq <| .region <| .cons (.mv rfl rfl) <| .cons (.gt rfl rfl rfl) <| .nil <| ks_n ?_
      refine .cD rfl (fun h27 => ?_) (fun h27 => ?_)
      · skip
        refine .skip <| ks_n <| .seq <| .block <| .seq <| .region <| .cons (.asg rfl rfl) <| .nil <| ks_n <| .block ?_
        refine .loopK (fun m σ => (∃ (n w : Nat), m = 5 - n ∧ (n ≤ 5) ∧ (w ≤ r + 266 * n) ∧ (tryS bs ns (5 - n) w = (tr, tq)) ∧ σ = [(.t 0, .v (.o (.c (.box 0 2 0 0)))), (.t 2, .v (.o (.c (.box 130 2 0 0)))), (.t 3, .v (.o (nat1 (i : Nat)))), (.t 4, .v (.o (.c (.box 131 2 0 0)))), (.t 5, .v (.o (nat1 (k : Nat)))), (.t 6, .v (.o (nat1 (n : Nat)))), (.b 0, .b 48 2 (dR ([rRd bs w]))), (.u 0, .u), (.b 130, .b 65 2 [[.d (.val (.slice none 0 0)), .d (.val (.slice none 0 0))]]), (.u 130, .u), (.b 131, .b 65 2 [[.d (dLs ns), .d (.val (.slice none 0 0))]]), (.u 131, .u)])) [(0, 0), (130, 120), (131, 121)] ⟨0, r, rfl, by omega, by omega, htr, rfl⟩ ⟨ks rfl (.c .bx), ks rfl (.c .bx), ks rfl .dt, ks rfl (.c .bx), ks rfl .dt, ks rfl .dt, kb 0 rfl (.dt rfl (by first | rfl | (rw [hw2]; done) | (rw [hE]; done))), kb 120 rfl (.cons (.cons .dt (.cons .dt Ctos.nil)) .nil), kb 121 rfl (.cons (.cons .dt (.cons .dt Ctos.nil)) .nil), trivial⟩ ?_
        rintro m σ ⟨n, w, hm0, hn5, hw, hT, rfl⟩
        refine .seq <| .seq <| .region <| .cons (.mv rfl rfl) <| .cons (.ls rfl rfl rfl) <| .nil <| ks_n ?_
        refine .cD rfl (fun h31 => ?_) (fun h31 => ?_)
        · skip
          have hbs := stmD_bd hb hn4 w (by omega)
          refine .skip <| ks_n <| .seq <| .block <| .seq <| .region <| .cons (.mv rfl rfl) <| .cons (.fB 0 0 false rfl rfl rfl) <| .cons (.b1 1 rfl rfl rfl rfl rfl rfl) <| .cons (.ln 100 2 48 rfl rfl rfl) <| .cons (.cR [.tmp 34, .tmp 37] 0 rfl rfl rfl rfl (l3Stmt_fn hb (by omega) ns.length (by omega)) rfl ⟨rfl, trivial⟩) ?_
          refine .cons (.al 107 [.string ByteArray.empty, .slice none 0 0, .int .i64 0, .int .i64 0, .slice none 0 0, .int .i64 0, .string ByteArray.empty, .slice none 0 0, .slice none 0 0] rfl rfl rfl) <| .cons (.sT 9 true rfl rfl rfl rfl rfl rfl rfl) <| .nil <| ks_n <| .seq ?_
          refine ACode.drawK (by kernel_rfl) (by kernel_rfl) ?_
          refine .cons (.cP [] rfl rfl rfl rfl (l4Some_fn) rfl) ?_
          refine .cons (.fB 0 0 false rfl rfl rfl) <| .cons (.b1 1 rfl rfl rfl rfl rfl rfl) <| .cons (.bN 9 rfl rfl rfl rfl rfl rfl) <| .cons (.li 79 8 0 [.tmp 43] rfl rfl rfl rfl rfl rfl) <| .cons (.bu [(0, .tmp 42), (1, .tmp 44)] [(0, 1), (1, 1)] [.slice none 0 0, .slice none 0 0] rfl rfl rfl rfl rfl) <| .cons (.cP [.tmp 40, .tmp 45] rfl rfl rfl rfl (l4Part_fn some_ok (q := (ns, [(stmD bs ns.length w).1])) (by show szLs ns + szO szS [(stmD bs ns.length w).1] ≤ 1073741824; have := szLs_ok hok.1; simp [szO]; omega)) rfl) ?_
          refine .cons (.mv rfl rfl) <| .cons (.ex rfl rfl rfl) <| .cons (.ex rfl rfl rfl) <| .cons (.asg rfl rfl) <| .cons (.asg rfl rfl) ?_
          refine .nil ⟨by kernel_rfl, ?_⟩
          refine ks_n <| .seq <| .region <| .cons (.mv rfl rfl) <| .nil <| ks_n ?_
          refine ACode.condT rfl (fun h49 => ?_) (fun h49 => ?_)
          · try simp only [zs1, zs2, zs3, zs4, zs5, zs6, zs7] at h49
            obtain ⟨hSome, hw2⟩ := tryS_yes (by omega) h49 hT
            refine .seq <| .region <| .cons (.fB 1 0 false rfl rfl rfl) <| .cons (.b1 1 rfl rfl rfl rfl rfl rfl) <| .cons (.bN 9 rfl rfl rfl rfl rfl rfl) <| .cons (.li 79 8 0 [.tmp 52] rfl rfl rfl rfl rfl rfl) <| .cons (St1.appN (k' := 154) (e := 79) (sz := 8) (by' := 152) rfl rfl rfl rfl rfl (by kernel_rfl) rfl rfl rfl (by simp) (by first | (simp [dR]; done) | (simp [dR]; omega)) rfl rfl) ?_
            refine .cons (.fB 1 0 false rfl rfl rfl) <| .cons (.sT 1 false rfl rfl rfl rfl rfl rfl rfl) <| .nil <| ks_n <| .exit ?_
            refine kb_miss rfl ?_
            refine ks_e <| kl_e <| kb_hit <| kb_n <| ks_n <| .region <| .cons (.mv rfl rfl) <| .cons (.sb rfl rfl rfl) <| .cons (.asg rfl rfl) <| .nil ?_
            refine kl_k [(0, 0), (120, 130), (121, 131), (122, 154)] (.inr ⟨k - 1, [(stmD bs ns.length w).1], tq, rfl, by omega, by omega, by rw [hG]; obtain ⟨j, rfl⟩ : ∃ j, k = j + 1 := ⟨k - 1, by omega⟩; rw [bodS, htr, hSome]; rfl, ⟨by simp, by rw [List.length_singleton]; omega⟩, by simp [szO]; omega, rfl⟩) ⟨ks rfl (.c .bx), ks rfl (.c .bx), ks rfl .dt, ks rfl (.c .bx), ks rfl (.dt (vI (by omega))), kb 0 rfl (.dt rfl (by first | rfl | (rw [hw2]; done) | (rw [hE]; done))), kb 130 rfl (.cons (.cons .dt (.cons .dt Ctos.nil)) .nil), kb 154 rfl (.dt rfl (by first | rfl | (simp [dR, rS]; done) | (simp [dR]; done))), kb 131 rfl (.cons (.cons .dt (.cons .ow Ctos.nil)) .nil), trivial⟩
          · try simp only [zs1, zs2, zs3, zs4, zs5, zs6, zs7] at h49
            refine .skip <| kb_n <| ks_n <| .region <| .cons (.mv rfl rfl) <| .cons (.pl rfl rfl rfl) <| .cons (.asg rfl rfl) <| .nil ?_
            refine kl_k [(0, 0), (130, 130), (131, 131)] ⟨n + 1, (stmD bs ns.length w).2, rfl, by omega, by omega, by rw [← hT, show 5 - n = (5 - (n + 1)) + 1 by omega, tryS, if_neg (by rw [h49]; decide)], rfl⟩ ⟨ks rfl (.c .bx), ks rfl (.c .bx), ks rfl .dt, ks rfl (.c .bx), ks rfl .dt, ks rfl .dt, kb 0 rfl (.dt rfl (by first | rfl | (rw [hw2]; done) | (rw [hE]; done))), kb 130 rfl (.cons (.cons .dt (.cons .dt Ctos.nil)) .nil), kb 131 rfl (.cons (.cons .dt (.cons .dt Ctos.nil)) .nil), trivial⟩
        · skip
          obtain ⟨hNone, hw2⟩ := tryS_end (by omega) hT
          refine .exit <| ks_e <| kl_e <| kb_hit <| kb_n <| ks_n <| .region <| .cons (.mv rfl rfl) <| .cons (.sb rfl rfl rfl) <| .cons (.asg rfl rfl) <| .nil ?_
          refine kl_k [(0, 0), (120, 130), (121, 131)] (.inl ⟨k - 1, tq, rfl, by omega, by omega, by rw [hG]; obtain ⟨j, rfl⟩ : ∃ j, k = j + 1 := ⟨k - 1, by omega⟩; rw [bodS, htr, hNone]; rfl, rfl⟩) ⟨ks rfl (.c .bx), ks rfl (.c .bx), ks rfl .dt, ks rfl (.c .bx), ks rfl (.dt (vI (by omega))), kb 0 rfl (.dt rfl (by first | rfl | (rw [hw2]; done) | (rw [hE]; done))), kb 130 rfl (.cons (.cons .dt (.cons .dt Ctos.nil)) .nil), kb 131 rfl (.cons (.cons .dt (.cons .dt Ctos.nil)) .nil), trivial⟩
      · skip
        obtain rfl : k = 0 := by omega
        have hE : bodQ bs q = (([] : List Stm), r) := hG
        have hB0 := bodD_at (bs := bs) (q := q) (i := i) hns hE (by omega)
        refine .exit <| ks_e <| kl_e <| kb_hit <| ks_n <| .seq ?_
        refine .keep [(.t 0, .v (.o (.c (.box 0 2 0 0)))), (.t 2, .v (.o (.c (.box 500 2 0 0)))), (.t 3, .v (.o (nat1 (i : Nat)))), (.t 4, .v (.o (.c (.box 501 2 0 0)))), (.b 0, .b 48 2 (dR ([rRd bs r]))), (.u 0, .u), (.b 500, .b 65 2 [[.d (.val (.slice none 0 0)), .d (.val (.slice none 0 0))]]), (.u 500, .u), (.b 501, .b 65 2 [[.d (dLs ns), .d (dMs ([] : List Stm))]]), (.u 501, .u)] [(0, 0), (500, 120), (501, 121)] ⟨ks rfl (.c .bx), ks rfl (.c .bx), ks rfl .dt, ks rfl (.c .bx), kb 0 rfl (.dt rfl (by first | rfl | (rw [hw2]; done) | (rw [hE]; done))), kb 120 rfl (.cons (.cons .dt (.cons .dt Ctos.nil)) .nil), kb 121 rfl (.cons (.cons .dt (.cons (Cto.nilE 9 rfl) Ctos.nil)) .nil), trivial⟩ ?_
        refine ACode.drawK (by kernel_rfl) (by kernel_rfl) ?_
        refine .cons (.cP [] rfl rfl rfl rfl (l4Some_fn) rfl) ?_
        refine .cons (.bN 2 rfl rfl rfl rfl rfl rfl) <| .cons (.cP [.tmp 57, .tmp 58] rfl rfl rfl rfl (l4Part_fn some_ok (q := (ns, ([] : List Stm))) (by show szLs ns + szO szS ([] : List Stm) ≤ 1073741824; have := szLs_ok hok.1; first | omega | (simp [szO]; omega))) rfl) ?_
        refine .cons (.mv rfl rfl) <| .cons (.ex rfl rfl rfl) <| .cons (.ex rfl rfl rfl) <| .cons (.asg rfl rfl) <| .cons (.asg rfl rfl) ?_
        refine .nil ⟨by kernel_rfl, ?_⟩
        refine ks_n <| .seq <| .region <| .cons (.mv rfl rfl) <| .cons (.mv rfl rfl) ?_
        refine AOps.cases 63 _ rfl (fun g63 => ?_) (fun g63 => ?_)
        · try simp only [zs1, zs2, zs3, zs4, zs5, zs6, zs7] at g63
          refine .cons (.gT rfl rfl rfl (.mv rfl rfl)) <| .cons (.gT rfl rfl rfl (.le rfl rfl rfl)) <| .cons (.pT rfl rfl rfl) <| .nil <| ks_n ?_
          refine ACode.condT rfl (fun h66 => ?_) (fun h66 => ?_)
          · try simp only [zs1, zs2, zs3, zs4, zs5, zs6, zs7] at h66
            have hT : bodD bs 4 p = ((ns, ([] : List Stm)), r) := by rw [hF, hB0, if_pos (by first | (simp [*]; done) | (exact ⟨by simp_all, by simp_all⟩))]
            refine .seq <| .region <| .cons (.bN 2 rfl rfl rfl rfl rfl rfl) <| .cons (.sT 2 true rfl rfl rfl rfl rfl rfl rfl) <| .nil <| ks_n <| .ret <| kb_r <| ks_r <| kl_r <| kb_r <| ks_r ?_
            refine kf_wret [(.t 2, .v (.o (.c (.box 100 2 0 0)))), (.b 0, .b 48 2 (dR ([rRd bs (bodD bs 4 p).2]))), (.u 0, .u), (.b 100, .b 65 2 [[.d (dLs (bodD bs 4 p).1.1), .d (dMs (bodD bs 4 p).1.2)]]), (.u 100, .u)] (Wk.keep [(0, 0), (100, 500)] rfl rfl ⟨ks rfl (.c .bx), kb 0 rfl (.dt rfl (by rw [hT])), kb 500 rfl (.cons (.cons (.dt (by first | (rw [hT]; done) | (rw [hT]; rfl))) (.cons (.dt (by first | (rw [hT]; done) | (rw [hT]; rfl))) Ctos.nil)) .nil), trivial⟩) rfl ?_ (hbR_box rfl)
            rfl
          · try simp only [zs1, zs2, zs3, zs4, zs5, zs6, zs7] at h66
            refine .skip <| kb_n <| ks_n <| .region <| .cons (.mv rfl rfl) <| .cons (.pl rfl rfl rfl) <| .cons (.asg rfl rfl) <| .nil ?_
            refine kl_k [(0, 0), (110, 500)] ⟨i + 1, (bodQ bs q).2, rfl, by omega, by rw [hE]; dsimp only; omega, by rw [hF, hB0, if_neg (by first | (simp [*]; done) | (intro hh; simp_all; done) | (intro hh; simp_all; omega))], rfl⟩ ⟨ks rfl (.c .bx), ks rfl (.c .bx), ks rfl .dt, kb 0 rfl (.dt rfl (by first | rfl | (rw [hw2]; done) | (rw [hE]; done))), kb 500 rfl (.cons (.cons .dt (.cons .dt Ctos.nil)) .nil), trivial⟩
        · try simp only [zs1, zs2, zs3, zs4, zs5, zs6, zs7] at g63
          refine .cons (.gF rfl rfl rfl) <| .cons (.gF rfl rfl rfl) <| .cons (.pF rfl rfl rfl) <| .nil <| ks_n ?_
          refine ACode.condT rfl (fun h => by first | (cases h; done) | (simp [*] at h; done) | (exfalso; simp_all; done)) (fun _ => ?_)
          refine .skip <| kb_n <| ks_n <| .region <| .cons (.mv rfl rfl) <| .cons (.pl rfl rfl rfl) <| .cons (.asg rfl rfl) <| .nil ?_
          refine kl_k [(0, 0), (110, 500)] ⟨i + 1, (bodQ bs q).2, rfl, by omega, by rw [hE]; dsimp only; omega, by rw [hF, hB0, if_neg (by first | (simp [*]; done) | (intro hh; simp_all; done) | (intro hh; simp_all; omega))], rfl⟩ ⟨ks rfl (.c .bx), ks rfl (.c .bx), ks rfl .dt, kb 0 rfl (.dt rfl (by first | rfl | (rw [hw2]; done) | (rw [hE]; done))), kb 500 rfl (.cons (.cons .dt (.cons .dt Ctos.nil)) .nil), trivial⟩
    · skip
      obtain ⟨tr, tq, htr⟩ : ∃ a b, tryS bs ns 5 r = (a, b) := ⟨_, _, rfl⟩
      have hbt := tryS_bd hb hn4 5 r (by omega)
      rw [htr] at hbt
      dsimp only at hbt
      refine .seq <| .seq <| .region <| .cons (.mv rfl rfl) <| .cons (.gt rfl rfl rfl) <| .nil <| ks_n ?_
      refine .cD rfl (fun h27 => ?_) (fun h27 => ?_)
      · skip
        refine .skip <| ks_n <| .seq <| .block <| .seq <| .region <| .cons (.asg rfl rfl) <| .nil <| ks_n <| .block ?_
        refine .loopK (fun m σ => (∃ (n w : Nat), m = 5 - n ∧ (n ≤ 5) ∧ (w ≤ r + 266 * n) ∧ (tryS bs ns (5 - n) w = (tr, tq)) ∧ σ = [(.t 0, .v (.o (.c (.box 0 2 0 0)))), (.t 2, .v (.o (.c (.box 130 2 0 0)))), (.t 3, .v (.o (nat1 (i : Nat)))), (.t 4, .v (.o (.c (.box 131 2 0 0)))), (.t 5, .v (.o (nat1 (k : Nat)))), (.t 6, .v (.o (nat1 (n : Nat)))), (.b 0, .b 48 2 (dR ([rRd bs w]))), (.u 0, .u), (.b 130, .b 65 2 [[.d (.val (.slice none 0 0)), .d (.val (.slice none 0 0))]]), (.u 130, .u), (.b 132, .b 79 9 (dR (o.map rS))), (.u 132, .u), (.b 131, .b 65 2 [[.d (dLs ns), .own 132 9 (o.length)]]), (.u 131, .u)])) [(0, 0), (130, 120), (131, 121), (132, 122)] ⟨0, r, rfl, by omega, by omega, htr, rfl⟩ ⟨ks rfl (.c .bx), ks rfl (.c .bx), ks rfl .dt, ks rfl (.c .bx), ks rfl .dt, ks rfl .dt, kb 0 rfl (.dt rfl (by first | rfl | (rw [hw2]; done) | (rw [hE]; done))), kb 120 rfl (.cons (.cons .dt (.cons .dt Ctos.nil)) .nil), kb 122 rfl (.dt rfl (by first | rfl | (simp [dR, rS]; done) | (simp [dR]; done))), kb 121 rfl (.cons (.cons .dt (.cons .ow Ctos.nil)) .nil), trivial⟩ ?_
        rintro m σ ⟨n, w, hm0, hn5, hw, hT, rfl⟩
        refine .seq <| .seq <| .region <| .cons (.mv rfl rfl) <| .cons (.ls rfl rfl rfl) <| .nil <| ks_n ?_
        refine .cD rfl (fun h31 => ?_) (fun h31 => ?_)
        · skip
          have hbs := stmD_bd hb hn4 w (by omega)
          refine .skip <| ks_n <| .seq <| .block <| .seq <| .region <| .cons (.mv rfl rfl) <| .cons (.fB 0 0 false rfl rfl rfl) <| .cons (.b1 1 rfl rfl rfl rfl rfl rfl) <| .cons (.ln 100 2 48 rfl rfl rfl) <| .cons (.cR [.tmp 34, .tmp 37] 0 rfl rfl rfl rfl (l3Stmt_fn hb (by omega) ns.length (by omega)) rfl ⟨rfl, trivial⟩) ?_
          refine .cons (.al 107 [.string ByteArray.empty, .slice none 0 0, .int .i64 0, .int .i64 0, .slice none 0 0, .int .i64 0, .string ByteArray.empty, .slice none 0 0, .slice none 0 0] rfl rfl rfl) <| .cons (.sT 9 true rfl rfl rfl rfl rfl rfl rfl) <| .nil <| ks_n <| .seq ?_
          refine ACode.drawK (by kernel_rfl) (by kernel_rfl) ?_
          refine .cons (.cP [] rfl rfl rfl rfl (l4Some_fn) rfl) ?_
          refine .cons (.fB 0 0 false rfl rfl rfl) <| .cons (.b1 1 rfl rfl rfl rfl rfl rfl) <| .cons (.bN 9 rfl rfl rfl rfl rfl rfl) <| .cons (.li 79 8 0 [.tmp 43] rfl rfl rfl rfl rfl rfl) <| .cons (.bu [(0, .tmp 42), (1, .tmp 44)] [(0, 1), (1, 1)] [.slice none 0 0, .slice none 0 0] rfl rfl rfl rfl rfl) <| .cons (.cP [.tmp 40, .tmp 45] rfl rfl rfl rfl (l4Part_fn some_ok (q := (ns, [(stmD bs ns.length w).1])) (by show szLs ns + szO szS [(stmD bs ns.length w).1] ≤ 1073741824; have := szLs_ok hok.1; simp [szO]; omega)) rfl) ?_
          refine .cons (.mv rfl rfl) <| .cons (.ex rfl rfl rfl) <| .cons (.ex rfl rfl rfl) <| .cons (.asg rfl rfl) <| .cons (.asg rfl rfl) ?_
          refine .nil ⟨by kernel_rfl, ?_⟩
          refine ks_n <| .seq <| .region <| .cons (.mv rfl rfl) <| .nil <| ks_n ?_
          refine ACode.condT rfl (fun h49 => ?_) (fun h49 => ?_)
          · try simp only [zs1, zs2, zs3, zs4, zs5, zs6, zs7] at h49
            obtain ⟨hSome, hw2⟩ := tryS_yes (by omega) h49 hT
            refine .seq <| .region <| .cons (.fB 1 0 false rfl rfl rfl) <| .cons (.b1 1 rfl rfl rfl rfl rfl rfl) <| .cons (.bN 9 rfl rfl rfl rfl rfl rfl) <| .cons (.li 79 8 0 [.tmp 52] rfl rfl rfl rfl rfl rfl) <| .cons (St1.appB (k' := 154) (e := 79) (sz := 8) (by' := 152) rfl rfl rfl rfl rfl (by kernel_rfl) rfl rfl rfl rfl (by simp [dR]) (by first | (simp [dR]; done) | (simp [dR]; omega)) rfl rfl rfl) ?_
            refine .cons (.fB 1 0 false rfl rfl rfl) <| .cons (.sT 1 false rfl rfl rfl rfl rfl rfl rfl) <| .nil <| ks_n <| .exit ?_
            refine kb_miss rfl ?_
            refine ks_e <| kl_e <| kb_hit <| kb_n <| ks_n <| .region <| .cons (.mv rfl rfl) <| .cons (.sb rfl rfl rfl) <| .cons (.asg rfl rfl) <| .nil ?_
            refine kl_k [(0, 0), (120, 130), (121, 131), (122, 154)] (.inr ⟨k - 1, o ++ [(stmD bs ns.length w).1], tq, rfl, by omega, by omega, by rw [hG]; obtain ⟨j, rfl⟩ : ∃ j, k = j + 1 := ⟨k - 1, by omega⟩; rw [bodS, htr, hSome]; rfl, by rw [List.length_append, List.length_singleton]; omega, by rw [szO_app, List.length_append, List.length_singleton]; omega, rfl⟩) ⟨ks rfl (.c .bx), ks rfl (.c .bx), ks rfl .dt, ks rfl (.c .bx), ks rfl (.dt (vI (by omega))), kb 0 rfl (.dt rfl (by first | rfl | (rw [hw2]; done) | (rw [hE]; done))), kb 130 rfl (.cons (.cons .dt (.cons .dt Ctos.nil)) .nil), kb 154 rfl (.dt rfl (by first | rfl | (simp [dR, rS]; done) | (simp [dR]; done))), kb 131 rfl (.cons (.cons .dt (.cons .ow Ctos.nil)) .nil), trivial⟩
          · try simp only [zs1, zs2, zs3, zs4, zs5, zs6, zs7] at h49
            refine .skip <| kb_n <| ks_n <| .region <| .cons (.mv rfl rfl) <| .cons (.pl rfl rfl rfl) <| .cons (.asg rfl rfl) <| .nil ?_
            refine kl_k [(0, 0), (130, 130), (131, 131), (132, 132)] ⟨n + 1, (stmD bs ns.length w).2, rfl, by omega, by omega, by rw [← hT, show 5 - n = (5 - (n + 1)) + 1 by omega, tryS, if_neg (by rw [h49]; decide)], rfl⟩ ⟨ks rfl (.c .bx), ks rfl (.c .bx), ks rfl .dt, ks rfl (.c .bx), ks rfl .dt, ks rfl .dt, kb 0 rfl (.dt rfl (by first | rfl | (rw [hw2]; done) | (rw [hE]; done))), kb 130 rfl (.cons (.cons .dt (.cons .dt Ctos.nil)) .nil), kb 132 rfl (.dt rfl (by first | rfl | (simp [dR, rS]; done) | (simp [dR]; done))), kb 131 rfl (.cons (.cons .dt (.cons .ow Ctos.nil)) .nil), trivial⟩
        · skip
          obtain ⟨hNone, hw2⟩ := tryS_end (by omega) hT
          refine .exit <| ks_e <| kl_e <| kb_hit <| kb_n <| ks_n <| .region <| .cons (.mv rfl rfl) <| .cons (.sb rfl rfl rfl) <| .cons (.asg rfl rfl) <| .nil ?_
          refine kl_k [(0, 0), (120, 130), (121, 131), (122, 132)] (.inr ⟨k - 1, o, tq, rfl, by omega, by omega, by rw [hG]; obtain ⟨j, rfl⟩ : ∃ j, k = j + 1 := ⟨k - 1, by omega⟩; rw [bodS, htr, hNone]; rfl, by omega, by omega, rfl⟩) ⟨ks rfl (.c .bx), ks rfl (.c .bx), ks rfl .dt, ks rfl (.c .bx), ks rfl (.dt (vI (by omega))), kb 0 rfl (.dt rfl (by first | rfl | (rw [hw2]; done) | (rw [hE]; done))), kb 130 rfl (.cons (.cons .dt (.cons .dt Ctos.nil)) .nil), kb 132 rfl (.dt rfl (by first | rfl | (simp [dR, rS]; done) | (simp [dR]; done))), kb 131 rfl (.cons (.cons .dt (.cons .ow Ctos.nil)) .nil), trivial⟩
      · skip
        obtain rfl : k = 0 := by omega
        have hE : bodQ bs q = (o, r) := hG
        have hB0 := bodD_at (bs := bs) (q := q) (i := i) hns hE (by omega)
        refine .exit <| ks_e <| kl_e <| kb_hit <| ks_n <| .seq ?_
        refine .keep [(.t 0, .v (.o (.c (.box 0 2 0 0)))), (.t 2, .v (.o (.c (.box 500 2 0 0)))), (.t 3, .v (.o (nat1 (i : Nat)))), (.t 4, .v (.o (.c (.box 501 2 0 0)))), (.b 0, .b 48 2 (dR ([rRd bs r]))), (.u 0, .u), (.b 500, .b 65 2 [[.d (.val (.slice none 0 0)), .d (.val (.slice none 0 0))]]), (.u 500, .u), (.b 501, .b 65 2 [[.d (dLs ns), .d (dMs o)]]), (.u 501, .u)] [(0, 0), (500, 120), (501, 121)] ⟨ks rfl (.c .bx), ks rfl (.c .bx), ks rfl .dt, ks rfl (.c .bx), kb 0 rfl (.dt rfl (by first | rfl | (rw [hw2]; done) | (rw [hE]; done))), kb 120 rfl (.cons (.cons .dt (.cons .dt Ctos.nil)) .nil), kb 121 rfl (.cons (.cons .dt (.cons (.fz rfl rfl (by simp) (by omega)) Ctos.nil)) .nil), trivial⟩ ?_
        refine ACode.drawK (by kernel_rfl) (by kernel_rfl) ?_
        refine .cons (.cP [] rfl rfl rfl rfl (l4Some_fn) rfl) ?_
        refine .cons (.bN 2 rfl rfl rfl rfl rfl rfl) <| .cons (.cP [.tmp 57, .tmp 58] rfl rfl rfl rfl (l4Part_fn some_ok (q := (ns, o)) (by show szLs ns + szO szS o ≤ 1073741824; have := szLs_ok hok.1; first | omega | (simp [szO]; omega))) rfl) ?_
        refine .cons (.mv rfl rfl) <| .cons (.ex rfl rfl rfl) <| .cons (.ex rfl rfl rfl) <| .cons (.asg rfl rfl) <| .cons (.asg rfl rfl) ?_
        refine .nil ⟨by kernel_rfl, ?_⟩
        refine ks_n <| .seq <| .region <| .cons (.mv rfl rfl) <| .cons (.mv rfl rfl) ?_
        refine AOps.cases 63 _ rfl (fun g63 => ?_) (fun g63 => ?_)
        · try simp only [zs1, zs2, zs3, zs4, zs5, zs6, zs7] at g63
          refine .cons (.gT rfl rfl rfl (.mv rfl rfl)) <| .cons (.gT rfl rfl rfl (.le rfl rfl rfl)) <| .cons (.pT rfl rfl rfl) <| .nil <| ks_n ?_
          refine ACode.condT rfl (fun h66 => ?_) (fun h66 => ?_)
          · try simp only [zs1, zs2, zs3, zs4, zs5, zs6, zs7] at h66
            have hT : bodD bs 4 p = ((ns, o), r) := by rw [hF, hB0, if_pos (by first | (simp [*]; done) | (exact ⟨by simp_all, by simp_all⟩))]
            refine .seq <| .region <| .cons (.bN 2 rfl rfl rfl rfl rfl rfl) <| .cons (.sT 2 true rfl rfl rfl rfl rfl rfl rfl) <| .nil <| ks_n <| .ret <| kb_r <| ks_r <| kl_r <| kb_r <| ks_r ?_
            refine kf_wret [(.t 2, .v (.o (.c (.box 100 2 0 0)))), (.b 0, .b 48 2 (dR ([rRd bs (bodD bs 4 p).2]))), (.u 0, .u), (.b 100, .b 65 2 [[.d (dLs (bodD bs 4 p).1.1), .d (dMs (bodD bs 4 p).1.2)]]), (.u 100, .u)] (Wk.keep [(0, 0), (100, 500)] rfl rfl ⟨ks rfl (.c .bx), kb 0 rfl (.dt rfl (by rw [hT])), kb 500 rfl (.cons (.cons (.dt (by first | (rw [hT]; done) | (rw [hT]; rfl))) (.cons (.dt (by first | (rw [hT]; done) | (rw [hT]; rfl))) Ctos.nil)) .nil), trivial⟩) rfl ?_ (hbR_box rfl)
            rfl
          · try simp only [zs1, zs2, zs3, zs4, zs5, zs6, zs7] at h66
            refine .skip <| kb_n <| ks_n <| .region <| .cons (.mv rfl rfl) <| .cons (.pl rfl rfl rfl) <| .cons (.asg rfl rfl) <| .nil ?_
            refine kl_k [(0, 0), (110, 500)] ⟨i + 1, (bodQ bs q).2, rfl, by omega, by rw [hE]; dsimp only; omega, by rw [hF, hB0, if_neg (by first | (simp [*]; done) | (intro hh; simp_all; done) | (intro hh; simp_all; omega))], rfl⟩ ⟨ks rfl (.c .bx), ks rfl (.c .bx), ks rfl .dt, kb 0 rfl (.dt rfl (by first | rfl | (rw [hw2]; done) | (rw [hE]; done))), kb 500 rfl (.cons (.cons .dt (.cons .dt Ctos.nil)) .nil), trivial⟩
        · try simp only [zs1, zs2, zs3, zs4, zs5, zs6, zs7] at g63
          refine .cons (.gF rfl rfl rfl) <| .cons (.gF rfl rfl rfl) <| .cons (.pF rfl rfl rfl) <| .nil <| ks_n ?_
          refine ACode.condT rfl (fun h => by first | (cases h; done) | (simp [*] at h; done) | (exfalso; simp_all; done)) (fun _ => ?_)
          refine .skip <| kb_n <| ks_n <| .region <| .cons (.mv rfl rfl) <| .cons (.pl rfl rfl rfl) <| .cons (.asg rfl rfl) <| .nil ?_
          refine kl_k [(0, 0), (110, 500)] ⟨i + 1, (bodQ bs q).2, rfl, by omega, by rw [hE]; dsimp only; omega, by rw [hF, hB0, if_neg (by first | (simp [*]; done) | (intro hh; simp_all; done) | (intro hh; simp_all; omega))], rfl⟩ ⟨ks rfl (.c .bx), ks rfl (.c .bx), ks rfl .dt, kb 0 rfl (.dt rfl (by first | rfl | (rw [hw2]; done) | (rw [hE]; done))), kb 500 rfl (.cons (.cons .dt (.cons .dt Ctos.nil)) .nil), trivial⟩
  · skip
    have hT : bodD bs 4 p = (dfP, q) := by rw [hF, show 4 - i = 0 by omega]; rfl
    refine .exit <| ks_e <| kl_e <| kb_hit <| ks_n <| .seq <| .region <| .cons (.cP [.const (.string ⟨#[65, 91, 105, 93, 61, 40, 65, 91, 105, 93, 43, 123, 105, 125, 41]⟩)] rfl rfl rfl rfl (psV_fn (by decide)) rfl) ?_
    refine .cons (.mv rfl rfl) <| .cons (.ex rfl rfl rfl) <| .cons (.ex rfl rfl rfl) <| .cons (.al 112 [.string ByteArray.empty, .slice none 0 0, .int .i64 0, .int .i64 0, .slice none 0 0, .int .i64 0, .string ByteArray.empty, .slice none 0 0, .slice none 0 0] rfl rfl rfl) <| .cons (.sT 9 true rfl rfl rfl rfl rfl rfl rfl) <| .cons (.asg rfl rfl) <| .nil <| ks_n <| .seq <| .region <| .cons (.li 3 0 0 [.const (.int .i64 (4))] rfl rfl rfl rfl rfl rfl) <| .cons (.cP [.tmp 73] rfl rfl rfl rfl (specBox_fn [4] (by simp)) rfl) ?_
    refine .cons (.mv rfl rfl) <| .cons (.ex rfl rfl rfl) <| .cons (.ex rfl rfl rfl) <| .cons (.asg rfl rfl) <| .cons (.asg rfl rfl) <| .nil <| ks_n <| .seq <| .region <| .cons (.mv rfl rfl) <| .cons (.bN 9 rfl rfl rfl rfl rfl rfl) <| .cons (.li 79 8 0 [.tmp 78] rfl rfl rfl rfl rfl rfl) <| .cons (.bu [(0, .tmp 77), (1, .tmp 79)] [(0, 1), (1, 1)] [.slice none 0 0, .slice none 0 0] rfl rfl rfl rfl rfl) <| .cons (.sT 2 true rfl rfl rfl rfl rfl rfl rfl) <| .nil <| ks_n <| .ret ?_
    refine kf_wret [(.t 2, .v (.o (.c (.box 100 2 0 0)))), (.b 0, .b 48 2 (dR ([rRd bs (bodD bs 4 p).2]))), (.u 0, .u), (.b 100, .b 65 2 [[.d (dLs (bodD bs 4 p).1.1), .d (dMs (bodD bs 4 p).1.2)]]), (.u 100, .u)] (Wk.keep [(0, 0), (100, 110)] rfl rfl ⟨ks rfl (.c .bx), kb 0 rfl (.dt rfl (by rw [hT])), kb 110 rfl (.cons (.cons (.dt (by first | (rw [hT]; done) | (rw [hT]; rfl))) (.cons (.dt (by first | (rw [hT]; done) | (rw [hT]; rfl))) Ctos.nil)) .nil), trivial⟩) rfl ?_ (hbR_box rfl)
    rfl

theorem dfP_sz : szPt dfP ≤ 5000 := by
  have h1 := psV_sz ⟨#[65, 91, 105, 93, 61, 40, 65, 91, 105, 93, 43, 123, 105, 125, 41]⟩
  have h2 : szLs (boxN [4]) ≤ 100 := by decide
  show szLs (boxN [4]) + szO szS [dfS] ≤ 5000
  have h3 : szO szS [dfS] = 1 + szS dfS := by simp [szO]
  have h4 : szS dfS ≤ 2016 := h1
  omega
theorem bodD_bd {bs : List Int} (hb : Bytes bs) : ∀ (m q : Nat), q + 5000 * m ≤ 50000000 → (bodD bs m q).2 ≤ q + 5000 * m ∧ szPt (bodD bs m q).1 ≤ 5000
  | 0, q, h => ⟨Nat.le_refl _, dfP_sz⟩
  | m + 1, q, h => by
    have hq : q ≤ 1099511627776 := by omega
    obtain ⟨ns, r0, hns⟩ : ∃ a b, nestD bs q = (a, b) := ⟨_, _, rfl⟩
    have hok := nestD_ok hb hq
    rw [hns] at hok
    dsimp only at hok
    have hn4 : ns.length ≤ 4 := Nat.le_trans hok.1.1 (by omega)
    have hr0 : r0 ≤ 1099511627776 := by omega
    have hm := numV_mem hb hr0 (xs := [1, 2, 1, 3]) (by simp)
    obtain ⟨K, hK⟩ : ∃ N : Nat, N = (numV bs r0 [1, 2, 1, 3]).toNat := ⟨_, rfl⟩
    have hK3 : K ≤ 3 := by simp at hm; omega
    have hQ : bodQ bs q = bodS bs ns K [] (r0 + 1) := by rw [bodQ, hns, ← hK]
    have h0 : r0 + 1 + 1330 * K ≤ 100000000 := by omega
    have h1 := bodS_bd hb hn4 K [] (r0 + 1) h0
    rw [← hQ] at h1
    have e0 : szO szS [] = 0 := rfl
    have hz := szLs_ok hok.1
    rw [bodD, hns]
    generalize bodQ bs q = r at *
    obtain ⟨o, q1⟩ := r
    dsimp only at h1 ⊢
    split
    · refine ⟨by dsimp only; omega, ?_⟩
      show szLs ns + szO szS o ≤ 5000
      omega
    · have h3 : q1 + 5000 * m ≤ 50000000 := by omega
      have h2 := bodD_bd hb m q1 h3
      omega
theorem drawB {bs : List Int} (hb : Bytes bs) : DrawB bs (bodD bs 4) := fun p hp => by
  have h0 : p + 5000 * 4 ≤ 50000000 := by omega
  have h1 := bodD_bd hb 4 p h0
  exact ⟨by omega, by omega, bodD_fn hb hp⟩
/-- The kind of a line: of an array, of a part, of a loop, of a statement. -/
def kdL (s : ByteArray) : Nat := if 0 < (wrdV s).length ∧ sEq ((wrdV s).getD 0 ⟨#[]⟩) ⟨#[97, 114, 114, 97, 121]⟩ = true then 0 else if sEq s ⟨#[112, 97, 114, 116]⟩ = true then 1 else if 0 < (wrdV s).length ∧ sEq ((wrdV s).getD 0 ⟨#[]⟩) ⟨#[102, 111, 114]⟩ = true then 2 else 3
theorem kdL_0 {s : ByteArray} (h : kdL s = 0) : 0 < (wrdV s).length ∧ sEq ((wrdV s).getD 0 ⟨#[]⟩) ⟨#[97, 114, 114, 97, 121]⟩ = true := by
  unfold kdL at h; split at h
  · assumption
  · split at h
    · cases h
    · split at h <;> cases h
theorem kdL_no0 {s : ByteArray} (h : kdL s ≠ 0) : ¬ (0 < (wrdV s).length ∧ sEq ((wrdV s).getD 0 ⟨#[]⟩) ⟨#[97, 114, 114, 97, 121]⟩ = true) := by
  intro h2; exact h (by rw [kdL, if_pos h2])
theorem kdL_1 {s : ByteArray} (h : kdL s = 1) : sEq s ⟨#[112, 97, 114, 116]⟩ = true := by
  unfold kdL at h; split at h
  · cases h
  · split at h
    · assumption
    · split at h <;> cases h
theorem kdL_no1 {s : ByteArray} (h : 2 ≤ kdL s) : sEq s ⟨#[112, 97, 114, 116]⟩ = false := by
  unfold kdL at h; split at h
  · omega
  · split at h
    · omega
    · simp_all
theorem kdL_2 {s : ByteArray} (h : kdL s = 2) : 0 < (wrdV s).length ∧ sEq ((wrdV s).getD 0 ⟨#[]⟩) ⟨#[102, 111, 114]⟩ = true := by
  unfold kdL at h; split at h
  · cases h
  · split at h
    · cases h
    · split at h
      · assumption
      · cases h
theorem kdL_3 {s : ByteArray} (h : kdL s = 3) : ¬ (0 < (wrdV s).length ∧ sEq ((wrdV s).getD 0 ⟨#[]⟩) ⟨#[102, 111, 114]⟩ = true) := by
  intro h2
  unfold kdL at h; split at h
  · cases h
  · split at h
    · cases h
    · simp_all
abbrev niC : C := .d (.val (.slice none 0 0))
def hbA (k : Nat) (l : List Arr) : St := [(.b k, .b 88 2 (dR (l.map rR))), (.u k, .u)]
def hbPs (k : Nat) (ps : List Prt) : St := [(.b k, .b 65 2 (dR (ps.map rP))), (.u k, .u)]
def hbP (k : Nat) (ps : List Prt) (r : List C) : St := [(.b k, .b 65 2 (dR (ps.map rP) ++ [r])), (.u k, .u)]
def hbPN (k j : Nat) (ps : List Prt) (ns : List Lp) : St := [(.b k, .b 65 2 (dR (ps.map rP) ++ [[.own j 2 ns.length, niC]])), (.u k, .u), (.b j, .b 100 2 (dR (ns.map rL))), (.u j, .u)]
def hbPB (k j : Nat) (ps : List Prt) (ns : List Lp) (b : List Stm) : St := [(.b k, .b 65 2 (dR (ps.map rP) ++ [[.d (dLs ns), .own j 9 b.length]])), (.u k, .u), (.b j, .b 79 9 (dR (b.map rS))), (.u j, .u)]
theorem HB.noref {k : Nat} {rows : List (List C)} (h : ∀ r ∈ rows, ∀ c ∈ r, c.refs = []) : ∀ r ∈ rows, ∀ c ∈ r, ∀ l ∈ c.refs, lk ((.u k, .u) :: []) (.u l) ≠ .no := fun r hr c hc l hl => by rw [h r hr c hc] at hl; cases hl
theorem hbA_HB (k : Nat) (l : List Arr) : HB (hbA k l) := HB.nil.data
theorem hbPs_HB (k : Nat) (l : List Prt) : HB (hbPs k l) := HB.nil.data
theorem hbP_HB (k : Nat) (ps : List Prt) (x y : D) : HB (hbP k ps [.d x, .d y]) := HB.nil.cons (HB.noref fun r hr c hc => by
  rcases List.mem_append.1 hr with h | h
  · cases hf : c.refs with
    | nil => rfl
    | cons m l => exact (dR_refs h hc (l := m) (by rw [hf]; exact List.mem_cons_self)).elim
  · rw [List.mem_singleton] at h; subst h
    rcases List.mem_cons.1 hc with rfl | hc
    · rfl
    · rw [List.mem_singleton] at hc; subst hc; rfl)
theorem hbPN_HB (k j : Nat) (ps : List Prt) (ns : List Lp) : HB (hbPN k j ps ns) := HB.cons HB.nil.data (HB.refs2 (fun l h => by simpa [C.refs] using h) (fun l h => by cases h))
theorem hbPB_HB (k j : Nat) (ps : List Prt) (ns : List Lp) (b : List Stm) : HB (hbPB k j ps ns b) := HB.cons HB.nil.data (HB.refs2 (fun l h => by cases h) (fun l h => by simpa [C.refs] using h))
theorem hbA_flat (k : Nat) (l : List Arr) : flatS (hbA k l) := flatS.nil.cons rfl
theorem hbPs_flat (k : Nat) (l : List Prt) : flatS (hbPs k l) := flatS.nil.cons rfl
theorem hbP_flat (k : Nat) (ps : List Prt) (r : List C) : flatS (hbP k ps r) := flatS.nil.cons rfl
theorem lk_two {k j : Nat} {x : RC} (h : Nat.beq j k = false) : lk [(.b j, x), (.u j, .u)] (.b k) = .no := by
  show (bif Nat.beq j k then x else RC.no) = RC.no
  rw [h]; rfl
theorem hbPN_flat {k j : Nat} (ps : List Prt) (ns : List Lp) (h : Nat.beq j k = false) : flatS (hbPN k j ps ns) := (flatS.nil.cons rfl).cons (lk_two h)
theorem hbPB_flat {k j : Nat} (ps : List Prt) (ns : List Lp) (b : List Stm) (h : Nat.beq j k = false) : flatS (hbPB k j ps ns b) := (flatS.nil.cons rfl).cons (lk_two h)
theorem renR_app (ρ : Nat → Nat) (l : List (List D)) (r : List C) : renR ρ (dR l ++ [r]) = dR l ++ [r.map (C.ren ρ)] := by
  have : renR ρ (dR l ++ [r]) = renR ρ (dR l) ++ [r.map (C.ren ρ)] := List.map_append
  rw [this, renR_dR]
theorem outS_P {inv : Inv} {k : Nat} {ps : List Prt} {r : List C} : outS inv (hbP k ps r) = [(.b (asc inv k), .b 65 2 (dR (ps.map rP) ++ [r.map (C.ren (asc inv))])), (.u (asc inv k), .u)] := by
  show [(Res.b (asc inv k), RC.b _ 2 (renR (asc inv) (dR (ps.map rP) ++ [r]))), (.u (asc inv k), .u)] = _
  rw [renR_app]
theorem outS_PN {inv : Inv} {k j : Nat} {ps : List Prt} {ns : List Lp} : outS inv (hbPN k j ps ns) = [(.b (asc inv k), .b 65 2 (dR (ps.map rP) ++ [[.own (asc inv j) 2 ns.length, niC]])), (.u (asc inv k), .u), (.b (asc inv j), .b 100 2 (dR (ns.map rL))), (.u (asc inv j), .u)] := by
  show [(Res.b (asc inv k), RC.b _ 2 (renR (asc inv) (dR (ps.map rP) ++ [[C.own j 2 ns.length, niC]]))), (.u (asc inv k), .u), (.b (asc inv j), .b _ 2 (renR (asc inv) (dR (ns.map rL)))), (.u (asc inv j), .u)] = _
  rw [renR_app, renR_dR]; rfl
theorem outS_PB {inv : Inv} {k j : Nat} {ps : List Prt} {ns : List Lp} {b : List Stm} : outS inv (hbPB k j ps ns b) = [(.b (asc inv k), .b 65 2 (dR (ps.map rP) ++ [[.d (dLs ns), .own (asc inv j) 9 b.length]])), (.u (asc inv k), .u), (.b (asc inv j), .b 79 9 (dR (b.map rS))), (.u (asc inv j), .u)] := by
  show [(Res.b (asc inv k), RC.b _ 2 (renR (asc inv) (dR (ps.map rP) ++ [[C.d (dLs ns), C.own j 9 b.length]]))), (.u (asc inv k), .u), (.b (asc inv j), .b _ 9 (renR (asc inv) (dR (b.map rS)))), (.u (asc inv j), .u)] = _
  rw [renR_app, renR_dR]; rfl
theorem pn_num {σ : St} {e0 e1 : TypeId} {sz0 sz1 : Nat} {rows0 rows1 : List (List C)} {k1 : Nat} (h0 : Al (lk σ) 0) (hk2 : Nat.ble 100 k1 = true) : ∀ k, k < 100 → Al (lk [(.b 0, .b e0 sz0 rows0), (.u 0, .u), (.b k1, .b e1 sz1 rows1), (.u k1, .u)]) k → Al (lk σ) k := fun k h ⟨e, sz, rows, h1⟩ => by
  have hm := lk_mem h1 (by simp)
  have := Nat.le_of_ble_eq_true hk2
  simp only [List.mem_cons, List.not_mem_nil, or_false] at hm
  rcases hm with hm | hm | hm | hm
  · cases hm; exact h0
  · cases hm
  · cases hm; omega
  · cases hm
theorem row_lastP (ps : List Prt) (r : List C) : (dR (ps.map rP) ++ [r])[ps.length]? = some r := by simp [dR]
theorem set_lastP (ps : List Prt) (r r' : List C) : (dR (ps.map rP) ++ [r]).set ps.length r' = dR (ps.map rP) ++ [r'] := by simp [dR]

theorem line_a0 {s : ByteArray} (hs : s.size ≤ 1048576) (hk : kdL s = 0)  : Fn Try.prog 43 [] [.agg [niC, niC], st1 s] (.o (.agg [.own 100 2 [ar4 (wrdV s)].length, niC])) (hbA 100 [ar4 (wrdV s)]) := by
 obtain ⟨ws, hws⟩ : ∃ ws, wrdV s = ws := ⟨_, rfl⟩
 have hwb := wrdV_bd s
 obtain ⟨hp0, he0⟩ := kdL_0 hk
 rw [hws] at hp0 he0 hwb
 refine Fn.of_code Try.func43 rfl rfl HB.nil rfl rfl (hbA_HB _ _) rfl (one_num rfl) ?_
 refine .seq <| .region <| .cons (St1.boxB (k' := 102) rfl rfl rfl rfl rfl rfl rfl) <| .cons (.al 104 [.slice none 0 0, .slice none 0 0] rfl rfl rfl) <| .nil <| ks_n <| .seq <| .region <| .cons (.mv rfl rfl) <| .cons (.cP [.tmp 11] rfl rfl rfl rfl (show Fn Try.prog 53 [] [st1 s] (.o (vD (dTxs ws))) [] from by rw [← hws]; exact l16Words_fn hs) rfl) ?_
 refine .cons (.asg rfl rfl) <| .nil <| ks_n <| .seq <| .region <| .cons (.fB 1 0 false rfl rfl rfl) <| .cons (.b1 1 rfl rfl rfl rfl rfl rfl) <| .cons (St1.lenN (e := 65) (m := 2) (by' := 48) rfl rfl rfl rfl rfl (by kernel_rfl) rfl) ?_
 refine .cons (.sb rfl rfl rfl) <| .cons (.asg rfl rfl) <| .nil <| ks_n <| .seq <| .block <| .seq <| .region <| .cons (.mv rfl rfl) <| .cons (.ln 9 1 16 rfl rfl rfl) <| .cons (.gt rfl rfl rfl) <| .cons (.mv rfl rfl) ?_
 refine .cD 21 rfl (fun g21 => ?_) (fun g21 => ?_)
 ·skip
  refine .cons (.gT rfl rfl rfl (.mv rfl rfl)) <| .cons (.gT rfl rfl rfl (.xL 9 1 16 (i := 0) rfl rfl rfl rfl rfl (map_at (getD_at2 (d := ⟨#[]⟩) (by omega))))) ?_
  refine .cons (.gT rfl rfl rfl (.l1 1 rfl rfl)) <| .cons (.gT rfl rfl rfl (St1.eqS rfl rfl rfl)) <| .cons (.pT rfl rfl rfl) <| .cons (.asg rfl rfl) <| .nil <| ks_n ?_
  refine ACode.condT rfl (fun h17 => ?_) (fun h17 => ?_)
  ·try simp only [zs1, zs2, zs3, zs4, zs5, zs6, zs7] at h17
   refine ACode.drawK (by kernel_rfl) (by kernel_rfl) ?_
   refine .cons (.fB 0 0 false rfl rfl rfl) <| .cons (.b1 1 rfl rfl rfl rfl rfl rfl) <| .cons (.mv rfl rfl) <| .cons (.cP [.tmp 29] rfl rfl rfl rfl (ar4_fn (by omega) (by omega) (fun t ht => Nat.le_trans (hwb.1 t ht) hs)) rfl) ?_
   refine .cons (.li 88 1 0 [.tmp 30] rfl rfl rfl rfl rfl rfl) <| .cons (St1.appN (k' := 132) (e := 88) (sz := 1) (by' := 40) rfl rfl rfl rfl rfl (by kernel_rfl) rfl rfl rfl (by simp) (by first | (simp [dR]; done) | (simp [dR]; omega)) rfl rfl) ?_
   refine .cons (.fB 0 0 false rfl rfl rfl) <| .cons (.sT 1 false rfl rfl rfl rfl rfl rfl rfl) ?_
   refine .nil ⟨by kernel_rfl, ?_⟩
   refine kb_n <| ks_n <| .seq <| .region <| .cons (.bN 2 rfl rfl rfl rfl rfl rfl) <| .cons (.sT 2 true rfl rfl rfl rfl rfl rfl rfl) <| .nil <| ks_n <| .ret ?_
   refine kf_wret [(.t 4, .v (.o (.c (.box 150 2 0 0)))), (.b 100, .b 88 2 (dR ([ar4 (wrdV s)].map rR))), (.u 100, .u), (.b 150, .b 45 2 [[.own 100 2 ([ar4 (wrdV s)].length), .d (.val (.slice none 0 0))]]), (.u 150, .u)] (Wk.keep [(100, 132), (150, 104)] rfl rfl ⟨ks rfl (.c .bx), kb 132 rfl (.dt rfl (by rw [hws]; rfl)), kb 104 rfl (.cons (.cons .ow (.cons .dt Ctos.nil)) .nil), trivial⟩) rfl ?_ (one_box rfl)
   rfl
  ·try simp only [zs1, zs2, zs3, zs4, zs5, zs6, zs7] at h17
   exfalso; simp_all
 ·skip
  omega

theorem line_a1 {s : ByteArray} (hs : s.size ≤ 1048576) (hk : kdL s = 0) (a : List Arr) (ha : a.length ≤ 100) : Fn Try.prog 43 (hbA 0 a) [.agg [.own 0 2 a.length, niC], st1 s] (.o (.agg [.own 1000 2 (a ++ [ar4 (wrdV s)]).length, niC])) (hbA 1000 (a ++ [ar4 (wrdV s)])) := by
 obtain ⟨ws, hws⟩ : ∃ ws, wrdV s = ws := ⟨_, rfl⟩
 have hwb := wrdV_bd s
 obtain ⟨hp0, he0⟩ := kdL_0 hk
 rw [hws] at hp0 he0 hwb
 refine Fn.of_code Try.func43 rfl rfl (hbA_HB _ _) rfl rfl (hbA_HB _ _) rfl (one_num rfl) ?_
 refine .seq <| .region <| .cons (St1.boxB (k' := 102) rfl rfl rfl rfl rfl rfl rfl) <| .cons (.al 104 [.slice none 0 0, .slice none 0 0] rfl rfl rfl) <| .nil <| ks_n <| .seq <| .region <| .cons (.mv rfl rfl) <| .cons (.cP [.tmp 11] rfl rfl rfl rfl (show Fn Try.prog 53 [] [st1 s] (.o (vD (dTxs ws))) [] from by rw [← hws]; exact l16Words_fn hs) rfl) ?_
 refine .cons (.asg rfl rfl) <| .nil <| ks_n <| .seq <| .region <| .cons (.fB 1 0 false rfl rfl rfl) <| .cons (.b1 1 rfl rfl rfl rfl rfl rfl) <| .cons (St1.lenN (e := 65) (m := 2) (by' := 48) rfl rfl rfl rfl rfl (by kernel_rfl) rfl) ?_
 refine .cons (.sb rfl rfl rfl) <| .cons (.asg rfl rfl) <| .nil <| ks_n <| .seq <| .block <| .seq <| .region <| .cons (.mv rfl rfl) <| .cons (.ln 9 1 16 rfl rfl rfl) <| .cons (.gt rfl rfl rfl) <| .cons (.mv rfl rfl) ?_
 refine .cD 21 rfl (fun g21 => ?_) (fun g21 => ?_)
 ·skip
  refine .cons (.gT rfl rfl rfl (.mv rfl rfl)) <| .cons (.gT rfl rfl rfl (.xL 9 1 16 (i := 0) rfl rfl rfl rfl rfl (map_at (getD_at2 (d := ⟨#[]⟩) (by omega))))) ?_
  refine .cons (.gT rfl rfl rfl (.l1 1 rfl rfl)) <| .cons (.gT rfl rfl rfl (St1.eqS rfl rfl rfl)) <| .cons (.pT rfl rfl rfl) <| .cons (.asg rfl rfl) <| .nil <| ks_n ?_
  refine ACode.condT rfl (fun h17 => ?_) (fun h17 => ?_)
  ·try simp only [zs1, zs2, zs3, zs4, zs5, zs6, zs7] at h17
   refine ACode.drawK (by kernel_rfl) (by kernel_rfl) ?_
   refine .cons (.fB 0 0 false rfl rfl rfl) <| .cons (.b1 1 rfl rfl rfl rfl rfl rfl) <| .cons (.mv rfl rfl) <| .cons (.cP [.tmp 29] rfl rfl rfl rfl (ar4_fn (by omega) (by omega) (fun t ht => Nat.le_trans (hwb.1 t ht) hs)) rfl) ?_
   refine .cons (.li 88 1 0 [.tmp 30] rfl rfl rfl rfl rfl rfl) <| .cons (St1.appB (k' := 1032) (e := 88) (sz := 1) (by' := 40) rfl rfl rfl rfl rfl (by kernel_rfl) rfl rfl rfl rfl (by simp [dR]) (by first | (simp [dR]; done) | (simp [dR]; omega)) rfl rfl rfl) ?_
   refine .cons (.fB 0 0 false rfl rfl rfl) <| .cons (.sT 1 false rfl rfl rfl rfl rfl rfl rfl) ?_
   refine .nil ⟨by kernel_rfl, ?_⟩
   refine kb_n <| ks_n <| .seq <| .region <| .cons (.bN 2 rfl rfl rfl rfl rfl rfl) <| .cons (.sT 2 true rfl rfl rfl rfl rfl rfl rfl) <| .nil <| ks_n <| .ret ?_
   refine kf_wret [(.t 4, .v (.o (.c (.box 150 2 0 0)))), (.b 1000, .b 88 2 (dR ((a ++ [ar4 (wrdV s)]).map rR))), (.u 1000, .u), (.b 150, .b 45 2 [[.own 1000 2 ((a ++ [ar4 (wrdV s)]).length), .d (.val (.slice none 0 0))]]), (.u 150, .u)] (Wk.keep [(1000, 1032), (150, 104)] rfl rfl ⟨ks rfl (.c .bx), kb 1032 rfl (.dt rfl (by rw [hws, List.map_append, dR_app]; rfl)), kb 104 rfl (.cons (.cons (.ow (by simp)) (.cons .dt Ctos.nil)) .nil), trivial⟩) rfl ?_ (one_box rfl)
   rfl
  ·try simp only [zs1, zs2, zs3, zs4, zs5, zs6, zs7] at h17
   exfalso; simp_all
 ·skip
  omega

theorem line_p0 {s : ByteArray} (hs : s.size ≤ 1048576) (hk : kdL s = 1) (a : List Arr) (ha : a.length ≤ 100) : Fn Try.prog 43 [] [.agg [.d (dRs a), niC], st1 s] (.o (.agg [.d (dRs a), .own 100 2 (([] : List Prt).length + 1)])) (hbP 100 [] [niC, niC]) := by
 obtain ⟨ws, hws⟩ : ∃ ws, wrdV s = ws := ⟨_, rfl⟩
 have hwb := wrdV_bd s
 have hno := kdL_no0 (s := s) (by rw [hk]; decide)
 rw [hws] at hno hwb
 have hy1 := kdL_1 hk
 refine Fn.of_code Try.func43 rfl rfl HB.nil rfl rfl (hbP_HB _ _ _ _) rfl (one_num rfl) ?_
 refine .seq <| .region <| .cons (St1.boxB (k' := 102) rfl rfl rfl rfl rfl rfl rfl) <| .cons (.al 104 [.slice none 0 0, .slice none 0 0] rfl rfl rfl) <| .nil <| ks_n <| .seq <| .region <| .cons (.mv rfl rfl) <| .cons (.cP [.tmp 11] rfl rfl rfl rfl (show Fn Try.prog 53 [] [st1 s] (.o (vD (dTxs ws))) [] from by rw [← hws]; exact l16Words_fn hs) rfl) ?_
 refine .cons (.asg rfl rfl) <| .nil <| ks_n <| .seq <| .region <| .cons (.fB 1 0 false rfl rfl rfl) <| .cons (.b1 1 rfl rfl rfl rfl rfl rfl) <| .cons (St1.lenN (e := 65) (m := 2) (by' := 48) rfl rfl rfl rfl rfl (by kernel_rfl) rfl) ?_
 refine .cons (.sb rfl rfl rfl) <| .cons (.asg rfl rfl) <| .nil <| ks_n <| .seq <| .block <| .seq <| .region <| .cons (.mv rfl rfl) <| .cons (.ln 9 1 16 rfl rfl rfl) <| .cons (.gt rfl rfl rfl) <| .cons (.mv rfl rfl) ?_
 refine .cD 21 rfl (fun g21 => ?_) (fun g21 => ?_)
 ·skip
  refine .cons (.gT rfl rfl rfl (.mv rfl rfl)) <| .cons (.gT rfl rfl rfl (.xL 9 1 16 (i := 0) rfl rfl rfl rfl rfl (map_at (getD_at2 (d := ⟨#[]⟩) (by omega))))) ?_
  refine .cons (.gT rfl rfl rfl (.l1 1 rfl rfl)) <| .cons (.gT rfl rfl rfl (St1.eqS rfl rfl rfl)) <| .cons (.pT rfl rfl rfl) <| .cons (.asg rfl rfl) <| .nil <| ks_n ?_
  refine ACode.condT rfl (fun h17 => ?_) (fun h17 => ?_)
  ·try simp only [zs1, zs2, zs3, zs4, zs5, zs6, zs7] at h17
   exfalso; simp_all
  ·try simp only [zs1, zs2, zs3, zs4, zs5, zs6, zs7] at h17
   refine .seq <| .region <| .cons (.mv rfl rfl) <| .cons (St1.eqS rfl rfl rfl) <| .cons (.asg rfl rfl) <| .nil <| ks_n ?_
   refine ACode.condT rfl (fun h34 => ?_) (fun h34 => ?_)
   ·try simp only [zs1, zs2, zs3, zs4, zs5, zs6, zs7] at h34
    refine .region <| .cons (.fB 1 0 false rfl rfl rfl) <| .cons (.b1 1 rfl rfl rfl rfl rfl rfl) <| .cons (.bu [] [(0, 1), (1, 1)] [.slice none 0 0, .slice none 0 0] rfl rfl rfl rfl rfl) <| .cons (.li 65 1 0 [.tmp 39] rfl rfl rfl rfl rfl rfl) <| .cons (St1.appN (k' := 141) (e := 65) (sz := 1) (by' := 48) rfl rfl rfl rfl rfl (by kernel_rfl) rfl rfl rfl (by simp) (by first | (simp [dR]; done) | (simp [dR]; omega)) rfl rfl) ?_
    refine .cons (.fB 1 0 false rfl rfl rfl) <| .cons (.sT 1 false rfl rfl rfl rfl rfl rfl rfl) <| .nil <| kb_n <| ks_n <| .seq <| .region <| .cons (.bN 2 rfl rfl rfl rfl rfl rfl) <| .cons (.sT 2 true rfl rfl rfl rfl rfl rfl rfl) <| .nil <| ks_n <| .ret ?_
    refine kf_wret [(.t 4, .v (.o (.c (.box 150 2 0 0)))), (.b 100, .b 65 2 (dR (([] : List Prt).map rP) ++ [[niC, niC]])), (.u 100, .u), (.b 150, .b 45 2 [[.d (dRs a), .own 100 2 (([] : List Prt).length + 1)]]), (.u 150, .u)] (Wk.keep [(100, 141), (150, 104)] rfl rfl ⟨ks rfl (.c .bx), kb 141 rfl (.dat _ _ [[.val (.slice none 0 0), .val (.slice none 0 0)]] rfl rfl), kb 104 rfl (.cons (.cons .dt (.cons .ow Ctos.nil)) .nil), trivial⟩) rfl ?_ (one_box rfl)
    rfl
   ·try simp only [zs1, zs2, zs3, zs4, zs5, zs6, zs7] at h34
    exfalso; simp_all
 ·skip
  refine .cons (.gF rfl rfl rfl) <| .cons (.gF rfl rfl rfl) <| .cons (.gF rfl rfl rfl) <| .cons (.gF rfl rfl rfl) <| .cons (.pF rfl rfl rfl) <| .cons (.asg rfl rfl) <| .nil <| ks_n ?_
  refine ACode.condT rfl (fun h => by first | (cases h; done) | (simp [*] at h; done) | (exfalso; simp_all; done)) (fun _ => ?_)
  refine .seq <| .region <| .cons (.mv rfl rfl) <| .cons (St1.eqS rfl rfl rfl) <| .cons (.asg rfl rfl) <| .nil <| ks_n ?_
  refine ACode.condT rfl (fun h34 => ?_) (fun h34 => ?_)
  ·try simp only [zs1, zs2, zs3, zs4, zs5, zs6, zs7] at h34
   refine .region <| .cons (.fB 1 0 false rfl rfl rfl) <| .cons (.b1 1 rfl rfl rfl rfl rfl rfl) <| .cons (.bu [] [(0, 1), (1, 1)] [.slice none 0 0, .slice none 0 0] rfl rfl rfl rfl rfl) <| .cons (.li 65 1 0 [.tmp 39] rfl rfl rfl rfl rfl rfl) <| .cons (St1.appN (k' := 141) (e := 65) (sz := 1) (by' := 48) rfl rfl rfl rfl rfl (by kernel_rfl) rfl rfl rfl (by simp) (by first | (simp [dR]; done) | (simp [dR]; omega)) rfl rfl) ?_
   refine .cons (.fB 1 0 false rfl rfl rfl) <| .cons (.sT 1 false rfl rfl rfl rfl rfl rfl rfl) <| .nil <| kb_n <| ks_n <| .seq <| .region <| .cons (.bN 2 rfl rfl rfl rfl rfl rfl) <| .cons (.sT 2 true rfl rfl rfl rfl rfl rfl rfl) <| .nil <| ks_n <| .ret ?_
   refine kf_wret [(.t 4, .v (.o (.c (.box 150 2 0 0)))), (.b 100, .b 65 2 (dR (([] : List Prt).map rP) ++ [[niC, niC]])), (.u 100, .u), (.b 150, .b 45 2 [[.d (dRs a), .own 100 2 (([] : List Prt).length + 1)]]), (.u 150, .u)] (Wk.keep [(100, 141), (150, 104)] rfl rfl ⟨ks rfl (.c .bx), kb 141 rfl (.dat _ _ [[.val (.slice none 0 0), .val (.slice none 0 0)]] rfl rfl), kb 104 rfl (.cons (.cons .dt (.cons .ow Ctos.nil)) .nil), trivial⟩) rfl ?_ (one_box rfl)
   rfl
  ·try simp only [zs1, zs2, zs3, zs4, zs5, zs6, zs7] at h34
   exfalso; simp_all

theorem line_p1 {s : ByteArray} (hs : s.size ≤ 1048576) (hk : kdL s = 1) (a : List Arr) (ha : a.length ≤ 100) (ps : List Prt) (hps : ps.length ≤ 100) : Fn Try.prog 43 (hbPs 0 ps) [.agg [.d (dRs a), .own 0 2 ps.length], st1 s] (.o (.agg [.d (dRs a), .own 1000 2 (ps.length + 1)])) (hbP 1000 ps [niC, niC]) := by
 obtain ⟨ws, hws⟩ : ∃ ws, wrdV s = ws := ⟨_, rfl⟩
 have hwb := wrdV_bd s
 have hno := kdL_no0 (s := s) (by rw [hk]; decide)
 rw [hws] at hno hwb
 have hy1 := kdL_1 hk
 refine Fn.of_code Try.func43 rfl rfl (hbPs_HB _ _) rfl rfl (hbP_HB _ _ _ _) rfl (one_num rfl) ?_
 refine .seq <| .region <| .cons (St1.boxB (k' := 102) rfl rfl rfl rfl rfl rfl rfl) <| .cons (.al 104 [.slice none 0 0, .slice none 0 0] rfl rfl rfl) <| .nil <| ks_n <| .seq <| .region <| .cons (.mv rfl rfl) <| .cons (.cP [.tmp 11] rfl rfl rfl rfl (show Fn Try.prog 53 [] [st1 s] (.o (vD (dTxs ws))) [] from by rw [← hws]; exact l16Words_fn hs) rfl) ?_
 refine .cons (.asg rfl rfl) <| .nil <| ks_n <| .seq <| .region <| .cons (.fB 1 0 false rfl rfl rfl) <| .cons (.b1 1 rfl rfl rfl rfl rfl rfl) <| .cons (.lB 65 2 48 rfl rfl rfl rfl) <| .cons (.sb rfl rfl rfl) <| .cons (.asg rfl rfl) <| .nil <| ks_n <| .seq <| .block <| .seq <| .region <| .cons (.mv rfl rfl) <| .cons (.ln 9 1 16 rfl rfl rfl) <| .cons (.gt rfl rfl rfl) <| .cons (.mv rfl rfl) ?_
 refine .cD 21 rfl (fun g21 => ?_) (fun g21 => ?_)
 ·skip
  refine .cons (.gT rfl rfl rfl (.mv rfl rfl)) <| .cons (.gT rfl rfl rfl (.xL 9 1 16 (i := 0) rfl rfl rfl rfl rfl (map_at (getD_at2 (d := ⟨#[]⟩) (by omega))))) ?_
  refine .cons (.gT rfl rfl rfl (.l1 1 rfl rfl)) <| .cons (.gT rfl rfl rfl (St1.eqS rfl rfl rfl)) <| .cons (.pT rfl rfl rfl) <| .cons (.asg rfl rfl) <| .nil <| ks_n ?_
  refine ACode.condT rfl (fun h17 => ?_) (fun h17 => ?_)
  ·try simp only [zs1, zs2, zs3, zs4, zs5, zs6, zs7] at h17
   exfalso; simp_all
  ·try simp only [zs1, zs2, zs3, zs4, zs5, zs6, zs7] at h17
   refine .seq <| .region <| .cons (.mv rfl rfl) <| .cons (St1.eqS rfl rfl rfl) <| .cons (.asg rfl rfl) <| .nil <| ks_n ?_
   refine ACode.condT rfl (fun h34 => ?_) (fun h34 => ?_)
   ·try simp only [zs1, zs2, zs3, zs4, zs5, zs6, zs7] at h34
    refine .region <| .cons (.fB 1 0 false rfl rfl rfl) <| .cons (.b1 1 rfl rfl rfl rfl rfl rfl) <| .cons (.bu [] [(0, 1), (1, 1)] [.slice none 0 0, .slice none 0 0] rfl rfl rfl rfl rfl) <| .cons (.li 65 1 0 [.tmp 39] rfl rfl rfl rfl rfl rfl) <| .cons (St1.appB (k' := 1041) (e := 65) (sz := 1) (by' := 48) rfl rfl rfl rfl rfl (by kernel_rfl) rfl rfl rfl rfl (by simp [dR]) (by first | (simp [dR]; done) | (simp [dR]; omega)) rfl rfl rfl) ?_
    refine .cons (.fB 1 0 false rfl rfl rfl) <| .cons (.sT 1 false rfl rfl rfl rfl rfl rfl rfl) <| .nil <| kb_n <| ks_n <| .seq <| .region <| .cons (.bN 2 rfl rfl rfl rfl rfl rfl) <| .cons (.sT 2 true rfl rfl rfl rfl rfl rfl rfl) <| .nil <| ks_n <| .ret ?_
    refine kf_wret [(.t 4, .v (.o (.c (.box 150 2 0 0)))), (.b 1000, .b 65 2 (dR (ps.map rP) ++ [[niC, niC]])), (.u 1000, .u), (.b 150, .b 45 2 [[.d (dRs a), .own 1000 2 (ps.length + 1)]]), (.u 150, .u)] (Wk.keep [(1000, 1041), (150, 104)] rfl rfl ⟨ks rfl (.c .bx), kb 1041 rfl (.dat _ _ (ps.map rP ++ [[.val (.slice none 0 0), .val (.slice none 0 0)]]) (by simp [dR]) (by simp [dR])), kb 104 rfl (.cons (.cons .dt (.cons .ow Ctos.nil)) .nil), trivial⟩) rfl ?_ (one_box rfl)
    rfl
   ·try simp only [zs1, zs2, zs3, zs4, zs5, zs6, zs7] at h34
    exfalso; simp_all
 ·skip
  refine .cons (.gF rfl rfl rfl) <| .cons (.gF rfl rfl rfl) <| .cons (.gF rfl rfl rfl) <| .cons (.gF rfl rfl rfl) <| .cons (.pF rfl rfl rfl) <| .cons (.asg rfl rfl) <| .nil <| ks_n ?_
  refine ACode.condT rfl (fun h => by first | (cases h; done) | (simp [*] at h; done) | (exfalso; simp_all; done)) (fun _ => ?_)
  refine .seq <| .region <| .cons (.mv rfl rfl) <| .cons (St1.eqS rfl rfl rfl) <| .cons (.asg rfl rfl) <| .nil <| ks_n ?_
  refine ACode.condT rfl (fun h34 => ?_) (fun h34 => ?_)
  ·try simp only [zs1, zs2, zs3, zs4, zs5, zs6, zs7] at h34
   refine .region <| .cons (.fB 1 0 false rfl rfl rfl) <| .cons (.b1 1 rfl rfl rfl rfl rfl rfl) <| .cons (.bu [] [(0, 1), (1, 1)] [.slice none 0 0, .slice none 0 0] rfl rfl rfl rfl rfl) <| .cons (.li 65 1 0 [.tmp 39] rfl rfl rfl rfl rfl rfl) <| .cons (St1.appB (k' := 1041) (e := 65) (sz := 1) (by' := 48) rfl rfl rfl rfl rfl (by kernel_rfl) rfl rfl rfl rfl (by simp [dR]) (by first | (simp [dR]; done) | (simp [dR]; omega)) rfl rfl rfl) ?_
   refine .cons (.fB 1 0 false rfl rfl rfl) <| .cons (.sT 1 false rfl rfl rfl rfl rfl rfl rfl) <| .nil <| kb_n <| ks_n <| .seq <| .region <| .cons (.bN 2 rfl rfl rfl rfl rfl rfl) <| .cons (.sT 2 true rfl rfl rfl rfl rfl rfl rfl) <| .nil <| ks_n <| .ret ?_
   refine kf_wret [(.t 4, .v (.o (.c (.box 150 2 0 0)))), (.b 1000, .b 65 2 (dR (ps.map rP) ++ [[niC, niC]])), (.u 1000, .u), (.b 150, .b 45 2 [[.d (dRs a), .own 1000 2 (ps.length + 1)]]), (.u 150, .u)] (Wk.keep [(1000, 1041), (150, 104)] rfl rfl ⟨ks rfl (.c .bx), kb 1041 rfl (.dat _ _ (ps.map rP ++ [[.val (.slice none 0 0), .val (.slice none 0 0)]]) (by simp [dR]) (by simp [dR])), kb 104 rfl (.cons (.cons .dt (.cons .ow Ctos.nil)) .nil), trivial⟩) rfl ?_ (one_box rfl)
   rfl
  ·try simp only [zs1, zs2, zs3, zs4, zs5, zs6, zs7] at h34
   exfalso; simp_all

theorem line_f0 {s : ByteArray} (hs : s.size ≤ 1048576) (hk : kdL s = 2) (a : List Arr) (ha : a.length ≤ 100) (ps : List Prt) (hps : ps.length ≤ 100)  : Fn Try.prog 43 (hbP 0 ps [niC, niC]) [.agg [.d (dRs a), .own 0 2 (ps.length + 1)], st1 s] (.o (.agg [.d (dRs a), .own 0 2 (ps.length + 1)])) (hbPN 0 100 ps [lnV s]) := by
 obtain ⟨ws, hws⟩ : ∃ ws, wrdV s = ws := ⟨_, rfl⟩
 have hwb := wrdV_bd s
 have hno := kdL_no0 (s := s) (by rw [hk]; decide)
 rw [hws] at hno hwb
 have hn1 := kdL_no1 (s := s) (by rw [hk]; decide)
 obtain ⟨hp0, he0⟩ := kdL_2 hk
 rw [hws] at hp0 he0
 refine Fn.of_code Try.func43 rfl rfl (hbP_HB _ _ _ _) rfl rfl (hbPN_HB _ _ _ _) rfl (pn_num ⟨_, _, _, rfl⟩ rfl) ?_
 refine .seq <| .region <| .cons (St1.boxB (k' := 102) rfl rfl rfl rfl rfl rfl rfl) <| .cons (.al 104 [.slice none 0 0, .slice none 0 0] rfl rfl rfl) <| .nil <| ks_n <| .seq <| .region <| .cons (.mv rfl rfl) <| .cons (.cP [.tmp 11] rfl rfl rfl rfl (show Fn Try.prog 53 [] [st1 s] (.o (vD (dTxs ws))) [] from by rw [← hws]; exact l16Words_fn hs) rfl) ?_
 refine .cons (.asg rfl rfl) <| .nil <| ks_n <| .seq <| .region <| .cons (.fB 1 0 false rfl rfl rfl) <| .cons (.b1 1 rfl rfl rfl rfl rfl rfl) <| .cons (.lB 65 2 48 rfl rfl rfl rfl) <| .cons (.sb rfl rfl rfl) <| .cons (.asg rfl rfl) <| .nil <| ks_n <| .seq <| .block <| .seq <| .region <| .cons (.mv rfl rfl) <| .cons (.ln 9 1 16 rfl rfl rfl) <| .cons (.gt rfl rfl rfl) <| .cons (.mv rfl rfl) ?_
 refine .cD 21 rfl (fun g21 => ?_) (fun g21 => ?_)
 ·skip
  refine .cons (.gT rfl rfl rfl (.mv rfl rfl)) <| .cons (.gT rfl rfl rfl (.xL 9 1 16 (i := 0) rfl rfl rfl rfl rfl (map_at (getD_at2 (d := ⟨#[]⟩) (by omega))))) ?_
  refine .cons (.gT rfl rfl rfl (.l1 1 rfl rfl)) <| .cons (.gT rfl rfl rfl (St1.eqS rfl rfl rfl)) <| .cons (.pT rfl rfl rfl) <| .cons (.asg rfl rfl) <| .nil <| ks_n ?_
  refine ACode.condT rfl (fun h17 => ?_) (fun h17 => ?_)
  ·try simp only [zs1, zs2, zs3, zs4, zs5, zs6, zs7] at h17
   exfalso; simp_all
  ·try simp only [zs1, zs2, zs3, zs4, zs5, zs6, zs7] at h17
   refine .seq <| .region <| .cons (.mv rfl rfl) <| .cons (St1.eqS rfl rfl rfl) <| .cons (.asg rfl rfl) <| .nil <| ks_n ?_
   refine ACode.condT rfl (fun h34 => ?_) (fun h34 => ?_)
   ·try simp only [zs1, zs2, zs3, zs4, zs5, zs6, zs7] at h34
    exfalso; simp_all
   ·try simp only [zs1, zs2, zs3, zs4, zs5, zs6, zs7] at h34
    refine .seq <| .region <| .cons (.mv rfl rfl) <| .cons (.ge rfl rfl rfl) <| .cons (.mv rfl rfl) ?_
    refine .cD 46 rfl (fun g46 => ?_) (fun g46 => ?_)
    ·skip
     refine .cons (.gT rfl rfl rfl (.mv rfl rfl)) <| .cons (.gT rfl rfl rfl (.ln 9 1 16 rfl rfl rfl)) <| .cons (.gT rfl rfl rfl (.gt rfl rfl rfl)) <| .cons (.pT rfl rfl rfl) <| .cons (.mv rfl rfl) ?_
     refine AOps.cases 51 _ rfl (fun g51 => ?_) (fun g51 => ?_)
     ·try simp only [zs1, zs2, zs3, zs4, zs5, zs6, zs7] at g51
      refine .cons (.gT rfl rfl rfl (.mv rfl rfl)) <| .cons (.gT rfl rfl rfl (.xL 9 1 16 (i := 0) rfl rfl rfl rfl rfl (map_at (getD_at2 (d := ⟨#[]⟩) (by omega))))) ?_
      refine .cons (.gT rfl rfl rfl (.l1 1 rfl rfl)) <| .cons (.gT rfl rfl rfl (St1.eqS rfl rfl rfl)) <| .cons (.pT rfl rfl rfl) <| .cons (.asg rfl rfl) <| .nil <| ks_n ?_
      refine ACode.condT rfl (fun h43 => ?_) (fun h43 => ?_)
      ·try simp only [zs1, zs2, zs3, zs4, zs5, zs6, zs7] at h43
       refine .seq <| .region <| .cons (.fB 1 0 false rfl rfl rfl) <| .cons (.b1 1 rfl rfl rfl rfl rfl rfl) <| .cons (.mv rfl rfl) <| .cons (.xB 65 2 48 (i := ps.length) rfl rfl rfl rfl rfl (by first | omega | (simp; done) | (simp; omega)) (by first | omega | (simp; done) | (simp; omega))) ?_
       refine .cons (.bN 2 rfl rfl rfl rfl (row_lastP _ _) rfl) <| .cons (.al 107 [.slice none 0 0, .slice none 0 0] rfl rfl rfl) <| .cons (.sT 2 true rfl rfl rfl rfl rfl rfl rfl) <| .nil <| ks_n <| .seq ?_
       refine ACode.drawK (by kernel_rfl) (by kernel_rfl) ?_
       refine .cons (.fB 0 0 false rfl rfl rfl) <| .cons (.b1 1 rfl rfl rfl rfl rfl rfl) <| .cons (.mv rfl rfl) <| .cons (.cP [.tmp 64] rfl rfl rfl rfl (lnV_fn hs) rfl) ?_
       refine .cons (.li 100 1 0 [.tmp 65] rfl rfl rfl rfl rfl rfl) <| .cons (St1.appN (k' := 167) (e := 100) (sz := 1) (by' := 48) rfl rfl rfl rfl rfl (by kernel_rfl) rfl rfl rfl (by simp) (by first | (simp [dR]; done) | (simp [dR]; omega)) rfl rfl) ?_
       refine .cons (.fB 0 0 false rfl rfl rfl) <| .cons (.sT 1 false rfl rfl rfl rfl rfl rfl rfl) ?_
       refine .nil ⟨by kernel_rfl, ?_⟩
       refine ks_n <| .region <| .cons (.fB 1 0 false rfl rfl rfl) <| .cons (.b1 1 rfl rfl rfl rfl rfl rfl) <| .cons (.mv rfl rfl) <| .cons (.bN 2 rfl rfl rfl rfl rfl rfl) <| .cons (.xB 65 2 48 (i := ps.length) rfl rfl rfl rfl rfl (by first | omega | (simp; done) | (simp; omega)) (by first | omega | (simp; done) | (simp; omega))) ?_
       refine .cons (.sT 2 true rfl rfl rfl rfl (row_lastP _ _) rfl rfl) <| .nil <| kb_n <| ks_n <| .seq <| .region <| .cons (.bN 2 rfl rfl rfl rfl rfl rfl) <| .cons (.sT 2 true rfl rfl rfl rfl rfl rfl rfl) <| .nil <| ks_n <| .ret ?_
       refine kf_wret [(.t 4, .v (.o (.c (.box 150 2 0 0)))), (.b 0, .b 65 2 (dR (ps.map rP) ++ [[.own 100 2 [lnV s].length, niC]])), (.u 0, .u), (.b 100, .b 100 2 (dR ([lnV s].map rL))), (.u 100, .u), (.b 150, .b 45 2 [[.d (dRs a), .own 0 2 (ps.length + 1)]]), (.u 150, .u)] (Wk.keep [(0, 0), (100, 167), (150, 104)] rfl rfl ⟨ks rfl (.c .bx), kb 0 rfl (.eq (set_lastP _ _ _) rfl (.app (.dat _ _ (ps.map rP) rfl rfl) (.cons (.cons (.own _ _ _ _ _ (by first | decide | simp) (by first | rfl | omega | (simp; done))) (.cons (.d _ _ rfl) .nil)) .nil))), kb 167 rfl (.dt rfl rfl), kb 104 rfl (.cons (.cons .dt (.cons .ow Ctos.nil)) .nil), trivial⟩) rfl ?_ (two_box rfl rfl)
       rfl
      ·try simp only [zs1, zs2, zs3, zs4, zs5, zs6, zs7] at h43
       exfalso; simp_all
     ·try simp only [zs1, zs2, zs3, zs4, zs5, zs6, zs7] at g51
      exfalso; simp_all
    ·skip
     omega
 ·skip
  refine .cons (.gF rfl rfl rfl) <| .cons (.gF rfl rfl rfl) <| .cons (.gF rfl rfl rfl) <| .cons (.gF rfl rfl rfl) <| .cons (.pF rfl rfl rfl) <| .cons (.asg rfl rfl) <| .nil <| ks_n ?_
  refine ACode.condT rfl (fun h => by first | (cases h; done) | (simp [*] at h; done) | (exfalso; simp_all; done)) (fun _ => ?_)
  refine .seq <| .region <| .cons (.mv rfl rfl) <| .cons (St1.eqS rfl rfl rfl) <| .cons (.asg rfl rfl) <| .nil <| ks_n ?_
  refine ACode.condT rfl (fun h34 => ?_) (fun h34 => ?_)
  ·try simp only [zs1, zs2, zs3, zs4, zs5, zs6, zs7] at h34
   exfalso; simp_all
  ·try simp only [zs1, zs2, zs3, zs4, zs5, zs6, zs7] at h34
   refine .seq <| .region <| .cons (.mv rfl rfl) <| .cons (.ge rfl rfl rfl) <| .cons (.mv rfl rfl) ?_
   refine .cD 46 rfl (fun g46 => ?_) (fun g46 => ?_)
   ·skip
    refine .cons (.gT rfl rfl rfl (.mv rfl rfl)) <| .cons (.gT rfl rfl rfl (.ln 9 1 16 rfl rfl rfl)) <| .cons (.gT rfl rfl rfl (.gt rfl rfl rfl)) <| .cons (.pT rfl rfl rfl) <| .cons (.mv rfl rfl) ?_
    refine AOps.cases 51 _ rfl (fun g51 => ?_) (fun g51 => ?_)
    ·try simp only [zs1, zs2, zs3, zs4, zs5, zs6, zs7] at g51
     refine .cons (.gT rfl rfl rfl (.mv rfl rfl)) <| .cons (.gT rfl rfl rfl (.xL 9 1 16 (i := 0) rfl rfl rfl rfl rfl (map_at (getD_at2 (d := ⟨#[]⟩) (by omega))))) ?_
     refine .cons (.gT rfl rfl rfl (.l1 1 rfl rfl)) <| .cons (.gT rfl rfl rfl (St1.eqS rfl rfl rfl)) <| .cons (.pT rfl rfl rfl) <| .cons (.asg rfl rfl) <| .nil <| ks_n ?_
     refine ACode.condT rfl (fun h43 => ?_) (fun h43 => ?_)
     ·try simp only [zs1, zs2, zs3, zs4, zs5, zs6, zs7] at h43
      refine .seq <| .region <| .cons (.fB 1 0 false rfl rfl rfl) <| .cons (.b1 1 rfl rfl rfl rfl rfl rfl) <| .cons (.mv rfl rfl) <| .cons (.xB 65 2 48 (i := ps.length) rfl rfl rfl rfl rfl (by first | omega | (simp; done) | (simp; omega)) (by first | omega | (simp; done) | (simp; omega))) ?_
      refine .cons (.bN 2 rfl rfl rfl rfl (row_lastP _ _) rfl) <| .cons (.al 107 [.slice none 0 0, .slice none 0 0] rfl rfl rfl) <| .cons (.sT 2 true rfl rfl rfl rfl rfl rfl rfl) <| .nil <| ks_n <| .seq ?_
      refine ACode.drawK (by kernel_rfl) (by kernel_rfl) ?_
      refine .cons (.fB 0 0 false rfl rfl rfl) <| .cons (.b1 1 rfl rfl rfl rfl rfl rfl) <| .cons (.mv rfl rfl) <| .cons (.cP [.tmp 64] rfl rfl rfl rfl (lnV_fn hs) rfl) ?_
      refine .cons (.li 100 1 0 [.tmp 65] rfl rfl rfl rfl rfl rfl) <| .cons (St1.appN (k' := 167) (e := 100) (sz := 1) (by' := 48) rfl rfl rfl rfl rfl (by kernel_rfl) rfl rfl rfl (by simp) (by first | (simp [dR]; done) | (simp [dR]; omega)) rfl rfl) ?_
      refine .cons (.fB 0 0 false rfl rfl rfl) <| .cons (.sT 1 false rfl rfl rfl rfl rfl rfl rfl) ?_
      refine .nil ⟨by kernel_rfl, ?_⟩
      refine ks_n <| .region <| .cons (.fB 1 0 false rfl rfl rfl) <| .cons (.b1 1 rfl rfl rfl rfl rfl rfl) <| .cons (.mv rfl rfl) <| .cons (.bN 2 rfl rfl rfl rfl rfl rfl) <| .cons (.xB 65 2 48 (i := ps.length) rfl rfl rfl rfl rfl (by first | omega | (simp; done) | (simp; omega)) (by first | omega | (simp; done) | (simp; omega))) ?_
      refine .cons (.sT 2 true rfl rfl rfl rfl (row_lastP _ _) rfl rfl) <| .nil <| kb_n <| ks_n <| .seq <| .region <| .cons (.bN 2 rfl rfl rfl rfl rfl rfl) <| .cons (.sT 2 true rfl rfl rfl rfl rfl rfl rfl) <| .nil <| ks_n <| .ret ?_
      refine kf_wret [(.t 4, .v (.o (.c (.box 150 2 0 0)))), (.b 0, .b 65 2 (dR (ps.map rP) ++ [[.own 100 2 [lnV s].length, niC]])), (.u 0, .u), (.b 100, .b 100 2 (dR ([lnV s].map rL))), (.u 100, .u), (.b 150, .b 45 2 [[.d (dRs a), .own 0 2 (ps.length + 1)]]), (.u 150, .u)] (Wk.keep [(0, 0), (100, 167), (150, 104)] rfl rfl ⟨ks rfl (.c .bx), kb 0 rfl (.eq (set_lastP _ _ _) rfl (.app (.dat _ _ (ps.map rP) rfl rfl) (.cons (.cons (.own _ _ _ _ _ (by first | decide | simp) (by first | rfl | omega | (simp; done))) (.cons (.d _ _ rfl) .nil)) .nil))), kb 167 rfl (.dt rfl rfl), kb 104 rfl (.cons (.cons .dt (.cons .ow Ctos.nil)) .nil), trivial⟩) rfl ?_ (two_box rfl rfl)
      rfl
     ·try simp only [zs1, zs2, zs3, zs4, zs5, zs6, zs7] at h43
      exfalso; simp_all
    ·try simp only [zs1, zs2, zs3, zs4, zs5, zs6, zs7] at g51
     exfalso; simp_all
   ·skip
    omega

theorem line_f1 {s : ByteArray} (hs : s.size ≤ 1048576) (hk : kdL s = 2) (a : List Arr) (ha : a.length ≤ 100) (ps : List Prt) (hps : ps.length ≤ 100) (ns : List Lp) (hns : ns.length ≤ 100) : Fn Try.prog 43 (hbPN 0 1 ps ns) [.agg [.d (dRs a), .own 0 2 (ps.length + 1)], st1 s] (.o (.agg [.d (dRs a), .own 0 2 (ps.length + 1)])) (hbPN 0 1000 ps (ns ++ [lnV s])) := by
 obtain ⟨ws, hws⟩ : ∃ ws, wrdV s = ws := ⟨_, rfl⟩
 have hwb := wrdV_bd s
 have hno := kdL_no0 (s := s) (by rw [hk]; decide)
 rw [hws] at hno hwb
 have hn1 := kdL_no1 (s := s) (by rw [hk]; decide)
 obtain ⟨hp0, he0⟩ := kdL_2 hk
 rw [hws] at hp0 he0
 refine Fn.of_code Try.func43 rfl rfl (hbPN_HB _ _ _ _) rfl rfl (hbPN_HB _ _ _ _) rfl (pn_num ⟨_, _, _, rfl⟩ rfl) ?_
 refine .seq <| .region <| .cons (St1.boxB (k' := 102) rfl rfl rfl rfl rfl rfl rfl) <| .cons (.al 104 [.slice none 0 0, .slice none 0 0] rfl rfl rfl) <| .nil <| ks_n <| .seq <| .region <| .cons (.mv rfl rfl) <| .cons (.cP [.tmp 11] rfl rfl rfl rfl (show Fn Try.prog 53 [] [st1 s] (.o (vD (dTxs ws))) [] from by rw [← hws]; exact l16Words_fn hs) rfl) ?_
 refine .cons (.asg rfl rfl) <| .nil <| ks_n <| .seq <| .region <| .cons (.fB 1 0 false rfl rfl rfl) <| .cons (.b1 1 rfl rfl rfl rfl rfl rfl) <| .cons (.lB 65 2 48 rfl rfl rfl rfl) <| .cons (.sb rfl rfl rfl) <| .cons (.asg rfl rfl) <| .nil <| ks_n <| .seq <| .block <| .seq <| .region <| .cons (.mv rfl rfl) <| .cons (.ln 9 1 16 rfl rfl rfl) <| .cons (.gt rfl rfl rfl) <| .cons (.mv rfl rfl) ?_
 refine .cD 21 rfl (fun g21 => ?_) (fun g21 => ?_)
 ·skip
  refine .cons (.gT rfl rfl rfl (.mv rfl rfl)) <| .cons (.gT rfl rfl rfl (.xL 9 1 16 (i := 0) rfl rfl rfl rfl rfl (map_at (getD_at2 (d := ⟨#[]⟩) (by omega))))) ?_
  refine .cons (.gT rfl rfl rfl (.l1 1 rfl rfl)) <| .cons (.gT rfl rfl rfl (St1.eqS rfl rfl rfl)) <| .cons (.pT rfl rfl rfl) <| .cons (.asg rfl rfl) <| .nil <| ks_n ?_
  refine ACode.condT rfl (fun h17 => ?_) (fun h17 => ?_)
  ·try simp only [zs1, zs2, zs3, zs4, zs5, zs6, zs7] at h17
   exfalso; simp_all
  ·try simp only [zs1, zs2, zs3, zs4, zs5, zs6, zs7] at h17
   refine .seq <| .region <| .cons (.mv rfl rfl) <| .cons (St1.eqS rfl rfl rfl) <| .cons (.asg rfl rfl) <| .nil <| ks_n ?_
   refine ACode.condT rfl (fun h34 => ?_) (fun h34 => ?_)
   ·try simp only [zs1, zs2, zs3, zs4, zs5, zs6, zs7] at h34
    exfalso; simp_all
   ·try simp only [zs1, zs2, zs3, zs4, zs5, zs6, zs7] at h34
    refine .seq <| .region <| .cons (.mv rfl rfl) <| .cons (.ge rfl rfl rfl) <| .cons (.mv rfl rfl) ?_
    refine .cD 46 rfl (fun g46 => ?_) (fun g46 => ?_)
    ·skip
     refine .cons (.gT rfl rfl rfl (.mv rfl rfl)) <| .cons (.gT rfl rfl rfl (.ln 9 1 16 rfl rfl rfl)) <| .cons (.gT rfl rfl rfl (.gt rfl rfl rfl)) <| .cons (.pT rfl rfl rfl) <| .cons (.mv rfl rfl) ?_
     refine AOps.cases 51 _ rfl (fun g51 => ?_) (fun g51 => ?_)
     ·try simp only [zs1, zs2, zs3, zs4, zs5, zs6, zs7] at g51
      refine .cons (.gT rfl rfl rfl (.mv rfl rfl)) <| .cons (.gT rfl rfl rfl (.xL 9 1 16 (i := 0) rfl rfl rfl rfl rfl (map_at (getD_at2 (d := ⟨#[]⟩) (by omega))))) ?_
      refine .cons (.gT rfl rfl rfl (.l1 1 rfl rfl)) <| .cons (.gT rfl rfl rfl (St1.eqS rfl rfl rfl)) <| .cons (.pT rfl rfl rfl) <| .cons (.asg rfl rfl) <| .nil <| ks_n ?_
      refine ACode.condT rfl (fun h43 => ?_) (fun h43 => ?_)
      ·try simp only [zs1, zs2, zs3, zs4, zs5, zs6, zs7] at h43
       refine .seq <| .region <| .cons (.fB 1 0 false rfl rfl rfl) <| .cons (.b1 1 rfl rfl rfl rfl rfl rfl) <| .cons (.mv rfl rfl) <| .cons (.xB 65 2 48 (i := ps.length) rfl rfl rfl rfl rfl (by first | omega | (simp; done) | (simp; omega)) (by first | omega | (simp; done) | (simp; omega))) ?_
       refine .cons (.bN 2 rfl rfl rfl rfl (row_lastP _ _) rfl) <| .cons (.al 107 [.slice none 0 0, .slice none 0 0] rfl rfl rfl) <| .cons (.sT 2 true rfl rfl rfl rfl rfl rfl rfl) <| .nil <| ks_n <| .seq ?_
       refine ACode.drawK (by kernel_rfl) (by kernel_rfl) ?_
       refine .cons (.fB 0 0 false rfl rfl rfl) <| .cons (.b1 1 rfl rfl rfl rfl rfl rfl) <| .cons (.mv rfl rfl) <| .cons (.cP [.tmp 64] rfl rfl rfl rfl (lnV_fn hs) rfl) ?_
       refine .cons (.li 100 1 0 [.tmp 65] rfl rfl rfl rfl rfl rfl) <| .cons (St1.appB (k' := 1067) (e := 100) (sz := 1) (by' := 48) rfl rfl rfl rfl rfl (by kernel_rfl) rfl rfl rfl rfl (by simp [dR]) (by first | (simp [dR]; done) | (simp [dR]; omega)) rfl rfl rfl) ?_
       refine .cons (.fB 0 0 false rfl rfl rfl) <| .cons (.sT 1 false rfl rfl rfl rfl rfl rfl rfl) ?_
       refine .nil ⟨by kernel_rfl, ?_⟩
       refine ks_n <| .region <| .cons (.fB 1 0 false rfl rfl rfl) <| .cons (.b1 1 rfl rfl rfl rfl rfl rfl) <| .cons (.mv rfl rfl) <| .cons (.bN 2 rfl rfl rfl rfl rfl rfl) <| .cons (.xB 65 2 48 (i := ps.length) rfl rfl rfl rfl rfl (by first | omega | (simp; done) | (simp; omega)) (by first | omega | (simp; done) | (simp; omega))) ?_
       refine .cons (.sT 2 true rfl rfl rfl rfl (row_lastP _ _) rfl rfl) <| .nil <| kb_n <| ks_n <| .seq <| .region <| .cons (.bN 2 rfl rfl rfl rfl rfl rfl) <| .cons (.sT 2 true rfl rfl rfl rfl rfl rfl rfl) <| .nil <| ks_n <| .ret ?_
       refine kf_wret [(.t 4, .v (.o (.c (.box 150 2 0 0)))), (.b 0, .b 65 2 (dR (ps.map rP) ++ [[.own 1000 2 (ns ++ [lnV s]).length, niC]])), (.u 0, .u), (.b 1000, .b 100 2 (dR ((ns ++ [lnV s]).map rL))), (.u 1000, .u), (.b 150, .b 45 2 [[.d (dRs a), .own 0 2 (ps.length + 1)]]), (.u 150, .u)] (Wk.keep [(0, 0), (1000, 1067), (150, 104)] rfl rfl ⟨ks rfl (.c .bx), kb 0 rfl (.eq (set_lastP _ _ _) rfl (.app (.dat _ _ (ps.map rP) rfl rfl) (.cons (.cons (.own _ _ _ _ _ (by first | decide | simp) (by first | rfl | omega | (simp; done))) (.cons (.d _ _ rfl) .nil)) .nil))), kb 1067 rfl (.dt rfl (by rw [List.map_append, dR_app]; rfl)), kb 104 rfl (.cons (.cons .dt (.cons .ow Ctos.nil)) .nil), trivial⟩) rfl ?_ (two_box rfl rfl)
       rfl
      ·try simp only [zs1, zs2, zs3, zs4, zs5, zs6, zs7] at h43
       exfalso; simp_all
     ·try simp only [zs1, zs2, zs3, zs4, zs5, zs6, zs7] at g51
      exfalso; simp_all
    ·skip
     omega
 ·skip
  refine .cons (.gF rfl rfl rfl) <| .cons (.gF rfl rfl rfl) <| .cons (.gF rfl rfl rfl) <| .cons (.gF rfl rfl rfl) <| .cons (.pF rfl rfl rfl) <| .cons (.asg rfl rfl) <| .nil <| ks_n ?_
  refine ACode.condT rfl (fun h => by first | (cases h; done) | (simp [*] at h; done) | (exfalso; simp_all; done)) (fun _ => ?_)
  refine .seq <| .region <| .cons (.mv rfl rfl) <| .cons (St1.eqS rfl rfl rfl) <| .cons (.asg rfl rfl) <| .nil <| ks_n ?_
  refine ACode.condT rfl (fun h34 => ?_) (fun h34 => ?_)
  ·try simp only [zs1, zs2, zs3, zs4, zs5, zs6, zs7] at h34
   exfalso; simp_all
  ·try simp only [zs1, zs2, zs3, zs4, zs5, zs6, zs7] at h34
   refine .seq <| .region <| .cons (.mv rfl rfl) <| .cons (.ge rfl rfl rfl) <| .cons (.mv rfl rfl) ?_
   refine .cD 46 rfl (fun g46 => ?_) (fun g46 => ?_)
   ·skip
    refine .cons (.gT rfl rfl rfl (.mv rfl rfl)) <| .cons (.gT rfl rfl rfl (.ln 9 1 16 rfl rfl rfl)) <| .cons (.gT rfl rfl rfl (.gt rfl rfl rfl)) <| .cons (.pT rfl rfl rfl) <| .cons (.mv rfl rfl) ?_
    refine AOps.cases 51 _ rfl (fun g51 => ?_) (fun g51 => ?_)
    ·try simp only [zs1, zs2, zs3, zs4, zs5, zs6, zs7] at g51
     refine .cons (.gT rfl rfl rfl (.mv rfl rfl)) <| .cons (.gT rfl rfl rfl (.xL 9 1 16 (i := 0) rfl rfl rfl rfl rfl (map_at (getD_at2 (d := ⟨#[]⟩) (by omega))))) ?_
     refine .cons (.gT rfl rfl rfl (.l1 1 rfl rfl)) <| .cons (.gT rfl rfl rfl (St1.eqS rfl rfl rfl)) <| .cons (.pT rfl rfl rfl) <| .cons (.asg rfl rfl) <| .nil <| ks_n ?_
     refine ACode.condT rfl (fun h43 => ?_) (fun h43 => ?_)
     ·try simp only [zs1, zs2, zs3, zs4, zs5, zs6, zs7] at h43
      refine .seq <| .region <| .cons (.fB 1 0 false rfl rfl rfl) <| .cons (.b1 1 rfl rfl rfl rfl rfl rfl) <| .cons (.mv rfl rfl) <| .cons (.xB 65 2 48 (i := ps.length) rfl rfl rfl rfl rfl (by first | omega | (simp; done) | (simp; omega)) (by first | omega | (simp; done) | (simp; omega))) ?_
      refine .cons (.bN 2 rfl rfl rfl rfl (row_lastP _ _) rfl) <| .cons (.al 107 [.slice none 0 0, .slice none 0 0] rfl rfl rfl) <| .cons (.sT 2 true rfl rfl rfl rfl rfl rfl rfl) <| .nil <| ks_n <| .seq ?_
      refine ACode.drawK (by kernel_rfl) (by kernel_rfl) ?_
      refine .cons (.fB 0 0 false rfl rfl rfl) <| .cons (.b1 1 rfl rfl rfl rfl rfl rfl) <| .cons (.mv rfl rfl) <| .cons (.cP [.tmp 64] rfl rfl rfl rfl (lnV_fn hs) rfl) ?_
      refine .cons (.li 100 1 0 [.tmp 65] rfl rfl rfl rfl rfl rfl) <| .cons (St1.appB (k' := 1067) (e := 100) (sz := 1) (by' := 48) rfl rfl rfl rfl rfl (by kernel_rfl) rfl rfl rfl rfl (by simp [dR]) (by first | (simp [dR]; done) | (simp [dR]; omega)) rfl rfl rfl) ?_
      refine .cons (.fB 0 0 false rfl rfl rfl) <| .cons (.sT 1 false rfl rfl rfl rfl rfl rfl rfl) ?_
      refine .nil ⟨by kernel_rfl, ?_⟩
      refine ks_n <| .region <| .cons (.fB 1 0 false rfl rfl rfl) <| .cons (.b1 1 rfl rfl rfl rfl rfl rfl) <| .cons (.mv rfl rfl) <| .cons (.bN 2 rfl rfl rfl rfl rfl rfl) <| .cons (.xB 65 2 48 (i := ps.length) rfl rfl rfl rfl rfl (by first | omega | (simp; done) | (simp; omega)) (by first | omega | (simp; done) | (simp; omega))) ?_
      refine .cons (.sT 2 true rfl rfl rfl rfl (row_lastP _ _) rfl rfl) <| .nil <| kb_n <| ks_n <| .seq <| .region <| .cons (.bN 2 rfl rfl rfl rfl rfl rfl) <| .cons (.sT 2 true rfl rfl rfl rfl rfl rfl rfl) <| .nil <| ks_n <| .ret ?_
      refine kf_wret [(.t 4, .v (.o (.c (.box 150 2 0 0)))), (.b 0, .b 65 2 (dR (ps.map rP) ++ [[.own 1000 2 (ns ++ [lnV s]).length, niC]])), (.u 0, .u), (.b 1000, .b 100 2 (dR ((ns ++ [lnV s]).map rL))), (.u 1000, .u), (.b 150, .b 45 2 [[.d (dRs a), .own 0 2 (ps.length + 1)]]), (.u 150, .u)] (Wk.keep [(0, 0), (1000, 1067), (150, 104)] rfl rfl ⟨ks rfl (.c .bx), kb 0 rfl (.eq (set_lastP _ _ _) rfl (.app (.dat _ _ (ps.map rP) rfl rfl) (.cons (.cons (.own _ _ _ _ _ (by first | decide | simp) (by first | rfl | omega | (simp; done))) (.cons (.d _ _ rfl) .nil)) .nil))), kb 1067 rfl (.dt rfl (by rw [List.map_append, dR_app]; rfl)), kb 104 rfl (.cons (.cons .dt (.cons .ow Ctos.nil)) .nil), trivial⟩) rfl ?_ (two_box rfl rfl)
      rfl
     ·try simp only [zs1, zs2, zs3, zs4, zs5, zs6, zs7] at h43
      exfalso; simp_all
    ·try simp only [zs1, zs2, zs3, zs4, zs5, zs6, zs7] at g51
     exfalso; simp_all
   ·skip
    omega

theorem line_s0 {s : ByteArray} (hs : s.size ≤ 1048576) (hk : kdL s = 3) (a : List Arr) (ha : a.length ≤ 100) (ps : List Prt) (hps : ps.length ≤ 100) (ns : List Lp) : Fn Try.prog 43 (hbP 0 ps [.d (dLs ns), niC]) [.agg [.d (dRs a), .own 0 2 (ps.length + 1)], st1 s] (.o (.agg [.d (dRs a), .own 0 2 (ps.length + 1)])) (hbPB 0 100 ps ns [(psV s).1]) := by
 obtain ⟨ws, hws⟩ : ∃ ws, wrdV s = ws := ⟨_, rfl⟩
 have hwb := wrdV_bd s
 have hno := kdL_no0 (s := s) (by rw [hk]; decide)
 rw [hws] at hno hwb
 have hn1 := kdL_no1 (s := s) (by rw [hk]; decide)
 have hn2 := kdL_3 hk
 rw [hws] at hn2
 refine Fn.of_code Try.func43 rfl rfl (hbP_HB _ _ _ _) rfl rfl (hbPB_HB _ _ _ _ _) rfl (pn_num ⟨_, _, _, rfl⟩ rfl) ?_
 refine .seq <| .region <| .cons (St1.boxB (k' := 102) rfl rfl rfl rfl rfl rfl rfl) <| .cons (.al 104 [.slice none 0 0, .slice none 0 0] rfl rfl rfl) <| .nil <| ks_n <| .seq <| .region <| .cons (.mv rfl rfl) <| .cons (.cP [.tmp 11] rfl rfl rfl rfl (show Fn Try.prog 53 [] [st1 s] (.o (vD (dTxs ws))) [] from by rw [← hws]; exact l16Words_fn hs) rfl) ?_
 refine .cons (.asg rfl rfl) <| .nil <| ks_n <| .seq <| .region <| .cons (.fB 1 0 false rfl rfl rfl) <| .cons (.b1 1 rfl rfl rfl rfl rfl rfl) <| .cons (.lB 65 2 48 rfl rfl rfl rfl) <| .cons (.sb rfl rfl rfl) <| .cons (.asg rfl rfl) <| .nil <| ks_n <| .seq <| .block <| .seq <| .region <| .cons (.mv rfl rfl) <| .cons (.ln 9 1 16 rfl rfl rfl) <| .cons (.gt rfl rfl rfl) <| .cons (.mv rfl rfl) ?_
 refine .cD 21 rfl (fun g21 => ?_) (fun g21 => ?_)
 ·skip
  refine .cons (.gT rfl rfl rfl (.mv rfl rfl)) <| .cons (.gT rfl rfl rfl (.xL 9 1 16 (i := 0) rfl rfl rfl rfl rfl (map_at (getD_at2 (d := ⟨#[]⟩) (by omega))))) ?_
  refine .cons (.gT rfl rfl rfl (.l1 1 rfl rfl)) <| .cons (.gT rfl rfl rfl (St1.eqS rfl rfl rfl)) <| .cons (.pT rfl rfl rfl) <| .cons (.asg rfl rfl) <| .nil <| ks_n ?_
  refine ACode.condT rfl (fun h17 => ?_) (fun h17 => ?_)
  ·try simp only [zs1, zs2, zs3, zs4, zs5, zs6, zs7] at h17
   exfalso; simp_all
  ·try simp only [zs1, zs2, zs3, zs4, zs5, zs6, zs7] at h17
   refine .seq <| .region <| .cons (.mv rfl rfl) <| .cons (St1.eqS rfl rfl rfl) <| .cons (.asg rfl rfl) <| .nil <| ks_n ?_
   refine ACode.condT rfl (fun h34 => ?_) (fun h34 => ?_)
   ·try simp only [zs1, zs2, zs3, zs4, zs5, zs6, zs7] at h34
    exfalso; simp_all
   ·try simp only [zs1, zs2, zs3, zs4, zs5, zs6, zs7] at h34
    refine .seq <| .region <| .cons (.mv rfl rfl) <| .cons (.ge rfl rfl rfl) <| .cons (.mv rfl rfl) ?_
    refine .cD 46 rfl (fun g46 => ?_) (fun g46 => ?_)
    ·skip
     refine .cons (.gT rfl rfl rfl (.mv rfl rfl)) <| .cons (.gT rfl rfl rfl (.ln 9 1 16 rfl rfl rfl)) <| .cons (.gT rfl rfl rfl (.gt rfl rfl rfl)) <| .cons (.pT rfl rfl rfl) <| .cons (.mv rfl rfl) ?_
     refine AOps.cases 51 _ rfl (fun g51 => ?_) (fun g51 => ?_)
     ·try simp only [zs1, zs2, zs3, zs4, zs5, zs6, zs7] at g51
      refine .cons (.gT rfl rfl rfl (.mv rfl rfl)) <| .cons (.gT rfl rfl rfl (.xL 9 1 16 (i := 0) rfl rfl rfl rfl rfl (map_at (getD_at2 (d := ⟨#[]⟩) (by omega))))) ?_
      refine .cons (.gT rfl rfl rfl (.l1 1 rfl rfl)) <| .cons (.gT rfl rfl rfl (St1.eqS rfl rfl rfl)) <| .cons (.pT rfl rfl rfl) <| .cons (.asg rfl rfl) <| .nil <| ks_n ?_
      refine ACode.condT rfl (fun h43 => ?_) (fun h43 => ?_)
      ·try simp only [zs1, zs2, zs3, zs4, zs5, zs6, zs7] at h43
       exfalso; simp_all
      ·try simp only [zs1, zs2, zs3, zs4, zs5, zs6, zs7] at h43
       refine .seq <| .region <| .cons (.mv rfl rfl) <| .cons (.ge rfl rfl rfl) <| .cons (.asg rfl rfl) <| .nil <| ks_n ?_
       refine .cD rfl (fun h74 => ?_) (fun h74 => ?_)
       ·skip
        refine .seq <| .region <| .cons (.fB 1 0 false rfl rfl rfl) <| .cons (.b1 1 rfl rfl rfl rfl rfl rfl) <| .cons (.mv rfl rfl) <| .cons (.xB 65 2 48 (i := ps.length) rfl rfl rfl rfl rfl (by first | omega | (simp; done) | (simp; omega)) (by first | omega | (simp; done) | (simp; omega))) ?_
        refine .cons (.bN 2 rfl rfl rfl rfl (row_lastP _ _) rfl) <| .cons (.al 108 [.slice none 0 0, .slice none 0 0] rfl rfl rfl) <| .cons (.sT 2 true rfl rfl rfl rfl rfl rfl rfl) <| .nil <| ks_n <| .seq <| .region <| .cons (.mv rfl rfl) <| .cons (.cP [.tmp 83] rfl rfl rfl rfl (psV_fn hs) rfl) ?_
        refine .cons (.mv rfl rfl) <| .cons (.ex rfl rfl rfl) <| .cons (.ex rfl rfl rfl) <| .cons (.al 109 [.string ByteArray.empty, .slice none 0 0, .int .i64 0, .int .i64 0, .slice none 0 0, .int .i64 0, .string ByteArray.empty, .slice none 0 0, .slice none 0 0] rfl rfl rfl) <| .cons (.sT 9 true rfl rfl rfl rfl rfl rfl rfl) <| .cons (.asg rfl rfl) <| .nil <| ks_n <| .seq <| .region <| .cons (.fB 1 0 false rfl rfl rfl) <| .cons (.b1 1 rfl rfl rfl rfl rfl rfl) <| .cons (.bN 9 rfl rfl rfl rfl rfl rfl) <| .cons (.li 79 8 0 [.tmp 89] rfl rfl rfl rfl rfl rfl) <| .cons (St1.appN (k' := 191) (e := 79) (sz := 8) (by' := 152) rfl rfl rfl rfl rfl (by kernel_rfl) rfl rfl rfl (by simp) (by first | (simp [dR]; done) | (simp [dR]; omega)) rfl rfl) ?_
        refine .cons (.fB 1 0 false rfl rfl rfl) <| .cons (.sT 1 false rfl rfl rfl rfl rfl rfl rfl) <| .nil <| ks_n <| .region <| .cons (.fB 1 0 false rfl rfl rfl) <| .cons (.b1 1 rfl rfl rfl rfl rfl rfl) <| .cons (.mv rfl rfl) <| .cons (.bN 2 rfl rfl rfl rfl rfl rfl) <| .cons (.xB 65 2 48 (i := ps.length) rfl rfl rfl rfl rfl (by first | omega | (simp; done) | (simp; omega)) (by first | omega | (simp; done) | (simp; omega))) ?_
        refine .cons (.sT 2 true rfl rfl rfl rfl (row_lastP _ _) rfl rfl) <| .nil <| kb_n <| ks_n <| .seq <| .region <| .cons (.bN 2 rfl rfl rfl rfl rfl rfl) <| .cons (.sT 2 true rfl rfl rfl rfl rfl rfl rfl) <| .nil <| ks_n <| .ret ?_
        refine kf_wret [(.t 4, .v (.o (.c (.box 150 2 0 0)))), (.b 0, .b 65 2 (dR (ps.map rP) ++ [[.d (dLs ns), .own 100 9 [(psV s).1].length]])), (.u 0, .u), (.b 100, .b 79 9 (dR ([(psV s).1].map rS))), (.u 100, .u), (.b 150, .b 45 2 [[.d (dRs a), .own 0 2 (ps.length + 1)]]), (.u 150, .u)] (Wk.keep [(0, 0), (100, 191), (150, 104)] rfl rfl ⟨ks rfl (.c .bx), kb 0 rfl (.eq (set_lastP _ _ _) rfl (.app (.dat _ _ (ps.map rP) rfl rfl) (.cons (.cons (.d _ _ rfl) (.cons (.own _ _ _ _ _ (by first | decide | simp) (by first | rfl | omega | (simp; done))) .nil)) .nil))), kb 191 rfl (.dt rfl rfl), kb 104 rfl (.cons (.cons .dt (.cons .ow Ctos.nil)) .nil), trivial⟩) rfl ?_ (two_box rfl rfl)
        rfl
       ·skip
        omega
     ·try simp only [zs1, zs2, zs3, zs4, zs5, zs6, zs7] at g51
      refine .cons (.gF rfl rfl rfl) <| .cons (.gF rfl rfl rfl) <| .cons (.gF rfl rfl rfl) <| .cons (.gF rfl rfl rfl) <| .cons (.pF rfl rfl rfl) <| .cons (.asg rfl rfl) <| .nil <| ks_n ?_
      refine ACode.condT rfl (fun h => by first | (cases h; done) | (simp [*] at h; done) | (exfalso; simp_all; done)) (fun _ => ?_)
      refine .seq <| .region <| .cons (.mv rfl rfl) <| .cons (.ge rfl rfl rfl) <| .cons (.asg rfl rfl) <| .nil <| ks_n ?_
      refine .cD rfl (fun h74 => ?_) (fun h74 => ?_)
      ·skip
       refine .seq <| .region <| .cons (.fB 1 0 false rfl rfl rfl) <| .cons (.b1 1 rfl rfl rfl rfl rfl rfl) <| .cons (.mv rfl rfl) <| .cons (.xB 65 2 48 (i := ps.length) rfl rfl rfl rfl rfl (by first | omega | (simp; done) | (simp; omega)) (by first | omega | (simp; done) | (simp; omega))) ?_
       refine .cons (.bN 2 rfl rfl rfl rfl (row_lastP _ _) rfl) <| .cons (.al 108 [.slice none 0 0, .slice none 0 0] rfl rfl rfl) <| .cons (.sT 2 true rfl rfl rfl rfl rfl rfl rfl) <| .nil <| ks_n <| .seq <| .region <| .cons (.mv rfl rfl) <| .cons (.cP [.tmp 83] rfl rfl rfl rfl (psV_fn hs) rfl) ?_
       refine .cons (.mv rfl rfl) <| .cons (.ex rfl rfl rfl) <| .cons (.ex rfl rfl rfl) <| .cons (.al 109 [.string ByteArray.empty, .slice none 0 0, .int .i64 0, .int .i64 0, .slice none 0 0, .int .i64 0, .string ByteArray.empty, .slice none 0 0, .slice none 0 0] rfl rfl rfl) <| .cons (.sT 9 true rfl rfl rfl rfl rfl rfl rfl) <| .cons (.asg rfl rfl) <| .nil <| ks_n <| .seq <| .region <| .cons (.fB 1 0 false rfl rfl rfl) <| .cons (.b1 1 rfl rfl rfl rfl rfl rfl) <| .cons (.bN 9 rfl rfl rfl rfl rfl rfl) <| .cons (.li 79 8 0 [.tmp 89] rfl rfl rfl rfl rfl rfl) <| .cons (St1.appN (k' := 191) (e := 79) (sz := 8) (by' := 152) rfl rfl rfl rfl rfl (by kernel_rfl) rfl rfl rfl (by simp) (by first | (simp [dR]; done) | (simp [dR]; omega)) rfl rfl) ?_
       refine .cons (.fB 1 0 false rfl rfl rfl) <| .cons (.sT 1 false rfl rfl rfl rfl rfl rfl rfl) <| .nil <| ks_n <| .region <| .cons (.fB 1 0 false rfl rfl rfl) <| .cons (.b1 1 rfl rfl rfl rfl rfl rfl) <| .cons (.mv rfl rfl) <| .cons (.bN 2 rfl rfl rfl rfl rfl rfl) <| .cons (.xB 65 2 48 (i := ps.length) rfl rfl rfl rfl rfl (by first | omega | (simp; done) | (simp; omega)) (by first | omega | (simp; done) | (simp; omega))) ?_
       refine .cons (.sT 2 true rfl rfl rfl rfl (row_lastP _ _) rfl rfl) <| .nil <| kb_n <| ks_n <| .seq <| .region <| .cons (.bN 2 rfl rfl rfl rfl rfl rfl) <| .cons (.sT 2 true rfl rfl rfl rfl rfl rfl rfl) <| .nil <| ks_n <| .ret ?_
       refine kf_wret [(.t 4, .v (.o (.c (.box 150 2 0 0)))), (.b 0, .b 65 2 (dR (ps.map rP) ++ [[.d (dLs ns), .own 100 9 [(psV s).1].length]])), (.u 0, .u), (.b 100, .b 79 9 (dR ([(psV s).1].map rS))), (.u 100, .u), (.b 150, .b 45 2 [[.d (dRs a), .own 0 2 (ps.length + 1)]]), (.u 150, .u)] (Wk.keep [(0, 0), (100, 191), (150, 104)] rfl rfl ⟨ks rfl (.c .bx), kb 0 rfl (.eq (set_lastP _ _ _) rfl (.app (.dat _ _ (ps.map rP) rfl rfl) (.cons (.cons (.d _ _ rfl) (.cons (.own _ _ _ _ _ (by first | decide | simp) (by first | rfl | omega | (simp; done))) .nil)) .nil))), kb 191 rfl (.dt rfl rfl), kb 104 rfl (.cons (.cons .dt (.cons .ow Ctos.nil)) .nil), trivial⟩) rfl ?_ (two_box rfl rfl)
       rfl
      ·skip
       omega
    ·skip
     omega
 ·skip
  refine .cons (.gF rfl rfl rfl) <| .cons (.gF rfl rfl rfl) <| .cons (.gF rfl rfl rfl) <| .cons (.gF rfl rfl rfl) <| .cons (.pF rfl rfl rfl) <| .cons (.asg rfl rfl) <| .nil <| ks_n ?_
  refine ACode.condT rfl (fun h => by first | (cases h; done) | (simp [*] at h; done) | (exfalso; simp_all; done)) (fun _ => ?_)
  refine .seq <| .region <| .cons (.mv rfl rfl) <| .cons (St1.eqS rfl rfl rfl) <| .cons (.asg rfl rfl) <| .nil <| ks_n ?_
  refine ACode.condT rfl (fun h34 => ?_) (fun h34 => ?_)
  ·try simp only [zs1, zs2, zs3, zs4, zs5, zs6, zs7] at h34
   exfalso; simp_all
  ·try simp only [zs1, zs2, zs3, zs4, zs5, zs6, zs7] at h34
   refine .seq <| .region <| .cons (.mv rfl rfl) <| .cons (.ge rfl rfl rfl) <| .cons (.mv rfl rfl) ?_
   refine .cD 46 rfl (fun g46 => ?_) (fun g46 => ?_)
   ·skip
    refine .cons (.gT rfl rfl rfl (.mv rfl rfl)) <| .cons (.gT rfl rfl rfl (.ln 9 1 16 rfl rfl rfl)) <| .cons (.gT rfl rfl rfl (.gt rfl rfl rfl)) <| .cons (.pT rfl rfl rfl) <| .cons (.mv rfl rfl) ?_
    refine AOps.cases 51 _ rfl (fun g51 => ?_) (fun g51 => ?_)
    ·try simp only [zs1, zs2, zs3, zs4, zs5, zs6, zs7] at g51
     refine .cons (.gT rfl rfl rfl (.mv rfl rfl)) <| .cons (.gT rfl rfl rfl (.xL 9 1 16 (i := 0) rfl rfl rfl rfl rfl (map_at (getD_at2 (d := ⟨#[]⟩) (by omega))))) ?_
     refine .cons (.gT rfl rfl rfl (.l1 1 rfl rfl)) <| .cons (.gT rfl rfl rfl (St1.eqS rfl rfl rfl)) <| .cons (.pT rfl rfl rfl) <| .cons (.asg rfl rfl) <| .nil <| ks_n ?_
     refine ACode.condT rfl (fun h43 => ?_) (fun h43 => ?_)
     ·try simp only [zs1, zs2, zs3, zs4, zs5, zs6, zs7] at h43
      exfalso; simp_all
     ·try simp only [zs1, zs2, zs3, zs4, zs5, zs6, zs7] at h43
      refine .seq <| .region <| .cons (.mv rfl rfl) <| .cons (.ge rfl rfl rfl) <| .cons (.asg rfl rfl) <| .nil <| ks_n ?_
      refine .cD rfl (fun h74 => ?_) (fun h74 => ?_)
      ·skip
       refine .seq <| .region <| .cons (.fB 1 0 false rfl rfl rfl) <| .cons (.b1 1 rfl rfl rfl rfl rfl rfl) <| .cons (.mv rfl rfl) <| .cons (.xB 65 2 48 (i := ps.length) rfl rfl rfl rfl rfl (by first | omega | (simp; done) | (simp; omega)) (by first | omega | (simp; done) | (simp; omega))) ?_
       refine .cons (.bN 2 rfl rfl rfl rfl (row_lastP _ _) rfl) <| .cons (.al 108 [.slice none 0 0, .slice none 0 0] rfl rfl rfl) <| .cons (.sT 2 true rfl rfl rfl rfl rfl rfl rfl) <| .nil <| ks_n <| .seq <| .region <| .cons (.mv rfl rfl) <| .cons (.cP [.tmp 83] rfl rfl rfl rfl (psV_fn hs) rfl) ?_
       refine .cons (.mv rfl rfl) <| .cons (.ex rfl rfl rfl) <| .cons (.ex rfl rfl rfl) <| .cons (.al 109 [.string ByteArray.empty, .slice none 0 0, .int .i64 0, .int .i64 0, .slice none 0 0, .int .i64 0, .string ByteArray.empty, .slice none 0 0, .slice none 0 0] rfl rfl rfl) <| .cons (.sT 9 true rfl rfl rfl rfl rfl rfl rfl) <| .cons (.asg rfl rfl) <| .nil <| ks_n <| .seq <| .region <| .cons (.fB 1 0 false rfl rfl rfl) <| .cons (.b1 1 rfl rfl rfl rfl rfl rfl) <| .cons (.bN 9 rfl rfl rfl rfl rfl rfl) <| .cons (.li 79 8 0 [.tmp 89] rfl rfl rfl rfl rfl rfl) <| .cons (St1.appN (k' := 191) (e := 79) (sz := 8) (by' := 152) rfl rfl rfl rfl rfl (by kernel_rfl) rfl rfl rfl (by simp) (by first | (simp [dR]; done) | (simp [dR]; omega)) rfl rfl) ?_
       refine .cons (.fB 1 0 false rfl rfl rfl) <| .cons (.sT 1 false rfl rfl rfl rfl rfl rfl rfl) <| .nil <| ks_n <| .region <| .cons (.fB 1 0 false rfl rfl rfl) <| .cons (.b1 1 rfl rfl rfl rfl rfl rfl) <| .cons (.mv rfl rfl) <| .cons (.bN 2 rfl rfl rfl rfl rfl rfl) <| .cons (.xB 65 2 48 (i := ps.length) rfl rfl rfl rfl rfl (by first | omega | (simp; done) | (simp; omega)) (by first | omega | (simp; done) | (simp; omega))) ?_
       refine .cons (.sT 2 true rfl rfl rfl rfl (row_lastP _ _) rfl rfl) <| .nil <| kb_n <| ks_n <| .seq <| .region <| .cons (.bN 2 rfl rfl rfl rfl rfl rfl) <| .cons (.sT 2 true rfl rfl rfl rfl rfl rfl rfl) <| .nil <| ks_n <| .ret ?_
       refine kf_wret [(.t 4, .v (.o (.c (.box 150 2 0 0)))), (.b 0, .b 65 2 (dR (ps.map rP) ++ [[.d (dLs ns), .own 100 9 [(psV s).1].length]])), (.u 0, .u), (.b 100, .b 79 9 (dR ([(psV s).1].map rS))), (.u 100, .u), (.b 150, .b 45 2 [[.d (dRs a), .own 0 2 (ps.length + 1)]]), (.u 150, .u)] (Wk.keep [(0, 0), (100, 191), (150, 104)] rfl rfl ⟨ks rfl (.c .bx), kb 0 rfl (.eq (set_lastP _ _ _) rfl (.app (.dat _ _ (ps.map rP) rfl rfl) (.cons (.cons (.d _ _ rfl) (.cons (.own _ _ _ _ _ (by first | decide | simp) (by first | rfl | omega | (simp; done))) .nil)) .nil))), kb 191 rfl (.dt rfl rfl), kb 104 rfl (.cons (.cons .dt (.cons .ow Ctos.nil)) .nil), trivial⟩) rfl ?_ (two_box rfl rfl)
       rfl
      ·skip
       omega
    ·try simp only [zs1, zs2, zs3, zs4, zs5, zs6, zs7] at g51
     refine .cons (.gF rfl rfl rfl) <| .cons (.gF rfl rfl rfl) <| .cons (.gF rfl rfl rfl) <| .cons (.gF rfl rfl rfl) <| .cons (.pF rfl rfl rfl) <| .cons (.asg rfl rfl) <| .nil <| ks_n ?_
     refine ACode.condT rfl (fun h => by first | (cases h; done) | (simp [*] at h; done) | (exfalso; simp_all; done)) (fun _ => ?_)
     refine .seq <| .region <| .cons (.mv rfl rfl) <| .cons (.ge rfl rfl rfl) <| .cons (.asg rfl rfl) <| .nil <| ks_n ?_
     refine .cD rfl (fun h74 => ?_) (fun h74 => ?_)
     ·skip
      refine .seq <| .region <| .cons (.fB 1 0 false rfl rfl rfl) <| .cons (.b1 1 rfl rfl rfl rfl rfl rfl) <| .cons (.mv rfl rfl) <| .cons (.xB 65 2 48 (i := ps.length) rfl rfl rfl rfl rfl (by first | omega | (simp; done) | (simp; omega)) (by first | omega | (simp; done) | (simp; omega))) ?_
      refine .cons (.bN 2 rfl rfl rfl rfl (row_lastP _ _) rfl) <| .cons (.al 108 [.slice none 0 0, .slice none 0 0] rfl rfl rfl) <| .cons (.sT 2 true rfl rfl rfl rfl rfl rfl rfl) <| .nil <| ks_n <| .seq <| .region <| .cons (.mv rfl rfl) <| .cons (.cP [.tmp 83] rfl rfl rfl rfl (psV_fn hs) rfl) ?_
      refine .cons (.mv rfl rfl) <| .cons (.ex rfl rfl rfl) <| .cons (.ex rfl rfl rfl) <| .cons (.al 109 [.string ByteArray.empty, .slice none 0 0, .int .i64 0, .int .i64 0, .slice none 0 0, .int .i64 0, .string ByteArray.empty, .slice none 0 0, .slice none 0 0] rfl rfl rfl) <| .cons (.sT 9 true rfl rfl rfl rfl rfl rfl rfl) <| .cons (.asg rfl rfl) <| .nil <| ks_n <| .seq <| .region <| .cons (.fB 1 0 false rfl rfl rfl) <| .cons (.b1 1 rfl rfl rfl rfl rfl rfl) <| .cons (.bN 9 rfl rfl rfl rfl rfl rfl) <| .cons (.li 79 8 0 [.tmp 89] rfl rfl rfl rfl rfl rfl) <| .cons (St1.appN (k' := 191) (e := 79) (sz := 8) (by' := 152) rfl rfl rfl rfl rfl (by kernel_rfl) rfl rfl rfl (by simp) (by first | (simp [dR]; done) | (simp [dR]; omega)) rfl rfl) ?_
      refine .cons (.fB 1 0 false rfl rfl rfl) <| .cons (.sT 1 false rfl rfl rfl rfl rfl rfl rfl) <| .nil <| ks_n <| .region <| .cons (.fB 1 0 false rfl rfl rfl) <| .cons (.b1 1 rfl rfl rfl rfl rfl rfl) <| .cons (.mv rfl rfl) <| .cons (.bN 2 rfl rfl rfl rfl rfl rfl) <| .cons (.xB 65 2 48 (i := ps.length) rfl rfl rfl rfl rfl (by first | omega | (simp; done) | (simp; omega)) (by first | omega | (simp; done) | (simp; omega))) ?_
      refine .cons (.sT 2 true rfl rfl rfl rfl (row_lastP _ _) rfl rfl) <| .nil <| kb_n <| ks_n <| .seq <| .region <| .cons (.bN 2 rfl rfl rfl rfl rfl rfl) <| .cons (.sT 2 true rfl rfl rfl rfl rfl rfl rfl) <| .nil <| ks_n <| .ret ?_
      refine kf_wret [(.t 4, .v (.o (.c (.box 150 2 0 0)))), (.b 0, .b 65 2 (dR (ps.map rP) ++ [[.d (dLs ns), .own 100 9 [(psV s).1].length]])), (.u 0, .u), (.b 100, .b 79 9 (dR ([(psV s).1].map rS))), (.u 100, .u), (.b 150, .b 45 2 [[.d (dRs a), .own 0 2 (ps.length + 1)]]), (.u 150, .u)] (Wk.keep [(0, 0), (100, 191), (150, 104)] rfl rfl ⟨ks rfl (.c .bx), kb 0 rfl (.eq (set_lastP _ _ _) rfl (.app (.dat _ _ (ps.map rP) rfl rfl) (.cons (.cons (.d _ _ rfl) (.cons (.own _ _ _ _ _ (by first | decide | simp) (by first | rfl | omega | (simp; done))) .nil)) .nil))), kb 191 rfl (.dt rfl rfl), kb 104 rfl (.cons (.cons .dt (.cons .ow Ctos.nil)) .nil), trivial⟩) rfl ?_ (two_box rfl rfl)
      rfl
     ·skip
      omega
   ·skip
    omega

theorem line_s1 {s : ByteArray} (hs : s.size ≤ 1048576) (hk : kdL s = 3) (a : List Arr) (ha : a.length ≤ 100) (ps : List Prt) (hps : ps.length ≤ 100) (ns : List Lp) (b : List Stm) (hbl : b.length ≤ 100) : Fn Try.prog 43 (hbPB 0 1 ps ns b) [.agg [.d (dRs a), .own 0 2 (ps.length + 1)], st1 s] (.o (.agg [.d (dRs a), .own 0 2 (ps.length + 1)])) (hbPB 0 1000 ps ns (b ++ [(psV s).1])) := by
 obtain ⟨ws, hws⟩ : ∃ ws, wrdV s = ws := ⟨_, rfl⟩
 have hwb := wrdV_bd s
 have hno := kdL_no0 (s := s) (by rw [hk]; decide)
 rw [hws] at hno hwb
 have hn1 := kdL_no1 (s := s) (by rw [hk]; decide)
 have hn2 := kdL_3 hk
 rw [hws] at hn2
 refine Fn.of_code Try.func43 rfl rfl (hbPB_HB _ _ _ _ _) rfl rfl (hbPB_HB _ _ _ _ _) rfl (pn_num ⟨_, _, _, rfl⟩ rfl) ?_
 refine .seq <| .region <| .cons (St1.boxB (k' := 102) rfl rfl rfl rfl rfl rfl rfl) <| .cons (.al 104 [.slice none 0 0, .slice none 0 0] rfl rfl rfl) <| .nil <| ks_n <| .seq <| .region <| .cons (.mv rfl rfl) <| .cons (.cP [.tmp 11] rfl rfl rfl rfl (show Fn Try.prog 53 [] [st1 s] (.o (vD (dTxs ws))) [] from by rw [← hws]; exact l16Words_fn hs) rfl) ?_
 refine .cons (.asg rfl rfl) <| .nil <| ks_n <| .seq <| .region <| .cons (.fB 1 0 false rfl rfl rfl) <| .cons (.b1 1 rfl rfl rfl rfl rfl rfl) <| .cons (.lB 65 2 48 rfl rfl rfl rfl) <| .cons (.sb rfl rfl rfl) <| .cons (.asg rfl rfl) <| .nil <| ks_n <| .seq <| .block <| .seq <| .region <| .cons (.mv rfl rfl) <| .cons (.ln 9 1 16 rfl rfl rfl) <| .cons (.gt rfl rfl rfl) <| .cons (.mv rfl rfl) ?_
 refine .cD 21 rfl (fun g21 => ?_) (fun g21 => ?_)
 ·skip
  refine .cons (.gT rfl rfl rfl (.mv rfl rfl)) <| .cons (.gT rfl rfl rfl (.xL 9 1 16 (i := 0) rfl rfl rfl rfl rfl (map_at (getD_at2 (d := ⟨#[]⟩) (by omega))))) ?_
  refine .cons (.gT rfl rfl rfl (.l1 1 rfl rfl)) <| .cons (.gT rfl rfl rfl (St1.eqS rfl rfl rfl)) <| .cons (.pT rfl rfl rfl) <| .cons (.asg rfl rfl) <| .nil <| ks_n ?_
  refine ACode.condT rfl (fun h17 => ?_) (fun h17 => ?_)
  ·try simp only [zs1, zs2, zs3, zs4, zs5, zs6, zs7] at h17
   exfalso; simp_all
  ·try simp only [zs1, zs2, zs3, zs4, zs5, zs6, zs7] at h17
   refine .seq <| .region <| .cons (.mv rfl rfl) <| .cons (St1.eqS rfl rfl rfl) <| .cons (.asg rfl rfl) <| .nil <| ks_n ?_
   refine ACode.condT rfl (fun h34 => ?_) (fun h34 => ?_)
   ·try simp only [zs1, zs2, zs3, zs4, zs5, zs6, zs7] at h34
    exfalso; simp_all
   ·try simp only [zs1, zs2, zs3, zs4, zs5, zs6, zs7] at h34
    refine .seq <| .region <| .cons (.mv rfl rfl) <| .cons (.ge rfl rfl rfl) <| .cons (.mv rfl rfl) ?_
    refine .cD 46 rfl (fun g46 => ?_) (fun g46 => ?_)
    ·skip
     refine .cons (.gT rfl rfl rfl (.mv rfl rfl)) <| .cons (.gT rfl rfl rfl (.ln 9 1 16 rfl rfl rfl)) <| .cons (.gT rfl rfl rfl (.gt rfl rfl rfl)) <| .cons (.pT rfl rfl rfl) <| .cons (.mv rfl rfl) ?_
     refine AOps.cases 51 _ rfl (fun g51 => ?_) (fun g51 => ?_)
     ·try simp only [zs1, zs2, zs3, zs4, zs5, zs6, zs7] at g51
      refine .cons (.gT rfl rfl rfl (.mv rfl rfl)) <| .cons (.gT rfl rfl rfl (.xL 9 1 16 (i := 0) rfl rfl rfl rfl rfl (map_at (getD_at2 (d := ⟨#[]⟩) (by omega))))) ?_
      refine .cons (.gT rfl rfl rfl (.l1 1 rfl rfl)) <| .cons (.gT rfl rfl rfl (St1.eqS rfl rfl rfl)) <| .cons (.pT rfl rfl rfl) <| .cons (.asg rfl rfl) <| .nil <| ks_n ?_
      refine ACode.condT rfl (fun h43 => ?_) (fun h43 => ?_)
      ·try simp only [zs1, zs2, zs3, zs4, zs5, zs6, zs7] at h43
       exfalso; simp_all
      ·try simp only [zs1, zs2, zs3, zs4, zs5, zs6, zs7] at h43
       refine .seq <| .region <| .cons (.mv rfl rfl) <| .cons (.ge rfl rfl rfl) <| .cons (.asg rfl rfl) <| .nil <| ks_n ?_
       refine .cD rfl (fun h74 => ?_) (fun h74 => ?_)
       ·skip
        refine .seq <| .region <| .cons (.fB 1 0 false rfl rfl rfl) <| .cons (.b1 1 rfl rfl rfl rfl rfl rfl) <| .cons (.mv rfl rfl) <| .cons (.xB 65 2 48 (i := ps.length) rfl rfl rfl rfl rfl (by first | omega | (simp; done) | (simp; omega)) (by first | omega | (simp; done) | (simp; omega))) ?_
        refine .cons (.bN 2 rfl rfl rfl rfl (row_lastP _ _) rfl) <| .cons (.al 108 [.slice none 0 0, .slice none 0 0] rfl rfl rfl) <| .cons (.sT 2 true rfl rfl rfl rfl rfl rfl rfl) <| .nil <| ks_n <| .seq <| .region <| .cons (.mv rfl rfl) <| .cons (.cP [.tmp 83] rfl rfl rfl rfl (psV_fn hs) rfl) ?_
        refine .cons (.mv rfl rfl) <| .cons (.ex rfl rfl rfl) <| .cons (.ex rfl rfl rfl) <| .cons (.al 109 [.string ByteArray.empty, .slice none 0 0, .int .i64 0, .int .i64 0, .slice none 0 0, .int .i64 0, .string ByteArray.empty, .slice none 0 0, .slice none 0 0] rfl rfl rfl) <| .cons (.sT 9 true rfl rfl rfl rfl rfl rfl rfl) <| .cons (.asg rfl rfl) <| .nil <| ks_n <| .seq <| .region <| .cons (.fB 1 0 false rfl rfl rfl) <| .cons (.b1 1 rfl rfl rfl rfl rfl rfl) <| .cons (.bN 9 rfl rfl rfl rfl rfl rfl) <| .cons (.li 79 8 0 [.tmp 89] rfl rfl rfl rfl rfl rfl) <| .cons (St1.appB (k' := 1091) (e := 79) (sz := 8) (by' := 152) rfl rfl rfl rfl rfl (by kernel_rfl) rfl rfl rfl rfl (by simp [dR]) (by first | (simp [dR]; done) | (simp [dR]; omega)) rfl rfl rfl) ?_
        refine .cons (.fB 1 0 false rfl rfl rfl) <| .cons (.sT 1 false rfl rfl rfl rfl rfl rfl rfl) <| .nil <| ks_n <| .region <| .cons (.fB 1 0 false rfl rfl rfl) <| .cons (.b1 1 rfl rfl rfl rfl rfl rfl) <| .cons (.mv rfl rfl) <| .cons (.bN 2 rfl rfl rfl rfl rfl rfl) <| .cons (.xB 65 2 48 (i := ps.length) rfl rfl rfl rfl rfl (by first | omega | (simp; done) | (simp; omega)) (by first | omega | (simp; done) | (simp; omega))) ?_
        refine .cons (.sT 2 true rfl rfl rfl rfl (row_lastP _ _) rfl rfl) <| .nil <| kb_n <| ks_n <| .seq <| .region <| .cons (.bN 2 rfl rfl rfl rfl rfl rfl) <| .cons (.sT 2 true rfl rfl rfl rfl rfl rfl rfl) <| .nil <| ks_n <| .ret ?_
        refine kf_wret [(.t 4, .v (.o (.c (.box 150 2 0 0)))), (.b 0, .b 65 2 (dR (ps.map rP) ++ [[.d (dLs ns), .own 1000 9 (b ++ [(psV s).1]).length]])), (.u 0, .u), (.b 1000, .b 79 9 (dR ((b ++ [(psV s).1]).map rS))), (.u 1000, .u), (.b 150, .b 45 2 [[.d (dRs a), .own 0 2 (ps.length + 1)]]), (.u 150, .u)] (Wk.keep [(0, 0), (1000, 1091), (150, 104)] rfl rfl ⟨ks rfl (.c .bx), kb 0 rfl (.eq (set_lastP _ _ _) rfl (.app (.dat _ _ (ps.map rP) rfl rfl) (.cons (.cons (.d _ _ rfl) (.cons (.own _ _ _ _ _ (by first | decide | simp) (by first | rfl | omega | (simp; done))) .nil)) .nil))), kb 1091 rfl (.dt rfl (by rw [List.map_append, dR_app]; rfl)), kb 104 rfl (.cons (.cons .dt (.cons .ow Ctos.nil)) .nil), trivial⟩) rfl ?_ (two_box rfl rfl)
        rfl
       ·skip
        omega
     ·try simp only [zs1, zs2, zs3, zs4, zs5, zs6, zs7] at g51
      refine .cons (.gF rfl rfl rfl) <| .cons (.gF rfl rfl rfl) <| .cons (.gF rfl rfl rfl) <| .cons (.gF rfl rfl rfl) <| .cons (.pF rfl rfl rfl) <| .cons (.asg rfl rfl) <| .nil <| ks_n ?_
      refine ACode.condT rfl (fun h => by first | (cases h; done) | (simp [*] at h; done) | (exfalso; simp_all; done)) (fun _ => ?_)
      refine .seq <| .region <| .cons (.mv rfl rfl) <| .cons (.ge rfl rfl rfl) <| .cons (.asg rfl rfl) <| .nil <| ks_n ?_
      refine .cD rfl (fun h74 => ?_) (fun h74 => ?_)
      ·skip
       refine .seq <| .region <| .cons (.fB 1 0 false rfl rfl rfl) <| .cons (.b1 1 rfl rfl rfl rfl rfl rfl) <| .cons (.mv rfl rfl) <| .cons (.xB 65 2 48 (i := ps.length) rfl rfl rfl rfl rfl (by first | omega | (simp; done) | (simp; omega)) (by first | omega | (simp; done) | (simp; omega))) ?_
       refine .cons (.bN 2 rfl rfl rfl rfl (row_lastP _ _) rfl) <| .cons (.al 108 [.slice none 0 0, .slice none 0 0] rfl rfl rfl) <| .cons (.sT 2 true rfl rfl rfl rfl rfl rfl rfl) <| .nil <| ks_n <| .seq <| .region <| .cons (.mv rfl rfl) <| .cons (.cP [.tmp 83] rfl rfl rfl rfl (psV_fn hs) rfl) ?_
       refine .cons (.mv rfl rfl) <| .cons (.ex rfl rfl rfl) <| .cons (.ex rfl rfl rfl) <| .cons (.al 109 [.string ByteArray.empty, .slice none 0 0, .int .i64 0, .int .i64 0, .slice none 0 0, .int .i64 0, .string ByteArray.empty, .slice none 0 0, .slice none 0 0] rfl rfl rfl) <| .cons (.sT 9 true rfl rfl rfl rfl rfl rfl rfl) <| .cons (.asg rfl rfl) <| .nil <| ks_n <| .seq <| .region <| .cons (.fB 1 0 false rfl rfl rfl) <| .cons (.b1 1 rfl rfl rfl rfl rfl rfl) <| .cons (.bN 9 rfl rfl rfl rfl rfl rfl) <| .cons (.li 79 8 0 [.tmp 89] rfl rfl rfl rfl rfl rfl) <| .cons (St1.appB (k' := 1091) (e := 79) (sz := 8) (by' := 152) rfl rfl rfl rfl rfl (by kernel_rfl) rfl rfl rfl rfl (by simp [dR]) (by first | (simp [dR]; done) | (simp [dR]; omega)) rfl rfl rfl) ?_
       refine .cons (.fB 1 0 false rfl rfl rfl) <| .cons (.sT 1 false rfl rfl rfl rfl rfl rfl rfl) <| .nil <| ks_n <| .region <| .cons (.fB 1 0 false rfl rfl rfl) <| .cons (.b1 1 rfl rfl rfl rfl rfl rfl) <| .cons (.mv rfl rfl) <| .cons (.bN 2 rfl rfl rfl rfl rfl rfl) <| .cons (.xB 65 2 48 (i := ps.length) rfl rfl rfl rfl rfl (by first | omega | (simp; done) | (simp; omega)) (by first | omega | (simp; done) | (simp; omega))) ?_
       refine .cons (.sT 2 true rfl rfl rfl rfl (row_lastP _ _) rfl rfl) <| .nil <| kb_n <| ks_n <| .seq <| .region <| .cons (.bN 2 rfl rfl rfl rfl rfl rfl) <| .cons (.sT 2 true rfl rfl rfl rfl rfl rfl rfl) <| .nil <| ks_n <| .ret ?_
       refine kf_wret [(.t 4, .v (.o (.c (.box 150 2 0 0)))), (.b 0, .b 65 2 (dR (ps.map rP) ++ [[.d (dLs ns), .own 1000 9 (b ++ [(psV s).1]).length]])), (.u 0, .u), (.b 1000, .b 79 9 (dR ((b ++ [(psV s).1]).map rS))), (.u 1000, .u), (.b 150, .b 45 2 [[.d (dRs a), .own 0 2 (ps.length + 1)]]), (.u 150, .u)] (Wk.keep [(0, 0), (1000, 1091), (150, 104)] rfl rfl ⟨ks rfl (.c .bx), kb 0 rfl (.eq (set_lastP _ _ _) rfl (.app (.dat _ _ (ps.map rP) rfl rfl) (.cons (.cons (.d _ _ rfl) (.cons (.own _ _ _ _ _ (by first | decide | simp) (by first | rfl | omega | (simp; done))) .nil)) .nil))), kb 1091 rfl (.dt rfl (by rw [List.map_append, dR_app]; rfl)), kb 104 rfl (.cons (.cons .dt (.cons .ow Ctos.nil)) .nil), trivial⟩) rfl ?_ (two_box rfl rfl)
       rfl
      ·skip
       omega
    ·skip
     omega
 ·skip
  refine .cons (.gF rfl rfl rfl) <| .cons (.gF rfl rfl rfl) <| .cons (.gF rfl rfl rfl) <| .cons (.gF rfl rfl rfl) <| .cons (.pF rfl rfl rfl) <| .cons (.asg rfl rfl) <| .nil <| ks_n ?_
  refine ACode.condT rfl (fun h => by first | (cases h; done) | (simp [*] at h; done) | (exfalso; simp_all; done)) (fun _ => ?_)
  refine .seq <| .region <| .cons (.mv rfl rfl) <| .cons (St1.eqS rfl rfl rfl) <| .cons (.asg rfl rfl) <| .nil <| ks_n ?_
  refine ACode.condT rfl (fun h34 => ?_) (fun h34 => ?_)
  ·try simp only [zs1, zs2, zs3, zs4, zs5, zs6, zs7] at h34
   exfalso; simp_all
  ·try simp only [zs1, zs2, zs3, zs4, zs5, zs6, zs7] at h34
   refine .seq <| .region <| .cons (.mv rfl rfl) <| .cons (.ge rfl rfl rfl) <| .cons (.mv rfl rfl) ?_
   refine .cD 46 rfl (fun g46 => ?_) (fun g46 => ?_)
   ·skip
    refine .cons (.gT rfl rfl rfl (.mv rfl rfl)) <| .cons (.gT rfl rfl rfl (.ln 9 1 16 rfl rfl rfl)) <| .cons (.gT rfl rfl rfl (.gt rfl rfl rfl)) <| .cons (.pT rfl rfl rfl) <| .cons (.mv rfl rfl) ?_
    refine AOps.cases 51 _ rfl (fun g51 => ?_) (fun g51 => ?_)
    ·try simp only [zs1, zs2, zs3, zs4, zs5, zs6, zs7] at g51
     refine .cons (.gT rfl rfl rfl (.mv rfl rfl)) <| .cons (.gT rfl rfl rfl (.xL 9 1 16 (i := 0) rfl rfl rfl rfl rfl (map_at (getD_at2 (d := ⟨#[]⟩) (by omega))))) ?_
     refine .cons (.gT rfl rfl rfl (.l1 1 rfl rfl)) <| .cons (.gT rfl rfl rfl (St1.eqS rfl rfl rfl)) <| .cons (.pT rfl rfl rfl) <| .cons (.asg rfl rfl) <| .nil <| ks_n ?_
     refine ACode.condT rfl (fun h43 => ?_) (fun h43 => ?_)
     ·try simp only [zs1, zs2, zs3, zs4, zs5, zs6, zs7] at h43
      exfalso; simp_all
     ·try simp only [zs1, zs2, zs3, zs4, zs5, zs6, zs7] at h43
      refine .seq <| .region <| .cons (.mv rfl rfl) <| .cons (.ge rfl rfl rfl) <| .cons (.asg rfl rfl) <| .nil <| ks_n ?_
      refine .cD rfl (fun h74 => ?_) (fun h74 => ?_)
      ·skip
       refine .seq <| .region <| .cons (.fB 1 0 false rfl rfl rfl) <| .cons (.b1 1 rfl rfl rfl rfl rfl rfl) <| .cons (.mv rfl rfl) <| .cons (.xB 65 2 48 (i := ps.length) rfl rfl rfl rfl rfl (by first | omega | (simp; done) | (simp; omega)) (by first | omega | (simp; done) | (simp; omega))) ?_
       refine .cons (.bN 2 rfl rfl rfl rfl (row_lastP _ _) rfl) <| .cons (.al 108 [.slice none 0 0, .slice none 0 0] rfl rfl rfl) <| .cons (.sT 2 true rfl rfl rfl rfl rfl rfl rfl) <| .nil <| ks_n <| .seq <| .region <| .cons (.mv rfl rfl) <| .cons (.cP [.tmp 83] rfl rfl rfl rfl (psV_fn hs) rfl) ?_
       refine .cons (.mv rfl rfl) <| .cons (.ex rfl rfl rfl) <| .cons (.ex rfl rfl rfl) <| .cons (.al 109 [.string ByteArray.empty, .slice none 0 0, .int .i64 0, .int .i64 0, .slice none 0 0, .int .i64 0, .string ByteArray.empty, .slice none 0 0, .slice none 0 0] rfl rfl rfl) <| .cons (.sT 9 true rfl rfl rfl rfl rfl rfl rfl) <| .cons (.asg rfl rfl) <| .nil <| ks_n <| .seq <| .region <| .cons (.fB 1 0 false rfl rfl rfl) <| .cons (.b1 1 rfl rfl rfl rfl rfl rfl) <| .cons (.bN 9 rfl rfl rfl rfl rfl rfl) <| .cons (.li 79 8 0 [.tmp 89] rfl rfl rfl rfl rfl rfl) <| .cons (St1.appB (k' := 1091) (e := 79) (sz := 8) (by' := 152) rfl rfl rfl rfl rfl (by kernel_rfl) rfl rfl rfl rfl (by simp [dR]) (by first | (simp [dR]; done) | (simp [dR]; omega)) rfl rfl rfl) ?_
       refine .cons (.fB 1 0 false rfl rfl rfl) <| .cons (.sT 1 false rfl rfl rfl rfl rfl rfl rfl) <| .nil <| ks_n <| .region <| .cons (.fB 1 0 false rfl rfl rfl) <| .cons (.b1 1 rfl rfl rfl rfl rfl rfl) <| .cons (.mv rfl rfl) <| .cons (.bN 2 rfl rfl rfl rfl rfl rfl) <| .cons (.xB 65 2 48 (i := ps.length) rfl rfl rfl rfl rfl (by first | omega | (simp; done) | (simp; omega)) (by first | omega | (simp; done) | (simp; omega))) ?_
       refine .cons (.sT 2 true rfl rfl rfl rfl (row_lastP _ _) rfl rfl) <| .nil <| kb_n <| ks_n <| .seq <| .region <| .cons (.bN 2 rfl rfl rfl rfl rfl rfl) <| .cons (.sT 2 true rfl rfl rfl rfl rfl rfl rfl) <| .nil <| ks_n <| .ret ?_
       refine kf_wret [(.t 4, .v (.o (.c (.box 150 2 0 0)))), (.b 0, .b 65 2 (dR (ps.map rP) ++ [[.d (dLs ns), .own 1000 9 (b ++ [(psV s).1]).length]])), (.u 0, .u), (.b 1000, .b 79 9 (dR ((b ++ [(psV s).1]).map rS))), (.u 1000, .u), (.b 150, .b 45 2 [[.d (dRs a), .own 0 2 (ps.length + 1)]]), (.u 150, .u)] (Wk.keep [(0, 0), (1000, 1091), (150, 104)] rfl rfl ⟨ks rfl (.c .bx), kb 0 rfl (.eq (set_lastP _ _ _) rfl (.app (.dat _ _ (ps.map rP) rfl rfl) (.cons (.cons (.d _ _ rfl) (.cons (.own _ _ _ _ _ (by first | decide | simp) (by first | rfl | omega | (simp; done))) .nil)) .nil))), kb 1091 rfl (.dt rfl (by rw [List.map_append, dR_app]; rfl)), kb 104 rfl (.cons (.cons .dt (.cons .ow Ctos.nil)) .nil), trivial⟩) rfl ?_ (two_box rfl rfl)
       rfl
      ·skip
       omega
    ·try simp only [zs1, zs2, zs3, zs4, zs5, zs6, zs7] at g51
     refine .cons (.gF rfl rfl rfl) <| .cons (.gF rfl rfl rfl) <| .cons (.gF rfl rfl rfl) <| .cons (.gF rfl rfl rfl) <| .cons (.pF rfl rfl rfl) <| .cons (.asg rfl rfl) <| .nil <| ks_n ?_
     refine ACode.condT rfl (fun h => by first | (cases h; done) | (simp [*] at h; done) | (exfalso; simp_all; done)) (fun _ => ?_)
     refine .seq <| .region <| .cons (.mv rfl rfl) <| .cons (.ge rfl rfl rfl) <| .cons (.asg rfl rfl) <| .nil <| ks_n ?_
     refine .cD rfl (fun h74 => ?_) (fun h74 => ?_)
     ·skip
      refine .seq <| .region <| .cons (.fB 1 0 false rfl rfl rfl) <| .cons (.b1 1 rfl rfl rfl rfl rfl rfl) <| .cons (.mv rfl rfl) <| .cons (.xB 65 2 48 (i := ps.length) rfl rfl rfl rfl rfl (by first | omega | (simp; done) | (simp; omega)) (by first | omega | (simp; done) | (simp; omega))) ?_
      refine .cons (.bN 2 rfl rfl rfl rfl (row_lastP _ _) rfl) <| .cons (.al 108 [.slice none 0 0, .slice none 0 0] rfl rfl rfl) <| .cons (.sT 2 true rfl rfl rfl rfl rfl rfl rfl) <| .nil <| ks_n <| .seq <| .region <| .cons (.mv rfl rfl) <| .cons (.cP [.tmp 83] rfl rfl rfl rfl (psV_fn hs) rfl) ?_
      refine .cons (.mv rfl rfl) <| .cons (.ex rfl rfl rfl) <| .cons (.ex rfl rfl rfl) <| .cons (.al 109 [.string ByteArray.empty, .slice none 0 0, .int .i64 0, .int .i64 0, .slice none 0 0, .int .i64 0, .string ByteArray.empty, .slice none 0 0, .slice none 0 0] rfl rfl rfl) <| .cons (.sT 9 true rfl rfl rfl rfl rfl rfl rfl) <| .cons (.asg rfl rfl) <| .nil <| ks_n <| .seq <| .region <| .cons (.fB 1 0 false rfl rfl rfl) <| .cons (.b1 1 rfl rfl rfl rfl rfl rfl) <| .cons (.bN 9 rfl rfl rfl rfl rfl rfl) <| .cons (.li 79 8 0 [.tmp 89] rfl rfl rfl rfl rfl rfl) <| .cons (St1.appB (k' := 1091) (e := 79) (sz := 8) (by' := 152) rfl rfl rfl rfl rfl (by kernel_rfl) rfl rfl rfl rfl (by simp [dR]) (by first | (simp [dR]; done) | (simp [dR]; omega)) rfl rfl rfl) ?_
      refine .cons (.fB 1 0 false rfl rfl rfl) <| .cons (.sT 1 false rfl rfl rfl rfl rfl rfl rfl) <| .nil <| ks_n <| .region <| .cons (.fB 1 0 false rfl rfl rfl) <| .cons (.b1 1 rfl rfl rfl rfl rfl rfl) <| .cons (.mv rfl rfl) <| .cons (.bN 2 rfl rfl rfl rfl rfl rfl) <| .cons (.xB 65 2 48 (i := ps.length) rfl rfl rfl rfl rfl (by first | omega | (simp; done) | (simp; omega)) (by first | omega | (simp; done) | (simp; omega))) ?_
      refine .cons (.sT 2 true rfl rfl rfl rfl (row_lastP _ _) rfl rfl) <| .nil <| kb_n <| ks_n <| .seq <| .region <| .cons (.bN 2 rfl rfl rfl rfl rfl rfl) <| .cons (.sT 2 true rfl rfl rfl rfl rfl rfl rfl) <| .nil <| ks_n <| .ret ?_
      refine kf_wret [(.t 4, .v (.o (.c (.box 150 2 0 0)))), (.b 0, .b 65 2 (dR (ps.map rP) ++ [[.d (dLs ns), .own 1000 9 (b ++ [(psV s).1]).length]])), (.u 0, .u), (.b 1000, .b 79 9 (dR ((b ++ [(psV s).1]).map rS))), (.u 1000, .u), (.b 150, .b 45 2 [[.d (dRs a), .own 0 2 (ps.length + 1)]]), (.u 150, .u)] (Wk.keep [(0, 0), (1000, 1091), (150, 104)] rfl rfl ⟨ks rfl (.c .bx), kb 0 rfl (.eq (set_lastP _ _ _) rfl (.app (.dat _ _ (ps.map rP) rfl rfl) (.cons (.cons (.d _ _ rfl) (.cons (.own _ _ _ _ _ (by first | decide | simp) (by first | rfl | omega | (simp; done))) .nil)) .nil))), kb 1091 rfl (.dt rfl (by rw [List.map_append, dR_app]; rfl)), kb 104 rfl (.cons (.cons .dt (.cons .ow Ctos.nil)) .nil), trivial⟩) rfl ?_ (two_box rfl rfl)
      rfl
     ·skip
      omega
   ·skip
    omega
/-- Programs read from lines that come in order: arrays, then parts of loops and statements. -/
def prs : List ByteArray → Nat → List Arr → List Prt → List Lp → List Stm → Option Prg
  | [], 4, a, ps, ns, b => some (a, ps ++ [(ns, b)])
  | [], _, _, _, _, _ => none
  | l :: r, 0, a, _, _, _ => if kdL l = 0 then prs r 1 (a ++ [ar4 (wrdV l)]) [] [] [] else none
  | l :: r, 1, a, _, _, _ => if kdL l = 0 then prs r 1 (a ++ [ar4 (wrdV l)]) [] [] [] else if kdL l = 1 then prs r 2 a [] [] [] else none
  | l :: r, 2, a, ps, _, _ => if kdL l = 2 then prs r 3 a ps [lnV l] [] else none
  | l :: r, 3, a, ps, ns, _ => if kdL l = 2 then prs r 3 a ps (ns ++ [lnV l]) [] else if kdL l = 3 then prs r 4 a ps ns [(psV l).1] else none
  | l :: r, 4, a, ps, ns, b => if kdL l = 3 then prs r 4 a ps ns (b ++ [(psV l).1]) else if kdL l = 1 then prs r 2 a (ps ++ [(ns, b)]) [] [] else none
  | _ :: _, _, _, _, _, _ => none
section
variable {l : ByteArray} {r : List ByteArray} {a : List Arr} {ps : List Prt} {ns : List Lp} {b : List Stm} {g : Prg}
theorem prs_0 (h : prs (l :: r) 0 a ps ns b = some g) : kdL l = 0 ∧ prs r 1 (a ++ [ar4 (wrdV l)]) [] [] [] = some g := by
  rw [prs] at h; split at h
  · rename_i hk; exact ⟨hk, h⟩
  · cases h
theorem prs_1 (h : prs (l :: r) 1 a ps ns b = some g) : (kdL l = 0 ∧ prs r 1 (a ++ [ar4 (wrdV l)]) [] [] [] = some g) ∨ (kdL l = 1 ∧ prs r 2 a [] [] [] = some g) := by
  rw [prs] at h; split at h
  · rename_i hk; exact .inl ⟨hk, h⟩
  · split at h
    · rename_i hk; exact .inr ⟨hk, h⟩
    · cases h
theorem prs_2 (h : prs (l :: r) 2 a ps ns b = some g) : kdL l = 2 ∧ prs r 3 a ps [lnV l] [] = some g := by
  rw [prs] at h; split at h
  · rename_i hk; exact ⟨hk, h⟩
  · cases h
theorem prs_3 (h : prs (l :: r) 3 a ps ns b = some g) : (kdL l = 2 ∧ prs r 3 a ps (ns ++ [lnV l]) [] = some g) ∨ (kdL l = 3 ∧ prs r 4 a ps ns [(psV l).1] = some g) := by
  rw [prs] at h; split at h
  · rename_i hk; exact .inl ⟨hk, h⟩
  · split at h
    · rename_i hk; exact .inr ⟨hk, h⟩
    · cases h
theorem prs_4 (h : prs (l :: r) 4 a ps ns b = some g) : (kdL l = 3 ∧ prs r 4 a ps ns (b ++ [(psV l).1]) = some g) ∨ (kdL l = 1 ∧ prs r 2 a (ps ++ [(ns, b)]) [] [] = some g) := by
  rw [prs] at h; split at h
  · rename_i hk; exact .inl ⟨hk, h⟩
  · split at h
    · rename_i hk; exact .inr ⟨hk, h⟩
    · cases h
theorem prs_e4 (h : prs [] 4 a ps ns b = some g) : g = (a, ps ++ [(ns, b)]) := by rw [prs] at h; cases h; rfl
theorem prs_e0 (h : prs [] 0 a ps ns b = some g) : False := by simp [prs] at h
theorem prs_e1 (h : prs [] 1 a ps ns b = some g) : False := by simp [prs] at h
theorem prs_e2 (h : prs [] 2 a ps ns b = some g) : False := by simp [prs] at h
theorem prs_e3 (h : prs [] 3 a ps ns b = some g) : False := by simp [prs] at h
end
/-- The program that is read, and whether its text is the one given. -/
def pgV (s : ByteArray) (g : Prg) : Prg × Bool := if sEq s ⟨#[]⟩ = true ∨ sEq (fmtG g) s = false then (([], []), false) else (g, true)

theorem pgm_fn {s : ByteArray} (hs : s.size ≤ 2000) (hl : (cutV s 10).length ≤ 42) (hl2 : 2 ≤ (cutV s 10).length) {g : Prg} (hp0 : prs ((cutV s 10).dropLast.drop 1) 0 [] [] [] [] = some g) (hz : szG g ≤ 1073741824) : Fn Try.prog 36 [] [st1 s] (.tup [ad (rG (pgV s g).1), bo1 (pgV s g).2]) [] := by
 have hcb := cutV_bd s 10
 obtain ⟨ls, hls⟩ : ∃ ls, cutV s 10 = ls := ⟨_, rfl⟩
 rw [hls] at hcb hl hl2 hp0
 obtain ⟨ms, hdl⟩ : ∃ ms, ls.dropLast = ms := ⟨_, rfl⟩
 have hml : ms.length = ls.length - 1 := by rw [← hdl, List.length_dropLast]
 rw [hdl] at hp0
 have hp := hp0
 refine Fn.code0 Try.func36 rfl rfl rfl rfl ?_
 refine .seq <| .region <| .cons (.al 102 [.slice none 0 0, .slice none 0 0] rfl rfl rfl) <| .cons (.asg rfl rfl) <| .nil <| ks_n <| .seq <| .region <| .cons (.mv rfl rfl) <| .cons (.cP [.tmp 7, .const (.int .u8 (10))] rfl rfl rfl rfl (show Fn Try.prog 42 [] [st1 s, .c (.d (.val (.int .u8 10)))] (.o (vD (dTxs ls))) [] from by rw [← hls]; exact l16Cut_fn (by omega)) rfl) ?_
 refine .cons (.asg rfl rfl) <| .nil <| ks_n <| .seq <| .region <| .cons (.bu [] [(0, 1), (1, 1)] [.slice none 0 0, .slice none 0 0] rfl rfl rfl rfl rfl) <| .cons (.al 105 [.slice none 0 0, .slice none 0 0] rfl rfl rfl) <| .cons (.sT 2 true rfl rfl rfl rfl rfl rfl rfl) <| .nil <| ks_n <| .seq <| .seq <| .region <| .cons (.mv rfl rfl) <| .cons (.ln 9 1 16 rfl rfl rfl) <| .cons (.gt rfl rfl rfl) <| .nil <| ks_n ?_
 refine .cD rfl (fun h12 => ?_) (fun h12 => ?_)
 ·skip
  omega
 ·skip
  refine .skip <| ks_n <| .seq <| .seq <| .region <| .cons (.asg rfl rfl) <| .nil <| ks_n <| .block ?_
  refine .loopK (fun m σ => (∃ i : Nat, m = ms.length - i ∧ (i ≤ ms.length ∧ 1 ≤ i) ∧ (prs (ms.drop i) 0 [] [] [] [] = some g) ∧ σ = [(.t 0, .v (.o (st1 s))), (.t 2, .v (.o (.c (.box 110 2 0 0)))), (.t 3, .v (.o (bo1 false))), (.t 4, .v (.o (vD (dTxs ls)))), (.t 5, .v (.o (.c (.box 111 2 0 0)))), (.t 6, .v (.o (nat1 (i : Nat)))), (.b 110, .b 45 2 [[.d (.val (.slice none 0 0)), .d (.val (.slice none 0 0))]]), (.u 110, .u), (.b 111, .b 45 2 [[.d (.val (.slice none 0 0)), .d (.val (.slice none 0 0))]]), (.u 111, .u)]) ∨ (∃ (i : Nat) (a : List Arr), m = ms.length - i ∧ (i ≤ ms.length ∧ 1 ≤ i) ∧ (prs (ms.drop i) 1 a [] [] [] = some g) ∧ (a.length ≤ i) ∧ σ = [(.t 0, .v (.o (st1 s))), (.t 2, .v (.o (.c (.box 110 2 0 0)))), (.t 3, .v (.o (bo1 false))), (.t 4, .v (.o (vD (dTxs ls)))), (.t 5, .v (.o (.c (.box 111 2 0 0)))), (.t 6, .v (.o (nat1 (i : Nat)))), (.b 110, .b 45 2 [[.d (.val (.slice none 0 0)), .d (.val (.slice none 0 0))]]), (.u 110, .u), (.b 112, .b 88 2 (dR (a.map rR))), (.u 112, .u), (.b 111, .b 45 2 [[.own 112 2 (a.length), .d (.val (.slice none 0 0))]]), (.u 111, .u)]) ∨ (∃ (i : Nat) (a : List Arr) (ps : List Prt), m = ms.length - i ∧ (i ≤ ms.length ∧ 1 ≤ i) ∧ (prs (ms.drop i) 2 a ps [] [] = some g) ∧ (a.length ≤ i) ∧ (ps.length ≤ i) ∧ σ = [(.t 0, .v (.o (st1 s))), (.t 2, .v (.o (.c (.box 110 2 0 0)))), (.t 3, .v (.o (bo1 false))), (.t 4, .v (.o (vD (dTxs ls)))), (.t 5, .v (.o (.c (.box 111 2 0 0)))), (.t 6, .v (.o (nat1 (i : Nat)))), (.b 110, .b 45 2 [[.d (.val (.slice none 0 0)), .d (.val (.slice none 0 0))]]), (.u 110, .u), (.b 112, .b 65 2 (dR (ps.map rP) ++ [[niC, niC]])), (.u 112, .u), (.b 111, .b 45 2 [[.d (dRs a), .own 112 2 (ps.length + 1)]]), (.u 111, .u)]) ∨ (∃ (i : Nat) (a : List Arr) (ps : List Prt) (ns : List Lp), m = ms.length - i ∧ (i ≤ ms.length ∧ 1 ≤ i) ∧ (prs (ms.drop i) 3 a ps ns [] = some g) ∧ (a.length ≤ i) ∧ (ps.length ≤ i) ∧ (ns.length ≤ i) ∧ σ = [(.t 0, .v (.o (st1 s))), (.t 2, .v (.o (.c (.box 110 2 0 0)))), (.t 3, .v (.o (bo1 false))), (.t 4, .v (.o (vD (dTxs ls)))), (.t 5, .v (.o (.c (.box 111 2 0 0)))), (.t 6, .v (.o (nat1 (i : Nat)))), (.b 110, .b 45 2 [[.d (.val (.slice none 0 0)), .d (.val (.slice none 0 0))]]), (.u 110, .u), (.b 112, .b 65 2 (dR (ps.map rP) ++ [[.own 113 2 ns.length, niC]])), (.u 112, .u), (.b 113, .b 100 2 (dR (ns.map rL))), (.u 113, .u), (.b 111, .b 45 2 [[.d (dRs a), .own 112 2 (ps.length + 1)]]), (.u 111, .u)]) ∨ (∃ (i : Nat) (a : List Arr) (ps : List Prt) (ns : List Lp) (b : List Stm), m = ms.length - i ∧ (i ≤ ms.length ∧ 1 ≤ i) ∧ (prs (ms.drop i) 4 a ps ns b = some g) ∧ (a.length ≤ i) ∧ (ps.length ≤ i) ∧ (ns.length ≤ i) ∧ (b.length ≤ i) ∧ σ = [(.t 0, .v (.o (st1 s))), (.t 2, .v (.o (.c (.box 110 2 0 0)))), (.t 3, .v (.o (bo1 false))), (.t 4, .v (.o (vD (dTxs ls)))), (.t 5, .v (.o (.c (.box 111 2 0 0)))), (.t 6, .v (.o (nat1 (i : Nat)))), (.b 110, .b 45 2 [[.d (.val (.slice none 0 0)), .d (.val (.slice none 0 0))]]), (.u 110, .u), (.b 112, .b 65 2 (dR (ps.map rP) ++ [[.d (dLs ns), .own 113 9 b.length]])), (.u 112, .u), (.b 113, .b 79 9 (dR (b.map rS))), (.u 113, .u), (.b 111, .b 45 2 [[.d (dRs a), .own 112 2 (ps.length + 1)]]), (.u 111, .u)])) [(110, 102), (111, 105)] (.inl ⟨1, rfl, by omega, hp, rfl⟩) ⟨ks rfl .dt, ks rfl (.c .bx), ks rfl .dt, ks rfl .dt, ks rfl (.c .bx), ks rfl .dt, kb 102 rfl (.cons (.cons .dt (.cons .dt Ctos.nil)) .nil), kb 105 rfl (.cons (.cons .dt (.cons .dt Ctos.nil)) .nil), trivial⟩ ?_
  rintro m σ (⟨i, hm0, hi, hP, rfl⟩ | ⟨i, a, hm0, hi, hP, ha, rfl⟩ | ⟨i, a, ps, hm0, hi, hP, ha, hps, rfl⟩ | ⟨i, a, ps, ns, hm0, hi, hP, ha, hps, hns, rfl⟩ | ⟨i, a, ps, ns, b, hm0, hi, hP, ha, hps, hns, hbl, rfl⟩)
  ·skip
   refine .seq <| .seq <| .region <| .cons (.mv rfl rfl) <| .cons (.pl rfl rfl rfl) <| .cons (.mv rfl rfl) <| .cons (.ln 9 1 16 rfl rfl rfl) <| .cons (.ls rfl rfl rfl) <| .nil <| ks_n ?_
   refine .cD rfl (fun h18 => ?_) (fun h18 => ?_)
   ·skip
    have hms : i < ms.length := by omega
    obtain ⟨x, hxm⟩ : ∃ x_, ms[i]? = some x_ := ⟨_, List.getElem?_eq_getElem hms⟩
    have hx1 : ls[i]? = some x := by rw [← hxm, ← hdl, List.getElem?_dropLast, if_pos (by rw [hml] at hms; omega)]
    have hxs : x.size ≤ 1048576 := by have := hcb.1 x (List.mem_of_getElem? hx1); omega
    rw [List.drop_eq_getElem_cons hms, (List.getElem_eq_iff hms).2 hxm] at hP
    obtain ⟨hk, hP2⟩ := prs_0 hP
    refine .skip <| ks_n <| .seq <| .block ?_
    refine ACode.drawK (by kernel_rfl) (by kernel_rfl) ?_
    refine .cons (.bN 2 rfl rfl rfl rfl rfl rfl) <| .cons (.mv rfl rfl) <| .cons (.mv rfl rfl) <| .cons (.xL 9 1 16 rfl rfl rfl rfl rfl (map_at hx1)) ?_
    refine .cons (.l1 1 rfl rfl) <| .cons (.cO [.tmp 21, .tmp 25] [(100, 126)] rfl rfl rfl rfl (line_a0 hxs hk) rfl trivial flatS.nil (hbA_flat _ _) (hbA_HB _ _) outS_one) ?_
    refine .cons (.sT 2 true rfl rfl rfl rfl rfl rfl rfl) ?_
    refine .nil ⟨by kernel_rfl, ?_⟩
    refine kb_n <| ks_n <| .region <| .cons (.mv rfl rfl) <| .cons (.pl rfl rfl rfl) <| .cons (.asg rfl rfl) <| .nil ?_
    refine kl_k [(110, 110), (111, 111), (112, 126)] (.inr (.inl ⟨i + 1, [ar4 (wrdV x)], rfl, by omega, hP2, by simp, rfl⟩)) ⟨ks rfl .dt, ks rfl (.c .bx), ks rfl .dt, ks rfl .dt, ks rfl (.c .bx), ks rfl .dt, kb 110 rfl (.cons (.cons .dt (.cons .dt Ctos.nil)) .nil), kb 126 rfl (.dt rfl (by first | rfl | (simp [dR]; done))), kb 111 rfl (.cons (.cons .ow (.cons .dt Ctos.nil)) .nil), trivial⟩
   ·skip
    exact (prs_e0 (by rw [List.drop_of_length_le (by omega)] at hP; exact hP)).elim
  ·skip
   refine .seq <| .seq <| .region <| .cons (.mv rfl rfl) <| .cons (.pl rfl rfl rfl) <| .cons (.mv rfl rfl) <| .cons (.ln 9 1 16 rfl rfl rfl) <| .cons (.ls rfl rfl rfl) <| .nil <| ks_n ?_
   refine .cD rfl (fun h18 => ?_) (fun h18 => ?_)
   ·skip
    have hms : i < ms.length := by omega
    obtain ⟨x, hxm⟩ : ∃ x_, ms[i]? = some x_ := ⟨_, List.getElem?_eq_getElem hms⟩
    have hx1 : ls[i]? = some x := by rw [← hxm, ← hdl, List.getElem?_dropLast, if_pos (by rw [hml] at hms; omega)]
    have hxs : x.size ≤ 1048576 := by have := hcb.1 x (List.mem_of_getElem? hx1); omega
    rw [List.drop_eq_getElem_cons hms, (List.getElem_eq_iff hms).2 hxm] at hP
    refine .skip <| ks_n <| .seq <| .block ?_
    by_cases hsp : kdL x = 0
    ·skip
     obtain ⟨hk, hP2⟩ := (prs_1 hP).resolve_right (fun h => by have := h.1; omega)
     refine ACode.drawK (by kernel_rfl) (by kernel_rfl) ?_
     refine .cons (.bN 2 rfl rfl rfl rfl rfl rfl) <| .cons (.mv rfl rfl) <| .cons (.mv rfl rfl) <| .cons (.xL 9 1 16 rfl rfl rfl rfl rfl (map_at hx1)) ?_
     refine .cons (.l1 1 rfl rfl) <| .cons (.cO [.tmp 21, .tmp 25] [(0, 112), (1000, 126)] rfl rfl rfl rfl (line_a1 hxs hk a (by omega)) rfl ⟨(by rw [renR_dR]; rfl), trivial⟩ (hbA_flat _ _) (hbA_flat _ _) (hbA_HB _ _) outS_one) ?_
     refine .cons (.sT 2 true rfl rfl rfl rfl rfl rfl rfl) ?_
     refine .nil ⟨by kernel_rfl, ?_⟩
     refine kb_n <| ks_n <| .region <| .cons (.mv rfl rfl) <| .cons (.pl rfl rfl rfl) <| .cons (.asg rfl rfl) <| .nil ?_
     refine kl_k [(110, 110), (111, 111), (112, 126)] (.inr (.inl ⟨i + 1, a ++ [ar4 (wrdV x)], rfl, by omega, hP2, by simp; omega, rfl⟩)) ⟨ks rfl .dt, ks rfl (.c .bx), ks rfl .dt, ks rfl .dt, ks rfl (.c .bx), ks rfl .dt, kb 110 rfl (.cons (.cons .dt (.cons .dt Ctos.nil)) .nil), kb 126 rfl (.dt rfl (by first | rfl | (simp [dR]; done))), kb 111 rfl (.cons (.cons .ow (.cons .dt Ctos.nil)) .nil), trivial⟩
    ·skip
     obtain ⟨hk, hP2⟩ := (prs_1 hP).resolve_left (fun h => hsp h.1)
     refine .keep [(.t 0, .v (.o (st1 s))), (.t 2, .v (.o (.c (.box 500 2 0 0)))), (.t 3, .v (.o (bo1 false))), (.t 4, .v (.o (vD (dTxs ls)))), (.t 5, .v (.o (.c (.box 501 2 0 0)))), (.t 6, .v (.o (nat1 (i : Nat)))), (.b 500, .b 45 2 [[.d (.val (.slice none 0 0)), .d (.val (.slice none 0 0))]]), (.u 500, .u), (.b 501, .b 45 2 [[.d (dRs a), .d (.val (.slice none 0 0))]]), (.u 501, .u)] [(500, 110), (501, 111)] ⟨ks rfl .dt, ks rfl (.c .bx), ks rfl .dt, ks rfl .dt, ks rfl (.c .bx), ks rfl .dt, kb 110 rfl (.cons (.cons .dt (.cons .dt Ctos.nil)) .nil), kb 111 rfl (.cons (.cons (.fz rfl rfl (by simp) (by omega)) (.cons .dt Ctos.nil)) .nil), trivial⟩ ?_
     refine ACode.drawK (by kernel_rfl) (by kernel_rfl) ?_
     refine .cons (.bN 2 rfl rfl rfl rfl rfl rfl) <| .cons (.mv rfl rfl) <| .cons (.mv rfl rfl) <| .cons (.xL 9 1 16 rfl rfl rfl rfl rfl (map_at hx1)) ?_
     refine .cons (.l1 1 rfl rfl) <| .cons (.cO [.tmp 21, .tmp 25] [(100, 126)] rfl rfl rfl rfl (line_p0 hxs hk a (by omega)) rfl trivial flatS.nil (hbP_flat _ _ _) (hbP_HB _ _ _ _) outS_P) ?_
     refine .cons (.sT 2 true rfl rfl rfl rfl rfl rfl rfl) ?_
     refine .nil ⟨by kernel_rfl, ?_⟩
     refine kb_n <| ks_n <| .region <| .cons (.mv rfl rfl) <| .cons (.pl rfl rfl rfl) <| .cons (.asg rfl rfl) <| .nil ?_
     refine kl_k [(110, 500), (111, 501), (112, 126)] (.inr (.inr (.inl ⟨i + 1, a, [], rfl, by omega, hP2, by omega, by simp, rfl⟩))) ⟨ks rfl .dt, ks rfl (.c .bx), ks rfl .dt, ks rfl .dt, ks rfl (.c .bx), ks rfl .dt, kb 500 rfl (.cons (.cons .dt (.cons .dt Ctos.nil)) .nil), kb 126 rfl ((by first | exact .app (.dat _ _ (([] : List Prt).map rP) rfl rfl) (.cons (.cons (.d _ _ rfl) (.cons (.d _ _ rfl) .nil)) .nil) | exact .app (.dat _ _ _ rfl rfl) (.cons (.cons (.d _ _ rfl) (.cons (.d _ _ rfl) .nil)) .nil))), kb 501 rfl (.cons (.cons .dt (.cons .ow Ctos.nil)) .nil), trivial⟩
   ·skip
    exact (prs_e1 (by rw [List.drop_of_length_le (by omega)] at hP; exact hP)).elim
  ·skip
   refine .seq <| .seq <| .region <| .cons (.mv rfl rfl) <| .cons (.pl rfl rfl rfl) <| .cons (.mv rfl rfl) <| .cons (.ln 9 1 16 rfl rfl rfl) <| .cons (.ls rfl rfl rfl) <| .nil <| ks_n ?_
   refine .cD rfl (fun h18 => ?_) (fun h18 => ?_)
   ·skip
    have hms : i < ms.length := by omega
    obtain ⟨x, hxm⟩ : ∃ x_, ms[i]? = some x_ := ⟨_, List.getElem?_eq_getElem hms⟩
    have hx1 : ls[i]? = some x := by rw [← hxm, ← hdl, List.getElem?_dropLast, if_pos (by rw [hml] at hms; omega)]
    have hxs : x.size ≤ 1048576 := by have := hcb.1 x (List.mem_of_getElem? hx1); omega
    rw [List.drop_eq_getElem_cons hms, (List.getElem_eq_iff hms).2 hxm] at hP
    obtain ⟨hk, hP2⟩ := prs_2 hP
    refine .skip <| ks_n <| .seq <| .block ?_
    refine ACode.drawK (by kernel_rfl) (by kernel_rfl) ?_
    refine .cons (.bN 2 rfl rfl rfl rfl rfl rfl) <| .cons (.mv rfl rfl) <| .cons (.mv rfl rfl) <| .cons (.xL 9 1 16 rfl rfl rfl rfl rfl (map_at hx1)) ?_
    refine .cons (.l1 1 rfl rfl) <| .cons (.cO [.tmp 21, .tmp 25] [(0, 112), (100, 626)] rfl rfl rfl rfl (line_f0 hxs hk a (by omega) ps (by omega)) rfl ⟨(by rw [renR_app]; rfl), trivial⟩ (hbP_flat _ _ _) (hbPN_flat _ _ rfl) (hbPN_HB _ _ _ _) outS_PN) ?_
    refine .cons (.sT 2 true rfl rfl rfl rfl rfl rfl rfl) ?_
    refine .nil ⟨by kernel_rfl, ?_⟩
    refine kb_n <| ks_n <| .region <| .cons (.mv rfl rfl) <| .cons (.pl rfl rfl rfl) <| .cons (.asg rfl rfl) <| .nil ?_
    refine kl_k [(110, 110), (111, 111), (112, 112), (113, 626)] (.inr (.inr (.inr (.inl ⟨i + 1, a, ps, [lnV x], rfl, by omega, hP2, by omega, by omega, by simp, rfl⟩)))) ⟨ks rfl .dt, ks rfl (.c .bx), ks rfl .dt, ks rfl .dt, ks rfl (.c .bx), ks rfl .dt, kb 110 rfl (.cons (.cons .dt (.cons .dt Ctos.nil)) .nil), kb 112 rfl ((by first | exact .app (.dat _ _ (ps.map rP) rfl rfl) (.cons (.cons (.own _ _ _ _ _ (by first | decide | simp) (by first | rfl | omega | (simp; done))) (.cons (.d _ _ rfl) .nil)) .nil) | exact .app (.dat _ _ _ rfl rfl) (.cons (.cons (.own _ _ _ _ _ (by first | decide | simp) (by first | rfl | omega | (simp; done))) (.cons (.d _ _ rfl) .nil)) .nil))), kb 626 rfl (.dt rfl), kb 111 rfl (.cons (.cons .dt (.cons .ow Ctos.nil)) .nil), trivial⟩
   ·skip
    exact (prs_e2 (by rw [List.drop_of_length_le (by omega)] at hP; exact hP)).elim
  ·skip
   refine .seq <| .seq <| .region <| .cons (.mv rfl rfl) <| .cons (.pl rfl rfl rfl) <| .cons (.mv rfl rfl) <| .cons (.ln 9 1 16 rfl rfl rfl) <| .cons (.ls rfl rfl rfl) <| .nil <| ks_n ?_
   refine .cD rfl (fun h18 => ?_) (fun h18 => ?_)
   ·skip
    have hms : i < ms.length := by omega
    obtain ⟨x, hxm⟩ : ∃ x_, ms[i]? = some x_ := ⟨_, List.getElem?_eq_getElem hms⟩
    have hx1 : ls[i]? = some x := by rw [← hxm, ← hdl, List.getElem?_dropLast, if_pos (by rw [hml] at hms; omega)]
    have hxs : x.size ≤ 1048576 := by have := hcb.1 x (List.mem_of_getElem? hx1); omega
    rw [List.drop_eq_getElem_cons hms, (List.getElem_eq_iff hms).2 hxm] at hP
    refine .skip <| ks_n <| .seq <| .block ?_
    by_cases hsp : kdL x = 2
    ·skip
     obtain ⟨hk, hP2⟩ := (prs_3 hP).resolve_right (fun h => by have := h.1; omega)
     refine ACode.drawK (by kernel_rfl) (by kernel_rfl) ?_
     refine .cons (.bN 2 rfl rfl rfl rfl rfl rfl) <| .cons (.mv rfl rfl) <| .cons (.mv rfl rfl) <| .cons (.xL 9 1 16 rfl rfl rfl rfl rfl (map_at hx1)) ?_
     refine .cons (.l1 1 rfl rfl) <| .cons (.cO [.tmp 21, .tmp 25] [(0, 112), (1, 113), (1000, 626)] rfl rfl rfl rfl (line_f1 hxs hk a (by omega) ps (by omega) ns (by omega)) rfl ⟨(by rw [renR_app]; rfl), (by rw [renR_dR]; rfl), trivial⟩ (hbPN_flat _ _ rfl) (hbPN_flat _ _ rfl) (hbPN_HB _ _ _ _) outS_PN) ?_
     refine .cons (.sT 2 true rfl rfl rfl rfl rfl rfl rfl) ?_
     refine .nil ⟨by kernel_rfl, ?_⟩
     refine kb_n <| ks_n <| .region <| .cons (.mv rfl rfl) <| .cons (.pl rfl rfl rfl) <| .cons (.asg rfl rfl) <| .nil ?_
     refine kl_k [(110, 110), (111, 111), (112, 112), (113, 626)] (.inr (.inr (.inr (.inl ⟨i + 1, a, ps, ns ++ [lnV x], rfl, by omega, hP2, by omega, by omega, by simp; omega, rfl⟩)))) ⟨ks rfl .dt, ks rfl (.c .bx), ks rfl .dt, ks rfl .dt, ks rfl (.c .bx), ks rfl .dt, kb 110 rfl (.cons (.cons .dt (.cons .dt Ctos.nil)) .nil), kb 112 rfl ((by first | exact .app (.dat _ _ (ps.map rP) rfl rfl) (.cons (.cons (.own _ _ _ _ _ (by first | decide | simp) (by first | rfl | omega | (simp; done))) (.cons (.d _ _ rfl) .nil)) .nil) | exact .app (.dat _ _ _ rfl rfl) (.cons (.cons (.own _ _ _ _ _ (by first | decide | simp) (by first | rfl | omega | (simp; done))) (.cons (.d _ _ rfl) .nil)) .nil))), kb 626 rfl (.dt rfl), kb 111 rfl (.cons (.cons .dt (.cons .ow Ctos.nil)) .nil), trivial⟩
    ·skip
     obtain ⟨hk, hP2⟩ := (prs_3 hP).resolve_left (fun h => hsp h.1)
     refine .keep [(.t 0, .v (.o (st1 s))), (.t 2, .v (.o (.c (.box 500 2 0 0)))), (.t 3, .v (.o (bo1 false))), (.t 4, .v (.o (vD (dTxs ls)))), (.t 5, .v (.o (.c (.box 501 2 0 0)))), (.t 6, .v (.o (nat1 (i : Nat)))), (.b 500, .b 45 2 [[.d (.val (.slice none 0 0)), .d (.val (.slice none 0 0))]]), (.u 500, .u), (.b 502, .b 65 2 (dR (ps.map rP) ++ [[.d (dLs ns), niC]])), (.u 502, .u), (.b 501, .b 45 2 [[.d (dRs a), .own 502 2 (ps.length + 1)]]), (.u 501, .u)] [(500, 110), (501, 111), (502, 112)] ⟨ks rfl .dt, ks rfl (.c .bx), ks rfl .dt, ks rfl .dt, ks rfl (.c .bx), ks rfl .dt, kb 110 rfl (.cons (.cons .dt (.cons .dt Ctos.nil)) .nil), kb 112 rfl (.app (.dat _ _ (ps.map rP) rfl rfl) (.cons (.cons (.frz _ _ _ _ _ _ rfl rfl rfl rfl (by first | rfl | (simp; done)) (by first | omega | (simp; omega))) (.cons (.d _ _ rfl) .nil)) .nil)), kb 111 rfl (.cons (.cons .dt (.cons .ow Ctos.nil)) .nil), trivial⟩ ?_
     refine ACode.drawK (by kernel_rfl) (by kernel_rfl) ?_
     refine .cons (.bN 2 rfl rfl rfl rfl rfl rfl) <| .cons (.mv rfl rfl) <| .cons (.mv rfl rfl) <| .cons (.xL 9 1 16 rfl rfl rfl rfl rfl (map_at hx1)) ?_
     refine .cons (.l1 1 rfl rfl) <| .cons (.cO [.tmp 21, .tmp 25] [(0, 502), (100, 626)] rfl rfl rfl rfl (line_s0 hxs hk a (by omega) ps (by omega) ns) rfl ⟨(by rw [renR_app]; rfl), trivial⟩ (hbP_flat _ _ _) (hbPB_flat _ _ _ rfl) (hbPB_HB _ _ _ _ _) outS_PB) ?_
     refine .cons (.sT 2 true rfl rfl rfl rfl rfl rfl rfl) ?_
     refine .nil ⟨by kernel_rfl, ?_⟩
     refine kb_n <| ks_n <| .region <| .cons (.mv rfl rfl) <| .cons (.pl rfl rfl rfl) <| .cons (.asg rfl rfl) <| .nil ?_
     refine kl_k [(110, 500), (111, 501), (112, 502), (113, 626)] (.inr (.inr (.inr (.inr ⟨i + 1, a, ps, ns, [(psV x).1], rfl, by omega, hP2, by omega, by omega, by omega, by simp, rfl⟩)))) ⟨ks rfl .dt, ks rfl (.c .bx), ks rfl .dt, ks rfl .dt, ks rfl (.c .bx), ks rfl .dt, kb 500 rfl (.cons (.cons .dt (.cons .dt Ctos.nil)) .nil), kb 502 rfl ((by first | exact .app (.dat _ _ (ps.map rP) rfl rfl) (.cons (.cons (.d _ _ rfl) (.cons (.own _ _ _ _ _ (by first | decide | simp) (by first | rfl | omega | (simp; done))) .nil)) .nil) | exact .app (.dat _ _ _ rfl rfl) (.cons (.cons (.d _ _ rfl) (.cons (.own _ _ _ _ _ (by first | decide | simp) (by first | rfl | omega | (simp; done))) .nil)) .nil))), kb 626 rfl (.dt rfl), kb 501 rfl (.cons (.cons .dt (.cons .ow Ctos.nil)) .nil), trivial⟩
   ·skip
    exact (prs_e3 (by rw [List.drop_of_length_le (by omega)] at hP; exact hP)).elim
  ·skip
   refine .seq <| .seq <| .region <| .cons (.mv rfl rfl) <| .cons (.pl rfl rfl rfl) <| .cons (.mv rfl rfl) <| .cons (.ln 9 1 16 rfl rfl rfl) <| .cons (.ls rfl rfl rfl) <| .nil <| ks_n ?_
   refine .cD rfl (fun h18 => ?_) (fun h18 => ?_)
   ·skip
    have hms : i < ms.length := by omega
    obtain ⟨x, hxm⟩ : ∃ x_, ms[i]? = some x_ := ⟨_, List.getElem?_eq_getElem hms⟩
    have hx1 : ls[i]? = some x := by rw [← hxm, ← hdl, List.getElem?_dropLast, if_pos (by rw [hml] at hms; omega)]
    have hxs : x.size ≤ 1048576 := by have := hcb.1 x (List.mem_of_getElem? hx1); omega
    rw [List.drop_eq_getElem_cons hms, (List.getElem_eq_iff hms).2 hxm] at hP
    refine .skip <| ks_n <| .seq <| .block ?_
    by_cases hsp : kdL x = 3
    ·skip
     obtain ⟨hk, hP2⟩ := (prs_4 hP).resolve_right (fun h => by have := h.1; omega)
     refine ACode.drawK (by kernel_rfl) (by kernel_rfl) ?_
     refine .cons (.bN 2 rfl rfl rfl rfl rfl rfl) <| .cons (.mv rfl rfl) <| .cons (.mv rfl rfl) <| .cons (.xL 9 1 16 rfl rfl rfl rfl rfl (map_at hx1)) ?_
     refine .cons (.l1 1 rfl rfl) <| .cons (.cO [.tmp 21, .tmp 25] [(0, 112), (1, 113), (1000, 626)] rfl rfl rfl rfl (line_s1 hxs hk a (by omega) ps (by omega) ns b (by omega)) rfl ⟨(by rw [renR_app]; rfl), (by rw [renR_dR]; rfl), trivial⟩ (hbPB_flat _ _ _ rfl) (hbPB_flat _ _ _ rfl) (hbPB_HB _ _ _ _ _) outS_PB) ?_
     refine .cons (.sT 2 true rfl rfl rfl rfl rfl rfl rfl) ?_
     refine .nil ⟨by kernel_rfl, ?_⟩
     refine kb_n <| ks_n <| .region <| .cons (.mv rfl rfl) <| .cons (.pl rfl rfl rfl) <| .cons (.asg rfl rfl) <| .nil ?_
     refine kl_k [(110, 110), (111, 111), (112, 112), (113, 626)] (.inr (.inr (.inr (.inr ⟨i + 1, a, ps, ns, b ++ [(psV x).1], rfl, by omega, hP2, by omega, by omega, by omega, by simp; omega, rfl⟩)))) ⟨ks rfl .dt, ks rfl (.c .bx), ks rfl .dt, ks rfl .dt, ks rfl (.c .bx), ks rfl .dt, kb 110 rfl (.cons (.cons .dt (.cons .dt Ctos.nil)) .nil), kb 112 rfl ((by first | exact .app (.dat _ _ (ps.map rP) rfl rfl) (.cons (.cons (.d _ _ rfl) (.cons (.own _ _ _ _ _ (by first | decide | simp) (by first | rfl | omega | (simp; done))) .nil)) .nil) | exact .app (.dat _ _ _ rfl rfl) (.cons (.cons (.d _ _ rfl) (.cons (.own _ _ _ _ _ (by first | decide | simp) (by first | rfl | omega | (simp; done))) .nil)) .nil))), kb 626 rfl (.dt rfl), kb 111 rfl (.cons (.cons .dt (.cons .ow Ctos.nil)) .nil), trivial⟩
    ·skip
     obtain ⟨hk, hP2⟩ := (prs_4 hP).resolve_left (fun h => hsp h.1)
     refine .keep [(.t 0, .v (.o (st1 s))), (.t 2, .v (.o (.c (.box 500 2 0 0)))), (.t 3, .v (.o (bo1 false))), (.t 4, .v (.o (vD (dTxs ls)))), (.t 5, .v (.o (.c (.box 501 2 0 0)))), (.t 6, .v (.o (nat1 (i : Nat)))), (.b 500, .b 45 2 [[.d (.val (.slice none 0 0)), .d (.val (.slice none 0 0))]]), (.u 500, .u), (.b 502, .b 65 2 (dR ((ps ++ [(ns, b)]).map rP))), (.u 502, .u), (.b 501, .b 45 2 [[.d (dRs a), .own 502 2 ((ps ++ [(ns, b)]).length)]]), (.u 501, .u)] [(500, 110), (501, 111), (502, 112)] ⟨ks rfl .dt, ks rfl (.c .bx), ks rfl .dt, ks rfl .dt, ks rfl (.c .bx), ks rfl .dt, kb 110 rfl (.cons (.cons .dt (.cons .dt Ctos.nil)) .nil), kb 112 rfl (.eq rfl (show dR ((ps ++ [(ns, b)]).map rP) = dR (ps.map rP) ++ [[.d (dLs ns), .d (dMs b)]] by simp [dR, rP]) (.app (.dat _ _ (ps.map rP) rfl rfl) (.cons (.cons (.d _ _ rfl) (.cons (.frz _ _ _ _ _ _ rfl rfl rfl rfl (by first | rfl | (simp; done)) (by first | omega | (simp; omega))) .nil)) .nil))), kb 111 rfl (.cons (.cons .dt (.cons (.ow (by simp)) Ctos.nil)) .nil), trivial⟩ ?_
     refine ACode.drawK (by kernel_rfl) (by kernel_rfl) ?_
     refine .cons (.bN 2 rfl rfl rfl rfl rfl rfl) <| .cons (.mv rfl rfl) <| .cons (.mv rfl rfl) <| .cons (.xL 9 1 16 rfl rfl rfl rfl rfl (map_at hx1)) ?_
     refine .cons (.l1 1 rfl rfl) <| .cons (.cO [.tmp 21, .tmp 25] [(0, 502), (1000, 126)] rfl rfl rfl rfl (line_p1 hxs hk a (by omega) (ps ++ [(ns, b)]) (by simp; omega)) rfl ⟨(by rw [renR_dR]; rfl), trivial⟩ (hbPs_flat _ _) (hbP_flat _ _ _) (hbP_HB _ _ _ _) outS_P) ?_
     refine .cons (.sT 2 true rfl rfl rfl rfl rfl rfl rfl) ?_
     refine .nil ⟨by kernel_rfl, ?_⟩
     refine kb_n <| ks_n <| .region <| .cons (.mv rfl rfl) <| .cons (.pl rfl rfl rfl) <| .cons (.asg rfl rfl) <| .nil ?_
     refine kl_k [(110, 500), (111, 501), (112, 126)] (.inr (.inr (.inl ⟨i + 1, a, ps ++ [(ns, b)], rfl, by omega, hP2, by omega, by simp; omega, rfl⟩))) ⟨ks rfl .dt, ks rfl (.c .bx), ks rfl .dt, ks rfl .dt, ks rfl (.c .bx), ks rfl .dt, kb 500 rfl (.cons (.cons .dt (.cons .dt Ctos.nil)) .nil), kb 126 rfl ((by first | exact .app (.dat _ _ ((ps ++ [(ns, b)]).map rP) rfl rfl) (.cons (.cons (.d _ _ rfl) (.cons (.d _ _ rfl) .nil)) .nil) | exact .app (.dat _ _ _ rfl rfl) (.cons (.cons (.d _ _ rfl) (.cons (.d _ _ rfl) .nil)) .nil))), kb 501 rfl (.cons (.cons .dt (.cons .ow Ctos.nil)) .nil), trivial⟩
   ·skip
    rw [List.drop_of_length_le (by omega)] at hP
    have hg := prs_e4 hP
    refine .exit <| ks_e <| kl_e <| kb_hit <| ks_n <| .seq <| .seq ?_
    refine .keep [(.t 0, .v (.o (st1 s))), (.t 2, .v (.o (.c (.box 500 2 0 0)))), (.t 3, .v (.o (bo1 false))), (.t 4, .v (.o (vD (dTxs ls)))), (.t 5, .v (.o (.c (.box 501 2 0 0)))), (.t 6, .v (.o (nat1 (i : Nat)))), (.b 500, .b 45 2 [[.d (.val (.slice none 0 0)), .d (.val (.slice none 0 0))]]), (.u 500, .u), (.b 502, .b 65 2 (dR ((ps ++ [(ns, b)]).map rP))), (.u 502, .u), (.b 501, .b 45 2 [[.d (dRs a), .own 502 2 ((ps ++ [(ns, b)]).length)]]), (.u 501, .u)] [(500, 110), (501, 111), (502, 112)] ⟨ks rfl .dt, ks rfl (.c .bx), ks rfl .dt, ks rfl .dt, ks rfl (.c .bx), ks rfl .dt, kb 110 rfl (.cons (.cons .dt (.cons .dt Ctos.nil)) .nil), kb 112 rfl (.eq rfl (show dR ((ps ++ [(ns, b)]).map rP) = dR (ps.map rP) ++ [[.d (dLs ns), .d (dMs b)]] by simp [dR, rP]) (.app (.dat _ _ (ps.map rP) rfl rfl) (.cons (.cons (.d _ _ rfl) (.cons (.frz _ _ _ _ _ _ rfl rfl rfl rfl (by first | rfl | (simp; done)) (by first | omega | (simp; omega))) .nil)) .nil))), kb 111 rfl (.cons (.cons .dt (.cons (.ow (by simp)) Ctos.nil)) .nil), trivial⟩ ?_
    refine .keep [(.t 0, .v (.o (st1 s))), (.t 2, .v (.o (.c (.box 520 2 0 0)))), (.t 3, .v (.o (bo1 false))), (.t 4, .v (.o (vD (dTxs ls)))), (.t 5, .v (.o (.c (.box 521 2 0 0)))), (.t 6, .v (.o (nat1 (i : Nat)))), (.b 520, .b 45 2 [[.d (.val (.slice none 0 0)), .d (.val (.slice none 0 0))]]), (.u 520, .u), (.b 521, .b 45 2 [[.d (dRs a), .d (dPts (ps ++ [(ns, b)]))]]), (.u 521, .u)] [(520, 500), (521, 501)] ⟨ks rfl .dt, ks rfl (.c .bx), ks rfl .dt, ks rfl .dt, ks rfl (.c .bx), ks rfl .dt, kb 500 rfl (.cons (.cons .dt (.cons .dt Ctos.nil)) .nil), kb 501 rfl (.cons (.cons .dt (.cons (.fz rfl rfl (by simp) (by first | omega | (simp; omega))) Ctos.nil)) .nil), trivial⟩ ?_
    refine .region <| .cons (.mv rfl rfl) <| .cons (St1.eqS rfl rfl rfl) <| .cons (.mv rfl rfl) ?_
    refine AOps.cases 29 _ rfl (fun g29 => ?_) (fun g29 => ?_)
    ·try simp only [zs1, zs2, zs3, zs4, zs5, zs6, zs7] at g29
     have hT : pgV s g = (([], []), false) := by rw [pgV, if_pos (by first | (simp_all; done) | (simp [*]; done) | grind)]
     refine .cons (.gF rfl rfl rfl) <| .cons (.gF rfl rfl rfl) <| .cons (.gF rfl rfl rfl) <| .cons (.gF rfl rfl rfl) <| .cons (.pT rfl rfl rfl) <| .nil <| ks_n ?_
     refine ACode.condT rfl (fun _ => ?_) (fun h => by first | (cases h; done) | (simp [*] at h; done) | (exfalso; simp_all; done))
     refine .seq <| .region <| .cons (.buZ [] [(0, 1), (1, 1)] [.slice none 0 0, .slice none 0 0] [.list 2 [], .list 2 []] rfl rfl (.list _ (.list _ ZR.nil)) rfl rfl) <| .cons (.sT 2 true rfl rfl rfl rfl rfl rfl rfl) <| .cons (.asg rfl rfl) <| .nil <| ks_n <| .ret <| ks_r ?_
     refine kf_ret rfl ?_ nobox
     rw [hT]; rfl
    ·try simp only [zs1, zs2, zs3, zs4, zs5, zs6, zs7] at g29
     refine .cons (.gT rfl rfl rfl (.bN 2 rfl rfl rfl rfl rfl rfl)) <| .cons (.gT rfl rfl rfl (.cP [.tmp 30] rfl rfl rfl rfl (fmtG_fn (g := (a, ps ++ [(ns, b)])) (by rw [← hg]; exact hz)) rfl)) ?_
     refine .cons (.gT rfl rfl rfl (.mv rfl rfl)) <| .cons (.gT rfl rfl rfl (St1.neS rfl rfl rfl)) <| .cons (.pF rfl rfl rfl) <| .nil <| ks_n ?_
     refine ACode.condT rfl (fun h34 => ?_) (fun h34 => ?_)
     ·try simp only [zs1, zs2, zs3, zs4, zs5, zs6, zs7] at h34
      have hT : pgV s g = (([], []), false) := by rw [pgV, if_pos (by first | (simp_all; done) | (simp [*]; done) | grind)]
      refine .seq <| .region <| .cons (.buZ [] [(0, 1), (1, 1)] [.slice none 0 0, .slice none 0 0] [.list 2 [], .list 2 []] rfl rfl (.list _ (.list _ ZR.nil)) rfl rfl) <| .cons (.sT 2 true rfl rfl rfl rfl rfl rfl rfl) <| .cons (.asg rfl rfl) <| .nil <| ks_n <| .ret <| ks_r ?_
      refine kf_ret rfl ?_ nobox
      rw [hT]; rfl
     ·try simp only [zs1, zs2, zs3, zs4, zs5, zs6, zs7] at h34
      have hT : pgV s g = (g, true) := by rw [pgV, if_neg (by first | (simp_all; done) | (simp [*]; done) | grind)]
      refine .skip <| ks_n <| .seq <| .region <| .cons (.bN 2 rfl rfl rfl rfl rfl rfl) <| .cons (.sT 2 true rfl rfl rfl rfl rfl rfl rfl) <| .cons (.asg rfl rfl) <| .nil <| ks_n <| .ret ?_
      refine kf_ret rfl ?_ nobox
      rw [hT, hg]; rfl

theorem ar4_sz {s : ByteArray} : szR (ar4 (wrdV s)) ≤ s.size + 3 := by
  have h := wrdV_bd s
  have h1 : (ar4 (wrdV s)).1.size ≤ s.size := by
    show ((wrdV s).getD 1 ⟨#[]⟩).size ≤ s.size
    rw [List.getD_eq_getElem?_getD]
    cases hx : (wrdV s)[1]? with
    | none => exact Nat.zero_le _
    | some x => exact h.1 x (List.mem_of_getElem? hx)
  have h2 : (ar4 (wrdV s)).2.length ≤ 3 := by
    show (((wrdV s).drop 2).take 3 |>.map fun t => (nuV t).1).length ≤ 3
    rw [List.length_map, List.length_take]; omega
  rw [szR]; omega
theorem lnV_sz (s : ByteArray) : szL (lnV s) ≤ 30 := by
  unfold lnV; split
  · decide
  · have h1 := sidV_sz ((wrdV s).getD 1 ⟨#[]⟩)
    have h2 := sidV_sz ((wrdV s).getD 2 ⟨#[]⟩)
    rw [szL]; dsimp only; omega
theorem szLs_app (l : List Lp) (x : Lp) : szLs (l ++ [x]) = szLs l + 1 + szL x := szO_app szL l x
theorem prs_sz : ∀ (ls : List ByteArray) (q : Nat) (a : List Arr) (ps : List Prt) (ns : List Lp) (b : List Stm) (g : Prg), (∀ l ∈ ls, l.size ≤ 2000) → prs ls q a ps ns b = some g → szG g ≤ szO szR a + szO szPt ps + szLs ns + szO szS b + 1 + 3000 * ls.length
  | [], q, a, ps, ns, b, g, _, h => by
    match q, h with
    | 4, h =>
      rw [prs_e4 h]
      show szO szR a + szO szPt (ps ++ [(ns, b)]) ≤ _
      rw [szO_app, szPt]; dsimp only; omega
    | 0, h => exact (prs_e0 h).elim
    | 1, h => exact (prs_e1 h).elim
    | 2, h => exact (prs_e2 h).elim
    | 3, h => exact (prs_e3 h).elim
    | n + 5, h => simp [prs] at h
  | l :: r, q, a, ps, ns, b, g, hl, h => by
    have hr : ∀ l ∈ r, l.size ≤ 2000 := fun x hx => hl x (List.mem_cons_of_mem _ hx)
    have hl0 := hl l List.mem_cons_self
    have k1 := ar4_sz (s := l)
    have k2 := lnV_sz l
    have k3 := psV_sz l
    have e1 : szLs [] = 0 := rfl
    have e2 : szO szS [] = 0 := rfl
    have e3 : szO szPt [] = 0 := rfl
    have e4 : szLs [lnV l] = 0 + 1 + szL (lnV l) := szO_app szL [] (lnV l)
    have e5 : szO szS [(psV l).1] = 0 + 1 + szS (psV l).1 := szO_app szS [] (psV l).1
    rw [List.length_cons]
    match q, h with
    | 0, h => have := prs_sz r _ _ _ _ _ _ hr (prs_0 h).2; rw [szO_app] at this; omega
    | 1, h =>
      rcases prs_1 h with ⟨_, h⟩ | ⟨_, h⟩
      · have := prs_sz r _ _ _ _ _ _ hr h; rw [szO_app] at this; omega
      · have := prs_sz r _ _ _ _ _ _ hr h; omega
    | 2, h => have := prs_sz r _ _ _ _ _ _ hr (prs_2 h).2; omega
    | 3, h =>
      rcases prs_3 h with ⟨_, h⟩ | ⟨_, h⟩
      · have := prs_sz r _ _ _ _ _ _ hr h; rw [szLs_app] at this; omega
      · have := prs_sz r _ _ _ _ _ _ hr h; omega
    | 4, h =>
      rcases prs_4 h with ⟨_, h⟩ | ⟨_, h⟩
      · have := prs_sz r _ _ _ _ _ _ hr h; rw [szO_app] at this; omega
      · have := prs_sz r _ _ _ _ _ _ hr h; rw [szO_app, szPt] at this; dsimp only at this; omega
    | n + 5, h => simp [prs] at h
/-- The reading of the texts that are drawn from. -/
def pg8 (t : ByteArray) : Prg × Bool := pgV (hd8 ++ t) ((prs ((cutV (hd8 ++ t) 10).dropLast.drop 1) 0 [] [] [] []).getD ([], []))
theorem txt8_ok : ∀ t ∈ txt8, (cutV (hd8 ++ t) 10).length ≤ 42 ∧ 2 ≤ (cutV (hd8 ++ t) 10).length ∧ (prs ((cutV (hd8 ++ t) 10).dropLast.drop 1) 0 [] [] [] []).isSome = true := by decide +kernel
theorem readP8 : ReadP pg8 := fun t ht => by
  obtain ⟨h1, h2, h3⟩ := txt8_ok t ht
  have h4 := txt8_len t ht
  have h5 : (hd8 ++ t).size ≤ 2000 := by
    rw [ByteArray.size_append]
    have : hd8.size ≤ 100 := by decide
    omega
  obtain ⟨g, hg⟩ := Option.isSome_iff_exists.1 h3
  have hc := cutV_bd (hd8 ++ t) 10
  have hz := prs_sz _ _ _ _ _ _ _ (fun l hl => Nat.le_trans (hc.1 l ((List.dropLast_sublist _).subset (List.mem_of_mem_drop hl))) h5) hg
  have hz2 : szG g ≤ 1073741824 := by
    have h6 : ((cutV (hd8 ++ t) 10).dropLast.drop 1).length ≤ 42 := by rw [List.length_drop, List.length_dropLast]; omega
    have e0 : szO szR ([] : List Arr) = 0 := rfl
    have e1 : szLs [] = 0 := rfl
    have e2 : szO szS [] = 0 := rfl
    have e3 : szO szPt [] = 0 := rfl
    omega
  have e : pg8 t = pgV (hd8 ++ t) g := by rw [pg8, hg]; rfl
  rw [e]
  refine ⟨?_, pgm_fn h5 h1 h2 hg hz2⟩
  unfold pgV; split
  · decide
  · exact hz2
/-- Draws of programs. -/
theorem drawG8 {bs : List Int} (hb : Bytes bs) : DrawG bs := drawG_of hb (drawB hb) readP8


theorem isTrace_any (a : Option Addr) (n c : Nat) (w : World) : Calls Try.prog 22 #[.slice a n c] w fun e w' => e = .returned (.bool (decide (n ≤ 600))) ∧ w = w' := by
  go_enter Try.func22, Try.ntmps22
  go_wp2
  go_ret
  exact ⟨ret_bool (by simp; omega), rfl⟩

def fitsB (n : Nat) (size : Int) : Bool := decide (n ≤ 600 ∧ 0 ≤ size ∧ size ≤ 40)
set_option maxHeartbeats 400000 in
theorem isCache_any (a : Option Addr) (n c : Nat) (size : Int) (w : World) : Calls Try.prog 25 #[.slice a n c, .int .i64 size] w fun e w' => e = .returned (.bool (fitsB n size)) ∧ w = w' := by
  by_cases h1 : n ≤ 600
  · have h1' : decide (n ≤ 600) = true := by simpa using h1
    have hf : fitsB n size = inB size 0 40 := by simp [fitsB, inB, h1]
    rw [hf]
    clear hf
    go_enter Try.func25, Try.ntmps25
    go_wp2_with (first
      | (go_at_call 22; refine (isTrace_any _ _ _ _).mono ?_; rintro e w' ⟨rfl, rfl⟩)
      | (go_at_call 32; refine (within_any _ _ _ _).mono ?_; rintro e w' ⟨rfl, rfl⟩))
    go_ret
    exact ⟨rfl, rfl⟩
  · have h1' : decide (n ≤ 600) = false := by simpa using h1
    have hf : fitsB n size = false := by simp [fitsB, h1]
    rw [hf]
    clear hf
    go_enter Try.func25, Try.ntmps25
    go_wp2_with (go_at_call 22; refine (isTrace_any _ _ _ _).mono ?_; rintro e w' ⟨rfl, rfl⟩)
    go_ret
    exact ⟨rfl, rfl⟩
set_option maxHeartbeats 400000 in
theorem l10Fits_any (a : Option Addr) (n c : Nat) (size : Int) (w : World) : Calls Try.prog 28 #[.slice a n c, .int .i64 size] w fun e w' => e = .returned (.bool (fitsB n size)) ∧ w = w' := by
  by_cases h1 : n ≤ 600
  · have h1' : decide ((n : Int) ≤ 600) = true := by simp; omega
    by_cases h2 : 0 ≤ size
    · have h2' : decide (0 ≤ size) = true := by simpa using h2
      have hf : fitsB n size = decide (size ≤ 40) := by simp [fitsB, h1, h2]
      rw [hf]
      clear hf
      go_enter Try.func28, Try.ntmps28
      go_wp2
      go_ret
      exact ⟨rfl, rfl⟩
    · have h2' : decide (0 ≤ size) = false := by simpa using h2
      have hf : fitsB n size = false := by simp [fitsB, h2]
      rw [hf]
      clear hf
      go_enter Try.func28, Try.ntmps28
      go_wp2
      go_ret
      exact ⟨rfl, rfl⟩
  · have h1' : decide ((n : Int) ≤ 600) = false := by simp; omega
    have hf : fitsB n size = false := by simp [fitsB, h1]
    rw [hf]
    clear hf
    go_enter Try.func28, Try.ntmps28
    go_wp2
    go_ret
    exact ⟨rfl, rfl⟩
end Go.Proofs.Ytlelonbakckkgaa
namespace Go.Proofs.Ytlelonbakckkgaa
set_option linter.unusedVariables false
set_option linter.unusedSimpArgs false
open Go.RowKit Go.Maps

end Go.Proofs.Ytlelonbakckkgaa
namespace Go.Proofs.Ytlelonbakckkgaa
set_option linter.unusedVariables false
set_option linter.unusedSimpArgs false
theorem nodup_len : ∀ {l m : List Int}, l.Nodup → (∀ x ∈ l, x ∈ m) → l.length ≤ m.length
  | [], _, _, _ => Nat.zero_le _
  | a :: l, m, hn, hs => by
    have ha : a ∈ m := hs a (List.mem_cons_self ..)
    have hn' := List.nodup_cons.1 hn
    have := nodup_len (l := l) (m := m.erase a) hn'.2 (fun x hx => (List.mem_erase_of_ne (fun e : x = a => hn'.1 (e ▸ hx))).2 (hs x (List.mem_cons_of_mem _ hx)))
    rw [List.length_erase_of_mem ha] at this
    have hp : 0 < m.length := List.length_pos_of_mem ha
    rw [List.length_cons]
    omega
theorem nodup_len_eq {l m : List Int} (hl : l.Nodup) (hm : m.Nodup) (h : ∀ x, x ∈ l ↔ x ∈ m) : l.length = m.length :=
  Nat.le_antisymm (nodup_len hl fun x hx => (h x).1 hx) (nodup_len hm fun x hx => (h x).2 hx)

theorem nodup_addI {acc : List Int} {x : Int} (h : acc.Nodup) : (addI acc x).Nodup := by
  unfold addI
  split
  · exact h
  · rename_i hc
    rw [List.contains_eq_mem, decide_eq_true_iff] at hc
    rw [List.nodup_append]
    refine ⟨h, by simp, fun a ha b hb => ?_⟩
    rw [List.mem_singleton] at hb
    subst hb
    exact fun e => hc (e ▸ ha)
theorem nodup_uniq (xs : List Int) : (uniq xs).Nodup := by
  suffices h : ∀ acc : List Int, acc.Nodup → (xs.foldl addI acc).Nodup from h [] List.nodup_nil
  induction xs with
  | nil => exact fun _ h => h
  | cons x xs ih => exact fun acc h => ih _ (nodup_addI h)

/-- The cells of xs, the one used last first. -/
def stk (xs : List Int) : List Int := xs.foldl (fun st x => x :: st.filter (fun y => decide (y ≠ x))) []
theorem stk_snoc (xs : List Int) (x : Int) : stk (xs ++ [x]) = x :: (stk xs).filter (fun y => decide (y ≠ x)) := by simp [stk, List.foldl_append]
theorem snoc_ind {P : List Int → Prop} (h0 : P []) (h1 : ∀ xs x, P xs → P (xs ++ [x])) (xs : List Int) : P xs := by
  have : ∀ ys : List Int, P ys.reverse := by
    intro ys
    induction ys with
    | nil => exact h0
    | cons y ys ih => rw [List.reverse_cons]; exact h1 _ _ ih
  have h := this xs.reverse
  rwa [List.reverse_reverse] at h
theorem mem_stk (xs : List Int) : ∀ y, y ∈ stk xs ↔ y ∈ xs := by
  induction xs using snoc_ind with
  | h0 => simp [stk]
  | h1 xs x ih =>
    intro y
    rw [stk_snoc, List.mem_cons, List.mem_filter, ih, List.mem_append, List.mem_singleton]
    by_cases e : y = x <;> simp [e]
theorem nodup_stk (xs : List Int) : (stk xs).Nodup := by
  induction xs using snoc_ind with
  | h0 => exact List.nodup_nil
  | h1 xs x ih =>
    rw [stk_snoc, List.nodup_cons]
    exact ⟨by simp, ih.filter _⟩
theorem stk_len (zs : List Int) : (stk zs).length = (uniq zs).length :=
  nodup_len_eq (nodup_stk zs) (nodup_uniq zs) fun x => by rw [mem_stk, mem_uniq]
theorem stk_le (zs : List Int) : (stk zs).length ≤ zs.length := by rw [stk_len]; exact uniq_le zs
/-- The position of x in the stack, -1 if it is not there. -/
def posIn (st : List Int) (x : Int) : Int := if x ∈ st then (st.idxOf x : Int) else -1
/-- The i-th stack distance of xs. -/
def sd (xs : List Int) (i : Nat) : Int := posIn (stk (xs.take i)) (xs[i]?.getD 0)
def sds (xs : List Int) (n : Nat) : List Int := (List.range n).map (sd xs)
theorem sds_succ (xs : List Int) (n : Nat) : sds xs (n + 1) = sds xs n ++ [sd xs n] := by simp [sds, List.range_succ]
theorem sds_length (xs : List Int) (n : Nat) : (sds xs n).length = n := by simp [sds]

theorem posIn_none {st : List Int} {x : Int} (h : x ∉ st) : posIn st x = -1 := if_neg h
theorem posIn_at {st : List Int} {x : Int} {p : Nat} (hn : st.Nodup) (hp : p < st.length) (h : st[p]?.getD 0 = x) : posIn st x = p := by
  rw [List.getElem?_eq_getElem hp] at h
  simp only [Option.getD_some] at h
  have hm : x ∈ st := h ▸ List.getElem_mem hp
  rw [posIn, if_pos hm]
  congr 1
  subst h
  exact hn.idxOf_getElem p hp
theorem posIn_nil (x : Int) : posIn [] x = -1 := posIn_none (by simp)
theorem posIn_hit {st : List Int} {x : Int} {j : Nat} (hn : st.Nodup) (hj : j < st.length) (h : (st[j]?.getD 0 == x) = true) : posIn (st.take (j + 1)) x = j :=
  posIn_at (List.Nodup.sublist (List.take_sublist _ _) hn) (by rw [List.length_take]; omega) (by rw [List.getElem?_take, if_pos (by omega)]; exact beq_iff_eq.1 h)
theorem posIn_miss {st : List Int} {x : Int} {j : Nat} (hj : j < st.length) (h : (st[j]?.getD 0 == x) = false) : posIn (st.take (j + 1)) x = posIn (st.take j) x := by
  rw [take_snoc hj]
  have hne : x ≠ st[j]?.getD 0 := fun e => by rw [← e] at h; simp at h
  unfold posIn
  by_cases hm : x ∈ st.take j
  · rw [if_pos hm, if_pos (by simp [hm]), List.idxOf_append, if_pos hm]
  · rw [if_neg hm, if_neg (by simp [hm]; exact hne)]
def others (st : List Int) (x : Int) : List Int := st.filter (fun y => decide (y ≠ x))
theorem others_hit {st : List Int} {x : Int} {j : Nat} (hj : j < st.length) (h : (st[j]?.getD 0 == x) = true) : others (st.take (j + 1)) x = others (st.take j) x := by
  rw [take_snoc hj, others, List.filter_append, List.filter_cons, if_neg (by simpa using h)]; simp [others]
theorem others_miss {st : List Int} {x : Int} {j : Nat} (hj : j < st.length) (h : (st[j]?.getD 0 == x) = false) : others (st.take (j + 1)) x = others (st.take j) x ++ [st[j]?.getD 0] := by
  rw [take_snoc hj, others, List.filter_append, List.filter_cons, if_pos (by simpa using h)]; simp [others]
theorem others_le (st : List Int) (x : Int) : (others st x).length ≤ st.length := List.length_filter_le _ _
end Go.Proofs.Ytlelonbakckkgaa
namespace Go.Proofs.Ytlelonbakckkgaa
set_option linter.unusedVariables false
set_option linter.unusedSimpArgs false
open Go.RowKit
set_option maxHeartbeats 800000 in
theorem specStack_small (a : Option Addr) (n c : Nat) (xs : List Int) (w : World) (hx : IntsA w a n c xs) (h6 : n ≤ 600) :
    Calls Try.prog 15 #[.slice a n c] w fun e w' => (∃ v, e = .returned v ∧ OwnS w' w.heap.size v (sds xs n)) ∧ Below w.heap.size w w' := by
  have h1 : decide ((600 : Int) < (n : Int)) = false := by simp; omega
  go_enter Try.func15, Try.ntmps15
  go_wp2_with fail
  go_loopw [3, 4, 5] (fun vo vs i wr => ∃ k : Nat, k ≤ n ∧ i = .int .i64 k ∧ OwnS wr w.heap.size vo (sds xs k) ∧ OwnS wr w.heap.size vs (stk (xs.take k)) ∧ Dis vo vs ∧ Below w.heap.size w wr) (fun _ _ i _ => n - (intOf i).toNat)
  case atStart =>
    have ho : OwnS (w.alloc (.cells #[] 3)) w.heap.size (.slice (some ⟨w.heap.size, 0, none⟩) 0 0) [] := OwnS.empty w (Nat.le_refl _)
    have hs := OwnS.empty (w.alloc (.cells #[] 3)) (B := w.heap.size) (by simp)
    have hd := Dis.new ho 0 0
    rw [World.size_alloc] at hs hd
    exact ⟨0, Nat.zero_le _, rfl, ho.alloc _, hs, hd, ((Below.refl _ _).alloc (Nat.le_refl _) _).alloc (by simp) _⟩
  case round =>
    obtain ⟨k, hk, rfl, ho, hs, hd, hb⟩ := hrel
    obtain ⟨wo, rfl⟩ : ∃ wo : World, wo = wr := ⟨_, rfl⟩
    have hsl : (stk (xs.take k)).length ≤ 600 := Nat.le_trans (stk_le _) (Nat.le_trans (List.length_take_le _ _) (by omega))
    have hnd := nodup_stk (xs.take k)
    generalize hst : stk (xs.take k) = st at hs hsl hnd
    have Hst := hid hst; clear hst
    by_cases hlt : k < n
    · obtain ⟨ast, cst, rfl, his, has⟩ := hs.form (by omega)
      obtain ⟨ba, oa, ha, hlb, hca⟩ := hx.at (by omega)
      have h2 : wo.cell? ⟨ba, oa + k, none⟩ = _ := (hb.cell hlb).trans (hca k hlt)
      generalize hxk : xs.getD k 0 = x at h2
      have h2w : Hid (w.cell? ⟨ba, oa + k, none⟩ = some (.int .i64 x)) := hid (by rw [← hxk]; exact hca k hlt)
      have Hxk := hid hxk; clear hxk
      subst ha
      clear hca
      go_wp2_with fail
      go_loopw [6, 7, 8] (fun q vr kk wi => ∃ j : Nat, j ≤ st.length ∧ kk = .int .i64 j ∧ q = .int .i64 (posIn (st.take j) x) ∧ OwnS wi wo.heap.size vr (others (st.take j) x) ∧ Below wo.heap.size wo wi) (fun _ _ kk _ => st.length - (intOf kk).toNat)
      case atStart => exact ⟨0, Nat.zero_le _, rfl, int_i64 (posIn_nil _).symm, OwnS.empty wo (Nat.le_refl _), (Below.refl _ _).alloc (Nat.le_refl _) _⟩
      case round =>
        obtain ⟨j, hj, rfl, rfl, hr, hb2⟩ := hrel
        have hbs := hb2.size
        by_cases hlt2 : j < st.length
        · have h3 : wr.cell? _ = _ := (hb2.cell (World.block_lt_of_cell? _ _ h2)).trans h2
          obtain ⟨g, hg, _, hgl, _, hcs, _⟩ := hs.at (by omega)
          have h4 : wr.cell? _ = _ := (hb2.cell (p := ⟨g, j, none⟩) hgl).trans (hcs j hlt2)
          have hol := others_le (st.take j) x
          have htl : (st.take j).length ≤ j := List.length_take_le _ _
          subst hg
          clear hcs h2
          generalize hy : st.getD j 0 = y at h4
          have hy' : st[j]?.getD 0 = y := by rw [← hy]; rfl
          have Hy := hid hy'; clear hy hy'
          cases he : (y == x)
          · have hx1 : posIn (st.take (j + 1)) x = posIn (st.take j) x := posIn_miss hlt2 (by rw [Hy.out]; exact he)
            have hx2 : others (st.take (j + 1)) x = others (st.take j) x ++ [y] := by rw [others_miss hlt2 (by rw [Hy.out]; exact he), Hy.out]
            have H1 := hid hx1; have H2 := hid hx2; clear hx1 hx2
            go_wp2_with fail
            go_quiet (fail)
            go_wp2_with (at_builtin; go_must (refine wpList_app1 _ rfl _ _ rfl wo.heap.size _ _ rfl (OwnS.alloc hr.drewN _) wr.heap.size y rfl ?_ ?c1 ?c2 ?c3); intro v' w1 hp)
            case c1 => exact cell_new (wr.drewN nq) _ _
            case c2 => omega
            case c3 => rw [World.size_alloc]; show wo.heap.size ≤ wr.heap.size + 1; omega
            have hr1 : OwnS ((wr.drewN nq).alloc (.cells #[.int .i64 y] 3)) wo.heap.size _ _ := OwnS.alloc hr.drewN _
            exact ⟨⟨j + 1, by omega, rfl, int_i64 H1.out.symm, by rw [H2.out]; exact hp.own, hp.below hr1 ((belowN hb2).alloc hbs _) (Nat.le_refl _) (by rw [World.size_alloc]; show wo.heap.size ≤ wr.heap.size + 1; omega)⟩, by simp [intOf]; omega⟩
          · have hx1 : posIn (st.take (j + 1)) x = j := posIn_hit hnd hlt2 (by rw [Hy.out]; exact he)
            have hx2 : others (st.take (j + 1)) x = others (st.take j) x := others_hit hlt2 (by rw [Hy.out]; exact he)
            have H1 := hid hx1; have H2 := hid hx2; clear hx1 hx2
            go_wp2_with fail
            go_quiet (fail)
            go_wp2_with fail
            exact ⟨⟨j + 1, by omega, rfl, int_i64 H1.out.symm, by rw [H2.out]; exact hr.drewN, belowN hb2⟩, by simp [intOf]; omega⟩
        · have hje : j = st.length := by omega
          subst hje
          rw [List.take_length] at hr ⊢
          have ho1 := ho.below' hb2
          have hs1 := hs.below' hb2
          have hole := others_le st x
          have hdr : Dis (.slice ast st.length cst) u7 := fun q hq e => absurd (hs.lt q hq).2 (by have := (hr.lt q e).1; omega)
          have h5 : wr.cell? _ = _ := (hb2.cell (World.block_lt_of_cell? _ _ h2)).trans h2
          have hsk := sds_length xs k
          have hbw := hb.trans (hb2.mono hb.size)
          have hwsz := hbw.size
          have hdo : Dis u7 u3 := fun q hq e => absurd (ho.lt q e).2 (by have := (hr.lt q hq).1; omega)
          obtain ⟨ar, cr, rfl, _, _⟩ := hr.form (by omega)
          have tok1 : True := trivial
          go_wp2_with (first
            | (at_builtin; have _t := tok1; go_must (refine wpList_app1 _ rfl _ _ rfl w.heap.size u3 (sds xs k) rfl (ho1.alloc _) wr.heap.size (posIn st x) rfl ?_ ?d1 ?d2 ?d3); intro v' w1 hp; have hb6 := hp.below (ho1.alloc _) (hbw.alloc hwsz _) (Nat.le_refl _) (by rw [World.size_alloc]; omega); have h6 := (hb6.cell (p := ⟨ba, oa + k, none⟩) hlb).trans h2w.out; have hr7 := (hr.alloc (.cells #[.int .i64 (posIn st x)] 3)).kept hp.grown hdo; clear tok1)
            | (at_builtin; go_must (refine wpList_appS _ rfl _ _ rfl w.heap.size wo.heap.size _ [x] rfl (OwnS.one w1 hb6.size x) _ _ _ (others st x) rfl (hr7.alloc _) ?_ ?e4 ?e5); intro v2 w2 hp2))
          case d1 => exact cell_new wr _ _
          case d2 => omega
          case d3 => rw [World.size_alloc]; omega
          case e4 => rw [List.length_singleton]; omega
          case e5 => rw [World.size_alloc]; have := hb6.size; omega
          have hown2 : OwnS (w1.alloc (.cells #[.int .i64 x] 3)) w.heap.size (.slice (some ⟨w1.heap.size, 0, none⟩) 1 1) [x] := OwnS.one w1 hb6.size x
          have hv1 : OwnS w1 w.heap.size v' (sds xs k ++ [posIn st x]) := hp.own
          have e1 : sds xs (k + 1) = sds xs k ++ [posIn st x] := by rw [sds_succ, sd, Hst.out, ← Hxk.out]; rfl
          have e2 : stk (xs.take (k + 1)) = x :: others st x := by rw [take_snoc (by rw [hx.1]; exact hlt), stk_snoc, Hst.out, ← Hxk.out]; rfl
          have hd9 : Dis v' (.slice (some ⟨w1.heap.size, 0, none⟩) 1 1) := Dis.new hv1 1 1
          refine ⟨⟨k + 1, by omega, rfl, by rw [e1]; exact (hv1.alloc _).kept hp2.grown hd9, by rw [e2]; exact hp2.own, hp2.dis hd9 (fun q hq => by have := (hv1.lt q hq).2; rw [World.size_alloc]; omega), hp2.below hown2 (hb6.alloc hb6.size _) (Nat.le_refl _) (by rw [World.size_alloc]; have := hb6.size; omega)⟩, by simp [intOf]; omega⟩
    · have : k = n := by omega
      subst this
      go_wp2
      go_ret
      exact ⟨⟨_, rfl, ho⟩, hb⟩
end Go.Proofs.Ytlelonbakckkgaa
namespace Go.Proofs.Ytlelonbakckkgaa
set_option linter.unusedVariables false
set_option linter.unusedSimpArgs false
open Go.RowKit Go.Maps
theorem OwnS.shape2 {w : World} {B : Nat} {v : Value} {xs : List Int} (h : OwnS w B v xs) : ∃ a cap, v = .slice a xs.length cap := by
  rcases h.2 with ⟨rfl, h0⟩ | ⟨g, cap, cur, rfl, _⟩
  · exact ⟨none, 0, by rw [h0]⟩
  · exact ⟨_, cap, rfl⟩
/-- The stack distances of a list that is short enough. -/
def dists (xs : List Int) : List Int := if xs.length ≤ 600 then sds xs xs.length else []
theorem dists_length (xs : List Int) : (dists xs).length ≤ 600 := by
  unfold dists
  split
  · rw [sds_length]; omega
  · simp

set_option maxHeartbeats 400000 in
theorem specStack_any (a : Option Addr) (n c : Nat) (xs : List Int) (w : World) (hx : IntsA w a n c xs) :
    Calls Try.prog 15 #[.slice a n c] w fun e w' => (∃ v, e = .returned v ∧ OwnS w' w.heap.size v (dists xs)) ∧ Below w.heap.size w w' := by
  unfold dists
  rw [hx.1]
  by_cases h : n ≤ 600
  · rw [if_pos h]; exact specStack_small a n c xs w hx h
  · rw [if_neg h]
    have h1 : decide ((600 : Int) < (n : Int)) = true := by simp; omega
    go_enter Try.func15, Try.ntmps15
    go_wp2
    go_ret
    exact ⟨⟨_, rfl, OwnS.empty w (Nat.le_refl _)⟩, (Below.refl _ _).alloc (Nat.le_refl _) _⟩
end Go.Proofs.Ytlelonbakckkgaa
namespace Go.Proofs.Ytlelonbakckkgaa
set_option linter.unusedVariables false
set_option linter.unusedSimpArgs false
open Go.RowKit

end Go.Proofs.Ytlelonbakckkgaa
namespace Go.Proofs.Ytlelonbakckkgaa
set_option linter.unusedVariables false
set_option linter.unusedSimpArgs false
/-- What a cache of a size holds behind the use of a cell, the cell used last at the end. -/
def lruStep (size : Nat) (h : List Int) (x : Int) : List Int :=
  let h1 := (if x ∈ h then h.eraseIdx (h.idxOf x) else h) ++ [x]
  if size < h1.length then h1.drop 1 else h1
def lruTop (size : Nat) (st : List Int) : List Int := (st.take size).reverse
theorem nodup_sub {l m : List Int} (h : l.Nodup) (s : m.Sublist l) : m.Nodup := List.Nodup.sublist s h
theorem erase_others {t : List Int} (hn : t.Nodup) (x : Int) : (if x ∈ t.reverse then t.reverse.eraseIdx (t.reverse.idxOf x) else t.reverse) = (others t x).reverse := by
  have hr : t.reverse.Nodup := by unfold List.Nodup at hn ⊢; rw [List.pairwise_reverse]; exact hn.imp (fun h e => h e.symm)
  have e : t.reverse.erase x = (others t x).reverse := by
    rw [hr.erase_eq_filter, others, ← List.filter_reverse]
    apply List.filter_congr
    intro y _
    by_cases h : y = x <;> simp [h]
  split
  · rename_i h
    rw [← e, List.erase_eq_eraseIdx_of_idxOf rfl]
  · rename_i h
    rw [← e, List.erase_of_not_mem h]
theorem others_append (a b : List Int) (x : Int) : others (a ++ b) x = others a x ++ others b x := by simp [others]
theorem others_not {t : List Int} {x : Int} (h : x ∉ t) : others t x = t := by
  rw [others, List.filter_eq_self]
  intro y hy
  simp
  exact fun e => h (e ▸ hy)
theorem others_mem_len {t : List Int} (hn : t.Nodup) {x : Int} (h : x ∈ t) : (others t x).length + 1 = t.length := by
  have e : t.erase x = others t x := by
    rw [hn.erase_eq_filter, others]
    apply List.filter_congr
    intro y _
    by_cases h : y = x <;> simp [h]
  have hp := List.length_pos_of_mem h
  rw [← e, List.length_erase_of_mem h]; omega
theorem lru_step (size : Nat) {st : List Int} (hn : st.Nodup) (x : Int) : lruStep size (lruTop size st) x = lruTop size (x :: others st x) := by
  have hT : (st.take size).Nodup := nodup_sub hn (List.take_sublist _ _)
  have hlT : (st.take size).length ≤ size := List.length_take_le _ _
  have hO : others st x = others (st.take size) x ++ others (st.drop size) x := by rw [← others_append, List.take_append_drop]
  have hR : (st.take size).length = size ∨ st.drop size = [] := by
    rw [List.length_take, List.drop_eq_nil_iff]; omega
  unfold lruStep lruTop
  rw [erase_others hT, hO]
  generalize hTT : st.take size = T at *
  generalize st.drop size = R at *
  have e1 : (others T x).reverse ++ [x] = (x :: others T x).reverse := by rw [List.reverse_cons]
  have hk : (others T x).length ≤ T.length := others_le T x
  simp only [e1]
  rw [List.length_reverse, List.length_cons]
  by_cases hgt : size < (others T x).length + 1
  · rw [if_pos hgt]
    have hks : (others T x).length = size := by omega
    rw [← List.reverse_reverse (List.drop 1 _)]
    congr 1
    rw [List.reverse_drop, List.reverse_reverse, List.length_reverse, List.length_cons, hks, Nat.add_sub_cancel]
    rw [← List.cons_append, List.take_append_of_le_length (by rw [List.length_cons]; omega)]
  · rw [if_neg hgt]
    congr 1
    rcases hR with h | h
    · by_cases hm : x ∈ T
      · have := others_mem_len hT hm
        rw [← List.cons_append, List.take_append_of_le_length (by rw [List.length_cons]; omega), List.take_of_length_le (by rw [List.length_cons]; omega)]
      · rw [others_not hm] at hgt; omega
    · subst h
      rw [show others [] x = [] from rfl, List.append_nil, List.take_of_length_le (by rw [List.length_cons]; omega)]

/-- Is an access at this distance a miss? -/
def isMiss (size d : Int) : Bool := decide (d < 0) || decide (size ≤ d)
theorem miss_iff {st : List Int} (_ : st.Nodup) (size : Nat) (x : Int) : isMiss size (posIn st x) = !decide (x ∈ lruTop size st) := by
  have hm : x ∈ lruTop size st ↔ x ∈ st ∧ st.idxOf x < size := by
    rw [lruTop, List.mem_reverse]
    constructor
    · intro h
      refine ⟨List.mem_of_mem_take h, ?_⟩
      have := List.idxOf_lt_length_of_mem h
      have e : st.idxOf x = (st.take size).idxOf x := by
        conv => lhs; rw [← List.take_append_drop size st]
        rw [List.idxOf_append, if_pos h]
      rw [e]
      exact Nat.lt_of_lt_of_le this (List.length_take_le _ _)
    · rintro ⟨h1, h2⟩
      rw [List.mem_take_iff_getElem]
      exact ⟨st.idxOf x, by have := List.idxOf_lt_length_of_mem h1; omega, List.getElem_idxOf _⟩
  unfold isMiss posIn
  by_cases h : x ∈ st
  · rw [if_pos h]
    by_cases h2 : st.idxOf x < size
    · have : x ∈ lruTop size st := hm.2 ⟨h, h2⟩
      simp [this]; omega
    · have : x ∉ lruTop size st := fun hc => h2 (hm.1 hc).2
      simp [this]; omega
  · rw [if_neg h]
    have : x ∉ lruTop size st := fun hc => h (hm.1 hc).1
    simp [this]
def misses (size : Int) (ds : List Int) : Nat := (ds.filter (isMiss size)).length
theorem misses_snoc (size : Int) (ds : List Int) (d : Int) : misses size (ds ++ [d]) = misses size ds + (isMiss size d).toNat := by
  unfold misses
  rw [List.filter_append, List.length_append]
  cases h : isMiss size d <;> simp [List.filter_cons, h]
theorem misses_le (size : Int) (ds : List Int) : misses size ds ≤ ds.length := List.length_filter_le _ _
end Go.Proofs.Ytlelonbakckkgaa
namespace Go.Proofs.Ytlelonbakckkgaa
set_option linter.unusedVariables false
set_option linter.unusedSimpArgs false
open Go.RowKit
def lruOf (xs : List Int) (size : Int) : Int := if fitsB xs.length size then misses size (dists xs) else -1

set_option maxHeartbeats 800000 in
theorem specLru_yes (a : Option Addr) (n c : Nat) (size : Int) (xs : List Int) (w : World) (hx : IntsA w a n c xs) (hf : fitsB n size = true) :
    Calls Try.prog 18 #[.slice a n c, .int .i64 size] w fun e w' => e = .returned (.int .i64 (misses size (dists xs))) ∧ Below w.heap.size w w' := by
  have hdl := dists_length xs
  go_enter Try.func18, Try.ntmps18
  go_wp2_with (first
    | (go_at_call 28; refine (l10Fits_any _ _ _ _ _).mono ?_; rintro e w' ⟨rfl, rfl⟩)
    | (go_at_call 15; refine (specStack_any _ _ _ xs _ hx).mono ?_; rintro e w' ⟨⟨v, rfl, o⟩, hb⟩; obtain ⟨a1, c1, rfl⟩ := o.shape2))
  have hI := o.intsA (by omega)
  generalize hds : dists xs = ds at hI hdl
  have Hds := hid hds; clear hds
  go_loopw [5, 7] (fun q i wr => ∃ k : Nat, k ≤ ds.length ∧ i = .int .i64 k ∧ q = .int .i64 (misses size (ds.take k)) ∧ Quiet w' wr) (fun _ i _ => ds.length - (intOf i).toNat)
  case atStart => exact ⟨0, Nat.zero_le _, rfl, rfl, Quiet.refl _⟩
  case round =>
    obtain ⟨k, hk, rfl, rfl, hq⟩ := hrel
    have hm := misses_le size (ds.take k)
    have hl : (ds.take k).length ≤ k := List.length_take_le _ _
    by_cases hlt : k < ds.length
    · obtain ⟨ba, oa, ha, _, hca⟩ := (hI.quiet hq).at (by omega)
      subst ha
      have h1 := hca k hlt
      have hs : ds.take (k + 1) = ds.take k ++ [ds.getD k 0] := take_snoc hlt
      generalize ds.getD k 0 = d at h1 hs
      have hms := misses_snoc size (ds.take k) d
      rw [← hs] at hms
      clear hs hca
      cases hd1 : decide (d < 0)
      · cases hd2 : decide (size ≤ d)
        · have hz : isMiss size d = false := by simp only [isMiss, hd1, hd2]; rfl
          rw [hz] at hms
          have Hms := hid hms; clear hms hz
          go_wp2
          exact ⟨⟨k + 1, by omega, rfl, int_i64 (by rw [Hms.out]; rfl), hq⟩, by simp [intOf]; omega⟩
        · have hz : isMiss size d = true := by simp only [isMiss, hd1, hd2]; rfl
          rw [hz] at hms
          have Hms := hid hms; clear hms hz
          go_wp2
          exact ⟨⟨k + 1, by omega, rfl, int_i64 (by rw [Hms.out]; simp), hq⟩, by simp [intOf]; omega⟩
      · have hz : isMiss size d = true := by simp only [isMiss, hd1]; rfl
        rw [hz] at hms
        have Hms := hid hms; clear hms hz
        go_wp2
        exact ⟨⟨k + 1, by omega, rfl, int_i64 (by rw [Hms.out]; simp), hq⟩, by simp [intOf]; omega⟩
    · have hke : k = ds.length := by omega
      subst hke
      go_wp2
      go_ret
      exact ⟨ret_int (by rw [List.take_length, Hds.out]), hb.trans (hq.below _)⟩
theorem specLru_any (a : Option Addr) (n c : Nat) (size : Int) (xs : List Int) (w : World) (hx : IntsA w a n c xs) :
    Calls Try.prog 18 #[.slice a n c, .int .i64 size] w fun e w' => e = .returned (.int .i64 (lruOf xs size)) ∧ Below w.heap.size w w' := by
  unfold lruOf
  rw [hx.1]
  cases hf : fitsB n size
  · rw [if_neg (by simp)]
    go_enter Try.func18, Try.ntmps18
    go_wp2_with (go_at_call 28; refine (l10Fits_any _ _ _ _ _).mono ?_; rintro e w' ⟨rfl, rfl⟩)
    go_ret
    exact ⟨rfl, Below.refl _ _⟩
  · rw [if_pos rfl]
    exact specLru_yes a n c size xs w hx hf

theorem OwnI.tail {B n c : Nat} {a : Option Addr} {w : World} {ys : List Int} (h : OwnI B w (.slice a (n + 1) c) ys) :
    OwnI B w (.slice (if c = 1 then a else Option.map (fun x => { block := x.block, off := x.off + 1 }) a) n (c - 1)) (ys.drop 1) := by
  obtain ⟨g, off, rfl, _⟩ := h.at (by omega)
  obtain ⟨h1, h2, h3, h4, cur, h5, h6, h7⟩ := h.cells
  by_cases hc : c = 1
  · rw [if_pos hc]
    subst hc
    have hn : n = 0 := by omega
    subst hn
    have e0 : ys.drop 1 = [] := List.drop_of_length_le (by omega)
    exact OwnI.of_cells (by rw [List.length_drop, h1]) h2 (by omega) (by unfold maxLen; omega) h5 (by omega) (by rw [e0]; rfl)
  · rw [if_neg hc]
    refine OwnI.of_cells (by rw [List.length_drop, h1]; omega) h2 (by omega) (by unfold maxLen at h4 ⊢; omega) h5 (by show off + 1 + (c - 1) ≤ cur.size; omega) ?_
    rw [List.map_drop, ← h7, ← List.drop_drop, List.drop_take]
    congr 1
set_option maxHeartbeats 800000 in
theorem implLru_yes (a : Option Addr) (n c : Nat) (size : Int) (xs : List Int) (w : World) (hx : IntsA w a n c xs) (hf : fitsB n size = true) :
    Calls Try.prog 17 #[.slice a n c, .int .i64 size] w fun e w' => e = .returned (.int .i64 (misses size (sds xs n))) ∧ Below w.heap.size w w' := by
  obtain ⟨h6, hs0, hs40⟩ := of_decide_eq_true hf
  obtain ⟨sz, rfl⟩ : ∃ sz : Nat, size = (sz : Int) := ⟨size.toNat, by omega⟩
  go_enter Try.func17, Try.ntmps17
  go_wp2_with (go_at_call 25; refine (isCache_any _ _ _ _ _).mono ?_; rintro e w' ⟨rfl, rfl⟩)
  go_loopw [5, 6, 16] (fun q vh i wr => ∃ k : Nat, k ≤ n ∧ i = .int .i64 k ∧ q = .int .i64 (misses sz (sds xs k)) ∧ OwnI w.heap.size wr vh (lruTop sz (stk (xs.take k))) ∧ Below w.heap.size w wr) (fun _ _ i _ => n - (intOf i).toNat)
  case atStart => exact ⟨0, Nat.zero_le _, rfl, rfl, (by rw [show lruTop sz (stk (xs.take 0)) = [] by simp [lruTop, stk]]; exact OwnI.nil _ _), Below.refl _ _⟩
  case round =>
    obtain ⟨k, hk, rfl, rfl, ho, hb⟩ := hrel
    have hml := misses_le sz (sds xs k)
    rw [sds_length] at hml
    by_cases hlt : k < n
    · obtain ⟨ba, oa, ha, hlb, hca⟩ := hx.at (by omega)
      have h2 : wr.cell? ⟨ba, oa + k, none⟩ = _ := (hb.cell hlb).trans (hca k hlt)
      generalize hxk : xs.getD k 0 = x at h2
      subst ha
      have hst := nodup_stk (xs.take k)
      have hstep := lru_step sz hst x
      have hmi := miss_iff hst sz x
      have hms := misses_snoc sz (sds xs k) (sd xs k)
      have hsd : sd xs k = posIn (stk (xs.take k)) x := by rw [sd, ← hxk]; rfl
      rw [← sds_succ, hsd] at hms
      have hnx : x :: others (stk (xs.take k)) x = stk (xs.take (k + 1)) := by
        rw [take_snoc (by rw [hx.1]; exact hlt), stk_snoc, ← hxk]; rfl
      rw [hnx] at hstep
      have hle : (lruTop sz (stk (xs.take k))).length ≤ sz := by rw [lruTop, List.length_reverse]; exact List.length_take_le _ _
      generalize lruTop sz (stk (xs.take k)) = h at ho hstep hmi hle
      have Hstep := hid hstep; have Hms := hid hms; have Hmi := hid hmi
      clear hca hst hstep hmi hms hsd hnx hxk
      obtain ⟨ah, ch, rfl, hhc⟩ := ho.shape
      have hs := ho.sl (by omega)
      have hbs := hb.size
      by_cases hm : x ∈ h
      · have hix : idx h x = (h.idxOf x : Int) := by rw [idx, if_pos hm]
        have hil : h.idxOf x < h.length := List.idxOf_lt_length_of_mem hm
        have hms2 : misses sz (sds xs (k + 1)) = misses sz (sds xs k) := by rw [Hms.out, Hmi.out]; simp [hm]
        have hst2 : lruTop sz (stk (xs.take (k + 1))) = let h1 := h.eraseIdx (h.idxOf x) ++ [x]; if sz < h1.length then h1.drop 1 else h1 := by rw [← Hstep.out, lruStep, if_pos hm]
        have hel : (h.eraseIdx (h.idxOf x)).length = h.length - 1 := by rw [List.length_eraseIdx, if_pos hil]
        obtain ⟨g, off, rfl, hgB, hgl, _, _⟩ := ho.at (by omega)
        generalize hip : h.idxOf x = p at hix hil hst2 hel
        have hst3 : lruTop sz (stk (xs.take (k + 1))) = h.eraseIdx p ++ [x] := by
          rw [hst2]; simp only [List.length_append, List.length_singleton, hel]; rw [if_neg (by omega)]
        have Hix := hid hix; have Hst := hid hst3; have Hms2 := hid hms2; have Hel := hid hel
        clear hix hst2 hst3 hms2 hel hip
        have hdec : decide ((sz : Int) < (h.length : Int)) = false := by simp; omega
        have HL : Hid ((h.eraseIdx p ++ [x]).length = h.length) := hid (by rw [List.length_append, Hel.out, List.length_singleton]; omega)
        go_wp2_with (first
          | (go_at_call 26; refine (index_any _ _ _ _ x h _ hs).mono ?_; rintro e w' ⟨rfl, rfl⟩; rw [Hix.out])
          | (go_at_call 27; refine (delete_own w.heap.size g off _ ch p h _ ho hil (by omega)).mono ?_; rintro e w1 ⟨rfl, o1, g1⟩; have hb1 := hb.grown g1 hbs (fun j hj => by cases hj; exact hgB); have hbs1 := hb1.size)
          | (at_builtin; go_must (refine wpList_app1I _ rfl _ _ rfl w.heap.size _ (h.eraseIdx p) rfl w1 x rfl o1 rfl ?_ ?c1 ?c2); intro v' w2 o2 g2 b2 _; have hb2 := (hb1.alloc hbs1 _).trans b2; obtain ⟨a2, c2, hv2, _⟩ := o2.shape; rw [HL.out] at hv2; subst hv2))
        case c1 => have := Hel.out; omega
        case c2 => omega
        exact ⟨⟨k + 1, by omega, rfl, int_i64 (by rw [Hms2.out]), by rw [Hst.out]; exact o2, hb2⟩, by simp [intOf]; omega⟩
      · have hix : idx h x = -1 := by rw [idx, if_neg hm]
        have hms2 : misses sz (sds xs (k + 1)) = misses sz (sds xs k) + 1 := by rw [Hms.out, Hmi.out]; simp [hm]
        have hst2 : lruTop sz (stk (xs.take (k + 1))) = let h1 := h ++ [x]; if sz < h1.length then h1.drop 1 else h1 := by rw [← Hstep.out, lruStep, if_neg hm]
        have hL : (h ++ [x]).length = h.length + 1 := by rw [List.length_append, List.length_singleton]
        simp only [hL] at hst2
        have Hix := hid hix; have Hms2 := hid hms2; have HL := hid hL
        clear hix hms2 hL
        by_cases hgt : sz < h.length + 1
        · rw [if_pos hgt] at hst2
          have Hst := hid hst2
          clear hst2
          have hdec : decide ((sz : Int) < (h.length : Int) + 1) = true := by simp; omega
          go_wp2_with (first
            | (go_at_call 26; refine (index_any _ _ _ _ x h _ hs).mono ?_; rintro e w' ⟨rfl, rfl⟩; rw [Hix.out])
            | (at_builtin; go_must (refine wpList_app1I _ rfl _ _ rfl w.heap.size _ h rfl wr x rfl ho rfl ?_ ?d1 ?d2); intro v' w2 o2 g2 b2 _; have hb2 := (hb.alloc hbs _).trans b2; obtain ⟨a2, c2, hv2, hc2⟩ := o2.shape; rw [HL.out] at hv2 hc2; subst hv2))
          case d1 => omega
          case d2 => omega
          exact ⟨⟨k + 1, by omega, rfl, int_i64 (by rw [Hms2.out]; omega), by rw [Hst.out]; exact o2.tail, hb2⟩, by simp [intOf]; omega⟩
        · rw [if_neg hgt] at hst2
          have Hst := hid hst2
          clear hst2
          have hdec : decide ((sz : Int) < (h.length : Int) + 1) = false := by simp; omega
          go_wp2_with (first
            | (go_at_call 26; refine (index_any _ _ _ _ x h _ hs).mono ?_; rintro e w' ⟨rfl, rfl⟩; rw [Hix.out])
            | (at_builtin; go_must (refine wpList_app1I _ rfl _ _ rfl w.heap.size _ h rfl wr x rfl ho rfl ?_ ?f1 ?f2); intro v' w2 o2 g2 b2 _; have hb2 := (hb.alloc hbs _).trans b2; obtain ⟨a2, c2, hv2, hc2⟩ := o2.shape; rw [HL.out] at hv2 hc2; subst hv2))
          case f1 => omega
          case f2 => omega
          exact ⟨⟨k + 1, by omega, rfl, int_i64 (by rw [Hms2.out]; omega), by rw [Hst.out]; exact o2, hb2⟩, by simp [intOf]; omega⟩
    · have hke : k = n := by omega
      subst hke
      go_wp2
      go_ret
      exact ⟨rfl, hb⟩

theorem implLru_any (a : Option Addr) (n c : Nat) (size : Int) (xs : List Int) (w : World) (hx : IntsA w a n c xs) :
    Calls Try.prog 17 #[.slice a n c, .int .i64 size] w fun e w' => e = .returned (.int .i64 (lruOf xs size)) ∧ Below w.heap.size w w' := by
  unfold lruOf
  rw [hx.1]
  cases hf : fitsB n size
  · rw [if_neg (by simp)]
    go_enter Try.func17, Try.ntmps17
    go_wp2_with (go_at_call 25; refine (isCache_any _ _ _ _ _).mono ?_; rintro e w' ⟨rfl, rfl⟩)
    go_ret
    exact ⟨rfl, Below.refl _ _⟩
  · rw [if_pos rfl, dists, if_pos (by rw [hx.1]; exact (of_decide_eq_true hf).1), hx.1]
    exact implLru_yes a n c size xs w hx hf
/-- A trace as it is drawn. -/
def TrOk (xs : List Int) : Prop := xs.length ≤ 601 ∧ ∀ x ∈ xs, -10 ≤ x ∧ x ≤ 1000
theorem trL_in {bs : List Int} (hb : Bytes bs) : ∀ (n : Nat) (o : List Int) (q : Nat), q + n ≤ 1000000000 → (∀ x ∈ o, -10 ≤ x ∧ x ≤ 1000) → ∀ x ∈ (trL bs n o q).1, -10 ≤ x ∧ x ≤ 1000
  | 0, o, q, _, h => h
  | n + 1, o, q, hq, h => by
    rw [trL]
    refine trL_in hb n _ _ (by omega) fun x hx => ?_
    rcases List.mem_append.1 hx with hx | hx
    · exact h x hx
    · rw [List.mem_singleton] at hx; subst hx
      have hm := numV_mem hb (p := q) (by omega) (xs := [0, 1, 2, 3, 4, 1, 0, 9, -1]) (by simp)
      simp at hm; omega
theorem trM_in {bs : List Int} (hb : Bytes bs) : ∀ (n : Nat) (o : List Int) (q : Nat), q + n ≤ 1000000000 → (∀ x ∈ o, -10 ≤ x ∧ x ≤ 1000) → ∀ x ∈ (trM bs n o q).1, -10 ≤ x ∧ x ≤ 1000
  | 0, o, q, _, h => h
  | n + 1, o, q, hq, h => by
    rw [trM]; split
    · refine trM_in hb n _ _ (by omega) fun x hx => ?_
      rcases List.mem_append.1 hx with hx | hx
      · exact h x hx
      · rw [List.mem_singleton] at hx; subst hx
        have := pickV_bd hb (p := q) (by omega) 5
        omega
    · exact h
theorem trD_in {bs : List Int} (hb : Bytes bs) {p : Nat} (hp : p ≤ 1000000) : ∀ x ∈ (trD bs p).1, -10 ≤ x ∧ x ≤ 1000 := by
  have hm := numV_mem hb (p := p + 1) (by omega) (xs := [8, 12, 5, 20, 0, 30]) (by simp)
  have hN : (numV bs (p + 1) [8, 12, 5, 20, 0, 30]).toNat ≤ 30 := by simp at hm; omega
  have h1 := trL_len bs (numV bs (p + 1) [8, 12, 5, 20, 0, 30]).toNat [] (p + 2)
  have h2 := trL_in hb (numV bs (p + 1) [8, 12, 5, 20, 0, 30]).toNat [] (p + 2) (by omega) (fun x h => by cases h)
  rw [← trA] at h1 h2
  unfold trD; split
  · exact trM_in hb 601 _ _ (by omega) h2
  · exact h2
theorem trcV_in (g : Prg) : ∀ x ∈ trcV g, -10 ≤ x ∧ x ≤ 1000 := by
  intro x hx
  unfold trcV at hx
  split at hx
  · rename_i hV
    obtain ⟨hS, _, _⟩ := prgV_s hV
    have hv := (prgS_iff.1 hS).1
    have htb := totN_bd hv
    obtain ⟨y, hy, hx⟩ := List.mem_flatMap.1 (List.mem_of_mem_take hx)
    obtain ⟨k, c, q, hI⟩ := ins_at hS hy
    obtain ⟨h1, h2, h3⟩ := use_in hv hI
    rcases List.mem_append.1 hx with hx | hx
    · have := h1 x hx; omega
    · rw [List.mem_singleton] at hx; subst hx; omega
  · cases hx
theorem trc_ok {bs : List Int} (hb : Bytes bs) {p : Nat} (hp : p ≤ 100000) : ∃ (xs : List Int) (q : Nat), TrOk xs ∧ q ≤ 2000000 ∧ Fn Try.prog 20 (hbR bs p) [vR] (.o (vD (dIs xs))) (hbR bs q) := by
  by_cases hk : pickV bs p 3 = 0
  · obtain ⟨g, q, h1, h2, h3⟩ := drawG8 hb (p + 1) (by omega)
    have h5 : (trcV g).length ≤ 601 := by have := trcV_len (g := g); omega
    have h6 : p ≤ 1000000 := by omega
    exact ⟨trcV g, q, ⟨h5, trcV_in g⟩, h2, trG_fn hb h6 hk h1 h3⟩
  · obtain ⟨h1, h2⟩ := trD_len hb (p := p) (by omega)
    have h4 : (trD bs p).2 ≤ 2000000 := by omega
    have h6 : p ≤ 1000000 := by omega
    exact ⟨(trD bs p).1, (trD bs p).2, ⟨h1, trD_in hb h6⟩, h4, trD_fn hb h6 hk⟩
theorem drawLM_ok {bs : List Int} (hb : Bytes (bs.take 2000)) : ∃ (xs : List Int) (n : Int), TrOk xs ∧ (-1 ≤ n ∧ n ≤ 41) ∧ Fn Try.prog 16 [] [vD (dYs bs)] (.tup [vD (dIs xs), nat1 n]) [] := by
  obtain ⟨xs, q, h1, h2, h3⟩ := trc_ok hb (p := 0) (by omega)
  have hm := numV_mem hb (p := q) (by omega) (xs := [2, 3, 1, 4, 0, 8, 40, 41, -1]) (by simp)
  exact ⟨xs, _, h1, by simp at hm; omega, drawLM_core hb h3 h2⟩

/-! ### What the caches answer -/
section
variable {w : World} {a : Option Addr} {n c : Nat} {xs : List Int}
theorem sl_intsA {P : Nat → Prop} (h : Sl Sh.int P w (.slice a n c) xs) : IntsA w a n c xs := by
  obtain ⟨a', cap, e, h1, h2, h3, h4⟩ := h
  cases e
  refine ⟨rfl, h1, h2, fun i hi => ?_⟩
  obtain ⟨b, off, cs, h5, _, h6, h7⟩ := h4 i xs[i] (List.getElem?_eq_getElem hi)
  have h6 : cs = [.int .i64 xs[i]] := h6
  subst h6
  refine ⟨b, off, h5, ?_⟩
  have := h7 0 _ rfl
  rw [show off + (i * Sh.int.sz + 0) = off + i by show off + (i * 1 + 0) = off + i; omega] at this
  rw [this, List.getD, List.getElem?_eq_getElem hi]; rfl
end
theorem implLM_fn (xs : List Int) (s : Int) : Fn Try.prog 17 [] [vD (dIs xs), nat1 s] (.o (nat1 (lruOf xs s))) [] :=
  Fn.pure fun B bx al w vs hv => by
    obtain ⟨v, u, rfl, h1, h2⟩ := vals2 hv
    have h3 := dr_ints h1
    have h4 : Dr B w (dI s) u := h2
    have := dr_int h4
    subst this
    obtain ⟨a, n, c, rfl, rfl⟩ := sl_form h3
    exact (implLru_any a _ c s xs w (sl_intsA h3)).mono fun e w' ⟨h1, h2⟩ => ⟨_, h1, h2, .val _ rfl⟩
theorem specLM_fn (xs : List Int) (s : Int) : Fn Try.prog 18 [] [vD (dIs xs), nat1 s] (.o (nat1 (lruOf xs s))) [] :=
  Fn.pure fun B bx al w vs hv => by
    obtain ⟨v, u, rfl, h1, h2⟩ := vals2 hv
    have h3 := dr_ints h1
    have h4 : Dr B w (dI s) u := h2
    have := dr_int h4
    subst this
    obtain ⟨a, n, c, rfl, rfl⟩ := sl_form h3
    exact (specLru_any a _ c s xs w (sl_intsA h3)).mono fun e w' ⟨h1, h2⟩ => ⟨_, h1, h2, .val _ rfl⟩
theorem lru_fits {xs : List Int} {s : Int} (h : fitsB xs.length s = true) : lruOf xs s = misses s (sds xs xs.length) := by
  rw [lruOf, if_pos h, dists, if_pos (of_decide_eq_true h).1]
theorem lru_no {xs : List Int} {s : Int} (h : fitsB xs.length s = false) : lruOf xs s = -1 := by rw [lruOf, h]; rfl
theorem tr_sm {xs : List Int} (h : TrOk xs) : ∀ x ∈ xs, -10000 ≤ x ∧ x ≤ 10000 := fun x hx => by have := h.2 x hx; omega
theorem fits_of {xs : List Int} {n : Int} (h : 0 ≤ lruOf xs n) : fitsB xs.length n = true := by
  cases hh : fitsB xs.length n with
  | false => rw [lru_no hh] at h; omega
  | true => rfl
/-- What a cache holds behind a trace, the cell used last first. -/
def heldV (xs : List Int) (N i : Nat) : List Int := (stk (xs.take i)).take N
theorem heldV_len (xs : List Int) (N i : Nat) : (heldV xs N i).length ≤ N := by rw [heldV, List.length_take]; omega
theorem others_take {st : List Int} {x : Int} (k : Nat) : ∃ r, others st x = others (st.take k) x ++ r := ⟨others (st.drop k) x, by rw [← others_append, List.take_append_drop]⟩
theorem others_len {st : List Int} (hn : st.Nodup) (x : Int) : st.length ≤ (others st x).length + 1 := by
  by_cases h : x ∈ st
  · have := others_mem_len hn h; omega
  · rw [others_not h]; omega
theorem held0 {xs : List Int} {N : Nat} : heldV xs N 0 = [] := by simp [heldV, stk]
theorem held_next {xs : List Int} {N i k : Nat} {x : Int} (hx : xs[i]? = some x) (hk : k ≤ (heldV xs N i).length) (h : k = (heldV xs N i).length ∨ N ≤ (others ((heldV xs N i).take k) x).length + 1) :
    heldV xs N (i + 1) = (x :: others ((heldV xs N i).take k) x).take N := by
  have hs : stk (xs.take (i + 1)) = x :: others (stk (xs.take i)) x := by rw [List.take_add_one, hx, Option.toList_some, stk_snoc]; rfl
  have hn := nodup_stk (xs.take i)
  have hkl := heldV_len xs N i
  rw [heldV, hs]
  generalize hst : stk (xs.take i) = st at *
  have hH : heldV xs N i = st.take N := by rw [heldV, hst]
  rw [hH] at hk h hkl ⊢
  have e1 : (st.take N).take k = st.take k := by rw [List.take_take]; congr 1; omega
  rw [e1] at h ⊢
  obtain ⟨r, hr⟩ := others_take (st := st) (x := x) k
  rw [hr, ← List.cons_append]
  by_cases hN : N ≤ (others (st.take k) x).length + 1
  · rw [List.take_append_of_le_length (by rw [List.length_cons]; exact hN)]
  · have hkk : k = (st.take N).length := h.resolve_right hN
    have h4 := others_len (nodup_sub hn (List.take_sublist k st)) x
    rw [List.length_take] at h4 hkk
    have h5 : st.length ≤ k := by omega
    have h6 : r = [] := by
      have : others st x = others (st.take k) x := by rw [List.take_of_length_le h5]
      rw [this] at hr
      have h7 := congrArg List.length hr
      rw [List.length_append] at h7
      exact List.eq_nil_of_length_eq_zero (by omega)
    rw [h6, List.append_nil]
theorem miss_next (N : Nat) {xs : List Int} {i : Nat} {x : Int} (hx : xs[i]? = some x) : misses (N : Int) (sds xs (i + 1)) = misses (N : Int) (sds xs i) + (!decide (x ∈ heldV xs N i)).toNat := by
  rw [sds_succ, misses_snoc, sd, hx]
  show _ + (isMiss (N : Int) (posIn _ x)).toNat = _
  rw [miss_iff (nodup_stk _)]
  congr 2
  have : (x ∈ lruTop N (stk (xs.take i))) ↔ x ∈ heldV xs N i := by rw [lruTop, heldV, List.mem_reverse]
  rw [decide_eq_decide.2 this]
theorem others_snoc {l : List Int} {x y : Int} {k : Nat} (hy : l[k]? = some y) : others (l.take (k + 1)) x = if y ≠ x then others (l.take k) x ++ [y] else others (l.take k) x := by
  rw [List.take_add_one, hy, Option.toList_some, others_append]
  by_cases h : y = x
  · rw [if_neg (by simpa using h)]; simp [others, h]
  · rw [if_pos h]; simp [others, h]
/-- s[:0] -/
theorem St1.sliceZ {P : Program} {n : Nat} {ops : Array Oper} {o : Oper} {σ : St} {d : Nat} {t e : TypeId} {x y : Operand} {k sz by' m : Nat} {p : Int} {rows : List (List C)} (h4 : (o.op, o.guard, o.dst, Nat.blt d n) = (Op.slice t x none (some y) none, none, some d, true)) (ht : tyS P t = some (e, sz, by')) (hx : ev σ x = some (.o (.c (.own k sz m)))) (hb : lk σ (.b k) = .b e sz rows) (hy : ev σ y = some (.o (nat1 p))) (hp : p = 0) :
    St1 P n ops o σ ((rd x ++ rd y) ++ [.b k]) [.t d] ((.t d, .v (.o (vD (.list sz [])))) :: σ) := by
  simp only [Prod.mk.injEq] at h4
  obtain ⟨ho, hg, hd, hn⟩ := h4
  exact St1.value hg hd hn fun E bx τ a w hR hs => by
    subst hp
    have hk : τ (.b k) = .b e sz rows := (rd_r hR _ (by simp)).trans hb
    obtain ⟨cap, e1, c1, c2, c3⟩ := ev_own hx (rd_l (rd_l hR)) hs (Al_of hk)
    obtain ⟨hu, _⟩ := tyS_out ht
    refine ⟨⟨.slice (some ⟨(bx k).1, 0, none⟩) 0 cap, ?_, ?_⟩, fun k hk => by cases hk⟩
    · have hbd : 0 ≤ (0 : Int) ∧ (0 : Int) ≤ (cap : Int) := by omega
      simp [execOp, ho, e1, ev_val hy (rd_r (rd_l hR)) hs, sliceAt_list ht, Instr.slice, run_underlying hu, Instr.sliceBounds, Instr.sliceBound, asIntOf, hbd, run_sizeE ht]
      try simp [Addr.add]
    · exact Dr.list sz [] _ _ _ 0 0 (fun _ _ => undef) rfl (Nat.zero_le _) (by omega) (fun h => by cases h) (fun h => by simp at h) (fun i r h => by simp at h) (fun i r j x h => by simp at h) (fun i r j x h => by simp at h)
theorem lnHas_fn (l : List Int) (x : Int) (hl : l.length ≤ 1099511627776) : Fn Try.prog 19 [] [vD (dIs l), nat1 x] (.o (bo1 (decide (x ∈ l)))) [] := by
  refine Fn.code0 Try.func19 rfl rfl rfl rfl ?_
  refine .seq <| .region <| .cons (.asg rfl rfl) <| .nil <| ks_n <| .seq <| .seq <| .region <| .cons (.asg rfl rfl) <| .nil <| ks_n <| .block ?_
  refine .loopK (fun m σ => (∃ i : Nat, m = l.length - i ∧ (i ≤ l.length) ∧ (x ∉ l.take i) ∧ σ = [(.t 0, .v (.o (vD (dIs l)))), (.t 1, .v (.o (nat1 x))), (.t 5, .v (.o (nat1 (i : Nat))))])) [] ⟨0, rfl, by omega, by simp, rfl⟩ ⟨ks rfl .dt, ks rfl .dt, ks rfl .dt, trivial⟩ ?_
  rintro m σ ⟨i, hm0, hi, hF, rfl⟩
  refine .seq <| .seq <| .region <| .cons (.mv rfl rfl) <| .cons (.mv rfl rfl) <| .cons (.ln 3 1 8 rfl rfl rfl) <| .cons (.ls rfl rfl rfl) <| .nil <| ks_n ?_
  refine .cD rfl (fun h9 => ?_) (fun h9 => ?_)
  · skip
    obtain ⟨y, hx1⟩ : ∃ x_, l[i]? = some x_ := ⟨_, List.getElem?_eq_getElem (by omega)⟩
    refine .skip <| ks_n <| .seq <| .block <| .seq <| .region <| .cons (.mv rfl rfl) <| .cons (.mv rfl rfl) <| .cons (.xL 3 1 8 rfl rfl rfl rfl rfl (map_at hx1)) ?_
    refine .cons (.l1 1 rfl rfl) <| .cons (.mv rfl rfl) <| .cons (.eq rfl rfl rfl) <| .nil <| ks_n ?_
    refine .cD rfl (fun h17 => ?_) (fun h17 => ?_)
    · skip
      refine .seq <| .region <| .cons (.asg rfl rfl) <| .nil <| ks_n <| .ret <| kb_r <| ks_r <| kl_r <| kb_r <| ks_r ?_
      refine kf_ret rfl ?_ nobox
      exact leafB (decide_eq_true (by rw [← h17]; exact List.mem_of_getElem? hx1)).symm
    · skip
      refine .skip <| kb_n <| ks_n <| .region <| .cons (.mv rfl rfl) <| .cons (.pl rfl rfl rfl) <| .cons (.asg rfl rfl) <| .nil ?_
      refine kl_k [] ⟨i + 1, rfl, by omega, by rw [List.take_add_one, hx1]; simp only [Option.toList_some, List.mem_append, List.mem_singleton]; rintro (h | h) <;> first | exact hF h | exact h17 h.symm, rfl⟩ ⟨ks rfl .dt, ks rfl .dt, ks rfl .dt, trivial⟩
  · skip
    refine .exit <| ks_e <| kl_e <| kb_hit <| ks_n <| .seq <| .region <| .cons (.asg rfl rfl) <| .nil <| ks_n <| .ret ?_
    refine kf_ret rfl ?_ nobox
    exact leafB (decide_eq_false (by rw [List.take_of_length_le (by omega)] at hF; exact hF)).symm

theorem simulate_core {bs : List Int} (hl : bs.length ≤ 1048576) {xs : List Int} {n : Int} (ht : TrOk xs) (hn : -1 ≤ n ∧ n ≤ 41) (hD : Fn Try.prog 16 [] [vD (dYs bs)] (.tup [vD (dIs xs), nat1 n]) [])  : Fn Try.prog 6 [] [vD (dYs bs)] (.o (bo1 true)) [] := by
 have hle := ht.1
 have hsm := tr_sm ht
 refine Fn.code0 Try.func6 rfl rfl rfl rfl ?_
 refine .seq <| .region <| .cons (.asg rfl rfl) <| .nil <| ks_n <| .seq <| .seq <| .region <| .cons (.mv rfl rfl) <| .cons (.ln 5 1 1 rfl rfl rfl) <| .cons (.gt rfl rfl rfl) <| .nil <| ks_n ?_
 refine .cD rfl (fun h13 => ?_) (fun h13 => ?_)
 ·skip
  omega
 ·skip
  refine .skip <| ks_n <| .seq <| .region <| .cons (.mv rfl rfl) <| .cons (.cP [.tmp 15] rfl rfl rfl rfl (hD) rfl) ?_
  refine .cons (.mv rfl rfl) <| .cons (.ex rfl rfl rfl) <| .cons (.ex rfl rfl rfl) <| .cons (.asg rfl rfl) <| .cons (.asg rfl rfl) <| .nil <| ks_n <| .seq <| .region <| .cons (.mv rfl rfl) <| .cons (.mv rfl rfl) <| .cons (.cP [.tmp 19, .tmp 20] rfl rfl rfl rfl (implLM_fn xs n) rfl) ?_
  refine .cons (.asg rfl rfl) <| .nil <| ks_n <| .seq <| .seq <| .region <| .cons (.mv rfl rfl) <| .cons (.mv rfl rfl) <| .cons (.mv rfl rfl) <| .cons (.cP [.tmp 23, .tmp 24] rfl rfl rfl rfl (specLM_fn xs n) rfl) ?_
  refine .cons (.ne rfl rfl rfl) <| .cons (.mv rfl rfl) ?_
  refine .cND 27 rfl (fun g27 => ?_) (fun g27 => ?_)
  ·skip
   exact absurd rfl g27
  ·skip
   refine .cons (.gT rfl rfl rfl (.mv rfl rfl)) <| .cons (.gT rfl rfl rfl (.ls rfl rfl rfl)) <| .cons (.pF rfl rfl rfl) <| .nil <| ks_n ?_
   refine ACode.condT rfl (fun h30 => ?_) (fun h30 => ?_)
   ·try simp only [zs1, zs2, zs3, zs4, zs5, zs6, zs7] at h30
    refine .seq <| .region <| .cons (.mv rfl rfl) <| .cons (.mv rfl rfl) <| .cons (.mv rfl rfl) <| .cons (.cP [.tmp 32, .tmp 33] rfl rfl rfl rfl (specLM_fn xs n) rfl) ?_
    refine .cons (.eq rfl rfl rfl) <| .cons (.asg rfl rfl) <| .nil <| ks_n <| .ret <| ks_r ?_
    refine kf_ret rfl ?_ nobox
    first | rfl | exact leafB (decide_eq_true rfl).symm | exact leafB (by simp)
   ·try simp only [zs1, zs2, zs3, zs4, zs5, zs6, zs7] at h30
    have hf := fits_of (xs := xs) (n := n) (by omega)
    have h0 := of_decide_eq_true hf
    obtain ⟨N, rfl⟩ : ∃ N : Nat, n = (N : Int) := ⟨n.toNat, by omega⟩
    have hlf := lru_fits hf
    have hnl := heldV_len xs N
    refine .skip <| ks_n <| .seq <| .region <| .cons (St1.lit0D (e := 3) (sz := 1) (b := true) rfl rfl rfl rfl (by kernel_rfl)) ?_
    refine .cons (.asg rfl rfl) <| .nil <| ks_n <| .seq <| .region <| .cons (.asg rfl rfl) <| .nil <| ks_n <| .seq <| .seq <| .region <| .cons (.asg rfl rfl) <| .nil <| ks_n <| .block ?_
    refine .loopK (fun m σ => (∃ i : Nat, m = xs.length - i ∧ (i ≤ xs.length) ∧ σ = [(.t 3, .v (.o (vD (dIs xs)))), (.t 4, .v (.o (nat1 (N : Nat)))), (.t 5, .v (.o (nat1 (lruOf xs N)))), (.t 6, .v (.o (vD (dIs (heldV xs N i))))), (.t 7, .v (.o (nat1 (misses (N : Int) (sds xs i) : Nat)))), (.t 8, .v (.o (nat1 (i : Nat))))])) [] ⟨0, rfl, by omega, rfl⟩ ⟨ks rfl .dt, ks rfl .dt, ks rfl .dt, ks rfl (.dt (by first | rfl | (rw [held0]; rfl) | (rw [hnx2]; rfl))), ks rfl (.dt (vI (by first | rfl | omega))), ks rfl .dt, trivial⟩ ?_
    rintro m σ ⟨i, hm0, hi, rfl⟩
    refine .seq <| .seq <| .region <| .cons (.mv rfl rfl) <| .cons (.mv rfl rfl) <| .cons (.ln 3 1 8 rfl rfl rfl) <| .cons (.ls rfl rfl rfl) <| .nil <| ks_n ?_
    refine .cD rfl (fun h40 => ?_) (fun h40 => ?_)
    ·skip
     obtain ⟨x, hx1⟩ : ∃ x_, xs[i]? = some x_ := ⟨_, List.getElem?_eq_getElem (by omega)⟩
     have hHl := hnl i
     have hml := misses_le (N : Int) (sds xs i)
     rw [sds_length] at hml
     refine .skip <| ks_n <| .seq <| .block <| .seq <| .seq <| .region <| .cons (.mv rfl rfl) <| .cons (.mv rfl rfl) <| .cons (.mv rfl rfl) <| .cons (.xL 3 1 8 rfl rfl rfl rfl rfl (map_at hx1)) ?_
     refine .cons (.l1 1 rfl rfl) <| .cons (.cP [.tmp 43, .tmp 47] rfl rfl rfl rfl (lnHas_fn (heldV xs N i) x (by have := heldV_len xs N i; omega)) rfl) ?_
     refine .cons (.nt rfl rfl) <| .nil <| ks_n ?_
     refine ACode.condT rfl (fun h49 => ?_) (fun h49 => ?_)
     ·try simp only [zs1, zs2, zs3, zs4, zs5, zs6, zs7] at h49
      refine .region <| .cons (.mv rfl rfl) <| .cons (.pl rfl rfl rfl) <| .cons (.asg rfl rfl) <| .nil <| ks_n <| .seq <| .region <| .cons (.mv rfl rfl) <| .cons (.mv rfl rfl) <| .cons (.xL 3 1 8 rfl rfl rfl rfl rfl (map_at hx1)) ?_
      refine .cons (.l1 1 rfl rfl) <| .cons (St1.litB (k' := 156) (e := 3) (sz := 0) (m := 0) (xs := [.tmp 55]) rfl rfl rfl rfl rfl (by kernel_rfl) rfl rfl rfl rfl rfl) ?_
      refine .cons (.asg rfl rfl) <| .nil <| ks_n <| .seq <| .seq <| .region <| .cons (.asg rfl rfl) <| .nil <| ks_n <| .block ?_
      refine .loopK (fun m σ => (∃ k : Nat, m = (heldV xs N i).length - k ∧ (k ≤ (heldV xs N i).length) ∧ ((others ((heldV xs N i).take k) x).length + 1 ≤ max N 1) ∧ σ = [(.t 3, .v (.o (vD (dIs xs)))), (.t 4, .v (.o (nat1 (N : Nat)))), (.t 5, .v (.o (nat1 (lruOf xs N)))), (.t 6, .v (.o (vD (dIs (heldV xs N i))))), (.t 7, .v (.o (nat1 ((misses (N : Int) (sds xs i) : Nat) + 1)))), (.t 8, .v (.o (nat1 (i : Nat)))), (.t 9, .v (.o (.c (.own 120 1 ((x :: others ((heldV xs N i).take k) x).length))))), (.t 10, .v (.o (nat1 (k : Nat)))), (.b 120, .b 3 1 (dR ((x :: others ((heldV xs N i).take k) x).map rI))), (.u 120, .u)])) [(120, 156)] ⟨0, rfl, by omega, by simp [others]; omega, rfl⟩ ⟨ks rfl .dt, ks rfl .dt, ks rfl .dt, ks rfl .dt, ks rfl .dt, ks rfl .dt, ks rfl (.c (.ow (by first | rfl | (simp; done) | (rw [hO]; done) | (rw [hO]; simp; done)))), ks rfl .dt, kb 156 rfl (.dt rfl (by first | rfl | (simp [dR]; done) | (simp [dR, rI, dI]; done) | (rw [hO]; done) | (rw [hO]; simp [dR]; done) | (rw [hO]; simp [dR, rI, dI]; done))), trivial⟩ ?_
      rintro m σ ⟨k, hm0, hk, hol, rfl⟩
      refine .seq <| .seq <| .region <| .cons (.mv rfl rfl) <| .cons (.mv rfl rfl) <| .cons (.ln 3 1 8 rfl rfl rfl) <| .cons (.ls rfl rfl rfl) <| .cons (.mv rfl rfl) ?_
      refine .cD 61 rfl (fun g61 => ?_) (fun g61 => ?_)
      ·skip
       obtain ⟨y, hy1⟩ : ∃ x_, (heldV xs N i)[k]? = some x_ := ⟨_, List.getElem?_eq_getElem (by omega)⟩
       have hO := others_snoc (x := x) hy1
       
       refine .cons (.gT rfl rfl rfl (.mv rfl rfl)) <| .cons (.gT rfl rfl rfl (.lB 3 1 8 rfl rfl rfl rfl)) <| .cons (.gT rfl rfl rfl (.mv rfl rfl)) <| .cons (.gT rfl rfl rfl (.ls rfl rfl rfl)) <| .cons (.pT rfl rfl rfl) <| .nil <| ks_n ?_
       refine ACode.condT rfl (fun h66 => ?_) (fun h66 => ?_)
       ·try simp only [zs1, zs2, zs3, zs4, zs5, zs6, zs7] at h66
        refine .skip <| ks_n <| .seq <| .block <| .seq ?_
        refine ACode.drawK (by kernel_rfl) (by kernel_rfl) ?_
        refine .cons (.mv rfl rfl) <| .cons (.mv rfl rfl) <| .cons (.xL 3 1 8 rfl rfl rfl rfl rfl (map_at hy1)) ?_
        refine .cons (.l1 1 rfl rfl) <| .cons (.mv rfl rfl) <| .cons (.mv rfl rfl) <| .cons (.xL 3 1 8 rfl rfl rfl rfl rfl (map_at hx1)) ?_
        refine .cons (.l1 1 rfl rfl) <| .cons (.ne rfl rfl rfl) ?_
        refine .nil ⟨by kernel_rfl, ?_⟩
        refine ks_n ?_
        refine .cND rfl (fun h77 => ?_) (fun h77 => ?_)
        ·skip
         rw [if_pos h77] at hO
         refine .region <| .cons (.mv rfl rfl) <| .cons (.mv rfl rfl) <| .cons (.mv rfl rfl) <| .cons (.xL 3 1 8 rfl rfl rfl rfl rfl (map_at hy1)) ?_
         refine .cons (.l1 1 rfl rfl) <| .cons (.li 3 0 0 [.tmp 82] rfl rfl rfl rfl rfl rfl) <| .cons (St1.appB (k' := 184) (e := 3) (sz := 0) (by' := 8) rfl rfl rfl rfl rfl (by kernel_rfl) rfl rfl rfl rfl (by first | (simp [dR]; done) | (simp [dR]; omega)) (by first | (simp [dR]; done) | (simp [dR]; omega)) rfl rfl rfl) ?_
         refine .cons (.asg rfl rfl) <| .nil <| kb_n <| ks_n <| .region <| .cons (.mv rfl rfl) <| .cons (.pl rfl rfl rfl) <| .cons (.asg rfl rfl) <| .nil ?_
         refine kl_k [(120, 184)] ⟨k + 1, rfl, by omega, by rw [hO, List.length_append, List.length_singleton]; simp only [List.length_cons] at h66; omega, rfl⟩ ⟨ks rfl .dt, ks rfl .dt, ks rfl .dt, ks rfl .dt, ks rfl .dt, ks rfl .dt, ks rfl (.c (.ow (by first | rfl | (simp; done) | (rw [hO]; done) | (rw [hO]; simp; done)))), ks rfl .dt, kb 184 rfl (.dt rfl (by first | rfl | (simp [dR]; done) | (simp [dR, rI, dI]; done) | (rw [hO]; done) | (rw [hO]; simp [dR]; done) | (rw [hO]; simp [dR, rI, dI]; done))), trivial⟩
        ·skip
         rw [if_neg (fun h => h h77)] at hO
         refine .skip <| kb_n <| ks_n <| .region <| .cons (.mv rfl rfl) <| .cons (.pl rfl rfl rfl) <| .cons (.asg rfl rfl) <| .nil ?_
         refine kl_k [(120, 120)] ⟨k + 1, rfl, by omega, by rw [hO]; omega, rfl⟩ ⟨ks rfl .dt, ks rfl .dt, ks rfl .dt, ks rfl .dt, ks rfl .dt, ks rfl .dt, ks rfl (.c (.ow (by first | rfl | (simp; done) | (rw [hO]; done) | (rw [hO]; simp; done)))), ks rfl .dt, kb 120 rfl (.dt rfl (by first | rfl | (simp [dR]; done) | (simp [dR, rI, dI]; done) | (rw [hO]; done) | (rw [hO]; simp [dR]; done) | (rw [hO]; simp [dR, rI, dI]; done))), trivial⟩
       ·try simp only [zs1, zs2, zs3, zs4, zs5, zs6, zs7] at h66
        have hnx := held_next hx1 hk (.inr (by simp at h66; omega))
        have hms := miss_next N hx1
        simp [h49] at hms
        refine .exit <| ks_e <| kl_e <| kb_hit <| ks_n <| .seq <| .region <| .cons (.mv rfl rfl) <| .cons (.asg rfl rfl) <| .nil <| ks_n <| .seq <| .region <| .cons (.mv rfl rfl) <| .cons (.lB 3 1 8 rfl rfl rfl rfl) <| .cons (.mv rfl rfl) <| .cons (.gt rfl rfl rfl) <| .nil <| ks_n ?_
        refine .cD rfl (fun h89 => ?_) (fun h89 => ?_)
        ·skip
         have hN0 : N = 0 := by simp only [List.length_cons] at h89; omega
         have hnx2 : heldV xs N (i + 1) = [] := by rw [hN0]; rfl
         refine .region <| .cons (.mv rfl rfl) <| .cons (.mv rfl rfl) <| .cons (St1.sliceZ (e := 3) (sz := 1) (by' := 8) rfl rfl rfl rfl rfl (by simp only [List.length_cons] at h89; omega)) ?_
         refine .cons (.asg rfl rfl) <| .nil <| kb_n <| ks_n <| .region <| .cons (.mv rfl rfl) <| .cons (.pl rfl rfl rfl) <| .cons (.asg rfl rfl) <| .nil ?_
         refine kl_k [] ⟨i + 1, rfl, by omega, rfl⟩ ⟨ks rfl .dt, ks rfl .dt, ks rfl .dt, ks rfl (.dt (by first | rfl | (rw [held0]; rfl) | (rw [hnx2]; rfl))), ks rfl (.dt (vI (by first | rfl | omega))), ks rfl .dt, trivial⟩
        ·skip
         have hnx2 : heldV xs N (i + 1) = x :: others ((heldV xs N i).take k) x := by rw [hnx]; exact List.take_of_length_le (by simp only [List.length_cons] at h89 ⊢; omega)
         refine .skip <| kb_n <| ks_n <| .region <| .cons (.mv rfl rfl) <| .cons (.pl rfl rfl rfl) <| .cons (.asg rfl rfl) <| .nil ?_
         refine kl_k [] ⟨i + 1, rfl, by omega, rfl⟩ ⟨ks rfl .dt, ks rfl .dt, ks rfl .dt, ks rfl (.c (.fz rfl (by first | rfl | (rw [hnx2]; done) | (rw [hnx2]; rfl)) (by first | rfl | (rw [hnx2]; done) | (rw [hnx2]; simp; done)) (by first | omega | (simp; omega)))), ks rfl (.dt (vI (by first | rfl | omega))), ks rfl .dt, trivial⟩
      ·skip
       have hnx := held_next hx1 hk (.inl (by omega))
       have hms := miss_next N hx1
       simp [h49] at hms
       refine .cons (.gF rfl rfl rfl) <| .cons (.gF rfl rfl rfl) <| .cons (.gF rfl rfl rfl) <| .cons (.gF rfl rfl rfl) <| .cons (.pF rfl rfl rfl) <| .nil <| ks_n ?_
       refine ACode.condT rfl (fun h => by first | (cases h; done) | (simp [*] at h; done) | (exfalso; simp_all; done)) (fun _ => ?_)
       refine .exit <| ks_e <| kl_e <| kb_hit <| ks_n <| .seq <| .region <| .cons (.mv rfl rfl) <| .cons (.asg rfl rfl) <| .nil <| ks_n <| .seq <| .region <| .cons (.mv rfl rfl) <| .cons (.lB 3 1 8 rfl rfl rfl rfl) <| .cons (.mv rfl rfl) <| .cons (.gt rfl rfl rfl) <| .nil <| ks_n ?_
       refine .cD rfl (fun h89 => ?_) (fun h89 => ?_)
       ·skip
        have hN0 : N = 0 := by simp only [List.length_cons] at h89; omega
        have hnx2 : heldV xs N (i + 1) = [] := by rw [hN0]; rfl
        refine .region <| .cons (.mv rfl rfl) <| .cons (.mv rfl rfl) <| .cons (St1.sliceZ (e := 3) (sz := 1) (by' := 8) rfl rfl rfl rfl rfl (by simp only [List.length_cons] at h89; omega)) ?_
        refine .cons (.asg rfl rfl) <| .nil <| kb_n <| ks_n <| .region <| .cons (.mv rfl rfl) <| .cons (.pl rfl rfl rfl) <| .cons (.asg rfl rfl) <| .nil ?_
        refine kl_k [] ⟨i + 1, rfl, by omega, rfl⟩ ⟨ks rfl .dt, ks rfl .dt, ks rfl .dt, ks rfl (.dt (by first | rfl | (rw [held0]; rfl) | (rw [hnx2]; rfl))), ks rfl (.dt (vI (by first | rfl | omega))), ks rfl .dt, trivial⟩
       ·skip
        have hnx2 : heldV xs N (i + 1) = x :: others ((heldV xs N i).take k) x := by rw [hnx]; exact List.take_of_length_le (by simp only [List.length_cons] at h89 ⊢; omega)
        refine .skip <| kb_n <| ks_n <| .region <| .cons (.mv rfl rfl) <| .cons (.pl rfl rfl rfl) <| .cons (.asg rfl rfl) <| .nil ?_
        refine kl_k [] ⟨i + 1, rfl, by omega, rfl⟩ ⟨ks rfl .dt, ks rfl .dt, ks rfl .dt, ks rfl (.c (.fz rfl (by first | rfl | (rw [hnx2]; done) | (rw [hnx2]; rfl)) (by first | rfl | (rw [hnx2]; done) | (rw [hnx2]; simp; done)) (by first | omega | (simp; omega)))), ks rfl (.dt (vI (by first | rfl | omega))), ks rfl .dt, trivial⟩
     ·try simp only [zs1, zs2, zs3, zs4, zs5, zs6, zs7] at h49
      refine .skip <| ks_n <| .seq <| .region <| .cons (.mv rfl rfl) <| .cons (.mv rfl rfl) <| .cons (.xL 3 1 8 rfl rfl rfl rfl rfl (map_at hx1)) ?_
      refine .cons (.l1 1 rfl rfl) <| .cons (St1.litB (k' := 156) (e := 3) (sz := 0) (m := 0) (xs := [.tmp 55]) rfl rfl rfl rfl rfl (by kernel_rfl) rfl rfl rfl rfl rfl) ?_
      refine .cons (.asg rfl rfl) <| .nil <| ks_n <| .seq <| .seq <| .region <| .cons (.asg rfl rfl) <| .nil <| ks_n <| .block ?_
      refine .loopK (fun m σ => (∃ k : Nat, m = (heldV xs N i).length - k ∧ (k ≤ (heldV xs N i).length) ∧ ((others ((heldV xs N i).take k) x).length + 1 ≤ max N 1) ∧ σ = [(.t 3, .v (.o (vD (dIs xs)))), (.t 4, .v (.o (nat1 (N : Nat)))), (.t 5, .v (.o (nat1 (lruOf xs N)))), (.t 6, .v (.o (vD (dIs (heldV xs N i))))), (.t 7, .v (.o (nat1 (misses (N : Int) (sds xs i) : Nat)))), (.t 8, .v (.o (nat1 (i : Nat)))), (.t 9, .v (.o (.c (.own 120 1 ((x :: others ((heldV xs N i).take k) x).length))))), (.t 10, .v (.o (nat1 (k : Nat)))), (.b 120, .b 3 1 (dR ((x :: others ((heldV xs N i).take k) x).map rI))), (.u 120, .u)])) [(120, 156)] ⟨0, rfl, by omega, by simp [others]; omega, rfl⟩ ⟨ks rfl .dt, ks rfl .dt, ks rfl .dt, ks rfl .dt, ks rfl .dt, ks rfl .dt, ks rfl (.c (.ow (by first | rfl | (simp; done) | (rw [hO]; done) | (rw [hO]; simp; done)))), ks rfl .dt, kb 156 rfl (.dt rfl (by first | rfl | (simp [dR]; done) | (simp [dR, rI, dI]; done) | (rw [hO]; done) | (rw [hO]; simp [dR]; done) | (rw [hO]; simp [dR, rI, dI]; done))), trivial⟩ ?_
      rintro m σ ⟨k, hm0, hk, hol, rfl⟩
      refine .seq <| .seq <| .region <| .cons (.mv rfl rfl) <| .cons (.mv rfl rfl) <| .cons (.ln 3 1 8 rfl rfl rfl) <| .cons (.ls rfl rfl rfl) <| .cons (.mv rfl rfl) ?_
      refine .cD 61 rfl (fun g61 => ?_) (fun g61 => ?_)
      ·skip
       obtain ⟨y, hy1⟩ : ∃ x_, (heldV xs N i)[k]? = some x_ := ⟨_, List.getElem?_eq_getElem (by omega)⟩
       have hO := others_snoc (x := x) hy1
       
       refine .cons (.gT rfl rfl rfl (.mv rfl rfl)) <| .cons (.gT rfl rfl rfl (.lB 3 1 8 rfl rfl rfl rfl)) <| .cons (.gT rfl rfl rfl (.mv rfl rfl)) <| .cons (.gT rfl rfl rfl (.ls rfl rfl rfl)) <| .cons (.pT rfl rfl rfl) <| .nil <| ks_n ?_
       refine ACode.condT rfl (fun h66 => ?_) (fun h66 => ?_)
       ·try simp only [zs1, zs2, zs3, zs4, zs5, zs6, zs7] at h66
        refine .skip <| ks_n <| .seq <| .block <| .seq ?_
        refine ACode.drawK (by kernel_rfl) (by kernel_rfl) ?_
        refine .cons (.mv rfl rfl) <| .cons (.mv rfl rfl) <| .cons (.xL 3 1 8 rfl rfl rfl rfl rfl (map_at hy1)) ?_
        refine .cons (.l1 1 rfl rfl) <| .cons (.mv rfl rfl) <| .cons (.mv rfl rfl) <| .cons (.xL 3 1 8 rfl rfl rfl rfl rfl (map_at hx1)) ?_
        refine .cons (.l1 1 rfl rfl) <| .cons (.ne rfl rfl rfl) ?_
        refine .nil ⟨by kernel_rfl, ?_⟩
        refine ks_n ?_
        refine .cND rfl (fun h77 => ?_) (fun h77 => ?_)
        ·skip
         rw [if_pos h77] at hO
         refine .region <| .cons (.mv rfl rfl) <| .cons (.mv rfl rfl) <| .cons (.mv rfl rfl) <| .cons (.xL 3 1 8 rfl rfl rfl rfl rfl (map_at hy1)) ?_
         refine .cons (.l1 1 rfl rfl) <| .cons (.li 3 0 0 [.tmp 82] rfl rfl rfl rfl rfl rfl) <| .cons (St1.appB (k' := 184) (e := 3) (sz := 0) (by' := 8) rfl rfl rfl rfl rfl (by kernel_rfl) rfl rfl rfl rfl (by first | (simp [dR]; done) | (simp [dR]; omega)) (by first | (simp [dR]; done) | (simp [dR]; omega)) rfl rfl rfl) ?_
         refine .cons (.asg rfl rfl) <| .nil <| kb_n <| ks_n <| .region <| .cons (.mv rfl rfl) <| .cons (.pl rfl rfl rfl) <| .cons (.asg rfl rfl) <| .nil ?_
         refine kl_k [(120, 184)] ⟨k + 1, rfl, by omega, by rw [hO, List.length_append, List.length_singleton]; simp only [List.length_cons] at h66; omega, rfl⟩ ⟨ks rfl .dt, ks rfl .dt, ks rfl .dt, ks rfl .dt, ks rfl .dt, ks rfl .dt, ks rfl (.c (.ow (by first | rfl | (simp; done) | (rw [hO]; done) | (rw [hO]; simp; done)))), ks rfl .dt, kb 184 rfl (.dt rfl (by first | rfl | (simp [dR]; done) | (simp [dR, rI, dI]; done) | (rw [hO]; done) | (rw [hO]; simp [dR]; done) | (rw [hO]; simp [dR, rI, dI]; done))), trivial⟩
        ·skip
         rw [if_neg (fun h => h h77)] at hO
         refine .skip <| kb_n <| ks_n <| .region <| .cons (.mv rfl rfl) <| .cons (.pl rfl rfl rfl) <| .cons (.asg rfl rfl) <| .nil ?_
         refine kl_k [(120, 120)] ⟨k + 1, rfl, by omega, by rw [hO]; omega, rfl⟩ ⟨ks rfl .dt, ks rfl .dt, ks rfl .dt, ks rfl .dt, ks rfl .dt, ks rfl .dt, ks rfl (.c (.ow (by first | rfl | (simp; done) | (rw [hO]; done) | (rw [hO]; simp; done)))), ks rfl .dt, kb 120 rfl (.dt rfl (by first | rfl | (simp [dR]; done) | (simp [dR, rI, dI]; done) | (rw [hO]; done) | (rw [hO]; simp [dR]; done) | (rw [hO]; simp [dR, rI, dI]; done))), trivial⟩
       ·try simp only [zs1, zs2, zs3, zs4, zs5, zs6, zs7] at h66
        have hnx := held_next hx1 hk (.inr (by simp at h66; omega))
        have hms := miss_next N hx1
        simp [h49] at hms
        refine .exit <| ks_e <| kl_e <| kb_hit <| ks_n <| .seq <| .region <| .cons (.mv rfl rfl) <| .cons (.asg rfl rfl) <| .nil <| ks_n <| .seq <| .region <| .cons (.mv rfl rfl) <| .cons (.lB 3 1 8 rfl rfl rfl rfl) <| .cons (.mv rfl rfl) <| .cons (.gt rfl rfl rfl) <| .nil <| ks_n ?_
        refine .cD rfl (fun h89 => ?_) (fun h89 => ?_)
        ·skip
         have hN0 : N = 0 := by simp only [List.length_cons] at h89; omega
         have hnx2 : heldV xs N (i + 1) = [] := by rw [hN0]; rfl
         refine .region <| .cons (.mv rfl rfl) <| .cons (.mv rfl rfl) <| .cons (St1.sliceZ (e := 3) (sz := 1) (by' := 8) rfl rfl rfl rfl rfl (by simp only [List.length_cons] at h89; omega)) ?_
         refine .cons (.asg rfl rfl) <| .nil <| kb_n <| ks_n <| .region <| .cons (.mv rfl rfl) <| .cons (.pl rfl rfl rfl) <| .cons (.asg rfl rfl) <| .nil ?_
         refine kl_k [] ⟨i + 1, rfl, by omega, rfl⟩ ⟨ks rfl .dt, ks rfl .dt, ks rfl .dt, ks rfl (.dt (by first | rfl | (rw [held0]; rfl) | (rw [hnx2]; rfl))), ks rfl (.dt (vI (by first | rfl | omega))), ks rfl .dt, trivial⟩
        ·skip
         have hnx2 : heldV xs N (i + 1) = x :: others ((heldV xs N i).take k) x := by rw [hnx]; exact List.take_of_length_le (by simp only [List.length_cons] at h89 ⊢; omega)
         refine .skip <| kb_n <| ks_n <| .region <| .cons (.mv rfl rfl) <| .cons (.pl rfl rfl rfl) <| .cons (.asg rfl rfl) <| .nil ?_
         refine kl_k [] ⟨i + 1, rfl, by omega, rfl⟩ ⟨ks rfl .dt, ks rfl .dt, ks rfl .dt, ks rfl (.c (.fz rfl (by first | rfl | (rw [hnx2]; done) | (rw [hnx2]; rfl)) (by first | rfl | (rw [hnx2]; done) | (rw [hnx2]; simp; done)) (by first | omega | (simp; omega)))), ks rfl (.dt (vI (by first | rfl | omega))), ks rfl .dt, trivial⟩
      ·skip
       have hnx := held_next hx1 hk (.inl (by omega))
       have hms := miss_next N hx1
       simp [h49] at hms
       refine .cons (.gF rfl rfl rfl) <| .cons (.gF rfl rfl rfl) <| .cons (.gF rfl rfl rfl) <| .cons (.gF rfl rfl rfl) <| .cons (.pF rfl rfl rfl) <| .nil <| ks_n ?_
       refine ACode.condT rfl (fun h => by first | (cases h; done) | (simp [*] at h; done) | (exfalso; simp_all; done)) (fun _ => ?_)
       refine .exit <| ks_e <| kl_e <| kb_hit <| ks_n <| .seq <| .region <| .cons (.mv rfl rfl) <| .cons (.asg rfl rfl) <| .nil <| ks_n <| .seq <| .region <| .cons (.mv rfl rfl) <| .cons (.lB 3 1 8 rfl rfl rfl rfl) <| .cons (.mv rfl rfl) <| .cons (.gt rfl rfl rfl) <| .nil <| ks_n ?_
       refine .cD rfl (fun h89 => ?_) (fun h89 => ?_)
       ·skip
        have hN0 : N = 0 := by simp only [List.length_cons] at h89; omega
        have hnx2 : heldV xs N (i + 1) = [] := by rw [hN0]; rfl
        refine .region <| .cons (.mv rfl rfl) <| .cons (.mv rfl rfl) <| .cons (St1.sliceZ (e := 3) (sz := 1) (by' := 8) rfl rfl rfl rfl rfl (by simp only [List.length_cons] at h89; omega)) ?_
        refine .cons (.asg rfl rfl) <| .nil <| kb_n <| ks_n <| .region <| .cons (.mv rfl rfl) <| .cons (.pl rfl rfl rfl) <| .cons (.asg rfl rfl) <| .nil ?_
        refine kl_k [] ⟨i + 1, rfl, by omega, rfl⟩ ⟨ks rfl .dt, ks rfl .dt, ks rfl .dt, ks rfl (.dt (by first | rfl | (rw [held0]; rfl) | (rw [hnx2]; rfl))), ks rfl (.dt (vI (by first | rfl | omega))), ks rfl .dt, trivial⟩
       ·skip
        have hnx2 : heldV xs N (i + 1) = x :: others ((heldV xs N i).take k) x := by rw [hnx]; exact List.take_of_length_le (by simp only [List.length_cons] at h89 ⊢; omega)
        refine .skip <| kb_n <| ks_n <| .region <| .cons (.mv rfl rfl) <| .cons (.pl rfl rfl rfl) <| .cons (.asg rfl rfl) <| .nil ?_
        refine kl_k [] ⟨i + 1, rfl, by omega, rfl⟩ ⟨ks rfl .dt, ks rfl .dt, ks rfl .dt, ks rfl (.c (.fz rfl (by first | rfl | (rw [hnx2]; done) | (rw [hnx2]; rfl)) (by first | rfl | (rw [hnx2]; done) | (rw [hnx2]; simp; done)) (by first | omega | (simp; omega)))), ks rfl (.dt (vI (by first | rfl | omega))), ks rfl .dt, trivial⟩
    ·skip
     obtain rfl : i = xs.length := by omega
     refine .exit <| ks_e <| kl_e <| kb_hit <| ks_n <| .seq <| .region <| .cons (.mv rfl rfl) <| .cons (.mv rfl rfl) <| .cons (.eq rfl rfl rfl) <| .cons (.asg rfl rfl) <| .nil <| ks_n <| .ret ?_
     refine kf_ret rfl ?_ nobox
     exact leafB (decide_eq_true (by rw [hlf]))

theorem simulate_big (a : Option Addr) (n c : Nat) (hn : 1048576 < n) : Fn Try.prog 6 [] [vX a n c] (.o (bo1 true)) [] := by
  refine Fn.code0 Try.func6 rfl rfl rfl rfl ?_
  refine .seq <| .region <| .cons (.asg rfl rfl) <| .nil <| ks_n <| .seq <| .seq <| .region <| .cons (.mv rfl rfl) <| .cons (St1.lenN (e := 5) (m := 1) (by' := 1) rfl rfl rfl rfl rfl (by kernel_rfl) rfl) ?_
  refine .cons (.gt rfl rfl rfl) <| .nil <| ks_n ?_
  refine .cD rfl (fun h13 => ?_) (fun h13 => ?_)
  · skip
    refine .seq <| .region <| .cons (.asg rfl rfl) <| .nil <| ks_n <| .ret <| ks_r ?_
    refine kf_ret rfl ?_ nobox
    rfl
  · skip
    omega

theorem lawLruSimulate (a : Option Addr) (n c : Nat) (bs : List Int) (w : World) (hx : n ≤ 1048576 → Sl Sh.byte (fun b => b < w.heap.size) w (.slice a n c) bs) (hbs : ∀ x ∈ bs, 0 ≤ x ∧ x ≤ 255) : Truth Try.prog 6 #[.slice a n c] w :=
  law1 ⟨hx, hbs⟩ (fun h => simulate_big a n c h) (fun hl hb => by
    obtain ⟨xs, n, h1, h2, h3⟩ := drawLM_ok hb
    exact simulate_core hl h1 h2 h3)
end Go.Proofs.Ytlelonbakckkgaa
