/- Part 5 of 6 of the proof: laws on memory and data, then what the functions compute, in the order in which they build on each other; conditions: those that each theorem names. -/
import Derived.Test.YtlelonbakckkgaaP4
set_option maxRecDepth 100000
set_option maxHeartbeats 1600000

namespace Go.Proofs.Ytlelonbakckkgaa
set_option linter.unusedVariables false
set_option linter.unusedSimpArgs false
open Go.RowKit
def zC : Acc := (⟨#[]⟩, [])
def exZ : Ex := .mk 0 0 ([], 0) zC []
def knd (s : ByteArray) (i : Nat) : Int := if chr s i = 45 then 5 else if chr s i = 42 then 6 else 4
def exR (f : Int → Ex × Int) (s : ByteArray) (a : Int) : Ex × Int :=
  if (f a).2 < 0 ∨ (s.size : Int) ≤ (f a).2 then (exZ, -1) else
  if (f ((f a).2 + 1)).2 < 0 ∨ (s.size : Int) ≤ (f ((f a).2 + 1)).2 then (exZ, -1) else
  (.mk (knd s (f a).2.toNat) 0 ([], 0) zC [(f a).1, (f ((f a).2 + 1)).1], (f ((f a).2 + 1)).2 + 1)
def exI (s : ByteArray) (i : Nat) : Ex × Int := if unV s i 125 < 0 then (exZ, -1) else (.mk 2 0 (pafV (s.extract (i + 1) (unV s i 125).toNat)).1 zC [], unV s i 125 + 1)
def exN (s : ByteArray) (i : Nat) : Ex × Int := if (digV s i).2 = i then (exZ, -1) else (.mk 1 (digV s i).1 ([], 0) zC [], ((digV s i).2 : Nat))
def exP (s : ByteArray) : Nat → Int → Ex × Int
  | 0, _ => (exZ, -1)
  | L + 1, a => if a < 0 ∨ (s.size : Int) ≤ a then (exZ, -1) else if chr s a.toNat = 123 then exI s a.toNat
    else if 65 ≤ chr s a.toNat ∧ chr s a.toNat ≤ 68 then (.mk 3 0 ([], 0) (accP s a.toNat).1 [], (accP s a.toNat).2)
    else if chr s a.toNat = 40 then exR (exP s L) s (a + 1) else exN s a.toNat
theorem unF_ge (s : ByteArray) (c : Int) : ∀ (m i : Nat), unF s c m i = -1 ∨ ((i : Int) ≤ unF s c m i ∧ (unF s c m i = i → chr s i = c))
  | 0, i => .inl rfl
  | m + 1, i => by
    rw [unF]; split
    · rename_i h; exact .inr ⟨Int.le_refl _, fun _ => h⟩
    · rcases unF_ge s c m (i + 1) with h | h
      · exact .inl h
      · exact .inr ⟨by omega, fun e => by omega⟩
theorem unV_ge (s : ByteArray) (a : Nat) (c : Int) (h : chr s a ≠ c) : unV s a c = -1 ∨ (a : Int) < unV s a c := by
  rcases unF_ge s c (s.size - a) a with h1 | h1
  · exact .inl h1
  · refine .inr ?_
    have : unF s c (s.size - a) a ≠ a := fun e => h (h1.2 e)
    rw [unV]; omega
theorem exI_bd (s : ByteArray) (i : Nat) : -1 ≤ (exI s i).2 ∧ (exI s i).2 ≤ s.size := by
  have := unV_bd s i 125
  unfold exI; split
  · exact ⟨Int.le_refl _, by dsimp only; omega⟩
  · dsimp only; omega
theorem exN_bd {s : ByteArray} {i : Nat} (h : i ≤ s.size) : -1 ≤ (exN s i).2 ∧ (exN s i).2 ≤ s.size := by
  have := digV_bd h
  unfold exN; split
  · exact ⟨Int.le_refl _, by dsimp only; omega⟩
  · dsimp only; omega
theorem exR_bd {f : Int → Ex × Int} {s : ByteArray} (a : Int) : -1 ≤ (exR f s a).2 ∧ (exR f s a).2 ≤ s.size := by
  unfold exR; split
  · exact ⟨Int.le_refl _, by dsimp only; omega⟩
  · split
    · exact ⟨Int.le_refl _, by dsimp only; omega⟩
    · dsimp only; omega
theorem exP_bd (s : ByteArray) (L : Nat) (a : Int) : -1 ≤ (exP s L a).2 ∧ (exP s L a).2 ≤ s.size := by
  cases L with
  | zero => exact ⟨Int.le_refl _, by rw [exP]; dsimp only; omega⟩
  | succ L =>
    rw [exP]; split
    · exact ⟨Int.le_refl _, by dsimp only; omega⟩
    · split
      · exact exI_bd _ _
      · split
        · have := accP_bd s a.toNat; dsimp only; omega
        · split
          · exact exR_bd _
          · exact exN_bd (by omega)

theorem exR_fn {s : ByteArray} {L : Nat} {a : Int} (hs : s.size ≤ 1048576) (ha : -1 ≤ a ∧ a ≤ s.size + 1) (hf : ∀ a : Int, -1 ≤ a → a ≤ s.size + 1 → Fn Try.prog 77 [] [st1 s, nat1 a, nat1 (L : Nat)] (.tup [ad (rX (exP s L a).1), nat1 (exP s L a).2]) []) : Fn Try.prog 94 [] [st1 s, nat1 a, nat1 (L : Nat)] (.tup [ad (rX (exR (exP s L) s a).1), nat1 (exR (exP s L) s a).2]) [] := by
  obtain ⟨e1, n1, hp1⟩ : ∃ e n, exP s L a = (e, n) := ⟨_, _, rfl⟩
  have hb1 := exP_bd s L a
  rw [hp1] at hb1
  obtain ⟨e2, n2, hp2⟩ : ∃ e n, exP s L (n1 + 1) = (e, n) := ⟨_, _, rfl⟩
  have hb2 := exP_bd s L (n1 + 1)
  rw [hp2] at hb2
  dsimp only at hb1 hb2
  have hf1 := hf a ha.1 ha.2
  rw [hp1] at hf1
  have hf2 := hf (n1 + 1) (by omega) (by omega)
  rw [hp2] at hf2
  obtain ⟨k, hk⟩ : ∃ k, knd s n1.toNat = k := ⟨_, rfl⟩
  refine Fn.code0 Try.func94 rfl rfl rfl rfl ?_
  refine .seq <| .region <| .cons (.al 106 [.int .i64 0, .int .i64 0, .slice none 0 0, .int .i64 0, .string ByteArray.empty, .slice none 0 0, .slice none 0 0] rfl rfl rfl) <| .cons (.asg rfl rfl) <| .nil <| ks_n <| .seq <| .region <| .cons (.mv rfl rfl) <| .cons (.mv rfl rfl) <| .cons (.mv rfl rfl) <| .cons (.cP [.tmp 14, .tmp 15, .tmp 16] rfl rfl rfl rfl (hf1) rfl) ?_
  refine .cons (.mv rfl rfl) <| .cons (.ex rfl rfl rfl) <| .cons (.ex rfl rfl rfl) <| .cons (.al 108 [.int .i64 0, .int .i64 0, .slice none 0 0, .int .i64 0, .string ByteArray.empty, .slice none 0 0, .slice none 0 0] rfl rfl rfl) <| .cons (.sT 7 true rfl rfl rfl rfl rfl rfl rfl) <| .cons (.asg rfl rfl) <| .nil <| ks_n <| .seq <| .seq ?_
  refine ACode.cut [(.t 0, .v (.o (st1 s))), (.t 2, .v (.o (nat1 (L : Nat)))), (.t 6, .v (.o (.c (.box 820 7 0 0)))), (.t 7, .v (.o (nat1 0))), (.t 8, .v (.o (.c (.box 821 7 0 0)))), (.t 9, .v (.o (nat1 n1))), (.t 27, .v (.o (bo1 (decide (n1 < 0 ∨ (s.size : Int) ≤ n1))))), (.b 820, .b 77 7 [[.d (dI 0), .d (dI 0), .d (.val (.slice none 0 0)), .d (dI 0), .d (dS ⟨#[]⟩), .d (.val (.slice none 0 0)), .d (.val (.slice none 0 0))]]), (.u 820, .u), (.b 821, .b 77 7 [[.d (dI e1.k), .d (dI e1.n), .d (dIs e1.i.1), .d (dI e1.i.2), .d (dS e1.r.1), .d (dAs e1.r.2), .d (dEs e1.ks)]]), (.u 821, .u)] ?_ ?_
  · skip
    refine .region <| .cons (.mv rfl rfl) <| .cons (.ls rfl rfl rfl) <| .cons (.mv rfl rfl) ?_
    refine .cD 22 rfl (fun g22 => ?_) (fun g22 => ?_)
    · skip
      refine .cons (.gF rfl rfl rfl) <| .cons (.gF rfl rfl rfl) <| .cons (.gF rfl rfl rfl) <| .cons (.gF rfl rfl rfl) <| .cons (.pT rfl rfl rfl) <| .nil ?_
      exact kc_n (Wk.keep [(820, 106), (821, 108)] rfl rfl ⟨ks rfl .dt, ks rfl .dt, ks rfl (.c .bx), ks rfl .dt, ks rfl (.c .bx), ks rfl .dt, ks rfl (.dt (vB (by first | (simp [*]; done) | grind))), kb 106 rfl (.cons (.cons .dt (.cons .dt (.cons .dt (.cons .dt (.cons .dt (.cons .dt (.cons .dt Ctos.nil))))))) .nil), kb 108 rfl (.cons (.cons .dt (.cons .dt (.cons .dt (.cons .dt (.cons .dt (.cons .dt (.cons .dt Ctos.nil))))))) .nil), trivial⟩)
    · skip
      refine .cons (.gT rfl rfl rfl (.mv rfl rfl)) <| .cons (.gT rfl rfl rfl (.mv rfl rfl)) <| .cons (.gT rfl rfl rfl (St1.lenS rfl rfl rfl rfl rfl (by kernel_rfl) rfl)) ?_
      refine .cons (.gT rfl rfl rfl (.ge rfl rfl rfl)) <| .cons (.pF rfl rfl rfl) <| .nil ?_
      exact kc_n (Wk.keep [(820, 106), (821, 108)] rfl rfl ⟨ks rfl .dt, ks rfl .dt, ks rfl (.c .bx), ks rfl .dt, ks rfl (.c .bx), ks rfl .dt, ks rfl (.dt (vB (by first | (simp [*]; done) | grind))), kb 106 rfl (.cons (.cons .dt (.cons .dt (.cons .dt (.cons .dt (.cons .dt (.cons .dt (.cons .dt Ctos.nil))))))) .nil), kb 108 rfl (.cons (.cons .dt (.cons .dt (.cons .dt (.cons .dt (.cons .dt (.cons .dt (.cons .dt Ctos.nil))))))) .nil), trivial⟩)
  refine ks_n ?_
  refine ACode.condT rfl (fun h27 => ?_) (fun h27 => ?_)
  · try simp only [zs1, zs2, zs3, zs4, zs5, zs6, zs7] at h27
    have h27 : n1 < 0 ∨ (s.size : Int) ≤ n1 := by simpa using h27
    have hR : exR (exP s L) s a = (exZ, -1) := by rw [exR, hp1, if_pos h27]
    refine .seq <| .region <| .cons (.buZ [] [(0, 1), (1, 1), (2, 2), (4, 2), (6, 1)] [.int .i64 0, .int .i64 0, .slice none 0 0, .int .i64 0, .string ByteArray.empty, .slice none 0 0, .slice none 0 0] [dI 0, dI 0, .list 1 [], dI 0, dS ⟨#[]⟩, .list 2 [], .list 7 []] rfl rfl (.val rfl (.val rfl (.list _ (.val rfl (.val rfl (.list _ (.list _ ZR.nil))))))) rfl rfl) <| .cons (.sT 7 true rfl rfl rfl rfl rfl rfl rfl) <| .cons (.asg rfl rfl) <| .nil <| ks_n <| .ret <| ks_r ?_
    refine kf_ret rfl ?_ nobox
    rw [hR]; rfl
  · try simp only [zs1, zs2, zs3, zs4, zs5, zs6, zs7] at h27
    have h27 : ¬ (n1 < 0 ∨ (s.size : Int) ≤ n1) := by simpa using h27
    refine .skip <| ks_n <| .seq <| .region <| .cons (.asg rfl rfl) <| .nil <| ks_n <| .seq ?_
    refine ACode.cut [(.t 0, .v (.o (st1 s))), (.t 2, .v (.o (nat1 (L : Nat)))), (.t 6, .v (.o (.c (.box 850 7 0 0)))), (.t 7, .v (.o (nat1 0))), (.t 8, .v (.o (.c (.box 851 7 0 0)))), (.t 9, .v (.o (nat1 n1))), (.t 10, .v (.o (nat1 k))), (.b 850, .b 77 7 [[.d (dI 0), .d (dI 0), .d (.val (.slice none 0 0)), .d (dI 0), .d (dS ⟨#[]⟩), .d (.val (.slice none 0 0)), .d (.val (.slice none 0 0))]]), (.u 850, .u), (.b 851, .b 77 7 [[.d (dI e1.k), .d (dI e1.n), .d (dIs e1.i.1), .d (dI e1.i.2), .d (dS e1.r.1), .d (dAs e1.r.2), .d (dEs e1.ks)]]), (.u 851, .u)] ?_ ?_
    · skip
      refine .seq <| .region <| .cons (.mv rfl rfl) <| .cons (.mv rfl rfl) <| .cons (St1.idxS (i := n1.toNat) rfl Try.underlying9 rfl rfl (by first | rfl | omega) (by omega)) ?_
      refine .nil <| ks_n <| .block <| .seq <| .region <| .cons (St1.eqU rfl rfl rfl) <| .cons (.asg rfl rfl) <| .nil <| ks_n ?_
      refine .cD rfl (fun h32 => ?_) (fun h32 => ?_)
      · skip
        refine .region <| .cons (.asg rfl rfl) <| .nil <| kb_n ?_
        exact kc_n (Wk.keep [(850, 820), (851, 821)] rfl rfl ⟨ks rfl .dt, ks rfl .dt, ks rfl (.c .bx), ks rfl .dt, ks rfl (.c .bx), ks rfl .dt, ks rfl (.dt (vI (by rw [← hk]; simp [knd, *]))), kb 820 rfl (.cons (.cons .dt (.cons .dt (.cons .dt (.cons .dt (.cons .dt (.cons .dt (.cons .dt Ctos.nil))))))) .nil), kb 821 rfl (.cons (.cons .dt (.cons .dt (.cons .dt (.cons .dt (.cons .dt (.cons .dt (.cons .dt Ctos.nil))))))) .nil), trivial⟩)
      · skip
        refine .seq <| .region <| .cons (St1.eqU rfl rfl rfl) <| .cons (.asg rfl rfl) <| .nil <| ks_n ?_
        refine .cD rfl (fun h34 => ?_) (fun h34 => ?_)
        · skip
          refine .region <| .cons (.asg rfl rfl) <| .nil <| kb_n ?_
          exact kc_n (Wk.keep [(850, 820), (851, 821)] rfl rfl ⟨ks rfl .dt, ks rfl .dt, ks rfl (.c .bx), ks rfl .dt, ks rfl (.c .bx), ks rfl .dt, ks rfl (.dt (vI (by rw [← hk]; simp [knd, *]))), kb 820 rfl (.cons (.cons .dt (.cons .dt (.cons .dt (.cons .dt (.cons .dt (.cons .dt (.cons .dt Ctos.nil))))))) .nil), kb 821 rfl (.cons (.cons .dt (.cons .dt (.cons .dt (.cons .dt (.cons .dt (.cons .dt (.cons .dt Ctos.nil))))))) .nil), trivial⟩)
        · skip
          refine .skip <| kb_n ?_
          exact kc_n (Wk.keep [(850, 820), (851, 821)] rfl rfl ⟨ks rfl .dt, ks rfl .dt, ks rfl (.c .bx), ks rfl .dt, ks rfl (.c .bx), ks rfl .dt, ks rfl (.dt (vI (by rw [← hk]; simp [knd, *]))), kb 820 rfl (.cons (.cons .dt (.cons .dt (.cons .dt (.cons .dt (.cons .dt (.cons .dt (.cons .dt Ctos.nil))))))) .nil), kb 821 rfl (.cons (.cons .dt (.cons .dt (.cons .dt (.cons .dt (.cons .dt (.cons .dt (.cons .dt Ctos.nil))))))) .nil), trivial⟩)
    refine ks_n <| .seq <| .region <| .cons (.mv rfl rfl) <| .cons (.mv rfl rfl) <| .cons (.pl rfl rfl rfl) <| .cons (.mv rfl rfl) <| .cons (.cP [.tmp 37, .tmp 39, .tmp 40] rfl rfl rfl rfl (hf2) rfl) ?_
    refine .cons (.mv rfl rfl) <| .cons (.ex rfl rfl rfl) <| .cons (.ex rfl rfl rfl) <| .cons (.al 111 [.int .i64 0, .int .i64 0, .slice none 0 0, .int .i64 0, .string ByteArray.empty, .slice none 0 0, .slice none 0 0] rfl rfl rfl) <| .cons (.sT 7 true rfl rfl rfl rfl rfl rfl rfl) <| .cons (.asg rfl rfl) <| .nil <| ks_n <| .seq <| .seq ?_
    refine ACode.cut [(.t 0, .v (.o (st1 s))), (.t 6, .v (.o (.c (.box 910 7 0 0)))), (.t 7, .v (.o (nat1 0))), (.t 8, .v (.o (.c (.box 911 7 0 0)))), (.t 10, .v (.o (nat1 k))), (.t 11, .v (.o (.c (.box 912 7 0 0)))), (.t 12, .v (.o (nat1 n2))), (.t 51, .v (.o (bo1 (decide (n2 < 0 ∨ (s.size : Int) ≤ n2))))), (.b 910, .b 77 7 [[.d (dI 0), .d (dI 0), .d (.val (.slice none 0 0)), .d (dI 0), .d (dS ⟨#[]⟩), .d (.val (.slice none 0 0)), .d (.val (.slice none 0 0))]]), (.u 910, .u), (.b 911, .b 77 7 [[.d (dI e1.k), .d (dI e1.n), .d (dIs e1.i.1), .d (dI e1.i.2), .d (dS e1.r.1), .d (dAs e1.r.2), .d (dEs e1.ks)]]), (.u 911, .u), (.b 912, .b 77 7 [[.d (dI e2.k), .d (dI e2.n), .d (dIs e2.i.1), .d (dI e2.i.2), .d (dS e2.r.1), .d (dAs e2.r.2), .d (dEs e2.ks)]]), (.u 912, .u)] ?_ ?_
    · skip
      refine .region <| .cons (.mv rfl rfl) <| .cons (.ls rfl rfl rfl) <| .cons (.mv rfl rfl) ?_
      refine .cD 46 rfl (fun g46 => ?_) (fun g46 => ?_)
      · skip
        refine .cons (.gF rfl rfl rfl) <| .cons (.gF rfl rfl rfl) <| .cons (.gF rfl rfl rfl) <| .cons (.gF rfl rfl rfl) <| .cons (.pT rfl rfl rfl) <| .nil ?_
        exact kc_n (Wk.keep [(910, 850), (911, 851), (912, 111)] rfl rfl ⟨ks rfl .dt, ks rfl (.c .bx), ks rfl .dt, ks rfl (.c .bx), ks rfl .dt, ks rfl (.c .bx), ks rfl .dt, ks rfl (.dt (vB (by first | (simp [*]; done) | grind))), kb 850 rfl (.cons (.cons .dt (.cons .dt (.cons .dt (.cons .dt (.cons .dt (.cons .dt (.cons .dt Ctos.nil))))))) .nil), kb 851 rfl (.cons (.cons .dt (.cons .dt (.cons .dt (.cons .dt (.cons .dt (.cons .dt (.cons .dt Ctos.nil))))))) .nil), kb 111 rfl (.cons (.cons .dt (.cons .dt (.cons .dt (.cons .dt (.cons .dt (.cons .dt (.cons .dt Ctos.nil))))))) .nil), trivial⟩)
      · skip
        refine .cons (.gT rfl rfl rfl (.mv rfl rfl)) <| .cons (.gT rfl rfl rfl (.mv rfl rfl)) <| .cons (.gT rfl rfl rfl (St1.lenS rfl rfl rfl rfl rfl (by kernel_rfl) rfl)) ?_
        refine .cons (.gT rfl rfl rfl (.ge rfl rfl rfl)) <| .cons (.pF rfl rfl rfl) <| .nil ?_
        exact kc_n (Wk.keep [(910, 850), (911, 851), (912, 111)] rfl rfl ⟨ks rfl .dt, ks rfl (.c .bx), ks rfl .dt, ks rfl (.c .bx), ks rfl .dt, ks rfl (.c .bx), ks rfl .dt, ks rfl (.dt (vB (by first | (simp [*]; done) | grind))), kb 850 rfl (.cons (.cons .dt (.cons .dt (.cons .dt (.cons .dt (.cons .dt (.cons .dt (.cons .dt Ctos.nil))))))) .nil), kb 851 rfl (.cons (.cons .dt (.cons .dt (.cons .dt (.cons .dt (.cons .dt (.cons .dt (.cons .dt Ctos.nil))))))) .nil), kb 111 rfl (.cons (.cons .dt (.cons .dt (.cons .dt (.cons .dt (.cons .dt (.cons .dt (.cons .dt Ctos.nil))))))) .nil), trivial⟩)
    refine ks_n ?_
    refine ACode.condT rfl (fun h51 => ?_) (fun h51 => ?_)
    · try simp only [zs1, zs2, zs3, zs4, zs5, zs6, zs7] at h51
      have h51 : n2 < 0 ∨ (s.size : Int) ≤ n2 := by simpa using h51
      have hR : exR (exP s L) s a = (exZ, -1) := by rw [exR, hp1, if_neg h27]; dsimp only; rw [hp2, if_pos h51]
      refine .seq <| .region <| .cons (.buZ [] [(0, 1), (1, 1), (2, 2), (4, 2), (6, 1)] [.int .i64 0, .int .i64 0, .slice none 0 0, .int .i64 0, .string ByteArray.empty, .slice none 0 0, .slice none 0 0] [dI 0, dI 0, .list 1 [], dI 0, dS ⟨#[]⟩, .list 2 [], .list 7 []] rfl rfl (.val rfl (.val rfl (.list _ (.val rfl (.val rfl (.list _ (.list _ ZR.nil))))))) rfl rfl) <| .cons (.sT 7 true rfl rfl rfl rfl rfl rfl rfl) <| .cons (.asg rfl rfl) <| .nil <| ks_n <| .ret <| ks_r ?_
      refine kf_ret rfl ?_ nobox
      rw [hR]; rfl
    · try simp only [zs1, zs2, zs3, zs4, zs5, zs6, zs7] at h51
      have h51 : ¬ (n2 < 0 ∨ (s.size : Int) ≤ n2) := by simpa using h51
      have hR : exR (exP s L) s a = (.mk k 0 ([], 0) zC [e1, e2], n2 + 1) := by rw [exR, hp1, if_neg h27]; dsimp only; rw [hp2, if_neg h51, hk]
      refine .skip <| ks_n <| .seq <| .region <| .cons (.mv rfl rfl) <| .cons (.bN 7 rfl rfl rfl rfl rfl rfl) <| .cons (.bN 7 rfl rfl rfl rfl rfl rfl) <| .cons (.li 77 6 1 [.tmp 54, .tmp 55] rfl rfl rfl rfl rfl rfl) <| .cons (.buZ [(0, .tmp 53), (4, .tmp 56)] [(0, 1), (1, 1), (2, 2), (4, 2), (6, 1)] [.int .i64 0, .int .i64 0, .slice none 0 0, .int .i64 0, .string ByteArray.empty, .slice none 0 0, .slice none 0 0] [dI 0, dI 0, .list 1 [], dI 0, dS ⟨#[]⟩, .list 2 [], .list 7 []] rfl rfl (.val rfl (.val rfl (.list _ (.val rfl (.val rfl (.list _ (.list _ ZR.nil))))))) rfl rfl) <| .cons (.mv rfl rfl) <| .cons (.pl rfl rfl rfl) <| .cons (.sT 7 true rfl rfl rfl rfl rfl rfl rfl) <| .cons (.asg rfl rfl) <| .nil <| ks_n <| .ret ?_
      refine kf_ret rfl ?_ nobox
      rw [hR]
      exact leaf2 (by simp [ad, rX, Ex.k, Ex.n, Ex.i, Ex.r, Ex.ks, dEs, rE_eq]; rfl) rfl

theorem exP_nat {s : ByteArray} {L i : Nat} (h : i < s.size) : (chr s i = 123 → exP s (L + 1) i = exI s i) ∧ (¬ chr s i = 123 → (65 ≤ chr s i ∧ chr s i ≤ 68 → exP s (L + 1) i = (.mk 3 0 ([], 0) (accP s i).1 [], (accP s i).2)) ∧
    (¬ (65 ≤ chr s i ∧ chr s i ≤ 68) → (chr s i = 40 → exP s (L + 1) i = exR (exP s L) s (i + 1)) ∧ (¬ chr s i = 40 → exP s (L + 1) i = exN s i))) := by
  have h0 : ¬ ((i : Int) < 0 ∨ (s.size : Int) ≤ i) := by omega
  have e : (i : Int).toNat = i := Int.toNat_natCast i
  refine ⟨fun h1 => ?_, fun h1 => ⟨fun h2 => ?_, fun h2 => ⟨fun h3 => ?_, fun h3 => ?_⟩⟩⟩
  · rw [exP, if_neg h0, e, if_pos h1]
  · rw [exP, if_neg h0, e, if_neg h1, if_pos h2]
  · rw [exP, if_neg h0, e, if_neg h1, if_neg h2, if_pos h3]
  · rw [exP, if_neg h0, e, if_neg h1, if_neg h2, if_neg h3]
theorem exP_step {s : ByteArray} {L : Nat} {a : Int} (hs : s.size ≤ 1048576) (ha : -1 ≤ a ∧ a ≤ s.size + 1) (hL : L ≤ 1000) (hr : ∀ a : Int, 0 ≤ a → a ≤ s.size + 1 → Fn Try.prog 94 [] [st1 s, nat1 a, nat1 (((L + 1 : Nat) : Int) - 1)] (.tup [ad (rX (exR (exP s L) s a).1), nat1 (exR (exP s L) s a).2]) []) : Fn Try.prog 77 [] [st1 s, nat1 a, nat1 ((L + 1 : Nat) : Int)] (.tup [ad (rX (exP s (L + 1) a).1), nat1 (exP s (L + 1) a).2]) [] := by
 refine Fn.code0 Try.func77 rfl rfl rfl rfl ?_
 refine .seq <| .region <| .cons (.al 106 [.int .i64 0, .int .i64 0, .slice none 0 0, .int .i64 0, .string ByteArray.empty, .slice none 0 0, .slice none 0 0] rfl rfl rfl) <| .cons (.asg rfl rfl) <| .nil <| ks_n <| .seq <| .seq ?_
 refine ACode.cut [(.t 0, .v (.o (st1 s))), (.t 1, .v (.o (nat1 a))), (.t 2, .v (.o (nat1 ((L + 1 : Nat) : Int)))), (.t 6, .v (.o (.c (.box 810 7 0 0)))), (.t 7, .v (.o (nat1 0))), (.t 26, .v (.o (bo1 (decide (a < 0 ∨ (s.size : Int) ≤ a))))), (.b 810, .b 77 7 [[.d (dI 0), .d (dI 0), .d (.val (.slice none 0 0)), .d (dI 0), .d (dS ⟨#[]⟩), .d (.val (.slice none 0 0)), .d (.val (.slice none 0 0))]]), (.u 810, .u)] ?_ ?_
 ·skip
  refine .region <| .cons (.mv rfl rfl) <| .cons (.ls rfl rfl rfl) <| .cons (.mv rfl rfl) ?_
  refine .cD 17 rfl (fun g17 => ?_) (fun g17 => ?_)
  ·skip
   refine .cons (.gF rfl rfl rfl) <| .cons (.gF rfl rfl rfl) <| .cons (.pT rfl rfl rfl) <| .cons (.mv rfl rfl) <| .cons (.gF rfl rfl rfl) <| .cons (.gF rfl rfl rfl) <| .cons (.gF rfl rfl rfl) <| .cons (.gF rfl rfl rfl) <| .cons (.pT rfl rfl rfl) <| .nil ?_
   exact kc_n (Wk.keep [(810, 106)] rfl rfl ⟨ks rfl .dt, ks rfl .dt, ks rfl .dt, ks rfl (.c .bx), ks rfl .dt, ks rfl (.dt (vB (by first | (simp [*]; omega) | grind))), kb 106 rfl (.cons (.cons .dt (.cons .dt (.cons .dt (.cons .dt (.cons .dt (.cons .dt (.cons .dt Ctos.nil))))))) .nil), trivial⟩)
  ·skip
   refine .cons (.gT rfl rfl rfl (.mv rfl rfl)) <| .cons (.gT rfl rfl rfl (.ls rfl rfl rfl)) <| .cons (.pF rfl rfl rfl) <| .cons (.mv rfl rfl) ?_
   refine AOps.cases 21 _ rfl (fun g21 => ?_) (fun g21 => ?_)
   ·try simp only [zs1, zs2, zs3, zs4, zs5, zs6, zs7] at g21
    refine .cons (.gF rfl rfl rfl) <| .cons (.gF rfl rfl rfl) <| .cons (.gF rfl rfl rfl) <| .cons (.gF rfl rfl rfl) <| .cons (.pT rfl rfl rfl) <| .nil ?_
    exact kc_n (Wk.keep [(810, 106)] rfl rfl ⟨ks rfl .dt, ks rfl .dt, ks rfl .dt, ks rfl (.c .bx), ks rfl .dt, ks rfl (.dt (vB (by first | (simp [*]; omega) | grind))), kb 106 rfl (.cons (.cons .dt (.cons .dt (.cons .dt (.cons .dt (.cons .dt (.cons .dt (.cons .dt Ctos.nil))))))) .nil), trivial⟩)
   ·try simp only [zs1, zs2, zs3, zs4, zs5, zs6, zs7] at g21
    refine .cons (.gT rfl rfl rfl (.mv rfl rfl)) <| .cons (.gT rfl rfl rfl (.mv rfl rfl)) <| .cons (.gT rfl rfl rfl (St1.lenS rfl rfl rfl rfl rfl (by kernel_rfl) rfl)) ?_
    refine .cons (.gT rfl rfl rfl (.ge rfl rfl rfl)) <| .cons (.pF rfl rfl rfl) <| .nil ?_
    exact kc_n (Wk.keep [(810, 106)] rfl rfl ⟨ks rfl .dt, ks rfl .dt, ks rfl .dt, ks rfl (.c .bx), ks rfl .dt, ks rfl (.dt (vB (by first | (simp [*]; omega) | grind))), kb 106 rfl (.cons (.cons .dt (.cons .dt (.cons .dt (.cons .dt (.cons .dt (.cons .dt (.cons .dt Ctos.nil))))))) .nil), trivial⟩)
 refine ks_n ?_
 refine ACode.condT rfl (fun h26 => ?_) (fun h26 => ?_)
 ·try simp only [zs1, zs2, zs3, zs4, zs5, zs6, zs7] at h26
  have h26 : a < 0 ∨ (s.size : Int) ≤ a := by simpa using h26
  have hR : exP s (L + 1) a = (exZ, -1) := by rw [exP, if_pos h26]
  refine .seq <| .region <| .cons (.buZ [] [(0, 1), (1, 1), (2, 2), (4, 2), (6, 1)] [.int .i64 0, .int .i64 0, .slice none 0 0, .int .i64 0, .string ByteArray.empty, .slice none 0 0, .slice none 0 0] [dI 0, dI 0, .list 1 [], dI 0, dS ⟨#[]⟩, .list 2 [], .list 7 []] rfl rfl (.val rfl (.val rfl (.list _ (.val rfl (.val rfl (.list _ (.list _ ZR.nil))))))) rfl rfl) <| .cons (.sT 7 true rfl rfl rfl rfl rfl rfl rfl) <| .cons (.asg rfl rfl) <| .nil <| ks_n <| .ret <| ks_r ?_
  refine kf_ret rfl ?_ nobox
  rw [hR]; rfl
 ·try simp only [zs1, zs2, zs3, zs4, zs5, zs6, zs7] at h26
  have h26 : ¬ (a < 0 ∨ (s.size : Int) ≤ a) := by simpa using h26
  obtain ⟨i, rfl⟩ : ∃ i : Nat, a = i := ⟨a.toNat, by omega⟩
  have hR0 := exP_nat (s := s) (L := L) (i := i) (by omega)
  obtain ⟨e, he⟩ : ∃ e, unV s i 125 = e := ⟨_, rfl⟩
  have hbe := unV_bd s i 125
  rw [he] at hbe
  refine .skip <| ks_n <| .seq <| .block <| .seq <| .region <| .cons (.mv rfl rfl) <| .cons (.mv rfl rfl) <| .cons (St1.idxS (i := i) rfl Try.underlying9 rfl rfl (by first | rfl | omega) (by omega)) ?_
  refine .cons (St1.eqU rfl rfl rfl) <| .cons (.asg rfl rfl) <| .nil <| ks_n ?_
  refine .cD rfl (fun h28 => ?_) (fun h28 => ?_)
  ·skip
   have hge := unV_ge s i 125 (by omega)
   rw [he] at hge
   have hR := hR0.1 h28
   refine .seq <| .region <| .cons (.mv rfl rfl) <| .cons (.mv rfl rfl) <| .cons (.cP [.tmp 33, .tmp 34, .const (.int .u8 (125))] rfl rfl rfl rfl (show Fn Try.prog 93 [] [st1 s, nat1 (i : Nat), .c (.d (.val (.int .u8 125)))] (.o (nat1 e)) [] from by rw [← he]; exact unV_fn hs) rfl) ?_
   refine .cons (.asg rfl rfl) <| .nil <| ks_n <| .seq <| .seq <| .region <| .cons (.mv rfl rfl) <| .cons (.ls rfl rfl rfl) <| .nil <| ks_n ?_
   refine .cD rfl (fun h37 => ?_) (fun h37 => ?_)
   ·skip
    refine .seq <| .region <| .cons (.buZ [] [(0, 1), (1, 1), (2, 2), (4, 2), (6, 1)] [.int .i64 0, .int .i64 0, .slice none 0 0, .int .i64 0, .string ByteArray.empty, .slice none 0 0, .slice none 0 0] [dI 0, dI 0, .list 1 [], dI 0, dS ⟨#[]⟩, .list 2 [], .list 7 []] rfl rfl (.val rfl (.val rfl (.list _ (.val rfl (.val rfl (.list _ (.list _ ZR.nil))))))) rfl rfl) <| .cons (.sT 7 true rfl rfl rfl rfl rfl rfl rfl) <| .cons (.asg rfl rfl) <| .nil <| ks_n <| .ret <| ks_r <| kb_r <| ks_r ?_
    refine kf_ret rfl ?_ nobox
    rw [hR, exI, he, if_pos (by omega)]; rfl
   ·skip
    refine .skip <| ks_n <| .seq <| .region <| .cons (.mv rfl rfl) <| .cons (.mv rfl rfl) <| .cons (.pl rfl rfl rfl) <| .cons (.mv rfl rfl) <| .cons (St1.slS2 (i := (i + 1)) (j := e.toNat) rfl Try.underlying9 rfl rfl rfl (by first | rfl | omega) (by first | rfl | omega) (by omega)) ?_
    refine .cons (.cP [.tmp 44] rfl rfl rfl rfl (paf_fn (s := s.extract (i + 1) e.toNat) (by rw [ByteArray.size_extract]; omega)) rfl) ?_
    refine .cons (.mv rfl rfl) <| .cons (.ex rfl rfl rfl) <| .cons (.ex rfl rfl rfl) <| .cons (.al 109 [.slice none 0 0, .int .i64 0] rfl rfl rfl) <| .cons (.sT 2 true rfl rfl rfl rfl rfl rfl rfl) <| .cons (.asg rfl rfl) <| .nil <| ks_n <| .seq <| .region <| .cons (.bN 2 rfl rfl rfl rfl rfl rfl) <| .cons (.buZ [(0, .const (.int .i64 (2))), (2, .tmp 48)] [(0, 1), (1, 1), (2, 2), (4, 2), (6, 1)] [.int .i64 0, .int .i64 0, .slice none 0 0, .int .i64 0, .string ByteArray.empty, .slice none 0 0, .slice none 0 0] [dI 0, dI 0, .list 1 [], dI 0, dS ⟨#[]⟩, .list 2 [], .list 7 []] rfl rfl (.val rfl (.val rfl (.list _ (.val rfl (.val rfl (.list _ (.list _ ZR.nil))))))) rfl rfl) <| .cons (.mv rfl rfl) <| .cons (.pl rfl rfl rfl) <| .cons (.sT 7 true rfl rfl rfl rfl rfl rfl rfl) <| .cons (.asg rfl rfl) <| .nil <| ks_n <| .ret <| kb_r <| ks_r ?_
    refine kf_ret rfl ?_ nobox
    rw [hR, exI, he, if_neg (by omega)]; rfl
  ·skip
   have hR1 := hR0.2 h28
   refine .seq ?_
   refine ACode.cut [(.t 0, .v (.o (st1 s))), (.t 1, .v (.o (nat1 (i : Nat)))), (.t 2, .v (.o (nat1 ((L + 1 : Nat) : Int)))), (.t 6, .v (.o (.c (.box 890 7 0 0)))), (.t 7, .v (.o (nat1 0))), (.t 52, .v (.o (bo1 (decide (65 ≤ chr s i ∧ chr s i ≤ 68))))), (.b 890, .b 77 7 [[.d (dI 0), .d (dI 0), .d (.val (.slice none 0 0)), .d (dI 0), .d (dS ⟨#[]⟩), .d (.val (.slice none 0 0)), .d (.val (.slice none 0 0))]]), (.u 890, .u)] ?_ ?_
   ·skip
    refine .region <| .cons (.mv rfl rfl) <| .cons (.mv rfl rfl) <| .cons (St1.idxS (i := i) rfl Try.underlying9 rfl rfl (by first | rfl | omega) (by omega)) ?_
    refine .cons (St1.geU rfl rfl rfl) <| .cons (.mv rfl rfl) ?_
    refine .cD 57 rfl (fun g57 => ?_) (fun g57 => ?_)
    ·skip
     refine .cons (.gT rfl rfl rfl (.mv rfl rfl)) <| .cons (.gT rfl rfl rfl (.mv rfl rfl)) <| .cons (.gT rfl rfl rfl (St1.idxS (i := i) rfl Try.underlying9 rfl rfl (by first | rfl | omega) (by omega))) ?_
     refine .cons (.gT rfl rfl rfl (St1.leU rfl rfl rfl)) <| .cons (.pT rfl rfl rfl) <| .cons (.asg rfl rfl) <| .nil ?_
     exact kc_n (Wk.keep [(890, 810)] rfl rfl ⟨ks rfl .dt, ks rfl .dt, ks rfl .dt, ks rfl (.c .bx), ks rfl .dt, ks rfl (.dt (vB (by first | (simp [*]; done) | grind))), kb 810 rfl (.cons (.cons .dt (.cons .dt (.cons .dt (.cons .dt (.cons .dt (.cons .dt (.cons .dt Ctos.nil))))))) .nil), trivial⟩)
    ·skip
     refine .cons (.gF rfl rfl rfl) <| .cons (.gF rfl rfl rfl) <| .cons (.gF rfl rfl rfl) <| .cons (.gF rfl rfl rfl) <| .cons (.pF rfl rfl rfl) <| .cons (.asg rfl rfl) <| .nil ?_
     exact kc_n (Wk.keep [(890, 810)] rfl rfl ⟨ks rfl .dt, ks rfl .dt, ks rfl .dt, ks rfl (.c .bx), ks rfl .dt, ks rfl (.dt (vB (by first | (simp [*]; done) | grind))), kb 810 rfl (.cons (.cons .dt (.cons .dt (.cons .dt (.cons .dt (.cons .dt (.cons .dt (.cons .dt Ctos.nil))))))) .nil), trivial⟩)
   refine ks_n ?_
   refine ACode.condT rfl (fun h52 => ?_) (fun h52 => ?_)
   ·try simp only [zs1, zs2, zs3, zs4, zs5, zs6, zs7] at h52
    have h52 : 65 ≤ chr s i ∧ chr s i ≤ 68 := by simpa using h52
    have hR := hR1.1 h52
    refine .seq <| .region <| .cons (.mv rfl rfl) <| .cons (.mv rfl rfl) <| .cons (.cP [.tmp 64, .tmp 65] rfl rfl rfl rfl (accP_fn (s := s) (a := i) hs (by omega)) rfl) ?_
    refine .cons (.mv rfl rfl) <| .cons (.ex rfl rfl rfl) <| .cons (.ex rfl rfl rfl) <| .cons (.al 111 [.string ByteArray.empty, .slice none 0 0] rfl rfl rfl) <| .cons (.sT 2 true rfl rfl rfl rfl rfl rfl rfl) <| .cons (.asg rfl rfl) <| .nil <| ks_n <| .seq <| .region <| .cons (.bN 2 rfl rfl rfl rfl rfl rfl) <| .cons (.buZ [(0, .const (.int .i64 (3))), (3, .tmp 69)] [(0, 1), (1, 1), (2, 2), (4, 2), (6, 1)] [.int .i64 0, .int .i64 0, .slice none 0 0, .int .i64 0, .string ByteArray.empty, .slice none 0 0, .slice none 0 0] [dI 0, dI 0, .list 1 [], dI 0, dS ⟨#[]⟩, .list 2 [], .list 7 []] rfl rfl (.val rfl (.val rfl (.list _ (.val rfl (.val rfl (.list _ (.list _ ZR.nil))))))) rfl rfl) <| .cons (.mv rfl rfl) <| .cons (.sT 7 true rfl rfl rfl rfl rfl rfl rfl) <| .cons (.asg rfl rfl) <| .nil <| ks_n <| .ret <| kb_r <| ks_r ?_
    refine kf_ret rfl ?_ nobox
    rw [hR]; rfl
   ·try simp only [zs1, zs2, zs3, zs4, zs5, zs6, zs7] at h52
    have h52 : ¬ (65 ≤ chr s i ∧ chr s i ≤ 68) := by simpa using h52
    have hR2 := hR1.2 h52
    refine .seq <| .region <| .cons (.mv rfl rfl) <| .cons (.mv rfl rfl) <| .cons (St1.idxS (i := i) rfl Try.underlying9 rfl rfl (by first | rfl | omega) (by omega)) ?_
    refine .cons (St1.eqU rfl rfl rfl) <| .cons (.asg rfl rfl) <| .nil <| ks_n ?_
    refine .cD rfl (fun h72 => ?_) (fun h72 => ?_)
    ·skip
     have hR := hR2.1 h72
     refine .seq <| .region <| .cons (.mv rfl rfl) <| .cons (.mv rfl rfl) <| .cons (.pl rfl rfl rfl) <| .cons (.mv rfl rfl) <| .cons (.sb rfl rfl rfl) <| .cons (.cP [.tmp 77, .tmp 79, .tmp 81] rfl rfl rfl rfl (hr ((i : Int) + 1) (by omega) (by omega)) rfl) ?_
     refine .cons (.ex rfl rfl rfl) <| .cons (.ex rfl rfl rfl) <| .cons (.sT 7 true rfl rfl rfl rfl rfl rfl rfl) <| .cons (.asg rfl rfl) <| .nil <| ks_n <| .ret <| kb_r <| ks_r ?_
     refine kf_ret rfl ?_ nobox
     rw [hR]; rfl
    ·skip
     have hR := hR2.2 h72
     refine .skip <| kb_n <| ks_n <| .seq <| .region <| .cons (.mv rfl rfl) <| .cons (.mv rfl rfl) <| .cons (.cP [.tmp 86, .tmp 87] rfl rfl rfl rfl (l1Digits_fn (s := s) (a := i) (by omega) (by omega)) rfl) ?_
     refine .cons (.mv rfl rfl) <| .cons (.ex rfl rfl rfl) <| .cons (.ex rfl rfl rfl) <| .cons (.asg rfl rfl) <| .cons (.asg rfl rfl) <| .nil <| ks_n <| .seq <| .seq <| .region <| .cons (.mv rfl rfl) <| .cons (.mv rfl rfl) <| .cons (.eq rfl rfl rfl) <| .nil <| ks_n ?_
     refine .cD rfl (fun h93 => ?_) (fun h93 => ?_)
     ·skip
      refine .seq <| .region <| .cons (.buZ [] [(0, 1), (1, 1), (2, 2), (4, 2), (6, 1)] [.int .i64 0, .int .i64 0, .slice none 0 0, .int .i64 0, .string ByteArray.empty, .slice none 0 0, .slice none 0 0] [dI 0, dI 0, .list 1 [], dI 0, dS ⟨#[]⟩, .list 2 [], .list 7 []] rfl rfl (.val rfl (.val rfl (.list _ (.val rfl (.val rfl (.list _ (.list _ ZR.nil))))))) rfl rfl) <| .cons (.sT 7 true rfl rfl rfl rfl rfl rfl rfl) <| .cons (.asg rfl rfl) <| .nil <| ks_n <| .ret <| ks_r ?_
      refine kf_ret rfl ?_ nobox
      rw [hR, exN, if_pos (by omega)]; rfl
     ·skip
      refine .skip <| ks_n <| .seq <| .region <| .cons (.mv rfl rfl) <| .cons (.buZ [(0, .const (.int .i64 (1))), (1, .tmp 95)] [(0, 1), (1, 1), (2, 2), (4, 2), (6, 1)] [.int .i64 0, .int .i64 0, .slice none 0 0, .int .i64 0, .string ByteArray.empty, .slice none 0 0, .slice none 0 0] [dI 0, dI 0, .list 1 [], dI 0, dS ⟨#[]⟩, .list 2 [], .list 7 []] rfl rfl (.val rfl (.val rfl (.list _ (.val rfl (.val rfl (.list _ (.list _ ZR.nil))))))) rfl rfl) <| .cons (.mv rfl rfl) <| .cons (.sT 7 true rfl rfl rfl rfl rfl rfl rfl) <| .cons (.asg rfl rfl) <| .nil <| ks_n <| .ret ?_
      refine kf_ret rfl ?_ nobox
      rw [hR, exN, if_neg (by omega)]; rfl

theorem exP_zero {s : ByteArray} {a : Int} (hs : s.size ≤ 1048576) : Fn Try.prog 77 [] [st1 s, nat1 a, nat1 ((0 : Nat) : Int)] (.tup [ad (rX (exP s 0 a).1), nat1 (exP s 0 a).2]) [] := by
 refine Fn.code0 Try.func77 rfl rfl rfl rfl ?_
 refine .seq <| .region <| .cons (.al 106 [.int .i64 0, .int .i64 0, .slice none 0 0, .int .i64 0, .string ByteArray.empty, .slice none 0 0, .slice none 0 0] rfl rfl rfl) <| .cons (.asg rfl rfl) <| .nil <| ks_n <| .seq <| .seq ?_
 refine ACode.cut [(.t 0, .v (.o (st1 s))), (.t 1, .v (.o (nat1 a))), (.t 2, .v (.o (nat1 ((0 : Nat) : Int)))), (.t 6, .v (.o (.c (.box 810 7 0 0)))), (.t 7, .v (.o (nat1 0))), (.t 26, .v (.o (bo1 (decide True)))), (.b 810, .b 77 7 [[.d (dI 0), .d (dI 0), .d (.val (.slice none 0 0)), .d (dI 0), .d (dS ⟨#[]⟩), .d (.val (.slice none 0 0)), .d (.val (.slice none 0 0))]]), (.u 810, .u)] ?_ ?_
 ·skip
  refine .region <| .cons (.mv rfl rfl) <| .cons (.ls rfl rfl rfl) <| .cons (.mv rfl rfl) ?_
  refine .cD 17 rfl (fun g17 => ?_) (fun g17 => ?_)
  ·skip
   refine .cons (.gF rfl rfl rfl) <| .cons (.gF rfl rfl rfl) <| .cons (.pT rfl rfl rfl) <| .cons (.mv rfl rfl) <| .cons (.gF rfl rfl rfl) <| .cons (.gF rfl rfl rfl) <| .cons (.gF rfl rfl rfl) <| .cons (.gF rfl rfl rfl) <| .cons (.pT rfl rfl rfl) <| .nil ?_
   exact kc_n (Wk.keep [(810, 106)] rfl rfl ⟨ks rfl .dt, ks rfl .dt, ks rfl .dt, ks rfl (.c .bx), ks rfl .dt, ks rfl (.dt (vB (by first | (simp [*]; done) | grind))), kb 106 rfl (.cons (.cons .dt (.cons .dt (.cons .dt (.cons .dt (.cons .dt (.cons .dt (.cons .dt Ctos.nil))))))) .nil), trivial⟩)
  ·skip
   refine .cons (.gT rfl rfl rfl (.mv rfl rfl)) <| .cons (.gT rfl rfl rfl (.ls rfl rfl rfl)) <| .cons (.pF rfl rfl rfl) <| .cons (.mv rfl rfl) ?_
   refine AOps.cases 21 _ rfl (fun g21 => ?_) (fun g21 => ?_)
   ·try simp only [zs1, zs2, zs3, zs4, zs5, zs6, zs7] at g21
    refine .cons (.gF rfl rfl rfl) <| .cons (.gF rfl rfl rfl) <| .cons (.gF rfl rfl rfl) <| .cons (.gF rfl rfl rfl) <| .cons (.pT rfl rfl rfl) <| .nil ?_
    exact kc_n (Wk.keep [(810, 106)] rfl rfl ⟨ks rfl .dt, ks rfl .dt, ks rfl .dt, ks rfl (.c .bx), ks rfl .dt, ks rfl (.dt (vB (by first | (simp [*]; done) | grind))), kb 106 rfl (.cons (.cons .dt (.cons .dt (.cons .dt (.cons .dt (.cons .dt (.cons .dt (.cons .dt Ctos.nil))))))) .nil), trivial⟩)
   ·try simp only [zs1, zs2, zs3, zs4, zs5, zs6, zs7] at g21
    refine .cons (.gT rfl rfl rfl (.mv rfl rfl)) <| .cons (.gT rfl rfl rfl (.mv rfl rfl)) <| .cons (.gT rfl rfl rfl (St1.lenS rfl rfl rfl rfl rfl (by kernel_rfl) rfl)) ?_
    refine .cons (.gT rfl rfl rfl (.ge rfl rfl rfl)) <| .cons (.pF rfl rfl rfl) <| .nil ?_
    exact kc_n (Wk.keep [(810, 106)] rfl rfl ⟨ks rfl .dt, ks rfl .dt, ks rfl .dt, ks rfl (.c .bx), ks rfl .dt, ks rfl (.dt (vB (by first | (simp [*]; done) | grind))), kb 106 rfl (.cons (.cons .dt (.cons .dt (.cons .dt (.cons .dt (.cons .dt (.cons .dt (.cons .dt Ctos.nil))))))) .nil), trivial⟩)
 refine ks_n ?_
 refine ACode.condT rfl (fun h26 => ?_) (fun h26 => ?_)
 ·try simp only [zs1, zs2, zs3, zs4, zs5, zs6, zs7] at h26
  refine .seq <| .region <| .cons (.buZ [] [(0, 1), (1, 1), (2, 2), (4, 2), (6, 1)] [.int .i64 0, .int .i64 0, .slice none 0 0, .int .i64 0, .string ByteArray.empty, .slice none 0 0, .slice none 0 0] [dI 0, dI 0, .list 1 [], dI 0, dS ⟨#[]⟩, .list 2 [], .list 7 []] rfl rfl (.val rfl (.val rfl (.list _ (.val rfl (.val rfl (.list _ (.list _ ZR.nil))))))) rfl rfl) <| .cons (.sT 7 true rfl rfl rfl rfl rfl rfl rfl) <| .cons (.asg rfl rfl) <| .nil <| ks_n <| .ret <| ks_r ?_
  refine kf_ret rfl ?_ nobox
  rfl
 ·try simp only [zs1, zs2, zs3, zs4, zs5, zs6, zs7] at h26
  simp at h26

theorem exP_fn {s : ByteArray} (hs : s.size ≤ 1048576) : ∀ (L : Nat), L ≤ 1000 → ∀ a : Int, -1 ≤ a → a ≤ s.size + 1 → Fn Try.prog 77 [] [st1 s, nat1 a, nat1 (L : Nat)] (.tup [ad (rX (exP s L a).1), nat1 (exP s L a).2]) []
  | 0, _, a, _, _ => exP_zero hs
  | L + 1, hL, a, h1, h2 => exP_step hs ⟨h1, h2⟩ (by omega) fun b hb1 hb2 => by
    rw [show (((L + 1 : Nat) : Int) - 1) = (L : Nat) by omega]
    exact exR_fn hs ⟨by omega, hb2⟩ (exP_fn hs L (by omega))
/-! ### Texts of statements -/
def sdF : List Aff → Nat → ByteArray → ByteArray
  | [], _, o => o
  | x :: l, i, o => sdF l (i + 1) ((if 0 < i then o ++ ⟨#[44]⟩ else o) ++ affT x)
def sdT (l : List Aff) : ByteArray := sdF l 0 ⟨#[]⟩
theorem sdF_at {xs : List Aff} {i : Nat} {x : Aff} {o : ByteArray} (h : xs[i]? = some x) : sdF (xs.drop i) i o = sdF (xs.drop (i + 1)) (i + 1) ((if 0 < i then o ++ ⟨#[44]⟩ else o) ++ affT x) := by
  obtain ⟨hl, rfl⟩ := List.getElem?_eq_some_iff.1 h
  rw [List.drop_eq_getElem_cons hl, sdF]
theorem sdF_end {xs : List Aff} {i : Nat} {o : ByteArray} (h : xs.length ≤ i) : sdF (xs.drop i) i o = o := by rw [List.drop_of_length_le h, sdF]
theorem sdF_len : ∀ (l : List Aff) (i : Nat) (o : ByteArray), (∀ x ∈ l, x.1.length ≤ 4) → (sdF l i o).size ≤ o.size + 121 * l.length
  | [], _, o, _ => by simp [sdF]
  | x :: l, i, o, h => by
    rw [sdF]
    have h1 := sdF_len l (i + 1) ((if 0 < i then o ++ ⟨#[44]⟩ else o) ++ affT x) fun y hy => h y (List.mem_cons_of_mem _ hy)
    have h2 := affT_len x (h x List.mem_cons_self)
    have h3 : (if 0 < i then o ++ ⟨#[44]⟩ else o).size ≤ o.size + 1 := by
      split
      · rw [ByteArray.size_append, bsz1]; omega
      · omega
    rw [ByteArray.size_append] at h1
    rw [List.length_cons]; omega
theorem sdT_len (l : List Aff) (h : ∀ x ∈ l, x.1.length ≤ 4) : (sdT l).size ≤ 121 * l.length := by
  have := sdF_len l 0 ⟨#[]⟩ h
  have e0 : (⟨#[]⟩ : ByteArray).size = 0 := rfl
  rw [sdT]; omega
def accT (a : Acc) : ByteArray := a.1 ++ ⟨#[91]⟩ ++ sdT a.2 ++ ⟨#[93]⟩

theorem sdT_fn {l : List Aff} (hl : l.length ≤ 100) (hb : ∀ x ∈ l, bigA x) : Fn Try.prog 79 [] [vD (dAs l)] (.o (st1 (sdT l))) [] := by
  have e0 : (⟨#[]⟩ : ByteArray).size = 0 := rfl
  have e1 : (⟨#[44]⟩ : ByteArray).size = 1 := rfl
  refine Fn.code0 Try.func79 rfl rfl rfl rfl ?_
  refine .seq <| .region <| .cons (.asg rfl rfl) <| .nil <| ks_n <| .seq <| .region <| .cons (.asg rfl rfl) <| .nil <| ks_n <| .seq <| .seq <| .region <| .cons (.asg rfl rfl) <| .nil <| ks_n <| .block ?_
  refine .loopK (fun m σ => (∃ (i : Nat) (o : ByteArray), m = l.length - i ∧ (i ≤ l.length) ∧ (o.size ≤ 121 * i) ∧ (sdT l = sdF (l.drop i) i o) ∧ σ = [(.t 0, .v (.o (vD (dAs l)))), (.t 2, .v (.o (st1 ⟨#[]⟩))), (.t 3, .v (.o (st1 o))), (.t 4, .v (.o (nat1 (i : Nat))))])) [] ⟨0, ⟨#[]⟩, rfl, by omega, by rw [e0]; omega, rfl, rfl⟩ ⟨ks rfl .dt, ks rfl .dt, ks rfl (.dt (vS (by first | rfl | (rw [if_pos (by omega)]; done) | (rw [if_neg (by omega)]; done)))), ks rfl .dt, trivial⟩ ?_
  rintro m σ ⟨i, o, hm0, hi, ho, hF, rfl⟩
  refine .seq <| .seq <| .region <| .cons (.mv rfl rfl) <| .cons (.mv rfl rfl) <| .cons (.ln 74 2 32 rfl rfl rfl) <| .cons (.ls rfl rfl rfl) <| .nil <| ks_n ?_
  refine .cD rfl (fun h8 => ?_) (fun h8 => ?_)
  · skip
    obtain ⟨x, hx1⟩ : ∃ x_, l[i]? = some x_ := ⟨_, List.getElem?_eq_getElem (by omega)⟩
    have hbx := hb x (List.mem_of_getElem? hx1)
    have hax := affT_len x hbx.1
    refine .skip <| ks_n <| .seq <| .block <| .seq <| .seq <| .region <| .cons (.mv rfl rfl) <| .cons (.gt rfl rfl rfl) <| .nil <| ks_n ?_
    refine .cD rfl (fun h12 => ?_) (fun h12 => ?_)
    · skip
      refine .region <| .cons (.mv rfl rfl) <| .cons (St1.addS rfl rfl rfl (by omega)) ?_
      refine .cons (.asg rfl rfl) <| .nil <| ks_n <| .region <| .cons (.mv rfl rfl) <| .cons (.mv rfl rfl) <| .cons (.mv rfl rfl) <| .cons (.xL 74 2 32 rfl rfl rfl rfl rfl (map_at hx1)) ?_
      refine .cons (.lN 2 rfl rfl rfl) <| .cons (.cP [.tmp 19] rfl rfl rfl rfl (l1Text_fn hbx) rfl) ?_
      refine .cons (St1.addS rfl rfl rfl (by first | omega | (rw [ByteArray.size_append]; omega))) ?_
      refine .cons (.asg rfl rfl) <| .nil <| kb_n <| ks_n <| .region <| .cons (.mv rfl rfl) <| .cons (.pl rfl rfl rfl) <| .cons (.asg rfl rfl) <| .nil ?_
      refine kl_k [] ⟨i + 1, ((if 0 < i then o ++ ⟨#[44]⟩ else o) ++ affT x), rfl, by omega, by rw [ByteArray.size_append]; split <;> (try rw [ByteArray.size_append]) <;> omega, by rw [hF, sdF_at hx1], rfl⟩ ⟨ks rfl .dt, ks rfl .dt, ks rfl (.dt (vS (by first | rfl | (rw [if_pos (by omega)]; done) | (rw [if_neg (by omega)]; done)))), ks rfl .dt, trivial⟩
    · skip
      refine .skip <| ks_n <| .region <| .cons (.mv rfl rfl) <| .cons (.mv rfl rfl) <| .cons (.mv rfl rfl) <| .cons (.xL 74 2 32 rfl rfl rfl rfl rfl (map_at hx1)) ?_
      refine .cons (.lN 2 rfl rfl rfl) <| .cons (.cP [.tmp 19] rfl rfl rfl rfl (l1Text_fn hbx) rfl) ?_
      refine .cons (St1.addS rfl rfl rfl (by first | omega | (rw [ByteArray.size_append]; omega))) ?_
      refine .cons (.asg rfl rfl) <| .nil <| kb_n <| ks_n <| .region <| .cons (.mv rfl rfl) <| .cons (.pl rfl rfl rfl) <| .cons (.asg rfl rfl) <| .nil ?_
      refine kl_k [] ⟨i + 1, ((if 0 < i then o ++ ⟨#[44]⟩ else o) ++ affT x), rfl, by omega, by rw [ByteArray.size_append]; split <;> (try rw [ByteArray.size_append]) <;> omega, by rw [hF, sdF_at hx1], rfl⟩ ⟨ks rfl .dt, ks rfl .dt, ks rfl (.dt (vS (by first | rfl | (rw [if_pos (by omega)]; done) | (rw [if_neg (by omega)]; done)))), ks rfl .dt, trivial⟩
  · skip
    refine .exit <| ks_e <| kl_e <| kb_hit <| ks_n <| .seq <| .region <| .cons (.mv rfl rfl) <| .cons (.asg rfl rfl) <| .nil <| ks_n <| .ret ?_
    refine kf_ret rfl ?_ nobox
    exact leafS (by rw [hF, sdF_end (by omega)])

theorem accT_fn {a : Acc} (hn : a.1.size ≤ 1048576) (hl : a.2.length ≤ 100) (hb : ∀ x ∈ a.2, bigA x) : Fn Try.prog 59 [] [ad (rC a)] (.o (st1 (accT a))) [] := by
 have h1 := sdT_len a.2 (fun x hx => (hb x hx).1)
 refine Fn.code0 Try.func59 rfl rfl rfl rfl ?_
 refine .seq <| .region <| .cons (St1.boxP rfl rfl rfl rfl rfl rfl) <| .cons (.asg rfl rfl) <| .nil <| ks_n <| .seq ?_
 refine ACode.drawK (by kernel_rfl) (by kernel_rfl) ?_
 refine .cons (.fP 0 0 false rfl rfl) <| .cons (.l1 1 rfl rfl) <| .cons (St1.addS rfl rfl rfl (by simp only [ByteArray.size_append, bsz1]; omega)) ?_
 refine .cons (.fP 1 0 false rfl rfl) <| .cons (.l1 1 rfl rfl) <| .cons (.cP [.tmp 7] rfl rfl rfl rfl (sdT_fn hl hb) rfl) ?_
 refine .cons (St1.addS rfl rfl rfl (by simp only [ByteArray.size_append, bsz1]; omega)) ?_
 refine .cons (St1.addS rfl rfl rfl (by simp only [ByteArray.size_append, bsz1]; omega)) ?_
 refine .cons (.asg rfl rfl) ?_
 refine .nil ⟨by kernel_rfl, ?_⟩
 refine ks_n <| .ret ?_
 refine kf_ret rfl ?_ nobox
 rfl

def opsT : ByteArray := ⟨#[43, 45, 42]⟩
def exT : Nat → Ex → ByteArray
  | 0, _ => ⟨#[]⟩
  | L + 1, e => if e.k = 1 then decT e.n else if e.k = 2 then ⟨#[123]⟩ ++ affT e.i ++ ⟨#[125]⟩ else if e.k = 3 then accT e.r else
    ⟨#[40]⟩ ++ exT L (e.ks.getD 0 exZ) ++ opsT.extract (e.k - 4).toNat ((e.k - 4).toNat + 1) ++ exT L (e.ks.getD 1 exZ) ++ ⟨#[41]⟩
def bT : Nat → Nat
  | 0 => 0
  | L + 1 => 2 * bT L + 410
theorem arrV_one {s : ByteArray} (h : arrV s = true) : s.size = 1 := by
  unfold arrV at h
  split at h
  · rename_i b hb
    have := congrArg List.length hb
    rw [Array.length_toList] at this; exact this
  · cases h
theorem accV_ok {d : Nat} {a : Acc} (h : accV d a = true) : a.1.size = 1 ∧ a.2.length ≤ 2 ∧ ∀ x ∈ a.2, bigA x := by
  have h1 := accV_at h
  rw [accV, Bool.and_eq_true] at h
  exact ⟨arrV_one h.1, h1.1.2, fun x hx => affV_big (h1.2 x hx)⟩
theorem accT_len {d : Nat} {a : Acc} (h : accV d a = true) : (accT a).size ≤ 250 := by
  obtain ⟨h1, h2, h3⟩ := accV_ok h
  have := sdT_len a.2 fun x hx => (h3 x hx).1
  rw [accT]; simp only [ByteArray.size_append, bsz1]; omega
theorem exV_un {d L : Nat} {e : Ex} (h : exV d (L + 1) e = true) : kidV e.k e.ks.length = true ∧ fldV d e.k e.n e.i e.r = true ∧ ∀ x ∈ e.ks, exV d L x = true := by
  rw [exV, Bool.and_eq_true, Bool.and_eq_true, List.all_eq_true] at h
  exact ⟨h.1.1, h.1.2, h.2⟩
theorem fld_two {d : Nat} {k n : Int} {i : Aff} {r : Acc} (h : fldV d k n i r = true) (hk : k = 2) : affV i = true := by
  subst hk; simp [fldV] at h; exact h.1.2.1
theorem fld_three {d : Nat} {k n : Int} {i : Aff} {r : Acc} (h : fldV d k n i r = true) (hk : k = 3) : accV d r = true := by
  subst hk; simp [fldV] at h; exact h.2
theorem kid_op {k : Int} {n : Nat} (h : kidV k n = true) (h1 : ¬ k = 1) (h2 : ¬ k = 2) (h3 : ¬ k = 3) : 4 ≤ k ∧ k ≤ 6 ∧ n = 2 := by
  unfold kidV at h
  split at h
  · omega
  · split at h
    · simp at h; omega
    · cases h
theorem opsT_len (i : Nat) : (opsT.extract i (i + 1)).size ≤ 1 := by rw [ByteArray.size_extract]; omega
theorem exT_len {d : Nat} : ∀ {L : Nat} {e : Ex}, exV d L e = true → (exT L e).size ≤ bT L
  | 0, e, h => by cases h
  | L + 1, e, h => by
    obtain ⟨h1, h2, h3⟩ := exV_un h
    rw [exT, bT]
    split
    · have := decT_len e.n; omega
    · split
      · rename_i hk; have := affT_len e.i (affV_big (fld_two h2 hk)).1; simp only [ByteArray.size_append, bsz1]; omega
      · split
        · rename_i hk; have := accT_len (fld_three h2 hk); omega
        · rename_i k1 k2 k3
          obtain ⟨q1, q2, q3⟩ := kid_op h1 k1 k2 k3
          have a1 := exT_len (h3 _ (getD_mem (l := e.ks) (i := 0) (d := exZ) (by omega)))
          have a2 := exT_len (h3 _ (getD_mem (l := e.ks) (i := 1) (d := exZ) (by omega)))
          have a3 := opsT_len (e.k - 4).toNat
          simp only [ByteArray.size_append, bsz1]; omega

theorem exT_one {d L : Nat} {e : Ex} (hv : exV d (L + 1) e = true) (hb : bT (L + 1) ≤ 1048576) (ih : ∀ x, exV d L x = true → Fn Try.prog 60 [] [ad (rX x)] (.o (st1 (exT L x))) []) : Fn Try.prog 60 [] [ad (rX e)] (.o (st1 (exT (L + 1) e))) [] := by
 obtain ⟨h1, h2, h3⟩ := exV_un hv
 have hn := exV_n hv
 rw [bT] at hb
 refine Fn.code0 Try.func60 rfl rfl rfl rfl ?_
 refine .seq <| .region <| .cons (St1.boxP rfl rfl rfl rfl rfl rfl) <| .cons (.asg rfl rfl) <| .nil <| ks_n <| .seq <| .seq <| .region <| .cons (.fP 0 0 false rfl rfl) <| .cons (.l1 1 rfl rfl) <| .nil <| ks_n <| .block <| .seq <| .region <| .cons (.eq rfl rfl rfl) <| .cons (.asg rfl rfl) <| .nil <| ks_n ?_
 refine .cD rfl (fun h5 => ?_) (fun h5 => ?_)
 ·skip
  refine .seq <| .region <| .cons (.fP 1 0 false rfl rfl) <| .cons (.l1 1 rfl rfl) <| .cons (.cP [.tmp 8] rfl rfl rfl rfl (l16Dec_fn e.n (by omega) (by omega)) rfl) ?_
  refine .cons (.asg rfl rfl) <| .nil <| ks_n <| .ret <| kb_r <| ks_r ?_
  refine kf_ret rfl ?_ nobox
  exact leafS (by rw [exT, if_pos h5])
 ·skip
  refine .seq <| .region <| .cons (.eq rfl rfl rfl) <| .cons (.asg rfl rfl) <| .nil <| ks_n ?_
  refine .cD rfl (fun h10 => ?_) (fun h10 => ?_)
  ·skip
   have hba := affV_big (fld_two h2 h10)
   have hla := affT_len e.i hba.1
   refine .seq <| .region <| .cons (.fP 2 1 true rfl rfl) <| .cons (.lN 2 rfl rfl rfl) <| .cons (.cP [.tmp 13] rfl rfl rfl rfl (l1Text_fn hba) rfl) ?_
   refine .cons (St1.addS rfl rfl rfl (by simp only [bsz1]; omega)) ?_
   refine .cons (St1.addS rfl rfl rfl (by simp only [ByteArray.size_append, bsz1]; omega)) ?_
   refine .cons (.asg rfl rfl) <| .nil <| ks_n <| .ret <| kb_r <| ks_r ?_
   refine kf_ret rfl ?_ nobox
   exact leafS (by rw [exT, if_neg h5, if_pos h10])
  ·skip
   refine .seq <| .region <| .cons (.eq rfl rfl rfl) <| .cons (.asg rfl rfl) <| .nil <| ks_n ?_
   refine .cD rfl (fun h17 => ?_) (fun h17 => ?_)
   ·skip
    have hac := accV_ok (fld_three h2 h17)
    refine .seq <| .region <| .cons (.fP 4 1 true rfl rfl) <| .cons (.lN 2 rfl rfl rfl) <| .cons (.cP [.tmp 20] rfl rfl rfl rfl (accT_fn (by omega) (by omega) hac.2.2) rfl) ?_
    refine .cons (.asg rfl rfl) <| .nil <| ks_n <| .ret <| kb_r <| ks_r ?_
    refine kf_ret rfl ?_ nobox
    exact leafS (by rw [exT, if_neg h5, if_neg h10, if_pos h17])
   ·skip
    obtain ⟨q1, q2, q3⟩ := kid_op h1 h5 h10 h17
    have hk0 := h3 _ (getD_mem (l := e.ks) (i := 0) (d := exZ) (by omega))
    have hk1 := h3 _ (getD_mem (l := e.ks) (i := 1) (d := exZ) (by omega))
    have a1 := exT_len hk0
    have a2 := exT_len hk1
    have a3 : (({ data := #[43, 45, 42] } : ByteArray).extract (e.k - 4).toNat ((e.k - 4).toNat + 1)).size ≤ 1 := opsT_len (e.k - 4).toNat
    refine .skip <| kb_n <| ks_n <| .seq ?_
    refine ACode.drawK (by kernel_rfl) (by kernel_rfl) ?_
    refine .cons (.fP 6 0 false rfl rfl) <| .cons (.l1 1 rfl rfl) <| .cons (.xL 77 7 112 (i := 0) rfl rfl rfl rfl rfl (rE_at (getD_at2 (l := e.ks) (i := 0) (d := exZ) (by omega)))) ?_
    refine .cons (.lN 7 rfl rfl rfl) <| .cons (.cP [.tmp 25] rfl rfl rfl rfl (ih (e.ks.getD 0 exZ) hk0) rfl) ?_
    refine .cons (St1.addS rfl rfl rfl (by simp only [ByteArray.size_append, bsz1]; omega)) ?_
    refine .cons (.fP 0 0 false rfl rfl) <| .cons (.l1 1 rfl rfl) <| .cons (.sb rfl rfl rfl) <| .cons (.fP 0 0 false rfl rfl) <| .cons (.l1 1 rfl rfl) <| .cons (.sb rfl rfl rfl) <| .cons (.pl rfl rfl rfl) <| .cons (St1.slS2 (i := (e.k - 4).toNat) (j := ((e.k - 4).toNat + 1)) rfl Try.underlying9 rfl rfl rfl (by first | rfl | omega) (by first | rfl | omega) ⟨by omega, by show _ ≤ 3; omega⟩) ?_
    refine .cons (St1.addS rfl rfl rfl (by simp only [ByteArray.size_append, bsz1]; omega)) ?_
    refine .cons (.fP 6 0 false rfl rfl) <| .cons (.l1 1 rfl rfl) <| .cons (.xL 77 7 112 (i := 1) rfl rfl rfl rfl rfl (rE_at (getD_at2 (l := e.ks) (i := 1) (d := exZ) (by omega)))) ?_
    refine .cons (.lN 7 rfl rfl rfl) <| .cons (.cP [.tmp 40] rfl rfl rfl rfl (ih (e.ks.getD 1 exZ) hk1) rfl) ?_
    refine .cons (St1.addS rfl rfl rfl (by simp only [ByteArray.size_append, bsz1]; omega)) ?_
    refine .cons (St1.addS rfl rfl rfl (by simp only [ByteArray.size_append, bsz1]; omega)) ?_
    refine .cons (.asg rfl rfl) ?_
    refine .nil ⟨by kernel_rfl, ?_⟩
    refine ks_n <| .ret ?_
    refine kf_ret rfl ?_ nobox
    exact leafS (by rw [exT, if_neg h5, if_neg h10, if_neg h17]; rfl)

theorem exT_fn {d : Nat} : ∀ {L : Nat}, bT L ≤ 1048576 → ∀ e : Ex, exV d L e = true → Fn Try.prog 60 [] [ad (rX e)] (.o (st1 (exT L e))) []
  | 0, _, e, h => by cases h
  | L + 1, hb, e, h => exT_one h hb fun x hx => exT_fn (by rw [bT] at hb; omega) x hx
def stmT (s : Stm) : ByteArray := accT s.1 ++ ⟨#[61]⟩ ++ exT 5 s.2
def fmtS (s : Stm) : ByteArray := if stmtV 4 s = true then stmT s else ⟨#[]⟩
theorem bT5 : bT 5 ≤ 13000 := by decide

theorem fmtS_fn {s : Stm} (hs : szS s ≤ 1099511627776) : Fn Try.prog 78 [] [ad (rS s)] (.o (st1 (fmtS s))) [] := by
 refine Fn.code0 Try.func78 rfl rfl rfl rfl ?_
 refine .seq <| .region <| .cons (St1.boxP rfl rfl rfl rfl rfl rfl) <| .cons (.asg rfl rfl) <| .nil <| ks_n <| .seq <| .seq <| .region <| .cons (.lN 9 rfl rfl rfl) <| .cons (.cP [.tmp 3, .const (.int .i64 (4))] rfl rfl rfl rfl (specStmtV_fn 4 s hs) rfl) ?_
 refine .cons (.nt rfl rfl) <| .nil <| ks_n ?_
 refine ACode.condT rfl (fun h5 => ?_) (fun h5 => ?_)
 ·try simp only [zs1, zs2, zs3, zs4, zs5, zs6, zs7] at h5
  refine .seq <| .region <| .cons (.asg rfl rfl) <| .nil <| ks_n <| .ret <| ks_r ?_
  refine kf_ret rfl ?_ nobox
  exact leafS (by rw [fmtS, if_neg (by rw [h5]; decide)])
 ·try simp only [zs1, zs2, zs3, zs4, zs5, zs6, zs7] at h5
  have hV := stmtV_ex h5
  have hex := hV.1
  have hac := accV_ok hV.2.1
  have b1 := accT_len hV.2.1
  have b2 := exT_len hex
  have b3 := bT5
  refine .skip <| ks_n <| .seq ?_
  refine ACode.drawK (by kernel_rfl) (by kernel_rfl) ?_
  refine .cons (.fP 0 1 true rfl rfl) <| .cons (.lN 2 rfl rfl rfl) <| .cons (.cP [.tmp 7] rfl rfl rfl rfl (accT_fn (a := s.1) (by omega) (by omega) hac.2.2) rfl) ?_
  refine .cons (St1.addS rfl rfl rfl (by simp only [ByteArray.size_append, bsz1]; omega)) ?_
  refine .cons (.fP 2 6 true rfl rfl) <| .cons (.lN 7 rfl rfl rfl) <| .cons (.cP [.tmp 11] rfl rfl rfl rfl (exT_fn (L := 5) (Nat.le_trans bT5 (by omega)) s.2 hex) rfl) ?_
  refine .cons (St1.addS rfl rfl rfl (by simp only [ByteArray.size_append, bsz1]; omega)) ?_
  refine .cons (.asg rfl rfl) ?_
  refine .nil ⟨by kernel_rfl, ?_⟩
  refine ks_n <| .ret ?_
  refine kf_ret rfl ?_ nobox
  exact leafS (by rw [fmtS, if_pos h5]; rfl)

/-! ### Statements -/
def zSt : Stm := (zC, exZ)
def psV (s : ByteArray) : Stm × Bool := if s.size < 4 then (zSt, false) else if (accP s 0).2 < 0 ∨ (s.size : Int) ≤ (accP s 0).2 then (zSt, false) else
  if sEq (fmtS ((accP s 0).1, (exP s 5 ((accP s 0).2 + 1)).1)) s = true then (((accP s 0).1, (exP s 5 ((accP s 0).2 + 1)).1), true) else (zSt, false)
theorem szAs_le {l : List Aff} {k : Nat} (h : ∀ x ∈ l, x.1.length ≤ k) : szAs l ≤ (k + 1) * l.length := by
  have : ∀ l : List Aff, (∀ x ∈ l, x.1.length ≤ k) → (l.map fun a => a.1.length).sum ≤ k * l.length := by
    intro l
    induction l with
    | nil => intro _; simp
    | cons x l ih =>
      intro h
      have h1 := ih fun y hy => h y (List.mem_cons_of_mem _ hy)
      have h2 := h x List.mem_cons_self
      rw [List.map_cons, List.sum_cons, List.length_cons, Nat.mul_add]; omega
  have h1 := this l h
  rw [szAs, Nat.add_mul]; omega
theorem sidV_ok (s : ByteArray) : (sidV s).length ≤ 3 ∧ ∀ x ∈ sidV s, x.1.length ≤ 4 := by
  refine ⟨by rw [sidV, List.length_map, List.length_take]; omega, fun x hx => ?_⟩
  rw [sidV] at hx
  obtain ⟨t, _, rfl⟩ := List.mem_map.1 hx
  exact pafV_len t
theorem sidV_sz (s : ByteArray) : szAs (sidV s) ≤ 15 := by
  have h := sidV_ok s
  have := szAs_le h.2
  omega
theorem accP_sz (s : ByteArray) (a : Nat) : szC (accP s a).1 ≤ 16 := by
  unfold accP; split
  · decide
  · have := sidV_sz (s.extract (a + 2) (unV s a 93).toNat)
    have h2 : (s.extract a (a + 1)).size ≤ 1 := by rw [ByteArray.size_extract]; omega
    show (s.extract a (a + 1)).size + szAs (sidV (s.extract (a + 2) (unV s a 93).toNat)) ≤ 16
    omega
def bE : Nat → Nat
  | 0 => 24
  | L + 1 => 2 * bE L + 26
theorem bE_ge (L : Nat) : 24 ≤ bE L := by
  cases L with
  | zero => exact Nat.le_refl _
  | succ L => rw [bE]; omega
theorem szE_mk4 (k n : Int) (i : Aff) (r : Acc) (ks : List Ex) : szE (.mk k n i r ks) = i.1.length + szC r + ks.length + szEs ks := by rw [szE]
theorem szE_Z : szE exZ = 0 := by decide
theorem exP_sz (s : ByteArray) : ∀ (L : Nat) (a : Int), szE (exP s L a).1 ≤ bE L
  | 0, a => by rw [exP, szE_Z]; exact Nat.zero_le _
  | L + 1, a => by
    have hg := bE_ge (L + 1)
    have hzc : szC zC = 0 := by decide
    have hz := szE_Z
    rw [exP]; split
    · dsimp only; omega
    · split
      · unfold exI; split
        · dsimp only; omega
        · have := pafV_len (s.extract (a.toNat + 1) (unV s a.toNat 125).toNat)
          rw [szE_mk4, hzc]; simp [szEs]; omega
      · split
        · have := accP_sz s a.toNat
          rw [szE_mk4]; simp [szEs]; omega
        · split
          · unfold exR; split
            · dsimp only; omega
            · split
              · dsimp only; omega
              · have h1 := exP_sz s L (a + 1)
                have h2 := exP_sz s L ((exP s L (a + 1)).2 + 1)
                rw [szE_mk4, hzc]; simp [szEs, bE]; omega
          · unfold exN; split
            · dsimp only; omega
            · rw [szE_mk4, hzc]; simp [szEs]
theorem bE5 : bE 5 ≤ 2000 := by decide
theorem psV_sz (s : ByteArray) : szS (psV s).1 ≤ 2016 := by
  have hz : szS zSt = 0 := by decide
  unfold psV; split
  · dsimp only; omega
  · split
    · dsimp only; omega
    · split
      · have h1 := accP_sz s 0
        have h2 := exP_sz s 5 ((accP s 0).2 + 1)
        have h3 := bE5
        show szC (accP s 0).1 + szE (exP s 5 ((accP s 0).2 + 1)).1 ≤ 2016
        omega
      · dsimp only; omega

theorem psV_fn {s : ByteArray} (hs : s.size ≤ 1048576) : Fn Try.prog 56 [] [st1 s] (.tup [ad (rS (psV s).1), bo1 (psV s).2]) [] := by
  obtain ⟨w, n, hw⟩ : ∃ w n, accP s 0 = (w, n) := ⟨_, _, rfl⟩
  have hb := accP_bd s 0
  have hzw := accP_sz s 0
  rw [hw] at hb hzw
  obtain ⟨e, q, he⟩ : ∃ e q, exP s 5 (n + 1) = (e, q) := ⟨_, _, rfl⟩
  have hze := exP_sz s 5 (n + 1)
  rw [he] at hze
  have hb5 := bE5
  dsimp only at hb hzw hze
  refine Fn.code0 Try.func56 rfl rfl rfl rfl ?_
  refine .seq <| .region <| .cons (.al 102 [.string ByteArray.empty, .slice none 0 0, .int .i64 0, .int .i64 0, .slice none 0 0, .int .i64 0, .string ByteArray.empty, .slice none 0 0, .slice none 0 0] rfl rfl rfl) <| .cons (.asg rfl rfl) <| .nil <| ks_n <| .seq <| .seq <| .region <| .cons (.mv rfl rfl) <| .cons (St1.lenS rfl rfl rfl rfl rfl (by kernel_rfl) rfl) ?_
  refine .cons (.ls rfl rfl rfl) <| .nil <| ks_n ?_
  refine .cD rfl (fun h11 => ?_) (fun h11 => ?_)
  · skip
    refine .seq <| .region <| .cons (.buZ [] [(0, 2), (2, 7)] [.string ByteArray.empty, .slice none 0 0, .int .i64 0, .int .i64 0, .slice none 0 0, .int .i64 0, .string ByteArray.empty, .slice none 0 0, .slice none 0 0] [dS ⟨#[]⟩, .list 2 [], dI 0, dI 0, .list 1 [], dI 0, dS ⟨#[]⟩, .list 2 [], .list 7 []] rfl rfl (.val rfl (.list _ (.val rfl (.val rfl (.list _ (.val rfl (.val rfl (.list _ (.list _ ZR.nil))))))))) rfl rfl) <| .cons (.sT 9 true rfl rfl rfl rfl rfl rfl rfl) <| .cons (.asg rfl rfl) <| .nil <| ks_n <| .ret <| ks_r ?_
    refine kf_ret rfl ?_ nobox
    have hR : psV s = (zSt, false) := by rw [psV, if_pos (by omega)]
    rw [hR]; rfl
  · skip
    refine .skip <| ks_n <| .seq <| .region <| .cons (.mv rfl rfl) <| .cons (.cP [.tmp 14, .const (.int .i64 (0))] rfl rfl rfl rfl (show Fn Try.prog 76 [] [st1 s, nat1 ((0 : Nat) : Int)] (.tup [ad (rC w), nat1 n]) [] from by have h := accP_fn (s := s) (a := 0) hs (by omega); rw [hw] at h; exact h) rfl) ?_
    refine .cons (.mv rfl rfl) <| .cons (.ex rfl rfl rfl) <| .cons (.ex rfl rfl rfl) <| .cons (.al 104 [.string ByteArray.empty, .slice none 0 0] rfl rfl rfl) <| .cons (.sT 2 true rfl rfl rfl rfl rfl rfl rfl) <| .cons (.asg rfl rfl) <| .nil <| ks_n <| .seq <| .seq ?_
    refine ACode.cut [(.t 0, .v (.o (st1 s))), (.t 2, .v (.o (.c (.box 840 9 0 0)))), (.t 3, .v (.o (bo1 false))), (.t 4, .v (.o (.c (.box 841 2 0 0)))), (.t 5, .v (.o (nat1 n))), (.t 25, .v (.o (bo1 (decide (n < 0 ∨ (s.size : Int) ≤ n))))), (.b 840, .b 79 9 [[.d (dS ⟨#[]⟩), .d (.val (.slice none 0 0)), .d (dI 0), .d (dI 0), .d (.val (.slice none 0 0)), .d (dI 0), .d (dS ⟨#[]⟩), .d (.val (.slice none 0 0)), .d (.val (.slice none 0 0))]]), (.u 840, .u), (.b 841, .b 72 2 [[.d (dS w.1), .d (dAs w.2)]]), (.u 841, .u)] ?_ ?_
    · skip
      refine .region <| .cons (.mv rfl rfl) <| .cons (.ls rfl rfl rfl) <| .cons (.mv rfl rfl) ?_
      refine .cD 20 rfl (fun g20 => ?_) (fun g20 => ?_)
      · skip
        refine .cons (.gF rfl rfl rfl) <| .cons (.gF rfl rfl rfl) <| .cons (.gF rfl rfl rfl) <| .cons (.gF rfl rfl rfl) <| .cons (.pT rfl rfl rfl) <| .nil ?_
        exact kc_n (Wk.keep [(840, 102), (841, 104)] rfl rfl ⟨ks rfl .dt, ks rfl (.c .bx), ks rfl .dt, ks rfl (.c .bx), ks rfl .dt, ks rfl (.dt (vB (by first | (simp [*]; done) | grind))), kb 102 rfl (.cons (.cons .dt (.cons .dt (.cons .dt (.cons .dt (.cons .dt (.cons .dt (.cons .dt (.cons .dt (.cons .dt Ctos.nil))))))))) .nil), kb 104 rfl (.cons (.cons .dt (.cons .dt Ctos.nil)) .nil), trivial⟩)
      · skip
        refine .cons (.gT rfl rfl rfl (.mv rfl rfl)) <| .cons (.gT rfl rfl rfl (.mv rfl rfl)) <| .cons (.gT rfl rfl rfl (St1.lenS rfl rfl rfl rfl rfl (by kernel_rfl) rfl)) ?_
        refine .cons (.gT rfl rfl rfl (.ge rfl rfl rfl)) <| .cons (.pF rfl rfl rfl) <| .nil ?_
        exact kc_n (Wk.keep [(840, 102), (841, 104)] rfl rfl ⟨ks rfl .dt, ks rfl (.c .bx), ks rfl .dt, ks rfl (.c .bx), ks rfl .dt, ks rfl (.dt (vB (by first | (simp [*]; done) | grind))), kb 102 rfl (.cons (.cons .dt (.cons .dt (.cons .dt (.cons .dt (.cons .dt (.cons .dt (.cons .dt (.cons .dt (.cons .dt Ctos.nil))))))))) .nil), kb 104 rfl (.cons (.cons .dt (.cons .dt Ctos.nil)) .nil), trivial⟩)
    refine ks_n ?_
    refine ACode.condT rfl (fun h25 => ?_) (fun h25 => ?_)
    · try simp only [zs1, zs2, zs3, zs4, zs5, zs6, zs7] at h25
      have h25 : n < 0 ∨ (s.size : Int) ≤ n := by simpa using h25
      have hR : psV s = (zSt, false) := by rw [psV, if_neg (by omega), hw, if_pos h25]
      refine .seq <| .region <| .cons (.buZ [] [(0, 2), (2, 7)] [.string ByteArray.empty, .slice none 0 0, .int .i64 0, .int .i64 0, .slice none 0 0, .int .i64 0, .string ByteArray.empty, .slice none 0 0, .slice none 0 0] [dS ⟨#[]⟩, .list 2 [], dI 0, dI 0, .list 1 [], dI 0, dS ⟨#[]⟩, .list 2 [], .list 7 []] rfl rfl (.val rfl (.list _ (.val rfl (.val rfl (.list _ (.val rfl (.val rfl (.list _ (.list _ ZR.nil))))))))) rfl rfl) <| .cons (.sT 9 true rfl rfl rfl rfl rfl rfl rfl) <| .cons (.asg rfl rfl) <| .nil <| ks_n <| .ret <| ks_r ?_
      refine kf_ret rfl ?_ nobox
      rw [hR]; rfl
    · try simp only [zs1, zs2, zs3, zs4, zs5, zs6, zs7] at h25
      have h25 : ¬ (n < 0 ∨ (s.size : Int) ≤ n) := by simpa using h25
      have hR0 : psV s = if sEq (fmtS (w, e)) s = true then ((w, e), true) else (zSt, false) := by rw [psV, if_neg (by omega), hw, if_neg h25]; dsimp only; rw [he]
      refine .skip <| ks_n <| .seq <| .region <| .cons (.mv rfl rfl) <| .cons (.mv rfl rfl) <| .cons (.pl rfl rfl rfl) <| .cons (.cP [.tmp 28, .tmp 30, .const (.int .i64 (5))] rfl rfl rfl rfl (show Fn Try.prog 77 [] [st1 s, nat1 (n + 1), nat1 ((5 : Nat) : Int)] (.tup [ad (rX e), nat1 q]) [] from by have h := exP_fn hs 5 (by omega) (n + 1) (by omega) (by omega); rw [he] at h; exact h) rfl) ?_
      refine .cons (.mv rfl rfl) <| .cons (.ex rfl rfl rfl) <| .cons (.ex rfl rfl rfl) <| .cons (.al 106 [.int .i64 0, .int .i64 0, .slice none 0 0, .int .i64 0, .string ByteArray.empty, .slice none 0 0, .slice none 0 0] rfl rfl rfl) <| .cons (.sT 7 true rfl rfl rfl rfl rfl rfl rfl) <| .cons (.asg rfl rfl) <| .nil <| ks_n <| .seq <| .region <| .cons (.bN 2 rfl rfl rfl rfl rfl rfl) <| .cons (.bN 7 rfl rfl rfl rfl rfl rfl) <| .cons (.bu [(0, .tmp 34), (1, .tmp 35)] [(0, 2), (2, 7)] [.string ByteArray.empty, .slice none 0 0, .int .i64 0, .int .i64 0, .slice none 0 0, .int .i64 0, .string ByteArray.empty, .slice none 0 0, .slice none 0 0] rfl rfl rfl rfl rfl) <| .cons (.al 108 [.string ByteArray.empty, .slice none 0 0, .int .i64 0, .int .i64 0, .slice none 0 0, .int .i64 0, .string ByteArray.empty, .slice none 0 0, .slice none 0 0] rfl rfl rfl) <| .cons (.sT 9 true rfl rfl rfl rfl rfl rfl rfl) <| .nil <| ks_n <| .seq <| .seq <| .region <| .cons (.bN 9 rfl rfl rfl rfl rfl rfl) <| .cons (.cP [.tmp 37] rfl rfl rfl rfl (fmtS_fn (s := (w, e)) (by show szC w + szE e ≤ 1099511627776; omega)) rfl) ?_
      refine .cons (.mv rfl rfl) <| .cons (St1.neS rfl rfl rfl) <| .nil <| ks_n ?_
      refine ACode.condT rfl (fun h40 => ?_) (fun h40 => ?_)
      · try simp only [zs1, zs2, zs3, zs4, zs5, zs6, zs7] at h40
        refine .seq <| .region <| .cons (.buZ [] [(0, 2), (2, 7)] [.string ByteArray.empty, .slice none 0 0, .int .i64 0, .int .i64 0, .slice none 0 0, .int .i64 0, .string ByteArray.empty, .slice none 0 0, .slice none 0 0] [dS ⟨#[]⟩, .list 2 [], dI 0, dI 0, .list 1 [], dI 0, dS ⟨#[]⟩, .list 2 [], .list 7 []] rfl rfl (.val rfl (.list _ (.val rfl (.val rfl (.list _ (.val rfl (.val rfl (.list _ (.list _ ZR.nil))))))))) rfl rfl) <| .cons (.sT 9 true rfl rfl rfl rfl rfl rfl rfl) <| .cons (.asg rfl rfl) <| .nil <| ks_n <| .ret <| ks_r ?_
        refine kf_ret rfl ?_ nobox
        have hR : psV s = (zSt, false) := by rw [hR0, if_neg (by rw [h40]; decide)]
        rw [hR]; rfl
      · try simp only [zs1, zs2, zs3, zs4, zs5, zs6, zs7] at h40
        refine .skip <| ks_n <| .seq <| .region <| .cons (.bN 9 rfl rfl rfl rfl rfl rfl) <| .cons (.sT 9 true rfl rfl rfl rfl rfl rfl rfl) <| .cons (.asg rfl rfl) <| .nil <| ks_n <| .ret ?_
        refine kf_ret rfl ?_ nobox
        have hR : psV s = ((w, e), true) := by rw [hR0, if_pos h40]
        rw [hR]; rfl
theorem fold_at {α β : Type} {f : β → α → β} {xs : List α} {i : Nat} {x : α} {o : β} (h : xs[i]? = some x) : (xs.drop i).foldl f o = (xs.drop (i + 1)).foldl f (f o x) := by
  obtain ⟨hl, rfl⟩ := List.getElem?_eq_some_iff.1 h
  rw [List.drop_eq_getElem_cons hl, List.foldl_cons]
theorem fold_end {α β : Type} {f : β → α → β} {xs : List α} {i : Nat} {o : β} (h : xs.length ≤ i) : (xs.drop i).foldl f o = o := by rw [List.drop_of_length_le h]; rfl
def stpL (o : ByteArray) (l : Lp) : ByteArray := o ++ ⟨#[102, 111, 114, 32]⟩ ++ sdT l.1 ++ ⟨#[32]⟩ ++ sdT l.2 ++ ⟨#[10]⟩
def nstT (ns : List Lp) : ByteArray := ns.foldl stpL ⟨#[]⟩
def bigN (ns : List Lp) : Prop := ns.length ≤ 4 ∧ ∀ l ∈ ns, (l.1.length ≤ 2 ∧ ∀ x ∈ l.1, bigA x) ∧ (l.2.length ≤ 2 ∧ ∀ x ∈ l.2, bigA x)
theorem sideV_big {d : Nat} {l : List Aff} (h : sideV d l = true) : l.length ≤ 2 ∧ ∀ x ∈ l, bigA x := by
  rw [sideV, Bool.and_eq_true, Bool.and_eq_true, decide_eq_true_eq, decide_eq_true_eq, List.all_eq_true] at h
  refine ⟨h.2, fun x hx => ?_⟩
  have h1 := h.1.1 x hx
  rw [bndV, Bool.and_eq_true] at h1
  exact affV_big h1.1
theorem nsV_big {ns : List Lp} (h : nsV ns = true) : bigN ns := by
  obtain ⟨h1, h2⟩ := nsV_at h
  refine ⟨h1, fun l hl => ?_⟩
  obtain ⟨i, hi⟩ := List.mem_iff_getElem?.1 hl
  exact ⟨sideV_big (h2 i l hi).1, sideV_big (h2 i l hi).2⟩
theorem side_sz {l : List Aff} (h : l.length ≤ 2 ∧ ∀ x ∈ l, bigA x) : (sdT l).size ≤ 242 := by
  have := sdT_len l fun x hx => (h.2 x hx).1
  omega
theorem sz_for : (⟨#[102, 111, 114, 32]⟩ : ByteArray).size = 4 := rfl

theorem nstT_fn {ns : List Lp} (hb : bigN ns) : Fn Try.prog 58 [] [vD (dLs ns)] (.o (st1 (nstT ns))) [] := by
 have e0 : (⟨#[]⟩ : ByteArray).size = 0 := rfl
 have hb1 := hb.1
 refine Fn.code0 Try.func58 rfl rfl rfl rfl ?_
 refine .seq <| .region <| .cons (.asg rfl rfl) <| .nil <| ks_n <| .seq <| .region <| .cons (.asg rfl rfl) <| .nil <| ks_n <| .seq <| .seq <| .region <| .cons (.asg rfl rfl) <| .nil <| ks_n <| .block ?_
 refine .loopK (fun m σ => (∃ (i : Nat) (o : ByteArray), m = ns.length - i ∧ (i ≤ ns.length) ∧ (o.size ≤ 490 * i) ∧ (nstT ns = (ns.drop i).foldl stpL o) ∧ σ = [(.t 0, .v (.o (vD (dLs ns)))), (.t 2, .v (.o (st1 ⟨#[]⟩))), (.t 3, .v (.o (st1 o))), (.t 4, .v (.o (nat1 (i : Nat))))])) [] ⟨0, ⟨#[]⟩, rfl, by omega, by rw [e0]; omega, rfl, rfl⟩ ⟨ks rfl .dt, ks rfl .dt, ks rfl .dt, ks rfl .dt, trivial⟩ ?_
 rintro m σ ⟨i, o, hm0, hi, ho, hF, rfl⟩
 refine .seq <| .seq <| .region <| .cons (.mv rfl rfl) <| .cons (.mv rfl rfl) <| .cons (.ln 100 2 48 rfl rfl rfl) <| .cons (.ls rfl rfl rfl) <| .nil <| ks_n ?_
 refine .cD rfl (fun h8 => ?_) (fun h8 => ?_)
 ·skip
  obtain ⟨x, hx1⟩ : ∃ x_, ns[i]? = some x_ := ⟨_, List.getElem?_eq_getElem (by omega)⟩
  obtain ⟨hl1, hl2⟩ := hb.2 x (List.mem_of_getElem? hx1)
  have z1 := side_sz hl1
  have z2 := side_sz hl2
  refine .skip <| ks_n <| .seq <| .block ?_
  refine ACode.drawK (by kernel_rfl) (by kernel_rfl) ?_
  refine .cons (.mv rfl rfl) <| .cons (St1.addS rfl rfl rfl (by simp only [ByteArray.size_append, bsz1, sz_for]; omega)) ?_
  refine .cons (.mv rfl rfl) <| .cons (.mv rfl rfl) <| .cons (.xL 100 2 48 rfl rfl rfl rfl rfl (map_at hx1)) ?_
  refine .cons (.fP 0 0 false rfl rfl) <| .cons (.l1 1 rfl rfl) <| .cons (.cP [.tmp 17] rfl rfl rfl rfl (sdT_fn (by omega) hl1.2) rfl) ?_
  refine .cons (St1.addS rfl rfl rfl (by simp only [ByteArray.size_append, bsz1, sz_for]; omega)) ?_
  refine .cons (St1.addS rfl rfl rfl (by simp only [ByteArray.size_append, bsz1, sz_for]; omega)) ?_
  refine .cons (.mv rfl rfl) <| .cons (.mv rfl rfl) <| .cons (.xL 100 2 48 rfl rfl rfl rfl rfl (map_at hx1)) ?_
  refine .cons (.fP 1 0 false rfl rfl) <| .cons (.l1 1 rfl rfl) <| .cons (.cP [.tmp 25] rfl rfl rfl rfl (sdT_fn (by omega) hl2.2) rfl) ?_
  refine .cons (St1.addS rfl rfl rfl (by simp only [ByteArray.size_append, bsz1, sz_for]; omega)) ?_
  refine .cons (St1.addS rfl rfl rfl (by simp only [ByteArray.size_append, bsz1, sz_for]; omega)) ?_
  refine .cons (.asg rfl rfl) ?_
  refine .nil ⟨by kernel_rfl, ?_⟩
  refine kb_n <| ks_n <| .region <| .cons (.mv rfl rfl) <| .cons (.pl rfl rfl rfl) <| .cons (.asg rfl rfl) <| .nil ?_
  refine kl_k [] ⟨i + 1, stpL o x, rfl, by omega, by rw [stpL]; simp only [ByteArray.size_append, bsz1, sz_for]; omega, by rw [hF, fold_at hx1], rfl⟩ ⟨ks rfl .dt, ks rfl .dt, ks rfl .dt, ks rfl .dt, trivial⟩
 ·skip
  refine .exit <| ks_e <| kl_e <| kb_hit <| ks_n <| .seq <| .region <| .cons (.mv rfl rfl) <| .cons (.asg rfl rfl) <| .nil <| ks_n <| .ret ?_
  refine kf_ret rfl ?_ nobox
  exact leafS (by rw [hF, fold_end (by omega)])

theorem fold_len {α : Type} {f : ByteArray → α → ByteArray} {c : Nat} : ∀ (xs : List α) (o : ByteArray), (∀ x ∈ xs, ∀ o : ByteArray, (f o x).size ≤ o.size + c) → (xs.foldl f o).size ≤ o.size + c * xs.length
  | [], o, _ => by simp
  | x :: xs, o, h => by
    have h1 := fold_len xs (f o x) fun y hy => h y (List.mem_cons_of_mem _ hy)
    have h2 := h x List.mem_cons_self o
    rw [List.foldl_cons, List.length_cons, Nat.mul_add]; omega
theorem nstT_len {ns : List Lp} (h : bigN ns) : (nstT ns).size ≤ 1960 := by
  have := fold_len (f := stpL) (c := 490) ns ⟨#[]⟩ fun l hl o => by
    have z1 := side_sz (h.2 l hl).1
    have z2 := side_sz (h.2 l hl).2
    rw [stpL]; simp only [ByteArray.size_append, bsz1, sz_for]; omega
  have e0 : (⟨#[]⟩ : ByteArray).size = 0 := rfl
  have := h.1
  rw [nstT]; omega
def stpD (o : ByteArray) (d : Int) : ByteArray := o ++ ⟨#[32]⟩ ++ decT d
def stpA (o : ByteArray) (a : Arr) : ByteArray := a.2.foldl stpD (o ++ ⟨#[97, 114, 114, 97, 121, 32]⟩ ++ a.1) ++ ⟨#[10]⟩
def stpS (o : ByteArray) (s : Stm) : ByteArray := o ++ accT s.1 ++ ⟨#[61]⟩ ++ exT 5 s.2 ++ ⟨#[10]⟩
def stpP (o : ByteArray) (q : Prt) : ByteArray := q.2.foldl stpS (o ++ ⟨#[112, 97, 114, 116, 10]⟩ ++ nstT q.1)
def prgH : ByteArray := ⟨#[112, 114, 111, 103, 114, 97, 109, 10]⟩
def prgT (g : Prg) : ByteArray := g.2.foldl stpP (g.1.foldl stpA prgH)
def fmtG (g : Prg) : ByteArray := if prgV g = true then prgT g else ⟨#[]⟩
theorem sz6 : (⟨#[97, 114, 114, 97, 121, 32]⟩ : ByteArray).size = 6 := rfl
theorem sz5 : (⟨#[112, 97, 114, 116, 10]⟩ : ByteArray).size = 5 := rfl
theorem prg_big {g : Prg} (h : prgV g = true) : (g.1.length ≤ 4 ∧ ∀ a ∈ g.1, a.1.size = 1 ∧ a.2.length ≤ 2 ∧ ∀ d ∈ a.2, 1 ≤ d ∧ d ≤ 6) ∧ g.2.length ≤ 4 ∧ ∀ q ∈ g.2, bigN q.1 ∧ q.2.length ≤ 4 ∧ ∀ s ∈ q.2, stmtV (q.1.length : Nat) s = true := by
  have hS := (prgV_s h).1
  rw [prgS, Bool.and_eq_true, Bool.and_eq_true, decide_eq_true_eq, List.all_eq_true] at hS
  refine ⟨⟨arrsV_len hS.1, fun a ha => ?_⟩, hS.2.1, fun q hq => ?_⟩
  · have h1 := arrsV_at hS.1 ha
    have h2 := arrOk_at h1
    rw [arrOk, Bool.and_eq_true] at h1
    exact ⟨arrV_one h1.1, h2.1.2, h2.2⟩
  · obtain ⟨h1, h2, h3, _⟩ := prtV_iff.1 (hS.2.2 q hq)
    exact ⟨nsV_big (okP_iff.1 h1).1, h2.2, h3⟩
theorem stpD_len (o : ByteArray) (d : Int) : (stpD o d).size ≤ o.size + 21 := by have := decT_len d; rw [stpD]; simp only [ByteArray.size_append, bsz1]; omega
theorem stpS_len {d : Int} {s : Stm} (h : stmtV d s = true) (o : ByteArray) : (stpS o s).size ≤ o.size + 14000 := by
  have hV := stmtV_ex h
  have b1 := accT_len hV.2.1
  have b2 := exT_len hV.1
  have b3 := bT5
  rw [stpS]; simp only [ByteArray.size_append, bsz1]; omega

theorem fmtG_fn {g : Prg} (hs : szG g ≤ 1073741824) : Fn Try.prog 44 [] [ad (rG g)] (.o (st1 (fmtG g))) [] := by
 refine Fn.code0 Try.func44 rfl rfl rfl rfl ?_
 refine .seq <| .region <| .cons (St1.boxP rfl rfl rfl rfl rfl rfl) <| .cons (.asg rfl rfl) <| .nil <| ks_n <| .seq <| .seq <| .region <| .cons (.lN 2 rfl rfl rfl) <| .cons (.cP [.tmp 9] rfl rfl rfl rfl (specPV_fn hs) rfl) ?_
 refine .cons (.nt rfl rfl) <| .nil <| ks_n ?_
 refine ACode.condT rfl (fun h11 => ?_) (fun h11 => ?_)
 ·try simp only [zs1, zs2, zs3, zs4, zs5, zs6, zs7] at h11
  refine .seq <| .region <| .cons (.asg rfl rfl) <| .nil <| ks_n <| .ret <| ks_r ?_
  refine kf_ret rfl ?_ nobox
  exact leafS (by rw [fmtG, if_neg (by rw [h11]; decide)])
 ·try simp only [zs1, zs2, zs3, zs4, zs5, zs6, zs7] at h11
  obtain ⟨⟨hA, hA2⟩, hP, hP2⟩ := prg_big h11
  have hT : fmtG g = prgT g := if_pos h11
  refine .skip <| ks_n <| .seq <| .region <| .cons (.asg rfl rfl) <| .nil <| ks_n <| .seq <| .seq <| .region <| .cons (.asg rfl rfl) <| .nil <| ks_n <| .block ?_
  refine .loopK (fun m σ => (∃ (i : Nat) (o : ByteArray), m = g.1.length - i ∧ (i ≤ g.1.length) ∧ (o.size ≤ 100 + 100 * i) ∧ (g.1.foldl stpA prgH = (g.1.drop i).foldl stpA o) ∧ σ = [(.t 1, .v (.o (.c (.ptr (rG g))))), (.t 2, .v (.o (st1 ⟨#[]⟩))), (.t 3, .v (.o (st1 o))), (.t 4, .v (.o (nat1 (i : Nat))))])) [] ⟨0, prgH, rfl, by omega, by decide, rfl, rfl⟩ ⟨ks rfl .dt, ks rfl .dt, ks rfl (.dt (vS (by first | rfl | (rw [hE2]; done)))), ks rfl .dt, trivial⟩ ?_
  rintro m σ ⟨i, o, hm0, hi, ho, hF, rfl⟩
  refine .seq <| .seq <| .region <| .cons (.mv rfl rfl) <| .cons (.fP 0 0 false rfl rfl) <| .cons (.l1 1 rfl rfl) <| .cons (.ln 88 2 40 rfl rfl rfl) <| .cons (.ls rfl rfl rfl) <| .nil <| ks_n ?_
  refine .cD rfl (fun h16 => ?_) (fun h16 => ?_)
  ·skip
   obtain ⟨a, ha1⟩ : ∃ x_, g.1[i]? = some x_ := ⟨_, List.getElem?_eq_getElem (by omega)⟩
   have haa := hA2 a (List.mem_of_getElem? ha1)
   refine .skip <| ks_n <| .seq <| .block <| .seq <| .region <| .cons (.mv rfl rfl) <| .cons (St1.addS rfl rfl rfl (by first | omega | (simp only [ByteArray.size_append, bsz1, sz6, sz5]; omega))) ?_
   refine .cons (.fP 0 0 false rfl rfl) <| .cons (.l1 1 rfl rfl) <| .cons (.mv rfl rfl) <| .cons (.xL 88 2 40 rfl rfl rfl rfl rfl (map_at ha1)) ?_
   refine .cons (.fP 0 0 false rfl rfl) <| .cons (.l1 1 rfl rfl) <| .cons (St1.addS rfl rfl rfl (by first | omega | (simp only [ByteArray.size_append, bsz1, sz6, sz5]; omega))) ?_
   refine .cons (.asg rfl rfl) <| .nil <| ks_n <| .seq <| .seq <| .region <| .cons (.asg rfl rfl) <| .nil <| ks_n <| .block ?_
   refine .loopK (fun m σ => (∃ (k : Nat) (o2 : ByteArray), m = a.2.length - k ∧ (k ≤ a.2.length) ∧ (o2.size ≤ 120 + 100 * i + 21 * k) ∧ (a.2.foldl stpD (o ++ ⟨#[97, 114, 114, 97, 121, 32]⟩ ++ a.1) = (a.2.drop k).foldl stpD o2) ∧ σ = [(.t 1, .v (.o (.c (.ptr (rG g))))), (.t 2, .v (.o (st1 ⟨#[]⟩))), (.t 3, .v (.o (st1 o2))), (.t 4, .v (.o (nat1 (i : Nat)))), (.t 5, .v (.o (nat1 (k : Nat))))])) [] ⟨0, o ++ ⟨#[97, 114, 114, 97, 121, 32]⟩ ++ a.1, rfl, by omega, by simp only [ByteArray.size_append, sz6]; omega, rfl, rfl⟩ ⟨ks rfl .dt, ks rfl .dt, ks rfl .dt, ks rfl .dt, ks rfl .dt, trivial⟩ ?_
   rintro m σ ⟨k, o2, hm0, hk, ho2, hG, rfl⟩
   refine .seq <| .seq <| .region <| .cons (.mv rfl rfl) <| .cons (.fP 0 0 false rfl rfl) <| .cons (.l1 1 rfl rfl) <| .cons (.mv rfl rfl) <| .cons (.xL 88 2 40 rfl rfl rfl rfl rfl (map_at ha1)) ?_
   refine .cons (.fP 1 0 false rfl rfl) <| .cons (.l1 1 rfl rfl) <| .cons (.ln 3 1 8 rfl rfl rfl) <| .cons (.ls rfl rfl rfl) <| .nil <| ks_n ?_
   refine .cD rfl (fun h36 => ?_) (fun h36 => ?_)
   ·skip
    obtain ⟨d, hd1⟩ : ∃ x_, a.2[k]? = some x_ := ⟨_, List.getElem?_eq_getElem (by omega)⟩
    have hdd := haa.2.2 d (List.mem_of_getElem? hd1)
    have hdl := decT_len d
    refine .skip <| ks_n <| .seq <| .block <| .region <| .cons (.mv rfl rfl) <| .cons (St1.addS rfl rfl rfl (by first | omega | (simp only [ByteArray.size_append, bsz1, sz6, sz5]; omega))) ?_
    refine .cons (.fP 0 0 false rfl rfl) <| .cons (.l1 1 rfl rfl) <| .cons (.mv rfl rfl) <| .cons (.xL 88 2 40 rfl rfl rfl rfl rfl (map_at ha1)) ?_
    refine .cons (.fP 1 0 false rfl rfl) <| .cons (.l1 1 rfl rfl) <| .cons (.mv rfl rfl) <| .cons (.xL 3 1 8 rfl rfl rfl rfl rfl (map_at hd1)) ?_
    refine .cons (.l1 1 rfl rfl) <| .cons (.cP [.tmp 49] rfl rfl rfl rfl (l16Dec_fn d (by omega) (by omega)) rfl) ?_
    refine .cons (St1.addS rfl rfl rfl (by first | omega | (simp only [ByteArray.size_append, bsz1, sz6, sz5]; omega))) ?_
    refine .cons (.asg rfl rfl) <| .nil <| kb_n <| ks_n <| .region <| .cons (.mv rfl rfl) <| .cons (.pl rfl rfl rfl) <| .cons (.asg rfl rfl) <| .nil ?_
    refine kl_k [] ⟨k + 1, stpD o2 d, rfl, by omega, by have := stpD_len o2 d; omega, by rw [hG, fold_at hd1], rfl⟩ ⟨ks rfl .dt, ks rfl .dt, ks rfl .dt, ks rfl .dt, ks rfl .dt, trivial⟩
   ·skip
    have hE2 := hG.trans (fold_end (by omega))
    refine .exit <| ks_e <| kl_e <| kb_hit <| ks_n <| .region <| .cons (.mv rfl rfl) <| .cons (St1.addS rfl rfl rfl (by first | omega | (simp only [ByteArray.size_append, bsz1, sz6, sz5]; omega))) ?_
    refine .cons (.asg rfl rfl) <| .nil <| kb_n <| ks_n <| .region <| .cons (.mv rfl rfl) <| .cons (.pl rfl rfl rfl) <| .cons (.asg rfl rfl) <| .nil ?_
    refine kl_k [] ⟨i + 1, o2 ++ ⟨#[10]⟩, rfl, by omega, by simp only [ByteArray.size_append, bsz1]; omega, by rw [hF, fold_at ha1]; show List.foldl stpA (a.2.foldl stpD _ ++ _) _ = _; rw [hE2], rfl⟩ ⟨ks rfl .dt, ks rfl .dt, ks rfl (.dt (vS (by first | rfl | (rw [hE2]; done)))), ks rfl .dt, trivial⟩
  ·skip
   have hE := hF.trans (fold_end (by omega))
   refine .exit <| ks_e <| kl_e <| kb_hit <| ks_n <| .seq <| .seq <| .region <| .cons (.asg rfl rfl) <| .nil <| ks_n <| .block ?_
   refine .loopK (fun m σ => (∃ (j : Nat) (u : ByteArray), m = g.2.length - j ∧ (j ≤ g.2.length) ∧ (u.size ≤ 1000 + 100000 * j) ∧ (prgT g = (g.2.drop j).foldl stpP u) ∧ σ = [(.t 1, .v (.o (.c (.ptr (rG g))))), (.t 2, .v (.o (st1 ⟨#[]⟩))), (.t 3, .v (.o (st1 u))), (.t 6, .v (.o (nat1 (j : Nat))))])) [] ⟨0, o, rfl, by omega, by omega, by rw [prgT, hE]; rfl, rfl⟩ ⟨ks rfl .dt, ks rfl .dt, ks rfl .dt, ks rfl .dt, trivial⟩ ?_
   rintro m σ ⟨j, u, hm0, hj, hu, hJ, rfl⟩
   refine .seq <| .seq <| .region <| .cons (.mv rfl rfl) <| .cons (.fP 1 0 false rfl rfl) <| .cons (.l1 1 rfl rfl) <| .cons (.ln 65 2 48 rfl rfl rfl) <| .cons (.ls rfl rfl rfl) <| .nil <| ks_n ?_
   refine .cD rfl (fun h58 => ?_) (fun h58 => ?_)
   ·skip
    obtain ⟨q, hqx⟩ : ∃ x_, g.2[j]? = some x_ := ⟨_, List.getElem?_eq_getElem (by omega)⟩
    have hq1 := hP2 q (List.mem_of_getElem? hqx)
    have hnl := nstT_len hq1.1
    refine .skip <| ks_n <| .seq <| .block <| .seq <| .region <| .cons (.mv rfl rfl) <| .cons (St1.addS rfl rfl rfl (by first | omega | (simp only [ByteArray.size_append, bsz1, sz6, sz5]; omega))) ?_
    refine .cons (.fP 1 0 false rfl rfl) <| .cons (.l1 1 rfl rfl) <| .cons (.mv rfl rfl) <| .cons (.xL 65 2 48 rfl rfl rfl rfl rfl (map_at hqx)) ?_
    refine .cons (.fP 0 0 false rfl rfl) <| .cons (.l1 1 rfl rfl) <| .cons (.cP [.tmp 68] rfl rfl rfl rfl (nstT_fn hq1.1) rfl) ?_
    refine .cons (St1.addS rfl rfl rfl (by first | omega | (simp only [ByteArray.size_append, bsz1, sz6, sz5]; omega))) ?_
    refine .cons (.asg rfl rfl) <| .nil <| ks_n <| .seq <| .region <| .cons (.asg rfl rfl) <| .nil <| ks_n <| .block ?_
    refine .loopK (fun m σ => (∃ (t : Nat) (u2 : ByteArray), m = q.2.length - t ∧ (t ≤ q.2.length) ∧ (u2.size ≤ 4000 + 100000 * j + 14000 * t) ∧ (q.2.foldl stpS (u ++ ⟨#[112, 97, 114, 116, 10]⟩ ++ nstT q.1) = (q.2.drop t).foldl stpS u2) ∧ σ = [(.t 1, .v (.o (.c (.ptr (rG g))))), (.t 2, .v (.o (st1 ⟨#[]⟩))), (.t 3, .v (.o (st1 u2))), (.t 6, .v (.o (nat1 (j : Nat)))), (.t 7, .v (.o (nat1 (t : Nat))))])) [] ⟨0, u ++ ⟨#[112, 97, 114, 116, 10]⟩ ++ nstT q.1, rfl, by omega, by simp only [ByteArray.size_append, sz5]; omega, rfl, rfl⟩ ⟨ks rfl .dt, ks rfl .dt, ks rfl .dt, ks rfl .dt, ks rfl .dt, trivial⟩ ?_
    rintro m σ ⟨t, u2, hm0, ht, hu2, hK, rfl⟩
    refine .seq <| .seq <| .region <| .cons (.mv rfl rfl) <| .cons (.fP 1 0 false rfl rfl) <| .cons (.l1 1 rfl rfl) <| .cons (.mv rfl rfl) <| .cons (.xL 65 2 48 rfl rfl rfl rfl rfl (map_at hqx)) ?_
    refine .cons (.fP 1 0 false rfl rfl) <| .cons (.l1 1 rfl rfl) <| .cons (.ln 79 9 152 rfl rfl rfl) <| .cons (.ls rfl rfl rfl) <| .nil <| ks_n ?_
    refine .cD rfl (fun h79 => ?_) (fun h79 => ?_)
    ·skip
     obtain ⟨s, hsx⟩ : ∃ x_, q.2[t]? = some x_ := ⟨_, List.getElem?_eq_getElem (by omega)⟩
     have hsv := hq1.2.2 s (List.mem_of_getElem? hsx)
     have hV := stmtV_ex hsv
     have hex := hV.1
     have hac := accV_ok hV.2.1
     have b1 := accT_len hV.2.1
     have b2 := exT_len hex
     have b3 := bT5
     refine .skip <| ks_n <| .seq <| .block <| .seq <| .region <| .cons (.fP 1 0 false rfl rfl) <| .cons (.l1 1 rfl rfl) <| .cons (.mv rfl rfl) <| .cons (.xL 65 2 48 rfl rfl rfl rfl rfl (map_at hqx)) ?_
     refine .cons (.fP 1 0 false rfl rfl) <| .cons (.l1 1 rfl rfl) <| .cons (.mv rfl rfl) <| .cons (.xL 79 9 152 rfl rfl rfl rfl rfl (map_at hsx)) ?_
     refine .cons (.lN 9 rfl rfl rfl) <| .cons (.al 108 [.string ByteArray.empty, .slice none 0 0, .int .i64 0, .int .i64 0, .slice none 0 0, .int .i64 0, .string ByteArray.empty, .slice none 0 0, .slice none 0 0] rfl rfl rfl) <| .cons (.sT 9 true rfl rfl rfl rfl rfl rfl rfl) <| .nil <| ks_n ?_
     refine ACode.drawK (by kernel_rfl) (by kernel_rfl) ?_
     refine .cons (.mv rfl rfl) <| .cons (.fB 0 1 true rfl rfl rfl) <| .cons (.bN 2 rfl rfl rfl rfl rfl rfl) <| .cons (.cP [.tmp 93] rfl rfl rfl rfl (accT_fn (a := s.1) (by omega) (by omega) hac.2.2) rfl) ?_
     refine .cons (St1.addS rfl rfl rfl (by first | omega | (simp only [ByteArray.size_append, bsz1, sz6, sz5]; omega))) ?_
     refine .cons (St1.addS rfl rfl rfl (by first | omega | (simp only [ByteArray.size_append, bsz1, sz6, sz5]; omega))) ?_
     refine .cons (.fB 2 6 true rfl rfl rfl) <| .cons (.bN 7 rfl rfl rfl rfl rfl rfl) <| .cons (.cP [.tmp 98] rfl rfl rfl rfl (exT_fn (L := 5) (Nat.le_trans bT5 (by omega)) s.2 hex) rfl) ?_
     refine .cons (St1.addS rfl rfl rfl (by first | omega | (simp only [ByteArray.size_append, bsz1, sz6, sz5]; omega))) ?_
     refine .cons (St1.addS rfl rfl rfl (by first | omega | (simp only [ByteArray.size_append, bsz1, sz6, sz5]; omega))) ?_
     refine .cons (.asg rfl rfl) ?_
     refine .nil ⟨by kernel_rfl, ?_⟩
     refine kb_n <| ks_n <| .region <| .cons (.mv rfl rfl) <| .cons (.pl rfl rfl rfl) <| .cons (.asg rfl rfl) <| .nil ?_
     refine kl_k [] ⟨t + 1, stpS u2 s, rfl, by omega, by have := stpS_len hsv u2; omega, by rw [hK, fold_at hsx], rfl⟩ ⟨ks rfl .dt, ks rfl .dt, ks rfl .dt, ks rfl .dt, ks rfl .dt, trivial⟩
    ·skip
     have hE4 := hK.trans (fold_end (by omega))
     refine .exit <| ks_e <| kl_e <| kb_hit <| kb_n <| ks_n <| .region <| .cons (.mv rfl rfl) <| .cons (.pl rfl rfl rfl) <| .cons (.asg rfl rfl) <| .nil ?_
     refine kl_k [] ⟨j + 1, u2, rfl, by omega, by omega, by rw [hJ, fold_at hqx]; show List.foldl stpP (q.2.foldl stpS _) _ = _; rw [hE4], rfl⟩ ⟨ks rfl .dt, ks rfl .dt, ks rfl .dt, ks rfl .dt, trivial⟩
   ·skip
    have hE3 := hJ.trans (fold_end (by omega))
    refine .exit <| ks_e <| kl_e <| kb_hit <| ks_n <| .seq <| .region <| .cons (.mv rfl rfl) <| .cons (.asg rfl rfl) <| .nil <| ks_n <| .ret ?_
    refine kf_ret rfl ?_ nobox
    exact leafS (by rw [hT, hE3])

theorem usL_at {g : Prg} {i : Nat} {x : Ins} (hx : (insG 0 g.2)[i]? = some x) : (usL g)[i]? = some (usG g x) := by rw [usL, List.getElem?_map, hx]; rfl
theorem usL_len {g : Prg} : (usL g).length = (insG 0 g.2).length := List.length_map _




theorem specAT_fn {g : Prg} (hs : szG g ≤ 1073741824)  : Fn Try.prog 30 [] [ad (rG g)] (.o (vD (dIs (trcV g)))) [] := by
 refine Fn.code0 Try.func30 rfl rfl rfl rfl ?_
 refine .seq <| .region <| .cons (St1.boxP rfl rfl rfl rfl rfl rfl) <| .cons (.asg rfl rfl) <| .nil <| ks_n <| .seq <| .region <| .cons (St1.lit0 (k' := 106) (e := 3) (sz := 1) (b := true) rfl rfl rfl rfl (by kernel_rfl) rfl rfl) ?_
 refine .cons (.asg rfl rfl) <| .nil <| ks_n <| .seq <| .seq <| .region <| .cons (.lN 2 rfl rfl rfl) <| .cons (.cP [.tmp 7] rfl rfl rfl rfl (specPV_fn hs) rfl) ?_
 refine .cons (.nt rfl rfl) <| .nil <| ks_n ?_
 refine ACode.condT rfl (fun h9 => ?_) (fun h9 => ?_)
 ·try simp only [zs1, zs2, zs3, zs4, zs5, zs6, zs7] at h9
  have hV : prgV g = false := by first | assumption | simp_all
  refine .seq <| .region <| .cons (.mv rfl rfl) <| .cons (.asg rfl rfl) <| .nil <| ks_n <| .ret <| ks_r ?_
  refine kf_wret [(.t 2, .v (.o (vD (dIs (trcV g)))))] (Wk.keep [] rfl rfl ⟨ks rfl (.c (.fz rfl (by rw [trcV_no hV]; rfl) (by rw [trcV_no hV]; rfl) (by omega))), trivial⟩) rfl ?_ nobox
  rfl
 ·try simp only [zs1, zs2, zs3, zs4, zs5, zs6, zs7] at h9
  have hV : prgV g = true := by first | assumption | simp_all
  obtain ⟨hS, hN, hL⟩ := prgV_s hV
  have hul := usL_len (g := g)
  refine .skip <| ks_n <| .seq <| .region <| .cons (.lN 2 rfl rfl rfl) <| .cons (.cP [.tmp 11] rfl rfl rfl rfl (l6Uses_fn hs hS) rfl) ?_
  refine .cons (.asg rfl rfl) <| .nil <| ks_n <| .seq <| .seq <| .region <| .cons (.asg rfl rfl) <| .nil <| ks_n <| .block ?_
  refine .loopK (fun m σ => (∃ (i : Nat) (o : List Int), m = (insG 0 g.2).length - i ∧ (i ≤ (insG 0 g.2).length) ∧ (trcN g i = o) ∧ (o.length ≤ 600) ∧ σ = [(.t 3, .v (.o (.c (.own 110 1 (o.length))))), (.t 4, .v (.o (vD (dUs (usL g))))), (.t 5, .v (.o (nat1 (i : Nat)))), (.b 110, .b 3 1 (dR (o.map rI))), (.u 110, .u)])) [(110, 106)] ⟨0, [], rfl, by omega, by simp [trcN], by simp, rfl⟩ ⟨ks rfl (.c .ow), ks rfl .dt, ks rfl .dt, kb 106 rfl (.dt rfl (by first | rfl | (rw [hsp]; rfl) | (simp [dR, rI, dI]; done) | (simp [dR, rI]; done) | (simp [dR]; rfl))), trivial⟩ ?_
  rintro m σ ⟨i, o, hm0, hi, hE, ho, rfl⟩
  refine .seq <| .seq <| .region <| .cons (.mv rfl rfl) <| .cons (.mv rfl rfl) <| .cons (.ln 54 2 32 rfl rfl rfl) <| .cons (.ls rfl rfl rfl) <| .nil <| ks_n ?_
  refine .cD rfl (fun h16 => ?_) (fun h16 => ?_)
  ·skip
   obtain ⟨x, hx1⟩ : ∃ x_, (insG 0 g.2)[i]? = some x_ := ⟨_, List.getElem?_eq_getElem (by omega)⟩
   obtain ⟨kx, cx, qx, hIx⟩ := ins_at hS (List.mem_of_getElem? hx1)
   have hux := usR_len hIx
   have htn := trcN_next hx1
   refine .skip <| ks_n <| .seq <| .block <| .seq ?_
   refine ACode.drawK (by kernel_rfl) (by kernel_rfl) ?_
   refine .cons (.mv rfl rfl) <| .cons (.mv rfl rfl) <| .cons (.mv rfl rfl) <| .cons (.xL 54 2 32 rfl rfl rfl rfl rfl (show (List.map rU (usL g))[i]? = some [dIs (usR g x), dI (usW g x)] from map_at (usL_at hx1))) ?_
   refine .cons (.fP 0 0 false rfl rfl) <| .cons (.l1 1 rfl rfl) <| .cons (St1.appB (k' := 125) (e := 3) (sz := 0) (by' := 8) rfl rfl rfl rfl rfl (by kernel_rfl) rfl rfl rfl rfl (by first | (simp [dR]; done) | (simp [dR]; omega)) (by first | (simp [dR]; done) | (simp [dR]; omega)) rfl rfl rfl) ?_
   refine .cons (.mv rfl rfl) <| .cons (.mv rfl rfl) <| .cons (.xL 54 2 32 rfl rfl rfl rfl rfl (show (List.map rU (usL g))[i]? = some [dIs (usR g x), dI (usW g x)] from map_at (usL_at hx1))) ?_
   refine .cons (.fP 1 0 false rfl rfl) <| .cons (.l1 1 rfl rfl) <| .cons (.li 3 0 0 [.tmp 30] rfl rfl rfl rfl rfl rfl) <| .cons (St1.appB (k' := 132) (e := 3) (sz := 0) (by' := 8) rfl rfl rfl rfl rfl (by kernel_rfl) rfl rfl rfl rfl (by first | (simp [dR]; done) | (simp [dR]; omega)) (by first | (simp [dR]; done) | (simp [dR]; omega)) rfl rfl rfl) ?_
   refine .cons (.asg rfl rfl) ?_
   refine .nil ⟨by kernel_rfl, ?_⟩
   refine ks_n <| .seq <| .region <| .cons (.mv rfl rfl) <| .cons (.lB 3 1 8 rfl rfl rfl rfl) <| .cons (.gt rfl rfl rfl) <| .nil <| ks_n ?_
   refine .cD rfl (fun h35 => ?_) (fun h35 => ?_)
   ·skip
    have h35s := h35
    simp at h35s
    have hmo := trcV_more hV (i := i + 1) (by rw [htn, hE]; simp; omega)
    rw [htn, hE] at hmo
    refine .seq ?_
    refine .keep [(.t 3, .v (.o (vD (dIs (o ++ usR g x ++ [usW g x])))))] [] ⟨ks rfl (.c (.fz rfl (by simp [dR, rI, dI]) (by simp; omega) (by simp; omega))), trivial⟩ ?_
    refine .region <| .cons (St1.lit0 (k' := 136) (e := 3) (sz := 1) (b := true) rfl rfl rfl rfl (by kernel_rfl) rfl rfl) ?_
    refine .cons (.mv rfl rfl) <| .cons (St1.sliceTo (e := 3) (sz := 1) (by' := 8) (k := 600) rfl rfl rfl rfl (by kernel_rfl) rfl rfl rfl rfl (by simp; omega)) ?_
    refine .cons (St1.appB (k' := 139) (e := 3) (sz := 0) (by' := 8) rfl rfl rfl rfl rfl (by kernel_rfl) rfl rfl rfl rfl (by first | (simp [dR]; done) | (simp [dR]; omega)) (by first | (simp [dR]; done) | (simp [dR]; omega)) rfl rfl rfl) ?_
    refine .cons (.asg rfl rfl) <| .nil <| ks_n <| .ret <| kb_r <| ks_r <| kl_r <| kb_r <| ks_r ?_
    refine kf_wret [(.t 2, .v (.o (vD (dIs (trcV g)))))] (Wk.keep [] rfl rfl ⟨ks rfl (.c (.fz rfl (by first | (rw [hmo]; done) | (rw [hmo]; simp [dR, rI, dI]; done) | (rw [hmo]; simp [dR]; done) | (rw [hmo]; simp [dR]; rfl)) (by first | (rw [hmo]; simp; done) | (rw [hmo]; simp; omega)) (by first | omega | (simp; omega)))), trivial⟩) rfl ?_ nobox
    rfl
   ·skip
    have h35s := h35
    simp at h35s
    have hle : (o ++ usR g x ++ [usW g x]).length ≤ 600 := by simp; omega
    refine .skip <| kb_n <| ks_n <| .region <| .cons (.mv rfl rfl) <| .cons (.pl rfl rfl rfl) <| .cons (.asg rfl rfl) <| .nil ?_
    refine kl_k [(110, 132)] ⟨i + 1, o ++ usR g x ++ [usW g x], rfl, by omega, by rw [htn, hE], by simp; omega, rfl⟩ ⟨ks rfl (.c .ow), ks rfl .dt, ks rfl .dt, kb 132 rfl (.dt rfl (by first | rfl | (rw [hsp]; rfl) | (simp [dR, rI, dI]; done) | (simp [dR, rI]; done) | (simp [dR]; rfl))), trivial⟩
  ·skip
   obtain rfl : i = (insG 0 g.2).length := by omega
   rw [trcN_end (Nat.le_refl _)] at hE
   have hall := trcV_all hV (by rw [hE]; exact ho)
   rw [hE] at hall
   refine .exit <| ks_e <| kl_e <| kb_hit <| ks_n <| .seq <| .region <| .cons (.mv rfl rfl) <| .cons (.asg rfl rfl) <| .nil <| ks_n <| .ret ?_
   refine kf_wret [(.t 2, .v (.o (vD (dIs (trcV g)))))] (Wk.keep [] rfl rfl ⟨ks rfl (.c (.fz rfl (by rw [hall]) (by rw [hall]; simp) (by omega))), trivial⟩) rfl ?_ nobox
   rfl
def someL : List Arr := [(⟨#[65]⟩, [6]), (⟨#[66]⟩, [4, 5]), (⟨#[67]⟩, [3])]

theorem l4Some_fn  : Fn Try.prog 45 [] [] (.o (vD (dRs someL))) [] := by
  refine Fn.code0 Try.func45 rfl rfl rfl rfl ?_
  refine .seq <| .region <| .cons (.asg rfl rfl) <| .nil <| ks_n <| .seq <| .region <| .cons (.li 3 0 0 [.const (.int .i64 (6))] rfl rfl rfl rfl rfl rfl) <| .cons (.bu [(0, .const (.string ⟨#[65]⟩)), (1, .tmp 1)] [(0, 1), (1, 1)] [.string ByteArray.empty, .slice none 0 0] rfl rfl rfl rfl rfl) <| .cons (.li 3 0 1 [.const (.int .i64 (4)), .const (.int .i64 (5))] rfl rfl rfl rfl rfl rfl) <| .cons (.bu [(0, .const (.string ⟨#[66]⟩)), (1, .tmp 3)] [(0, 1), (1, 1)] [.string ByteArray.empty, .slice none 0 0] rfl rfl rfl rfl rfl) <| .cons (.li 3 0 0 [.const (.int .i64 (3))] rfl rfl rfl rfl rfl rfl) <| .cons (.bu [(0, .const (.string ⟨#[67]⟩)), (1, .tmp 5)] [(0, 1), (1, 1)] [.string ByteArray.empty, .slice none 0 0] rfl rfl rfl rfl rfl) <| .cons (.li 88 1 2 [.tmp 2, .tmp 4, .tmp 6] rfl rfl rfl rfl rfl rfl) <| .cons (.asg rfl rfl) <| .nil <| ks_n <| .ret ?_
  refine kf_ret rfl ?_ nobox
  rfl

/-! ### Traces -/
def trL (bs : List Int) : Nat → List Int → Nat → List Int × Nat
  | 0, o, q => (o, q)
  | n + 1, o, q => trL bs n (o ++ [numV bs q [0, 1, 2, 3, 4, 1, 0, 9, -1]]) (q + 1)
def trM (bs : List Int) : Nat → List Int → Nat → List Int × Nat
  | 0, o, q => (o, q)
  | m + 1, o, q => if o.length ≤ 600 then trM bs m (o ++ [pickV bs q 5]) (q + 1) else (o, q)
def trA (bs : List Int) (p : Nat) : List Int × Nat := trL bs (numV bs (p + 1) [8, 12, 5, 20, 0, 30]).toNat [] (p + 2)
def trD (bs : List Int) (p : Nat) : List Int × Nat := if pickV bs (trA bs p).2 40 = 0 then trM bs 601 (trA bs p).1 ((trA bs p).2 + 1) else ((trA bs p).1, (trA bs p).2 + 1)
theorem trM_no {bs : List Int} {m : Nat} {o : List Int} {q : Nat} (h : ¬ o.length ≤ 600) : trM bs m o q = (o, q) := by
  cases m with
  | zero => rfl
  | succ m => rw [trM, if_neg h]
theorem trL_len (bs : List Int) : ∀ (n : Nat) (o : List Int) (q : Nat), (trL bs n o q).1.length = o.length + n ∧ (trL bs n o q).2 = q + n
  | 0, o, q => ⟨rfl, rfl⟩
  | n + 1, o, q => by
    have := trL_len bs n (o ++ [numV bs q [0, 1, 2, 3, 4, 1, 0, 9, -1]]) (q + 1)
    rw [trL, this.1, this.2, List.length_append, List.length_singleton]; omega
theorem trM_len (bs : List Int) : ∀ (m : Nat) (o : List Int) (q : Nat), o.length ≤ 601 → (trM bs m o q).1.length ≤ 601 ∧ (trM bs m o q).2 ≤ q + m
  | 0, o, q, h => ⟨h, Nat.le_refl _⟩
  | m + 1, o, q, h => by
    rw [trM]; split
    · have := trM_len bs m (o ++ [pickV bs q 5]) (q + 1) (by rw [List.length_append, List.length_singleton]; omega)
      exact ⟨this.1, by omega⟩
    · exact ⟨h, by omega⟩
theorem trD_len {bs : List Int} (hb : Bytes bs) {p : Nat} (hp : p ≤ 1000000) : (trD bs p).1.length ≤ 601 ∧ (trD bs p).2 ≤ p + 1000 := by
  have hm := numV_mem hb (p := p + 1) (by omega) (xs := [8, 12, 5, 20, 0, 30]) (by simp)
  have hN : (numV bs (p + 1) [8, 12, 5, 20, 0, 30]).toNat ≤ 30 := by simp at hm; omega
  have h1 := trL_len bs (numV bs (p + 1) [8, 12, 5, 20, 0, 30]).toNat [] (p + 2)
  rw [← trA, List.length_nil] at h1
  unfold trD; split
  · have := trM_len bs 601 (trA bs p).1 ((trA bs p).2 + 1) (by omega)
    exact ⟨this.1, by omega⟩
  · exact ⟨by dsimp only; omega, by dsimp only; omega⟩

theorem trD_fn {bs : List Int} (hb : Bytes bs) {p : Nat} (hp : p ≤ 1000000) (hk : pickV bs p 3 ≠ 0) : Fn Try.prog 20 (hbR bs p) [vR] (.o (vD (dIs (trD bs p).1))) (hbR bs (trD bs p).2) := by
  have hm := numV_mem hb (p := p + 1) (by omega) (xs := [8, 12, 5, 20, 0, 30]) (by simp)
  obtain ⟨N, hN⟩ : ∃ N : Nat, N = (numV bs (p + 1) [8, 12, 5, 20, 0, 30]).toNat := ⟨_, rfl⟩
  have hN3 : N ≤ 30 := by simp at hm; omega
  have hNv : numV bs (p + 1) [8, 12, 5, 20, 0, 30] = (N : Int) := by simp at hm; omega
  have hA : trA bs p = trL bs N [] (p + 2) := by rw [trA, ← hN]
  refine Fn.of_code Try.func20 rfl rfl (hbR_HB _ _) rfl rfl (hbR_HB _ _) rfl (hbR_num _ _ _) ?_
  refine .seq <| .region <| .cons (.asg rfl rfl) <| .nil <| ks_n <| .seq <| .seq <| .region <| .cons (.mv rfl rfl) <| .cons (.cR [.tmp 5, .const (.int .i64 (3))] 0 rfl rfl rfl rfl (pick_fn hb (by omega) 3) rfl ⟨rfl, trivial⟩) ?_
  refine .cons (.eq rfl rfl rfl) <| .nil <| ks_n ?_
  refine .cD rfl (fun h7 => ?_) (fun h7 => ?_)
  · skip
    exact absurd h7 hk
  · skip
    refine .skip <| ks_n <| .seq <| .region <| .cons (St1.lit0 (k' := 111) (e := 3) (sz := 1) (b := true) rfl rfl rfl rfl (by kernel_rfl) rfl rfl) ?_
    refine .cons (.asg rfl rfl) <| .nil <| ks_n <| .seq <| .seq <| .region <| .cons (.mv rfl rfl) <| .cons (.li 3 0 5 [.const (.int .i64 (8)), .const (.int .i64 (12)), .const (.int .i64 (5)), .const (.int .i64 (20)), .const (.int .i64 (0)), .const (.int .i64 (30))] rfl rfl rfl rfl rfl rfl) <| .cons (.cR [.tmp 12, .tmp 13] 0 rfl rfl rfl rfl (num_fn hb (by omega) [8, 12, 5, 20, 0, 30] (by simp)) rfl ⟨rfl, trivial⟩) ?_
    refine .cons (.asg rfl rfl) <| .nil <| ks_n <| .block ?_
    refine .loopK (fun m σ => (∃ (n : Nat) (o : List Int) (q : Nat), m = n + 0 ∧ (o.length + n ≤ 30) ∧ (q + n ≤ p + 40) ∧ (trA bs p = trL bs n o q) ∧ σ = [(.t 0, .v (.o (.c (.box 0 2 0 0)))), (.t 2, .v (.o (.c (.d (.val (.slice none 0 0)))))), (.t 3, .v (.o (.c (.own 110 1 (o.length))))), (.t 4, .v (.o (nat1 (n : Nat)))), (.b 0, .b 48 2 (dR ([rRd bs q]))), (.u 0, .u), (.b 110, .b 3 1 (dR (o.map rI))), (.u 110, .u)])) [(0, 0), (110, 111)] ⟨N, [], p + 1 + 1, rfl, by simpa using hN3, by omega, hA, rfl⟩ ⟨ks rfl (.c .bx), ks rfl .dt, ks rfl (.c (.ow (by first | rfl | (simp; done)))), ks rfl (.dt (vI (by omega))), kb 0 rfl (.dt rfl), kb 111 rfl (.dt rfl (by first | rfl | (simp [dR, rI]; done))), trivial⟩ ?_
    rintro m σ ⟨n, o, q, hm0, hl, hq, hF, rfl⟩
    refine .seq <| .seq <| .region <| .cons (.mv rfl rfl) <| .cons (.gt rfl rfl rfl) <| .nil <| ks_n ?_
    refine .cD rfl (fun h16 => ?_) (fun h16 => ?_)
    · skip
      refine .skip <| ks_n <| .seq <| .block <| .region <| .cons (.mv rfl rfl) <| .cons (.mv rfl rfl) <| .cons (.li 3 0 8 [.const (.int .i64 (0)), .const (.int .i64 (1)), .const (.int .i64 (2)), .const (.int .i64 (3)), .const (.int .i64 (4)), .const (.int .i64 (1)), .const (.int .i64 (0)), .const (.int .i64 (9)), .const (.int .i64 (-1))] rfl rfl rfl rfl rfl rfl) <| .cons (.cR [.tmp 20, .tmp 21] 0 rfl rfl rfl rfl (num_fn hb (by omega) [0, 1, 2, 3, 4, 1, 0, 9, -1] (by simp)) rfl ⟨rfl, trivial⟩) ?_
      refine .cons (.li 3 0 0 [.tmp 22] rfl rfl rfl rfl rfl rfl) <| .cons (St1.appB (k' := 124) (e := 3) (sz := 0) (by' := 8) rfl rfl rfl rfl rfl (by kernel_rfl) rfl rfl rfl rfl (by simp [dR]) (by simp [dR]; omega) rfl rfl rfl) ?_
      refine .cons (.asg rfl rfl) <| .nil <| kb_n <| ks_n <| .region <| .cons (.mv rfl rfl) <| .cons (.sb rfl rfl rfl) <| .cons (.asg rfl rfl) <| .nil ?_
      refine kl_k [(0, 0), (110, 124)] ⟨n - 1, o ++ [numV bs q [0, 1, 2, 3, 4, 1, 0, 9, -1]], q + 1, rfl, by simp; omega, by omega, by rw [hF]; obtain ⟨m, rfl⟩ : ∃ m, n = m + 1 := ⟨n - 1, by omega⟩; rfl, rfl⟩ ⟨ks rfl (.c .bx), ks rfl .dt, ks rfl (.c (.ow (by first | rfl | (simp; done)))), ks rfl (.dt (vI (by omega))), kb 0 rfl (.dt rfl), kb 124 rfl (.dt rfl (by first | rfl | (simp [dR, rI]; done))), trivial⟩
    · skip
      obtain rfl : n = 0 := by omega
      have hF0 : trA bs p = (o, q) := hF
      refine .exit <| ks_e <| kl_e <| kb_hit <| ks_n <| .seq <| .seq <| .region <| .cons (.mv rfl rfl) <| .cons (.cR [.tmp 25, .const (.int .i64 (40))] 0 rfl rfl rfl rfl (pick_fn hb (by omega) 40) rfl ⟨rfl, trivial⟩) ?_
      refine .cons (.eq rfl rfl rfl) <| .nil <| ks_n ?_
      refine .cD rfl (fun h27 => ?_) (fun h27 => ?_)
      · skip
        refine .block ?_
        refine .loopK (fun m σ => (∃ (m2 : Nat) (u : List Int) (r : Nat), m = 601 - u.length ∧ (601 ≤ u.length + m2 ∧ u.length ≤ 601) ∧ (r + m2 ≤ p + 1000) ∧ (trD bs p = trM bs m2 u r) ∧ σ = [(.t 0, .v (.o (.c (.box 0 2 0 0)))), (.t 2, .v (.o (.c (.d (.val (.slice none 0 0)))))), (.t 3, .v (.o (.c (.own 120 1 (u.length))))), (.b 0, .b 48 2 (dR ([rRd bs r]))), (.u 0, .u), (.b 120, .b 3 1 (dR (u.map rI))), (.u 120, .u)])) [(0, 0), (120, 110)] ⟨601, o, q + 1, rfl, by omega, by omega, by rw [trD, hF0, if_pos h27], rfl⟩ ⟨ks rfl (.c .bx), ks rfl .dt, ks rfl (.c (.ow (by first | rfl | (simp; done)))), kb 0 rfl (.dt rfl), kb 110 rfl (.dt rfl (by first | rfl | (simp [dR, rI]; done))), trivial⟩ ?_
        rintro m σ ⟨m2, u, r, hm0, hl2, hr, hG, rfl⟩
        refine .seq <| .seq <| .region <| .cons (.mv rfl rfl) <| .cons (.lB 3 1 8 rfl rfl rfl rfl) <| .cons (.le rfl rfl rfl) <| .nil <| ks_n ?_
        refine .cD rfl (fun h30 => ?_) (fun h30 => ?_)
        · skip
          refine .skip <| ks_n <| .block <| .region <| .cons (.mv rfl rfl) <| .cons (.mv rfl rfl) <| .cons (.cR [.tmp 32, .const (.int .i64 (5))] 0 rfl rfl rfl rfl (pick_fn hb (by omega) 5) rfl ⟨rfl, trivial⟩) ?_
          refine .cons (.li 3 0 0 [.tmp 33] rfl rfl rfl rfl rfl rfl) <| .cons (St1.appB (k' := 135) (e := 3) (sz := 0) (by' := 8) rfl rfl rfl rfl rfl (by kernel_rfl) rfl rfl rfl rfl (by simp [dR]) (by simp [dR]; omega) rfl rfl rfl) ?_
          refine .cons (.asg rfl rfl) <| .nil <| kb_n ?_
          refine kl_k [(0, 0), (120, 135)] ⟨m2 - 1, u ++ [pickV bs r 5], r + 1, rfl, by simp; omega, by omega, by rw [hG]; obtain ⟨m, rfl⟩ : ∃ m, m2 = m + 1 := ⟨m2 - 1, by omega⟩; rw [trM, if_pos (by omega)]; rfl, rfl⟩ ⟨ks rfl (.c .bx), ks rfl .dt, ks rfl (.c (.ow (by first | rfl | (simp; done)))), kb 0 rfl (.dt rfl), kb 135 rfl (.dt rfl (by first | rfl | (simp [dR, rI]; done))), trivial⟩ (by rw [List.length_append, List.length_singleton]; omega)
        · skip
          have hT : trD bs p = (u, r) := by rw [hG, trM_no (by omega)]
          refine .exit <| ks_e <| kl_e <| kb_hit <| ks_n <| .seq <| .region <| .cons (.mv rfl rfl) <| .cons (.asg rfl rfl) <| .nil <| ks_n <| .ret ?_
          refine kf_wret [(.t 2, .v (.o (vD (dIs (trD bs p).1)))), (.b 0, .b 48 2 (dR ([rRd bs (trD bs p).2]))), (.u 0, .u)] (Wk.keep [(0, 0)] rfl rfl ⟨ks rfl (.c (.fz rfl (by rw [hT]) (by rw [hT, List.length_map]) (by omega))), kb 0 rfl (.dt rfl (by rw [hT])), trivial⟩) rfl ?_ (hbR_box rfl)
          rfl
      · skip
        have hT : trD bs p = (o, q + 1) := by rw [trD, hF0, if_neg h27]
        refine .skip <| ks_n <| .seq <| .region <| .cons (.mv rfl rfl) <| .cons (.asg rfl rfl) <| .nil <| ks_n <| .ret ?_
        refine kf_wret [(.t 2, .v (.o (vD (dIs (trD bs p).1)))), (.b 0, .b 48 2 (dR ([rRd bs (trD bs p).2]))), (.u 0, .u)] (Wk.keep [(0, 0)] rfl rfl ⟨ks rfl (.c (.fz rfl (by rw [hT]) (by rw [hT, List.length_map]) (by omega))), kb 0 rfl (.dt rfl (by rw [hT])), trivial⟩) rfl ?_ (hbR_box rfl)
        rfl

theorem trG_fn {bs : List Int} (hb : Bytes bs) {p q : Nat} (hp : p ≤ 1000000) (hk : pickV bs p 3 = 0) {g : Prg} (hg : szG g ≤ 1073741824) (hF : Fn Try.prog 31 (hbR bs (p + 1)) [vR] (.o (ad (rG g))) (hbR bs q)) : Fn Try.prog 20 (hbR bs p) [vR] (.o (vD (dIs (trcV g)))) (hbR bs q) := by
  refine Fn.of_code Try.func20 rfl rfl (hbR_HB _ _) rfl rfl (hbR_HB _ _) rfl (hbR_num _ _ _) ?_
  refine .seq <| .region <| .cons (.asg rfl rfl) <| .nil <| ks_n <| .seq <| .seq <| .region <| .cons (.mv rfl rfl) <| .cons (.cR [.tmp 5, .const (.int .i64 (3))] 0 rfl rfl rfl rfl (pick_fn hb (by omega) 3) rfl ⟨rfl, trivial⟩) ?_
  refine .cons (.eq rfl rfl rfl) <| .nil <| ks_n ?_
  refine .cD rfl (fun h7 => ?_) (fun h7 => ?_)
  · skip
    refine .seq <| .region <| .cons (.mv rfl rfl) <| .cons (.cR [.tmp 8] 0 rfl rfl rfl rfl (hF) rfl ⟨rfl, trivial⟩) ?_
    refine .cons (.cP [.tmp 9] rfl rfl rfl rfl (specAT_fn hg) rfl) ?_
    refine .cons (.asg rfl rfl) <| .nil <| ks_n <| .ret <| ks_r ?_
    refine kf_ret rfl ?_ (hbR_box rfl)
    rfl
  · skip
    exact absurd hk h7

/-- What a draw of a program is to do. -/
def DrawG (bs : List Int) : Prop := ∀ p : Nat, p ≤ 200000 → ∃ (g : Prg) (q : Nat), szG g ≤ 1073741824 ∧ q ≤ 2000000 ∧ Fn Try.prog 31 (hbR bs p) [vR] (.o (ad (rG g))) (hbR bs q)
theorem drawLM_core {bs : List Int} (hb : Bytes (bs.take 2000)) {xs : List Int} {q : Nat} (hF : Fn Try.prog 20 (hbR (bs.take 2000) 0) [vR] (.o (vD (dIs xs))) (hbR (bs.take 2000) q)) (hq : q ≤ 2000000) : Fn Try.prog 16 [] [vD (dYs bs)] (.tup [vD (dIs xs), nat1 (numV (bs.take 2000) q [2, 3, 1, 4, 0, 8, 40, 41, -1])]) [] := by
  refine Fn.code0 Try.func16 rfl rfl rfl rfl ?_
  refine .seq <| .region <| .cons (.asg rfl rfl) <| .cons (.asg rfl rfl) <| .nil <| ks_n <| .seq <| .region <| .cons (.mv rfl rfl) <| .cons (.cO [.tmp 5] [(100, 106)] rfl rfl rfl rfl (l16Open_fn bs) rfl trivial flatS.nil (flatS.nil.cons rfl) HB.nil.data outS_one) ?_
  refine .cons (.asg rfl rfl) <| .nil <| ks_n <| .seq <| .region <| .cons (.mv rfl rfl) <| .cons (.cR [.tmp 7] 106 rfl rfl rfl rfl (hF) rfl ⟨rfl, trivial⟩) ?_
  refine .cons (.mv rfl rfl) <| .cons (.li 3 0 8 [.const (.int .i64 (2)), .const (.int .i64 (3)), .const (.int .i64 (1)), .const (.int .i64 (4)), .const (.int .i64 (0)), .const (.int .i64 (8)), .const (.int .i64 (40)), .const (.int .i64 (41)), .const (.int .i64 (-1))] rfl rfl rfl rfl rfl rfl) <| .cons (.cR [.tmp 9, .tmp 10] 106 rfl rfl rfl rfl (num_fn hb (by omega) [2, 3, 1, 4, 0, 8, 40, 41, -1] (by simp)) rfl ⟨rfl, trivial⟩) ?_
  refine .cons (.asg rfl rfl) <| .cons (.asg rfl rfl) <| .nil <| ks_n <| .ret ?_
  refine kf_ret rfl ?_ nobox
  rfl
def prD (f : Nat → Prt × Nat) : Nat → List Prt → Nat → List Prt × Nat
  | 0, o, q => (o, q)
  | n + 1, o, q => prD f n (o ++ [(f q).1]) (f q).2
/-- What a draw of a part is to do. -/
def DrawB (bs : List Int) (f : Nat → Prt × Nat) : Prop := ∀ p : Nat, p ≤ 2000000 → (f p).2 ≤ p + 100000 ∧ szPt (f p).1 ≤ 1000000 ∧ Fn Try.prog 46 (hbR bs p) [vR] (.o (ad (rP (f p).1))) (hbR bs (f p).2)
def prgD (bs : List Int) (f : Nat → Prt × Nat) (p : Nat) : Prg × Nat :=
  (if prgV (someL, (prD f (numV bs p [1, 2, 1, 3]).toNat [] (p + 1)).1) = true then (someL, (prD f (numV bs p [1, 2, 1, 3]).toNat [] (p + 1)).1) else (someL, (prD f (numV bs p [1, 2, 1, 3]).toNat [] (p + 1)).1.take 1), (prD f (numV bs p [1, 2, 1, 3]).toNat [] (p + 1)).2)
theorem szO_app {α : Type} (f : α → Nat) (l : List α) (x : α) : szO f (l ++ [x]) = szO f l + 1 + f x := by
  simp only [szO, List.length_append, List.map_append, List.sum_append, List.length_singleton, List.map_singleton]; simp; omega

theorem prgD_fn {bs : List Int} (hb : Bytes bs) {f : Nat → Prt × Nat} (hB : DrawB bs f) {p : Nat} (hp : p ≤ 1000000) : Fn Try.prog 37 (hbR bs p) [vR] (.o (ad (rG (prgD bs f p).1))) (hbR bs (prgD bs f p).2) := by
 have hm := numV_mem hb (p := p) (by omega) (xs := [1, 2, 1, 3]) (by simp)
 obtain ⟨N, hN⟩ : ∃ N : Nat, N = (numV bs p [1, 2, 1, 3]).toNat := ⟨_, rfl⟩
 have hN3 : 1 ≤ N ∧ N ≤ 3 := by simp at hm; omega
 have hNv : numV bs p [1, 2, 1, 3] = (N : Int) := by simp at hm; omega
 have hD : prgD bs f p = (if prgV (someL, (prD f N [] (p + 1)).1) = true then (someL, (prD f N [] (p + 1)).1) else (someL, (prD f N [] (p + 1)).1.take 1), (prD f N [] (p + 1)).2) := by rw [prgD, ← hN]
 have hs0 : szO szR someL ≤ 20 := by decide
 refine Fn.of_code Try.func37 rfl rfl (hbR_HB _ _) rfl rfl (hbR_HB _ _) rfl (hbR_num _ _ _) ?_
 refine .seq <| .region <| .cons (.al 102 [.slice none 0 0, .slice none 0 0] rfl rfl rfl) <| .nil <| ks_n <| .seq <| .region <| .cons (.cP [] rfl rfl rfl rfl (l4Some_fn) rfl) ?_
 refine .cons (.bu [(0, .tmp 5)] [(0, 1), (1, 1)] [.slice none 0 0, .slice none 0 0] rfl rfl rfl rfl rfl) <| .cons (.al 103 [.slice none 0 0, .slice none 0 0] rfl rfl rfl) <| .cons (.sT 2 true rfl rfl rfl rfl rfl rfl rfl) <| .nil <| ks_n <| .seq <| .seq <| .region <| .cons (.mv rfl rfl) <| .cons (.li 3 0 3 [.const (.int .i64 (1)), .const (.int .i64 (2)), .const (.int .i64 (1)), .const (.int .i64 (3))] rfl rfl rfl rfl rfl rfl) <| .cons (.cR [.tmp 7, .tmp 8] 0 rfl rfl rfl rfl (num_fn hb (by omega) [1, 2, 1, 3] (by simp)) rfl ⟨rfl, trivial⟩) ?_
 refine .cons (.asg rfl rfl) <| .nil <| ks_n <| .block ?_
 refine .loopK (fun m σ => (∃ n : Nat, m = n + 0 ∧ (n = N) ∧ σ = [(.t 0, .v (.o (.c (.box 0 2 0 0)))), (.t 2, .v (.o (.c (.box 110 2 0 0)))), (.t 3, .v (.o (.c (.box 111 2 0 0)))), (.t 4, .v (.o (nat1 (n : Nat)))), (.b 0, .b 48 2 (dR ([rRd bs (p + 1)]))), (.u 0, .u), (.b 110, .b 45 2 [[.d (.val (.slice none 0 0)), .d (.val (.slice none 0 0))]]), (.u 110, .u), (.b 111, .b 45 2 [[.d (dRs someL), .d (.val (.slice none 0 0))]]), (.u 111, .u)]) ∨ (∃ (n : Nat) (o : List Prt) (q : Nat), m = n + 0 ∧ (o.length + n = N ∧ 1 ≤ o.length) ∧ (q ≤ p + 1 + 100000 * o.length) ∧ (szO szPt o ≤ 1000001 * o.length) ∧ (prD f N [] (p + 1) = prD f n o q) ∧ σ = [(.t 0, .v (.o (.c (.box 0 2 0 0)))), (.t 2, .v (.o (.c (.box 110 2 0 0)))), (.t 3, .v (.o (.c (.box 111 2 0 0)))), (.t 4, .v (.o (nat1 (n : Nat)))), (.b 0, .b 48 2 (dR ([rRd bs q]))), (.u 0, .u), (.b 110, .b 45 2 [[.d (.val (.slice none 0 0)), .d (.val (.slice none 0 0))]]), (.u 110, .u), (.b 112, .b 65 2 (dR (o.map rP))), (.u 112, .u), (.b 111, .b 45 2 [[.d (dRs someL), .own 112 2 (o.length)]]), (.u 111, .u)])) [(0, 0), (110, 102), (111, 103)] (.inl ⟨N, rfl, rfl, rfl⟩) ⟨ks rfl (.c .bx), ks rfl (.c .bx), ks rfl (.c .bx), ks rfl (.dt (vI (by omega))), kb 0 rfl (.dt rfl), kb 102 rfl (.cons (.cons .dt (.cons .dt Ctos.nil)) .nil), kb 103 rfl (.cons (.cons .dt (.cons .dt Ctos.nil)) .nil), trivial⟩ ?_
 rintro m σ (⟨n, hm0, rfl, rfl⟩ | ⟨n, o, q, hm0, hl, hq, hz, hF, rfl⟩)
 ·skip
  obtain ⟨q, hq⟩ : ∃ q, q = p + 1 := ⟨_, rfl⟩
  rw [← hq]
  have hf := hB q (by omega)
  refine .seq <| .seq <| .region <| .cons (.mv rfl rfl) <| .cons (.gt rfl rfl rfl) <| .nil <| ks_n ?_
  refine .cD rfl (fun h11 => ?_) (fun h11 => ?_)
  ·skip
   refine .skip <| ks_n <| .seq <| .block ?_
   refine ACode.drawK (by kernel_rfl) (by kernel_rfl) ?_
   refine .cons (.fB 1 0 false rfl rfl rfl) <| .cons (.b1 1 rfl rfl rfl rfl rfl rfl) <| .cons (.mv rfl rfl) <| .cons (.cR [.tmp 16] 0 rfl rfl rfl rfl (hf.2.2) rfl ⟨rfl, trivial⟩) ?_
   refine .cons (.li 65 1 0 [.tmp 17] rfl rfl rfl rfl rfl rfl) <| .cons (St1.appN (k' := 119) (e := 65) (sz := 1) (by' := 48) rfl rfl rfl rfl rfl (by kernel_rfl) rfl rfl rfl (by simp) (by first | (simp [dR]; done) | (simp [dR]; omega) | omega) rfl rfl) ?_
   refine .cons (.fB 1 0 false rfl rfl rfl) <| .cons (.sT 1 false rfl rfl rfl rfl rfl rfl rfl) ?_
   refine .nil ⟨by kernel_rfl, ?_⟩
   refine kb_n <| ks_n <| .region <| .cons (.mv rfl rfl) <| .cons (.sb rfl rfl rfl) <| .cons (.asg rfl rfl) <| .nil ?_
   refine kl_k [(0, 0), (110, 110), (111, 111), (112, 119)] (.inr ⟨n - 1, [(f q).1], (f q).2, rfl, ⟨by rw [List.length_singleton]; omega, by simp⟩, by rw [List.length_singleton]; omega, by simp [szO]; omega, by obtain ⟨m, rfl⟩ : ∃ m, n = m + 1 := ⟨n - 1, by omega⟩; rfl, rfl⟩) ⟨ks rfl (.c .bx), ks rfl (.c .bx), ks rfl (.c .bx), ks rfl (.dt (vI (by omega))), kb 0 rfl (.dt rfl), kb 110 rfl (.cons (.cons .dt (.cons .dt Ctos.nil)) .nil), kb 119 rfl (.dt rfl (by first | rfl | (simp [dR, rP]; done))), kb 111 rfl (.cons (.cons .dt (.cons .ow Ctos.nil)) .nil), trivial⟩
  ·skip
   omega
 ·skip
  have hf := hB q (by omega)
  refine .seq <| .seq <| .region <| .cons (.mv rfl rfl) <| .cons (.gt rfl rfl rfl) <| .nil <| ks_n ?_
  refine .cD rfl (fun h11 => ?_) (fun h11 => ?_)
  ·skip
   refine .skip <| ks_n <| .seq <| .block ?_
   refine ACode.drawK (by kernel_rfl) (by kernel_rfl) ?_
   refine .cons (.fB 1 0 false rfl rfl rfl) <| .cons (.b1 1 rfl rfl rfl rfl rfl rfl) <| .cons (.mv rfl rfl) <| .cons (.cR [.tmp 16] 0 rfl rfl rfl rfl (hf.2.2) rfl ⟨rfl, trivial⟩) ?_
   refine .cons (.li 65 1 0 [.tmp 17] rfl rfl rfl rfl rfl rfl) <| .cons (St1.appB (k' := 119) (e := 65) (sz := 1) (by' := 48) rfl rfl rfl rfl rfl (by kernel_rfl) rfl rfl rfl rfl (by simp [dR]) (by first | (simp [dR]; done) | (simp [dR]; omega) | omega) rfl rfl rfl) ?_
   refine .cons (.fB 1 0 false rfl rfl rfl) <| .cons (.sT 1 false rfl rfl rfl rfl rfl rfl rfl) ?_
   refine .nil ⟨by kernel_rfl, ?_⟩
   refine kb_n <| ks_n <| .region <| .cons (.mv rfl rfl) <| .cons (.sb rfl rfl rfl) <| .cons (.asg rfl rfl) <| .nil ?_
   refine kl_k [(0, 0), (110, 110), (111, 111), (112, 119)] (.inr ⟨n - 1, o ++ [(f q).1], (f q).2, rfl, by rw [List.length_append, List.length_singleton]; omega, by rw [List.length_append, List.length_singleton]; omega, by rw [szO_app, List.length_append, List.length_singleton]; omega, by rw [hF]; obtain ⟨m, rfl⟩ : ∃ m, n = m + 1 := ⟨n - 1, by omega⟩; rfl, rfl⟩) ⟨ks rfl (.c .bx), ks rfl (.c .bx), ks rfl (.c .bx), ks rfl (.dt (vI (by omega))), kb 0 rfl (.dt rfl), kb 110 rfl (.cons (.cons .dt (.cons .dt Ctos.nil)) .nil), kb 119 rfl (.dt rfl (by first | rfl | (simp [dR, rP]; done))), kb 111 rfl (.cons (.cons .dt (.cons .ow Ctos.nil)) .nil), trivial⟩
  ·skip
   obtain rfl : n = 0 := by omega
   have hR : prD f N [] (p + 1) = (o, q) := hF
   rw [hR] at hD
   refine .exit <| ks_e <| kl_e <| kb_hit <| ks_n <| .seq <| .seq ?_
   refine .keep [(.t 0, .v (.o (.c (.box 0 2 0 0)))), (.t 2, .v (.o (.c (.box 500 2 0 0)))), (.t 3, .v (.o (.c (.box 501 2 0 0)))), (.b 0, .b 48 2 (dR ([rRd bs q]))), (.u 0, .u), (.b 500, .b 45 2 [[.d (.val (.slice none 0 0)), .d (.val (.slice none 0 0))]]), (.u 500, .u), (.b 501, .b 45 2 [[.d (dRs someL), .d (dPts o)]]), (.u 501, .u)] [(0, 0), (500, 110), (501, 111)] ⟨ks rfl (.c .bx), ks rfl (.c .bx), ks rfl (.c .bx), kb 0 rfl (.dt rfl), kb 110 rfl (.cons (.cons .dt (.cons .dt Ctos.nil)) .nil), kb 111 rfl (.cons (.cons .dt (.cons (.fz rfl rfl (by simp) (by omega)) Ctos.nil)) .nil), trivial⟩ ?_
   refine .region <| .cons (.bN 2 rfl rfl rfl rfl rfl rfl) <| .cons (.cP [.tmp 21] rfl rfl rfl rfl (specPV_fn (g := (someL, o)) (by show szO szR someL + szO szPt o ≤ 1073741824; omega)) rfl) ?_
   refine .nil <| ks_n ?_
   refine ACode.condT rfl (fun h22 => ?_) (fun h22 => ?_)
   ·try simp only [zs1, zs2, zs3, zs4, zs5, zs6, zs7] at h22
    have hT : prgD bs f p = ((someL, o), q) := by rw [hD, if_pos h22]
    refine .seq <| .region <| .cons (.bN 2 rfl rfl rfl rfl rfl rfl) <| .cons (.sT 2 true rfl rfl rfl rfl rfl rfl rfl) <| .nil <| ks_n <| .ret <| ks_r ?_
    refine kf_wret [(.t 2, .v (.o (.c (.box 100 2 0 0)))), (.b 0, .b 48 2 (dR ([rRd bs (prgD bs f p).2]))), (.u 0, .u), (.b 100, .b 45 2 [[.d (dRs someL), .d (dPts o)]]), (.u 100, .u)] (Wk.keep [(0, 0), (100, 500)] rfl rfl ⟨ks rfl (.c .bx), kb 0 rfl (.dt rfl (by rw [hT])), kb 500 rfl (.cons (.cons .dt (.cons .dt Ctos.nil)) .nil), trivial⟩) rfl ?_ (hbR_box rfl)
    rw [hT]; rfl
   ·try simp only [zs1, zs2, zs3, zs4, zs5, zs6, zs7] at h22
    have hT : prgD bs f p = ((someL, o.take 1), q) := by rw [hD, if_neg (by rw [h22]; decide)]
    refine .skip <| ks_n <| .seq ?_
    refine ACode.drawK (by kernel_rfl) (by kernel_rfl) ?_
    refine .cons (.cP [] rfl rfl rfl rfl (l4Some_fn) rfl) ?_
    refine .cons (.fB 1 0 false rfl rfl rfl) <| .cons (.b1 1 rfl rfl rfl rfl rfl rfl) <| .cons (St1.sliceTo (e := 65) (sz := 2) (by' := 48) (k := 1) rfl rfl rfl rfl (by kernel_rfl) rfl rfl rfl (by first | rfl | omega) (by first | (simp; done) | (simp; omega) | omega)) ?_
    refine .cons (.bu [(0, .tmp 24), (1, .tmp 27)] [(0, 1), (1, 1)] [.slice none 0 0, .slice none 0 0] rfl rfl rfl rfl rfl) <| .cons (.sT 2 true rfl rfl rfl rfl rfl rfl rfl) ?_
    refine .nil ⟨by kernel_rfl, ?_⟩
    refine ks_n <| .ret ?_
    refine kf_wret [(.t 2, .v (.o (.c (.box 100 2 0 0)))), (.b 0, .b 48 2 (dR ([rRd bs (prgD bs f p).2]))), (.u 0, .u), (.b 100, .b 45 2 [[.d (dRs someL), .d (dPts (o.take 1))]]), (.u 100, .u)] (Wk.keep [(0, 0), (100, 500)] rfl rfl ⟨ks rfl (.c .bx), kb 0 rfl (.dt rfl (by rw [hT])), kb 500 rfl (.cons (.cons .dt (.cons (.dt (by rw [dPts, List.map_take])) Ctos.nil)) .nil), trivial⟩) rfl ?_ (hbR_box rfl)
    rw [hT]; rfl

/-- The texts that are drawn from, and what stands ahead of them. -/
def txt8 : List ByteArray := [⟨#[112, 97, 114, 116, 10, 102, 111, 114, 32, 48, 32, 51, 10, 102, 111, 114, 32, 48, 32, 52, 10, 66, 91, 105, 44, 106, 93, 61, 40, 66, 91, 105, 44, 106, 93, 43, 123, 50, 42, 105, 43, 106, 125, 41, 10]⟩, ⟨#[112, 97, 114, 116, 10, 102, 111, 114, 32, 48, 32, 51, 10, 102, 111, 114, 32, 48, 32, 52, 10, 66, 91, 105, 44, 106, 43, 49, 93, 61, 40, 66, 91, 105, 44, 106, 93, 43, 49, 41, 10]⟩, ⟨#[112, 97, 114, 116, 10, 102, 111, 114, 32, 48, 32, 51, 10, 102, 111, 114, 32, 49, 32, 52, 10, 66, 91, 105, 43, 49, 44, 106, 45, 49, 93, 61, 40, 66, 91, 105, 44, 106, 93, 42, 50, 41, 10]⟩, ⟨#[112, 97, 114, 116, 10, 102, 111, 114, 32, 48, 32, 51, 10, 102, 111, 114, 32, 49, 32, 53, 10, 66, 91, 105, 43, 49, 44, 106, 93, 61, 40, 66, 91, 105, 44, 106, 45, 49, 93, 43, 66, 91, 105, 44, 106, 93, 41, 10, 65, 91, 105, 93, 61, 123, 106, 125, 10]⟩, ⟨#[112, 97, 114, 116, 10, 102, 111, 114, 32, 48, 32, 52, 10, 65, 91, 105, 93, 61, 40, 123, 105, 125, 42, 50, 41, 10, 112, 97, 114, 116, 10, 102, 111, 114, 32, 48, 32, 52, 10, 65, 91, 105, 43, 49, 93, 61, 40, 65, 91, 105, 93, 43, 67, 91, 48, 93, 41, 10]⟩, ⟨#[112, 97, 114, 116, 10, 102, 111, 114, 32, 48, 32, 53, 10, 65, 91, 105, 93, 61, 40, 65, 91, 105, 93, 43, 51, 41, 10, 66, 91, 48, 44, 105, 93, 61, 65, 91, 105, 93, 10]⟩, ⟨#[112, 97, 114, 116, 10, 102, 111, 114, 32, 48, 32, 51, 10, 102, 111, 114, 32, 48, 32, 51, 10, 67, 91, 105, 93, 61, 40, 67, 91, 105, 93, 43, 66, 91, 105, 44, 106, 93, 41, 10, 112, 97, 114, 116, 10, 102, 111, 114, 32, 48, 32, 51, 10, 102, 111, 114, 32, 48, 32, 51, 10, 65, 91, 106, 93, 61, 40, 65, 91, 106, 93, 45, 66, 91, 106, 44, 105, 93, 41, 10]⟩, ⟨#[112, 97, 114, 116, 10, 102, 111, 114, 32, 48, 32, 52, 10, 102, 111, 114, 32, 48, 32, 105, 43, 49, 10, 66, 91, 105, 44, 106, 93, 61, 40, 65, 91, 106, 93, 42, 67, 91, 48, 93, 41, 10]⟩]
def hd8 : ByteArray := ⟨#[112, 114, 111, 103, 114, 97, 109, 10, 97, 114, 114, 97, 121, 32, 65, 32, 54, 10, 97, 114, 114, 97, 121, 32, 66, 32, 52, 32, 53, 10, 97, 114, 114, 97, 121, 32, 67, 32, 51, 10]⟩
/-- What the reading of these texts is to do. -/
def ReadP (pg : ByteArray → Prg × Bool) : Prop := ∀ t ∈ txt8, szG (pg t).1 ≤ 1073741824 ∧ Fn Try.prog 36 [] [st1 (hd8 ++ t)] (.tup [ad (rG (pg t).1), bo1 (pg t).2]) []
theorem txt8_len (t : ByteArray) (h : t ∈ txt8) : t.size ≤ 1000 := by
  have : ∀ t ∈ txt8, t.size ≤ 1000 := by decide
  exact this t h
def l8D (bs : List Int) (f : Nat → Prt × Nat) (pg : ByteArray → Prg × Bool) (p : Nat) : Prg × Nat :=
  if (pg (ofV bs p txt8)).2 = true then (if 0 < pickV bs (p + 1) 3 then ((pg (ofV bs p txt8)).1, p + 1 + 1) else prgD bs f (p + 1 + 1)) else prgD bs f (p + 1)
theorem prD_bd {bs : List Int} {f : Nat → Prt × Nat} (hB : DrawB bs f) : ∀ (n : Nat) (o : List Prt) (q : Nat), q + 100000 * n ≤ 2000000 → szO szPt (prD f n o q).1 ≤ szO szPt o + 1000001 * n ∧ (prD f n o q).2 ≤ q + 100000 * n
  | 0, o, q, h => ⟨Nat.le_refl _, Nat.le_refl _⟩
  | n + 1, o, q, h => by
    have h1 := hB q (by omega)
    have h2 := prD_bd hB n (o ++ [(f q).1]) (f q).2 (by omega)
    rw [szO_app] at h2
    rw [prD]; omega

theorem l8D_fn {bs : List Int} (hb : Bytes bs) {f : Nat → Prt × Nat} (hB : DrawB bs f) {pg : ByteArray → Prg × Bool} (hP : ReadP pg) {p : Nat} (hp : p ≤ 900000) : Fn Try.prog 31 (hbR bs p) [vR] (.o (ad (rG (l8D bs f pg p).1))) (hbR bs (l8D bs f pg p).2) := by
 have ht := ofV_mem (bs := bs) (xs := txt8) hb (p := p) (by omega) (by decide)
 obtain ⟨t, hte⟩ : ∃ t, ofV bs p txt8 = t := ⟨_, rfl⟩
 have hof := of_fn hb (p := p) (by omega) txt8 (by decide)
 rw [hte] at ht hof
 obtain ⟨hz, hr⟩ := hP t ht
 have hts : t.size ≤ 1000 := txt8_len t ht
 obtain ⟨g, k, hg⟩ : ∃ g k, pg t = (g, k) := ⟨_, _, rfl⟩
 rw [hg] at hz hr
 have hD0 : l8D bs f pg p = if k = true then (if 0 < pickV bs (p + 1) 3 then (g, p + 1 + 1) else prgD bs f (p + 1 + 1)) else prgD bs f (p + 1) := by rw [l8D, hte, hg]
 refine Fn.of_code Try.func31 rfl rfl (hbR_HB _ _) rfl rfl (hbR_HB _ _) rfl (hbR_num _ _ _) ?_
 refine .seq <| .region <| .cons (.al 102 [.slice none 0 0, .slice none 0 0] rfl rfl rfl) <| .nil <| ks_n <| .seq <| .region <| .cons (.mv rfl rfl) <| .cons (.li 9 0 7 [.const (.string ⟨#[112, 97, 114, 116, 10, 102, 111, 114, 32, 48, 32, 51, 10, 102, 111, 114, 32, 48, 32, 52, 10, 66, 91, 105, 44, 106, 93, 61, 40, 66, 91, 105, 44, 106, 93, 43, 123, 50, 42, 105, 43, 106, 125, 41, 10]⟩), .const (.string ⟨#[112, 97, 114, 116, 10, 102, 111, 114, 32, 48, 32, 51, 10, 102, 111, 114, 32, 48, 32, 52, 10, 66, 91, 105, 44, 106, 43, 49, 93, 61, 40, 66, 91, 105, 44, 106, 93, 43, 49, 41, 10]⟩), .const (.string ⟨#[112, 97, 114, 116, 10, 102, 111, 114, 32, 48, 32, 51, 10, 102, 111, 114, 32, 49, 32, 52, 10, 66, 91, 105, 43, 49, 44, 106, 45, 49, 93, 61, 40, 66, 91, 105, 44, 106, 93, 42, 50, 41, 10]⟩), .const (.string ⟨#[112, 97, 114, 116, 10, 102, 111, 114, 32, 48, 32, 51, 10, 102, 111, 114, 32, 49, 32, 53, 10, 66, 91, 105, 43, 49, 44, 106, 93, 61, 40, 66, 91, 105, 44, 106, 45, 49, 93, 43, 66, 91, 105, 44, 106, 93, 41, 10, 65, 91, 105, 93, 61, 123, 106, 125, 10]⟩), .const (.string ⟨#[112, 97, 114, 116, 10, 102, 111, 114, 32, 48, 32, 52, 10, 65, 91, 105, 93, 61, 40, 123, 105, 125, 42, 50, 41, 10, 112, 97, 114, 116, 10, 102, 111, 114, 32, 48, 32, 52, 10, 65, 91, 105, 43, 49, 93, 61, 40, 65, 91, 105, 93, 43, 67, 91, 48, 93, 41, 10]⟩), .const (.string ⟨#[112, 97, 114, 116, 10, 102, 111, 114, 32, 48, 32, 53, 10, 65, 91, 105, 93, 61, 40, 65, 91, 105, 93, 43, 51, 41, 10, 66, 91, 48, 44, 105, 93, 61, 65, 91, 105, 93, 10]⟩), .const (.string ⟨#[112, 97, 114, 116, 10, 102, 111, 114, 32, 48, 32, 51, 10, 102, 111, 114, 32, 48, 32, 51, 10, 67, 91, 105, 93, 61, 40, 67, 91, 105, 93, 43, 66, 91, 105, 44, 106, 93, 41, 10, 112, 97, 114, 116, 10, 102, 111, 114, 32, 48, 32, 51, 10, 102, 111, 114, 32, 48, 32, 51, 10, 65, 91, 106, 93, 61, 40, 65, 91, 106, 93, 45, 66, 91, 106, 44, 105, 93, 41, 10]⟩), .const (.string ⟨#[112, 97, 114, 116, 10, 102, 111, 114, 32, 48, 32, 52, 10, 102, 111, 114, 32, 48, 32, 105, 43, 49, 10, 66, 91, 105, 44, 106, 93, 61, 40, 65, 91, 106, 93, 42, 67, 91, 48, 93, 41, 10]⟩)] rfl rfl rfl rfl rfl rfl) <| .cons (.cR [.tmp 6, .tmp 7] 0 rfl rfl rfl rfl (hof) rfl ⟨rfl, trivial⟩) ?_
 refine .cons (.asg rfl rfl) <| .nil <| ks_n <| .seq <| .region <| .cons (.mv rfl rfl) <| .cons (St1.addS rfl rfl rfl (Nat.le_trans (Nat.add_le_add (show hd8.size ≤ 100 by decide) hts) (by omega))) ?_
 refine .cons (.cP [.tmp 11] rfl rfl rfl rfl (hr) rfl) ?_
 refine .cons (.mv rfl rfl) <| .cons (.ex rfl rfl rfl) <| .cons (.ex rfl rfl rfl) <| .cons (.al 104 [.slice none 0 0, .slice none 0 0] rfl rfl rfl) <| .cons (.sT 2 true rfl rfl rfl rfl rfl rfl rfl) <| .cons (.asg rfl rfl) <| .nil <| ks_n <| .seq <| .seq <| .region <| .cons (.mv rfl rfl) <| .cons (.mv rfl rfl) ?_
 refine AOps.cases 16 _ rfl (fun g16 => ?_) (fun g16 => ?_)
 ·try simp only [zs1, zs2, zs3, zs4, zs5, zs6, zs7] at g16
  have hk : k = true := by first | exact g16 | simpa using g16
  refine .cons (.gT rfl rfl rfl (.mv rfl rfl)) <| .cons (.gT rfl rfl rfl (.cR [.tmp 17, .const (.int .i64 (3))] 0 rfl rfl rfl rfl (pick_fn hb (by omega) 3) rfl ⟨rfl, trivial⟩)) ?_
  refine .cons (.gT rfl rfl rfl (.gt rfl rfl rfl)) <| .cons (.pT rfl rfl rfl) <| .nil <| ks_n ?_
  refine ACode.condT rfl (fun h20 => ?_) (fun h20 => ?_)
  ·try simp only [zs1, zs2, zs3, zs4, zs5, zs6, zs7] at h20
   have hT : l8D bs f pg p = (g, p + 1 + 1) := by rw [hD0, if_pos hk, if_pos (by first | exact h20 | simpa using h20)]
   refine .seq <| .region <| .cons (.bN 2 rfl rfl rfl rfl rfl rfl) <| .cons (.sT 2 true rfl rfl rfl rfl rfl rfl rfl) <| .nil <| ks_n <| .ret <| ks_r ?_
   refine kf_wret [(.t 2, .v (.o (.c (.box 100 2 0 0)))), (.b 0, .b 48 2 (dR ([rRd bs (l8D bs f pg p).2]))), (.u 0, .u), (.b 100, .b 45 2 [[.d (dRs (l8D bs f pg p).1.1), .d (dPts (l8D bs f pg p).1.2)]]), (.u 100, .u)] (Wk.keep [(0, 0), (100, 102)] rfl rfl ⟨ks rfl (.c .bx), kb 0 rfl (.dt rfl (by rw [hT])), kb 102 rfl (.cons (.cons (.dt (by rw [hT])) (.cons (.dt (by rw [hT])) Ctos.nil)) .nil), trivial⟩) rfl ?_ (hbR_box rfl)
   rfl
  ·try simp only [zs1, zs2, zs3, zs4, zs5, zs6, zs7] at h20
   have hT : l8D bs f pg p = prgD bs f (p + 1 + 1) := by rw [hD0, if_pos hk, if_neg (by first | exact h20 | simpa using h20)]
   refine .skip <| ks_n <| .seq <| .region <| .cons (.mv rfl rfl) <| .cons (.cR [.tmp 22] 0 rfl rfl rfl rfl (prgD_fn hb hB (by omega)) rfl ⟨rfl, trivial⟩) ?_
   refine .cons (.sT 2 true rfl rfl rfl rfl rfl rfl rfl) <| .nil <| ks_n <| .ret ?_
   refine kf_wret [(.t 2, .v (.o (.c (.box 100 2 0 0)))), (.b 0, .b 48 2 (dR ([rRd bs (l8D bs f pg p).2]))), (.u 0, .u), (.b 100, .b 45 2 [[.d (dRs (l8D bs f pg p).1.1), .d (dPts (l8D bs f pg p).1.2)]]), (.u 100, .u)] (Wk.keep [(0, 0), (100, 102)] rfl rfl ⟨ks rfl (.c .bx), kb 0 rfl (.dt rfl (by rw [hT])), kb 102 rfl (.cons (.cons (.dt (by rw [hT])) (.cons (.dt (by rw [hT])) Ctos.nil)) .nil), trivial⟩) rfl ?_ (hbR_box rfl)
   rfl
 ·try simp only [zs1, zs2, zs3, zs4, zs5, zs6, zs7] at g16
  have hk : k = false := by first | exact g16 | simpa using g16
  have hT : l8D bs f pg p = prgD bs f (p + 1) := by rw [hD0, if_neg (by rw [hk]; decide)]
  refine .cons (.gF rfl rfl rfl) <| .cons (.gF rfl rfl rfl) <| .cons (.gF rfl rfl rfl) <| .cons (.pF rfl rfl rfl) <| .nil <| ks_n ?_
  refine ACode.condT rfl (fun h => by first | (cases h; done) | (simp [*] at h; done) | (exfalso; simp_all; done)) (fun _ => ?_)
  refine .skip <| ks_n <| .seq <| .region <| .cons (.mv rfl rfl) <| .cons (.cR [.tmp 22] 0 rfl rfl rfl rfl (prgD_fn hb hB (by omega)) rfl ⟨rfl, trivial⟩) ?_
  refine .cons (.sT 2 true rfl rfl rfl rfl rfl rfl rfl) <| .nil <| ks_n <| .ret ?_
  refine kf_wret [(.t 2, .v (.o (.c (.box 100 2 0 0)))), (.b 0, .b 48 2 (dR ([rRd bs (l8D bs f pg p).2]))), (.u 0, .u), (.b 100, .b 45 2 [[.d (dRs (l8D bs f pg p).1.1), .d (dPts (l8D bs f pg p).1.2)]]), (.u 100, .u)] (Wk.keep [(0, 0), (100, 102)] rfl rfl ⟨ks rfl (.c .bx), kb 0 rfl (.dt rfl (by rw [hT])), kb 102 rfl (.cons (.cons (.dt (by rw [hT])) (.cons (.dt (by rw [hT])) Ctos.nil)) .nil), trivial⟩) rfl ?_ (hbR_box rfl)
  rfl

theorem szO_take {α : Type} (f : α → Nat) (l : List α) : szO f (l.take 1) ≤ szO f l := by
  cases l with
  | nil => exact Nat.le_refl _
  | cons x l => simp [szO]; omega
theorem prgD_bd {bs : List Int} (hb : Bytes bs) {f : Nat → Prt × Nat} (hB : DrawB bs f) {p : Nat} (hp : p ≤ 1000000) : szG (prgD bs f p).1 ≤ 4000000 ∧ (prgD bs f p).2 ≤ p + 300001 := by
  have hm := numV_mem hb (p := p) (by omega) (xs := [1, 2, 1, 3]) (by simp)
  obtain ⟨N, hN⟩ : ∃ N : Nat, N = (numV bs p [1, 2, 1, 3]).toNat := ⟨_, rfl⟩
  have hN3 : N ≤ 3 := by simp at hm; omega
  have hs0 : szO szR someL ≤ 20 := by decide
  have h1 := prD_bd hB N [] (p + 1) (by omega)
  have e0 : szO szPt [] = 0 := rfl
  have h2 := szO_take szPt (prD f N [] (p + 1)).1
  rw [prgD, ← hN]
  refine ⟨?_, by dsimp only; omega⟩
  dsimp only
  split
  · show szO szR someL + szO szPt (prD f N [] (p + 1)).1 ≤ 4000000
    omega
  · show szO szR someL + szO szPt ((prD f N [] (p + 1)).1.take 1) ≤ 4000000
    omega
theorem drawG_of {bs : List Int} (hb : Bytes bs) {f : Nat → Prt × Nat} (hB : DrawB bs f) {pg : ByteArray → Prg × Bool} (hP : ReadP pg) : DrawG bs := fun p hp => by
  refine ⟨(l8D bs f pg p).1, (l8D bs f pg p).2, ?_, ?_, l8D_fn hb hB hP (by omega)⟩
  all_goals
    have ht := ofV_mem (bs := bs) (xs := txt8) hb (p := p) (by omega) (by decide)
    have hz := (hP _ ht).1
    have h1 := prgD_bd hb hB (p := p + 1) (by omega)
    have h2 := prgD_bd hb hB (p := p + 1 + 1) (by omega)
    unfold l8D
    split
    · split
      · dsimp only; omega
      · omega
    · omega


def boxOk (xs : List Int) : Bool := decide (xs.length ≤ 4) && !xs.any fun n => !inB n 0 99
def bL (n : Int) : Lp := ([zA], [cA n])
def boxN (xs : List Int) : List Lp := if boxOk xs = true then xs.map bL else []
theorem boxOk_iff {xs : List Int} : boxOk xs = true ↔ xs.length ≤ 4 ∧ ∀ x ∈ xs, 0 ≤ x ∧ x ≤ 99 := by simp [boxOk, inB]
theorem boxN_no {xs : List Int} (h : boxOk xs = false) : boxN xs = [] := if_neg (by rw [h]; simp)
theorem boxN_yes {xs : List Int} (h : boxOk xs = true) : boxN xs = xs.map bL := if_pos h
theorem specBox_fn (xs : List Int) (hx : xs.length ≤ 1099511627776) : Fn Try.prog 63 [] [vD (dIs xs)] (.tup [vD (dLs (boxN xs)), bo1 (boxOk xs)]) [] := by
 refine Fn.code0 Try.func63 rfl rfl rfl rfl ?_
 refine .seq <| .region <| .cons (.asg rfl rfl) <| .cons (.asg rfl rfl) <| .nil <| ks_n <| .seq <| .region <| .cons (St1.lit0 (k' := 106) (e := 100) (sz := 2) (b := true) rfl rfl rfl rfl (by kernel_rfl) rfl rfl) ?_
 refine .cons (.asg rfl rfl) <| .nil <| ks_n <| .seq <| .seq <| .region <| .cons (.mv rfl rfl) <| .cons (.ln 3 1 8 rfl rfl rfl) <| .cons (.gt rfl rfl rfl) <| .nil <| ks_n ?_
 refine .cD rfl (fun h9 => ?_) (fun h9 => ?_)
 ·skip
  refine .seq ?_
  have hO : boxOk xs = false := by cases hc : boxOk xs with | false => rfl | true => have := (boxOk_iff.1 hc).1; omega
  have hB := boxN_no hO
  refine .region <| .cons (.mv rfl rfl) <| .cons (.asg rfl rfl) <| .cons (.asg rfl rfl) <| .nil <| ks_n <| .ret <| ks_r ?_
  refine kf_wret [(.t 2, .v (.o (vD (dLs (boxN xs))))), (.t 3, .v (.o (bo1 (boxOk xs))))] (Wk.keep [] rfl rfl ⟨ks rfl (.c (.fz rfl (by rw [hB]; first | rfl | (rw [List.take_length, List.map_map]; rfl) | (simp [dR]; done)) (by rw [hB]; simp) (by first | (simp; done) | (simp; omega) | omega))), ks rfl (.dt (by rw [hO])), trivial⟩) rfl ?_ nobox
  rfl
 ·skip
  refine .skip <| ks_n <| .seq <| .seq <| .region <| .cons (.asg rfl rfl) <| .nil <| ks_n <| .block ?_
  refine .loopK (fun m σ => (∃ i : Nat, m = xs.length - i ∧ (i ≤ xs.length) ∧ (∀ j, j < i → 0 ≤ xs.getD j 0 ∧ xs.getD j 0 ≤ 99) ∧ σ = [(.t 0, .v (.o (vD (dIs xs)))), (.t 4, .v (.o (.c (.own 110 2 (i))))), (.t 5, .v (.o (nat1 (i : Nat)))), (.b 110, .b 100 2 (dR ((xs.take i).map (fun n => rL (bL n))))), (.u 110, .u)])) [(110, 106)] ⟨0, rfl, (by omega), (by omega), rfl⟩ ⟨ks rfl .dt, ks rfl (.c .ow), ks rfl .dt, kb 106 rfl (.dt rfl (by first | exact dR_take (fun n => rL (bL n)) hx1 | exact dR_take1 (fun n => rL (bL n)) hx1 | rfl | (rw [hB, List.take_length, List.map_map]; rfl) | (simp [dR]; done))), trivial⟩ ?_
  rintro m σ ⟨i, hm0, hi, hF, rfl⟩
  refine .seq <| .seq <| .region <| .cons (.mv rfl rfl) <| .cons (.mv rfl rfl) <| .cons (.ln 3 1 8 rfl rfl rfl) <| .cons (.ls rfl rfl rfl) <| .nil <| ks_n ?_
  refine .cD rfl (fun h14 => ?_) (fun h14 => ?_)
  ·skip
   obtain ⟨x, hx1⟩ : ∃ x, xs[i]? = some x := ⟨_, List.getElem?_eq_getElem (by omega)⟩
   refine .skip <| ks_n <| .seq <| .block <| .seq <| .seq <| .region <| .cons (.mv rfl rfl) <| .cons (.mv rfl rfl) <| .cons (.xL 3 1 8 rfl rfl rfl rfl rfl) ?_
   refine .cons (.l1 1 rfl rfl) <| .cons (.ls rfl rfl rfl) <| .cons (.mv rfl rfl) ?_
   refine .cD 22 rfl (fun g22 => ?_) (fun g22 => ?_)
   ·skip
    refine .cons (.gF rfl rfl rfl) <| .cons (.gF rfl rfl rfl) <| .cons (.gF rfl rfl rfl) <| .cons (.gF rfl rfl rfl) <| .cons (.gF rfl rfl rfl) <| .cons (.pT rfl rfl rfl) <| .nil <| ks_n ?_
    refine ACode.condT rfl (fun _ => ?_) (fun h => by first | (cases h; done) | (simp [*] at h; done) | (exfalso; simp_all; done))
    refine .seq ?_
    have hO : boxOk xs = false := by cases hc : boxOk xs with | false => rfl | true => have := (boxOk_iff.1 hc).2 x (List.mem_of_getElem? hx1); omega
    have hB := boxN_no hO
    refine .region <| .cons (St1.lit0 (k' := 129) (e := 100) (sz := 2) (b := true) rfl rfl rfl rfl (by kernel_rfl) rfl rfl) ?_
    refine .cons (.asg rfl rfl) <| .cons (.asg rfl rfl) <| .nil <| ks_n <| .ret <| ks_r <| kb_r <| ks_r <| kl_r <| kb_r <| ks_r ?_
    refine kf_wret [(.t 2, .v (.o (vD (dLs (boxN xs))))), (.t 3, .v (.o (bo1 (boxOk xs))))] (Wk.keep [] rfl rfl ⟨ks rfl (.c (.fz rfl (by rw [hB]; first | rfl | (rw [List.take_length, List.map_map]; rfl) | (simp [dR]; done)) (by rw [hB]; simp) (by first | (simp; done) | (simp; omega) | omega))), ks rfl (.dt (by rw [hO])), trivial⟩) rfl ?_ nobox
    rfl
   ·skip
    refine .cons (.gT rfl rfl rfl (.mv rfl rfl)) <| .cons (.gT rfl rfl rfl (.mv rfl rfl)) <| .cons (.gT rfl rfl rfl (.xL 3 1 8 rfl rfl rfl rfl rfl)) ?_
    refine .cons (.gT rfl rfl rfl (.l1 1 rfl rfl)) <| .cons (.gT rfl rfl rfl (.gt rfl rfl rfl)) <| .cons (.pF rfl rfl rfl) <| .nil <| ks_n ?_
    refine ACode.condT rfl (fun h28 => ?_) (fun h28 => ?_)
    ·try simp only [zs1, zs2, zs3, zs4, zs5, zs6, zs7] at h28
     refine .seq ?_
     have hO : boxOk xs = false := by cases hc : boxOk xs with | false => rfl | true => have := (boxOk_iff.1 hc).2 x (List.mem_of_getElem? hx1); omega
     have hB := boxN_no hO
     refine .region <| .cons (St1.lit0 (k' := 129) (e := 100) (sz := 2) (b := true) rfl rfl rfl rfl (by kernel_rfl) rfl rfl) ?_
     refine .cons (.asg rfl rfl) <| .cons (.asg rfl rfl) <| .nil <| ks_n <| .ret <| ks_r <| kb_r <| ks_r <| kl_r <| kb_r <| ks_r ?_
     refine kf_wret [(.t 2, .v (.o (vD (dLs (boxN xs))))), (.t 3, .v (.o (bo1 (boxOk xs))))] (Wk.keep [] rfl rfl ⟨ks rfl (.c (.fz rfl (by rw [hB]; first | rfl | (rw [List.take_length, List.map_map]; rfl) | (simp [dR]; done)) (by rw [hB]; simp) (by first | (simp; done) | (simp; omega) | omega))), ks rfl (.dt (by rw [hO])), trivial⟩) rfl ?_ nobox
     rfl
    ·try simp only [zs1, zs2, zs3, zs4, zs5, zs6, zs7] at h28
     refine .skip <| ks_n ?_
     refine ACode.drawK (by kernel_rfl) (by kernel_rfl) ?_
     refine .cons (.mv rfl rfl) <| .cons (.cP [] rfl rfl rfl rfl (l1Zero_fn) rfl) ?_
     refine .cons (.li 74 1 0 [.tmp 31] rfl rfl rfl rfl rfl rfl) <| .cons (.mv rfl rfl) <| .cons (.mv rfl rfl) <| .cons (.xL 3 1 8 rfl rfl rfl rfl rfl) ?_
     refine .cons (.l1 1 rfl rfl) <| .cons (.cP [.tmp 36] rfl rfl rfl rfl (l1Const_fn x) rfl) ?_
     refine .cons (.li 74 1 0 [.tmp 37] rfl rfl rfl rfl rfl rfl) <| .cons (.bu [(0, .tmp 32), (1, .tmp 38)] [(0, 1), (1, 1)] [.slice none 0 0, .slice none 0 0] rfl rfl rfl rfl rfl) <| .cons (.li 100 1 0 [.tmp 39] rfl rfl rfl rfl rfl rfl) <| .cons (St1.appB (k' := 141) (e := 100) (sz := 1) (by' := 48) rfl rfl rfl rfl rfl (by kernel_rfl) rfl rfl rfl rfl (by simp [dR]; omega) (by simp [dR]; omega) rfl rfl rfl) ?_
     refine .cons (.asg rfl rfl) ?_
     refine .nil ⟨by kernel_rfl, ?_⟩
     refine kb_n <| ks_n <| .region <| .cons (.mv rfl rfl) <| .cons (.pl rfl rfl rfl) <| .cons (.asg rfl rfl) <| .nil ?_
     refine kl_k [(110, 141)] ⟨i + 1, rfl, by omega, by intro j hj; by_cases e : j = i; (rw [e, getD_some hx1]; omega); exact hF j (by omega), rfl⟩ ⟨ks rfl .dt, ks rfl (.c .ow), ks rfl .dt, kb 141 rfl (.dt rfl (by first | exact dR_take (fun n => rL (bL n)) hx1 | exact dR_take1 (fun n => rL (bL n)) hx1 | rfl | (rw [hB, List.take_length, List.map_map]; rfl) | (simp [dR]; done))), trivial⟩
  ·skip
   obtain rfl : i = xs.length := by omega
   have hO : boxOk xs = true := boxOk_iff.2 ⟨by omega, fun y hy => by obtain ⟨j, hj⟩ := List.mem_iff_getElem?.1 hy; have h := hF j (List.getElem?_eq_some_iff.1 hj).1; rwa [getD_some hj] at h⟩
   have hB := boxN_yes hO
   refine .exit <| ks_e <| kl_e <| kb_hit <| ks_n <| .seq <| .region <| .cons (.mv rfl rfl) <| .cons (.asg rfl rfl) <| .cons (.asg rfl rfl) <| .nil <| ks_n <| .ret ?_
   refine kf_wret [(.t 2, .v (.o (vD (dLs (boxN xs))))), (.t 3, .v (.o (bo1 (boxOk xs))))] (Wk.keep [] rfl rfl ⟨ks rfl (.c (.fz rfl (by rw [hB]; first | rfl | (rw [List.take_length, List.map_map]; rfl) | (simp [dR]; done)) (by rw [hB]; simp) (by first | (simp; done) | (simp; omega) | omega))), ks rfl (.dt (by rw [hO])), trivial⟩) rfl ?_ nobox
   rfl
def tryS (bs : List Int) (ns : List Lp) : Nat → Nat → Option Stm × Nat
  | 0, q => (none, q)
  | m + 1, q => if prtV someL (ns, [(stmD bs ns.length q).1]) = true then (some (stmD bs ns.length q).1, (stmD bs ns.length q).2) else tryS bs ns m (stmD bs ns.length q).2
def addO (o : List Stm) : Option Stm → List Stm
  | none => o
  | some s => o ++ [s]
def bodS (bs : List Int) (ns : List Lp) : Nat → List Stm → Nat → List Stm × Nat
  | 0, o, q => (o, q)
  | k + 1, o, q => bodS bs ns k (addO o (tryS bs ns 5 q).1) (tryS bs ns 5 q).2
def dfS : Stm := (psV ⟨#[65, 91, 105, 93, 61, 40, 65, 91, 105, 93, 43, 123, 105, 125, 41]⟩).1
def dfP : Prt := (boxN [4], [dfS])
def bodQ (bs : List Int) (q : Nat) : List Stm × Nat := bodS bs (nestD bs q).1 (numV bs (nestD bs q).2 [1, 2, 1, 3]).toNat [] ((nestD bs q).2 + 1)
def bodD (bs : List Int) : Nat → Nat → Prt × Nat
  | 0, q => (dfP, q)
  | m + 1, q => if prtV someL ((nestD bs q).1, (bodQ bs q).1) = true ∧ cntP someL ((nestD bs q).1, (bodQ bs q).1) ≤ 40 then (((nestD bs q).1, (bodQ bs q).1), (bodQ bs q).2) else bodD bs m (bodQ bs q).2
theorem tryS_bd {bs : List Int} (hb : Bytes bs) {ns : List Lp} (hn : ns.length ≤ 4) : ∀ (m q : Nat), q + 266 * m ≤ 1000000000 → q ≤ (tryS bs ns m q).2 ∧ (tryS bs ns m q).2 ≤ q + 266 * m ∧ ∀ s, (tryS bs ns m q).1 = some s → szS s ≤ 266
  | 0, q, h => ⟨Nat.le_refl _, Nat.le_refl _, fun s hs => by cases hs⟩
  | m + 1, q, h => by
    have hq : q ≤ 1000000000 := by omega
    have h1 := stmD_bd hb hn q hq
    rw [tryS]
    generalize stmD bs ns.length q = r at *
    obtain ⟨s1, q1⟩ := r
    dsimp only at h1 ⊢
    split
    · exact ⟨h1.1, by dsimp only; omega, fun s hs => by cases hs; exact h1.2.2.1⟩
    · have h3 : q1 + 266 * m ≤ 1000000000 := by omega
      have h2 := tryS_bd hb hn m q1 h3
      exact ⟨by omega, by omega, h2.2.2⟩
theorem bodS_bd {bs : List Int} (hb : Bytes bs) {ns : List Lp} (hn : ns.length ≤ 4) : ∀ (k : Nat) (o : List Stm) (q : Nat), q + 1330 * k ≤ 100000000 → q ≤ (bodS bs ns k o q).2 ∧ (bodS bs ns k o q).2 ≤ q + 1330 * k ∧ szO szS (bodS bs ns k o q).1 ≤ szO szS o + 267 * k
  | 0, o, q, h => ⟨Nat.le_refl _, Nat.le_refl _, Nat.le_refl _⟩
  | k + 1, o, q, h => by
    have h5 : q + 1330 ≤ 1000000000 := by rw [Nat.mul_add] at h; omega
    have h1 := tryS_bd hb hn 5 q h5
    rw [bodS]
    generalize tryS bs ns 5 q = r at *
    obtain ⟨s1, q1⟩ := r
    dsimp only at h1 ⊢
    rw [Nat.mul_add, Nat.mul_one] at h ⊢
    have h0 : q1 + 1330 * k ≤ 100000000 := by omega
    have h2 := bodS_bd hb hn k (addO o s1) q1 h0
    have h3 : szO szS (addO o s1) ≤ szO szS o + 267 := by
      cases s1 with
      | none => rw [addO]; omega
      | some s => rw [addO, szO_app]; have := h1.2.2 s rfl; omega
    omega
theorem bodD_at {bs : List Int} {q i r0 r : Nat} {ns : List Lp} {o : List Stm} (hns : nestD bs q = (ns, r0)) (hE : bodQ bs q = (o, r)) (hi : i < 4) : bodD bs (4 - i) q = if prtV someL (ns, o) = true ∧ cntP someL (ns, o) ≤ 40 then ((ns, o), r) else bodD bs (4 - (i + 1)) (bodQ bs q).2 := by
  rw [show 4 - i = (4 - (i + 1)) + 1 by omega, bodD, hns, hE]
theorem some_ok : arrsV someL = true := by decide +kernel
theorem tryS_yes {bs : List Int} {ns : List Lp} {n w : Nat} {tr : Option Stm} {tq : Nat} (hn : n < 5) (h : prtV someL (ns, [(stmD bs ns.length w).1]) = true) (hT : tryS bs ns (5 - n) w = (tr, tq)) : tr = some (stmD bs ns.length w).1 ∧ tq = (stmD bs ns.length w).2 := by
  rw [show 5 - n = (5 - (n + 1)) + 1 by omega, tryS, if_pos h] at hT
  cases hT; exact ⟨rfl, rfl⟩
theorem tryS_end {bs : List Int} {ns : List Lp} {n w : Nat} {tr : Option Stm} {tq : Nat} (hn : 5 ≤ n) (hT : tryS bs ns (5 - n) w = (tr, tq)) : tr = none ∧ tq = w := by
  rw [show 5 - n = 0 by omega, tryS] at hT
  cases hT; exact ⟨rfl, rfl⟩
theorem sum_bd {α : Type} {f : α → Nat} {c : Nat} : ∀ {l : List α}, (∀ x ∈ l, f x ≤ c) → (l.map f).sum ≤ c * l.length
  | [], _ => by simp
  | x :: l, h => by
    have h1 := sum_bd (l := l) fun y hy => h y (List.mem_cons_of_mem _ hy)
    have h2 := h x List.mem_cons_self
    rw [List.map_cons, List.sum_cons, List.length_cons, Nat.mul_add]; omega
theorem szLs_ok {ns : List Lp} (h : okN 3 ns) : szLs ns ≤ 1000 := by
  have h1 := sum_bd (f := szL) (c := 30) (l := ns) fun l hl => by
    obtain ⟨_, a1, a2, a3, a4⟩ := h.2 l hl
    have b1 := szAs_le a3
    have b2 := szAs_le a4
    rw [szL]; omega
  have h2 := h.1
  rw [szLs]; omega

theorem bodD_fn {bs : List Int} (hb : Bytes bs) {p : Nat} (hp : p ≤ 2000000) : Fn Try.prog 46 (hbR bs p) [vR] (.o (ad (rP (bodD bs 4 p).1))) (hbR bs (bodD bs 4 p).2) := by
  refine Fn.of_code Try.func46 rfl rfl (hbR_HB _ _) rfl rfl (hbR_HB _ _) rfl (hbR_num _ _ _) ?_
  refine .seq <| .region <| .cons (.al 102 [.slice none 0 0, .slice none 0 0] rfl rfl rfl) <| .nil <| ks_n <| .seq <| .seq <| .region <| .cons (.asg rfl rfl) <| .nil <| ks_n <| .block ?_
  refine .loopK (fun m σ => (∃ (i q : Nat), m = 4 - i ∧ (i ≤ 4) ∧ (q ≤ p + 5000 * i) ∧ (bodD bs 4 p = bodD bs (4 - i) q) ∧ σ = [(.t 0, .v (.o (.c (.box 0 2 0 0)))), (.t 2, .v (.o (.c (.box 110 2 0 0)))), (.t 3, .v (.o (nat1 (i : Nat)))), (.b 0, .b 48 2 (dR ([rRd bs q]))), (.u 0, .u), (.b 110, .b 65 2 [[.d (.val (.slice none 0 0)), .d (.val (.slice none 0 0))]]), (.u 110, .u)])) [(0, 0), (110, 102)] ⟨0, p, rfl, by omega, by omega, rfl, rfl⟩ ⟨ks rfl (.c .bx), ks rfl (.c .bx), ks rfl .dt, kb 0 rfl (.dt rfl (by first | rfl | (rw [hw2]; done) | (rw [hE]; done))), kb 102 rfl (.cons (.cons .dt (.cons .dt Ctos.nil)) .nil), trivial⟩ ?_
  rintro m σ ⟨i, q, hm0, hi, hq, hF, rfl⟩
  refine .seq <| .seq <| .region <| .cons (.mv rfl rfl) <| .cons (.ls rfl rfl rfl) <| .nil <| ks_n ?_
  refine .cD rfl (fun h17 => ?_) (fun h17 => ?_)
  · skip
    obtain ⟨ns, r0, hns⟩ : ∃ a b, nestD bs q = (a, b) := ⟨_, _, rfl⟩
    have hnd := l2Nest_own hb (p := q) (by omega)
    have hok := nestD_ok hb (p := q) (by omega)
    rw [hns] at hnd hok
    dsimp only at hnd hok
    have hn4 : ns.length ≤ 4 := Nat.le_trans hok.1.1 (by omega)
    have hm := numV_mem hb (p := r0) (by omega) (xs := [1, 2, 1, 3]) (by simp)
    obtain ⟨K, hK⟩ : ∃ N : Nat, N = (numV bs r0 [1, 2, 1, 3]).toNat := ⟨_, rfl⟩
    have hK3 : K ≤ 3 := by simp at hm; omega
    have hKv : numV bs r0 [1, 2, 1, 3] = (K : Int) := by simp at hm; omega
    have hQ : bodQ bs q = bodS bs ns K [] (r0 + 1) := by rw [bodQ, hns, ← hK]
    refine .skip <| ks_n <| .seq <| .block <| .seq <| .region <| .cons (.mv rfl rfl) <| .cons (.cR [.tmp 20] 0 rfl rfl rfl rfl (hnd) rfl ⟨rfl, trivial⟩) ?_
    refine .cons (.bu [(0, .tmp 21)] [(0, 1), (1, 1)] [.slice none 0 0, .slice none 0 0] rfl rfl rfl rfl rfl) <| .cons (.al 104 [.slice none 0 0, .slice none 0 0] rfl rfl rfl) <| .cons (.sT 2 true rfl rfl rfl rfl rfl rfl rfl) <| .nil <| ks_n <| .seq <| .seq <| .region <| .cons (.mv rfl rfl) <| .cons (.li 3 0 3 [.const (.int .i64 (1)), .const (.int .i64 (2)), .const (.int .i64 (1)), .const (.int .i64 (3))] rfl rfl rfl rfl rfl rfl) <| .cons (.cR [.tmp 23, .tmp 24] 0 rfl rfl rfl rfl (num_fn hb (by omega) [1, 2, 1, 3] (by simp)) rfl ⟨rfl, trivial⟩) ?_
    refine .cons (.asg rfl rfl) <| .nil <| ks_n <| .block ?_
    refine .loopK (fun m σ => (∃ (k r : Nat), m = k + 0 ∧ (k ≤ 3) ∧ (r ≤ r0 + 1 + 1330 * (3 - k)) ∧ (bodQ bs q = bodS bs ns k [] r) ∧ σ = [(.t 0, .v (.o (.c (.box 0 2 0 0)))), (.t 2, .v (.o (.c (.box 120 2 0 0)))), (.t 3, .v (.o (nat1 (i : Nat)))), (.t 4, .v (.o (.c (.box 121 2 0 0)))), (.t 5, .v (.o (nat1 (k : Nat)))), (.b 0, .b 48 2 (dR ([rRd bs r]))), (.u 0, .u), (.b 120, .b 65 2 [[.d (.val (.slice none 0 0)), .d (.val (.slice none 0 0))]]), (.u 120, .u), (.b 121, .b 65 2 [[.d (dLs ns), .d (.val (.slice none 0 0))]]), (.u 121, .u)]) ∨ (∃ (k : Nat) (o : List Stm) (r : Nat), m = k + 0 ∧ (k ≤ 3) ∧ (r ≤ r0 + 1 + 1330 * (3 - k)) ∧ (bodQ bs q = bodS bs ns k o r) ∧ (1 ≤ o.length ∧ o.length + k ≤ 3) ∧ (szO szS o ≤ 300 * o.length) ∧ σ = [(.t 0, .v (.o (.c (.box 0 2 0 0)))), (.t 2, .v (.o (.c (.box 120 2 0 0)))), (.t 3, .v (.o (nat1 (i : Nat)))), (.t 4, .v (.o (.c (.box 121 2 0 0)))), (.t 5, .v (.o (nat1 (k : Nat)))), (.b 0, .b 48 2 (dR ([rRd bs r]))), (.u 0, .u), (.b 120, .b 65 2 [[.d (.val (.slice none 0 0)), .d (.val (.slice none 0 0))]]), (.u 120, .u), (.b 122, .b 79 9 (dR (o.map rS))), (.u 122, .u), (.b 121, .b 65 2 [[.d (dLs ns), .own 122 9 (o.length)]]), (.u 121, .u)])) [(0, 0), (120, 110), (121, 104)] (.inl ⟨K, r0 + 1, rfl, by omega, by omega, hQ, rfl⟩) ⟨ks rfl (.c .bx), ks rfl (.c .bx), ks rfl .dt, ks rfl (.c .bx), ks rfl (.dt (vI (by omega))), kb 0 rfl (.dt rfl (by first | rfl | (rw [hw2]; done) | (rw [hE]; done))), kb 110 rfl (.cons (.cons .dt (.cons .dt Ctos.nil)) .nil), kb 104 rfl (.cons (.cons .dt (.cons .dt Ctos.nil)) .nil), trivial⟩ ?_
    rintro m σ (⟨k, r, hm0, hk, hr, hG, rfl⟩ | ⟨k, o, r, hm0, hk, hr, hG, ho, hz, rfl⟩)
    · skip
      obtain ⟨tr, tq, htr⟩ : ∃ a b, tryS bs ns 5 r = (a, b) := ⟨_, _, rfl⟩
      have hbt := tryS_bd hb hn4 5 r (by omega)
      rw [htr] at hbt
      dsimp only at hbt
      refine .seq <| .seq <| .region <| .cons (.mv rfl rfl) <| .cons (.gt rfl rfl rfl) <| .nil <| ks_n ?_
      refine .cD rfl (fun h27 => ?_) (fun h27 => ?_)
      · skip
        refine .skip <| ks_n <| .seq <| .block <| .seq <| .region <| .cons (.asg rfl rfl) <| .nil <| ks_n <| .block ?_
        refine .loopK (fun m σ => (∃ (n w : Nat), m = 5 - n ∧ (n ≤ 5) ∧ (w ≤ r + 266 * n) ∧ (tryS bs ns (5 - n) w = (tr, tq)) ∧ σ = [(.t 0, .v (.o (.c (.box 0 2 0 0)))), (.t 2, .v (.o (.c (.box 130 2 0 0)))), (.t 3, .v (.o (nat1 (i : Nat)))), (.t 4, .v (.o (.c (.box 131 2 0 0)))), (.t 5, .v (.o (nat1 (k : Nat)))), (.t 6, .v (.o (nat1 (n : Nat)))), (.b 0, .b 48 2 (dR ([rRd bs w]))), (.u 0, .u), (.b 130, .b 65 2 [[.d (.val (.slice none 0 0)), .d (.val (.slice none 0 0))]]), (.u 130, .u), (.b 131, .b 65 2 [[.d (dLs ns), .d (.val (.slice none 0 0))]]), (.u 131, .u)])) [(0, 0), (130, 120), (131, 121)] ⟨0, r, rfl, by omega, by omega, htr, rfl⟩ ⟨ks rfl (.c .bx), ks rfl (.c .bx), ks rfl .dt, ks rfl (.c .bx), ks rfl .dt, ks rfl .dt, kb 0 rfl (.dt rfl (by first | rfl | (rw [hw2]; done) | (rw [hE]; done))), kb 120 rfl (.cons (.cons .dt (.cons .dt Ctos.nil)) .nil), kb 121 rfl (.cons (.cons .dt (.cons .dt Ctos.nil)) .nil), trivial⟩ ?_
        rintro m σ ⟨n, w, hm0, hn5, hw, hT, rfl⟩
        refine .seq <| .seq <| .region <| .cons (.mv rfl rfl) <| .cons (.ls rfl rfl rfl) <| .nil <| ks_n ?_
        refine .cD rfl (fun h31 => ?_) (fun h31 => ?_)
        · skip
          have hbs := stmD_bd hb hn4 w (by omega)
          refine .skip <| ks_n <| .seq <| .block <| .seq <| .region <| .cons (.mv rfl rfl) <| .cons (.fB 0 0 false rfl rfl rfl) <| .cons (.b1 1 rfl rfl rfl rfl rfl rfl) <| .cons (.ln 100 2 48 rfl rfl rfl) <| .cons (.cR [.tmp 34, .tmp 37] 0 rfl rfl rfl rfl (l3Stmt_fn hb (by omega) ns.length (by omega)) rfl ⟨rfl, trivial⟩) ?_
          refine .cons (.al 107 [.string ByteArray.empty, .slice none 0 0, .int .i64 0, .int .i64 0, .slice none 0 0, .int .i64 0, .string ByteArray.empty, .slice none 0 0, .slice none 0 0] rfl rfl rfl) <| .cons (.sT 9 true rfl rfl rfl rfl rfl rfl rfl) <| .nil <| ks_n <| .seq ?_
          refine ACode.drawK (by kernel_rfl) (by kernel_rfl) ?_
          refine .cons (.cP [] rfl rfl rfl rfl (l4Some_fn) rfl) ?_
          refine .cons (.fB 0 0 false rfl rfl rfl) <| .cons (.b1 1 rfl rfl rfl rfl rfl rfl) <| .cons (.bN 9 rfl rfl rfl rfl rfl rfl) <| .cons (.li 79 8 0 [.tmp 43] rfl rfl rfl rfl rfl rfl) <| .cons (.bu [(0, .tmp 42), (1, .tmp 44)] [(0, 1), (1, 1)] [.slice none 0 0, .slice none 0 0] rfl rfl rfl rfl rfl) <| .cons (.cP [.tmp 40, .tmp 45] rfl rfl rfl rfl (l4Part_fn some_ok (q := (ns, [(stmD bs ns.length w).1])) (by show szLs ns + szO szS [(stmD bs ns.length w).1] ≤ 1073741824; have := szLs_ok hok.1; simp [szO]; omega)) rfl) ?_
          refine .cons (.mv rfl rfl) <| .cons (.ex rfl rfl rfl) <| .cons (.ex rfl rfl rfl) <| .cons (.asg rfl rfl) <| .cons (.asg rfl rfl) ?_
          refine .nil ⟨by kernel_rfl, ?_⟩
          refine ks_n <| .seq <| .region <| .cons (.mv rfl rfl) <| .nil <| ks_n ?_
          refine ACode.condT rfl (fun h49 => ?_) (fun h49 => ?_)
          · try simp only [zs1, zs2, zs3, zs4, zs5, zs6, zs7] at h49
            obtain ⟨hSome, hw2⟩ := tryS_yes (by omega) h49 hT
            refine .seq <| .region <| .cons (.fB 1 0 false rfl rfl rfl) <| .cons (.b1 1 rfl rfl rfl rfl rfl rfl) <| .cons (.bN 9 rfl rfl rfl rfl rfl rfl) <| .cons (.li 79 8 0 [.tmp 52] rfl rfl rfl rfl rfl rfl) <| .cons (St1.appN (k' := 154) (e := 79) (sz := 8) (by' := 152) rfl rfl rfl rfl rfl (by kernel_rfl) rfl rfl rfl (by simp) (by first | (simp [dR]; done) | (simp [dR]; omega)) rfl rfl) ?_
            refine .cons (.fB 1 0 false rfl rfl rfl) <| .cons (.sT 1 false rfl rfl rfl rfl rfl rfl rfl) <| .nil <| ks_n <| .exit ?_
            refine kb_miss rfl ?_
            refine ks_e <| kl_e <| kb_hit <| kb_n <| ks_n <| .region <| .cons (.mv rfl rfl) <| .cons (.sb rfl rfl rfl) <| .cons (.asg rfl rfl) <| .nil ?_
            refine kl_k [(0, 0), (120, 130), (121, 131), (122, 154)] (.inr ⟨k - 1, [(stmD bs ns.length w).1], tq, rfl, by omega, by omega, by rw [hG]; obtain ⟨j, rfl⟩ : ∃ j, k = j + 1 := ⟨k - 1, by omega⟩; rw [bodS, htr, hSome]; rfl, ⟨by simp, by rw [List.length_singleton]; omega⟩, by simp [szO]; omega, rfl⟩) ⟨ks rfl (.c .bx), ks rfl (.c .bx), ks rfl .dt, ks rfl (.c .bx), ks rfl (.dt (vI (by omega))), kb 0 rfl (.dt rfl (by first | rfl | (rw [hw2]; done) | (rw [hE]; done))), kb 130 rfl (.cons (.cons .dt (.cons .dt Ctos.nil)) .nil), kb 154 rfl (.dt rfl (by first | rfl | (simp [dR, rS]; done) | (simp [dR]; done))), kb 131 rfl (.cons (.cons .dt (.cons .ow Ctos.nil)) .nil), trivial⟩
          · try simp only [zs1, zs2, zs3, zs4, zs5, zs6, zs7] at h49
            refine .skip <| kb_n <| ks_n <| .region <| .cons (.mv rfl rfl) <| .cons (.pl rfl rfl rfl) <| .cons (.asg rfl rfl) <| .nil ?_
            refine kl_k [(0, 0), (130, 130), (131, 131)] ⟨n + 1, (stmD bs ns.length w).2, rfl, by omega, by omega, by rw [← hT, show 5 - n = (5 - (n + 1)) + 1 by omega, tryS, if_neg (by rw [h49]; decide)], rfl⟩ ⟨ks rfl (.c .bx), ks rfl (.c .bx), ks rfl .dt, ks rfl (.c .bx), ks rfl .dt, ks rfl .dt, kb 0 rfl (.dt rfl (by first | rfl | (rw [hw2]; done) | (rw [hE]; done))), kb 130 rfl (.cons (.cons .dt (.cons .dt Ctos.nil)) .nil), kb 131 rfl (.cons (.cons .dt (.cons .dt Ctos.nil)) .nil), trivial⟩
        · skip
          obtain ⟨hNone, hw2⟩ := tryS_end (by omega) hT
          refine .exit <| ks_e <| kl_e <| kb_hit <| kb_n <| ks_n <| .region <| .cons (.mv rfl rfl) <| .cons (.sb rfl rfl rfl) <| .cons (.asg rfl rfl) <| .nil ?_
          refine kl_k [(0, 0), (120, 130), (121, 131)] (.inl ⟨k - 1, tq, rfl, by omega, by omega, by rw [hG]; obtain ⟨j, rfl⟩ : ∃ j, k = j + 1 := ⟨k - 1, by omega⟩; rw [bodS, htr, hNone]; rfl, rfl⟩) ⟨ks rfl (.c .bx), ks rfl (.c .bx), ks rfl .dt, ks rfl (.c .bx), ks rfl (.dt (vI (by omega))), kb 0 rfl (.dt rfl (by first | rfl | (rw [hw2]; done) | (rw [hE]; done))), kb 130 rfl (.cons (.cons .dt (.cons .dt Ctos.nil)) .nil), kb 131 rfl (.cons (.cons .dt (.cons .dt Ctos.nil)) .nil), trivial⟩
      · skip
        obtain rfl : k = 0 := by omega
        have hE : bodQ bs q = (([] : List Stm), r) := hG
        have hB0 := bodD_at (bs := bs) (q := q) (i := i) hns hE (by omega)
        refine .exit <| ks_e <| kl_e <| kb_hit <| ks_n <| .seq ?_
        refine .keep [(.t 0, .v (.o (.c (.box 0 2 0 0)))), (.t 2, .v (.o (.c (.box 500 2 0 0)))), (.t 3, .v (.o (nat1 (i : Nat)))), (.t 4, .v (.o (.c (.box 501 2 0 0)))), (.b 0, .b 48 2 (dR ([rRd bs r]))), (.u 0, .u), (.b 500, .b 65 2 [[.d (.val (.slice none 0 0)), .d (.val (.slice none 0 0))]]), (.u 500, .u), (.b 501, .b 65 2 [[.d (dLs ns), .d (dMs ([] : List Stm))]]), (.u 501, .u)] [(0, 0), (500, 120), (501, 121)] ⟨ks rfl (.c .bx), ks rfl (.c .bx), ks rfl .dt, ks rfl (.c .bx), kb 0 rfl (.dt rfl (by first | rfl | (rw [hw2]; done) | (rw [hE]; done))), kb 120 rfl (.cons (.cons .dt (.cons .dt Ctos.nil)) .nil), kb 121 rfl (.cons (.cons .dt (.cons (Cto.nilE 9 rfl) Ctos.nil)) .nil), trivial⟩ ?_
        refine ACode.drawK (by kernel_rfl) (by kernel_rfl) ?_
        refine .cons (.cP [] rfl rfl rfl rfl (l4Some_fn) rfl) ?_
        refine .cons (.bN 2 rfl rfl rfl rfl rfl rfl) <| .cons (.cP [.tmp 57, .tmp 58] rfl rfl rfl rfl (l4Part_fn some_ok (q := (ns, ([] : List Stm))) (by show szLs ns + szO szS ([] : List Stm) ≤ 1073741824; have := szLs_ok hok.1; first | omega | (simp [szO]; omega))) rfl) ?_
        refine .cons (.mv rfl rfl) <| .cons (.ex rfl rfl rfl) <| .cons (.ex rfl rfl rfl) <| .cons (.asg rfl rfl) <| .cons (.asg rfl rfl) ?_
        refine .nil ⟨by kernel_rfl, ?_⟩
        refine ks_n <| .seq <| .region <| .cons (.mv rfl rfl) <| .cons (.mv rfl rfl) ?_
        refine AOps.cases 63 _ rfl (fun g63 => ?_) (fun g63 => ?_)
        · try simp only [zs1, zs2, zs3, zs4, zs5, zs6, zs7] at g63
          refine .cons (.gT rfl rfl rfl (.mv rfl rfl)) <| .cons (.gT rfl rfl rfl (.le rfl rfl rfl)) <| .cons (.pT rfl rfl rfl) <| .nil <| ks_n ?_
          refine ACode.condT rfl (fun h66 => ?_) (fun h66 => ?_)
          · try simp only [zs1, zs2, zs3, zs4, zs5, zs6, zs7] at h66
            have hT : bodD bs 4 p = ((ns, ([] : List Stm)), r) := by rw [hF, hB0, if_pos (by first | (simp [*]; done) | (exact ⟨by simp_all, by simp_all⟩))]
            refine .seq <| .region <| .cons (.bN 2 rfl rfl rfl rfl rfl rfl) <| .cons (.sT 2 true rfl rfl rfl rfl rfl rfl rfl) <| .nil <| ks_n <| .ret <| kb_r <| ks_r <| kl_r <| kb_r <| ks_r ?_
            refine kf_wret [(.t 2, .v (.o (.c (.box 100 2 0 0)))), (.b 0, .b 48 2 (dR ([rRd bs (bodD bs 4 p).2]))), (.u 0, .u), (.b 100, .b 65 2 [[.d (dLs (bodD bs 4 p).1.1), .d (dMs (bodD bs 4 p).1.2)]]), (.u 100, .u)] (Wk.keep [(0, 0), (100, 500)] rfl rfl ⟨ks rfl (.c .bx), kb 0 rfl (.dt rfl (by rw [hT])), kb 500 rfl (.cons (.cons (.dt (by first | (rw [hT]; done) | (rw [hT]; rfl))) (.cons (.dt (by first | (rw [hT]; done) | (rw [hT]; rfl))) Ctos.nil)) .nil), trivial⟩) rfl ?_ (hbR_box rfl)
            rfl
          · try simp only [zs1, zs2, zs3, zs4, zs5, zs6, zs7] at h66
            refine .skip <| kb_n <| ks_n <| .region <| .cons (.mv rfl rfl) <| .cons (.pl rfl rfl rfl) <| .cons (.asg rfl rfl) <| .nil ?_
            refine kl_k [(0, 0), (110, 500)] ⟨i + 1, (bodQ bs q).2, rfl, by omega, by rw [hE]; dsimp only; omega, by rw [hF, hB0, if_neg (by first | (simp [*]; done) | (intro hh; simp_all; done) | (intro hh; simp_all; omega))], rfl⟩ ⟨ks rfl (.c .bx), ks rfl (.c .bx), ks rfl .dt, kb 0 rfl (.dt rfl (by first | rfl | (rw [hw2]; done) | (rw [hE]; done))), kb 500 rfl (.cons (.cons .dt (.cons .dt Ctos.nil)) .nil), trivial⟩
        · try simp only [zs1, zs2, zs3, zs4, zs5, zs6, zs7] at g63
          refine .cons (.gF rfl rfl rfl) <| .cons (.gF rfl rfl rfl) <| .cons (.pF rfl rfl rfl) <| .nil <| ks_n ?_
          refine ACode.condT rfl (fun h => by first | (cases h; done) | (simp [*] at h; done) | (exfalso; simp_all; done)) (fun _ => ?_)
          refine .skip <| kb_n <| ks_n <| .region <| .cons (.mv rfl rfl) <| .cons (.pl rfl rfl rfl) <| .cons (.asg rfl rfl) <| .nil ?_
          refine kl_k [(0, 0), (110, 500)] ⟨i + 1, (bodQ bs q).2, rfl, by omega, by rw [hE]; dsimp only; omega, by rw [hF, hB0, if_neg (by first | (simp [*]; done) | (intro hh; simp_all; done) | (intro hh; simp_all; omega))], rfl⟩ ⟨ks rfl (.c .bx), ks rfl (.c .bx), ks rfl .dt, kb 0 rfl (.dt rfl (by first | rfl | (rw [hw2]; done) | (rw [hE]; done))), kb 500 rfl (.cons (.cons .dt (.cons .dt Ctos.nil)) .nil), trivial⟩
    · skip
      obtain ⟨tr, tq, htr⟩ : ∃ a b, tryS bs ns 5 r = (a, b) := ⟨_, _, rfl⟩
      have hbt := tryS_bd hb hn4 5 r (by omega)
      rw [htr] at hbt
      dsimp only at hbt
      refine .seq <| .seq <| .region <| .cons (.mv rfl rfl) <| .cons (.gt rfl rfl rfl) <| .nil <| ks_n ?_
      refine .cD rfl (fun h27 => ?_) (fun h27 => ?_)
      · skip
        refine .skip <| ks_n <| .seq <| .block <| .seq <| .region <| .cons (.asg rfl rfl) <| .nil <| ks_n <| .block ?_
        refine .loopK (fun m σ => (∃ (n w : Nat), m = 5 - n ∧ (n ≤ 5) ∧ (w ≤ r + 266 * n) ∧ (tryS bs ns (5 - n) w = (tr, tq)) ∧ σ = [(.t 0, .v (.o (.c (.box 0 2 0 0)))), (.t 2, .v (.o (.c (.box 130 2 0 0)))), (.t 3, .v (.o (nat1 (i : Nat)))), (.t 4, .v (.o (.c (.box 131 2 0 0)))), (.t 5, .v (.o (nat1 (k : Nat)))), (.t 6, .v (.o (nat1 (n : Nat)))), (.b 0, .b 48 2 (dR ([rRd bs w]))), (.u 0, .u), (.b 130, .b 65 2 [[.d (.val (.slice none 0 0)), .d (.val (.slice none 0 0))]]), (.u 130, .u), (.b 132, .b 79 9 (dR (o.map rS))), (.u 132, .u), (.b 131, .b 65 2 [[.d (dLs ns), .own 132 9 (o.length)]]), (.u 131, .u)])) [(0, 0), (130, 120), (131, 121), (132, 122)] ⟨0, r, rfl, by omega, by omega, htr, rfl⟩ ⟨ks rfl (.c .bx), ks rfl (.c .bx), ks rfl .dt, ks rfl (.c .bx), ks rfl .dt, ks rfl .dt, kb 0 rfl (.dt rfl (by first | rfl | (rw [hw2]; done) | (rw [hE]; done))), kb 120 rfl (.cons (.cons .dt (.cons .dt Ctos.nil)) .nil), kb 122 rfl (.dt rfl (by first | rfl | (simp [dR, rS]; done) | (simp [dR]; done))), kb 121 rfl (.cons (.cons .dt (.cons .ow Ctos.nil)) .nil), trivial⟩ ?_
        rintro m σ ⟨n, w, hm0, hn5, hw, hT, rfl⟩
        refine .seq <| .seq <| .region <| .cons (.mv rfl rfl) <| .cons (.ls rfl rfl rfl) <| .nil <| ks_n ?_
        refine .cD rfl (fun h31 => ?_) (fun h31 => ?_)
        · skip
          have hbs := stmD_bd hb hn4 w (by omega)
          refine .skip <| ks_n <| .seq <| .block <| .seq <| .region <| .cons (.mv rfl rfl) <| .cons (.fB 0 0 false rfl rfl rfl) <| .cons (.b1 1 rfl rfl rfl rfl rfl rfl) <| .cons (.ln 100 2 48 rfl rfl rfl) <| .cons (.cR [.tmp 34, .tmp 37] 0 rfl rfl rfl rfl (l3Stmt_fn hb (by omega) ns.length (by omega)) rfl ⟨rfl, trivial⟩) ?_
          refine .cons (.al 107 [.string ByteArray.empty, .slice none 0 0, .int .i64 0, .int .i64 0, .slice none 0 0, .int .i64 0, .string ByteArray.empty, .slice none 0 0, .slice none 0 0] rfl rfl rfl) <| .cons (.sT 9 true rfl rfl rfl rfl rfl rfl rfl) <| .nil <| ks_n <| .seq ?_
          refine ACode.drawK (by kernel_rfl) (by kernel_rfl) ?_
          refine .cons (.cP [] rfl rfl rfl rfl (l4Some_fn) rfl) ?_
          refine .cons (.fB 0 0 false rfl rfl rfl) <| .cons (.b1 1 rfl rfl rfl rfl rfl rfl) <| .cons (.bN 9 rfl rfl rfl rfl rfl rfl) <| .cons (.li 79 8 0 [.tmp 43] rfl rfl rfl rfl rfl rfl) <| .cons (.bu [(0, .tmp 42), (1, .tmp 44)] [(0, 1), (1, 1)] [.slice none 0 0, .slice none 0 0] rfl rfl rfl rfl rfl) <| .cons (.cP [.tmp 40, .tmp 45] rfl rfl rfl rfl (l4Part_fn some_ok (q := (ns, [(stmD bs ns.length w).1])) (by show szLs ns + szO szS [(stmD bs ns.length w).1] ≤ 1073741824; have := szLs_ok hok.1; simp [szO]; omega)) rfl) ?_
          refine .cons (.mv rfl rfl) <| .cons (.ex rfl rfl rfl) <| .cons (.ex rfl rfl rfl) <| .cons (.asg rfl rfl) <| .cons (.asg rfl rfl) ?_
          refine .nil ⟨by kernel_rfl, ?_⟩
          refine ks_n <| .seq <| .region <| .cons (.mv rfl rfl) <| .nil <| ks_n ?_
          refine ACode.condT rfl (fun h49 => ?_) (fun h49 => ?_)
          · try simp only [zs1, zs2, zs3, zs4, zs5, zs6, zs7] at h49
            obtain ⟨hSome, hw2⟩ := tryS_yes (by omega) h49 hT
            refine .seq <| .region <| .cons (.fB 1 0 false rfl rfl rfl) <| .cons (.b1 1 rfl rfl rfl rfl rfl rfl) <| .cons (.bN 9 rfl rfl rfl rfl rfl rfl) <| .cons (.li 79 8 0 [.tmp 52] rfl rfl rfl rfl rfl rfl) <| .cons (St1.appB (k' := 154) (e := 79) (sz := 8) (by' := 152) rfl rfl rfl rfl rfl (by kernel_rfl) rfl rfl rfl rfl (by simp [dR]) (by first | (simp [dR]; done) | (simp [dR]; omega)) rfl rfl rfl) ?_
            refine .cons (.fB 1 0 false rfl rfl rfl) <| .cons (.sT 1 false rfl rfl rfl rfl rfl rfl rfl) <| .nil <| ks_n <| .exit ?_
            refine kb_miss rfl ?_
            refine ks_e <| kl_e <| kb_hit <| kb_n <| ks_n <| .region <| .cons (.mv rfl rfl) <| .cons (.sb rfl rfl rfl) <| .cons (.asg rfl rfl) <| .nil ?_
            refine kl_k [(0, 0), (120, 130), (121, 131), (122, 154)] (.inr ⟨k - 1, o ++ [(stmD bs ns.length w).1], tq, rfl, by omega, by omega, by rw [hG]; obtain ⟨j, rfl⟩ : ∃ j, k = j + 1 := ⟨k - 1, by omega⟩; rw [bodS, htr, hSome]; rfl, by rw [List.length_append, List.length_singleton]; omega, by rw [szO_app, List.length_append, List.length_singleton]; omega, rfl⟩) ⟨ks rfl (.c .bx), ks rfl (.c .bx), ks rfl .dt, ks rfl (.c .bx), ks rfl (.dt (vI (by omega))), kb 0 rfl (.dt rfl (by first | rfl | (rw [hw2]; done) | (rw [hE]; done))), kb 130 rfl (.cons (.cons .dt (.cons .dt Ctos.nil)) .nil), kb 154 rfl (.dt rfl (by first | rfl | (simp [dR, rS]; done) | (simp [dR]; done))), kb 131 rfl (.cons (.cons .dt (.cons .ow Ctos.nil)) .nil), trivial⟩
          · try simp only [zs1, zs2, zs3, zs4, zs5, zs6, zs7] at h49
            refine .skip <| kb_n <| ks_n <| .region <| .cons (.mv rfl rfl) <| .cons (.pl rfl rfl rfl) <| .cons (.asg rfl rfl) <| .nil ?_
            refine kl_k [(0, 0), (130, 130), (131, 131), (132, 132)] ⟨n + 1, (stmD bs ns.length w).2, rfl, by omega, by omega, by rw [← hT, show 5 - n = (5 - (n + 1)) + 1 by omega, tryS, if_neg (by rw [h49]; decide)], rfl⟩ ⟨ks rfl (.c .bx), ks rfl (.c .bx), ks rfl .dt, ks rfl (.c .bx), ks rfl .dt, ks rfl .dt, kb 0 rfl (.dt rfl (by first | rfl | (rw [hw2]; done) | (rw [hE]; done))), kb 130 rfl (.cons (.cons .dt (.cons .dt Ctos.nil)) .nil), kb 132 rfl (.dt rfl (by first | rfl | (simp [dR, rS]; done) | (simp [dR]; done))), kb 131 rfl (.cons (.cons .dt (.cons .ow Ctos.nil)) .nil), trivial⟩
        · skip
          obtain ⟨hNone, hw2⟩ := tryS_end (by omega) hT
          refine .exit <| ks_e <| kl_e <| kb_hit <| kb_n <| ks_n <| .region <| .cons (.mv rfl rfl) <| .cons (.sb rfl rfl rfl) <| .cons (.asg rfl rfl) <| .nil ?_
          refine kl_k [(0, 0), (120, 130), (121, 131), (122, 132)] (.inr ⟨k - 1, o, tq, rfl, by omega, by omega, by rw [hG]; obtain ⟨j, rfl⟩ : ∃ j, k = j + 1 := ⟨k - 1, by omega⟩; rw [bodS, htr, hNone]; rfl, by omega, by omega, rfl⟩) ⟨ks rfl (.c .bx), ks rfl (.c .bx), ks rfl .dt, ks rfl (.c .bx), ks rfl (.dt (vI (by omega))), kb 0 rfl (.dt rfl (by first | rfl | (rw [hw2]; done) | (rw [hE]; done))), kb 130 rfl (.cons (.cons .dt (.cons .dt Ctos.nil)) .nil), kb 132 rfl (.dt rfl (by first | rfl | (simp [dR, rS]; done) | (simp [dR]; done))), kb 131 rfl (.cons (.cons .dt (.cons .ow Ctos.nil)) .nil), trivial⟩
      · skip
        obtain rfl : k = 0 := by omega
        have hE : bodQ bs q = (o, r) := hG
        have hB0 := bodD_at (bs := bs) (q := q) (i := i) hns hE (by omega)
        refine .exit <| ks_e <| kl_e <| kb_hit <| ks_n <| .seq ?_
        refine .keep [(.t 0, .v (.o (.c (.box 0 2 0 0)))), (.t 2, .v (.o (.c (.box 500 2 0 0)))), (.t 3, .v (.o (nat1 (i : Nat)))), (.t 4, .v (.o (.c (.box 501 2 0 0)))), (.b 0, .b 48 2 (dR ([rRd bs r]))), (.u 0, .u), (.b 500, .b 65 2 [[.d (.val (.slice none 0 0)), .d (.val (.slice none 0 0))]]), (.u 500, .u), (.b 501, .b 65 2 [[.d (dLs ns), .d (dMs o)]]), (.u 501, .u)] [(0, 0), (500, 120), (501, 121)] ⟨ks rfl (.c .bx), ks rfl (.c .bx), ks rfl .dt, ks rfl (.c .bx), kb 0 rfl (.dt rfl (by first | rfl | (rw [hw2]; done) | (rw [hE]; done))), kb 120 rfl (.cons (.cons .dt (.cons .dt Ctos.nil)) .nil), kb 121 rfl (.cons (.cons .dt (.cons (.fz rfl rfl (by simp) (by omega)) Ctos.nil)) .nil), trivial⟩ ?_
        refine ACode.drawK (by kernel_rfl) (by kernel_rfl) ?_
        refine .cons (.cP [] rfl rfl rfl rfl (l4Some_fn) rfl) ?_
        refine .cons (.bN 2 rfl rfl rfl rfl rfl rfl) <| .cons (.cP [.tmp 57, .tmp 58] rfl rfl rfl rfl (l4Part_fn some_ok (q := (ns, o)) (by show szLs ns + szO szS o ≤ 1073741824; have := szLs_ok hok.1; first | omega | (simp [szO]; omega))) rfl) ?_
        refine .cons (.mv rfl rfl) <| .cons (.ex rfl rfl rfl) <| .cons (.ex rfl rfl rfl) <| .cons (.asg rfl rfl) <| .cons (.asg rfl rfl) ?_
        refine .nil ⟨by kernel_rfl, ?_⟩
        refine ks_n <| .seq <| .region <| .cons (.mv rfl rfl) <| .cons (.mv rfl rfl) ?_
        refine AOps.cases 63 _ rfl (fun g63 => ?_) (fun g63 => ?_)
        · try simp only [zs1, zs2, zs3, zs4, zs5, zs6, zs7] at g63
          refine .cons (.gT rfl rfl rfl (.mv rfl rfl)) <| .cons (.gT rfl rfl rfl (.le rfl rfl rfl)) <| .cons (.pT rfl rfl rfl) <| .nil <| ks_n ?_
          refine ACode.condT rfl (fun h66 => ?_) (fun h66 => ?_)
          · try simp only [zs1, zs2, zs3, zs4, zs5, zs6, zs7] at h66
            have hT : bodD bs 4 p = ((ns, o), r) := by rw [hF, hB0, if_pos (by first | (simp [*]; done) | (exact ⟨by simp_all, by simp_all⟩))]
            refine .seq <| .region <| .cons (.bN 2 rfl rfl rfl rfl rfl rfl) <| .cons (.sT 2 true rfl rfl rfl rfl rfl rfl rfl) <| .nil <| ks_n <| .ret <| kb_r <| ks_r <| kl_r <| kb_r <| ks_r ?_
            refine kf_wret [(.t 2, .v (.o (.c (.box 100 2 0 0)))), (.b 0, .b 48 2 (dR ([rRd bs (bodD bs 4 p).2]))), (.u 0, .u), (.b 100, .b 65 2 [[.d (dLs (bodD bs 4 p).1.1), .d (dMs (bodD bs 4 p).1.2)]]), (.u 100, .u)] (Wk.keep [(0, 0), (100, 500)] rfl rfl ⟨ks rfl (.c .bx), kb 0 rfl (.dt rfl (by rw [hT])), kb 500 rfl (.cons (.cons (.dt (by first | (rw [hT]; done) | (rw [hT]; rfl))) (.cons (.dt (by first | (rw [hT]; done) | (rw [hT]; rfl))) Ctos.nil)) .nil), trivial⟩) rfl ?_ (hbR_box rfl)
            rfl
          · try simp only [zs1, zs2, zs3, zs4, zs5, zs6, zs7] at h66
            refine .skip <| kb_n <| ks_n <| .region <| .cons (.mv rfl rfl) <| .cons (.pl rfl rfl rfl) <| .cons (.asg rfl rfl) <| .nil ?_
            refine kl_k [(0, 0), (110, 500)] ⟨i + 1, (bodQ bs q).2, rfl, by omega, by rw [hE]; dsimp only; omega, by rw [hF, hB0, if_neg (by first | (simp [*]; done) | (intro hh; simp_all; done) | (intro hh; simp_all; omega))], rfl⟩ ⟨ks rfl (.c .bx), ks rfl (.c .bx), ks rfl .dt, kb 0 rfl (.dt rfl (by first | rfl | (rw [hw2]; done) | (rw [hE]; done))), kb 500 rfl (.cons (.cons .dt (.cons .dt Ctos.nil)) .nil), trivial⟩
        · try simp only [zs1, zs2, zs3, zs4, zs5, zs6, zs7] at g63
          refine .cons (.gF rfl rfl rfl) <| .cons (.gF rfl rfl rfl) <| .cons (.pF rfl rfl rfl) <| .nil <| ks_n ?_
          refine ACode.condT rfl (fun h => by first | (cases h; done) | (simp [*] at h; done) | (exfalso; simp_all; done)) (fun _ => ?_)
          refine .skip <| kb_n <| ks_n <| .region <| .cons (.mv rfl rfl) <| .cons (.pl rfl rfl rfl) <| .cons (.asg rfl rfl) <| .nil ?_
          refine kl_k [(0, 0), (110, 500)] ⟨i + 1, (bodQ bs q).2, rfl, by omega, by rw [hE]; dsimp only; omega, by rw [hF, hB0, if_neg (by first | (simp [*]; done) | (intro hh; simp_all; done) | (intro hh; simp_all; omega))], rfl⟩ ⟨ks rfl (.c .bx), ks rfl (.c .bx), ks rfl .dt, kb 0 rfl (.dt rfl (by first | rfl | (rw [hw2]; done) | (rw [hE]; done))), kb 500 rfl (.cons (.cons .dt (.cons .dt Ctos.nil)) .nil), trivial⟩
  · skip
    have hT : bodD bs 4 p = (dfP, q) := by rw [hF, show 4 - i = 0 by omega]; rfl
    refine .exit <| ks_e <| kl_e <| kb_hit <| ks_n <| .seq <| .region <| .cons (.cP [.const (.string ⟨#[65, 91, 105, 93, 61, 40, 65, 91, 105, 93, 43, 123, 105, 125, 41]⟩)] rfl rfl rfl rfl (psV_fn (by decide)) rfl) ?_
    refine .cons (.mv rfl rfl) <| .cons (.ex rfl rfl rfl) <| .cons (.ex rfl rfl rfl) <| .cons (.al 112 [.string ByteArray.empty, .slice none 0 0, .int .i64 0, .int .i64 0, .slice none 0 0, .int .i64 0, .string ByteArray.empty, .slice none 0 0, .slice none 0 0] rfl rfl rfl) <| .cons (.sT 9 true rfl rfl rfl rfl rfl rfl rfl) <| .cons (.asg rfl rfl) <| .nil <| ks_n <| .seq <| .region <| .cons (.li 3 0 0 [.const (.int .i64 (4))] rfl rfl rfl rfl rfl rfl) <| .cons (.cP [.tmp 73] rfl rfl rfl rfl (specBox_fn [4] (by simp)) rfl) ?_
    refine .cons (.mv rfl rfl) <| .cons (.ex rfl rfl rfl) <| .cons (.ex rfl rfl rfl) <| .cons (.asg rfl rfl) <| .cons (.asg rfl rfl) <| .nil <| ks_n <| .seq <| .region <| .cons (.mv rfl rfl) <| .cons (.bN 9 rfl rfl rfl rfl rfl rfl) <| .cons (.li 79 8 0 [.tmp 78] rfl rfl rfl rfl rfl rfl) <| .cons (.bu [(0, .tmp 77), (1, .tmp 79)] [(0, 1), (1, 1)] [.slice none 0 0, .slice none 0 0] rfl rfl rfl rfl rfl) <| .cons (.sT 2 true rfl rfl rfl rfl rfl rfl rfl) <| .nil <| ks_n <| .ret ?_
    refine kf_wret [(.t 2, .v (.o (.c (.box 100 2 0 0)))), (.b 0, .b 48 2 (dR ([rRd bs (bodD bs 4 p).2]))), (.u 0, .u), (.b 100, .b 65 2 [[.d (dLs (bodD bs 4 p).1.1), .d (dMs (bodD bs 4 p).1.2)]]), (.u 100, .u)] (Wk.keep [(0, 0), (100, 110)] rfl rfl ⟨ks rfl (.c .bx), kb 0 rfl (.dt rfl (by rw [hT])), kb 110 rfl (.cons (.cons (.dt (by first | (rw [hT]; done) | (rw [hT]; rfl))) (.cons (.dt (by first | (rw [hT]; done) | (rw [hT]; rfl))) Ctos.nil)) .nil), trivial⟩) rfl ?_ (hbR_box rfl)
    rfl

theorem dfP_sz : szPt dfP ≤ 5000 := by
  have h1 := psV_sz ⟨#[65, 91, 105, 93, 61, 40, 65, 91, 105, 93, 43, 123, 105, 125, 41]⟩
  have h2 : szLs (boxN [4]) ≤ 100 := by decide
  show szLs (boxN [4]) + szO szS [dfS] ≤ 5000
  have h3 : szO szS [dfS] = 1 + szS dfS := by simp [szO]
  have h4 : szS dfS ≤ 2016 := h1
  omega
theorem bodD_bd {bs : List Int} (hb : Bytes bs) : ∀ (m q : Nat), q + 5000 * m ≤ 50000000 → (bodD bs m q).2 ≤ q + 5000 * m ∧ szPt (bodD bs m q).1 ≤ 5000
  | 0, q, h => ⟨Nat.le_refl _, dfP_sz⟩
  | m + 1, q, h => by
    have hq : q ≤ 1099511627776 := by omega
    obtain ⟨ns, r0, hns⟩ : ∃ a b, nestD bs q = (a, b) := ⟨_, _, rfl⟩
    have hok := nestD_ok hb hq
    rw [hns] at hok
    dsimp only at hok
    have hn4 : ns.length ≤ 4 := Nat.le_trans hok.1.1 (by omega)
    have hr0 : r0 ≤ 1099511627776 := by omega
    have hm := numV_mem hb hr0 (xs := [1, 2, 1, 3]) (by simp)
    obtain ⟨K, hK⟩ : ∃ N : Nat, N = (numV bs r0 [1, 2, 1, 3]).toNat := ⟨_, rfl⟩
    have hK3 : K ≤ 3 := by simp at hm; omega
    have hQ : bodQ bs q = bodS bs ns K [] (r0 + 1) := by rw [bodQ, hns, ← hK]
    have h0 : r0 + 1 + 1330 * K ≤ 100000000 := by omega
    have h1 := bodS_bd hb hn4 K [] (r0 + 1) h0
    rw [← hQ] at h1
    have e0 : szO szS [] = 0 := rfl
    have hz := szLs_ok hok.1
    rw [bodD, hns]
    generalize bodQ bs q = r at *
    obtain ⟨o, q1⟩ := r
    dsimp only at h1 ⊢
    split
    · refine ⟨by dsimp only; omega, ?_⟩
      show szLs ns + szO szS o ≤ 5000
      omega
    · have h3 : q1 + 5000 * m ≤ 50000000 := by omega
      have h2 := bodD_bd hb m q1 h3
      omega
theorem drawB {bs : List Int} (hb : Bytes bs) : DrawB bs (bodD bs 4) := fun p hp => by
  have h0 : p + 5000 * 4 ≤ 50000000 := by omega
  have h1 := bodD_bd hb 4 p h0
  exact ⟨by omega, by omega, bodD_fn hb hp⟩
/-- The kind of a line: of an array, of a part, of a loop, of a statement. -/
def kdL (s : ByteArray) : Nat := if 0 < (wrdV s).length ∧ sEq ((wrdV s).getD 0 ⟨#[]⟩) ⟨#[97, 114, 114, 97, 121]⟩ = true then 0 else if sEq s ⟨#[112, 97, 114, 116]⟩ = true then 1 else if 0 < (wrdV s).length ∧ sEq ((wrdV s).getD 0 ⟨#[]⟩) ⟨#[102, 111, 114]⟩ = true then 2 else 3
theorem kdL_0 {s : ByteArray} (h : kdL s = 0) : 0 < (wrdV s).length ∧ sEq ((wrdV s).getD 0 ⟨#[]⟩) ⟨#[97, 114, 114, 97, 121]⟩ = true := by
  unfold kdL at h; split at h
  · assumption
  · split at h
    · cases h
    · split at h <;> cases h
theorem kdL_no0 {s : ByteArray} (h : kdL s ≠ 0) : ¬ (0 < (wrdV s).length ∧ sEq ((wrdV s).getD 0 ⟨#[]⟩) ⟨#[97, 114, 114, 97, 121]⟩ = true) := by
  intro h2; exact h (by rw [kdL, if_pos h2])
theorem kdL_1 {s : ByteArray} (h : kdL s = 1) : sEq s ⟨#[112, 97, 114, 116]⟩ = true := by
  unfold kdL at h; split at h
  · cases h
  · split at h
    · assumption
    · split at h <;> cases h
theorem kdL_no1 {s : ByteArray} (h : 2 ≤ kdL s) : sEq s ⟨#[112, 97, 114, 116]⟩ = false := by
  unfold kdL at h; split at h
  · omega
  · split at h
    · omega
    · simp_all
theorem kdL_2 {s : ByteArray} (h : kdL s = 2) : 0 < (wrdV s).length ∧ sEq ((wrdV s).getD 0 ⟨#[]⟩) ⟨#[102, 111, 114]⟩ = true := by
  unfold kdL at h; split at h
  · cases h
  · split at h
    · cases h
    · split at h
      · assumption
      · cases h
theorem kdL_3 {s : ByteArray} (h : kdL s = 3) : ¬ (0 < (wrdV s).length ∧ sEq ((wrdV s).getD 0 ⟨#[]⟩) ⟨#[102, 111, 114]⟩ = true) := by
  intro h2
  unfold kdL at h; split at h
  · cases h
  · split at h
    · cases h
    · simp_all
abbrev niC : C := .d (.val (.slice none 0 0))
def hbA (k : Nat) (l : List Arr) : St := [(.b k, .b 88 2 (dR (l.map rR))), (.u k, .u)]
def hbPs (k : Nat) (ps : List Prt) : St := [(.b k, .b 65 2 (dR (ps.map rP))), (.u k, .u)]
def hbP (k : Nat) (ps : List Prt) (r : List C) : St := [(.b k, .b 65 2 (dR (ps.map rP) ++ [r])), (.u k, .u)]
def hbPN (k j : Nat) (ps : List Prt) (ns : List Lp) : St := [(.b k, .b 65 2 (dR (ps.map rP) ++ [[.own j 2 ns.length, niC]])), (.u k, .u), (.b j, .b 100 2 (dR (ns.map rL))), (.u j, .u)]
def hbPB (k j : Nat) (ps : List Prt) (ns : List Lp) (b : List Stm) : St := [(.b k, .b 65 2 (dR (ps.map rP) ++ [[.d (dLs ns), .own j 9 b.length]])), (.u k, .u), (.b j, .b 79 9 (dR (b.map rS))), (.u j, .u)]
theorem HB.noref {k : Nat} {rows : List (List C)} (h : ∀ r ∈ rows, ∀ c ∈ r, c.refs = []) : ∀ r ∈ rows, ∀ c ∈ r, ∀ l ∈ c.refs, lk ((.u k, .u) :: []) (.u l) ≠ .no := fun r hr c hc l hl => by rw [h r hr c hc] at hl; cases hl
theorem hbA_HB (k : Nat) (l : List Arr) : HB (hbA k l) := HB.nil.data
theorem hbPs_HB (k : Nat) (l : List Prt) : HB (hbPs k l) := HB.nil.data
theorem hbP_HB (k : Nat) (ps : List Prt) (x y : D) : HB (hbP k ps [.d x, .d y]) := HB.nil.cons (HB.noref fun r hr c hc => by
  rcases List.mem_append.1 hr with h | h
  · cases hf : c.refs with
    | nil => rfl
    | cons m l => exact (dR_refs h hc (l := m) (by rw [hf]; exact List.mem_cons_self)).elim
  · rw [List.mem_singleton] at h; subst h
    rcases List.mem_cons.1 hc with rfl | hc
    · rfl
    · rw [List.mem_singleton] at hc; subst hc; rfl)
theorem hbPN_HB (k j : Nat) (ps : List Prt) (ns : List Lp) : HB (hbPN k j ps ns) := HB.cons HB.nil.data (HB.refs2 (fun l h => by simpa [C.refs] using h) (fun l h => by cases h))
theorem hbPB_HB (k j : Nat) (ps : List Prt) (ns : List Lp) (b : List Stm) : HB (hbPB k j ps ns b) := HB.cons HB.nil.data (HB.refs2 (fun l h => by cases h) (fun l h => by simpa [C.refs] using h))
theorem hbA_flat (k : Nat) (l : List Arr) : flatS (hbA k l) := flatS.nil.cons rfl
theorem hbPs_flat (k : Nat) (l : List Prt) : flatS (hbPs k l) := flatS.nil.cons rfl
theorem hbP_flat (k : Nat) (ps : List Prt) (r : List C) : flatS (hbP k ps r) := flatS.nil.cons rfl
theorem lk_two {k j : Nat} {x : RC} (h : Nat.beq j k = false) : lk [(.b j, x), (.u j, .u)] (.b k) = .no := by
  show (bif Nat.beq j k then x else RC.no) = RC.no
  rw [h]; rfl
theorem hbPN_flat {k j : Nat} (ps : List Prt) (ns : List Lp) (h : Nat.beq j k = false) : flatS (hbPN k j ps ns) := (flatS.nil.cons rfl).cons (lk_two h)
theorem hbPB_flat {k j : Nat} (ps : List Prt) (ns : List Lp) (b : List Stm) (h : Nat.beq j k = false) : flatS (hbPB k j ps ns b) := (flatS.nil.cons rfl).cons (lk_two h)
theorem renR_app (ρ : Nat → Nat) (l : List (List D)) (r : List C) : renR ρ (dR l ++ [r]) = dR l ++ [r.map (C.ren ρ)] := by
  have : renR ρ (dR l ++ [r]) = renR ρ (dR l) ++ [r.map (C.ren ρ)] := List.map_append
  rw [this, renR_dR]
theorem outS_P {inv : Inv} {k : Nat} {ps : List Prt} {r : List C} : outS inv (hbP k ps r) = [(.b (asc inv k), .b 65 2 (dR (ps.map rP) ++ [r.map (C.ren (asc inv))])), (.u (asc inv k), .u)] := by
  show [(Res.b (asc inv k), RC.b _ 2 (renR (asc inv) (dR (ps.map rP) ++ [r]))), (.u (asc inv k), .u)] = _
  rw [renR_app]
theorem outS_PN {inv : Inv} {k j : Nat} {ps : List Prt} {ns : List Lp} : outS inv (hbPN k j ps ns) = [(.b (asc inv k), .b 65 2 (dR (ps.map rP) ++ [[.own (asc inv j) 2 ns.length, niC]])), (.u (asc inv k), .u), (.b (asc inv j), .b 100 2 (dR (ns.map rL))), (.u (asc inv j), .u)] := by
  show [(Res.b (asc inv k), RC.b _ 2 (renR (asc inv) (dR (ps.map rP) ++ [[C.own j 2 ns.length, niC]]))), (.u (asc inv k), .u), (.b (asc inv j), .b _ 2 (renR (asc inv) (dR (ns.map rL)))), (.u (asc inv j), .u)] = _
  rw [renR_app, renR_dR]; rfl
theorem outS_PB {inv : Inv} {k j : Nat} {ps : List Prt} {ns : List Lp} {b : List Stm} : outS inv (hbPB k j ps ns b) = [(.b (asc inv k), .b 65 2 (dR (ps.map rP) ++ [[.d (dLs ns), .own (asc inv j) 9 b.length]])), (.u (asc inv k), .u), (.b (asc inv j), .b 79 9 (dR (b.map rS))), (.u (asc inv j), .u)] := by
  show [(Res.b (asc inv k), RC.b _ 2 (renR (asc inv) (dR (ps.map rP) ++ [[C.d (dLs ns), C.own j 9 b.length]]))), (.u (asc inv k), .u), (.b (asc inv j), .b _ 9 (renR (asc inv) (dR (b.map rS)))), (.u (asc inv j), .u)] = _
  rw [renR_app, renR_dR]; rfl
theorem pn_num {σ : St} {e0 e1 : TypeId} {sz0 sz1 : Nat} {rows0 rows1 : List (List C)} {k1 : Nat} (h0 : Al (lk σ) 0) (hk2 : Nat.ble 100 k1 = true) : ∀ k, k < 100 → Al (lk [(.b 0, .b e0 sz0 rows0), (.u 0, .u), (.b k1, .b e1 sz1 rows1), (.u k1, .u)]) k → Al (lk σ) k := fun k h ⟨e, sz, rows, h1⟩ => by
  have hm := lk_mem h1 (by simp)
  have := Nat.le_of_ble_eq_true hk2
  simp only [List.mem_cons, List.not_mem_nil, or_false] at hm
  rcases hm with hm | hm | hm | hm
  · cases hm; exact h0
  · cases hm
  · cases hm; omega
  · cases hm
theorem row_lastP (ps : List Prt) (r : List C) : (dR (ps.map rP) ++ [r])[ps.length]? = some r := by simp [dR]
theorem set_lastP (ps : List Prt) (r r' : List C) : (dR (ps.map rP) ++ [r]).set ps.length r' = dR (ps.map rP) ++ [r'] := by simp [dR]

theorem line_a0 {s : ByteArray} (hs : s.size ≤ 1048576) (hk : kdL s = 0)  : Fn Try.prog 43 [] [.agg [niC, niC], st1 s] (.o (.agg [.own 100 2 [ar4 (wrdV s)].length, niC])) (hbA 100 [ar4 (wrdV s)]) := by
 obtain ⟨ws, hws⟩ : ∃ ws, wrdV s = ws := ⟨_, rfl⟩
 have hwb := wrdV_bd s
 obtain ⟨hp0, he0⟩ := kdL_0 hk
 rw [hws] at hp0 he0 hwb
 refine Fn.of_code Try.func43 rfl rfl HB.nil rfl rfl (hbA_HB _ _) rfl (one_num rfl) ?_
 refine .seq <| .region <| .cons (St1.boxB (k' := 102) rfl rfl rfl rfl rfl rfl rfl) <| .cons (.al 104 [.slice none 0 0, .slice none 0 0] rfl rfl rfl) <| .nil <| ks_n <| .seq <| .region <| .cons (.mv rfl rfl) <| .cons (.cP [.tmp 11] rfl rfl rfl rfl (show Fn Try.prog 53 [] [st1 s] (.o (vD (dTxs ws))) [] from by rw [← hws]; exact l16Words_fn hs) rfl) ?_
 refine .cons (.asg rfl rfl) <| .nil <| ks_n <| .seq <| .region <| .cons (.fB 1 0 false rfl rfl rfl) <| .cons (.b1 1 rfl rfl rfl rfl rfl rfl) <| .cons (St1.lenN (e := 65) (m := 2) (by' := 48) rfl rfl rfl rfl rfl (by kernel_rfl) rfl) ?_
 refine .cons (.sb rfl rfl rfl) <| .cons (.asg rfl rfl) <| .nil <| ks_n <| .seq <| .block <| .seq <| .region <| .cons (.mv rfl rfl) <| .cons (.ln 9 1 16 rfl rfl rfl) <| .cons (.gt rfl rfl rfl) <| .cons (.mv rfl rfl) ?_
 refine .cD 21 rfl (fun g21 => ?_) (fun g21 => ?_)
 ·skip
  refine .cons (.gT rfl rfl rfl (.mv rfl rfl)) <| .cons (.gT rfl rfl rfl (.xL 9 1 16 (i := 0) rfl rfl rfl rfl rfl (map_at (getD_at2 (d := ⟨#[]⟩) (by omega))))) ?_
  refine .cons (.gT rfl rfl rfl (.l1 1 rfl rfl)) <| .cons (.gT rfl rfl rfl (St1.eqS rfl rfl rfl)) <| .cons (.pT rfl rfl rfl) <| .cons (.asg rfl rfl) <| .nil <| ks_n ?_
  refine ACode.condT rfl (fun h17 => ?_) (fun h17 => ?_)
  ·try simp only [zs1, zs2, zs3, zs4, zs5, zs6, zs7] at h17
   refine ACode.drawK (by kernel_rfl) (by kernel_rfl) ?_
   refine .cons (.fB 0 0 false rfl rfl rfl) <| .cons (.b1 1 rfl rfl rfl rfl rfl rfl) <| .cons (.mv rfl rfl) <| .cons (.cP [.tmp 29] rfl rfl rfl rfl (ar4_fn (by omega) (by omega) (fun t ht => Nat.le_trans (hwb.1 t ht) hs)) rfl) ?_
   refine .cons (.li 88 1 0 [.tmp 30] rfl rfl rfl rfl rfl rfl) <| .cons (St1.appN (k' := 132) (e := 88) (sz := 1) (by' := 40) rfl rfl rfl rfl rfl (by kernel_rfl) rfl rfl rfl (by simp) (by first | (simp [dR]; done) | (simp [dR]; omega)) rfl rfl) ?_
   refine .cons (.fB 0 0 false rfl rfl rfl) <| .cons (.sT 1 false rfl rfl rfl rfl rfl rfl rfl) ?_
   refine .nil ⟨by kernel_rfl, ?_⟩
   refine kb_n <| ks_n <| .seq <| .region <| .cons (.bN 2 rfl rfl rfl rfl rfl rfl) <| .cons (.sT 2 true rfl rfl rfl rfl rfl rfl rfl) <| .nil <| ks_n <| .ret ?_
   refine kf_wret [(.t 4, .v (.o (.c (.box 150 2 0 0)))), (.b 100, .b 88 2 (dR ([ar4 (wrdV s)].map rR))), (.u 100, .u), (.b 150, .b 45 2 [[.own 100 2 ([ar4 (wrdV s)].length), .d (.val (.slice none 0 0))]]), (.u 150, .u)] (Wk.keep [(100, 132), (150, 104)] rfl rfl ⟨ks rfl (.c .bx), kb 132 rfl (.dt rfl (by rw [hws]; rfl)), kb 104 rfl (.cons (.cons .ow (.cons .dt Ctos.nil)) .nil), trivial⟩) rfl ?_ (one_box rfl)
   rfl
  ·try simp only [zs1, zs2, zs3, zs4, zs5, zs6, zs7] at h17
   exfalso; simp_all
 ·skip
  omega

theorem line_a1 {s : ByteArray} (hs : s.size ≤ 1048576) (hk : kdL s = 0) (a : List Arr) (ha : a.length ≤ 100) : Fn Try.prog 43 (hbA 0 a) [.agg [.own 0 2 a.length, niC], st1 s] (.o (.agg [.own 1000 2 (a ++ [ar4 (wrdV s)]).length, niC])) (hbA 1000 (a ++ [ar4 (wrdV s)])) := by
 obtain ⟨ws, hws⟩ : ∃ ws, wrdV s = ws := ⟨_, rfl⟩
 have hwb := wrdV_bd s
 obtain ⟨hp0, he0⟩ := kdL_0 hk
 rw [hws] at hp0 he0 hwb
 refine Fn.of_code Try.func43 rfl rfl (hbA_HB _ _) rfl rfl (hbA_HB _ _) rfl (one_num rfl) ?_
 refine .seq <| .region <| .cons (St1.boxB (k' := 102) rfl rfl rfl rfl rfl rfl rfl) <| .cons (.al 104 [.slice none 0 0, .slice none 0 0] rfl rfl rfl) <| .nil <| ks_n <| .seq <| .region <| .cons (.mv rfl rfl) <| .cons (.cP [.tmp 11] rfl rfl rfl rfl (show Fn Try.prog 53 [] [st1 s] (.o (vD (dTxs ws))) [] from by rw [← hws]; exact l16Words_fn hs) rfl) ?_
 refine .cons (.asg rfl rfl) <| .nil <| ks_n <| .seq <| .region <| .cons (.fB 1 0 false rfl rfl rfl) <| .cons (.b1 1 rfl rfl rfl rfl rfl rfl) <| .cons (St1.lenN (e := 65) (m := 2) (by' := 48) rfl rfl rfl rfl rfl (by kernel_rfl) rfl) ?_
 refine .cons (.sb rfl rfl rfl) <| .cons (.asg rfl rfl) <| .nil <| ks_n <| .seq <| .block <| .seq <| .region <| .cons (.mv rfl rfl) <| .cons (.ln 9 1 16 rfl rfl rfl) <| .cons (.gt rfl rfl rfl) <| .cons (.mv rfl rfl) ?_
 refine .cD 21 rfl (fun g21 => ?_) (fun g21 => ?_)
 ·skip
  refine .cons (.gT rfl rfl rfl (.mv rfl rfl)) <| .cons (.gT rfl rfl rfl (.xL 9 1 16 (i := 0) rfl rfl rfl rfl rfl (map_at (getD_at2 (d := ⟨#[]⟩) (by omega))))) ?_
  refine .cons (.gT rfl rfl rfl (.l1 1 rfl rfl)) <| .cons (.gT rfl rfl rfl (St1.eqS rfl rfl rfl)) <| .cons (.pT rfl rfl rfl) <| .cons (.asg rfl rfl) <| .nil <| ks_n ?_
  refine ACode.condT rfl (fun h17 => ?_) (fun h17 => ?_)
  ·try simp only [zs1, zs2, zs3, zs4, zs5, zs6, zs7] at h17
   refine ACode.drawK (by kernel_rfl) (by kernel_rfl) ?_
   refine .cons (.fB 0 0 false rfl rfl rfl) <| .cons (.b1 1 rfl rfl rfl rfl rfl rfl) <| .cons (.mv rfl rfl) <| .cons (.cP [.tmp 29] rfl rfl rfl rfl (ar4_fn (by omega) (by omega) (fun t ht => Nat.le_trans (hwb.1 t ht) hs)) rfl) ?_
   refine .cons (.li 88 1 0 [.tmp 30] rfl rfl rfl rfl rfl rfl) <| .cons (St1.appB (k' := 1032) (e := 88) (sz := 1) (by' := 40) rfl rfl rfl rfl rfl (by kernel_rfl) rfl rfl rfl rfl (by simp [dR]) (by first | (simp [dR]; done) | (simp [dR]; omega)) rfl rfl rfl) ?_
   refine .cons (.fB 0 0 false rfl rfl rfl) <| .cons (.sT 1 false rfl rfl rfl rfl rfl rfl rfl) ?_
   refine .nil ⟨by kernel_rfl, ?_⟩
   refine kb_n <| ks_n <| .seq <| .region <| .cons (.bN 2 rfl rfl rfl rfl rfl rfl) <| .cons (.sT 2 true rfl rfl rfl rfl rfl rfl rfl) <| .nil <| ks_n <| .ret ?_
   refine kf_wret [(.t 4, .v (.o (.c (.box 150 2 0 0)))), (.b 1000, .b 88 2 (dR ((a ++ [ar4 (wrdV s)]).map rR))), (.u 1000, .u), (.b 150, .b 45 2 [[.own 1000 2 ((a ++ [ar4 (wrdV s)]).length), .d (.val (.slice none 0 0))]]), (.u 150, .u)] (Wk.keep [(1000, 1032), (150, 104)] rfl rfl ⟨ks rfl (.c .bx), kb 1032 rfl (.dt rfl (by rw [hws, List.map_append, dR_app]; rfl)), kb 104 rfl (.cons (.cons (.ow (by simp)) (.cons .dt Ctos.nil)) .nil), trivial⟩) rfl ?_ (one_box rfl)
   rfl
  ·try simp only [zs1, zs2, zs3, zs4, zs5, zs6, zs7] at h17
   exfalso; simp_all
 ·skip
  omega

theorem line_p0 {s : ByteArray} (hs : s.size ≤ 1048576) (hk : kdL s = 1) (a : List Arr) (ha : a.length ≤ 100) : Fn Try.prog 43 [] [.agg [.d (dRs a), niC], st1 s] (.o (.agg [.d (dRs a), .own 100 2 (([] : List Prt).length + 1)])) (hbP 100 [] [niC, niC]) := by
 obtain ⟨ws, hws⟩ : ∃ ws, wrdV s = ws := ⟨_, rfl⟩
 have hwb := wrdV_bd s
 have hno := kdL_no0 (s := s) (by rw [hk]; decide)
 rw [hws] at hno hwb
 have hy1 := kdL_1 hk
 refine Fn.of_code Try.func43 rfl rfl HB.nil rfl rfl (hbP_HB _ _ _ _) rfl (one_num rfl) ?_
 refine .seq <| .region <| .cons (St1.boxB (k' := 102) rfl rfl rfl rfl rfl rfl rfl) <| .cons (.al 104 [.slice none 0 0, .slice none 0 0] rfl rfl rfl) <| .nil <| ks_n <| .seq <| .region <| .cons (.mv rfl rfl) <| .cons (.cP [.tmp 11] rfl rfl rfl rfl (show Fn Try.prog 53 [] [st1 s] (.o (vD (dTxs ws))) [] from by rw [← hws]; exact l16Words_fn hs) rfl) ?_
 refine .cons (.asg rfl rfl) <| .nil <| ks_n <| .seq <| .region <| .cons (.fB 1 0 false rfl rfl rfl) <| .cons (.b1 1 rfl rfl rfl rfl rfl rfl) <| .cons (St1.lenN (e := 65) (m := 2) (by' := 48) rfl rfl rfl rfl rfl (by kernel_rfl) rfl) ?_
 refine .cons (.sb rfl rfl rfl) <| .cons (.asg rfl rfl) <| .nil <| ks_n <| .seq <| .block <| .seq <| .region <| .cons (.mv rfl rfl) <| .cons (.ln 9 1 16 rfl rfl rfl) <| .cons (.gt rfl rfl rfl) <| .cons (.mv rfl rfl) ?_
 refine .cD 21 rfl (fun g21 => ?_) (fun g21 => ?_)
 ·skip
  refine .cons (.gT rfl rfl rfl (.mv rfl rfl)) <| .cons (.gT rfl rfl rfl (.xL 9 1 16 (i := 0) rfl rfl rfl rfl rfl (map_at (getD_at2 (d := ⟨#[]⟩) (by omega))))) ?_
  refine .cons (.gT rfl rfl rfl (.l1 1 rfl rfl)) <| .cons (.gT rfl rfl rfl (St1.eqS rfl rfl rfl)) <| .cons (.pT rfl rfl rfl) <| .cons (.asg rfl rfl) <| .nil <| ks_n ?_
  refine ACode.condT rfl (fun h17 => ?_) (fun h17 => ?_)
  ·try simp only [zs1, zs2, zs3, zs4, zs5, zs6, zs7] at h17
   exfalso; simp_all
  ·try simp only [zs1, zs2, zs3, zs4, zs5, zs6, zs7] at h17
   refine .seq <| .region <| .cons (.mv rfl rfl) <| .cons (St1.eqS rfl rfl rfl) <| .cons (.asg rfl rfl) <| .nil <| ks_n ?_
   refine ACode.condT rfl (fun h34 => ?_) (fun h34 => ?_)
   ·try simp only [zs1, zs2, zs3, zs4, zs5, zs6, zs7] at h34
    refine .region <| .cons (.fB 1 0 false rfl rfl rfl) <| .cons (.b1 1 rfl rfl rfl rfl rfl rfl) <| .cons (.bu [] [(0, 1), (1, 1)] [.slice none 0 0, .slice none 0 0] rfl rfl rfl rfl rfl) <| .cons (.li 65 1 0 [.tmp 39] rfl rfl rfl rfl rfl rfl) <| .cons (St1.appN (k' := 141) (e := 65) (sz := 1) (by' := 48) rfl rfl rfl rfl rfl (by kernel_rfl) rfl rfl rfl (by simp) (by first | (simp [dR]; done) | (simp [dR]; omega)) rfl rfl) ?_
    refine .cons (.fB 1 0 false rfl rfl rfl) <| .cons (.sT 1 false rfl rfl rfl rfl rfl rfl rfl) <| .nil <| kb_n <| ks_n <| .seq <| .region <| .cons (.bN 2 rfl rfl rfl rfl rfl rfl) <| .cons (.sT 2 true rfl rfl rfl rfl rfl rfl rfl) <| .nil <| ks_n <| .ret ?_
    refine kf_wret [(.t 4, .v (.o (.c (.box 150 2 0 0)))), (.b 100, .b 65 2 (dR (([] : List Prt).map rP) ++ [[niC, niC]])), (.u 100, .u), (.b 150, .b 45 2 [[.d (dRs a), .own 100 2 (([] : List Prt).length + 1)]]), (.u 150, .u)] (Wk.keep [(100, 141), (150, 104)] rfl rfl ⟨ks rfl (.c .bx), kb 141 rfl (.dat _ _ [[.val (.slice none 0 0), .val (.slice none 0 0)]] rfl rfl), kb 104 rfl (.cons (.cons .dt (.cons .ow Ctos.nil)) .nil), trivial⟩) rfl ?_ (one_box rfl)
    rfl
   ·try simp only [zs1, zs2, zs3, zs4, zs5, zs6, zs7] at h34
    exfalso; simp_all
 ·skip
  refine .cons (.gF rfl rfl rfl) <| .cons (.gF rfl rfl rfl) <| .cons (.gF rfl rfl rfl) <| .cons (.gF rfl rfl rfl) <| .cons (.pF rfl rfl rfl) <| .cons (.asg rfl rfl) <| .nil <| ks_n ?_
  refine ACode.condT rfl (fun h => by first | (cases h; done) | (simp [*] at h; done) | (exfalso; simp_all; done)) (fun _ => ?_)
  refine .seq <| .region <| .cons (.mv rfl rfl) <| .cons (St1.eqS rfl rfl rfl) <| .cons (.asg rfl rfl) <| .nil <| ks_n ?_
  refine ACode.condT rfl (fun h34 => ?_) (fun h34 => ?_)
  ·try simp only [zs1, zs2, zs3, zs4, zs5, zs6, zs7] at h34
   refine .region <| .cons (.fB 1 0 false rfl rfl rfl) <| .cons (.b1 1 rfl rfl rfl rfl rfl rfl) <| .cons (.bu [] [(0, 1), (1, 1)] [.slice none 0 0, .slice none 0 0] rfl rfl rfl rfl rfl) <| .cons (.li 65 1 0 [.tmp 39] rfl rfl rfl rfl rfl rfl) <| .cons (St1.appN (k' := 141) (e := 65) (sz := 1) (by' := 48) rfl rfl rfl rfl rfl (by kernel_rfl) rfl rfl rfl (by simp) (by first | (simp [dR]; done) | (simp [dR]; omega)) rfl rfl) ?_
   refine .cons (.fB 1 0 false rfl rfl rfl) <| .cons (.sT 1 false rfl rfl rfl rfl rfl rfl rfl) <| .nil <| kb_n <| ks_n <| .seq <| .region <| .cons (.bN 2 rfl rfl rfl rfl rfl rfl) <| .cons (.sT 2 true rfl rfl rfl rfl rfl rfl rfl) <| .nil <| ks_n <| .ret ?_
   refine kf_wret [(.t 4, .v (.o (.c (.box 150 2 0 0)))), (.b 100, .b 65 2 (dR (([] : List Prt).map rP) ++ [[niC, niC]])), (.u 100, .u), (.b 150, .b 45 2 [[.d (dRs a), .own 100 2 (([] : List Prt).length + 1)]]), (.u 150, .u)] (Wk.keep [(100, 141), (150, 104)] rfl rfl ⟨ks rfl (.c .bx), kb 141 rfl (.dat _ _ [[.val (.slice none 0 0), .val (.slice none 0 0)]] rfl rfl), kb 104 rfl (.cons (.cons .dt (.cons .ow Ctos.nil)) .nil), trivial⟩) rfl ?_ (one_box rfl)
   rfl
  ·try simp only [zs1, zs2, zs3, zs4, zs5, zs6, zs7] at h34
   exfalso; simp_all

theorem line_p1 {s : ByteArray} (hs : s.size ≤ 1048576) (hk : kdL s = 1) (a : List Arr) (ha : a.length ≤ 100) (ps : List Prt) (hps : ps.length ≤ 100) : Fn Try.prog 43 (hbPs 0 ps) [.agg [.d (dRs a), .own 0 2 ps.length], st1 s] (.o (.agg [.d (dRs a), .own 1000 2 (ps.length + 1)])) (hbP 1000 ps [niC, niC]) := by
 obtain ⟨ws, hws⟩ : ∃ ws, wrdV s = ws := ⟨_, rfl⟩
 have hwb := wrdV_bd s
 have hno := kdL_no0 (s := s) (by rw [hk]; decide)
 rw [hws] at hno hwb
 have hy1 := kdL_1 hk
 refine Fn.of_code Try.func43 rfl rfl (hbPs_HB _ _) rfl rfl (hbP_HB _ _ _ _) rfl (one_num rfl) ?_
 refine .seq <| .region <| .cons (St1.boxB (k' := 102) rfl rfl rfl rfl rfl rfl rfl) <| .cons (.al 104 [.slice none 0 0, .slice none 0 0] rfl rfl rfl) <| .nil <| ks_n <| .seq <| .region <| .cons (.mv rfl rfl) <| .cons (.cP [.tmp 11] rfl rfl rfl rfl (show Fn Try.prog 53 [] [st1 s] (.o (vD (dTxs ws))) [] from by rw [← hws]; exact l16Words_fn hs) rfl) ?_
 refine .cons (.asg rfl rfl) <| .nil <| ks_n <| .seq <| .region <| .cons (.fB 1 0 false rfl rfl rfl) <| .cons (.b1 1 rfl rfl rfl rfl rfl rfl) <| .cons (.lB 65 2 48 rfl rfl rfl rfl) <| .cons (.sb rfl rfl rfl) <| .cons (.asg rfl rfl) <| .nil <| ks_n <| .seq <| .block <| .seq <| .region <| .cons (.mv rfl rfl) <| .cons (.ln 9 1 16 rfl rfl rfl) <| .cons (.gt rfl rfl rfl) <| .cons (.mv rfl rfl) ?_
 refine .cD 21 rfl (fun g21 => ?_) (fun g21 => ?_)
 ·skip
  refine .cons (.gT rfl rfl rfl (.mv rfl rfl)) <| .cons (.gT rfl rfl rfl (.xL 9 1 16 (i := 0) rfl rfl rfl rfl rfl (map_at (getD_at2 (d := ⟨#[]⟩) (by omega))))) ?_
  refine .cons (.gT rfl rfl rfl (.l1 1 rfl rfl)) <| .cons (.gT rfl rfl rfl (St1.eqS rfl rfl rfl)) <| .cons (.pT rfl rfl rfl) <| .cons (.asg rfl rfl) <| .nil <| ks_n ?_
  refine ACode.condT rfl (fun h17 => ?_) (fun h17 => ?_)
  ·try simp only [zs1, zs2, zs3, zs4, zs5, zs6, zs7] at h17
   exfalso; simp_all
  ·try simp only [zs1, zs2, zs3, zs4, zs5, zs6, zs7] at h17
   refine .seq <| .region <| .cons (.mv rfl rfl) <| .cons (St1.eqS rfl rfl rfl) <| .cons (.asg rfl rfl) <| .nil <| ks_n ?_
   refine ACode.condT rfl (fun h34 => ?_) (fun h34 => ?_)
   ·try simp only [zs1, zs2, zs3, zs4, zs5, zs6, zs7] at h34
    refine .region <| .cons (.fB 1 0 false rfl rfl rfl) <| .cons (.b1 1 rfl rfl rfl rfl rfl rfl) <| .cons (.bu [] [(0, 1), (1, 1)] [.slice none 0 0, .slice none 0 0] rfl rfl rfl rfl rfl) <| .cons (.li 65 1 0 [.tmp 39] rfl rfl rfl rfl rfl rfl) <| .cons (St1.appB (k' := 1041) (e := 65) (sz := 1) (by' := 48) rfl rfl rfl rfl rfl (by kernel_rfl) rfl rfl rfl rfl (by simp [dR]) (by first | (simp [dR]; done) | (simp [dR]; omega)) rfl rfl rfl) ?_
    refine .cons (.fB 1 0 false rfl rfl rfl) <| .cons (.sT 1 false rfl rfl rfl rfl rfl rfl rfl) <| .nil <| kb_n <| ks_n <| .seq <| .region <| .cons (.bN 2 rfl rfl rfl rfl rfl rfl) <| .cons (.sT 2 true rfl rfl rfl rfl rfl rfl rfl) <| .nil <| ks_n <| .ret ?_
    refine kf_wret [(.t 4, .v (.o (.c (.box 150 2 0 0)))), (.b 1000, .b 65 2 (dR (ps.map rP) ++ [[niC, niC]])), (.u 1000, .u), (.b 150, .b 45 2 [[.d (dRs a), .own 1000 2 (ps.length + 1)]]), (.u 150, .u)] (Wk.keep [(1000, 1041), (150, 104)] rfl rfl ⟨ks rfl (.c .bx), kb 1041 rfl (.dat _ _ (ps.map rP ++ [[.val (.slice none 0 0), .val (.slice none 0 0)]]) (by simp [dR]) (by simp [dR])), kb 104 rfl (.cons (.cons .dt (.cons .ow Ctos.nil)) .nil), trivial⟩) rfl ?_ (one_box rfl)
    rfl
   ·try simp only [zs1, zs2, zs3, zs4, zs5, zs6, zs7] at h34
    exfalso; simp_all
 ·skip
  refine .cons (.gF rfl rfl rfl) <| .cons (.gF rfl rfl rfl) <| .cons (.gF rfl rfl rfl) <| .cons (.gF rfl rfl rfl) <| .cons (.pF rfl rfl rfl) <| .cons (.asg rfl rfl) <| .nil <| ks_n ?_
  refine ACode.condT rfl (fun h => by first | (cases h; done) | (simp [*] at h; done) | (exfalso; simp_all; done)) (fun _ => ?_)
  refine .seq <| .region <| .cons (.mv rfl rfl) <| .cons (St1.eqS rfl rfl rfl) <| .cons (.asg rfl rfl) <| .nil <| ks_n ?_
  refine ACode.condT rfl (fun h34 => ?_) (fun h34 => ?_)
  ·try simp only [zs1, zs2, zs3, zs4, zs5, zs6, zs7] at h34
   refine .region <| .cons (.fB 1 0 false rfl rfl rfl) <| .cons (.b1 1 rfl rfl rfl rfl rfl rfl) <| .cons (.bu [] [(0, 1), (1, 1)] [.slice none 0 0, .slice none 0 0] rfl rfl rfl rfl rfl) <| .cons (.li 65 1 0 [.tmp 39] rfl rfl rfl rfl rfl rfl) <| .cons (St1.appB (k' := 1041) (e := 65) (sz := 1) (by' := 48) rfl rfl rfl rfl rfl (by kernel_rfl) rfl rfl rfl rfl (by simp [dR]) (by first | (simp [dR]; done) | (simp [dR]; omega)) rfl rfl rfl) ?_
   refine .cons (.fB 1 0 false rfl rfl rfl) <| .cons (.sT 1 false rfl rfl rfl rfl rfl rfl rfl) <| .nil <| kb_n <| ks_n <| .seq <| .region <| .cons (.bN 2 rfl rfl rfl rfl rfl rfl) <| .cons (.sT 2 true rfl rfl rfl rfl rfl rfl rfl) <| .nil <| ks_n <| .ret ?_
   refine kf_wret [(.t 4, .v (.o (.c (.box 150 2 0 0)))), (.b 1000, .b 65 2 (dR (ps.map rP) ++ [[niC, niC]])), (.u 1000, .u), (.b 150, .b 45 2 [[.d (dRs a), .own 1000 2 (ps.length + 1)]]), (.u 150, .u)] (Wk.keep [(1000, 1041), (150, 104)] rfl rfl ⟨ks rfl (.c .bx), kb 1041 rfl (.dat _ _ (ps.map rP ++ [[.val (.slice none 0 0), .val (.slice none 0 0)]]) (by simp [dR]) (by simp [dR])), kb 104 rfl (.cons (.cons .dt (.cons .ow Ctos.nil)) .nil), trivial⟩) rfl ?_ (one_box rfl)
   rfl
  ·try simp only [zs1, zs2, zs3, zs4, zs5, zs6, zs7] at h34
   exfalso; simp_all

theorem line_f0 {s : ByteArray} (hs : s.size ≤ 1048576) (hk : kdL s = 2) (a : List Arr) (ha : a.length ≤ 100) (ps : List Prt) (hps : ps.length ≤ 100)  : Fn Try.prog 43 (hbP 0 ps [niC, niC]) [.agg [.d (dRs a), .own 0 2 (ps.length + 1)], st1 s] (.o (.agg [.d (dRs a), .own 0 2 (ps.length + 1)])) (hbPN 0 100 ps [lnV s]) := by
 obtain ⟨ws, hws⟩ : ∃ ws, wrdV s = ws := ⟨_, rfl⟩
 have hwb := wrdV_bd s
 have hno := kdL_no0 (s := s) (by rw [hk]; decide)
 rw [hws] at hno hwb
 have hn1 := kdL_no1 (s := s) (by rw [hk]; decide)
 obtain ⟨hp0, he0⟩ := kdL_2 hk
 rw [hws] at hp0 he0
 refine Fn.of_code Try.func43 rfl rfl (hbP_HB _ _ _ _) rfl rfl (hbPN_HB _ _ _ _) rfl (pn_num ⟨_, _, _, rfl⟩ rfl) ?_
 refine .seq <| .region <| .cons (St1.boxB (k' := 102) rfl rfl rfl rfl rfl rfl rfl) <| .cons (.al 104 [.slice none 0 0, .slice none 0 0] rfl rfl rfl) <| .nil <| ks_n <| .seq <| .region <| .cons (.mv rfl rfl) <| .cons (.cP [.tmp 11] rfl rfl rfl rfl (show Fn Try.prog 53 [] [st1 s] (.o (vD (dTxs ws))) [] from by rw [← hws]; exact l16Words_fn hs) rfl) ?_
 refine .cons (.asg rfl rfl) <| .nil <| ks_n <| .seq <| .region <| .cons (.fB 1 0 false rfl rfl rfl) <| .cons (.b1 1 rfl rfl rfl rfl rfl rfl) <| .cons (.lB 65 2 48 rfl rfl rfl rfl) <| .cons (.sb rfl rfl rfl) <| .cons (.asg rfl rfl) <| .nil <| ks_n <| .seq <| .block <| .seq <| .region <| .cons (.mv rfl rfl) <| .cons (.ln 9 1 16 rfl rfl rfl) <| .cons (.gt rfl rfl rfl) <| .cons (.mv rfl rfl) ?_
 refine .cD 21 rfl (fun g21 => ?_) (fun g21 => ?_)
 ·skip
  refine .cons (.gT rfl rfl rfl (.mv rfl rfl)) <| .cons (.gT rfl rfl rfl (.xL 9 1 16 (i := 0) rfl rfl rfl rfl rfl (map_at (getD_at2 (d := ⟨#[]⟩) (by omega))))) ?_
  refine .cons (.gT rfl rfl rfl (.l1 1 rfl rfl)) <| .cons (.gT rfl rfl rfl (St1.eqS rfl rfl rfl)) <| .cons (.pT rfl rfl rfl) <| .cons (.asg rfl rfl) <| .nil <| ks_n ?_
  refine ACode.condT rfl (fun h17 => ?_) (fun h17 => ?_)
  ·try simp only [zs1, zs2, zs3, zs4, zs5, zs6, zs7] at h17
   exfalso; simp_all
  ·try simp only [zs1, zs2, zs3, zs4, zs5, zs6, zs7] at h17
   refine .seq <| .region <| .cons (.mv rfl rfl) <| .cons (St1.eqS rfl rfl rfl) <| .cons (.asg rfl rfl) <| .nil <| ks_n ?_
   refine ACode.condT rfl (fun h34 => ?_) (fun h34 => ?_)
   ·try simp only [zs1, zs2, zs3, zs4, zs5, zs6, zs7] at h34
    exfalso; simp_all
   ·try simp only [zs1, zs2, zs3, zs4, zs5, zs6, zs7] at h34
    refine .seq <| .region <| .cons (.mv rfl rfl) <| .cons (.ge rfl rfl rfl) <| .cons (.mv rfl rfl) ?_
    refine .cD 46 rfl (fun g46 => ?_) (fun g46 => ?_)
    ·skip
     refine .cons (.gT rfl rfl rfl (.mv rfl rfl)) <| .cons (.gT rfl rfl rfl (.ln 9 1 16 rfl rfl rfl)) <| .cons (.gT rfl rfl rfl (.gt rfl rfl rfl)) <| .cons (.pT rfl rfl rfl) <| .cons (.mv rfl rfl) ?_
     refine AOps.cases 51 _ rfl (fun g51 => ?_) (fun g51 => ?_)
     ·try simp only [zs1, zs2, zs3, zs4, zs5, zs6, zs7] at g51
      refine .cons (.gT rfl rfl rfl (.mv rfl rfl)) <| .cons (.gT rfl rfl rfl (.xL 9 1 16 (i := 0) rfl rfl rfl rfl rfl (map_at (getD_at2 (d := ⟨#[]⟩) (by omega))))) ?_
      refine .cons (.gT rfl rfl rfl (.l1 1 rfl rfl)) <| .cons (.gT rfl rfl rfl (St1.eqS rfl rfl rfl)) <| .cons (.pT rfl rfl rfl) <| .cons (.asg rfl rfl) <| .nil <| ks_n ?_
      refine ACode.condT rfl (fun h43 => ?_) (fun h43 => ?_)
      ·try simp only [zs1, zs2, zs3, zs4, zs5, zs6, zs7] at h43
       refine .seq <| .region <| .cons (.fB 1 0 false rfl rfl rfl) <| .cons (.b1 1 rfl rfl rfl rfl rfl rfl) <| .cons (.mv rfl rfl) <| .cons (.xB 65 2 48 (i := ps.length) rfl rfl rfl rfl rfl (by first | omega | (simp; done) | (simp; omega)) (by first | omega | (simp; done) | (simp; omega))) ?_
       refine .cons (.bN 2 rfl rfl rfl rfl (row_lastP _ _) rfl) <| .cons (.al 107 [.slice none 0 0, .slice none 0 0] rfl rfl rfl) <| .cons (.sT 2 true rfl rfl rfl rfl rfl rfl rfl) <| .nil <| ks_n <| .seq ?_
       refine ACode.drawK (by kernel_rfl) (by kernel_rfl) ?_
       refine .cons (.fB 0 0 false rfl rfl rfl) <| .cons (.b1 1 rfl rfl rfl rfl rfl rfl) <| .cons (.mv rfl rfl) <| .cons (.cP [.tmp 64] rfl rfl rfl rfl (lnV_fn hs) rfl) ?_
       refine .cons (.li 100 1 0 [.tmp 65] rfl rfl rfl rfl rfl rfl) <| .cons (St1.appN (k' := 167) (e := 100) (sz := 1) (by' := 48) rfl rfl rfl rfl rfl (by kernel_rfl) rfl rfl rfl (by simp) (by first | (simp [dR]; done) | (simp [dR]; omega)) rfl rfl) ?_
       refine .cons (.fB 0 0 false rfl rfl rfl) <| .cons (.sT 1 false rfl rfl rfl rfl rfl rfl rfl) ?_
       refine .nil ⟨by kernel_rfl, ?_⟩
       refine ks_n <| .region <| .cons (.fB 1 0 false rfl rfl rfl) <| .cons (.b1 1 rfl rfl rfl rfl rfl rfl) <| .cons (.mv rfl rfl) <| .cons (.bN 2 rfl rfl rfl rfl rfl rfl) <| .cons (.xB 65 2 48 (i := ps.length) rfl rfl rfl rfl rfl (by first | omega | (simp; done) | (simp; omega)) (by first | omega | (simp; done) | (simp; omega))) ?_
       refine .cons (.sT 2 true rfl rfl rfl rfl (row_lastP _ _) rfl rfl) <| .nil <| kb_n <| ks_n <| .seq <| .region <| .cons (.bN 2 rfl rfl rfl rfl rfl rfl) <| .cons (.sT 2 true rfl rfl rfl rfl rfl rfl rfl) <| .nil <| ks_n <| .ret ?_
       refine kf_wret [(.t 4, .v (.o (.c (.box 150 2 0 0)))), (.b 0, .b 65 2 (dR (ps.map rP) ++ [[.own 100 2 [lnV s].length, niC]])), (.u 0, .u), (.b 100, .b 100 2 (dR ([lnV s].map rL))), (.u 100, .u), (.b 150, .b 45 2 [[.d (dRs a), .own 0 2 (ps.length + 1)]]), (.u 150, .u)] (Wk.keep [(0, 0), (100, 167), (150, 104)] rfl rfl ⟨ks rfl (.c .bx), kb 0 rfl (.eq (set_lastP _ _ _) rfl (.app (.dat _ _ (ps.map rP) rfl rfl) (.cons (.cons (.own _ _ _ _ _ (by first | decide | simp) (by first | rfl | omega | (simp; done))) (.cons (.d _ _ rfl) .nil)) .nil))), kb 167 rfl (.dt rfl rfl), kb 104 rfl (.cons (.cons .dt (.cons .ow Ctos.nil)) .nil), trivial⟩) rfl ?_ (two_box rfl rfl)
       rfl
      ·try simp only [zs1, zs2, zs3, zs4, zs5, zs6, zs7] at h43
       exfalso; simp_all
     ·try simp only [zs1, zs2, zs3, zs4, zs5, zs6, zs7] at g51
      exfalso; simp_all
    ·skip
     omega
 ·skip
  refine .cons (.gF rfl rfl rfl) <| .cons (.gF rfl rfl rfl) <| .cons (.gF rfl rfl rfl) <| .cons (.gF rfl rfl rfl) <| .cons (.pF rfl rfl rfl) <| .cons (.asg rfl rfl) <| .nil <| ks_n ?_
  refine ACode.condT rfl (fun h => by first | (cases h; done) | (simp [*] at h; done) | (exfalso; simp_all; done)) (fun _ => ?_)
  refine .seq <| .region <| .cons (.mv rfl rfl) <| .cons (St1.eqS rfl rfl rfl) <| .cons (.asg rfl rfl) <| .nil <| ks_n ?_
  refine ACode.condT rfl (fun h34 => ?_) (fun h34 => ?_)
  ·try simp only [zs1, zs2, zs3, zs4, zs5, zs6, zs7] at h34
   exfalso; simp_all
  ·try simp only [zs1, zs2, zs3, zs4, zs5, zs6, zs7] at h34
   refine .seq <| .region <| .cons (.mv rfl rfl) <| .cons (.ge rfl rfl rfl) <| .cons (.mv rfl rfl) ?_
   refine .cD 46 rfl (fun g46 => ?_) (fun g46 => ?_)
   ·skip
    refine .cons (.gT rfl rfl rfl (.mv rfl rfl)) <| .cons (.gT rfl rfl rfl (.ln 9 1 16 rfl rfl rfl)) <| .cons (.gT rfl rfl rfl (.gt rfl rfl rfl)) <| .cons (.pT rfl rfl rfl) <| .cons (.mv rfl rfl) ?_
    refine AOps.cases 51 _ rfl (fun g51 => ?_) (fun g51 => ?_)
    ·try simp only [zs1, zs2, zs3, zs4, zs5, zs6, zs7] at g51
     refine .cons (.gT rfl rfl rfl (.mv rfl rfl)) <| .cons (.gT rfl rfl rfl (.xL 9 1 16 (i := 0) rfl rfl rfl rfl rfl (map_at (getD_at2 (d := ⟨#[]⟩) (by omega))))) ?_
     refine .cons (.gT rfl rfl rfl (.l1 1 rfl rfl)) <| .cons (.gT rfl rfl rfl (St1.eqS rfl rfl rfl)) <| .cons (.pT rfl rfl rfl) <| .cons (.asg rfl rfl) <| .nil <| ks_n ?_
     refine ACode.condT rfl (fun h43 => ?_) (fun h43 => ?_)
     ·try simp only [zs1, zs2, zs3, zs4, zs5, zs6, zs7] at h43
      refine .seq <| .region <| .cons (.fB 1 0 false rfl rfl rfl) <| .cons (.b1 1 rfl rfl rfl rfl rfl rfl) <| .cons (.mv rfl rfl) <| .cons (.xB 65 2 48 (i := ps.length) rfl rfl rfl rfl rfl (by first | omega | (simp; done) | (simp; omega)) (by first | omega | (simp; done) | (simp; omega))) ?_
      refine .cons (.bN 2 rfl rfl rfl rfl (row_lastP _ _) rfl) <| .cons (.al 107 [.slice none 0 0, .slice none 0 0] rfl rfl rfl) <| .cons (.sT 2 true rfl rfl rfl rfl rfl rfl rfl) <| .nil <| ks_n <| .seq ?_
      refine ACode.drawK (by kernel_rfl) (by kernel_rfl) ?_
      refine .cons (.fB 0 0 false rfl rfl rfl) <| .cons (.b1 1 rfl rfl rfl rfl rfl rfl) <| .cons (.mv rfl rfl) <| .cons (.cP [.tmp 64] rfl rfl rfl rfl (lnV_fn hs) rfl) ?_
      refine .cons (.li 100 1 0 [.tmp 65] rfl rfl rfl rfl rfl rfl) <| .cons (St1.appN (k' := 167) (e := 100) (sz := 1) (by' := 48) rfl rfl rfl rfl rfl (by kernel_rfl) rfl rfl rfl (by simp) (by first | (simp [dR]; done) | (simp [dR]; omega)) rfl rfl) ?_
      refine .cons (.fB 0 0 false rfl rfl rfl) <| .cons (.sT 1 false rfl rfl rfl rfl rfl rfl rfl) ?_
      refine .nil ⟨by kernel_rfl, ?_⟩
      refine ks_n <| .region <| .cons (.fB 1 0 false rfl rfl rfl) <| .cons (.b1 1 rfl rfl rfl rfl rfl rfl) <| .cons (.mv rfl rfl) <| .cons (.bN 2 rfl rfl rfl rfl rfl rfl) <| .cons (.xB 65 2 48 (i := ps.length) rfl rfl rfl rfl rfl (by first | omega | (simp; done) | (simp; omega)) (by first | omega | (simp; done) | (simp; omega))) ?_
      refine .cons (.sT 2 true rfl rfl rfl rfl (row_lastP _ _) rfl rfl) <| .nil <| kb_n <| ks_n <| .seq <| .region <| .cons (.bN 2 rfl rfl rfl rfl rfl rfl) <| .cons (.sT 2 true rfl rfl rfl rfl rfl rfl rfl) <| .nil <| ks_n <| .ret ?_
      refine kf_wret [(.t 4, .v (.o (.c (.box 150 2 0 0)))), (.b 0, .b 65 2 (dR (ps.map rP) ++ [[.own 100 2 [lnV s].length, niC]])), (.u 0, .u), (.b 100, .b 100 2 (dR ([lnV s].map rL))), (.u 100, .u), (.b 150, .b 45 2 [[.d (dRs a), .own 0 2 (ps.length + 1)]]), (.u 150, .u)] (Wk.keep [(0, 0), (100, 167), (150, 104)] rfl rfl ⟨ks rfl (.c .bx), kb 0 rfl (.eq (set_lastP _ _ _) rfl (.app (.dat _ _ (ps.map rP) rfl rfl) (.cons (.cons (.own _ _ _ _ _ (by first | decide | simp) (by first | rfl | omega | (simp; done))) (.cons (.d _ _ rfl) .nil)) .nil))), kb 167 rfl (.dt rfl rfl), kb 104 rfl (.cons (.cons .dt (.cons .ow Ctos.nil)) .nil), trivial⟩) rfl ?_ (two_box rfl rfl)
      rfl
     ·try simp only [zs1, zs2, zs3, zs4, zs5, zs6, zs7] at h43
      exfalso; simp_all
    ·try simp only [zs1, zs2, zs3, zs4, zs5, zs6, zs7] at g51
     exfalso; simp_all
   ·skip
    omega

theorem line_f1 {s : ByteArray} (hs : s.size ≤ 1048576) (hk : kdL s = 2) (a : List Arr) (ha : a.length ≤ 100) (ps : List Prt) (hps : ps.length ≤ 100) (ns : List Lp) (hns : ns.length ≤ 100) : Fn Try.prog 43 (hbPN 0 1 ps ns) [.agg [.d (dRs a), .own 0 2 (ps.length + 1)], st1 s] (.o (.agg [.d (dRs a), .own 0 2 (ps.length + 1)])) (hbPN 0 1000 ps (ns ++ [lnV s])) := by
 obtain ⟨ws, hws⟩ : ∃ ws, wrdV s = ws := ⟨_, rfl⟩
 have hwb := wrdV_bd s
 have hno := kdL_no0 (s := s) (by rw [hk]; decide)
 rw [hws] at hno hwb
 have hn1 := kdL_no1 (s := s) (by rw [hk]; decide)
 obtain ⟨hp0, he0⟩ := kdL_2 hk
 rw [hws] at hp0 he0
 refine Fn.of_code Try.func43 rfl rfl (hbPN_HB _ _ _ _) rfl rfl (hbPN_HB _ _ _ _) rfl (pn_num ⟨_, _, _, rfl⟩ rfl) ?_
 refine .seq <| .region <| .cons (St1.boxB (k' := 102) rfl rfl rfl rfl rfl rfl rfl) <| .cons (.al 104 [.slice none 0 0, .slice none 0 0] rfl rfl rfl) <| .nil <| ks_n <| .seq <| .region <| .cons (.mv rfl rfl) <| .cons (.cP [.tmp 11] rfl rfl rfl rfl (show Fn Try.prog 53 [] [st1 s] (.o (vD (dTxs ws))) [] from by rw [← hws]; exact l16Words_fn hs) rfl) ?_
 refine .cons (.asg rfl rfl) <| .nil <| ks_n <| .seq <| .region <| .cons (.fB 1 0 false rfl rfl rfl) <| .cons (.b1 1 rfl rfl rfl rfl rfl rfl) <| .cons (.lB 65 2 48 rfl rfl rfl rfl) <| .cons (.sb rfl rfl rfl) <| .cons (.asg rfl rfl) <| .nil <| ks_n <| .seq <| .block <| .seq <| .region <| .cons (.mv rfl rfl) <| .cons (.ln 9 1 16 rfl rfl rfl) <| .cons (.gt rfl rfl rfl) <| .cons (.mv rfl rfl) ?_
 refine .cD 21 rfl (fun g21 => ?_) (fun g21 => ?_)
 ·skip
  refine .cons (.gT rfl rfl rfl (.mv rfl rfl)) <| .cons (.gT rfl rfl rfl (.xL 9 1 16 (i := 0) rfl rfl rfl rfl rfl (map_at (getD_at2 (d := ⟨#[]⟩) (by omega))))) ?_
  refine .cons (.gT rfl rfl rfl (.l1 1 rfl rfl)) <| .cons (.gT rfl rfl rfl (St1.eqS rfl rfl rfl)) <| .cons (.pT rfl rfl rfl) <| .cons (.asg rfl rfl) <| .nil <| ks_n ?_
  refine ACode.condT rfl (fun h17 => ?_) (fun h17 => ?_)
  ·try simp only [zs1, zs2, zs3, zs4, zs5, zs6, zs7] at h17
   exfalso; simp_all
  ·try simp only [zs1, zs2, zs3, zs4, zs5, zs6, zs7] at h17
   refine .seq <| .region <| .cons (.mv rfl rfl) <| .cons (St1.eqS rfl rfl rfl) <| .cons (.asg rfl rfl) <| .nil <| ks_n ?_
   refine ACode.condT rfl (fun h34 => ?_) (fun h34 => ?_)
   ·try simp only [zs1, zs2, zs3, zs4, zs5, zs6, zs7] at h34
    exfalso; simp_all
   ·try simp only [zs1, zs2, zs3, zs4, zs5, zs6, zs7] at h34
    refine .seq <| .region <| .cons (.mv rfl rfl) <| .cons (.ge rfl rfl rfl) <| .cons (.mv rfl rfl) ?_
    refine .cD 46 rfl (fun g46 => ?_) (fun g46 => ?_)
    ·skip
     refine .cons (.gT rfl rfl rfl (.mv rfl rfl)) <| .cons (.gT rfl rfl rfl (.ln 9 1 16 rfl rfl rfl)) <| .cons (.gT rfl rfl rfl (.gt rfl rfl rfl)) <| .cons (.pT rfl rfl rfl) <| .cons (.mv rfl rfl) ?_
     refine AOps.cases 51 _ rfl (fun g51 => ?_) (fun g51 => ?_)
     ·try simp only [zs1, zs2, zs3, zs4, zs5, zs6, zs7] at g51
      refine .cons (.gT rfl rfl rfl (.mv rfl rfl)) <| .cons (.gT rfl rfl rfl (.xL 9 1 16 (i := 0) rfl rfl rfl rfl rfl (map_at (getD_at2 (d := ⟨#[]⟩) (by omega))))) ?_
      refine .cons (.gT rfl rfl rfl (.l1 1 rfl rfl)) <| .cons (.gT rfl rfl rfl (St1.eqS rfl rfl rfl)) <| .cons (.pT rfl rfl rfl) <| .cons (.asg rfl rfl) <| .nil <| ks_n ?_
      refine ACode.condT rfl (fun h43 => ?_) (fun h43 => ?_)
      ·try simp only [zs1, zs2, zs3, zs4, zs5, zs6, zs7] at h43
       refine .seq <| .region <| .cons (.fB 1 0 false rfl rfl rfl) <| .cons (.b1 1 rfl rfl rfl rfl rfl rfl) <| .cons (.mv rfl rfl) <| .cons (.xB 65 2 48 (i := ps.length) rfl rfl rfl rfl rfl (by first | omega | (simp; done) | (simp; omega)) (by first | omega | (simp; done) | (simp; omega))) ?_
       refine .cons (.bN 2 rfl rfl rfl rfl (row_lastP _ _) rfl) <| .cons (.al 107 [.slice none 0 0, .slice none 0 0] rfl rfl rfl) <| .cons (.sT 2 true rfl rfl rfl rfl rfl rfl rfl) <| .nil <| ks_n <| .seq ?_
       refine ACode.drawK (by kernel_rfl) (by kernel_rfl) ?_
       refine .cons (.fB 0 0 false rfl rfl rfl) <| .cons (.b1 1 rfl rfl rfl rfl rfl rfl) <| .cons (.mv rfl rfl) <| .cons (.cP [.tmp 64] rfl rfl rfl rfl (lnV_fn hs) rfl) ?_
       refine .cons (.li 100 1 0 [.tmp 65] rfl rfl rfl rfl rfl rfl) <| .cons (St1.appB (k' := 1067) (e := 100) (sz := 1) (by' := 48) rfl rfl rfl rfl rfl (by kernel_rfl) rfl rfl rfl rfl (by simp [dR]) (by first | (simp [dR]; done) | (simp [dR]; omega)) rfl rfl rfl) ?_
       refine .cons (.fB 0 0 false rfl rfl rfl) <| .cons (.sT 1 false rfl rfl rfl rfl rfl rfl rfl) ?_
       refine .nil ⟨by kernel_rfl, ?_⟩
       refine ks_n <| .region <| .cons (.fB 1 0 false rfl rfl rfl) <| .cons (.b1 1 rfl rfl rfl rfl rfl rfl) <| .cons (.mv rfl rfl) <| .cons (.bN 2 rfl rfl rfl rfl rfl rfl) <| .cons (.xB 65 2 48 (i := ps.length) rfl rfl rfl rfl rfl (by first | omega | (simp; done) | (simp; omega)) (by first | omega | (simp; done) | (simp; omega))) ?_
       refine .cons (.sT 2 true rfl rfl rfl rfl (row_lastP _ _) rfl rfl) <| .nil <| kb_n <| ks_n <| .seq <| .region <| .cons (.bN 2 rfl rfl rfl rfl rfl rfl) <| .cons (.sT 2 true rfl rfl rfl rfl rfl rfl rfl) <| .nil <| ks_n <| .ret ?_
       refine kf_wret [(.t 4, .v (.o (.c (.box 150 2 0 0)))), (.b 0, .b 65 2 (dR (ps.map rP) ++ [[.own 1000 2 (ns ++ [lnV s]).length, niC]])), (.u 0, .u), (.b 1000, .b 100 2 (dR ((ns ++ [lnV s]).map rL))), (.u 1000, .u), (.b 150, .b 45 2 [[.d (dRs a), .own 0 2 (ps.length + 1)]]), (.u 150, .u)] (Wk.keep [(0, 0), (1000, 1067), (150, 104)] rfl rfl ⟨ks rfl (.c .bx), kb 0 rfl (.eq (set_lastP _ _ _) rfl (.app (.dat _ _ (ps.map rP) rfl rfl) (.cons (.cons (.own _ _ _ _ _ (by first | decide | simp) (by first | rfl | omega | (simp; done))) (.cons (.d _ _ rfl) .nil)) .nil))), kb 1067 rfl (.dt rfl (by rw [List.map_append, dR_app]; rfl)), kb 104 rfl (.cons (.cons .dt (.cons .ow Ctos.nil)) .nil), trivial⟩) rfl ?_ (two_box rfl rfl)
       rfl
      ·try simp only [zs1, zs2, zs3, zs4, zs5, zs6, zs7] at h43
       exfalso; simp_all
     ·try simp only [zs1, zs2, zs3, zs4, zs5, zs6, zs7] at g51
      exfalso; simp_all
    ·skip
     omega
 ·skip
  refine .cons (.gF rfl rfl rfl) <| .cons (.gF rfl rfl rfl) <| .cons (.gF rfl rfl rfl) <| .cons (.gF rfl rfl rfl) <| .cons (.pF rfl rfl rfl) <| .cons (.asg rfl rfl) <| .nil <| ks_n ?_
  refine ACode.condT rfl (fun h => by first | (cases h; done) | (simp [*] at h; done) | (exfalso; simp_all; done)) (fun _ => ?_)
  refine .seq <| .region <| .cons (.mv rfl rfl) <| .cons (St1.eqS rfl rfl rfl) <| .cons (.asg rfl rfl) <| .nil <| ks_n ?_
  refine ACode.condT rfl (fun h34 => ?_) (fun h34 => ?_)
  ·try simp only [zs1, zs2, zs3, zs4, zs5, zs6, zs7] at h34
   exfalso; simp_all
  ·try simp only [zs1, zs2, zs3, zs4, zs5, zs6, zs7] at h34
   refine .seq <| .region <| .cons (.mv rfl rfl) <| .cons (.ge rfl rfl rfl) <| .cons (.mv rfl rfl) ?_
   refine .cD 46 rfl (fun g46 => ?_) (fun g46 => ?_)
   ·skip
    refine .cons (.gT rfl rfl rfl (.mv rfl rfl)) <| .cons (.gT rfl rfl rfl (.ln 9 1 16 rfl rfl rfl)) <| .cons (.gT rfl rfl rfl (.gt rfl rfl rfl)) <| .cons (.pT rfl rfl rfl) <| .cons (.mv rfl rfl) ?_
    refine AOps.cases 51 _ rfl (fun g51 => ?_) (fun g51 => ?_)
    ·try simp only [zs1, zs2, zs3, zs4, zs5, zs6, zs7] at g51
     refine .cons (.gT rfl rfl rfl (.mv rfl rfl)) <| .cons (.gT rfl rfl rfl (.xL 9 1 16 (i := 0) rfl rfl rfl rfl rfl (map_at (getD_at2 (d := ⟨#[]⟩) (by omega))))) ?_
     refine .cons (.gT rfl rfl rfl (.l1 1 rfl rfl)) <| .cons (.gT rfl rfl rfl (St1.eqS rfl rfl rfl)) <| .cons (.pT rfl rfl rfl) <| .cons (.asg rfl rfl) <| .nil <| ks_n ?_
     refine ACode.condT rfl (fun h43 => ?_) (fun h43 => ?_)
     ·try simp only [zs1, zs2, zs3, zs4, zs5, zs6, zs7] at h43
      refine .seq <| .region <| .cons (.fB 1 0 false rfl rfl rfl) <| .cons (.b1 1 rfl rfl rfl rfl rfl rfl) <| .cons (.mv rfl rfl) <| .cons (.xB 65 2 48 (i := ps.length) rfl rfl rfl rfl rfl (by first | omega | (simp; done) | (simp; omega)) (by first | omega | (simp; done) | (simp; omega))) ?_
      refine .cons (.bN 2 rfl rfl rfl rfl (row_lastP _ _) rfl) <| .cons (.al 107 [.slice none 0 0, .slice none 0 0] rfl rfl rfl) <| .cons (.sT 2 true rfl rfl rfl rfl rfl rfl rfl) <| .nil <| ks_n <| .seq ?_
      refine ACode.drawK (by kernel_rfl) (by kernel_rfl) ?_
      refine .cons (.fB 0 0 false rfl rfl rfl) <| .cons (.b1 1 rfl rfl rfl rfl rfl rfl) <| .cons (.mv rfl rfl) <| .cons (.cP [.tmp 64] rfl rfl rfl rfl (lnV_fn hs) rfl) ?_
      refine .cons (.li 100 1 0 [.tmp 65] rfl rfl rfl rfl rfl rfl) <| .cons (St1.appB (k' := 1067) (e := 100) (sz := 1) (by' := 48) rfl rfl rfl rfl rfl (by kernel_rfl) rfl rfl rfl rfl (by simp [dR]) (by first | (simp [dR]; done) | (simp [dR]; omega)) rfl rfl rfl) ?_
      refine .cons (.fB 0 0 false rfl rfl rfl) <| .cons (.sT 1 false rfl rfl rfl rfl rfl rfl rfl) ?_
      refine .nil ⟨by kernel_rfl, ?_⟩
      refine ks_n <| .region <| .cons (.fB 1 0 false rfl rfl rfl) <| .cons (.b1 1 rfl rfl rfl rfl rfl rfl) <| .cons (.mv rfl rfl) <| .cons (.bN 2 rfl rfl rfl rfl rfl rfl) <| .cons (.xB 65 2 48 (i := ps.length) rfl rfl rfl rfl rfl (by first | omega | (simp; done) | (simp; omega)) (by first | omega | (simp; done) | (simp; omega))) ?_
      refine .cons (.sT 2 true rfl rfl rfl rfl (row_lastP _ _) rfl rfl) <| .nil <| kb_n <| ks_n <| .seq <| .region <| .cons (.bN 2 rfl rfl rfl rfl rfl rfl) <| .cons (.sT 2 true rfl rfl rfl rfl rfl rfl rfl) <| .nil <| ks_n <| .ret ?_
      refine kf_wret [(.t 4, .v (.o (.c (.box 150 2 0 0)))), (.b 0, .b 65 2 (dR (ps.map rP) ++ [[.own 1000 2 (ns ++ [lnV s]).length, niC]])), (.u 0, .u), (.b 1000, .b 100 2 (dR ((ns ++ [lnV s]).map rL))), (.u 1000, .u), (.b 150, .b 45 2 [[.d (dRs a), .own 0 2 (ps.length + 1)]]), (.u 150, .u)] (Wk.keep [(0, 0), (1000, 1067), (150, 104)] rfl rfl ⟨ks rfl (.c .bx), kb 0 rfl (.eq (set_lastP _ _ _) rfl (.app (.dat _ _ (ps.map rP) rfl rfl) (.cons (.cons (.own _ _ _ _ _ (by first | decide | simp) (by first | rfl | omega | (simp; done))) (.cons (.d _ _ rfl) .nil)) .nil))), kb 1067 rfl (.dt rfl (by rw [List.map_append, dR_app]; rfl)), kb 104 rfl (.cons (.cons .dt (.cons .ow Ctos.nil)) .nil), trivial⟩) rfl ?_ (two_box rfl rfl)
      rfl
     ·try simp only [zs1, zs2, zs3, zs4, zs5, zs6, zs7] at h43
      exfalso; simp_all
    ·try simp only [zs1, zs2, zs3, zs4, zs5, zs6, zs7] at g51
     exfalso; simp_all
   ·skip
    omega

theorem line_s0 {s : ByteArray} (hs : s.size ≤ 1048576) (hk : kdL s = 3) (a : List Arr) (ha : a.length ≤ 100) (ps : List Prt) (hps : ps.length ≤ 100) (ns : List Lp) : Fn Try.prog 43 (hbP 0 ps [.d (dLs ns), niC]) [.agg [.d (dRs a), .own 0 2 (ps.length + 1)], st1 s] (.o (.agg [.d (dRs a), .own 0 2 (ps.length + 1)])) (hbPB 0 100 ps ns [(psV s).1]) := by
 obtain ⟨ws, hws⟩ : ∃ ws, wrdV s = ws := ⟨_, rfl⟩
 have hwb := wrdV_bd s
 have hno := kdL_no0 (s := s) (by rw [hk]; decide)
 rw [hws] at hno hwb
 have hn1 := kdL_no1 (s := s) (by rw [hk]; decide)
 have hn2 := kdL_3 hk
 rw [hws] at hn2
 refine Fn.of_code Try.func43 rfl rfl (hbP_HB _ _ _ _) rfl rfl (hbPB_HB _ _ _ _ _) rfl (pn_num ⟨_, _, _, rfl⟩ rfl) ?_
 refine .seq <| .region <| .cons (St1.boxB (k' := 102) rfl rfl rfl rfl rfl rfl rfl) <| .cons (.al 104 [.slice none 0 0, .slice none 0 0] rfl rfl rfl) <| .nil <| ks_n <| .seq <| .region <| .cons (.mv rfl rfl) <| .cons (.cP [.tmp 11] rfl rfl rfl rfl (show Fn Try.prog 53 [] [st1 s] (.o (vD (dTxs ws))) [] from by rw [← hws]; exact l16Words_fn hs) rfl) ?_
 refine .cons (.asg rfl rfl) <| .nil <| ks_n <| .seq <| .region <| .cons (.fB 1 0 false rfl rfl rfl) <| .cons (.b1 1 rfl rfl rfl rfl rfl rfl) <| .cons (.lB 65 2 48 rfl rfl rfl rfl) <| .cons (.sb rfl rfl rfl) <| .cons (.asg rfl rfl) <| .nil <| ks_n <| .seq <| .block <| .seq <| .region <| .cons (.mv rfl rfl) <| .cons (.ln 9 1 16 rfl rfl rfl) <| .cons (.gt rfl rfl rfl) <| .cons (.mv rfl rfl) ?_
 refine .cD 21 rfl (fun g21 => ?_) (fun g21 => ?_)
 ·skip
  refine .cons (.gT rfl rfl rfl (.mv rfl rfl)) <| .cons (.gT rfl rfl rfl (.xL 9 1 16 (i := 0) rfl rfl rfl rfl rfl (map_at (getD_at2 (d := ⟨#[]⟩) (by omega))))) ?_
  refine .cons (.gT rfl rfl rfl (.l1 1 rfl rfl)) <| .cons (.gT rfl rfl rfl (St1.eqS rfl rfl rfl)) <| .cons (.pT rfl rfl rfl) <| .cons (.asg rfl rfl) <| .nil <| ks_n ?_
  refine ACode.condT rfl (fun h17 => ?_) (fun h17 => ?_)
  ·try simp only [zs1, zs2, zs3, zs4, zs5, zs6, zs7] at h17
   exfalso; simp_all
  ·try simp only [zs1, zs2, zs3, zs4, zs5, zs6, zs7] at h17
   refine .seq <| .region <| .cons (.mv rfl rfl) <| .cons (St1.eqS rfl rfl rfl) <| .cons (.asg rfl rfl) <| .nil <| ks_n ?_
   refine ACode.condT rfl (fun h34 => ?_) (fun h34 => ?_)
   ·try simp only [zs1, zs2, zs3, zs4, zs5, zs6, zs7] at h34
    exfalso; simp_all
   ·try simp only [zs1, zs2, zs3, zs4, zs5, zs6, zs7] at h34
    refine .seq <| .region <| .cons (.mv rfl rfl) <| .cons (.ge rfl rfl rfl) <| .cons (.mv rfl rfl) ?_
    refine .cD 46 rfl (fun g46 => ?_) (fun g46 => ?_)
    ·skip
     refine .cons (.gT rfl rfl rfl (.mv rfl rfl)) <| .cons (.gT rfl rfl rfl (.ln 9 1 16 rfl rfl rfl)) <| .cons (.gT rfl rfl rfl (.gt rfl rfl rfl)) <| .cons (.pT rfl rfl rfl) <| .cons (.mv rfl rfl) ?_
     refine AOps.cases 51 _ rfl (fun g51 => ?_) (fun g51 => ?_)
     ·try simp only [zs1, zs2, zs3, zs4, zs5, zs6, zs7] at g51
      refine .cons (.gT rfl rfl rfl (.mv rfl rfl)) <| .cons (.gT rfl rfl rfl (.xL 9 1 16 (i := 0) rfl rfl rfl rfl rfl (map_at (getD_at2 (d := ⟨#[]⟩) (by omega))))) ?_
      refine .cons (.gT rfl rfl rfl (.l1 1 rfl rfl)) <| .cons (.gT rfl rfl rfl (St1.eqS rfl rfl rfl)) <| .cons (.pT rfl rfl rfl) <| .cons (.asg rfl rfl) <| .nil <| ks_n ?_
      refine ACode.condT rfl (fun h43 => ?_) (fun h43 => ?_)
      ·try simp only [zs1, zs2, zs3, zs4, zs5, zs6, zs7] at h43
       exfalso; simp_all
      ·try simp only [zs1, zs2, zs3, zs4, zs5, zs6, zs7] at h43
       refine .seq <| .region <| .cons (.mv rfl rfl) <| .cons (.ge rfl rfl rfl) <| .cons (.asg rfl rfl) <| .nil <| ks_n ?_
       refine .cD rfl (fun h74 => ?_) (fun h74 => ?_)
       ·skip
        refine .seq <| .region <| .cons (.fB 1 0 false rfl rfl rfl) <| .cons (.b1 1 rfl rfl rfl rfl rfl rfl) <| .cons (.mv rfl rfl) <| .cons (.xB 65 2 48 (i := ps.length) rfl rfl rfl rfl rfl (by first | omega | (simp; done) | (simp; omega)) (by first | omega | (simp; done) | (simp; omega))) ?_
        refine .cons (.bN 2 rfl rfl rfl rfl (row_lastP _ _) rfl) <| .cons (.al 108 [.slice none 0 0, .slice none 0 0] rfl rfl rfl) <| .cons (.sT 2 true rfl rfl rfl rfl rfl rfl rfl) <| .nil <| ks_n <| .seq <| .region <| .cons (.mv rfl rfl) <| .cons (.cP [.tmp 83] rfl rfl rfl rfl (psV_fn hs) rfl) ?_
        refine .cons (.mv rfl rfl) <| .cons (.ex rfl rfl rfl) <| .cons (.ex rfl rfl rfl) <| .cons (.al 109 [.string ByteArray.empty, .slice none 0 0, .int .i64 0, .int .i64 0, .slice none 0 0, .int .i64 0, .string ByteArray.empty, .slice none 0 0, .slice none 0 0] rfl rfl rfl) <| .cons (.sT 9 true rfl rfl rfl rfl rfl rfl rfl) <| .cons (.asg rfl rfl) <| .nil <| ks_n <| .seq <| .region <| .cons (.fB 1 0 false rfl rfl rfl) <| .cons (.b1 1 rfl rfl rfl rfl rfl rfl) <| .cons (.bN 9 rfl rfl rfl rfl rfl rfl) <| .cons (.li 79 8 0 [.tmp 89] rfl rfl rfl rfl rfl rfl) <| .cons (St1.appN (k' := 191) (e := 79) (sz := 8) (by' := 152) rfl rfl rfl rfl rfl (by kernel_rfl) rfl rfl rfl (by simp) (by first | (simp [dR]; done) | (simp [dR]; omega)) rfl rfl) ?_
        refine .cons (.fB 1 0 false rfl rfl rfl) <| .cons (.sT 1 false rfl rfl rfl rfl rfl rfl rfl) <| .nil <| ks_n <| .region <| .cons (.fB 1 0 false rfl rfl rfl) <| .cons (.b1 1 rfl rfl rfl rfl rfl rfl) <| .cons (.mv rfl rfl) <| .cons (.bN 2 rfl rfl rfl rfl rfl rfl) <| .cons (.xB 65 2 48 (i := ps.length) rfl rfl rfl rfl rfl (by first | omega | (simp; done) | (simp; omega)) (by first | omega | (simp; done) | (simp; omega))) ?_
        refine .cons (.sT 2 true rfl rfl rfl rfl (row_lastP _ _) rfl rfl) <| .nil <| kb_n <| ks_n <| .seq <| .region <| .cons (.bN 2 rfl rfl rfl rfl rfl rfl) <| .cons (.sT 2 true rfl rfl rfl rfl rfl rfl rfl) <| .nil <| ks_n <| .ret ?_
        refine kf_wret [(.t 4, .v (.o (.c (.box 150 2 0 0)))), (.b 0, .b 65 2 (dR (ps.map rP) ++ [[.d (dLs ns), .own 100 9 [(psV s).1].length]])), (.u 0, .u), (.b 100, .b 79 9 (dR ([(psV s).1].map rS))), (.u 100, .u), (.b 150, .b 45 2 [[.d (dRs a), .own 0 2 (ps.length + 1)]]), (.u 150, .u)] (Wk.keep [(0, 0), (100, 191), (150, 104)] rfl rfl ⟨ks rfl (.c .bx), kb 0 rfl (.eq (set_lastP _ _ _) rfl (.app (.dat _ _ (ps.map rP) rfl rfl) (.cons (.cons (.d _ _ rfl) (.cons (.own _ _ _ _ _ (by first | decide | simp) (by first | rfl | omega | (simp; done))) .nil)) .nil))), kb 191 rfl (.dt rfl rfl), kb 104 rfl (.cons (.cons .dt (.cons .ow Ctos.nil)) .nil), trivial⟩) rfl ?_ (two_box rfl rfl)
        rfl
       ·skip
        omega
     ·try simp only [zs1, zs2, zs3, zs4, zs5, zs6, zs7] at g51
      refine .cons (.gF rfl rfl rfl) <| .cons (.gF rfl rfl rfl) <| .cons (.gF rfl rfl rfl) <| .cons (.gF rfl rfl rfl) <| .cons (.pF rfl rfl rfl) <| .cons (.asg rfl rfl) <| .nil <| ks_n ?_
      refine ACode.condT rfl (fun h => by first | (cases h; done) | (simp [*] at h; done) | (exfalso; simp_all; done)) (fun _ => ?_)
      refine .seq <| .region <| .cons (.mv rfl rfl) <| .cons (.ge rfl rfl rfl) <| .cons (.asg rfl rfl) <| .nil <| ks_n ?_
      refine .cD rfl (fun h74 => ?_) (fun h74 => ?_)
      ·skip
       refine .seq <| .region <| .cons (.fB 1 0 false rfl rfl rfl) <| .cons (.b1 1 rfl rfl rfl rfl rfl rfl) <| .cons (.mv rfl rfl) <| .cons (.xB 65 2 48 (i := ps.length) rfl rfl rfl rfl rfl (by first | omega | (simp; done) | (simp; omega)) (by first | omega | (simp; done) | (simp; omega))) ?_
       refine .cons (.bN 2 rfl rfl rfl rfl (row_lastP _ _) rfl) <| .cons (.al 108 [.slice none 0 0, .slice none 0 0] rfl rfl rfl) <| .cons (.sT 2 true rfl rfl rfl rfl rfl rfl rfl) <| .nil <| ks_n <| .seq <| .region <| .cons (.mv rfl rfl) <| .cons (.cP [.tmp 83] rfl rfl rfl rfl (psV_fn hs) rfl) ?_
       refine .cons (.mv rfl rfl) <| .cons (.ex rfl rfl rfl) <| .cons (.ex rfl rfl rfl) <| .cons (.al 109 [.string ByteArray.empty, .slice none 0 0, .int .i64 0, .int .i64 0, .slice none 0 0, .int .i64 0, .string ByteArray.empty, .slice none 0 0, .slice none 0 0] rfl rfl rfl) <| .cons (.sT 9 true rfl rfl rfl rfl rfl rfl rfl) <| .cons (.asg rfl rfl) <| .nil <| ks_n <| .seq <| .region <| .cons (.fB 1 0 false rfl rfl rfl) <| .cons (.b1 1 rfl rfl rfl rfl rfl rfl) <| .cons (.bN 9 rfl rfl rfl rfl rfl rfl) <| .cons (.li 79 8 0 [.tmp 89] rfl rfl rfl rfl rfl rfl) <| .cons (St1.appN (k' := 191) (e := 79) (sz := 8) (by' := 152) rfl rfl rfl rfl rfl (by kernel_rfl) rfl rfl rfl (by simp) (by first | (simp [dR]; done) | (simp [dR]; omega)) rfl rfl) ?_
       refine .cons (.fB 1 0 false rfl rfl rfl) <| .cons (.sT 1 false rfl rfl rfl rfl rfl rfl rfl) <| .nil <| ks_n <| .region <| .cons (.fB 1 0 false rfl rfl rfl) <| .cons (.b1 1 rfl rfl rfl rfl rfl rfl) <| .cons (.mv rfl rfl) <| .cons (.bN 2 rfl rfl rfl rfl rfl rfl) <| .cons (.xB 65 2 48 (i := ps.length) rfl rfl rfl rfl rfl (by first | omega | (simp; done) | (simp; omega)) (by first | omega | (simp; done) | (simp; omega))) ?_
       refine .cons (.sT 2 true rfl rfl rfl rfl (row_lastP _ _) rfl rfl) <| .nil <| kb_n <| ks_n <| .seq <| .region <| .cons (.bN 2 rfl rfl rfl rfl rfl rfl) <| .cons (.sT 2 true rfl rfl rfl rfl rfl rfl rfl) <| .nil <| ks_n <| .ret ?_
       refine kf_wret [(.t 4, .v (.o (.c (.box 150 2 0 0)))), (.b 0, .b 65 2 (dR (ps.map rP) ++ [[.d (dLs ns), .own 100 9 [(psV s).1].length]])), (.u 0, .u), (.b 100, .b 79 9 (dR ([(psV s).1].map rS))), (.u 100, .u), (.b 150, .b 45 2 [[.d (dRs a), .own 0 2 (ps.length + 1)]]), (.u 150, .u)] (Wk.keep [(0, 0), (100, 191), (150, 104)] rfl rfl ⟨ks rfl (.c .bx), kb 0 rfl (.eq (set_lastP _ _ _) rfl (.app (.dat _ _ (ps.map rP) rfl rfl) (.cons (.cons (.d _ _ rfl) (.cons (.own _ _ _ _ _ (by first | decide | simp) (by first | rfl | omega | (simp; done))) .nil)) .nil))), kb 191 rfl (.dt rfl rfl), kb 104 rfl (.cons (.cons .dt (.cons .ow Ctos.nil)) .nil), trivial⟩) rfl ?_ (two_box rfl rfl)
       rfl
      ·skip
       omega
    ·skip
     omega
 ·skip
  refine .cons (.gF rfl rfl rfl) <| .cons (.gF rfl rfl rfl) <| .cons (.gF rfl rfl rfl) <| .cons (.gF rfl rfl rfl) <| .cons (.pF rfl rfl rfl) <| .cons (.asg rfl rfl) <| .nil <| ks_n ?_
  refine ACode.condT rfl (fun h => by first | (cases h; done) | (simp [*] at h; done) | (exfalso; simp_all; done)) (fun _ => ?_)
  refine .seq <| .region <| .cons (.mv rfl rfl) <| .cons (St1.eqS rfl rfl rfl) <| .cons (.asg rfl rfl) <| .nil <| ks_n ?_
  refine ACode.condT rfl (fun h34 => ?_) (fun h34 => ?_)
  ·try simp only [zs1, zs2, zs3, zs4, zs5, zs6, zs7] at h34
   exfalso; simp_all
  ·try simp only [zs1, zs2, zs3, zs4, zs5, zs6, zs7] at h34
   refine .seq <| .region <| .cons (.mv rfl rfl) <| .cons (.ge rfl rfl rfl) <| .cons (.mv rfl rfl) ?_
   refine .cD 46 rfl (fun g46 => ?_) (fun g46 => ?_)
   ·skip
    refine .cons (.gT rfl rfl rfl (.mv rfl rfl)) <| .cons (.gT rfl rfl rfl (.ln 9 1 16 rfl rfl rfl)) <| .cons (.gT rfl rfl rfl (.gt rfl rfl rfl)) <| .cons (.pT rfl rfl rfl) <| .cons (.mv rfl rfl) ?_
    refine AOps.cases 51 _ rfl (fun g51 => ?_) (fun g51 => ?_)
    ·try simp only [zs1, zs2, zs3, zs4, zs5, zs6, zs7] at g51
     refine .cons (.gT rfl rfl rfl (.mv rfl rfl)) <| .cons (.gT rfl rfl rfl (.xL 9 1 16 (i := 0) rfl rfl rfl rfl rfl (map_at (getD_at2 (d := ⟨#[]⟩) (by omega))))) ?_
     refine .cons (.gT rfl rfl rfl (.l1 1 rfl rfl)) <| .cons (.gT rfl rfl rfl (St1.eqS rfl rfl rfl)) <| .cons (.pT rfl rfl rfl) <| .cons (.asg rfl rfl) <| .nil <| ks_n ?_
     refine ACode.condT rfl (fun h43 => ?_) (fun h43 => ?_)
     ·try simp only [zs1, zs2, zs3, zs4, zs5, zs6, zs7] at h43
      exfalso; simp_all
     ·try simp only [zs1, zs2, zs3, zs4, zs5, zs6, zs7] at h43
      refine .seq <| .region <| .cons (.mv rfl rfl) <| .cons (.ge rfl rfl rfl) <| .cons (.asg rfl rfl) <| .nil <| ks_n ?_
      refine .cD rfl (fun h74 => ?_) (fun h74 => ?_)
      ·skip
       refine .seq <| .region <| .cons (.fB 1 0 false rfl rfl rfl) <| .cons (.b1 1 rfl rfl rfl rfl rfl rfl) <| .cons (.mv rfl rfl) <| .cons (.xB 65 2 48 (i := ps.length) rfl rfl rfl rfl rfl (by first | omega | (simp; done) | (simp; omega)) (by first | omega | (simp; done) | (simp; omega))) ?_
       refine .cons (.bN 2 rfl rfl rfl rfl (row_lastP _ _) rfl) <| .cons (.al 108 [.slice none 0 0, .slice none 0 0] rfl rfl rfl) <| .cons (.sT 2 true rfl rfl rfl rfl rfl rfl rfl) <| .nil <| ks_n <| .seq <| .region <| .cons (.mv rfl rfl) <| .cons (.cP [.tmp 83] rfl rfl rfl rfl (psV_fn hs) rfl) ?_
       refine .cons (.mv rfl rfl) <| .cons (.ex rfl rfl rfl) <| .cons (.ex rfl rfl rfl) <| .cons (.al 109 [.string ByteArray.empty, .slice none 0 0, .int .i64 0, .int .i64 0, .slice none 0 0, .int .i64 0, .string ByteArray.empty, .slice none 0 0, .slice none 0 0] rfl rfl rfl) <| .cons (.sT 9 true rfl rfl rfl rfl rfl rfl rfl) <| .cons (.asg rfl rfl) <| .nil <| ks_n <| .seq <| .region <| .cons (.fB 1 0 false rfl rfl rfl) <| .cons (.b1 1 rfl rfl rfl rfl rfl rfl) <| .cons (.bN 9 rfl rfl rfl rfl rfl rfl) <| .cons (.li 79 8 0 [.tmp 89] rfl rfl rfl rfl rfl rfl) <| .cons (St1.appN (k' := 191) (e := 79) (sz := 8) (by' := 152) rfl rfl rfl rfl rfl (by kernel_rfl) rfl rfl rfl (by simp) (by first | (simp [dR]; done) | (simp [dR]; omega)) rfl rfl) ?_
       refine .cons (.fB 1 0 false rfl rfl rfl) <| .cons (.sT 1 false rfl rfl rfl rfl rfl rfl rfl) <| .nil <| ks_n <| .region <| .cons (.fB 1 0 false rfl rfl rfl) <| .cons (.b1 1 rfl rfl rfl rfl rfl rfl) <| .cons (.mv rfl rfl) <| .cons (.bN 2 rfl rfl rfl rfl rfl rfl) <| .cons (.xB 65 2 48 (i := ps.length) rfl rfl rfl rfl rfl (by first | omega | (simp; done) | (simp; omega)) (by first | omega | (simp; done) | (simp; omega))) ?_
       refine .cons (.sT 2 true rfl rfl rfl rfl (row_lastP _ _) rfl rfl) <| .nil <| kb_n <| ks_n <| .seq <| .region <| .cons (.bN 2 rfl rfl rfl rfl rfl rfl) <| .cons (.sT 2 true rfl rfl rfl rfl rfl rfl rfl) <| .nil <| ks_n <| .ret ?_
       refine kf_wret [(.t 4, .v (.o (.c (.box 150 2 0 0)))), (.b 0, .b 65 2 (dR (ps.map rP) ++ [[.d (dLs ns), .own 100 9 [(psV s).1].length]])), (.u 0, .u), (.b 100, .b 79 9 (dR ([(psV s).1].map rS))), (.u 100, .u), (.b 150, .b 45 2 [[.d (dRs a), .own 0 2 (ps.length + 1)]]), (.u 150, .u)] (Wk.keep [(0, 0), (100, 191), (150, 104)] rfl rfl ⟨ks rfl (.c .bx), kb 0 rfl (.eq (set_lastP _ _ _) rfl (.app (.dat _ _ (ps.map rP) rfl rfl) (.cons (.cons (.d _ _ rfl) (.cons (.own _ _ _ _ _ (by first | decide | simp) (by first | rfl | omega | (simp; done))) .nil)) .nil))), kb 191 rfl (.dt rfl rfl), kb 104 rfl (.cons (.cons .dt (.cons .ow Ctos.nil)) .nil), trivial⟩) rfl ?_ (two_box rfl rfl)
       rfl
      ·skip
       omega
    ·try simp only [zs1, zs2, zs3, zs4, zs5, zs6, zs7] at g51
     refine .cons (.gF rfl rfl rfl) <| .cons (.gF rfl rfl rfl) <| .cons (.gF rfl rfl rfl) <| .cons (.gF rfl rfl rfl) <| .cons (.pF rfl rfl rfl) <| .cons (.asg rfl rfl) <| .nil <| ks_n ?_
     refine ACode.condT rfl (fun h => by first | (cases h; done) | (simp [*] at h; done) | (exfalso; simp_all; done)) (fun _ => ?_)
     refine .seq <| .region <| .cons (.mv rfl rfl) <| .cons (.ge rfl rfl rfl) <| .cons (.asg rfl rfl) <| .nil <| ks_n ?_
     refine .cD rfl (fun h74 => ?_) (fun h74 => ?_)
     ·skip
      refine .seq <| .region <| .cons (.fB 1 0 false rfl rfl rfl) <| .cons (.b1 1 rfl rfl rfl rfl rfl rfl) <| .cons (.mv rfl rfl) <| .cons (.xB 65 2 48 (i := ps.length) rfl rfl rfl rfl rfl (by first | omega | (simp; done) | (simp; omega)) (by first | omega | (simp; done) | (simp; omega))) ?_
      refine .cons (.bN 2 rfl rfl rfl rfl (row_lastP _ _) rfl) <| .cons (.al 108 [.slice none 0 0, .slice none 0 0] rfl rfl rfl) <| .cons (.sT 2 true rfl rfl rfl rfl rfl rfl rfl) <| .nil <| ks_n <| .seq <| .region <| .cons (.mv rfl rfl) <| .cons (.cP [.tmp 83] rfl rfl rfl rfl (psV_fn hs) rfl) ?_
      refine .cons (.mv rfl rfl) <| .cons (.ex rfl rfl rfl) <| .cons (.ex rfl rfl rfl) <| .cons (.al 109 [.string ByteArray.empty, .slice none 0 0, .int .i64 0, .int .i64 0, .slice none 0 0, .int .i64 0, .string ByteArray.empty, .slice none 0 0, .slice none 0 0] rfl rfl rfl) <| .cons (.sT 9 true rfl rfl rfl rfl rfl rfl rfl) <| .cons (.asg rfl rfl) <| .nil <| ks_n <| .seq <| .region <| .cons (.fB 1 0 false rfl rfl rfl) <| .cons (.b1 1 rfl rfl rfl rfl rfl rfl) <| .cons (.bN 9 rfl rfl rfl rfl rfl rfl) <| .cons (.li 79 8 0 [.tmp 89] rfl rfl rfl rfl rfl rfl) <| .cons (St1.appN (k' := 191) (e := 79) (sz := 8) (by' := 152) rfl rfl rfl rfl rfl (by kernel_rfl) rfl rfl rfl (by simp) (by first | (simp [dR]; done) | (simp [dR]; omega)) rfl rfl) ?_
      refine .cons (.fB 1 0 false rfl rfl rfl) <| .cons (.sT 1 false rfl rfl rfl rfl rfl rfl rfl) <| .nil <| ks_n <| .region <| .cons (.fB 1 0 false rfl rfl rfl) <| .cons (.b1 1 rfl rfl rfl rfl rfl rfl) <| .cons (.mv rfl rfl) <| .cons (.bN 2 rfl rfl rfl rfl rfl rfl) <| .cons (.xB 65 2 48 (i := ps.length) rfl rfl rfl rfl rfl (by first | omega | (simp; done) | (simp; omega)) (by first | omega | (simp; done) | (simp; omega))) ?_
      refine .cons (.sT 2 true rfl rfl rfl rfl (row_lastP _ _) rfl rfl) <| .nil <| kb_n <| ks_n <| .seq <| .region <| .cons (.bN 2 rfl rfl rfl rfl rfl rfl) <| .cons (.sT 2 true rfl rfl rfl rfl rfl rfl rfl) <| .nil <| ks_n <| .ret ?_
      refine kf_wret [(.t 4, .v (.o (.c (.box 150 2 0 0)))), (.b 0, .b 65 2 (dR (ps.map rP) ++ [[.d (dLs ns), .own 100 9 [(psV s).1].length]])), (.u 0, .u), (.b 100, .b 79 9 (dR ([(psV s).1].map rS))), (.u 100, .u), (.b 150, .b 45 2 [[.d (dRs a), .own 0 2 (ps.length + 1)]]), (.u 150, .u)] (Wk.keep [(0, 0), (100, 191), (150, 104)] rfl rfl ⟨ks rfl (.c .bx), kb 0 rfl (.eq (set_lastP _ _ _) rfl (.app (.dat _ _ (ps.map rP) rfl rfl) (.cons (.cons (.d _ _ rfl) (.cons (.own _ _ _ _ _ (by first | decide | simp) (by first | rfl | omega | (simp; done))) .nil)) .nil))), kb 191 rfl (.dt rfl rfl), kb 104 rfl (.cons (.cons .dt (.cons .ow Ctos.nil)) .nil), trivial⟩) rfl ?_ (two_box rfl rfl)
      rfl
     ·skip
      omega
   ·skip
    omega

theorem line_s1 {s : ByteArray} (hs : s.size ≤ 1048576) (hk : kdL s = 3) (a : List Arr) (ha : a.length ≤ 100) (ps : List Prt) (hps : ps.length ≤ 100) (ns : List Lp) (b : List Stm) (hbl : b.length ≤ 100) : Fn Try.prog 43 (hbPB 0 1 ps ns b) [.agg [.d (dRs a), .own 0 2 (ps.length + 1)], st1 s] (.o (.agg [.d (dRs a), .own 0 2 (ps.length + 1)])) (hbPB 0 1000 ps ns (b ++ [(psV s).1])) := by
 obtain ⟨ws, hws⟩ : ∃ ws, wrdV s = ws := ⟨_, rfl⟩
 have hwb := wrdV_bd s
 have hno := kdL_no0 (s := s) (by rw [hk]; decide)
 rw [hws] at hno hwb
 have hn1 := kdL_no1 (s := s) (by rw [hk]; decide)
 have hn2 := kdL_3 hk
 rw [hws] at hn2
 refine Fn.of_code Try.func43 rfl rfl (hbPB_HB _ _ _ _ _) rfl rfl (hbPB_HB _ _ _ _ _) rfl (pn_num ⟨_, _, _, rfl⟩ rfl) ?_
 refine .seq <| .region <| .cons (St1.boxB (k' := 102) rfl rfl rfl rfl rfl rfl rfl) <| .cons (.al 104 [.slice none 0 0, .slice none 0 0] rfl rfl rfl) <| .nil <| ks_n <| .seq <| .region <| .cons (.mv rfl rfl) <| .cons (.cP [.tmp 11] rfl rfl rfl rfl (show Fn Try.prog 53 [] [st1 s] (.o (vD (dTxs ws))) [] from by rw [← hws]; exact l16Words_fn hs) rfl) ?_
 refine .cons (.asg rfl rfl) <| .nil <| ks_n <| .seq <| .region <| .cons (.fB 1 0 false rfl rfl rfl) <| .cons (.b1 1 rfl rfl rfl rfl rfl rfl) <| .cons (.lB 65 2 48 rfl rfl rfl rfl) <| .cons (.sb rfl rfl rfl) <| .cons (.asg rfl rfl) <| .nil <| ks_n <| .seq <| .block <| .seq <| .region <| .cons (.mv rfl rfl) <| .cons (.ln 9 1 16 rfl rfl rfl) <| .cons (.gt rfl rfl rfl) <| .cons (.mv rfl rfl) ?_
 refine .cD 21 rfl (fun g21 => ?_) (fun g21 => ?_)
 ·skip
  refine .cons (.gT rfl rfl rfl (.mv rfl rfl)) <| .cons (.gT rfl rfl rfl (.xL 9 1 16 (i := 0) rfl rfl rfl rfl rfl (map_at (getD_at2 (d := ⟨#[]⟩) (by omega))))) ?_
  refine .cons (.gT rfl rfl rfl (.l1 1 rfl rfl)) <| .cons (.gT rfl rfl rfl (St1.eqS rfl rfl rfl)) <| .cons (.pT rfl rfl rfl) <| .cons (.asg rfl rfl) <| .nil <| ks_n ?_
  refine ACode.condT rfl (fun h17 => ?_) (fun h17 => ?_)
  ·try simp only [zs1, zs2, zs3, zs4, zs5, zs6, zs7] at h17
   exfalso; simp_all
  ·try simp only [zs1, zs2, zs3, zs4, zs5, zs6, zs7] at h17
   refine .seq <| .region <| .cons (.mv rfl rfl) <| .cons (St1.eqS rfl rfl rfl) <| .cons (.asg rfl rfl) <| .nil <| ks_n ?_
   refine ACode.condT rfl (fun h34 => ?_) (fun h34 => ?_)
   ·try simp only [zs1, zs2, zs3, zs4, zs5, zs6, zs7] at h34
    exfalso; simp_all
   ·try simp only [zs1, zs2, zs3, zs4, zs5, zs6, zs7] at h34
    refine .seq <| .region <| .cons (.mv rfl rfl) <| .cons (.ge rfl rfl rfl) <| .cons (.mv rfl rfl) ?_
    refine .cD 46 rfl (fun g46 => ?_) (fun g46 => ?_)
    ·skip
     refine .cons (.gT rfl rfl rfl (.mv rfl rfl)) <| .cons (.gT rfl rfl rfl (.ln 9 1 16 rfl rfl rfl)) <| .cons (.gT rfl rfl rfl (.gt rfl rfl rfl)) <| .cons (.pT rfl rfl rfl) <| .cons (.mv rfl rfl) ?_
     refine AOps.cases 51 _ rfl (fun g51 => ?_) (fun g51 => ?_)
     ·try simp only [zs1, zs2, zs3, zs4, zs5, zs6, zs7] at g51
      refine .cons (.gT rfl rfl rfl (.mv rfl rfl)) <| .cons (.gT rfl rfl rfl (.xL 9 1 16 (i := 0) rfl rfl rfl rfl rfl (map_at (getD_at2 (d := ⟨#[]⟩) (by omega))))) ?_
      refine .cons (.gT rfl rfl rfl (.l1 1 rfl rfl)) <| .cons (.gT rfl rfl rfl (St1.eqS rfl rfl rfl)) <| .cons (.pT rfl rfl rfl) <| .cons (.asg rfl rfl) <| .nil <| ks_n ?_
      refine ACode.condT rfl (fun h43 => ?_) (fun h43 => ?_)
      ·try simp only [zs1, zs2, zs3, zs4, zs5, zs6, zs7] at h43
       exfalso; simp_all
      ·try simp only [zs1, zs2, zs3, zs4, zs5, zs6, zs7] at h43
       refine .seq <| .region <| .cons (.mv rfl rfl) <| .cons (.ge rfl rfl rfl) <| .cons (.asg rfl rfl) <| .nil <| ks_n ?_
       refine .cD rfl (fun h74 => ?_) (fun h74 => ?_)
       ·skip
        refine .seq <| .region <| .cons (.fB 1 0 false rfl rfl rfl) <| .cons (.b1 1 rfl rfl rfl rfl rfl rfl) <| .cons (.mv rfl rfl) <| .cons (.xB 65 2 48 (i := ps.length) rfl rfl rfl rfl rfl (by first | omega | (simp; done) | (simp; omega)) (by first | omega | (simp; done) | (simp; omega))) ?_
        refine .cons (.bN 2 rfl rfl rfl rfl (row_lastP _ _) rfl) <| .cons (.al 108 [.slice none 0 0, .slice none 0 0] rfl rfl rfl) <| .cons (.sT 2 true rfl rfl rfl rfl rfl rfl rfl) <| .nil <| ks_n <| .seq <| .region <| .cons (.mv rfl rfl) <| .cons (.cP [.tmp 83] rfl rfl rfl rfl (psV_fn hs) rfl) ?_
        refine .cons (.mv rfl rfl) <| .cons (.ex rfl rfl rfl) <| .cons (.ex rfl rfl rfl) <| .cons (.al 109 [.string ByteArray.empty, .slice none 0 0, .int .i64 0, .int .i64 0, .slice none 0 0, .int .i64 0, .string ByteArray.empty, .slice none 0 0, .slice none 0 0] rfl rfl rfl) <| .cons (.sT 9 true rfl rfl rfl rfl rfl rfl rfl) <| .cons (.asg rfl rfl) <| .nil <| ks_n <| .seq <| .region <| .cons (.fB 1 0 false rfl rfl rfl) <| .cons (.b1 1 rfl rfl rfl rfl rfl rfl) <| .cons (.bN 9 rfl rfl rfl rfl rfl rfl) <| .cons (.li 79 8 0 [.tmp 89] rfl rfl rfl rfl rfl rfl) <| .cons (St1.appB (k' := 1091) (e := 79) (sz := 8) (by' := 152) rfl rfl rfl rfl rfl (by kernel_rfl) rfl rfl rfl rfl (by simp [dR]) (by first | (simp [dR]; done) | (simp [dR]; omega)) rfl rfl rfl) ?_
        refine .cons (.fB 1 0 false rfl rfl rfl) <| .cons (.sT 1 false rfl rfl rfl rfl rfl rfl rfl) <| .nil <| ks_n <| .region <| .cons (.fB 1 0 false rfl rfl rfl) <| .cons (.b1 1 rfl rfl rfl rfl rfl rfl) <| .cons (.mv rfl rfl) <| .cons (.bN 2 rfl rfl rfl rfl rfl rfl) <| .cons (.xB 65 2 48 (i := ps.length) rfl rfl rfl rfl rfl (by first | omega | (simp; done) | (simp; omega)) (by first | omega | (simp; done) | (simp; omega))) ?_
        refine .cons (.sT 2 true rfl rfl rfl rfl (row_lastP _ _) rfl rfl) <| .nil <| kb_n <| ks_n <| .seq <| .region <| .cons (.bN 2 rfl rfl rfl rfl rfl rfl) <| .cons (.sT 2 true rfl rfl rfl rfl rfl rfl rfl) <| .nil <| ks_n <| .ret ?_
        refine kf_wret [(.t 4, .v (.o (.c (.box 150 2 0 0)))), (.b 0, .b 65 2 (dR (ps.map rP) ++ [[.d (dLs ns), .own 1000 9 (b ++ [(psV s).1]).length]])), (.u 0, .u), (.b 1000, .b 79 9 (dR ((b ++ [(psV s).1]).map rS))), (.u 1000, .u), (.b 150, .b 45 2 [[.d (dRs a), .own 0 2 (ps.length + 1)]]), (.u 150, .u)] (Wk.keep [(0, 0), (1000, 1091), (150, 104)] rfl rfl ⟨ks rfl (.c .bx), kb 0 rfl (.eq (set_lastP _ _ _) rfl (.app (.dat _ _ (ps.map rP) rfl rfl) (.cons (.cons (.d _ _ rfl) (.cons (.own _ _ _ _ _ (by first | decide | simp) (by first | rfl | omega | (simp; done))) .nil)) .nil))), kb 1091 rfl (.dt rfl (by rw [List.map_append, dR_app]; rfl)), kb 104 rfl (.cons (.cons .dt (.cons .ow Ctos.nil)) .nil), trivial⟩) rfl ?_ (two_box rfl rfl)
        rfl
       ·skip
        omega
     ·try simp only [zs1, zs2, zs3, zs4, zs5, zs6, zs7] at g51
      refine .cons (.gF rfl rfl rfl) <| .cons (.gF rfl rfl rfl) <| .cons (.gF rfl rfl rfl) <| .cons (.gF rfl rfl rfl) <| .cons (.pF rfl rfl rfl) <| .cons (.asg rfl rfl) <| .nil <| ks_n ?_
      refine ACode.condT rfl (fun h => by first | (cases h; done) | (simp [*] at h; done) | (exfalso; simp_all; done)) (fun _ => ?_)
      refine .seq <| .region <| .cons (.mv rfl rfl) <| .cons (.ge rfl rfl rfl) <| .cons (.asg rfl rfl) <| .nil <| ks_n ?_
      refine .cD rfl (fun h74 => ?_) (fun h74 => ?_)
      ·skip
       refine .seq <| .region <| .cons (.fB 1 0 false rfl rfl rfl) <| .cons (.b1 1 rfl rfl rfl rfl rfl rfl) <| .cons (.mv rfl rfl) <| .cons (.xB 65 2 48 (i := ps.length) rfl rfl rfl rfl rfl (by first | omega | (simp; done) | (simp; omega)) (by first | omega | (simp; done) | (simp; omega))) ?_
       refine .cons (.bN 2 rfl rfl rfl rfl (row_lastP _ _) rfl) <| .cons (.al 108 [.slice none 0 0, .slice none 0 0] rfl rfl rfl) <| .cons (.sT 2 true rfl rfl rfl rfl rfl rfl rfl) <| .nil <| ks_n <| .seq <| .region <| .cons (.mv rfl rfl) <| .cons (.cP [.tmp 83] rfl rfl rfl rfl (psV_fn hs) rfl) ?_
       refine .cons (.mv rfl rfl) <| .cons (.ex rfl rfl rfl) <| .cons (.ex rfl rfl rfl) <| .cons (.al 109 [.string ByteArray.empty, .slice none 0 0, .int .i64 0, .int .i64 0, .slice none 0 0, .int .i64 0, .string ByteArray.empty, .slice none 0 0, .slice none 0 0] rfl rfl rfl) <| .cons (.sT 9 true rfl rfl rfl rfl rfl rfl rfl) <| .cons (.asg rfl rfl) <| .nil <| ks_n <| .seq <| .region <| .cons (.fB 1 0 false rfl rfl rfl) <| .cons (.b1 1 rfl rfl rfl rfl rfl rfl) <| .cons (.bN 9 rfl rfl rfl rfl rfl rfl) <| .cons (.li 79 8 0 [.tmp 89] rfl rfl rfl rfl rfl rfl) <| .cons (St1.appB (k' := 1091) (e := 79) (sz := 8) (by' := 152) rfl rfl rfl rfl rfl (by kernel_rfl) rfl rfl rfl rfl (by simp [dR]) (by first | (simp [dR]; done) | (simp [dR]; omega)) rfl rfl rfl) ?_
       refine .cons (.fB 1 0 false rfl rfl rfl) <| .cons (.sT 1 false rfl rfl rfl rfl rfl rfl rfl) <| .nil <| ks_n <| .region <| .cons (.fB 1 0 false rfl rfl rfl) <| .cons (.b1 1 rfl rfl rfl rfl rfl rfl) <| .cons (.mv rfl rfl) <| .cons (.bN 2 rfl rfl rfl rfl rfl rfl) <| .cons (.xB 65 2 48 (i := ps.length) rfl rfl rfl rfl rfl (by first | omega | (simp; done) | (simp; omega)) (by first | omega | (simp; done) | (simp; omega))) ?_
       refine .cons (.sT 2 true rfl rfl rfl rfl (row_lastP _ _) rfl rfl) <| .nil <| kb_n <| ks_n <| .seq <| .region <| .cons (.bN 2 rfl rfl rfl rfl rfl rfl) <| .cons (.sT 2 true rfl rfl rfl rfl rfl rfl rfl) <| .nil <| ks_n <| .ret ?_
       refine kf_wret [(.t 4, .v (.o (.c (.box 150 2 0 0)))), (.b 0, .b 65 2 (dR (ps.map rP) ++ [[.d (dLs ns), .own 1000 9 (b ++ [(psV s).1]).length]])), (.u 0, .u), (.b 1000, .b 79 9 (dR ((b ++ [(psV s).1]).map rS))), (.u 1000, .u), (.b 150, .b 45 2 [[.d (dRs a), .own 0 2 (ps.length + 1)]]), (.u 150, .u)] (Wk.keep [(0, 0), (1000, 1091), (150, 104)] rfl rfl ⟨ks rfl (.c .bx), kb 0 rfl (.eq (set_lastP _ _ _) rfl (.app (.dat _ _ (ps.map rP) rfl rfl) (.cons (.cons (.d _ _ rfl) (.cons (.own _ _ _ _ _ (by first | decide | simp) (by first | rfl | omega | (simp; done))) .nil)) .nil))), kb 1091 rfl (.dt rfl (by rw [List.map_append, dR_app]; rfl)), kb 104 rfl (.cons (.cons .dt (.cons .ow Ctos.nil)) .nil), trivial⟩) rfl ?_ (two_box rfl rfl)
       rfl
      ·skip
       omega
    ·skip
     omega
 ·skip
  refine .cons (.gF rfl rfl rfl) <| .cons (.gF rfl rfl rfl) <| .cons (.gF rfl rfl rfl) <| .cons (.gF rfl rfl rfl) <| .cons (.pF rfl rfl rfl) <| .cons (.asg rfl rfl) <| .nil <| ks_n ?_
  refine ACode.condT rfl (fun h => by first | (cases h; done) | (simp [*] at h; done) | (exfalso; simp_all; done)) (fun _ => ?_)
  refine .seq <| .region <| .cons (.mv rfl rfl) <| .cons (St1.eqS rfl rfl rfl) <| .cons (.asg rfl rfl) <| .nil <| ks_n ?_
  refine ACode.condT rfl (fun h34 => ?_) (fun h34 => ?_)
  ·try simp only [zs1, zs2, zs3, zs4, zs5, zs6, zs7] at h34
   exfalso; simp_all
  ·try simp only [zs1, zs2, zs3, zs4, zs5, zs6, zs7] at h34
   refine .seq <| .region <| .cons (.mv rfl rfl) <| .cons (.ge rfl rfl rfl) <| .cons (.mv rfl rfl) ?_
   refine .cD 46 rfl (fun g46 => ?_) (fun g46 => ?_)
   ·skip
    refine .cons (.gT rfl rfl rfl (.mv rfl rfl)) <| .cons (.gT rfl rfl rfl (.ln 9 1 16 rfl rfl rfl)) <| .cons (.gT rfl rfl rfl (.gt rfl rfl rfl)) <| .cons (.pT rfl rfl rfl) <| .cons (.mv rfl rfl) ?_
    refine AOps.cases 51 _ rfl (fun g51 => ?_) (fun g51 => ?_)
    ·try simp only [zs1, zs2, zs3, zs4, zs5, zs6, zs7] at g51
     refine .cons (.gT rfl rfl rfl (.mv rfl rfl)) <| .cons (.gT rfl rfl rfl (.xL 9 1 16 (i := 0) rfl rfl rfl rfl rfl (map_at (getD_at2 (d := ⟨#[]⟩) (by omega))))) ?_
     refine .cons (.gT rfl rfl rfl (.l1 1 rfl rfl)) <| .cons (.gT rfl rfl rfl (St1.eqS rfl rfl rfl)) <| .cons (.pT rfl rfl rfl) <| .cons (.asg rfl rfl) <| .nil <| ks_n ?_
     refine ACode.condT rfl (fun h43 => ?_) (fun h43 => ?_)
     ·try simp only [zs1, zs2, zs3, zs4, zs5, zs6, zs7] at h43
      exfalso; simp_all
     ·try simp only [zs1, zs2, zs3, zs4, zs5, zs6, zs7] at h43
      refine .seq <| .region <| .cons (.mv rfl rfl) <| .cons (.ge rfl rfl rfl) <| .cons (.asg rfl rfl) <| .nil <| ks_n ?_
      refine .cD rfl (fun h74 => ?_) (fun h74 => ?_)
      ·skip
       refine .seq <| .region <| .cons (.fB 1 0 false rfl rfl rfl) <| .cons (.b1 1 rfl rfl rfl rfl rfl rfl) <| .cons (.mv rfl rfl) <| .cons (.xB 65 2 48 (i := ps.length) rfl rfl rfl rfl rfl (by first | omega | (simp; done) | (simp; omega)) (by first | omega | (simp; done) | (simp; omega))) ?_
       refine .cons (.bN 2 rfl rfl rfl rfl (row_lastP _ _) rfl) <| .cons (.al 108 [.slice none 0 0, .slice none 0 0] rfl rfl rfl) <| .cons (.sT 2 true rfl rfl rfl rfl rfl rfl rfl) <| .nil <| ks_n <| .seq <| .region <| .cons (.mv rfl rfl) <| .cons (.cP [.tmp 83] rfl rfl rfl rfl (psV_fn hs) rfl) ?_
       refine .cons (.mv rfl rfl) <| .cons (.ex rfl rfl rfl) <| .cons (.ex rfl rfl rfl) <| .cons (.al 109 [.string ByteArray.empty, .slice none 0 0, .int .i64 0, .int .i64 0, .slice none 0 0, .int .i64 0, .string ByteArray.empty, .slice none 0 0, .slice none 0 0] rfl rfl rfl) <| .cons (.sT 9 true rfl rfl rfl rfl rfl rfl rfl) <| .cons (.asg rfl rfl) <| .nil <| ks_n <| .seq <| .region <| .cons (.fB 1 0 false rfl rfl rfl) <| .cons (.b1 1 rfl rfl rfl rfl rfl rfl) <| .cons (.bN 9 rfl rfl rfl rfl rfl rfl) <| .cons (.li 79 8 0 [.tmp 89] rfl rfl rfl rfl rfl rfl) <| .cons (St1.appB (k' := 1091) (e := 79) (sz := 8) (by' := 152) rfl rfl rfl rfl rfl (by kernel_rfl) rfl rfl rfl rfl (by simp [dR]) (by first | (simp [dR]; done) | (simp [dR]; omega)) rfl rfl rfl) ?_
       refine .cons (.fB 1 0 false rfl rfl rfl) <| .cons (.sT 1 false rfl rfl rfl rfl rfl rfl rfl) <| .nil <| ks_n <| .region <| .cons (.fB 1 0 false rfl rfl rfl) <| .cons (.b1 1 rfl rfl rfl rfl rfl rfl) <| .cons (.mv rfl rfl) <| .cons (.bN 2 rfl rfl rfl rfl rfl rfl) <| .cons (.xB 65 2 48 (i := ps.length) rfl rfl rfl rfl rfl (by first | omega | (simp; done) | (simp; omega)) (by first | omega | (simp; done) | (simp; omega))) ?_
       refine .cons (.sT 2 true rfl rfl rfl rfl (row_lastP _ _) rfl rfl) <| .nil <| kb_n <| ks_n <| .seq <| .region <| .cons (.bN 2 rfl rfl rfl rfl rfl rfl) <| .cons (.sT 2 true rfl rfl rfl rfl rfl rfl rfl) <| .nil <| ks_n <| .ret ?_
       refine kf_wret [(.t 4, .v (.o (.c (.box 150 2 0 0)))), (.b 0, .b 65 2 (dR (ps.map rP) ++ [[.d (dLs ns), .own 1000 9 (b ++ [(psV s).1]).length]])), (.u 0, .u), (.b 1000, .b 79 9 (dR ((b ++ [(psV s).1]).map rS))), (.u 1000, .u), (.b 150, .b 45 2 [[.d (dRs a), .own 0 2 (ps.length + 1)]]), (.u 150, .u)] (Wk.keep [(0, 0), (1000, 1091), (150, 104)] rfl rfl ⟨ks rfl (.c .bx), kb 0 rfl (.eq (set_lastP _ _ _) rfl (.app (.dat _ _ (ps.map rP) rfl rfl) (.cons (.cons (.d _ _ rfl) (.cons (.own _ _ _ _ _ (by first | decide | simp) (by first | rfl | omega | (simp; done))) .nil)) .nil))), kb 1091 rfl (.dt rfl (by rw [List.map_append, dR_app]; rfl)), kb 104 rfl (.cons (.cons .dt (.cons .ow Ctos.nil)) .nil), trivial⟩) rfl ?_ (two_box rfl rfl)
       rfl
      ·skip
       omega
    ·try simp only [zs1, zs2, zs3, zs4, zs5, zs6, zs7] at g51
     refine .cons (.gF rfl rfl rfl) <| .cons (.gF rfl rfl rfl) <| .cons (.gF rfl rfl rfl) <| .cons (.gF rfl rfl rfl) <| .cons (.pF rfl rfl rfl) <| .cons (.asg rfl rfl) <| .nil <| ks_n ?_
     refine ACode.condT rfl (fun h => by first | (cases h; done) | (simp [*] at h; done) | (exfalso; simp_all; done)) (fun _ => ?_)
     refine .seq <| .region <| .cons (.mv rfl rfl) <| .cons (.ge rfl rfl rfl) <| .cons (.asg rfl rfl) <| .nil <| ks_n ?_
     refine .cD rfl (fun h74 => ?_) (fun h74 => ?_)
     ·skip
      refine .seq <| .region <| .cons (.fB 1 0 false rfl rfl rfl) <| .cons (.b1 1 rfl rfl rfl rfl rfl rfl) <| .cons (.mv rfl rfl) <| .cons (.xB 65 2 48 (i := ps.length) rfl rfl rfl rfl rfl (by first | omega | (simp; done) | (simp; omega)) (by first | omega | (simp; done) | (simp; omega))) ?_
      refine .cons (.bN 2 rfl rfl rfl rfl (row_lastP _ _) rfl) <| .cons (.al 108 [.slice none 0 0, .slice none 0 0] rfl rfl rfl) <| .cons (.sT 2 true rfl rfl rfl rfl rfl rfl rfl) <| .nil <| ks_n <| .seq <| .region <| .cons (.mv rfl rfl) <| .cons (.cP [.tmp 83] rfl rfl rfl rfl (psV_fn hs) rfl) ?_
      refine .cons (.mv rfl rfl) <| .cons (.ex rfl rfl rfl) <| .cons (.ex rfl rfl rfl) <| .cons (.al 109 [.string ByteArray.empty, .slice none 0 0, .int .i64 0, .int .i64 0, .slice none 0 0, .int .i64 0, .string ByteArray.empty, .slice none 0 0, .slice none 0 0] rfl rfl rfl) <| .cons (.sT 9 true rfl rfl rfl rfl rfl rfl rfl) <| .cons (.asg rfl rfl) <| .nil <| ks_n <| .seq <| .region <| .cons (.fB 1 0 false rfl rfl rfl) <| .cons (.b1 1 rfl rfl rfl rfl rfl rfl) <| .cons (.bN 9 rfl rfl rfl rfl rfl rfl) <| .cons (.li 79 8 0 [.tmp 89] rfl rfl rfl rfl rfl rfl) <| .cons (St1.appB (k' := 1091) (e := 79) (sz := 8) (by' := 152) rfl rfl rfl rfl rfl (by kernel_rfl) rfl rfl rfl rfl (by simp [dR]) (by first | (simp [dR]; done) | (simp [dR]; omega)) rfl rfl rfl) ?_
      refine .cons (.fB 1 0 false rfl rfl rfl) <| .cons (.sT 1 false rfl rfl rfl rfl rfl rfl rfl) <| .nil <| ks_n <| .region <| .cons (.fB 1 0 false rfl rfl rfl) <| .cons (.b1 1 rfl rfl rfl rfl rfl rfl) <| .cons (.mv rfl rfl) <| .cons (.bN 2 rfl rfl rfl rfl rfl rfl) <| .cons (.xB 65 2 48 (i := ps.length) rfl rfl rfl rfl rfl (by first | omega | (simp; done) | (simp; omega)) (by first | omega | (simp; done) | (simp; omega))) ?_
      refine .cons (.sT 2 true rfl rfl rfl rfl (row_lastP _ _) rfl rfl) <| .nil <| kb_n <| ks_n <| .seq <| .region <| .cons (.bN 2 rfl rfl rfl rfl rfl rfl) <| .cons (.sT 2 true rfl rfl rfl rfl rfl rfl rfl) <| .nil <| ks_n <| .ret ?_
      refine kf_wret [(.t 4, .v (.o (.c (.box 150 2 0 0)))), (.b 0, .b 65 2 (dR (ps.map rP) ++ [[.d (dLs ns), .own 1000 9 (b ++ [(psV s).1]).length]])), (.u 0, .u), (.b 1000, .b 79 9 (dR ((b ++ [(psV s).1]).map rS))), (.u 1000, .u), (.b 150, .b 45 2 [[.d (dRs a), .own 0 2 (ps.length + 1)]]), (.u 150, .u)] (Wk.keep [(0, 0), (1000, 1091), (150, 104)] rfl rfl ⟨ks rfl (.c .bx), kb 0 rfl (.eq (set_lastP _ _ _) rfl (.app (.dat _ _ (ps.map rP) rfl rfl) (.cons (.cons (.d _ _ rfl) (.cons (.own _ _ _ _ _ (by first | decide | simp) (by first | rfl | omega | (simp; done))) .nil)) .nil))), kb 1091 rfl (.dt rfl (by rw [List.map_append, dR_app]; rfl)), kb 104 rfl (.cons (.cons .dt (.cons .ow Ctos.nil)) .nil), trivial⟩) rfl ?_ (two_box rfl rfl)
      rfl
     ·skip
      omega
   ·skip
    omega
end Go.Proofs.Ytlelonbakckkgaa
