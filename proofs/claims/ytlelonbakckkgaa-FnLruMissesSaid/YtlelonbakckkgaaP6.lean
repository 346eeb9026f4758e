/- Part 6 of 6 of the proof: laws on memory and data, then what the functions compute, in the order in which they build on each other; conditions: those that each theorem names. -/
import Derived.Test.YtlelonbakckkgaaP5
set_option maxRecDepth 100000
set_option maxHeartbeats 1600000

namespace Go.Proofs.Ytlelonbakckkgaa
set_option linter.unusedVariables false
set_option linter.unusedSimpArgs false
open Go.RowKit
/-- Programs read from lines that come in order: arrays, then parts of loops and statements. -/
def prs : List ByteArray → Nat → List Arr → List Prt → List Lp → List Stm → Option Prg
  | [], 4, a, ps, ns, b => some (a, ps ++ [(ns, b)])
  | [], _, _, _, _, _ => none
  | l :: r, 0, a, _, _, _ => if kdL l = 0 then prs r 1 (a ++ [ar4 (wrdV l)]) [] [] [] else none
  | l :: r, 1, a, _, _, _ => if kdL l = 0 then prs r 1 (a ++ [ar4 (wrdV l)]) [] [] [] else if kdL l = 1 then prs r 2 a [] [] [] else none
  | l :: r, 2, a, ps, _, _ => if kdL l = 2 then prs r 3 a ps [lnV l] [] else none
  | l :: r, 3, a, ps, ns, _ => if kdL l = 2 then prs r 3 a ps (ns ++ [lnV l]) [] else if kdL l = 3 then prs r 4 a ps ns [(psV l).1] else none
  | l :: r, 4, a, ps, ns, b => if kdL l = 3 then prs r 4 a ps ns (b ++ [(psV l).1]) else if kdL l = 1 then prs r 2 a (ps ++ [(ns, b)]) [] [] else none
  | _ :: _, _, _, _, _, _ => none
section
variable {l : ByteArray} {r : List ByteArray} {a : List Arr} {ps : List Prt} {ns : List Lp} {b : List Stm} {g : Prg}
theorem prs_0 (h : prs (l :: r) 0 a ps ns b = some g) : kdL l = 0 ∧ prs r 1 (a ++ [ar4 (wrdV l)]) [] [] [] = some g := by
  rw [prs] at h; split at h
  · rename_i hk; exact ⟨hk, h⟩
  · cases h
theorem prs_1 (h : prs (l :: r) 1 a ps ns b = some g) : (kdL l = 0 ∧ prs r 1 (a ++ [ar4 (wrdV l)]) [] [] [] = some g) ∨ (kdL l = 1 ∧ prs r 2 a [] [] [] = some g) := by
  rw [prs] at h; split at h
  · rename_i hk; exact .inl ⟨hk, h⟩
  · split at h
    · rename_i hk; exact .inr ⟨hk, h⟩
    · cases h
theorem prs_2 (h : prs (l :: r) 2 a ps ns b = some g) : kdL l = 2 ∧ prs r 3 a ps [lnV l] [] = some g := by
  rw [prs] at h; split at h
  · rename_i hk; exact ⟨hk, h⟩
  · cases h
theorem prs_3 (h : prs (l :: r) 3 a ps ns b = some g) : (kdL l = 2 ∧ prs r 3 a ps (ns ++ [lnV l]) [] = some g) ∨ (kdL l = 3 ∧ prs r 4 a ps ns [(psV l).1] = some g) := by
  rw [prs] at h; split at h
  · rename_i hk; exact .inl ⟨hk, h⟩
  · split at h
    · rename_i hk; exact .inr ⟨hk, h⟩
    · cases h
theorem prs_4 (h : prs (l :: r) 4 a ps ns b = some g) : (kdL l = 3 ∧ prs r 4 a ps ns (b ++ [(psV l).1]) = some g) ∨ (kdL l = 1 ∧ prs r 2 a (ps ++ [(ns, b)]) [] [] = some g) := by
  rw [prs] at h; split at h
  · rename_i hk; exact .inl ⟨hk, h⟩
  · split at h
    · rename_i hk; exact .inr ⟨hk, h⟩
    · cases h
theorem prs_e4 (h : prs [] 4 a ps ns b = some g) : g = (a, ps ++ [(ns, b)]) := by rw [prs] at h; cases h; rfl
theorem prs_e0 (h : prs [] 0 a ps ns b = some g) : False := by simp [prs] at h
theorem prs_e1 (h : prs [] 1 a ps ns b = some g) : False := by simp [prs] at h
theorem prs_e2 (h : prs [] 2 a ps ns b = some g) : False := by simp [prs] at h
theorem prs_e3 (h : prs [] 3 a ps ns b = some g) : False := by simp [prs] at h
end
/-- The program that is read, and whether its text is the one given. -/
def pgV (s : ByteArray) (g : Prg) : Prg × Bool := if sEq s ⟨#[]⟩ = true ∨ sEq (fmtG g) s = false then (([], []), false) else (g, true)

theorem pgm_fn {s : ByteArray} (hs : s.size ≤ 2000) (hl : (cutV s 10).length ≤ 42) (hl2 : 2 ≤ (cutV s 10).length) {g : Prg} (hp0 : prs ((cutV s 10).dropLast.drop 1) 0 [] [] [] [] = some g) (hz : szG g ≤ 1073741824) : Fn Try.prog 36 [] [st1 s] (.tup [ad (rG (pgV s g).1), bo1 (pgV s g).2]) [] := by
 have hcb := cutV_bd s 10
 obtain ⟨ls, hls⟩ : ∃ ls, cutV s 10 = ls := ⟨_, rfl⟩
 rw [hls] at hcb hl hl2 hp0
 obtain ⟨ms, hdl⟩ : ∃ ms, ls.dropLast = ms := ⟨_, rfl⟩
 have hml : ms.length = ls.length - 1 := by rw [← hdl, List.length_dropLast]
 rw [hdl] at hp0
 have hp := hp0
 refine Fn.code0 Try.func36 rfl rfl rfl rfl ?_
 refine .seq <| .region <| .cons (.al 102 [.slice none 0 0, .slice none 0 0] rfl rfl rfl) <| .cons (.asg rfl rfl) <| .nil <| ks_n <| .seq <| .region <| .cons (.mv rfl rfl) <| .cons (.cP [.tmp 7, .const (.int .u8 (10))] rfl rfl rfl rfl (show Fn Try.prog 42 [] [st1 s, .c (.d (.val (.int .u8 10)))] (.o (vD (dTxs ls))) [] from by rw [← hls]; exact l16Cut_fn (by omega)) rfl) ?_
 refine .cons (.asg rfl rfl) <| .nil <| ks_n <| .seq <| .region <| .cons (.bu [] [(0, 1), (1, 1)] [.slice none 0 0, .slice none 0 0] rfl rfl rfl rfl rfl) <| .cons (.al 105 [.slice none 0 0, .slice none 0 0] rfl rfl rfl) <| .cons (.sT 2 true rfl rfl rfl rfl rfl rfl rfl) <| .nil <| ks_n <| .seq <| .seq <| .region <| .cons (.mv rfl rfl) <| .cons (.ln 9 1 16 rfl rfl rfl) <| .cons (.gt rfl rfl rfl) <| .nil <| ks_n ?_
 refine .cD rfl (fun h12 => ?_) (fun h12 => ?_)
 ·skip
  omega
 ·skip
  refine .skip <| ks_n <| .seq <| .seq <| .region <| .cons (.asg rfl rfl) <| .nil <| ks_n <| .block ?_
  refine .loopK (fun m σ => (∃ i : Nat, m = ms.length - i ∧ (i ≤ ms.length ∧ 1 ≤ i) ∧ (prs (ms.drop i) 0 [] [] [] [] = some g) ∧ σ = [(.t 0, .v (.o (st1 s))), (.t 2, .v (.o (.c (.box 110 2 0 0)))), (.t 3, .v (.o (bo1 false))), (.t 4, .v (.o (vD (dTxs ls)))), (.t 5, .v (.o (.c (.box 111 2 0 0)))), (.t 6, .v (.o (nat1 (i : Nat)))), (.b 110, .b 45 2 [[.d (.val (.slice none 0 0)), .d (.val (.slice none 0 0))]]), (.u 110, .u), (.b 111, .b 45 2 [[.d (.val (.slice none 0 0)), .d (.val (.slice none 0 0))]]), (.u 111, .u)]) ∨ (∃ (i : Nat) (a : List Arr), m = ms.length - i ∧ (i ≤ ms.length ∧ 1 ≤ i) ∧ (prs (ms.drop i) 1 a [] [] [] = some g) ∧ (a.length ≤ i) ∧ σ = [(.t 0, .v (.o (st1 s))), (.t 2, .v (.o (.c (.box 110 2 0 0)))), (.t 3, .v (.o (bo1 false))), (.t 4, .v (.o (vD (dTxs ls)))), (.t 5, .v (.o (.c (.box 111 2 0 0)))), (.t 6, .v (.o (nat1 (i : Nat)))), (.b 110, .b 45 2 [[.d (.val (.slice none 0 0)), .d (.val (.slice none 0 0))]]), (.u 110, .u), (.b 112, .b 88 2 (dR (a.map rR))), (.u 112, .u), (.b 111, .b 45 2 [[.own 112 2 (a.length), .d (.val (.slice none 0 0))]]), (.u 111, .u)]) ∨ (∃ (i : Nat) (a : List Arr) (ps : List Prt), m = ms.length - i ∧ (i ≤ ms.length ∧ 1 ≤ i) ∧ (prs (ms.drop i) 2 a ps [] [] = some g) ∧ (a.length ≤ i) ∧ (ps.length ≤ i) ∧ σ = [(.t 0, .v (.o (st1 s))), (.t 2, .v (.o (.c (.box 110 2 0 0)))), (.t 3, .v (.o (bo1 false))), (.t 4, .v (.o (vD (dTxs ls)))), (.t 5, .v (.o (.c (.box 111 2 0 0)))), (.t 6, .v (.o (nat1 (i : Nat)))), (.b 110, .b 45 2 [[.d (.val (.slice none 0 0)), .d (.val (.slice none 0 0))]]), (.u 110, .u), (.b 112, .b 65 2 (dR (ps.map rP) ++ [[niC, niC]])), (.u 112, .u), (.b 111, .b 45 2 [[.d (dRs a), .own 112 2 (ps.length + 1)]]), (.u 111, .u)]) ∨ (∃ (i : Nat) (a : List Arr) (ps : List Prt) (ns : List Lp), m = ms.length - i ∧ (i ≤ ms.length ∧ 1 ≤ i) ∧ (prs (ms.drop i) 3 a ps ns [] = some g) ∧ (a.length ≤ i) ∧ (ps.length ≤ i) ∧ (ns.length ≤ i) ∧ σ = [(.t 0, .v (.o (st1 s))), (.t 2, .v (.o (.c (.box 110 2 0 0)))), (.t 3, .v (.o (bo1 false))), (.t 4, .v (.o (vD (dTxs ls)))), (.t 5, .v (.o (.c (.box 111 2 0 0)))), (.t 6, .v (.o (nat1 (i : Nat)))), (.b 110, .b 45 2 [[.d (.val (.slice none 0 0)), .d (.val (.slice none 0 0))]]), (.u 110, .u), (.b 112, .b 65 2 (dR (ps.map rP) ++ [[.own 113 2 ns.length, niC]])), (.u 112, .u), (.b 113, .b 100 2 (dR (ns.map rL))), (.u 113, .u), (.b 111, .b 45 2 [[.d (dRs a), .own 112 2 (ps.length + 1)]]), (.u 111, .u)]) ∨ (∃ (i : Nat) (a : List Arr) (ps : List Prt) (ns : List Lp) (b : List Stm), m = ms.length - i ∧ (i ≤ ms.length ∧ 1 ≤ i) ∧ (prs (ms.drop i) 4 a ps ns b = some g) ∧ (a.length ≤ i) ∧ (ps.length ≤ i) ∧ (ns.length ≤ i) ∧ (b.length ≤ i) ∧ σ = [(.t 0, .v (.o (st1 s))), (.t 2, .v (.o (.c (.box 110 2 0 0)))), (.t 3, .v (.o (bo1 false))), (.t 4, .v (.o (vD (dTxs ls)))), (.t 5, .v (.o (.c (.box 111 2 0 0)))), (.t 6, .v (.o (nat1 (i : Nat)))), (.b 110, .b 45 2 [[.d (.val (.slice none 0 0)), .d (.val (.slice none 0 0))]]), (.u 110, .u), (.b 112, .b 65 2 (dR (ps.map rP) ++ [[.d (dLs ns), .own 113 9 b.length]])), (.u 112, .u), (.b 113, .b 79 9 (dR (b.map rS))), (.u 113, .u), (.b 111, .b 45 2 [[.d (dRs a), .own 112 2 (ps.length + 1)]]), (.u 111, .u)])) [(110, 102), (111, 105)] (.inl ⟨1, rfl, by omega, hp, rfl⟩) ⟨ks rfl .dt, ks rfl (.c .bx), ks rfl .dt, ks rfl .dt, ks rfl (.c .bx), ks rfl .dt, kb 102 rfl (.cons (.cons .dt (.cons .dt Ctos.nil)) .nil), kb 105 rfl (.cons (.cons .dt (.cons .dt Ctos.nil)) .nil), trivial⟩ ?_
  rintro m σ (⟨i, hm0, hi, hP, rfl⟩ | ⟨i, a, hm0, hi, hP, ha, rfl⟩ | ⟨i, a, ps, hm0, hi, hP, ha, hps, rfl⟩ | ⟨i, a, ps, ns, hm0, hi, hP, ha, hps, hns, rfl⟩ | ⟨i, a, ps, ns, b, hm0, hi, hP, ha, hps, hns, hbl, rfl⟩)
  ·skip
   refine .seq <| .seq <| .region <| .cons (.mv rfl rfl) <| .cons (.pl rfl rfl rfl) <| .cons (.mv rfl rfl) <| .cons (.ln 9 1 16 rfl rfl rfl) <| .cons (.ls rfl rfl rfl) <| .nil <| ks_n ?_
   refine .cD rfl (fun h18 => ?_) (fun h18 => ?_)
   ·skip
    have hms : i < ms.length := by omega
    obtain ⟨x, hxm⟩ : ∃ x_, ms[i]? = some x_ := ⟨_, List.getElem?_eq_getElem hms⟩
    have hx1 : ls[i]? = some x := by rw [← hxm, ← hdl, List.getElem?_dropLast, if_pos (by rw [hml] at hms; omega)]
    have hxs : x.size ≤ 1048576 := by have := hcb.1 x (List.mem_of_getElem? hx1); omega
    rw [List.drop_eq_getElem_cons hms, (List.getElem_eq_iff hms).2 hxm] at hP
    obtain ⟨hk, hP2⟩ := prs_0 hP
    refine .skip <| ks_n <| .seq <| .block ?_
    refine ACode.drawK (by kernel_rfl) (by kernel_rfl) ?_
    refine .cons (.bN 2 rfl rfl rfl rfl rfl rfl) <| .cons (.mv rfl rfl) <| .cons (.mv rfl rfl) <| .cons (.xL 9 1 16 rfl rfl rfl rfl rfl (map_at hx1)) ?_
    refine .cons (.l1 1 rfl rfl) <| .cons (.cO [.tmp 21, .tmp 25] [(100, 126)] rfl rfl rfl rfl (line_a0 hxs hk) rfl trivial flatS.nil (hbA_flat _ _) (hbA_HB _ _) outS_one) ?_
    refine .cons (.sT 2 true rfl rfl rfl rfl rfl rfl rfl) ?_
    refine .nil ⟨by kernel_rfl, ?_⟩
    refine kb_n <| ks_n <| .region <| .cons (.mv rfl rfl) <| .cons (.pl rfl rfl rfl) <| .cons (.asg rfl rfl) <| .nil ?_
    refine kl_k [(110, 110), (111, 111), (112, 126)] (.inr (.inl ⟨i + 1, [ar4 (wrdV x)], rfl, by omega, hP2, by simp, rfl⟩)) ⟨ks rfl .dt, ks rfl (.c .bx), ks rfl .dt, ks rfl .dt, ks rfl (.c .bx), ks rfl .dt, kb 110 rfl (.cons (.cons .dt (.cons .dt Ctos.nil)) .nil), kb 126 rfl (.dt rfl (by first | rfl | (simp [dR]; done))), kb 111 rfl (.cons (.cons .ow (.cons .dt Ctos.nil)) .nil), trivial⟩
   ·skip
    exact (prs_e0 (by rw [List.drop_of_length_le (by omega)] at hP; exact hP)).elim
  ·skip
   refine .seq <| .seq <| .region <| .cons (.mv rfl rfl) <| .cons (.pl rfl rfl rfl) <| .cons (.mv rfl rfl) <| .cons (.ln 9 1 16 rfl rfl rfl) <| .cons (.ls rfl rfl rfl) <| .nil <| ks_n ?_
   refine .cD rfl (fun h18 => ?_) (fun h18 => ?_)
   ·skip
    have hms : i < ms.length := by omega
    obtain ⟨x, hxm⟩ : ∃ x_, ms[i]? = some x_ := ⟨_, List.getElem?_eq_getElem hms⟩
    have hx1 : ls[i]? = some x := by rw [← hxm, ← hdl, List.getElem?_dropLast, if_pos (by rw [hml] at hms; omega)]
    have hxs : x.size ≤ 1048576 := by have := hcb.1 x (List.mem_of_getElem? hx1); omega
    rw [List.drop_eq_getElem_cons hms, (List.getElem_eq_iff hms).2 hxm] at hP
    refine .skip <| ks_n <| .seq <| .block ?_
    by_cases hsp : kdL x = 0
    ·skip
     obtain ⟨hk, hP2⟩ := (prs_1 hP).resolve_right (fun h => by have := h.1; omega)
     refine ACode.drawK (by kernel_rfl) (by kernel_rfl) ?_
     refine .cons (.bN 2 rfl rfl rfl rfl rfl rfl) <| .cons (.mv rfl rfl) <| .cons (.mv rfl rfl) <| .cons (.xL 9 1 16 rfl rfl rfl rfl rfl (map_at hx1)) ?_
     refine .cons (.l1 1 rfl rfl) <| .cons (.cO [.tmp 21, .tmp 25] [(0, 112), (1000, 126)] rfl rfl rfl rfl (line_a1 hxs hk a (by omega)) rfl ⟨(by rw [renR_dR]; rfl), trivial⟩ (hbA_flat _ _) (hbA_flat _ _) (hbA_HB _ _) outS_one) ?_
     refine .cons (.sT 2 true rfl rfl rfl rfl rfl rfl rfl) ?_
     refine .nil ⟨by kernel_rfl, ?_⟩
     refine kb_n <| ks_n <| .region <| .cons (.mv rfl rfl) <| .cons (.pl rfl rfl rfl) <| .cons (.asg rfl rfl) <| .nil ?_
     refine kl_k [(110, 110), (111, 111), (112, 126)] (.inr (.inl ⟨i + 1, a ++ [ar4 (wrdV x)], rfl, by omega, hP2, by simp; omega, rfl⟩)) ⟨ks rfl .dt, ks rfl (.c .bx), ks rfl .dt, ks rfl .dt, ks rfl (.c .bx), ks rfl .dt, kb 110 rfl (.cons (.cons .dt (.cons .dt Ctos.nil)) .nil), kb 126 rfl (.dt rfl (by first | rfl | (simp [dR]; done))), kb 111 rfl (.cons (.cons .ow (.cons .dt Ctos.nil)) .nil), trivial⟩
    ·skip
     obtain ⟨hk, hP2⟩ := (prs_1 hP).resolve_left (fun h => hsp h.1)
     refine .keep [(.t 0, .v (.o (st1 s))), (.t 2, .v (.o (.c (.box 500 2 0 0)))), (.t 3, .v (.o (bo1 false))), (.t 4, .v (.o (vD (dTxs ls)))), (.t 5, .v (.o (.c (.box 501 2 0 0)))), (.t 6, .v (.o (nat1 (i : Nat)))), (.b 500, .b 45 2 [[.d (.val (.slice none 0 0)), .d (.val (.slice none 0 0))]]), (.u 500, .u), (.b 501, .b 45 2 [[.d (dRs a), .d (.val (.slice none 0 0))]]), (.u 501, .u)] [(500, 110), (501, 111)] ⟨ks rfl .dt, ks rfl (.c .bx), ks rfl .dt, ks rfl .dt, ks rfl (.c .bx), ks rfl .dt, kb 110 rfl (.cons (.cons .dt (.cons .dt Ctos.nil)) .nil), kb 111 rfl (.cons (.cons (.fz rfl rfl (by simp) (by omega)) (.cons .dt Ctos.nil)) .nil), trivial⟩ ?_
     refine ACode.drawK (by kernel_rfl) (by kernel_rfl) ?_
     refine .cons (.bN 2 rfl rfl rfl rfl rfl rfl) <| .cons (.mv rfl rfl) <| .cons (.mv rfl rfl) <| .cons (.xL 9 1 16 rfl rfl rfl rfl rfl (map_at hx1)) ?_
     refine .cons (.l1 1 rfl rfl) <| .cons (.cO [.tmp 21, .tmp 25] [(100, 126)] rfl rfl rfl rfl (line_p0 hxs hk a (by omega)) rfl trivial flatS.nil (hbP_flat _ _ _) (hbP_HB _ _ _ _) outS_P) ?_
     refine .cons (.sT 2 true rfl rfl rfl rfl rfl rfl rfl) ?_
     refine .nil ⟨by kernel_rfl, ?_⟩
     refine kb_n <| ks_n <| .region <| .cons (.mv rfl rfl) <| .cons (.pl rfl rfl rfl) <| .cons (.asg rfl rfl) <| .nil ?_
     refine kl_k [(110, 500), (111, 501), (112, 126)] (.inr (.inr (.inl ⟨i + 1, a, [], rfl, by omega, hP2, by omega, by simp, rfl⟩))) ⟨ks rfl .dt, ks rfl (.c .bx), ks rfl .dt, ks rfl .dt, ks rfl (.c .bx), ks rfl .dt, kb 500 rfl (.cons (.cons .dt (.cons .dt Ctos.nil)) .nil), kb 126 rfl ((by first | exact .app (.dat _ _ (([] : List Prt).map rP) rfl rfl) (.cons (.cons (.d _ _ rfl) (.cons (.d _ _ rfl) .nil)) .nil) | exact .app (.dat _ _ _ rfl rfl) (.cons (.cons (.d _ _ rfl) (.cons (.d _ _ rfl) .nil)) .nil))), kb 501 rfl (.cons (.cons .dt (.cons .ow Ctos.nil)) .nil), trivial⟩
   ·skip
    exact (prs_e1 (by rw [List.drop_of_length_le (by omega)] at hP; exact hP)).elim
  ·skip
   refine .seq <| .seq <| .region <| .cons (.mv rfl rfl) <| .cons (.pl rfl rfl rfl) <| .cons (.mv rfl rfl) <| .cons (.ln 9 1 16 rfl rfl rfl) <| .cons (.ls rfl rfl rfl) <| .nil <| ks_n ?_
   refine .cD rfl (fun h18 => ?_) (fun h18 => ?_)
   ·skip
    have hms : i < ms.length := by omega
    obtain ⟨x, hxm⟩ : ∃ x_, ms[i]? = some x_ := ⟨_, List.getElem?_eq_getElem hms⟩
    have hx1 : ls[i]? = some x := by rw [← hxm, ← hdl, List.getElem?_dropLast, if_pos (by rw [hml] at hms; omega)]
    have hxs : x.size ≤ 1048576 := by have := hcb.1 x (List.mem_of_getElem? hx1); omega
    rw [List.drop_eq_getElem_cons hms, (List.getElem_eq_iff hms).2 hxm] at hP
    obtain ⟨hk, hP2⟩ := prs_2 hP
    refine .skip <| ks_n <| .seq <| .block ?_
    refine ACode.drawK (by kernel_rfl) (by kernel_rfl) ?_
    refine .cons (.bN 2 rfl rfl rfl rfl rfl rfl) <| .cons (.mv rfl rfl) <| .cons (.mv rfl rfl) <| .cons (.xL 9 1 16 rfl rfl rfl rfl rfl (map_at hx1)) ?_
    refine .cons (.l1 1 rfl rfl) <| .cons (.cO [.tmp 21, .tmp 25] [(0, 112), (100, 626)] rfl rfl rfl rfl (line_f0 hxs hk a (by omega) ps (by omega)) rfl ⟨(by rw [renR_app]; rfl), trivial⟩ (hbP_flat _ _ _) (hbPN_flat _ _ rfl) (hbPN_HB _ _ _ _) outS_PN) ?_
    refine .cons (.sT 2 true rfl rfl rfl rfl rfl rfl rfl) ?_
    refine .nil ⟨by kernel_rfl, ?_⟩
    refine kb_n <| ks_n <| .region <| .cons (.mv rfl rfl) <| .cons (.pl rfl rfl rfl) <| .cons (.asg rfl rfl) <| .nil ?_
    refine kl_k [(110, 110), (111, 111), (112, 112), (113, 626)] (.inr (.inr (.inr (.inl ⟨i + 1, a, ps, [lnV x], rfl, by omega, hP2, by omega, by omega, by simp, rfl⟩)))) ⟨ks rfl .dt, ks rfl (.c .bx), ks rfl .dt, ks rfl .dt, ks rfl (.c .bx), ks rfl .dt, kb 110 rfl (.cons (.cons .dt (.cons .dt Ctos.nil)) .nil), kb 112 rfl ((by first | exact .app (.dat _ _ (ps.map rP) rfl rfl) (.cons (.cons (.own _ _ _ _ _ (by first | decide | simp) (by first | rfl | omega | (simp; done))) (.cons (.d _ _ rfl) .nil)) .nil) | exact .app (.dat _ _ _ rfl rfl) (.cons (.cons (.own _ _ _ _ _ (by first | decide | simp) (by first | rfl | omega | (simp; done))) (.cons (.d _ _ rfl) .nil)) .nil))), kb 626 rfl (.dt rfl), kb 111 rfl (.cons (.cons .dt (.cons .ow Ctos.nil)) .nil), trivial⟩
   ·skip
    exact (prs_e2 (by rw [List.drop_of_length_le (by omega)] at hP; exact hP)).elim
  ·skip
   refine .seq <| .seq <| .region <| .cons (.mv rfl rfl) <| .cons (.pl rfl rfl rfl) <| .cons (.mv rfl rfl) <| .cons (.ln 9 1 16 rfl rfl rfl) <| .cons (.ls rfl rfl rfl) <| .nil <| ks_n ?_
   refine .cD rfl (fun h18 => ?_) (fun h18 => ?_)
   ·skip
    have hms : i < ms.length := by omega
    obtain ⟨x, hxm⟩ : ∃ x_, ms[i]? = some x_ := ⟨_, List.getElem?_eq_getElem hms⟩
    have hx1 : ls[i]? = some x := by rw [← hxm, ← hdl, List.getElem?_dropLast, if_pos (by rw [hml] at hms; omega)]
    have hxs : x.size ≤ 1048576 := by have := hcb.1 x (List.mem_of_getElem? hx1); omega
    rw [List.drop_eq_getElem_cons hms, (List.getElem_eq_iff hms).2 hxm] at hP
    refine .skip <| ks_n <| .seq <| .block ?_
    by_cases hsp : kdL x = 2
    ·skip
     obtain ⟨hk, hP2⟩ := (prs_3 hP).resolve_right (fun h => by have := h.1; omega)
     refine ACode.drawK (by kernel_rfl) (by kernel_rfl) ?_
     refine .cons (.bN 2 rfl rfl rfl rfl rfl rfl) <| .cons (.mv rfl rfl) <| .cons (.mv rfl rfl) <| .cons (.xL 9 1 16 rfl rfl rfl rfl rfl (map_at hx1)) ?_
     refine .cons (.l1 1 rfl rfl) <| .cons (.cO [.tmp 21, .tmp 25] [(0, 112), (1, 113), (1000, 626)] rfl rfl rfl rfl (line_f1 hxs hk a (by omega) ps (by omega) ns (by omega)) rfl ⟨(by rw [renR_app]; rfl), (by rw [renR_dR]; rfl), trivial⟩ (hbPN_flat _ _ rfl) (hbPN_flat _ _ rfl) (hbPN_HB _ _ _ _) outS_PN) ?_
     refine .cons (.sT 2 true rfl rfl rfl rfl rfl rfl rfl) ?_
     refine .nil ⟨by kernel_rfl, ?_⟩
     refine kb_n <| ks_n <| .region <| .cons (.mv rfl rfl) <| .cons (.pl rfl rfl rfl) <| .cons (.asg rfl rfl) <| .nil ?_
     refine kl_k [(110, 110), (111, 111), (112, 112), (113, 626)] (.inr (.inr (.inr (.inl ⟨i + 1, a, ps, ns ++ [lnV x], rfl, by omega, hP2, by omega, by omega, by simp; omega, rfl⟩)))) ⟨ks rfl .dt, ks rfl (.c .bx), ks rfl .dt, ks rfl .dt, ks rfl (.c .bx), ks rfl .dt, kb 110 rfl (.cons (.cons .dt (.cons .dt Ctos.nil)) .nil), kb 112 rfl ((by first | exact .app (.dat _ _ (ps.map rP) rfl rfl) (.cons (.cons (.own _ _ _ _ _ (by first | decide | simp) (by first | rfl | omega | (simp; done))) (.cons (.d _ _ rfl) .nil)) .nil) | exact .app (.dat _ _ _ rfl rfl) (.cons (.cons (.own _ _ _ _ _ (by first | decide | simp) (by first | rfl | omega | (simp; done))) (.cons (.d _ _ rfl) .nil)) .nil))), kb 626 rfl (.dt rfl), kb 111 rfl (.cons (.cons .dt (.cons .ow Ctos.nil)) .nil), trivial⟩
    ·skip
     obtain ⟨hk, hP2⟩ := (prs_3 hP).resolve_left (fun h => hsp h.1)
     refine .keep [(.t 0, .v (.o (st1 s))), (.t 2, .v (.o (.c (.box 500 2 0 0)))), (.t 3, .v (.o (bo1 false))), (.t 4, .v (.o (vD (dTxs ls)))), (.t 5, .v (.o (.c (.box 501 2 0 0)))), (.t 6, .v (.o (nat1 (i : Nat)))), (.b 500, .b 45 2 [[.d (.val (.slice none 0 0)), .d (.val (.slice none 0 0))]]), (.u 500, .u), (.b 502, .b 65 2 (dR (ps.map rP) ++ [[.d (dLs ns), niC]])), (.u 502, .u), (.b 501, .b 45 2 [[.d (dRs a), .own 502 2 (ps.length + 1)]]), (.u 501, .u)] [(500, 110), (501, 111), (502, 112)] ⟨ks rfl .dt, ks rfl (.c .bx), ks rfl .dt, ks rfl .dt, ks rfl (.c .bx), ks rfl .dt, kb 110 rfl (.cons (.cons .dt (.cons .dt Ctos.nil)) .nil), kb 112 rfl (.app (.dat _ _ (ps.map rP) rfl rfl) (.cons (.cons (.frz _ _ _ _ _ _ rfl rfl rfl rfl (by first | rfl | (simp; done)) (by first | omega | (simp; omega))) (.cons (.d _ _ rfl) .nil)) .nil)), kb 111 rfl (.cons (.cons .dt (.cons .ow Ctos.nil)) .nil), trivial⟩ ?_
     refine ACode.drawK (by kernel_rfl) (by kernel_rfl) ?_
     refine .cons (.bN 2 rfl rfl rfl rfl rfl rfl) <| .cons (.mv rfl rfl) <| .cons (.mv rfl rfl) <| .cons (.xL 9 1 16 rfl rfl rfl rfl rfl (map_at hx1)) ?_
     refine .cons (.l1 1 rfl rfl) <| .cons (.cO [.tmp 21, .tmp 25] [(0, 502), (100, 626)] rfl rfl rfl rfl (line_s0 hxs hk a (by omega) ps (by omega) ns) rfl ⟨(by rw [renR_app]; rfl), trivial⟩ (hbP_flat _ _ _) (hbPB_flat _ _ _ rfl) (hbPB_HB _ _ _ _ _) outS_PB) ?_
     refine .cons (.sT 2 true rfl rfl rfl rfl rfl rfl rfl) ?_
     refine .nil ⟨by kernel_rfl, ?_⟩
     refine kb_n <| ks_n <| .region <| .cons (.mv rfl rfl) <| .cons (.pl rfl rfl rfl) <| .cons (.asg rfl rfl) <| .nil ?_
     refine kl_k [(110, 500), (111, 501), (112, 502), (113, 626)] (.inr (.inr (.inr (.inr ⟨i + 1, a, ps, ns, [(psV x).1], rfl, by omega, hP2, by omega, by omega, by omega, by simp, rfl⟩)))) ⟨ks rfl .dt, ks rfl (.c .bx), ks rfl .dt, ks rfl .dt, ks rfl (.c .bx), ks rfl .dt, kb 500 rfl (.cons (.cons .dt (.cons .dt Ctos.nil)) .nil), kb 502 rfl ((by first | exact .app (.dat _ _ (ps.map rP) rfl rfl) (.cons (.cons (.d _ _ rfl) (.cons (.own _ _ _ _ _ (by first | decide | simp) (by first | rfl | omega | (simp; done))) .nil)) .nil) | exact .app (.dat _ _ _ rfl rfl) (.cons (.cons (.d _ _ rfl) (.cons (.own _ _ _ _ _ (by first | decide | simp) (by first | rfl | omega | (simp; done))) .nil)) .nil))), kb 626 rfl (.dt rfl), kb 501 rfl (.cons (.cons .dt (.cons .ow Ctos.nil)) .nil), trivial⟩
   ·skip
    exact (prs_e3 (by rw [List.drop_of_length_le (by omega)] at hP; exact hP)).elim
  ·skip
   refine .seq <| .seq <| .region <| .cons (.mv rfl rfl) <| .cons (.pl rfl rfl rfl) <| .cons (.mv rfl rfl) <| .cons (.ln 9 1 16 rfl rfl rfl) <| .cons (.ls rfl rfl rfl) <| .nil <| ks_n ?_
   refine .cD rfl (fun h18 => ?_) (fun h18 => ?_)
   ·skip
    have hms : i < ms.length := by omega
    obtain ⟨x, hxm⟩ : ∃ x_, ms[i]? = some x_ := ⟨_, List.getElem?_eq_getElem hms⟩
    have hx1 : ls[i]? = some x := by rw [← hxm, ← hdl, List.getElem?_dropLast, if_pos (by rw [hml] at hms; omega)]
    have hxs : x.size ≤ 1048576 := by have := hcb.1 x (List.mem_of_getElem? hx1); omega
    rw [List.drop_eq_getElem_cons hms, (List.getElem_eq_iff hms).2 hxm] at hP
    refine .skip <| ks_n <| .seq <| .block ?_
    by_cases hsp : kdL x = 3
    ·skip
     obtain ⟨hk, hP2⟩ := (prs_4 hP).resolve_right (fun h => by have := h.1; omega)
     refine ACode.drawK (by kernel_rfl) (by kernel_rfl) ?_
     refine .cons (.bN 2 rfl rfl rfl rfl rfl rfl) <| .cons (.mv rfl rfl) <| .cons (.mv rfl rfl) <| .cons (.xL 9 1 16 rfl rfl rfl rfl rfl (map_at hx1)) ?_
     refine .cons (.l1 1 rfl rfl) <| .cons (.cO [.tmp 21, .tmp 25] [(0, 112), (1, 113), (1000, 626)] rfl rfl rfl rfl (line_s1 hxs hk a (by omega) ps (by omega) ns b (by omega)) rfl ⟨(by rw [renR_app]; rfl), (by rw [renR_dR]; rfl), trivial⟩ (hbPB_flat _ _ _ rfl) (hbPB_flat _ _ _ rfl) (hbPB_HB _ _ _ _ _) outS_PB) ?_
     refine .cons (.sT 2 true rfl rfl rfl rfl rfl rfl rfl) ?_
     refine .nil ⟨by kernel_rfl, ?_⟩
     refine kb_n <| ks_n <| .region <| .cons (.mv rfl rfl) <| .cons (.pl rfl rfl rfl) <| .cons (.asg rfl rfl) <| .nil ?_
     refine kl_k [(110, 110), (111, 111), (112, 112), (113, 626)] (.inr (.inr (.inr (.inr ⟨i + 1, a, ps, ns, b ++ [(psV x).1], rfl, by omega, hP2, by omega, by omega, by omega, by simp; omega, rfl⟩)))) ⟨ks rfl .dt, ks rfl (.c .bx), ks rfl .dt, ks rfl .dt, ks rfl (.c .bx), ks rfl .dt, kb 110 rfl (.cons (.cons .dt (.cons .dt Ctos.nil)) .nil), kb 112 rfl ((by first | exact .app (.dat _ _ (ps.map rP) rfl rfl) (.cons (.cons (.d _ _ rfl) (.cons (.own _ _ _ _ _ (by first | decide | simp) (by first | rfl | omega | (simp; done))) .nil)) .nil) | exact .app (.dat _ _ _ rfl rfl) (.cons (.cons (.d _ _ rfl) (.cons (.own _ _ _ _ _ (by first | decide | simp) (by first | rfl | omega | (simp; done))) .nil)) .nil))), kb 626 rfl (.dt rfl), kb 111 rfl (.cons (.cons .dt (.cons .ow Ctos.nil)) .nil), trivial⟩
    ·skip
     obtain ⟨hk, hP2⟩ := (prs_4 hP).resolve_left (fun h => hsp h.1)
     refine .keep [(.t 0, .v (.o (st1 s))), (.t 2, .v (.o (.c (.box 500 2 0 0)))), (.t 3, .v (.o (bo1 false))), (.t 4, .v (.o (vD (dTxs ls)))), (.t 5, .v (.o (.c (.box 501 2 0 0)))), (.t 6, .v (.o (nat1 (i : Nat)))), (.b 500, .b 45 2 [[.d (.val (.slice none 0 0)), .d (.val (.slice none 0 0))]]), (.u 500, .u), (.b 502, .b 65 2 (dR ((ps ++ [(ns, b)]).map rP))), (.u 502, .u), (.b 501, .b 45 2 [[.d (dRs a), .own 502 2 ((ps ++ [(ns, b)]).length)]]), (.u 501, .u)] [(500, 110), (501, 111), (502, 112)] ⟨ks rfl .dt, ks rfl (.c .bx), ks rfl .dt, ks rfl .dt, ks rfl (.c .bx), ks rfl .dt, kb 110 rfl (.cons (.cons .dt (.cons .dt Ctos.nil)) .nil), kb 112 rfl (.eq rfl (show dR ((ps ++ [(ns, b)]).map rP) = dR (ps.map rP) ++ [[.d (dLs ns), .d (dMs b)]] by simp [dR, rP]) (.app (.dat _ _ (ps.map rP) rfl rfl) (.cons (.cons (.d _ _ rfl) (.cons (.frz _ _ _ _ _ _ rfl rfl rfl rfl (by first | rfl | (simp; done)) (by first | omega | (simp; omega))) .nil)) .nil))), kb 111 rfl (.cons (.cons .dt (.cons (.ow (by simp)) Ctos.nil)) .nil), trivial⟩ ?_
     refine ACode.drawK (by kernel_rfl) (by kernel_rfl) ?_
     refine .cons (.bN 2 rfl rfl rfl rfl rfl rfl) <| .cons (.mv rfl rfl) <| .cons (.mv rfl rfl) <| .cons (.xL 9 1 16 rfl rfl rfl rfl rfl (map_at hx1)) ?_
     refine .cons (.l1 1 rfl rfl) <| .cons (.cO [.tmp 21, .tmp 25] [(0, 502), (1000, 126)] rfl rfl rfl rfl (line_p1 hxs hk a (by omega) (ps ++ [(ns, b)]) (by simp; omega)) rfl ⟨(by rw [renR_dR]; rfl), trivial⟩ (hbPs_flat _ _) (hbP_flat _ _ _) (hbP_HB _ _ _ _) outS_P) ?_
     refine .cons (.sT 2 true rfl rfl rfl rfl rfl rfl rfl) ?_
     refine .nil ⟨by kernel_rfl, ?_⟩
     refine kb_n <| ks_n <| .region <| .cons (.mv rfl rfl) <| .cons (.pl rfl rfl rfl) <| .cons (.asg rfl rfl) <| .nil ?_
     refine kl_k [(110, 500), (111, 501), (112, 126)] (.inr (.inr (.inl ⟨i + 1, a, ps ++ [(ns, b)], rfl, by omega, hP2, by omega, by simp; omega, rfl⟩))) ⟨ks rfl .dt, ks rfl (.c .bx), ks rfl .dt, ks rfl .dt, ks rfl (.c .bx), ks rfl .dt, kb 500 rfl (.cons (.cons .dt (.cons .dt Ctos.nil)) .nil), kb 126 rfl ((by first | exact .app (.dat _ _ ((ps ++ [(ns, b)]).map rP) rfl rfl) (.cons (.cons (.d _ _ rfl) (.cons (.d _ _ rfl) .nil)) .nil) | exact .app (.dat _ _ _ rfl rfl) (.cons (.cons (.d _ _ rfl) (.cons (.d _ _ rfl) .nil)) .nil))), kb 501 rfl (.cons (.cons .dt (.cons .ow Ctos.nil)) .nil), trivial⟩
   ·skip
    rw [List.drop_of_length_le (by omega)] at hP
    have hg := prs_e4 hP
    refine .exit <| ks_e <| kl_e <| kb_hit <| ks_n <| .seq <| .seq ?_
    refine .keep [(.t 0, .v (.o (st1 s))), (.t 2, .v (.o (.c (.box 500 2 0 0)))), (.t 3, .v (.o (bo1 false))), (.t 4, .v (.o (vD (dTxs ls)))), (.t 5, .v (.o (.c (.box 501 2 0 0)))), (.t 6, .v (.o (nat1 (i : Nat)))), (.b 500, .b 45 2 [[.d (.val (.slice none 0 0)), .d (.val (.slice none 0 0))]]), (.u 500, .u), (.b 502, .b 65 2 (dR ((ps ++ [(ns, b)]).map rP))), (.u 502, .u), (.b 501, .b 45 2 [[.d (dRs a), .own 502 2 ((ps ++ [(ns, b)]).length)]]), (.u 501, .u)] [(500, 110), (501, 111), (502, 112)] ⟨ks rfl .dt, ks rfl (.c .bx), ks rfl .dt, ks rfl .dt, ks rfl (.c .bx), ks rfl .dt, kb 110 rfl (.cons (.cons .dt (.cons .dt Ctos.nil)) .nil), kb 112 rfl (.eq rfl (show dR ((ps ++ [(ns, b)]).map rP) = dR (ps.map rP) ++ [[.d (dLs ns), .d (dMs b)]] by simp [dR, rP]) (.app (.dat _ _ (ps.map rP) rfl rfl) (.cons (.cons (.d _ _ rfl) (.cons (.frz _ _ _ _ _ _ rfl rfl rfl rfl (by first | rfl | (simp; done)) (by first | omega | (simp; omega))) .nil)) .nil))), kb 111 rfl (.cons (.cons .dt (.cons (.ow (by simp)) Ctos.nil)) .nil), trivial⟩ ?_
    refine .keep [(.t 0, .v (.o (st1 s))), (.t 2, .v (.o (.c (.box 520 2 0 0)))), (.t 3, .v (.o (bo1 false))), (.t 4, .v (.o (vD (dTxs ls)))), (.t 5, .v (.o (.c (.box 521 2 0 0)))), (.t 6, .v (.o (nat1 (i : Nat)))), (.b 520, .b 45 2 [[.d (.val (.slice none 0 0)), .d (.val (.slice none 0 0))]]), (.u 520, .u), (.b 521, .b 45 2 [[.d (dRs a), .d (dPts (ps ++ [(ns, b)]))]]), (.u 521, .u)] [(520, 500), (521, 501)] ⟨ks rfl .dt, ks rfl (.c .bx), ks rfl .dt, ks rfl .dt, ks rfl (.c .bx), ks rfl .dt, kb 500 rfl (.cons (.cons .dt (.cons .dt Ctos.nil)) .nil), kb 501 rfl (.cons (.cons .dt (.cons (.fz rfl rfl (by simp) (by first | omega | (simp; omega))) Ctos.nil)) .nil), trivial⟩ ?_
    refine .region <| .cons (.mv rfl rfl) <| .cons (St1.eqS rfl rfl rfl) <| .cons (.mv rfl rfl) ?_
    refine AOps.cases 29 _ rfl (fun g29 => ?_) (fun g29 => ?_)
    ·try simp only [zs1, zs2, zs3, zs4, zs5, zs6, zs7] at g29
     have hT : pgV s g = (([], []), false) := by rw [pgV, if_pos (by first | (simp_all; done) | (simp [*]; done) | grind)]
     refine .cons (.gF rfl rfl rfl) <| .cons (.gF rfl rfl rfl) <| .cons (.gF rfl rfl rfl) <| .cons (.gF rfl rfl rfl) <| .cons (.pT rfl rfl rfl) <| .nil <| ks_n ?_
     refine ACode.condT rfl (fun _ => ?_) (fun h => by first | (cases h; done) | (simp [*] at h; done) | (exfalso; simp_all; done))
     refine .seq <| .region <| .cons (.buZ [] [(0, 1), (1, 1)] [.slice none 0 0, .slice none 0 0] [.list 2 [], .list 2 []] rfl rfl (.list _ (.list _ ZR.nil)) rfl rfl) <| .cons (.sT 2 true rfl rfl rfl rfl rfl rfl rfl) <| .cons (.asg rfl rfl) <| .nil <| ks_n <| .ret <| ks_r ?_
     refine kf_ret rfl ?_ nobox
     rw [hT]; rfl
    ·try simp only [zs1, zs2, zs3, zs4, zs5, zs6, zs7] at g29
     refine .cons (.gT rfl rfl rfl (.bN 2 rfl rfl rfl rfl rfl rfl)) <| .cons (.gT rfl rfl rfl (.cP [.tmp 30] rfl rfl rfl rfl (fmtG_fn (g := (a, ps ++ [(ns, b)])) (by rw [← hg]; exact hz)) rfl)) ?_
     refine .cons (.gT rfl rfl rfl (.mv rfl rfl)) <| .cons (.gT rfl rfl rfl (St1.neS rfl rfl rfl)) <| .cons (.pF rfl rfl rfl) <| .nil <| ks_n ?_
     refine ACode.condT rfl (fun h34 => ?_) (fun h34 => ?_)
     ·try simp only [zs1, zs2, zs3, zs4, zs5, zs6, zs7] at h34
      have hT : pgV s g = (([], []), false) := by rw [pgV, if_pos (by first | (simp_all; done) | (simp [*]; done) | grind)]
      refine .seq <| .region <| .cons (.buZ [] [(0, 1), (1, 1)] [.slice none 0 0, .slice none 0 0] [.list 2 [], .list 2 []] rfl rfl (.list _ (.list _ ZR.nil)) rfl rfl) <| .cons (.sT 2 true rfl rfl rfl rfl rfl rfl rfl) <| .cons (.asg rfl rfl) <| .nil <| ks_n <| .ret <| ks_r ?_
      refine kf_ret rfl ?_ nobox
      rw [hT]; rfl
     ·try simp only [zs1, zs2, zs3, zs4, zs5, zs6, zs7] at h34
      have hT : pgV s g = (g, true) := by rw [pgV, if_neg (by first | (simp_all; done) | (simp [*]; done) | grind)]
      refine .skip <| ks_n <| .seq <| .region <| .cons (.bN 2 rfl rfl rfl rfl rfl rfl) <| .cons (.sT 2 true rfl rfl rfl rfl rfl rfl rfl) <| .cons (.asg rfl rfl) <| .nil <| ks_n <| .ret ?_
      refine kf_ret rfl ?_ nobox
      rw [hT, hg]; rfl

theorem ar4_sz {s : ByteArray} : szR (ar4 (wrdV s)) ≤ s.size + 3 := by
  have h := wrdV_bd s
  have h1 : (ar4 (wrdV s)).1.size ≤ s.size := by
    show ((wrdV s).getD 1 ⟨#[]⟩).size ≤ s.size
    rw [List.getD_eq_getElem?_getD]
    cases hx : (wrdV s)[1]? with
    | none => exact Nat.zero_le _
    | some x => exact h.1 x (List.mem_of_getElem? hx)
  have h2 : (ar4 (wrdV s)).2.length ≤ 3 := by
    show (((wrdV s).drop 2).take 3 |>.map fun t => (nuV t).1).length ≤ 3
    rw [List.length_map, List.length_take]; omega
  rw [szR]; omega
theorem lnV_sz (s : ByteArray) : szL (lnV s) ≤ 30 := by
  unfold lnV; split
  · decide
  · have h1 := sidV_sz ((wrdV s).getD 1 ⟨#[]⟩)
    have h2 := sidV_sz ((wrdV s).getD 2 ⟨#[]⟩)
    rw [szL]; dsimp only; omega
theorem szLs_app (l : List Lp) (x : Lp) : szLs (l ++ [x]) = szLs l + 1 + szL x := szO_app szL l x
theorem prs_sz : ∀ (ls : List ByteArray) (q : Nat) (a : List Arr) (ps : List Prt) (ns : List Lp) (b : List Stm) (g : Prg), (∀ l ∈ ls, l.size ≤ 2000) → prs ls q a ps ns b = some g → szG g ≤ szO szR a + szO szPt ps + szLs ns + szO szS b + 1 + 3000 * ls.length
  | [], q, a, ps, ns, b, g, _, h => by
    match q, h with
    | 4, h =>
      rw [prs_e4 h]
      show szO szR a + szO szPt (ps ++ [(ns, b)]) ≤ _
      rw [szO_app, szPt]; dsimp only; omega
    | 0, h => exact (prs_e0 h).elim
    | 1, h => exact (prs_e1 h).elim
    | 2, h => exact (prs_e2 h).elim
    | 3, h => exact (prs_e3 h).elim
    | n + 5, h => simp [prs] at h
  | l :: r, q, a, ps, ns, b, g, hl, h => by
    have hr : ∀ l ∈ r, l.size ≤ 2000 := fun x hx => hl x (List.mem_cons_of_mem _ hx)
    have hl0 := hl l List.mem_cons_self
    have k1 := ar4_sz (s := l)
    have k2 := lnV_sz l
    have k3 := psV_sz l
    have e1 : szLs [] = 0 := rfl
    have e2 : szO szS [] = 0 := rfl
    have e3 : szO szPt [] = 0 := rfl
    have e4 : szLs [lnV l] = 0 + 1 + szL (lnV l) := szO_app szL [] (lnV l)
    have e5 : szO szS [(psV l).1] = 0 + 1 + szS (psV l).1 := szO_app szS [] (psV l).1
    rw [List.length_cons]
    match q, h with
    | 0, h => have := prs_sz r _ _ _ _ _ _ hr (prs_0 h).2; rw [szO_app] at this; omega
    | 1, h =>
      rcases prs_1 h with ⟨_, h⟩ | ⟨_, h⟩
      · have := prs_sz r _ _ _ _ _ _ hr h; rw [szO_app] at this; omega
      · have := prs_sz r _ _ _ _ _ _ hr h; omega
    | 2, h => have := prs_sz r _ _ _ _ _ _ hr (prs_2 h).2; omega
    | 3, h =>
      rcases prs_3 h with ⟨_, h⟩ | ⟨_, h⟩
      · have := prs_sz r _ _ _ _ _ _ hr h; rw [szLs_app] at this; omega
      · have := prs_sz r _ _ _ _ _ _ hr h; omega
    | 4, h =>
      rcases prs_4 h with ⟨_, h⟩ | ⟨_, h⟩
      · have := prs_sz r _ _ _ _ _ _ hr h; rw [szO_app] at this; omega
      · have := prs_sz r _ _ _ _ _ _ hr h; rw [szO_app, szPt] at this; dsimp only at this; omega
    | n + 5, h => simp [prs] at h
/-- The reading of the texts that are drawn from. -/
def pg8 (t : ByteArray) : Prg × Bool := pgV (hd8 ++ t) ((prs ((cutV (hd8 ++ t) 10).dropLast.drop 1) 0 [] [] [] []).getD ([], []))
theorem txt8_ok : ∀ t ∈ txt8, (cutV (hd8 ++ t) 10).length ≤ 42 ∧ 2 ≤ (cutV (hd8 ++ t) 10).length ∧ (prs ((cutV (hd8 ++ t) 10).dropLast.drop 1) 0 [] [] [] []).isSome = true := by decide +kernel
theorem readP8 : ReadP pg8 := fun t ht => by
  obtain ⟨h1, h2, h3⟩ := txt8_ok t ht
  have h4 := txt8_len t ht
  have h5 : (hd8 ++ t).size ≤ 2000 := by
    rw [ByteArray.size_append]
    have : hd8.size ≤ 100 := by decide
    omega
  obtain ⟨g, hg⟩ := Option.isSome_iff_exists.1 h3
  have hc := cutV_bd (hd8 ++ t) 10
  have hz := prs_sz _ _ _ _ _ _ _ (fun l hl => Nat.le_trans (hc.1 l ((List.dropLast_sublist _).subset (List.mem_of_mem_drop hl))) h5) hg
  have hz2 : szG g ≤ 1073741824 := by
    have h6 : ((cutV (hd8 ++ t) 10).dropLast.drop 1).length ≤ 42 := by rw [List.length_drop, List.length_dropLast]; omega
    have e0 : szO szR ([] : List Arr) = 0 := rfl
    have e1 : szLs [] = 0 := rfl
    have e2 : szO szS [] = 0 := rfl
    have e3 : szO szPt [] = 0 := rfl
    omega
  have e : pg8 t = pgV (hd8 ++ t) g := by rw [pg8, hg]; rfl
  rw [e]
  refine ⟨?_, pgm_fn h5 h1 h2 hg hz2⟩
  unfold pgV; split
  · decide
  · exact hz2
/-- Draws of programs. -/
theorem drawG8 {bs : List Int} (hb : Bytes bs) : DrawG bs := drawG_of hb (drawB hb) readP8

def dist (xs : List Int) : Int := if xs.length ≤ 600 then (uniq xs).length else 0
theorem isTrace_any (a : Option Addr) (n c : Nat) (w : World) : Calls Try.prog 22 #[.slice a n c] w fun e w' => e = .returned (.bool (decide (n ≤ 600))) ∧ w = w' := by
  go_enter Try.func22, Try.ntmps22
  go_wp2
  go_ret
  exact ⟨ret_bool (by simp; omega), rfl⟩

def fitsB (n : Nat) (size : Int) : Bool := decide (n ≤ 600 ∧ 0 ≤ size ∧ size ≤ 40)
set_option maxHeartbeats 400000 in
theorem isCache_any (a : Option Addr) (n c : Nat) (size : Int) (w : World) : Calls Try.prog 25 #[.slice a n c, .int .i64 size] w fun e w' => e = .returned (.bool (fitsB n size)) ∧ w = w' := by
  by_cases h1 : n ≤ 600
  · have h1' : decide (n ≤ 600) = true := by simpa using h1
    have hf : fitsB n size = inB size 0 40 := by simp [fitsB, inB, h1]
    rw [hf]
    clear hf
    go_enter Try.func25, Try.ntmps25
    go_wp2_with (first
      | (go_at_call 22; refine (isTrace_any _ _ _ _).mono ?_; rintro e w' ⟨rfl, rfl⟩)
      | (go_at_call 32; refine (within_any _ _ _ _).mono ?_; rintro e w' ⟨rfl, rfl⟩))
    go_ret
    exact ⟨rfl, rfl⟩
  · have h1' : decide (n ≤ 600) = false := by simpa using h1
    have hf : fitsB n size = false := by simp [fitsB, h1]
    rw [hf]
    clear hf
    go_enter Try.func25, Try.ntmps25
    go_wp2_with (go_at_call 22; refine (isTrace_any _ _ _ _).mono ?_; rintro e w' ⟨rfl, rfl⟩)
    go_ret
    exact ⟨rfl, rfl⟩
set_option maxHeartbeats 400000 in
theorem l10Fits_any (a : Option Addr) (n c : Nat) (size : Int) (w : World) : Calls Try.prog 28 #[.slice a n c, .int .i64 size] w fun e w' => e = .returned (.bool (fitsB n size)) ∧ w = w' := by
  by_cases h1 : n ≤ 600
  · have h1' : decide ((n : Int) ≤ 600) = true := by simp; omega
    by_cases h2 : 0 ≤ size
    · have h2' : decide (0 ≤ size) = true := by simpa using h2
      have hf : fitsB n size = decide (size ≤ 40) := by simp [fitsB, h1, h2]
      rw [hf]
      clear hf
      go_enter Try.func28, Try.ntmps28
      go_wp2
      go_ret
      exact ⟨rfl, rfl⟩
    · have h2' : decide (0 ≤ size) = false := by simpa using h2
      have hf : fitsB n size = false := by simp [fitsB, h2]
      rw [hf]
      clear hf
      go_enter Try.func28, Try.ntmps28
      go_wp2
      go_ret
      exact ⟨rfl, rfl⟩
  · have h1' : decide ((n : Int) ≤ 600) = false := by simp; omega
    have hf : fitsB n size = false := by simp [fitsB, h1]
    rw [hf]
    clear hf
    go_enter Try.func28, Try.ntmps28
    go_wp2
    go_ret
    exact ⟨rfl, rfl⟩
end Go.Proofs.Ytlelonbakckkgaa
namespace Go.Proofs.Ytlelonbakckkgaa
set_option linter.unusedVariables false
set_option linter.unusedSimpArgs false
open Go.RowKit Go.Maps
theorem Try.lawInt : Keyed Try.prog 3 := int_keyed Try.underlying3
set_option maxHeartbeats 400000 in
theorem implDistinct_big (a : Option Addr) (n c : Nat) (w : World) (h : ¬ n ≤ 600) :
    Calls Try.prog 9 #[.slice a n c] w fun e w' => e = .returned (.int .i64 0) ∧ w = w' := by
  have h1 : decide (n ≤ 600) = false := by simp; omega
  go_enter Try.func9, Try.ntmps9
  go_wp2_with (go_at_call 22; refine (isTrace_any a n c _).mono ?_; rintro e w' ⟨rfl, rfl⟩)
  go_ret
  exact ⟨rfl, rfl⟩

set_option maxHeartbeats 800000 in
theorem implDistinct_small (a : Option Addr) (n c : Nat) (xs : List Int) (w : World) (hx : IntsA w a n c xs) (h6 : n ≤ 600) (hwf : ∀ x ∈ xs, (Lit.int .i64 x).wf = true) :
    Calls Try.prog 9 #[.slice a n c] w fun e w' => e = .returned (.int .i64 (uniq xs).length) ∧ Below w.heap.size w w' := by
  have h1 : decide (n ≤ 600) = true := by simp; omega
  have hmm := @run_makeMap Try.prog
  go_enter Try.func9, Try.ntmps9
  go_wp2_with (go_at_call 22; refine (isTrace_any a n c _).mono ?_; rintro e w' ⟨rfl, rfl⟩)
  go_loopw [12] (fun i wr => ∃ k : Nat, k ≤ n ∧ i = .int .i64 k ∧ wr.ownsMap Try.prog 3 (plainElem Try.prog 4) w.heap.size k (setI (xs.take k)) ∧ Below w.heap.size w wr) (fun i _ => n - (intOf i).toNat)
  case atStart => exact ⟨0, Nat.zero_le _, rfl, by rw [List.take_zero, setI_nil]; exact World.ownsMap_made _ _ _ _, (Below.refl _ _).alloc (Nat.le_refl _) _⟩
  case round =>
    obtain ⟨k, hk, rfl, hown, hb⟩ := hrel
    clear hmm
    by_cases hlt : k < n
    · obtain ⟨ba, oa, ha, hlb, hca⟩ := hx.at (by omega)
      have h2 : wr.cell? ⟨ba, oa + k, none⟩ = _ := (hb.cell hlb).trans (hca k hlt)
      subst ha
      have ht := take_snoc (xs := xs) (k := k) (by rw [hx.1]; exact hlt)
      have hkey : keyOf Try.prog 3 (.int .i64 (xs[k]?.getD 0)) = some (.int .i64 (xs[k]?.getD 0)) := keyOf_int_mk Try.underlying3 (hwf _ (by rw [List.getElem?_eq_getElem (by rw [hx.1]; exact hlt)]; exact List.getElem_mem _))
      have HT := hid ht; clear ht hca
      go_wp2_with (at_mapUpdate; refine wpList_mapUpdate_own _ rfl _ _ _ 38 rfl 3 4 Try.lawInt Try.underlying38 (plainElem (H := Unit) Try.prog 4) w.heap.size k _ rfl hown (by unfold maxLen; omega) _ _ _ rfl rfl hkey _ [] (plainElem_bool Try.underlying4 true) ?_; intro w1 hown1 hgrow1)
      exact ⟨⟨k + 1, by omega, rfl, by rw [HT.out, setI_snoc]; exact hown1, hb.grown hgrow1 hb.size (fun j hj => by cases hj; exact Nat.le_refl _)⟩, by simp [intOf]; omega⟩
    · have : k = n := by omega
      subst this
      go_wp2_with (at_len; refine wpList_len_own _ rfl _ 38 rfl 3 4 Try.underlying38 _ w.heap.size k _ rfl hown ?_)
      go_ret
      exact ⟨ret_int (by rw [size_setI, List.take_of_length_le (by rw [hx.1]; omega)]), hb⟩
theorem implDistinct_any (a : Option Addr) (n c : Nat) (xs : List Int) (w : World) (hx : IntsA w a n c xs) (hwf : ∀ x ∈ xs, (Lit.int .i64 x).wf = true) :
    Calls Try.prog 9 #[.slice a n c] w fun e w' => e = .returned (.int .i64 (dist xs)) ∧ Below w.heap.size w w' := by
  unfold dist
  rw [hx.1]
  by_cases h : n ≤ 600
  · rw [if_pos h]; exact implDistinct_small a n c xs w hx h hwf
  · rw [if_neg h]; exact (implDistinct_big a n c w h).mono fun e w' ⟨he, hw⟩ => ⟨he, hw ▸ Below.refl _ _⟩
end Go.Proofs.Ytlelonbakckkgaa
namespace Go.Proofs.Ytlelonbakckkgaa
set_option linter.unusedVariables false
set_option linter.unusedSimpArgs false
theorem nodup_len : ∀ {l m : List Int}, l.Nodup → (∀ x ∈ l, x ∈ m) → l.length ≤ m.length
  | [], _, _, _ => Nat.zero_le _
  | a :: l, m, hn, hs => by
    have ha : a ∈ m := hs a (List.mem_cons_self ..)
    have hn' := List.nodup_cons.1 hn
    have := nodup_len (l := l) (m := m.erase a) hn'.2 (fun x hx => (List.mem_erase_of_ne (fun e : x = a => hn'.1 (e ▸ hx))).2 (hs x (List.mem_cons_of_mem _ hx)))
    rw [List.length_erase_of_mem ha] at this
    have hp : 0 < m.length := List.length_pos_of_mem ha
    rw [List.length_cons]
    omega
theorem nodup_len_eq {l m : List Int} (hl : l.Nodup) (hm : m.Nodup) (h : ∀ x, x ∈ l ↔ x ∈ m) : l.length = m.length :=
  Nat.le_antisymm (nodup_len hl fun x hx => (h x).1 hx) (nodup_len hm fun x hx => (h x).2 hx)

theorem nodup_addI {acc : List Int} {x : Int} (h : acc.Nodup) : (addI acc x).Nodup := by
  unfold addI
  split
  · exact h
  · rename_i hc
    rw [List.contains_eq_mem, decide_eq_true_iff] at hc
    rw [List.nodup_append]
    refine ⟨h, by simp, fun a ha b hb => ?_⟩
    rw [List.mem_singleton] at hb
    subst hb
    exact fun e => hc (e ▸ ha)
theorem nodup_uniq (xs : List Int) : (uniq xs).Nodup := by
  suffices h : ∀ acc : List Int, acc.Nodup → (xs.foldl addI acc).Nodup from h [] List.nodup_nil
  induction xs with
  | nil => exact fun _ h => h
  | cons x xs ih => exact fun acc h => ih _ (nodup_addI h)

/-- The cells of xs, the one used last first. -/
def stk (xs : List Int) : List Int := xs.foldl (fun st x => x :: st.filter (fun y => decide (y ≠ x))) []
theorem stk_snoc (xs : List Int) (x : Int) : stk (xs ++ [x]) = x :: (stk xs).filter (fun y => decide (y ≠ x)) := by simp [stk, List.foldl_append]
theorem snoc_ind {P : List Int → Prop} (h0 : P []) (h1 : ∀ xs x, P xs → P (xs ++ [x])) (xs : List Int) : P xs := by
  have : ∀ ys : List Int, P ys.reverse := by
    intro ys
    induction ys with
    | nil => exact h0
    | cons y ys ih => rw [List.reverse_cons]; exact h1 _ _ ih
  have h := this xs.reverse
  rwa [List.reverse_reverse] at h
theorem mem_stk (xs : List Int) : ∀ y, y ∈ stk xs ↔ y ∈ xs := by
  induction xs using snoc_ind with
  | h0 => simp [stk]
  | h1 xs x ih =>
    intro y
    rw [stk_snoc, List.mem_cons, List.mem_filter, ih, List.mem_append, List.mem_singleton]
    by_cases e : y = x <;> simp [e]
theorem nodup_stk (xs : List Int) : (stk xs).Nodup := by
  induction xs using snoc_ind with
  | h0 => exact List.nodup_nil
  | h1 xs x ih =>
    rw [stk_snoc, List.nodup_cons]
    exact ⟨by simp, ih.filter _⟩
theorem stk_len (zs : List Int) : (stk zs).length = (uniq zs).length :=
  nodup_len_eq (nodup_stk zs) (nodup_uniq zs) fun x => by rw [mem_stk, mem_uniq]
theorem stk_le (zs : List Int) : (stk zs).length ≤ zs.length := by rw [stk_len]; exact uniq_le zs
/-- The position of x in the stack, -1 if it is not there. -/
def posIn (st : List Int) (x : Int) : Int := if x ∈ st then (st.idxOf x : Int) else -1
/-- The i-th stack distance of xs. -/
def sd (xs : List Int) (i : Nat) : Int := posIn (stk (xs.take i)) (xs[i]?.getD 0)
def sds (xs : List Int) (n : Nat) : List Int := (List.range n).map (sd xs)
theorem sds_succ (xs : List Int) (n : Nat) : sds xs (n + 1) = sds xs n ++ [sd xs n] := by simp [sds, List.range_succ]
theorem sds_length (xs : List Int) (n : Nat) : (sds xs n).length = n := by simp [sds]

theorem posIn_none {st : List Int} {x : Int} (h : x ∉ st) : posIn st x = -1 := if_neg h
theorem posIn_at {st : List Int} {x : Int} {p : Nat} (hn : st.Nodup) (hp : p < st.length) (h : st[p]?.getD 0 = x) : posIn st x = p := by
  rw [List.getElem?_eq_getElem hp] at h
  simp only [Option.getD_some] at h
  have hm : x ∈ st := h ▸ List.getElem_mem hp
  rw [posIn, if_pos hm]
  congr 1
  subst h
  exact hn.idxOf_getElem p hp
theorem posIn_nil (x : Int) : posIn [] x = -1 := posIn_none (by simp)
theorem posIn_hit {st : List Int} {x : Int} {j : Nat} (hn : st.Nodup) (hj : j < st.length) (h : (st[j]?.getD 0 == x) = true) : posIn (st.take (j + 1)) x = j :=
  posIn_at (List.Nodup.sublist (List.take_sublist _ _) hn) (by rw [List.length_take]; omega) (by rw [List.getElem?_take, if_pos (by omega)]; exact beq_iff_eq.1 h)
theorem posIn_miss {st : List Int} {x : Int} {j : Nat} (hj : j < st.length) (h : (st[j]?.getD 0 == x) = false) : posIn (st.take (j + 1)) x = posIn (st.take j) x := by
  rw [take_snoc hj]
  have hne : x ≠ st[j]?.getD 0 := fun e => by rw [← e] at h; simp at h
  unfold posIn
  by_cases hm : x ∈ st.take j
  · rw [if_pos hm, if_pos (by simp [hm]), List.idxOf_append, if_pos hm]
  · rw [if_neg hm, if_neg (by simp [hm]; exact hne)]
def others (st : List Int) (x : Int) : List Int := st.filter (fun y => decide (y ≠ x))
theorem others_hit {st : List Int} {x : Int} {j : Nat} (hj : j < st.length) (h : (st[j]?.getD 0 == x) = true) : others (st.take (j + 1)) x = others (st.take j) x := by
  rw [take_snoc hj, others, List.filter_append, List.filter_cons, if_neg (by simpa using h)]; simp [others]
theorem others_miss {st : List Int} {x : Int} {j : Nat} (hj : j < st.length) (h : (st[j]?.getD 0 == x) = false) : others (st.take (j + 1)) x = others (st.take j) x ++ [st[j]?.getD 0] := by
  rw [take_snoc hj, others, List.filter_append, List.filter_cons, if_pos (by simpa using h)]; simp [others]
theorem others_le (st : List Int) (x : Int) : (others st x).length ≤ st.length := List.length_filter_le _ _
end Go.Proofs.Ytlelonbakckkgaa
namespace Go.Proofs.Ytlelonbakckkgaa
set_option linter.unusedVariables false
set_option linter.unusedSimpArgs false
open Go.RowKit
set_option maxHeartbeats 800000 in
theorem specStack_small (a : Option Addr) (n c : Nat) (xs : List Int) (w : World) (hx : IntsA w a n c xs) (h6 : n ≤ 600) :
    Calls Try.prog 15 #[.slice a n c] w fun e w' => (∃ v, e = .returned v ∧ OwnS w' w.heap.size v (sds xs n)) ∧ Below w.heap.size w w' := by
  have h1 : decide ((600 : Int) < (n : Int)) = false := by simp; omega
  go_enter Try.func15, Try.ntmps15
  go_wp2_with fail
  go_loopw [3, 4, 5] (fun vo vs i wr => ∃ k : Nat, k ≤ n ∧ i = .int .i64 k ∧ OwnS wr w.heap.size vo (sds xs k) ∧ OwnS wr w.heap.size vs (stk (xs.take k)) ∧ Dis vo vs ∧ Below w.heap.size w wr) (fun _ _ i _ => n - (intOf i).toNat)
  case atStart =>
    have ho : OwnS (w.alloc (.cells #[] 3)) w.heap.size (.slice (some ⟨w.heap.size, 0, none⟩) 0 0) [] := OwnS.empty w (Nat.le_refl _)
    have hs := OwnS.empty (w.alloc (.cells #[] 3)) (B := w.heap.size) (by simp)
    have hd := Dis.new ho 0 0
    rw [World.size_alloc] at hs hd
    exact ⟨0, Nat.zero_le _, rfl, ho.alloc _, hs, hd, ((Below.refl _ _).alloc (Nat.le_refl _) _).alloc (by simp) _⟩
  case round =>
    obtain ⟨k, hk, rfl, ho, hs, hd, hb⟩ := hrel
    obtain ⟨wo, rfl⟩ : ∃ wo : World, wo = wr := ⟨_, rfl⟩
    have hsl : (stk (xs.take k)).length ≤ 600 := Nat.le_trans (stk_le _) (Nat.le_trans (List.length_take_le _ _) (by omega))
    have hnd := nodup_stk (xs.take k)
    generalize hst : stk (xs.take k) = st at hs hsl hnd
    have Hst := hid hst; clear hst
    by_cases hlt : k < n
    · obtain ⟨ast, cst, rfl, his, has⟩ := hs.form (by omega)
      obtain ⟨ba, oa, ha, hlb, hca⟩ := hx.at (by omega)
      have h2 : wo.cell? ⟨ba, oa + k, none⟩ = _ := (hb.cell hlb).trans (hca k hlt)
      generalize hxk : xs.getD k 0 = x at h2
      have h2w : Hid (w.cell? ⟨ba, oa + k, none⟩ = some (.int .i64 x)) := hid (by rw [← hxk]; exact hca k hlt)
      have Hxk := hid hxk; clear hxk
      subst ha
      clear hca
      go_wp2_with fail
      go_loopw [6, 7, 8] (fun q vr kk wi => ∃ j : Nat, j ≤ st.length ∧ kk = .int .i64 j ∧ q = .int .i64 (posIn (st.take j) x) ∧ OwnS wi wo.heap.size vr (others (st.take j) x) ∧ Below wo.heap.size wo wi) (fun _ _ kk _ => st.length - (intOf kk).toNat)
      case atStart => exact ⟨0, Nat.zero_le _, rfl, int_i64 (posIn_nil _).symm, OwnS.empty wo (Nat.le_refl _), (Below.refl _ _).alloc (Nat.le_refl _) _⟩
      case round =>
        obtain ⟨j, hj, rfl, rfl, hr, hb2⟩ := hrel
        have hbs := hb2.size
        by_cases hlt2 : j < st.length
        · have h3 : wr.cell? _ = _ := (hb2.cell (World.block_lt_of_cell? _ _ h2)).trans h2
          obtain ⟨g, hg, _, hgl, _, hcs, _⟩ := hs.at (by omega)
          have h4 : wr.cell? _ = _ := (hb2.cell (p := ⟨g, j, none⟩) hgl).trans (hcs j hlt2)
          have hol := others_le (st.take j) x
          have htl : (st.take j).length ≤ j := List.length_take_le _ _
          subst hg
          clear hcs h2
          generalize hy : st.getD j 0 = y at h4
          have hy' : st[j]?.getD 0 = y := by rw [← hy]; rfl
          have Hy := hid hy'; clear hy hy'
          cases he : (y == x)
          · have hx1 : posIn (st.take (j + 1)) x = posIn (st.take j) x := posIn_miss hlt2 (by rw [Hy.out]; exact he)
            have hx2 : others (st.take (j + 1)) x = others (st.take j) x ++ [y] := by rw [others_miss hlt2 (by rw [Hy.out]; exact he), Hy.out]
            have H1 := hid hx1; have H2 := hid hx2; clear hx1 hx2
            go_wp2_with fail
            go_quiet (fail)
            go_wp2_with (at_builtin; go_must (refine wpList_app1 _ rfl _ _ rfl wo.heap.size _ _ rfl (OwnS.alloc hr.drewN _) wr.heap.size y rfl ?_ ?c1 ?c2 ?c3); intro v' w1 hp)
            case c1 => exact cell_new (wr.drewN nq) _ _
            case c2 => omega
            case c3 => rw [World.size_alloc]; show wo.heap.size ≤ wr.heap.size + 1; omega
            have hr1 : OwnS ((wr.drewN nq).alloc (.cells #[.int .i64 y] 3)) wo.heap.size _ _ := OwnS.alloc hr.drewN _
            exact ⟨⟨j + 1, by omega, rfl, int_i64 H1.out.symm, by rw [H2.out]; exact hp.own, hp.below hr1 ((belowN hb2).alloc hbs _) (Nat.le_refl _) (by rw [World.size_alloc]; show wo.heap.size ≤ wr.heap.size + 1; omega)⟩, by simp [intOf]; omega⟩
          · have hx1 : posIn (st.take (j + 1)) x = j := posIn_hit hnd hlt2 (by rw [Hy.out]; exact he)
            have hx2 : others (st.take (j + 1)) x = others (st.take j) x := others_hit hlt2 (by rw [Hy.out]; exact he)
            have H1 := hid hx1; have H2 := hid hx2; clear hx1 hx2
            go_wp2_with fail
            go_quiet (fail)
            go_wp2_with fail
            exact ⟨⟨j + 1, by omega, rfl, int_i64 H1.out.symm, by rw [H2.out]; exact hr.drewN, belowN hb2⟩, by simp [intOf]; omega⟩
        · have hje : j = st.length := by omega
          subst hje
          rw [List.take_length] at hr ⊢
          have ho1 := ho.below' hb2
          have hs1 := hs.below' hb2
          have hole := others_le st x
          have hdr : Dis (.slice ast st.length cst) u7 := fun q hq e => absurd (hs.lt q hq).2 (by have := (hr.lt q e).1; omega)
          have h5 : wr.cell? _ = _ := (hb2.cell (World.block_lt_of_cell? _ _ h2)).trans h2
          have hsk := sds_length xs k
          have hbw := hb.trans (hb2.mono hb.size)
          have hwsz := hbw.size
          have hdo : Dis u7 u3 := fun q hq e => absurd (ho.lt q e).2 (by have := (hr.lt q hq).1; omega)
          obtain ⟨ar, cr, rfl, _, _⟩ := hr.form (by omega)
          have tok1 : True := trivial
          go_wp2_with (first
            | (at_builtin; have _t := tok1; go_must (refine wpList_app1 _ rfl _ _ rfl w.heap.size u3 (sds xs k) rfl (ho1.alloc _) wr.heap.size (posIn st x) rfl ?_ ?d1 ?d2 ?d3); intro v' w1 hp; have hb6 := hp.below (ho1.alloc _) (hbw.alloc hwsz _) (Nat.le_refl _) (by rw [World.size_alloc]; omega); have h6 := (hb6.cell (p := ⟨ba, oa + k, none⟩) hlb).trans h2w.out; have hr7 := (hr.alloc (.cells #[.int .i64 (posIn st x)] 3)).kept hp.grown hdo; clear tok1)
            | (at_builtin; go_must (refine wpList_appS _ rfl _ _ rfl w.heap.size wo.heap.size _ [x] rfl (OwnS.one w1 hb6.size x) _ _ _ (others st x) rfl (hr7.alloc _) ?_ ?e4 ?e5); intro v2 w2 hp2))
          case d1 => exact cell_new wr _ _
          case d2 => omega
          case d3 => rw [World.size_alloc]; omega
          case e4 => rw [List.length_singleton]; omega
          case e5 => rw [World.size_alloc]; have := hb6.size; omega
          have hown2 : OwnS (w1.alloc (.cells #[.int .i64 x] 3)) w.heap.size (.slice (some ⟨w1.heap.size, 0, none⟩) 1 1) [x] := OwnS.one w1 hb6.size x
          have hv1 : OwnS w1 w.heap.size v' (sds xs k ++ [posIn st x]) := hp.own
          have e1 : sds xs (k + 1) = sds xs k ++ [posIn st x] := by rw [sds_succ, sd, Hst.out, ← Hxk.out]; rfl
          have e2 : stk (xs.take (k + 1)) = x :: others st x := by rw [take_snoc (by rw [hx.1]; exact hlt), stk_snoc, Hst.out, ← Hxk.out]; rfl
          have hd9 : Dis v' (.slice (some ⟨w1.heap.size, 0, none⟩) 1 1) := Dis.new hv1 1 1
          refine ⟨⟨k + 1, by omega, rfl, by rw [e1]; exact (hv1.alloc _).kept hp2.grown hd9, by rw [e2]; exact hp2.own, hp2.dis hd9 (fun q hq => by have := (hv1.lt q hq).2; rw [World.size_alloc]; omega), hp2.below hown2 (hb6.alloc hb6.size _) (Nat.le_refl _) (by rw [World.size_alloc]; have := hb6.size; omega)⟩, by simp [intOf]; omega⟩
    · have : k = n := by omega
      subst this
      go_wp2
      go_ret
      exact ⟨⟨_, rfl, ho⟩, hb⟩
end Go.Proofs.Ytlelonbakckkgaa
namespace Go.Proofs.Ytlelonbakckkgaa
set_option linter.unusedVariables false
set_option linter.unusedSimpArgs false
open Go.RowKit Go.Maps
theorem OwnS.shape2 {w : World} {B : Nat} {v : Value} {xs : List Int} (h : OwnS w B v xs) : ∃ a cap, v = .slice a xs.length cap := by
  rcases h.2 with ⟨rfl, h0⟩ | ⟨g, cap, cur, rfl, _⟩
  · exact ⟨none, 0, by rw [h0]⟩
  · exact ⟨_, cap, rfl⟩
/-- The stack distances of a list that is short enough. -/
def dists (xs : List Int) : List Int := if xs.length ≤ 600 then sds xs xs.length else []
theorem dists_length (xs : List Int) : (dists xs).length ≤ 600 := by
  unfold dists
  split
  · rw [sds_length]; omega
  · simp

set_option maxHeartbeats 400000 in
theorem specStack_any (a : Option Addr) (n c : Nat) (xs : List Int) (w : World) (hx : IntsA w a n c xs) :
    Calls Try.prog 15 #[.slice a n c] w fun e w' => (∃ v, e = .returned v ∧ OwnS w' w.heap.size v (dists xs)) ∧ Below w.heap.size w w' := by
  unfold dists
  rw [hx.1]
  by_cases h : n ≤ 600
  · rw [if_pos h]; exact specStack_small a n c xs w hx h
  · rw [if_neg h]
    have h1 : decide ((600 : Int) < (n : Int)) = true := by simp; omega
    go_enter Try.func15, Try.ntmps15
    go_wp2
    go_ret
    exact ⟨⟨_, rfl, OwnS.empty w (Nat.le_refl _)⟩, (Below.refl _ _).alloc (Nat.le_refl _) _⟩
end Go.Proofs.Ytlelonbakckkgaa
namespace Go.Proofs.Ytlelonbakckkgaa
set_option linter.unusedVariables false
set_option linter.unusedSimpArgs false
open Go.RowKit

end Go.Proofs.Ytlelonbakckkgaa
namespace Go.Proofs.Ytlelonbakckkgaa
set_option linter.unusedVariables false
set_option linter.unusedSimpArgs false
/-- What a cache of a size holds behind the use of a cell, the cell used last at the end. -/
def lruStep (size : Nat) (h : List Int) (x : Int) : List Int :=
  let h1 := (if x ∈ h then h.eraseIdx (h.idxOf x) else h) ++ [x]
  if size < h1.length then h1.drop 1 else h1
def lruTop (size : Nat) (st : List Int) : List Int := (st.take size).reverse
theorem nodup_sub {l m : List Int} (h : l.Nodup) (s : m.Sublist l) : m.Nodup := List.Nodup.sublist s h
theorem erase_others {t : List Int} (hn : t.Nodup) (x : Int) : (if x ∈ t.reverse then t.reverse.eraseIdx (t.reverse.idxOf x) else t.reverse) = (others t x).reverse := by
  have hr : t.reverse.Nodup := by unfold List.Nodup at hn ⊢; rw [List.pairwise_reverse]; exact hn.imp (fun h e => h e.symm)
  have e : t.reverse.erase x = (others t x).reverse := by
    rw [hr.erase_eq_filter, others, ← List.filter_reverse]
    apply List.filter_congr
    intro y _
    by_cases h : y = x <;> simp [h]
  split
  · rename_i h
    rw [← e, List.erase_eq_eraseIdx_of_idxOf rfl]
  · rename_i h
    rw [← e, List.erase_of_not_mem h]
theorem others_append (a b : List Int) (x : Int) : others (a ++ b) x = others a x ++ others b x := by simp [others]
theorem others_not {t : List Int} {x : Int} (h : x ∉ t) : others t x = t := by
  rw [others, List.filter_eq_self]
  intro y hy
  simp
  exact fun e => h (e ▸ hy)
theorem others_mem_len {t : List Int} (hn : t.Nodup) {x : Int} (h : x ∈ t) : (others t x).length + 1 = t.length := by
  have e : t.erase x = others t x := by
    rw [hn.erase_eq_filter, others]
    apply List.filter_congr
    intro y _
    by_cases h : y = x <;> simp [h]
  have hp := List.length_pos_of_mem h
  rw [← e, List.length_erase_of_mem h]; omega
theorem lru_step (size : Nat) {st : List Int} (hn : st.Nodup) (x : Int) : lruStep size (lruTop size st) x = lruTop size (x :: others st x) := by
  have hT : (st.take size).Nodup := nodup_sub hn (List.take_sublist _ _)
  have hlT : (st.take size).length ≤ size := List.length_take_le _ _
  have hO : others st x = others (st.take size) x ++ others (st.drop size) x := by rw [← others_append, List.take_append_drop]
  have hR : (st.take size).length = size ∨ st.drop size = [] := by
    rw [List.length_take, List.drop_eq_nil_iff]; omega
  unfold lruStep lruTop
  rw [erase_others hT, hO]
  generalize hTT : st.take size = T at *
  generalize st.drop size = R at *
  have e1 : (others T x).reverse ++ [x] = (x :: others T x).reverse := by rw [List.reverse_cons]
  have hk : (others T x).length ≤ T.length := others_le T x
  simp only [e1]
  rw [List.length_reverse, List.length_cons]
  by_cases hgt : size < (others T x).length + 1
  · rw [if_pos hgt]
    have hks : (others T x).length = size := by omega
    rw [← List.reverse_reverse (List.drop 1 _)]
    congr 1
    rw [List.reverse_drop, List.reverse_reverse, List.length_reverse, List.length_cons, hks, Nat.add_sub_cancel]
    rw [← List.cons_append, List.take_append_of_le_length (by rw [List.length_cons]; omega)]
  · rw [if_neg hgt]
    congr 1
    rcases hR with h | h
    · by_cases hm : x ∈ T
      · have := others_mem_len hT hm
        rw [← List.cons_append, List.take_append_of_le_length (by rw [List.length_cons]; omega), List.take_of_length_le (by rw [List.length_cons]; omega)]
      · rw [others_not hm] at hgt; omega
    · subst h
      rw [show others [] x = [] from rfl, List.append_nil, List.take_of_length_le (by rw [List.length_cons]; omega)]

/-- Is an access at this distance a miss? -/
def isMiss (size d : Int) : Bool := decide (d < 0) || decide (size ≤ d)
theorem miss_iff {st : List Int} (_ : st.Nodup) (size : Nat) (x : Int) : isMiss size (posIn st x) = !decide (x ∈ lruTop size st) := by
  have hm : x ∈ lruTop size st ↔ x ∈ st ∧ st.idxOf x < size := by
    rw [lruTop, List.mem_reverse]
    constructor
    · intro h
      refine ⟨List.mem_of_mem_take h, ?_⟩
      have := List.idxOf_lt_length_of_mem h
      have e : st.idxOf x = (st.take size).idxOf x := by
        conv => lhs; rw [← List.take_append_drop size st]
        rw [List.idxOf_append, if_pos h]
      rw [e]
      exact Nat.lt_of_lt_of_le this (List.length_take_le _ _)
    · rintro ⟨h1, h2⟩
      rw [List.mem_take_iff_getElem]
      exact ⟨st.idxOf x, by have := List.idxOf_lt_length_of_mem h1; omega, List.getElem_idxOf _⟩
  unfold isMiss posIn
  by_cases h : x ∈ st
  · rw [if_pos h]
    by_cases h2 : st.idxOf x < size
    · have : x ∈ lruTop size st := hm.2 ⟨h, h2⟩
      simp [this]; omega
    · have : x ∉ lruTop size st := fun hc => h2 (hm.1 hc).2
      simp [this]; omega
  · rw [if_neg h]
    have : x ∉ lruTop size st := fun hc => h (hm.1 hc).1
    simp [this]
def misses (size : Int) (ds : List Int) : Nat := (ds.filter (isMiss size)).length
theorem misses_snoc (size : Int) (ds : List Int) (d : Int) : misses size (ds ++ [d]) = misses size ds + (isMiss size d).toNat := by
  unfold misses
  rw [List.filter_append, List.length_append]
  cases h : isMiss size d <;> simp [List.filter_cons, h]
theorem misses_le (size : Int) (ds : List Int) : misses size ds ≤ ds.length := List.length_filter_le _ _
end Go.Proofs.Ytlelonbakckkgaa
namespace Go.Proofs.Ytlelonbakckkgaa
set_option linter.unusedVariables false
set_option linter.unusedSimpArgs false
open Go.RowKit
def lruOf (xs : List Int) (size : Int) : Int := if fitsB xs.length size then misses size (dists xs) else -1

set_option maxHeartbeats 800000 in
theorem specLru_yes (a : Option Addr) (n c : Nat) (size : Int) (xs : List Int) (w : World) (hx : IntsA w a n c xs) (hf : fitsB n size = true) :
    Calls Try.prog 18 #[.slice a n c, .int .i64 size] w fun e w' => e = .returned (.int .i64 (misses size (dists xs))) ∧ Below w.heap.size w w' := by
  have hdl := dists_length xs
  go_enter Try.func18, Try.ntmps18
  go_wp2_with (first
    | (go_at_call 28; refine (l10Fits_any _ _ _ _ _).mono ?_; rintro e w' ⟨rfl, rfl⟩)
    | (go_at_call 15; refine (specStack_any _ _ _ xs _ hx).mono ?_; rintro e w' ⟨⟨v, rfl, o⟩, hb⟩; obtain ⟨a1, c1, rfl⟩ := o.shape2))
  have hI := o.intsA (by omega)
  generalize hds : dists xs = ds at hI hdl
  have Hds := hid hds; clear hds
  go_loopw [5, 7] (fun q i wr => ∃ k : Nat, k ≤ ds.length ∧ i = .int .i64 k ∧ q = .int .i64 (misses size (ds.take k)) ∧ Quiet w' wr) (fun _ i _ => ds.length - (intOf i).toNat)
  case atStart => exact ⟨0, Nat.zero_le _, rfl, rfl, Quiet.refl _⟩
  case round =>
    obtain ⟨k, hk, rfl, rfl, hq⟩ := hrel
    have hm := misses_le size (ds.take k)
    have hl : (ds.take k).length ≤ k := List.length_take_le _ _
    by_cases hlt : k < ds.length
    · obtain ⟨ba, oa, ha, _, hca⟩ := (hI.quiet hq).at (by omega)
      subst ha
      have h1 := hca k hlt
      have hs : ds.take (k + 1) = ds.take k ++ [ds.getD k 0] := take_snoc hlt
      generalize ds.getD k 0 = d at h1 hs
      have hms := misses_snoc size (ds.take k) d
      rw [← hs] at hms
      clear hs hca
      cases hd1 : decide (d < 0)
      · cases hd2 : decide (size ≤ d)
        · have hz : isMiss size d = false := by simp only [isMiss, hd1, hd2]; rfl
          rw [hz] at hms
          have Hms := hid hms; clear hms hz
          go_wp2
          exact ⟨⟨k + 1, by omega, rfl, int_i64 (by rw [Hms.out]; rfl), hq⟩, by simp [intOf]; omega⟩
        · have hz : isMiss size d = true := by simp only [isMiss, hd1, hd2]; rfl
          rw [hz] at hms
          have Hms := hid hms; clear hms hz
          go_wp2
          exact ⟨⟨k + 1, by omega, rfl, int_i64 (by rw [Hms.out]; simp), hq⟩, by simp [intOf]; omega⟩
      · have hz : isMiss size d = true := by simp only [isMiss, hd1]; rfl
        rw [hz] at hms
        have Hms := hid hms; clear hms hz
        go_wp2
        exact ⟨⟨k + 1, by omega, rfl, int_i64 (by rw [Hms.out]; simp), hq⟩, by simp [intOf]; omega⟩
    · have hke : k = ds.length := by omega
      subst hke
      go_wp2
      go_ret
      exact ⟨ret_int (by rw [List.take_length, Hds.out]), hb.trans (hq.below _)⟩
theorem specLru_any (a : Option Addr) (n c : Nat) (size : Int) (xs : List Int) (w : World) (hx : IntsA w a n c xs) :
    Calls Try.prog 18 #[.slice a n c, .int .i64 size] w fun e w' => e = .returned (.int .i64 (lruOf xs size)) ∧ Below w.heap.size w w' := by
  unfold lruOf
  rw [hx.1]
  cases hf : fitsB n size
  · rw [if_neg (by simp)]
    go_enter Try.func18, Try.ntmps18
    go_wp2_with (go_at_call 28; refine (l10Fits_any _ _ _ _ _).mono ?_; rintro e w' ⟨rfl, rfl⟩)
    go_ret
    exact ⟨rfl, Below.refl _ _⟩
  · rw [if_pos rfl]
    exact specLru_yes a n c size xs w hx hf

theorem OwnI.tail {B n c : Nat} {a : Option Addr} {w : World} {ys : List Int} (h : OwnI B w (.slice a (n + 1) c) ys) :
    OwnI B w (.slice (if c = 1 then a else Option.map (fun x => { block := x.block, off := x.off + 1 }) a) n (c - 1)) (ys.drop 1) := by
  obtain ⟨g, off, rfl, _⟩ := h.at (by omega)
  obtain ⟨h1, h2, h3, h4, cur, h5, h6, h7⟩ := h.cells
  by_cases hc : c = 1
  · rw [if_pos hc]
    subst hc
    have hn : n = 0 := by omega
    subst hn
    have e0 : ys.drop 1 = [] := List.drop_of_length_le (by omega)
    exact OwnI.of_cells (by rw [List.length_drop, h1]) h2 (by omega) (by unfold maxLen; omega) h5 (by omega) (by rw [e0]; rfl)
  · rw [if_neg hc]
    refine OwnI.of_cells (by rw [List.length_drop, h1]; omega) h2 (by omega) (by unfold maxLen at h4 ⊢; omega) h5 (by show off + 1 + (c - 1) ≤ cur.size; omega) ?_
    rw [List.map_drop, ← h7, ← List.drop_drop, List.drop_take]
    congr 1
set_option maxHeartbeats 800000 in
theorem implLru_yes (a : Option Addr) (n c : Nat) (size : Int) (xs : List Int) (w : World) (hx : IntsA w a n c xs) (hf : fitsB n size = true) :
    Calls Try.prog 17 #[.slice a n c, .int .i64 size] w fun e w' => e = .returned (.int .i64 (misses size (sds xs n))) ∧ Below w.heap.size w w' := by
  obtain ⟨h6, hs0, hs40⟩ := of_decide_eq_true hf
  obtain ⟨sz, rfl⟩ : ∃ sz : Nat, size = (sz : Int) := ⟨size.toNat, by omega⟩
  go_enter Try.func17, Try.ntmps17
  go_wp2_with (go_at_call 25; refine (isCache_any _ _ _ _ _).mono ?_; rintro e w' ⟨rfl, rfl⟩)
  go_loopw [5, 6, 16] (fun q vh i wr => ∃ k : Nat, k ≤ n ∧ i = .int .i64 k ∧ q = .int .i64 (misses sz (sds xs k)) ∧ OwnI w.heap.size wr vh (lruTop sz (stk (xs.take k))) ∧ Below w.heap.size w wr) (fun _ _ i _ => n - (intOf i).toNat)
  case atStart => exact ⟨0, Nat.zero_le _, rfl, rfl, (by rw [show lruTop sz (stk (xs.take 0)) = [] by simp [lruTop, stk]]; exact OwnI.nil _ _), Below.refl _ _⟩
  case round =>
    obtain ⟨k, hk, rfl, rfl, ho, hb⟩ := hrel
    have hml := misses_le sz (sds xs k)
    rw [sds_length] at hml
    by_cases hlt : k < n
    · obtain ⟨ba, oa, ha, hlb, hca⟩ := hx.at (by omega)
      have h2 : wr.cell? ⟨ba, oa + k, none⟩ = _ := (hb.cell hlb).trans (hca k hlt)
      generalize hxk : xs.getD k 0 = x at h2
      subst ha
      have hst := nodup_stk (xs.take k)
      have hstep := lru_step sz hst x
      have hmi := miss_iff hst sz x
      have hms := misses_snoc sz (sds xs k) (sd xs k)
      have hsd : sd xs k = posIn (stk (xs.take k)) x := by rw [sd, ← hxk]; rfl
      rw [← sds_succ, hsd] at hms
      have hnx : x :: others (stk (xs.take k)) x = stk (xs.take (k + 1)) := by
        rw [take_snoc (by rw [hx.1]; exact hlt), stk_snoc, ← hxk]; rfl
      rw [hnx] at hstep
      have hle : (lruTop sz (stk (xs.take k))).length ≤ sz := by rw [lruTop, List.length_reverse]; exact List.length_take_le _ _
      generalize lruTop sz (stk (xs.take k)) = h at ho hstep hmi hle
      have Hstep := hid hstep; have Hms := hid hms; have Hmi := hid hmi
      clear hca hst hstep hmi hms hsd hnx hxk
      obtain ⟨ah, ch, rfl, hhc⟩ := ho.shape
      have hs := ho.sl (by omega)
      have hbs := hb.size
      by_cases hm : x ∈ h
      · have hix : idx h x = (h.idxOf x : Int) := by rw [idx, if_pos hm]
        have hil : h.idxOf x < h.length := List.idxOf_lt_length_of_mem hm
        have hms2 : misses sz (sds xs (k + 1)) = misses sz (sds xs k) := by rw [Hms.out, Hmi.out]; simp [hm]
        have hst2 : lruTop sz (stk (xs.take (k + 1))) = let h1 := h.eraseIdx (h.idxOf x) ++ [x]; if sz < h1.length then h1.drop 1 else h1 := by rw [← Hstep.out, lruStep, if_pos hm]
        have hel : (h.eraseIdx (h.idxOf x)).length = h.length - 1 := by rw [List.length_eraseIdx, if_pos hil]
        obtain ⟨g, off, rfl, hgB, hgl, _, _⟩ := ho.at (by omega)
        generalize hip : h.idxOf x = p at hix hil hst2 hel
        have hst3 : lruTop sz (stk (xs.take (k + 1))) = h.eraseIdx p ++ [x] := by
          rw [hst2]; simp only [List.length_append, List.length_singleton, hel]; rw [if_neg (by omega)]
        have Hix := hid hix; have Hst := hid hst3; have Hms2 := hid hms2; have Hel := hid hel
        clear hix hst2 hst3 hms2 hel hip
        have hdec : decide ((sz : Int) < (h.length : Int)) = false := by simp; omega
        have HL : Hid ((h.eraseIdx p ++ [x]).length = h.length) := hid (by rw [List.length_append, Hel.out, List.length_singleton]; omega)
        go_wp2_with (first
          | (go_at_call 26; refine (index_any _ _ _ _ x h _ hs).mono ?_; rintro e w' ⟨rfl, rfl⟩; rw [Hix.out])
          | (go_at_call 27; refine (delete_own w.heap.size g off _ ch p h _ ho hil (by omega)).mono ?_; rintro e w1 ⟨rfl, o1, g1⟩; have hb1 := hb.grown g1 hbs (fun j hj => by cases hj; exact hgB); have hbs1 := hb1.size)
          | (at_builtin; go_must (refine wpList_app1I _ rfl _ _ rfl w.heap.size _ (h.eraseIdx p) rfl w1 x rfl o1 rfl ?_ ?c1 ?c2); intro v' w2 o2 g2 b2 _; have hb2 := (hb1.alloc hbs1 _).trans b2; obtain ⟨a2, c2, hv2, _⟩ := o2.shape; rw [HL.out] at hv2; subst hv2))
        case c1 => have := Hel.out; omega
        case c2 => omega
        exact ⟨⟨k + 1, by omega, rfl, int_i64 (by rw [Hms2.out]), by rw [Hst.out]; exact o2, hb2⟩, by simp [intOf]; omega⟩
      · have hix : idx h x = -1 := by rw [idx, if_neg hm]
        have hms2 : misses sz (sds xs (k + 1)) = misses sz (sds xs k) + 1 := by rw [Hms.out, Hmi.out]; simp [hm]
        have hst2 : lruTop sz (stk (xs.take (k + 1))) = let h1 := h ++ [x]; if sz < h1.length then h1.drop 1 else h1 := by rw [← Hstep.out, lruStep, if_neg hm]
        have hL : (h ++ [x]).length = h.length + 1 := by rw [List.length_append, List.length_singleton]
        simp only [hL] at hst2
        have Hix := hid hix; have Hms2 := hid hms2; have HL := hid hL
        clear hix hms2 hL
        by_cases hgt : sz < h.length + 1
        · rw [if_pos hgt] at hst2
          have Hst := hid hst2
          clear hst2
          have hdec : decide ((sz : Int) < (h.length : Int) + 1) = true := by simp; omega
          go_wp2_with (first
            | (go_at_call 26; refine (index_any _ _ _ _ x h _ hs).mono ?_; rintro e w' ⟨rfl, rfl⟩; rw [Hix.out])
            | (at_builtin; go_must (refine wpList_app1I _ rfl _ _ rfl w.heap.size _ h rfl wr x rfl ho rfl ?_ ?d1 ?d2); intro v' w2 o2 g2 b2 _; have hb2 := (hb.alloc hbs _).trans b2; obtain ⟨a2, c2, hv2, hc2⟩ := o2.shape; rw [HL.out] at hv2 hc2; subst hv2))
          case d1 => omega
          case d2 => omega
          exact ⟨⟨k + 1, by omega, rfl, int_i64 (by rw [Hms2.out]; omega), by rw [Hst.out]; exact o2.tail, hb2⟩, by simp [intOf]; omega⟩
        · rw [if_neg hgt] at hst2
          have Hst := hid hst2
          clear hst2
          have hdec : decide ((sz : Int) < (h.length : Int) + 1) = false := by simp; omega
          go_wp2_with (first
            | (go_at_call 26; refine (index_any _ _ _ _ x h _ hs).mono ?_; rintro e w' ⟨rfl, rfl⟩; rw [Hix.out])
            | (at_builtin; go_must (refine wpList_app1I _ rfl _ _ rfl w.heap.size _ h rfl wr x rfl ho rfl ?_ ?f1 ?f2); intro v' w2 o2 g2 b2 _; have hb2 := (hb.alloc hbs _).trans b2; obtain ⟨a2, c2, hv2, hc2⟩ := o2.shape; rw [HL.out] at hv2 hc2; subst hv2))
          case f1 => omega
          case f2 => omega
          exact ⟨⟨k + 1, by omega, rfl, int_i64 (by rw [Hms2.out]; omega), by rw [Hst.out]; exact o2, hb2⟩, by simp [intOf]; omega⟩
    · have hke : k = n := by omega
      subst hke
      go_wp2
      go_ret
      exact ⟨rfl, hb⟩

theorem implLru_any (a : Option Addr) (n c : Nat) (size : Int) (xs : List Int) (w : World) (hx : IntsA w a n c xs) :
    Calls Try.prog 17 #[.slice a n c, .int .i64 size] w fun e w' => e = .returned (.int .i64 (lruOf xs size)) ∧ Below w.heap.size w w' := by
  unfold lruOf
  rw [hx.1]
  cases hf : fitsB n size
  · rw [if_neg (by simp)]
    go_enter Try.func17, Try.ntmps17
    go_wp2_with (go_at_call 25; refine (isCache_any _ _ _ _ _).mono ?_; rintro e w' ⟨rfl, rfl⟩)
    go_ret
    exact ⟨rfl, Below.refl _ _⟩
  · rw [if_pos rfl, dists, if_pos (by rw [hx.1]; exact (of_decide_eq_true hf).1), hx.1]
    exact implLru_yes a n c size xs w hx hf
/-- A trace as it is drawn. -/
def TrOk (xs : List Int) : Prop := xs.length ≤ 601 ∧ ∀ x ∈ xs, -10 ≤ x ∧ x ≤ 1000
theorem trL_in {bs : List Int} (hb : Bytes bs) : ∀ (n : Nat) (o : List Int) (q : Nat), q + n ≤ 1000000000 → (∀ x ∈ o, -10 ≤ x ∧ x ≤ 1000) → ∀ x ∈ (trL bs n o q).1, -10 ≤ x ∧ x ≤ 1000
  | 0, o, q, _, h => h
  | n + 1, o, q, hq, h => by
    rw [trL]
    refine trL_in hb n _ _ (by omega) fun x hx => ?_
    rcases List.mem_append.1 hx with hx | hx
    · exact h x hx
    · rw [List.mem_singleton] at hx; subst hx
      have hm := numV_mem hb (p := q) (by omega) (xs := [0, 1, 2, 3, 4, 1, 0, 9, -1]) (by simp)
      simp at hm; omega
theorem trM_in {bs : List Int} (hb : Bytes bs) : ∀ (n : Nat) (o : List Int) (q : Nat), q + n ≤ 1000000000 → (∀ x ∈ o, -10 ≤ x ∧ x ≤ 1000) → ∀ x ∈ (trM bs n o q).1, -10 ≤ x ∧ x ≤ 1000
  | 0, o, q, _, h => h
  | n + 1, o, q, hq, h => by
    rw [trM]; split
    · refine trM_in hb n _ _ (by omega) fun x hx => ?_
      rcases List.mem_append.1 hx with hx | hx
      · exact h x hx
      · rw [List.mem_singleton] at hx; subst hx
        have := pickV_bd hb (p := q) (by omega) 5
        omega
    · exact h
theorem trD_in {bs : List Int} (hb : Bytes bs) {p : Nat} (hp : p ≤ 1000000) : ∀ x ∈ (trD bs p).1, -10 ≤ x ∧ x ≤ 1000 := by
  have hm := numV_mem hb (p := p + 1) (by omega) (xs := [8, 12, 5, 20, 0, 30]) (by simp)
  have hN : (numV bs (p + 1) [8, 12, 5, 20, 0, 30]).toNat ≤ 30 := by simp at hm; omega
  have h1 := trL_len bs (numV bs (p + 1) [8, 12, 5, 20, 0, 30]).toNat [] (p + 2)
  have h2 := trL_in hb (numV bs (p + 1) [8, 12, 5, 20, 0, 30]).toNat [] (p + 2) (by omega) (fun x h => by cases h)
  rw [← trA] at h1 h2
  unfold trD; split
  · exact trM_in hb 601 _ _ (by omega) h2
  · exact h2
theorem trcV_in (g : Prg) : ∀ x ∈ trcV g, -10 ≤ x ∧ x ≤ 1000 := by
  intro x hx
  unfold trcV at hx
  split at hx
  · rename_i hV
    obtain ⟨hS, _, _⟩ := prgV_s hV
    have hv := (prgS_iff.1 hS).1
    have htb := totN_bd hv
    obtain ⟨y, hy, hx⟩ := List.mem_flatMap.1 (List.mem_of_mem_take hx)
    obtain ⟨k, c, q, hI⟩ := ins_at hS hy
    obtain ⟨h1, h2, h3⟩ := use_in hv hI
    rcases List.mem_append.1 hx with hx | hx
    · have := h1 x hx; omega
    · rw [List.mem_singleton] at hx; subst hx; omega
  · cases hx
theorem trc_ok {bs : List Int} (hb : Bytes bs) {p : Nat} (hp : p ≤ 100000) : ∃ (xs : List Int) (q : Nat), TrOk xs ∧ q ≤ 2000000 ∧ Fn Try.prog 20 (hbR bs p) [vR] (.o (vD (dIs xs))) (hbR bs q) := by
  by_cases hk : pickV bs p 3 = 0
  · obtain ⟨g, q, h1, h2, h3⟩ := drawG8 hb (p + 1) (by omega)
    have h5 : (trcV g).length ≤ 601 := by have := trcV_len (g := g); omega
    have h6 : p ≤ 1000000 := by omega
    exact ⟨trcV g, q, ⟨h5, trcV_in g⟩, h2, trG_fn hb h6 hk h1 h3⟩
  · obtain ⟨h1, h2⟩ := trD_len hb (p := p) (by omega)
    have h4 : (trD bs p).2 ≤ 2000000 := by omega
    have h6 : p ≤ 1000000 := by omega
    exact ⟨(trD bs p).1, (trD bs p).2, ⟨h1, trD_in hb h6⟩, h4, trD_fn hb h6 hk⟩
theorem drawLM_ok {bs : List Int} (hb : Bytes (bs.take 2000)) : ∃ (xs : List Int) (n : Int), TrOk xs ∧ (-1 ≤ n ∧ n ≤ 41) ∧ Fn Try.prog 16 [] [vD (dYs bs)] (.tup [vD (dIs xs), nat1 n]) [] := by
  obtain ⟨xs, q, h1, h2, h3⟩ := trc_ok hb (p := 0) (by omega)
  have hm := numV_mem hb (p := q) (by omega) (xs := [2, 3, 1, 4, 0, 8, 40, 41, -1]) (by simp)
  exact ⟨xs, _, h1, by simp at hm; omega, drawLM_core hb h3 h2⟩

/-! ### What the caches answer -/
theorem small_wf {xs : List Int} (h : ∀ x ∈ xs, -10000 ≤ x ∧ x ≤ 10000) : ∀ x ∈ xs, (Lit.int .i64 x).wf = true := fun x hx => by
  have := h x hx
  have e1 : IntKind.i64.min = -9223372036854775808 := by decide
  have e2 : IntKind.i64.max = 9223372036854775807 := by decide
  show (decide (IntKind.i64.min ≤ x) && decide (x ≤ IntKind.i64.max)) = true
  rw [decide_eq_true (by omega), decide_eq_true (by omega)]; rfl
section
variable {w : World} {a : Option Addr} {n c : Nat} {xs : List Int}
theorem sl_intsA {P : Nat → Prop} (h : Sl Sh.int P w (.slice a n c) xs) : IntsA w a n c xs := by
  obtain ⟨a', cap, e, h1, h2, h3, h4⟩ := h
  cases e
  refine ⟨rfl, h1, h2, fun i hi => ?_⟩
  obtain ⟨b, off, cs, h5, _, h6, h7⟩ := h4 i xs[i] (List.getElem?_eq_getElem hi)
  have h6 : cs = [.int .i64 xs[i]] := h6
  subst h6
  refine ⟨b, off, h5, ?_⟩
  have := h7 0 _ rfl
  rw [show off + (i * Sh.int.sz + 0) = off + i by show off + (i * 1 + 0) = off + i; omega] at this
  rw [this, List.getD, List.getElem?_eq_getElem hi]; rfl
end
theorem implDC_fn {xs : List Int} (h : ∀ x ∈ xs, -10000 ≤ x ∧ x ≤ 10000) : Fn Try.prog 9 [] [vD (dIs xs)] (.o (nat1 (dist xs))) [] :=
  Fn.pure fun B bx al w vs hv => by
    obtain ⟨v, rfl, h1⟩ := vals1 hv
    have h3 := dr_ints h1
    obtain ⟨a, n, c, rfl, rfl⟩ := sl_form h3
    exact (implDistinct_any a _ c xs w (sl_intsA h3) (small_wf h)).mono fun e w' ⟨h1, h2⟩ => ⟨_, h1, h2, .val _ rfl⟩
theorem implLM_fn (xs : List Int) (s : Int) : Fn Try.prog 17 [] [vD (dIs xs), nat1 s] (.o (nat1 (lruOf xs s))) [] :=
  Fn.pure fun B bx al w vs hv => by
    obtain ⟨v, u, rfl, h1, h2⟩ := vals2 hv
    have h3 := dr_ints h1
    have h4 : Dr B w (dI s) u := h2
    have := dr_int h4
    subst this
    obtain ⟨a, n, c, rfl, rfl⟩ := sl_form h3
    exact (implLru_any a _ c s xs w (sl_intsA h3)).mono fun e w' ⟨h1, h2⟩ => ⟨_, h1, h2, .val _ rfl⟩
theorem specLM_fn (xs : List Int) (s : Int) : Fn Try.prog 18 [] [vD (dIs xs), nat1 s] (.o (nat1 (lruOf xs s))) [] :=
  Fn.pure fun B bx al w vs hv => by
    obtain ⟨v, u, rfl, h1, h2⟩ := vals2 hv
    have h3 := dr_ints h1
    have h4 : Dr B w (dI s) u := h2
    have := dr_int h4
    subst this
    obtain ⟨a, n, c, rfl, rfl⟩ := sl_form h3
    exact (specLru_any a _ c s xs w (sl_intsA h3)).mono fun e w' ⟨h1, h2⟩ => ⟨_, h1, h2, .val _ rfl⟩
theorem lru_fits {xs : List Int} {s : Int} (h : fitsB xs.length s = true) : lruOf xs s = misses s (sds xs xs.length) := by
  rw [lruOf, if_pos h, dists, if_pos (of_decide_eq_true h).1]
theorem lru_no {xs : List Int} {s : Int} (h : fitsB xs.length s = false) : lruOf xs s = -1 := by rw [lruOf, h]; rfl
theorem misses_mono {s t : Int} (h : ∀ d, isMiss s d = true → isMiss t d = true) (ds : List Int) : misses s ds ≤ misses t ds := by
  unfold misses
  induction ds with
  | nil => exact Nat.le_refl _
  | cons d ds ih =>
    rw [List.filter_cons, List.filter_cons]
    by_cases h1 : isMiss s d = true
    · rw [if_pos h1, if_pos (h d h1)]; simpa using ih
    · rw [if_neg h1]; split
      · rw [List.length_cons]; omega
      · exact ih
theorem lru_more {xs : List Int} {s : Int} (h : fitsB xs.length s = true) : lruOf xs (s + 1) ≤ lruOf xs s := by
  have h0 := of_decide_eq_true h
  cases h2 : fitsB xs.length (s + 1) with
  | false => rw [lru_no h2, lru_fits h]; omega
  | true =>
    rw [lru_fits h2, lru_fits h]
    have := misses_mono (s := s + 1) (t := s) (fun d hd => by unfold isMiss at hd ⊢; simp only [Bool.or_eq_true, decide_eq_true_eq] at hd ⊢; omega) (sds xs xs.length)
    omega
theorem misses_app (s : Int) (a b : List Int) : misses s (a ++ b) = misses s a + misses s b := by rw [misses, List.filter_append, List.length_append]; rfl
theorem sd_neg {xs : List Int} {n : Nat} {x : Int} (hx : xs[n]? = some x) (h : x ∉ xs.take n) : sd xs n = -1 := by
  rw [sd, hx]
  exact posIn_none fun hm => h ((mem_stk _ _).1 hm)
theorem misses_uniq (s : Int) (xs : List Int) : ∀ n, n ≤ xs.length → (uniq (xs.take n)).length ≤ misses s (sds xs n)
  | 0, _ => by simp [uniq]
  | n + 1, h => by
    have ih := misses_uniq s xs n (by omega)
    obtain ⟨x, hx⟩ : ∃ x, xs[n]? = some x := ⟨_, List.getElem?_eq_getElem (by omega)⟩
    rw [sds_succ, misses_app, List.take_add_one, hx, Option.toList_some]
    cases hc : (xs.take n).contains x with
    | true => rw [uniq_old hc]; omega
    | false =>
      rw [uniq_fresh hc, sd_neg hx (by simpa using hc)]
      have : misses s [-1] = 1 := by simp [misses, isMiss]
      omega
theorem lru_cells {xs : List Int} {s : Int} (h : fitsB xs.length s = true) : dist xs ≤ lruOf xs s := by
  have h0 := of_decide_eq_true h
  rw [lru_fits h, dist, if_pos h0.1]
  have := misses_uniq s xs xs.length (Nat.le_refl _)
  rw [List.take_length] at this
  omega
theorem lru_le {xs : List Int} {s : Int} (h : fitsB xs.length s = true) : 0 ≤ lruOf xs s ∧ lruOf xs s ≤ xs.length := by
  rw [lru_fits h]
  have := misses_le s (sds xs xs.length)
  rw [sds_length] at this
  omega
theorem lru_zero {xs : List Int} {s : Int} (h : fitsB xs.length s = true) (hs : ¬ 0 < s) : lruOf xs s = xs.length := by
  have h0 := of_decide_eq_true h
  rw [lru_fits h, misses, List.filter_eq_self.2, sds_length]
  intro d _
  unfold isMiss
  simp only [Bool.or_eq_true, decide_eq_true_eq]; omega
theorem tr_sm {xs : List Int} (h : TrOk xs) : ∀ x ∈ xs, -10000 ≤ x ∧ x ≤ 10000 := fun x hx => by have := h.2 x hx; omega
theorem fits_of {xs : List Int} {n : Int} (h : 0 ≤ lruOf xs n) : fitsB xs.length n = true := by
  cases hh : fitsB xs.length n with
  | false => rw [lru_no hh] at h; omega
  | true => rfl

theorem lruMisses_core {bs : List Int} (hl : bs.length ≤ 1048576) {xs : List Int} {n : Int} (ht : TrOk xs) (hn : -1 ≤ n ∧ n ≤ 41) (hD : Fn Try.prog 16 [] [vD (dYs bs)] (.tup [vD (dIs xs), nat1 n]) [])  : Fn Try.prog 7 [] [vD (dYs bs)] (.o (bo1 true)) [] := by
 have hle := ht.1
 have hsm := tr_sm ht
 refine Fn.code0 Try.func7 rfl rfl rfl rfl ?_
 refine .seq <| .region <| .cons (.asg rfl rfl) <| .nil <| ks_n <| .seq <| .seq <| .region <| .cons (.mv rfl rfl) <| .cons (.ln 5 1 1 rfl rfl rfl) <| .cons (.gt rfl rfl rfl) <| .nil <| ks_n ?_
 refine .cD rfl (fun h9 => ?_) (fun h9 => ?_)
 ·skip
  refine .seq <| .region <| .cons (.asg rfl rfl) <| .nil <| ks_n <| .ret <| ks_r ?_
  refine kf_ret rfl ?_ nobox
  first | rfl | (exfalso; omega) | (exact leafB (decide_eq_true (a4 (by omega)))) | exact leafB (decide_eq_true (by omega)) | exact leafB (decide_eq_true rfl) | (exact leafB (by simp [*]; done)) | (exact leafB (by simp [*]; omega)) | (exfalso; simp_all; done) | grind
 ·skip
  refine .skip <| ks_n <| .seq <| .region <| .cons (.mv rfl rfl) <| .cons (.cP [.tmp 11] rfl rfl rfl rfl (hD) rfl) ?_
  refine .cons (.mv rfl rfl) <| .cons (.ex rfl rfl rfl) <| .cons (.ex rfl rfl rfl) <| .cons (.asg rfl rfl) <| .cons (.asg rfl rfl) <| .nil <| ks_n <| .seq <| .region <| .cons (.mv rfl rfl) <| .cons (.mv rfl rfl) <| .cons (.cP [.tmp 15, .tmp 16] rfl rfl rfl rfl (implLM_fn xs n) rfl) ?_
  refine .cons (.asg rfl rfl) <| .nil <| ks_n <| .seq <| .seq <| .region <| .cons (.mv rfl rfl) <| .cons (.mv rfl rfl) <| .cons (.mv rfl rfl) <| .cons (.cP [.tmp 19, .tmp 20] rfl rfl rfl rfl (specLM_fn xs n) rfl) ?_
  refine .cons (.ne rfl rfl rfl) <| .cons (.mv rfl rfl) ?_
  refine .cND 23 rfl (fun g23 => ?_) (fun g23 => ?_)
  ·skip
   exact absurd rfl g23
  ·skip
   refine .cons (.gT rfl rfl rfl (.mv rfl rfl)) <| .cons (.gT rfl rfl rfl (.ls rfl rfl rfl)) <| .cons (.pF rfl rfl rfl) <| .nil <| ks_n ?_
   refine ACode.condT rfl (fun h26 => ?_) (fun h26 => ?_)
   ·try simp only [zs1, zs2, zs3, zs4, zs5, zs6, zs7] at h26
    refine .seq <| .region <| .cons (.mv rfl rfl) <| .cons (.mv rfl rfl) <| .cons (.mv rfl rfl) <| .cons (.cP [.tmp 28, .tmp 29] rfl rfl rfl rfl (specLM_fn xs n) rfl) ?_
    refine .cons (.eq rfl rfl rfl) <| .cons (.asg rfl rfl) <| .nil <| ks_n <| .ret <| ks_r ?_
    refine kf_ret rfl ?_ nobox
    first | rfl | (exfalso; omega) | (exact leafB (decide_eq_true (a4 (by omega)))) | exact leafB (decide_eq_true (by omega)) | exact leafB (decide_eq_true rfl) | (exact leafB (by simp [*]; done)) | (exact leafB (by simp [*]; omega)) | (exfalso; simp_all; done) | grind
   ·try simp only [zs1, zs2, zs3, zs4, zs5, zs6, zs7] at h26
    have hf := fits_of (xs := xs) (n := n) (by omega)
    have a1 := lru_le hf
    have a2 := lru_cells hf
    have a3 := lru_more hf
    have a4 := lru_zero hf
    refine .skip <| ks_n <| .seq <| .region <| .cons (.mv rfl rfl) <| .cons (.mv rfl rfl) <| .cons (.pl rfl rfl rfl) <| .cons (.cP [.tmp 32, .tmp 34] rfl rfl rfl rfl (implLM_fn xs (n + 1)) rfl) ?_
    refine .cons (.asg rfl rfl) <| .nil <| ks_n <| .seq <| .region <| .cons (.mv rfl rfl) <| .cons (.mv rfl rfl) <| .cons (.ln 3 1 8 rfl rfl rfl) <| .cons (.le rfl rfl rfl) <| .cons (.mv rfl rfl) ?_
    refine .cD 40 rfl (fun g40 => ?_) (fun g40 => ?_)
    ·skip
     refine .cons (.gT rfl rfl rfl (.mv rfl rfl)) <| .cons (.gT rfl rfl rfl (.mv rfl rfl)) <| .cons (.gT rfl rfl rfl (.cP [.tmp 42] rfl rfl rfl rfl (implDC_fn hsm) rfl)) ?_
     refine .cons (.gT rfl rfl rfl (.ge rfl rfl rfl)) <| .cons (.pT rfl rfl rfl) <| .cons (.mv rfl rfl) ?_
     refine AOps.cases 46 _ rfl (fun g46 => ?_) (fun g46 => ?_)
     ·try simp only [zs1, zs2, zs3, zs4, zs5, zs6, zs7] at g46
      refine .cons (.gT rfl rfl rfl (.mv rfl rfl)) <| .cons (.gT rfl rfl rfl (.eq rfl rfl rfl)) <| .cons (.gT rfl rfl rfl (.mv rfl rfl)) ?_
      refine .cD 49 rfl (fun g49 => ?_) (fun g49 => ?_)
      ·skip
       refine .cons (.gF rfl rfl rfl) <| .cons (.gF rfl rfl rfl) <| .cons (.gF rfl rfl rfl) <| .cons (.gT rfl rfl rfl (.pT rfl rfl rfl)) <| .cons (.pT rfl rfl rfl) <| .cons (.mv rfl rfl) <| .cons (.gT rfl rfl rfl (.mv rfl rfl)) <| .cons (.gT rfl rfl rfl (.gt rfl rfl rfl)) <| .cons (.gT rfl rfl rfl (.mv rfl rfl)) ?_
       refine .cD 58 rfl (fun g58 => ?_) (fun g58 => ?_)
       ·skip
        refine .cons (.gF rfl rfl rfl) <| .cons (.gF rfl rfl rfl) <| .cons (.gF rfl rfl rfl) <| .cons (.gF rfl rfl rfl) <| .cons (.gT rfl rfl rfl (.pT rfl rfl rfl)) <| .cons (.pT rfl rfl rfl) <| .cons (.asg rfl rfl) <| .nil <| ks_n <| .ret ?_
        refine kf_ret rfl ?_ nobox
        first | rfl | (exfalso; omega) | (exact leafB (decide_eq_true (a4 (by omega)))) | exact leafB (decide_eq_true (by omega)) | exact leafB (decide_eq_true rfl) | (exact leafB (by simp [*]; done)) | (exact leafB (by simp [*]; omega)) | (exfalso; simp_all; done) | grind
       ·skip
        refine .cons (.gT rfl rfl rfl (.mv rfl rfl)) <| .cons (.gT rfl rfl rfl (.mv rfl rfl)) <| .cons (.gT rfl rfl rfl (.ln 3 1 8 rfl rfl rfl)) <| .cons (.gT rfl rfl rfl (.eq rfl rfl rfl)) <| .cons (.gT rfl rfl rfl (.pF rfl rfl rfl)) <| .cons (.pT rfl rfl rfl) <| .cons (.asg rfl rfl) <| .nil <| ks_n <| .ret ?_
        refine kf_ret rfl ?_ nobox
        first | rfl | (exfalso; omega) | (exact leafB (decide_eq_true (a4 (by omega)))) | exact leafB (decide_eq_true (by omega)) | exact leafB (decide_eq_true rfl) | (exact leafB (by simp [*]; done)) | (exact leafB (by simp [*]; omega)) | (exfalso; simp_all; done) | grind
      ·skip
       refine .cons (.gT rfl rfl rfl (.mv rfl rfl)) <| .cons (.gT rfl rfl rfl (.mv rfl rfl)) <| .cons (.gT rfl rfl rfl (.le rfl rfl rfl)) <| .cons (.gT rfl rfl rfl (.pF rfl rfl rfl)) <| .cons (.pT rfl rfl rfl) <| .cons (.mv rfl rfl) ?_
       refine AOps.cases 55 _ rfl (fun g55 => ?_) (fun g55 => ?_)
       ·try simp only [zs1, zs2, zs3, zs4, zs5, zs6, zs7] at g55
        refine .cons (.gT rfl rfl rfl (.mv rfl rfl)) <| .cons (.gT rfl rfl rfl (.gt rfl rfl rfl)) <| .cons (.gT rfl rfl rfl (.mv rfl rfl)) ?_
        refine .cD 58 rfl (fun g58 => ?_) (fun g58 => ?_)
        ·skip
         refine .cons (.gF rfl rfl rfl) <| .cons (.gF rfl rfl rfl) <| .cons (.gF rfl rfl rfl) <| .cons (.gF rfl rfl rfl) <| .cons (.gT rfl rfl rfl (.pT rfl rfl rfl)) <| .cons (.pT rfl rfl rfl) <| .cons (.asg rfl rfl) <| .nil <| ks_n <| .ret ?_
         refine kf_ret rfl ?_ nobox
         first | rfl | (exfalso; omega) | (exact leafB (decide_eq_true (a4 (by omega)))) | exact leafB (decide_eq_true (by omega)) | exact leafB (decide_eq_true rfl) | (exact leafB (by simp [*]; done)) | (exact leafB (by simp [*]; omega)) | (exfalso; simp_all; done) | grind
        ·skip
         refine .cons (.gT rfl rfl rfl (.mv rfl rfl)) <| .cons (.gT rfl rfl rfl (.mv rfl rfl)) <| .cons (.gT rfl rfl rfl (.ln 3 1 8 rfl rfl rfl)) <| .cons (.gT rfl rfl rfl (.eq rfl rfl rfl)) <| .cons (.gT rfl rfl rfl (.pF rfl rfl rfl)) <| .cons (.pT rfl rfl rfl) <| .cons (.asg rfl rfl) <| .nil <| ks_n <| .ret ?_
         refine kf_ret rfl ?_ nobox
         first | rfl | (exfalso; omega) | (exact leafB (decide_eq_true (a4 (by omega)))) | exact leafB (decide_eq_true (by omega)) | exact leafB (decide_eq_true rfl) | (exact leafB (by simp [*]; done)) | (exact leafB (by simp [*]; omega)) | (exfalso; simp_all; done) | grind
       ·try simp only [zs1, zs2, zs3, zs4, zs5, zs6, zs7] at g55
        refine .cons (.gF rfl rfl rfl) <| .cons (.gF rfl rfl rfl) <| .cons (.gF rfl rfl rfl) <| .cons (.gU rfl rfl) <| .cons (.gU rfl rfl) <| .cons (.gU rfl rfl) <| .cons (.gU rfl rfl) <| .cons (.gF rfl rfl rfl) <| .cons (.pF rfl rfl rfl) <| .cons (.asg rfl rfl) <| .nil <| ks_n <| .ret ?_
        refine kf_ret rfl ?_ nobox
        first | rfl | (exfalso; omega) | (exact leafB (decide_eq_true (a4 (by omega)))) | exact leafB (decide_eq_true (by omega)) | exact leafB (decide_eq_true rfl) | (exact leafB (by simp [*]; done)) | (exact leafB (by simp [*]; omega)) | (exfalso; simp_all; done) | grind
     ·try simp only [zs1, zs2, zs3, zs4, zs5, zs6, zs7] at g46
      refine .cons (.gF rfl rfl rfl) <| .cons (.gF rfl rfl rfl) <| .cons (.gF rfl rfl rfl) <| .cons (.gU rfl rfl) <| .cons (.gU rfl rfl) <| .cons (.gU rfl rfl) <| .cons (.gF rfl rfl rfl) <| .cons (.pF rfl rfl rfl) <| .cons (.mv rfl rfl) <| .cons (.gF rfl rfl rfl) <| .cons (.gF rfl rfl rfl) <| .cons (.gF rfl rfl rfl) <| .cons (.gU rfl rfl) <| .cons (.gU rfl rfl) <| .cons (.gU rfl rfl) <| .cons (.gU rfl rfl) <| .cons (.gF rfl rfl rfl) <| .cons (.pF rfl rfl rfl) <| .cons (.asg rfl rfl) <| .nil <| ks_n <| .ret ?_
      refine kf_ret rfl ?_ nobox
      first | rfl | (exfalso; omega) | (exact leafB (decide_eq_true (a4 (by omega)))) | exact leafB (decide_eq_true (by omega)) | exact leafB (decide_eq_true rfl) | (exact leafB (by simp [*]; done)) | (exact leafB (by simp [*]; omega)) | (exfalso; simp_all; done) | grind
    ·skip
     refine .cons (.gF rfl rfl rfl) <| .cons (.gF rfl rfl rfl) <| .cons (.gF rfl rfl rfl) <| .cons (.gF rfl rfl rfl) <| .cons (.pF rfl rfl rfl) <| .cons (.mv rfl rfl) <| .cons (.gF rfl rfl rfl) <| .cons (.gF rfl rfl rfl) <| .cons (.gF rfl rfl rfl) <| .cons (.gU rfl rfl) <| .cons (.gU rfl rfl) <| .cons (.gU rfl rfl) <| .cons (.gF rfl rfl rfl) <| .cons (.pF rfl rfl rfl) <| .cons (.mv rfl rfl) <| .cons (.gF rfl rfl rfl) <| .cons (.gF rfl rfl rfl) <| .cons (.gF rfl rfl rfl) <| .cons (.gU rfl rfl) <| .cons (.gU rfl rfl) <| .cons (.gU rfl rfl) <| .cons (.gU rfl rfl) <| .cons (.gF rfl rfl rfl) <| .cons (.pF rfl rfl rfl) <| .cons (.asg rfl rfl) <| .nil <| ks_n <| .ret ?_
     refine kf_ret rfl ?_ nobox
     first | rfl | (exfalso; omega) | (exact leafB (decide_eq_true (a4 (by omega)))) | exact leafB (decide_eq_true (by omega)) | exact leafB (decide_eq_true rfl) | (exact leafB (by simp [*]; done)) | (exact leafB (by simp [*]; omega)) | (exfalso; simp_all; done) | grind

theorem lruMisses_big (a : Option Addr) (n c : Nat) (hn : 1048576 < n) : Fn Try.prog 7 [] [vX a n c] (.o (bo1 true)) [] := by
  refine Fn.code0 Try.func7 rfl rfl rfl rfl ?_
  refine .seq <| .region <| .cons (.asg rfl rfl) <| .nil <| ks_n <| .seq <| .seq <| .region <| .cons (.mv rfl rfl) <| .cons (St1.lenN (e := 5) (m := 1) (by' := 1) rfl rfl rfl rfl rfl (by kernel_rfl) rfl) ?_
  refine .cons (.gt rfl rfl rfl) <| .nil <| ks_n ?_
  refine .cD rfl (fun h9 => ?_) (fun h9 => ?_)
  · skip
    refine .seq <| .region <| .cons (.asg rfl rfl) <| .nil <| ks_n <| .ret <| ks_r ?_
    refine kf_ret rfl ?_ nobox
    rfl
  · skip
    omega

theorem lawLruMisses (a : Option Addr) (n c : Nat) (bs : List Int) (w : World) (hx : n ≤ 1048576 → Sl Sh.byte (fun b => b < w.heap.size) w (.slice a n c) bs) (hbs : ∀ x ∈ bs, 0 ≤ x ∧ x ≤ 255) : Truth Try.prog 7 #[.slice a n c] w :=
  law1 ⟨hx, hbs⟩ (fun h => lruMisses_big a n c h) (fun hl hb => by
    obtain ⟨xs, n, h1, h2, h3⟩ := drawLM_ok hb
    exact lruMisses_core hl h1 h2 h3)
end Go.Proofs.Ytlelonbakckkgaa
