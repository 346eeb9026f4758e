/- Part 5 of 5 of the proof: laws on memory and data, then what the functions compute, in the order in which they build on each other; conditions: those that each theorem names. -/
import Derived.Test.YtigdfdhjnadieaaP4

/- Depth of statements; condition: small lists. -/
namespace Go.Proofs.Ytigdfdhjnadieaa
set_option linter.unusedVariables false
set_option linter.unusedSimpArgs false
open Go.RowKit

theorem fold_take {α : Type} {c : Int → α → Int} {n : Int} {l : List α} {i : Nat} {x : α} (h : l[i]? = some x) : (l.take (i + 1)).foldl c n = c ((l.take i).foldl c n) x := by
  rw [List.take_add_one, h, List.foldl_append]; rfl
theorem fold_row {α : Type} {c : Int → α → Int} {n : Int} {l : List α} {i : Nat} {x : α} (h : l[i]? = some x) : dR [rI (c ((l.take i).foldl c n) x)] = dR [rI ((l.take (i + 1)).foldl c n)] := by rw [fold_take h]
theorem fold_row1 {α : Type} {c : Int → α → Int} {n : Int} {l : List α} {x : α} (h : l[0]? = some x) : dR [rI (c n x)] = dR [rI ((l.take 1).foldl c n)] := by
  have := fold_take (c := c) (n := n) h
  rw [this]; rfl

set_option maxRecDepth 100000 in
set_option maxHeartbeats 1600000 in
theorem depth1_fn (x : Aff) (n : Int) : Fn Try.prog 61 (hbI n) [ad (rA x), .c (.box 0 1 0 0)] (.o (ad (rA x))) (hbI (max n (affDepth x : Nat))) := by
  refine Fn.of_code Try.func61 rfl rfl (hbI_HB _) rfl rfl (hbI_HB _) rfl (hbI_num _ _) ?_
  refine ACode.seq ?_
  refine ACode.region ?_
  refine .cons (St1.boxP rfl rfl rfl rfl rfl rfl) ?_
  refine .cons (.al 103 [.slice none 0 0, .int .i64 0] rfl rfl rfl) ?_
  refine .nil ?_
  refine ks_n ?_
  refine ACode.seq ?_
  refine ACode.drawK (by kernel_rfl) (by kernel_rfl) ?_
  refine .cons (.b1 1 rfl rfl rfl rfl rfl rfl) ?_
  refine .cons (.lN 2 rfl rfl rfl) ?_
  refine .cons (.cP [.tmp 5] rfl rfl rfl rfl (depth_fn x) rfl) ?_
  refine .cons (St1.max2 rfl rfl rfl rfl rfl rfl) ?_
  refine .cons (.sT 1 false rfl rfl rfl rfl rfl rfl rfl) ?_
  refine .nil ⟨by kernel_rfl, ?_⟩
  refine ks_n ?_
  refine ACode.seq ?_
  refine ACode.region ?_
  refine .cons (.lN 2 rfl rfl rfl) ?_
  refine .cons (.sT 2 true rfl rfl rfl rfl rfl rfl rfl) ?_
  refine .nil ?_
  refine ks_n ?_
  refine ACode.ret ?_
  refine kf_ret rfl ?_ (hbI_box rfl)
  rfl

set_option maxRecDepth 100000 in
set_option maxHeartbeats 1600000 in
theorem accMapB_fn {f : FuncId} (hc : callable Try.prog f = true) (g : Aff → Aff) (c : Int → Aff → Int) (n : Int) (a : Acc) (ha : a.2.length ≤ 1073741824) (hg : ∀ x ∈ a.2, ∀ n, Fn Try.prog f (hbI n) [ad (rA x), .c (.box 0 1 0 0)] (.o (ad (rA (g x)))) (hbI (c n x))) : Fn Try.prog 120 (hbI n) [ad (rC a), .c (.fb f 0 1)] (.o (ad (rC (mapC g a)))) (hbI (a.2.foldl c n)) := by
  refine Fn.of_code Try.func120 rfl rfl (hbI_HB _) rfl rfl (hbI_HB _) rfl (hbI_num _ _) ?_
  refine ACode.seq ?_
  refine ACode.region ?_
  refine .cons (St1.boxP rfl rfl rfl rfl rfl rfl) ?_
  refine .cons (.al 104 [.string ByteArray.empty, .slice none 0 0] rfl rfl rfl) ?_
  refine .nil ?_
  refine ks_n ?_
  refine ACode.seq ?_
  refine ACode.region ?_
  refine .cons (.fP 0 0 false rfl rfl) ?_
  refine .cons (.l1 1 rfl rfl) ?_
  refine .cons (.bu [(0, .tmp 9)] [(0, 1), (1, 1)] [.string ByteArray.empty, .slice none 0 0] rfl rfl rfl rfl rfl) ?_
  refine .cons (.al 105 [.string ByteArray.empty, .slice none 0 0] rfl rfl rfl) ?_
  refine .cons (.sT 2 true rfl rfl rfl rfl rfl rfl rfl) ?_
  refine .nil ?_
  refine ks_n ?_
  refine ACode.seq ?_
  refine ACode.seq ?_
  refine ACode.region ?_
  refine .cons (.fP 1 0 false rfl rfl) ?_
  refine .cons (.l1 1 rfl rfl) ?_
  refine .cons (.ln 28 2 32 rfl rfl rfl) ?_
  refine .cons (.mv rfl rfl) ?_
  refine .nil ?_
  refine ks_n ?_
  refine ACode.block ?_
  refine .loopK (fun m σ => (∃ i : Nat, m = a.2.length - i ∧ (i = 0) ∧ σ = [(.t 1, .v (.o (.c (.fb f 0 1)))), (.t 2, .v (.o (.c (.ptr (rC a))))), (.t 4, .v (.o (.c (.box 110 2 0 0)))), (.t 5, .v (.o (.c (.box 111 2 0 0)))), (.t 12, .v (.o (vD (dAs a.2)))), (.t 13, .v (.o (nat1 (a.2.length : Nat)))), (.t 14, .v (.o (nat1 (i : Nat)))), (.b 0, .b 3 1 (dR ([rI (n)]))), (.u 0, .u), (.b 110, .b 25 2 [[.d (dS ByteArray.empty), .d (.val (.slice none 0 0))]]), (.u 110, .u), (.b 111, .b 25 2 [[.d (dS a.1), .d (.val (.slice none 0 0))]]), (.u 111, .u)]) ∨ (∃ i : Nat, m = a.2.length - i ∧ (1 ≤ i) ∧ (i ≤ a.2.length) ∧ σ = [(.t 1, .v (.o (.c (.fb f 0 1)))), (.t 2, .v (.o (.c (.ptr (rC a))))), (.t 4, .v (.o (.c (.box 110 2 0 0)))), (.t 5, .v (.o (.c (.box 111 2 0 0)))), (.t 12, .v (.o (vD (dAs a.2)))), (.t 13, .v (.o (nat1 (a.2.length : Nat)))), (.t 14, .v (.o (nat1 (i : Nat)))), (.b 0, .b 3 1 (dR ([rI ((a.2.take i).foldl c n)]))), (.u 0, .u), (.b 110, .b 25 2 [[.d (dS ByteArray.empty), .d (.val (.slice none 0 0))]]), (.u 110, .u), (.b 112, .b 28 2 (dR ((a.2.take i).map fun x => rA (g x)))), (.u 112, .u), (.b 111, .b 25 2 [[.d (dS a.1), .own 112 2 (i)]]), (.u 111, .u)])) [(0, 0), (110, 104), (111, 105)] (.inl ⟨0, rfl, rfl, rfl⟩) ⟨ks rfl (.c (.fb _ _ _ _ (by first | decide | simp))), ks rfl .dt, ks rfl (.c .bx), ks rfl (.c .bx), ks rfl .dt, ks rfl .dt, ks rfl .dt, kb 0 rfl (.dt rfl), kb 104 rfl (.cons (.cons .dt (.cons .dt Ctos.nil)) .nil), kb 105 rfl (.cons (.cons .dt (.cons .dt Ctos.nil)) .nil), trivial⟩ ?_
  rintro m σ (⟨i, hm0, rfl, rfl⟩ | ⟨i, hm0, hi1, hi2, rfl⟩)
  · skip
    refine ACode.seq ?_
    refine ACode.region ?_
    refine .cons (.ls rfl rfl rfl) ?_
    refine .nil ?_
    refine ks_n ?_
    refine ACode.seq ?_
    refine .cD rfl (fun h15 => ?_) (fun h15 => ?_)
    · skip
      obtain ⟨x, hx1⟩ : ∃ x, a.2[0]? = some x := ⟨_, List.getElem?_eq_getElem (by omega)⟩
      refine ACode.skip ?_
      refine ks_n ?_
      refine ACode.seq ?_
      refine ACode.block ?_
      refine ACode.seq ?_
      refine ACode.region ?_
      refine .cons (.xL 28 2 32 rfl rfl rfl rfl rfl) ?_
      refine .cons (.lN 2 rfl rfl rfl) ?_
      refine .cons (.al 107 [.slice none 0 0, .int .i64 0] rfl rfl rfl) ?_
      refine .cons (.sT 2 true rfl rfl rfl rfl rfl rfl rfl) ?_
      refine .nil ?_
      refine ks_n ?_
      refine ACode.drawK (by kernel_rfl) (by kernel_rfl) ?_
      refine .cons (.fB 1 0 false rfl rfl rfl) ?_
      refine .cons (.b1 1 rfl rfl rfl rfl rfl rfl) ?_
      refine .cons (.mv rfl rfl) ?_
      refine .cons (.bN 2 rfl rfl rfl rfl rfl rfl) ?_
      refine .cons (.cX [.tmp 21] [(0, 0)] rfl rfl rfl rfl rfl (hg x (List.mem_of_getElem? hx1) _) rfl ⟨rfl, trivial⟩ (hbI_flat _) (hbI_flat _) (hbI_HB _) outS_one (hcall := hc)) ?_
      refine .cons (.li 28 1 0 [.tmp 22] rfl rfl rfl rfl rfl rfl) ?_
      refine .cons (St1.appN (k' := 124) (e := 28) (sz := 1) (by' := 32) rfl rfl rfl rfl rfl (by kernel_rfl) rfl rfl rfl (by simp) (by first | (simp [dR]; done) | (simp [dR]; omega)) rfl rfl) ?_
      refine .cons (.fB 1 0 false rfl rfl rfl) ?_
      refine .cons (.sT 1 false rfl rfl rfl rfl rfl rfl rfl) ?_
      refine .nil ⟨by kernel_rfl, ?_⟩
      refine kb_n ?_
      refine ks_n ?_
      refine ACode.region ?_
      refine .cons (.pl rfl rfl rfl) ?_
      refine .cons (.mv rfl rfl) ?_
      refine .nil ?_
      refine kl_k [(0, 0), (110, 110), (111, 111), (112, 124)] (.inr ⟨1, rfl, by omega, by omega, rfl⟩) ⟨ks rfl (.c (.fb _ _ _ _ (by first | decide | simp))), ks rfl .dt, ks rfl (.c .bx), ks rfl (.c .bx), ks rfl .dt, ks rfl .dt, ks rfl .dt, kb 0 rfl (.dt rfl (by first | exact fold_row hx1 | exact fold_row1 hx1 | rfl | (simp; done))), kb 110 rfl (.cons (.cons .dt (.cons .dt Ctos.nil)) .nil), kb 124 rfl (.dt rfl (by first | exact dR_take (fun x => rA (g x)) hx1 | exact dR_take1 (fun x => rA (g x)) hx1 | rfl | (simp [dR]; done))), kb 111 rfl (.cons (.cons .dt (.cons .ow Ctos.nil)) .nil), trivial⟩
    · skip
      have hn : a.2 = [] := List.eq_nil_of_length_eq_zero (by omega)
      refine ACode.exit ?_
      refine ks_e ?_
      refine kl_e ?_
      refine kb_hit ?_
      refine ks_n ?_
      refine ACode.seq ?_
      refine ACode.region ?_
      refine .cons (.bN 2 rfl rfl rfl rfl rfl rfl) ?_
      refine .cons (.sT 2 true rfl rfl rfl rfl rfl rfl rfl) ?_
      refine .nil ?_
      refine ks_n ?_
      refine ACode.ret ?_
      refine kf_wret [(.t 4, .v (.o (.c (.box 100 2 0 0)))), (.b 0, .b 3 1 (dR ([rI (a.2.foldl c n)]))), (.u 0, .u), (.b 100, .b 25 2 [[.d (dS a.1), .d (dAs (a.2.map g))]]), (.u 100, .u)] (Wk.keep [(0, 0), (100, 110)] rfl rfl ⟨ks rfl (.c .bx), kb 0 rfl (.dt rfl (by first | rfl | (rw [hn]; rfl) | (rw [List.take_length]; done))), kb 110 rfl (.cons (.cons .dt (.cons (Cto.nilE 2 (by rw [hn]; rfl)) Ctos.nil)) .nil), trivial⟩) rfl ?_ (hbI_box rfl)
      rfl
  · skip
    refine ACode.seq ?_
    refine ACode.region ?_
    refine .cons (.ls rfl rfl rfl) ?_
    refine .nil ?_
    refine ks_n ?_
    refine ACode.seq ?_
    refine .cD rfl (fun h15 => ?_) (fun h15 => ?_)
    · skip
      obtain ⟨x, hx1⟩ : ∃ x, a.2[i]? = some x := ⟨_, List.getElem?_eq_getElem (by omega)⟩
      refine ACode.skip ?_
      refine ks_n ?_
      refine ACode.seq ?_
      refine ACode.block ?_
      refine ACode.seq ?_
      refine ACode.region ?_
      refine .cons (.xL 28 2 32 rfl rfl rfl rfl rfl) ?_
      refine .cons (.lN 2 rfl rfl rfl) ?_
      refine .cons (.al 107 [.slice none 0 0, .int .i64 0] rfl rfl rfl) ?_
      refine .cons (.sT 2 true rfl rfl rfl rfl rfl rfl rfl) ?_
      refine .nil ?_
      refine ks_n ?_
      refine ACode.drawK (by kernel_rfl) (by kernel_rfl) ?_
      refine .cons (.fB 1 0 false rfl rfl rfl) ?_
      refine .cons (.b1 1 rfl rfl rfl rfl rfl rfl) ?_
      refine .cons (.mv rfl rfl) ?_
      refine .cons (.bN 2 rfl rfl rfl rfl rfl rfl) ?_
      refine .cons (.cX [.tmp 21] [(0, 0)] rfl rfl rfl rfl rfl (hg x (List.mem_of_getElem? hx1) _) rfl ⟨rfl, trivial⟩ (hbI_flat _) (hbI_flat _) (hbI_HB _) outS_one (hcall := hc)) ?_
      refine .cons (.li 28 1 0 [.tmp 22] rfl rfl rfl rfl rfl rfl) ?_
      refine .cons (St1.appB (k' := 124) (e := 28) (sz := 1) (by' := 32) rfl rfl rfl rfl rfl (by kernel_rfl) rfl rfl rfl rfl (by first | (simp [dR]; done) | (simp [dR]; omega)) (by first | (simp [dR]; done) | (simp [dR]; omega)) rfl rfl rfl) ?_
      refine .cons (.fB 1 0 false rfl rfl rfl) ?_
      refine .cons (.sT 1 false rfl rfl rfl rfl rfl rfl rfl) ?_
      refine .nil ⟨by kernel_rfl, ?_⟩
      refine kb_n ?_
      refine ks_n ?_
      refine ACode.region ?_
      refine .cons (.pl rfl rfl rfl) ?_
      refine .cons (.mv rfl rfl) ?_
      refine .nil ?_
      refine kl_k [(0, 0), (110, 110), (111, 111), (112, 124)] (.inr ⟨i + 1, rfl, by omega, by omega, rfl⟩) ⟨ks rfl (.c (.fb _ _ _ _ (by first | decide | simp))), ks rfl .dt, ks rfl (.c .bx), ks rfl (.c .bx), ks rfl .dt, ks rfl .dt, ks rfl .dt, kb 0 rfl (.dt rfl (by first | exact fold_row hx1 | exact fold_row1 hx1 | rfl | (simp; done))), kb 110 rfl (.cons (.cons .dt (.cons .dt Ctos.nil)) .nil), kb 124 rfl (.dt rfl (by first | exact dR_take (fun x => rA (g x)) hx1 | exact dR_take1 (fun x => rA (g x)) hx1 | rfl | (simp [dR]; done))), kb 111 rfl (.cons (.cons .dt (.cons .ow Ctos.nil)) .nil), trivial⟩
    · skip
      obtain rfl : i = a.2.length := by omega
      refine ACode.exit ?_
      refine ks_e ?_
      refine kl_e ?_
      refine kb_hit ?_
      refine ks_n ?_
      refine ACode.seq ?_
      refine ACode.region ?_
      refine .cons (.bN 2 rfl rfl rfl rfl rfl rfl) ?_
      refine .cons (.sT 2 true rfl rfl rfl rfl rfl rfl rfl) ?_
      refine .nil ?_
      refine ks_n ?_
      refine ACode.ret ?_
      refine kf_wret [(.t 4, .v (.o (.c (.box 100 2 0 0)))), (.b 0, .b 3 1 (dR ([rI (a.2.foldl c n)]))), (.u 0, .u), (.b 100, .b 25 2 [[.d (dS a.1), .d (dAs (a.2.map g))]]), (.u 100, .u)] (Wk.keep [(0, 0), (100, 110)] rfl rfl ⟨ks rfl (.c .bx), kb 0 rfl (.dt rfl (by first | rfl | (rw [hn]; rfl) | (rw [List.take_length]; done))), kb 110 rfl (.cons (.cons .dt (.cons (.fz rfl (by first | rfl | exact dR_af _ _ | (rw [List.take_length]; done)) (by first | rfl | (simp; done) | (simp; omega)) (by omega)) Ctos.nil)) .nil), trivial⟩) rfl ?_ (hbI_box rfl)
      rfl

def own0 (e : Ex) : List Aff := (if e.k = 2 then [e.i] else []) ++ (if e.k = 3 then e.r.2 else [])
theorem own0_i {c : Int → Aff → Int} {n : Int} {e : Ex} (h : e.k = 2) : (own0 e).foldl c n = c n e.i := by rw [own0, if_pos h, if_neg (by omega)]; rfl
theorem own0_r {c : Int → Aff → Int} {n : Int} {e : Ex} (h : e.k = 3) : (own0 e).foldl c n = e.r.2.foldl c n := by rw [own0, if_neg (by omega), if_pos h]; rfl
theorem own0_n {c : Int → Aff → Int} {n : Int} {e : Ex} (h : ¬ e.k = 2) (h3 : ¬ e.k = 3) : (own0 e).foldl c n = n := by rw [own0, if_neg h, if_neg h3]; rfl
theorem affsE_fold {c : Int → Aff → Int} {n : Int} (e : Ex) : (affsE e).foldl c n = (affsEs e.ks).foldl c ((own0 e).foldl c n) := by rw [affsE_eq, ← List.append_assoc, List.foldl_append]; rfl
theorem affsEs_take {l : List Ex} {i : Nat} {x : Ex} (h : l[i]? = some x) : affsEs (l.take (i + 1)) = affsEs (l.take i) ++ affsE x := by
  rw [List.take_add_one, h]
  generalize l.take i = m
  induction m with
  | nil => simp [affsEs]
  | cons y m ih => rw [List.cons_append, affsEs, affsEs, ih, List.append_assoc]
theorem kid_row {c : Int → Aff → Int} {m : Int} {l : List Ex} {i : Nat} {x : Ex} (h : l[i]? = some x) : dR [rI ((affsE x).foldl c ((affsEs (l.take i)).foldl c m))] = dR [rI ((affsEs (l.take (i + 1))).foldl c m)] := by rw [affsEs_take h, List.foldl_append]
theorem kid_row1 {c : Int → Aff → Int} {m : Int} {l : List Ex} {x : Ex} (h : l[0]? = some x) : dR [rI ((affsE x).foldl c m)] = dR [rI ((affsEs (l.take 1)).foldl c m)] := by
  rw [affsEs_take h, List.foldl_append]; rfl

set_option maxRecDepth 100000 in
set_option maxHeartbeats 1600000 in
theorem exprMapB_one {f : FuncId} (hc : callable Try.prog f = true) (g : Aff → Aff) (c : Int → Aff → Int) (n : Int) (e : Ex) (hr : e.r.2.length ≤ 1073741824) (hk : e.ks.length ≤ 1073741824) (hg : ∀ x ∈ affsE e, ∀ n, Fn Try.prog f (hbI n) [ad (rA x), .c (.box 0 1 0 0)] (.o (ad (rA (g x)))) (hbI (c n x))) (ih : ∀ x ∈ e.ks, ∀ n, Fn Try.prog 121 (hbI n) [ad (rX x), .c (.fb f 0 1)] (.o (ad (rX (mapE g x)))) (hbI ((affsE x).foldl c n))) : Fn Try.prog 121 (hbI n) [ad (rX e), .c (.fb f 0 1)] (.o (ad (rX (mapE g e)))) (hbI ((affsE e).foldl c n)) := by
  refine Fn.of_code Try.func121 rfl rfl (hbI_HB _) rfl rfl (hbI_HB _) rfl (hbI_num _ _) ?_
  refine ACode.seq ?_
  refine ACode.region ?_
  refine .cons (St1.boxP rfl rfl rfl rfl rfl rfl) ?_
  refine .cons (.al 104 [.int .i64 0, .int .i64 0, .slice none 0 0, .int .i64 0, .string ByteArray.empty, .slice none 0 0, .slice none 0 0] rfl rfl rfl) ?_
  refine .nil ?_
  refine ks_n ?_
  refine ACode.seq ?_
  refine ACode.region ?_
  refine .cons (.fP 0 0 false rfl rfl) ?_
  refine .cons (.l1 1 rfl rfl) ?_
  refine .cons (.fP 1 0 false rfl rfl) ?_
  refine .cons (.l1 1 rfl rfl) ?_
  refine .cons (.bu [(0, .tmp 9), (1, .tmp 11)] [(0, 1), (1, 1), (2, 2), (4, 2), (6, 1)] [.int .i64 0, .int .i64 0, .slice none 0 0, .int .i64 0, .string ByteArray.empty, .slice none 0 0, .slice none 0 0] rfl rfl rfl rfl rfl) ?_
  refine .cons (.al 105 [.int .i64 0, .int .i64 0, .slice none 0 0, .int .i64 0, .string ByteArray.empty, .slice none 0 0, .slice none 0 0] rfl rfl rfl) ?_
  refine .cons (.sT 7 true rfl rfl rfl rfl rfl rfl rfl) ?_
  refine .nil ?_
  refine ks_n ?_
  refine ACode.seq ?_
  refine ACode.cut [(.t 1, .v (.o (.c (.fb f 0 1)))), (.t 2, .v (.o (.c (.ptr (rX e))))), (.t 4, .v (.o (.c (.box 810 7 0 0)))), (.t 5, .v (.o (.c (.box 811 7 0 0)))), (.b 0, .b 3 1 (dR ([rI ((own0 e).foldl c n)]))), (.u 0, .u), (.b 810, .b 31 7 [[.d (dI 0), .d (dI 0), .d (.val (.slice none 0 0)), .d (dI 0), .d (dS ByteArray.empty), .d (.val (.slice none 0 0)), .d (.val (.slice none 0 0))]]), (.u 810, .u), (.b 811, .b 31 7 [[.d (dI e.k), .d (dI e.n), .d (dIs (if e.k = 2 then g e.i else ([], 0)).1), .d (dI (if e.k = 2 then g e.i else ([], 0)).2), .d (dS (if e.k = 3 then mapC g e.r else (ByteArray.empty, [])).1), .d (dAs (if e.k = 3 then mapC g e.r else (ByteArray.empty, [])).2), .d (.val (.slice none 0 0))]]), (.u 811, .u)] ?_ ?_
  · skip
    refine ACode.seq ?_
    refine ACode.region ?_
    refine .cons (.fP 0 0 false rfl rfl) ?_
    refine .cons (.l1 1 rfl rfl) ?_
    refine .nil ?_
    refine ks_n ?_
    refine ACode.block ?_
    refine ACode.seq ?_
    refine ACode.region ?_
    refine .cons (.eq rfl rfl rfl) ?_
    refine .cons (.asg rfl rfl) ?_
    refine .nil ?_
    refine ks_n ?_
    refine .cD rfl (fun h15 => ?_) (fun h15 => ?_)
    · skip
      refine ACode.region ?_
      refine .cons (.mv rfl rfl) ?_
      refine .cons (.fP 2 1 true rfl rfl) ?_
      refine .cons (.lN 2 rfl rfl rfl) ?_
      refine .cons (.cX [.tmp 19] [(0, 0)] rfl rfl rfl rfl rfl (hg _ (affsE_i h15) _) rfl ⟨rfl, trivial⟩ (hbI_flat _) (hbI_flat _) (hbI_HB _) outS_one (hcall := hc)) ?_
      refine .cons (.fB 2 1 true rfl rfl rfl) ?_
      refine .cons (.sT 2 true rfl rfl rfl rfl rfl rfl rfl) ?_
      refine .nil ?_
      refine kb_n ?_
      exact kc_n (Wk.keep [(0, 0), (810, 104), (811, 105)] rfl rfl ⟨ks rfl (.c (.fb _ _ _ _ (by first | decide | simp))), ks rfl .dt, ks rfl (.c .bx), ks rfl (.c .bx), kb 0 rfl (.dt rfl (by first | rw [own0_i (by omega)] | rw [own0_r (by omega)] | rw [own0_n (by omega) (by omega)])), kb 104 rfl (.cons (.cons .dt (.cons .dt (.cons .dt (.cons .dt (.cons .dt (.cons .dt (.cons .dt Ctos.nil))))))) .nil), kb 105 rfl (.cons (.cons .dt (.cons .dt (.cons (.dt (by first | rfl | (simp [*]; done) | (simp [*]; rfl))) (.cons (.dt (by first | rfl | (simp [*]; done) | (simp [*]; rfl))) (.cons (.dt (by first | rfl | (simp [*]; done) | (simp [*]; rfl))) (.cons (Cto.nilE 2 (by rw [if_neg (show ¬ e.k = 3 by omega)]; rfl)) (.cons .dt Ctos.nil))))))) .nil), trivial⟩)
    · skip
      refine ACode.seq ?_
      refine ACode.region ?_
      refine .cons (.eq rfl rfl rfl) ?_
      refine .cons (.asg rfl rfl) ?_
      refine .nil ?_
      refine ks_n ?_
      refine .cD rfl (fun h22 => ?_) (fun h22 => ?_)
      · skip
        refine ACode.region ?_
        refine .cons (.fP 4 1 true rfl rfl) ?_
        refine .cons (.lN 2 rfl rfl rfl) ?_
        refine .cons (.mv rfl rfl) ?_
        refine .cons (.cO [.tmp 25, .tmp 26] [(0, 0)] rfl rfl rfl rfl (accMapB_fn hc g c n e.r hr (fun x hx => hg x (affsE_r h22 hx))) rfl ⟨rfl, trivial⟩ (hbI_flat _) (hbI_flat _) (hbI_HB _) outS_one) ?_
        refine .cons (.fB 4 1 true rfl rfl rfl) ?_
        refine .cons (.sT 2 true rfl rfl rfl rfl rfl rfl rfl) ?_
        refine .nil ?_
        refine kb_n ?_
        exact kc_n (Wk.keep [(0, 0), (810, 104), (811, 105)] rfl rfl ⟨ks rfl (.c (.fb _ _ _ _ (by first | decide | simp))), ks rfl .dt, ks rfl (.c .bx), ks rfl (.c .bx), kb 0 rfl (.dt rfl (by first | rw [own0_i (by omega)] | rw [own0_r (by omega)] | rw [own0_n (by omega) (by omega)])), kb 104 rfl (.cons (.cons .dt (.cons .dt (.cons .dt (.cons .dt (.cons .dt (.cons .dt (.cons .dt Ctos.nil))))))) .nil), kb 105 rfl (.cons (.cons .dt (.cons .dt (.cons (Cto.nilE 1 (by rw [if_neg (show ¬ e.k = 2 by omega)]; rfl)) (.cons (.dt (by first | rfl | (simp [*]; done) | (simp [*]; rfl))) (.cons (.dt (by first | rfl | (simp [*]; done) | (simp [*]; rfl))) (.cons (.dt (by first | rfl | (simp [*]; done) | (simp [*]; rfl))) (.cons .dt Ctos.nil))))))) .nil), trivial⟩)
      · skip
        refine ACode.skip ?_
        refine kb_n ?_
        exact kc_n (Wk.keep [(0, 0), (810, 104), (811, 105)] rfl rfl ⟨ks rfl (.c (.fb _ _ _ _ (by first | decide | simp))), ks rfl .dt, ks rfl (.c .bx), ks rfl (.c .bx), kb 0 rfl (.dt rfl (by first | rw [own0_i (by omega)] | rw [own0_r (by omega)] | rw [own0_n (by omega) (by omega)])), kb 104 rfl (.cons (.cons .dt (.cons .dt (.cons .dt (.cons .dt (.cons .dt (.cons .dt (.cons .dt Ctos.nil))))))) .nil), kb 105 rfl (.cons (.cons .dt (.cons .dt (.cons (Cto.nilE 1 (by rw [if_neg (show ¬ e.k = 2 by omega)]; rfl)) (.cons (.dt (by first | rfl | (simp [*]; done) | (simp [*]; rfl))) (.cons (.dt (by first | rfl | (simp [*]; done) | (simp [*]; rfl))) (.cons (Cto.nilE 2 (by rw [if_neg (show ¬ e.k = 3 by omega)]; rfl)) (.cons .dt Ctos.nil))))))) .nil), trivial⟩)
  refine ks_n ?_
  refine ACode.seq ?_
  refine ACode.seq ?_
  refine ACode.region ?_
  refine .cons (.fP 6 0 false rfl rfl) ?_
  refine .cons (.l1 1 rfl rfl) ?_
  refine .cons (.ln 31 7 112 rfl rfl rfl) ?_
  refine .cons (.mv rfl rfl) ?_
  refine .nil ?_
  refine ks_n ?_
  refine ACode.block ?_
  refine .loopK (fun m σ => (∃ i : Nat, m = e.ks.length - i ∧ (i = 0) ∧ σ = [(.t 1, .v (.o (.c (.fb f 0 1)))), (.t 2, .v (.o (.c (.ptr (rX e))))), (.t 4, .v (.o (.c (.box 110 7 0 0)))), (.t 5, .v (.o (.c (.box 111 7 0 0)))), (.t 30, .v (.o (vD (dEs e.ks)))), (.t 31, .v (.o (nat1 (e.ks.length : Nat)))), (.t 32, .v (.o (nat1 (i : Nat)))), (.b 0, .b 3 1 (dR ([rI ((own0 e).foldl c n)]))), (.u 0, .u), (.b 110, .b 31 7 [[.d (dI 0), .d (dI 0), .d (.val (.slice none 0 0)), .d (dI 0), .d (dS ByteArray.empty), .d (.val (.slice none 0 0)), .d (.val (.slice none 0 0))]]), (.u 110, .u), (.b 111, .b 31 7 [[.d (dI e.k), .d (dI e.n), .d (dIs (if e.k = 2 then g e.i else ([], 0)).1), .d (dI (if e.k = 2 then g e.i else ([], 0)).2), .d (dS (if e.k = 3 then mapC g e.r else (ByteArray.empty, [])).1), .d (dAs (if e.k = 3 then mapC g e.r else (ByteArray.empty, [])).2), .d (.val (.slice none 0 0))]]), (.u 111, .u)]) ∨ (∃ i : Nat, m = e.ks.length - i ∧ (1 ≤ i) ∧ (i ≤ e.ks.length) ∧ σ = [(.t 1, .v (.o (.c (.fb f 0 1)))), (.t 2, .v (.o (.c (.ptr (rX e))))), (.t 4, .v (.o (.c (.box 110 7 0 0)))), (.t 5, .v (.o (.c (.box 111 7 0 0)))), (.t 30, .v (.o (vD (dEs e.ks)))), (.t 31, .v (.o (nat1 (e.ks.length : Nat)))), (.t 32, .v (.o (nat1 (i : Nat)))), (.b 0, .b 3 1 (dR ([rI ((affsEs (e.ks.take i)).foldl c ((own0 e).foldl c n))]))), (.u 0, .u), (.b 110, .b 31 7 [[.d (dI 0), .d (dI 0), .d (.val (.slice none 0 0)), .d (dI 0), .d (dS ByteArray.empty), .d (.val (.slice none 0 0)), .d (.val (.slice none 0 0))]]), (.u 110, .u), (.b 112, .b 31 7 (dR ((e.ks.take i).map fun x => rX (mapE g x)))), (.u 112, .u), (.b 111, .b 31 7 [[.d (dI e.k), .d (dI e.n), .d (dIs (if e.k = 2 then g e.i else ([], 0)).1), .d (dI (if e.k = 2 then g e.i else ([], 0)).2), .d (dS (if e.k = 3 then mapC g e.r else (ByteArray.empty, [])).1), .d (dAs (if e.k = 3 then mapC g e.r else (ByteArray.empty, [])).2), .own 112 7 (i)]]), (.u 111, .u)])) [(0, 0), (110, 810), (111, 811)] (.inl ⟨0, rfl, rfl, rfl⟩) ⟨ks rfl (.c (.fb _ _ _ _ (by first | decide | simp))), ks rfl .dt, ks rfl (.c .bx), ks rfl (.c .bx), ks rfl .dt, ks rfl .dt, ks rfl .dt, kb 0 rfl (.dt rfl), kb 810 rfl (.cons (.cons .dt (.cons .dt (.cons .dt (.cons .dt (.cons .dt (.cons .dt (.cons .dt Ctos.nil))))))) .nil), kb 811 rfl (.cons (.cons .dt (.cons .dt (.cons (.dt (by first | rfl | (simp [*]; done) | (simp [*]; rfl))) (.cons (.dt (by first | rfl | (simp [*]; done) | (simp [*]; rfl))) (.cons (.dt (by first | rfl | (simp [*]; done) | (simp [*]; rfl))) (.cons (.dt (by first | rfl | (simp [*]; done) | (simp [*]; rfl))) (.cons .dt Ctos.nil))))))) .nil), trivial⟩ ?_
  rintro m σ (⟨i, hm0, rfl, rfl⟩ | ⟨i, hm0, hi1, hi2, rfl⟩)
  · skip
    refine ACode.seq ?_
    refine ACode.region ?_
    refine .cons (.ls rfl rfl rfl) ?_
    refine .nil ?_
    refine ks_n ?_
    refine ACode.seq ?_
    refine .cD rfl (fun h33 => ?_) (fun h33 => ?_)
    · skip
      obtain ⟨x, hx1⟩ : ∃ x, e.ks[0]? = some x := ⟨_, List.getElem?_eq_getElem (by omega)⟩
      refine ACode.skip ?_
      refine ks_n ?_
      refine ACode.seq ?_
      refine ACode.block ?_
      refine ACode.seq ?_
      refine ACode.region ?_
      refine .cons (.xL 31 7 112 rfl rfl rfl rfl rfl (rE_at hx1)) ?_
      refine .cons (.lN 7 rfl rfl rfl) ?_
      refine .cons (.al 107 [.int .i64 0, .int .i64 0, .slice none 0 0, .int .i64 0, .string ByteArray.empty, .slice none 0 0, .slice none 0 0] rfl rfl rfl) ?_
      refine .cons (.sT 7 true rfl rfl rfl rfl rfl rfl rfl) ?_
      refine .nil ?_
      refine ks_n ?_
      refine ACode.drawK (by kernel_rfl) (by kernel_rfl) ?_
      refine .cons (.fB 6 0 false rfl rfl rfl) ?_
      refine .cons (.b1 1 rfl rfl rfl rfl rfl rfl) ?_
      refine .cons (.bN 7 rfl rfl rfl rfl rfl rfl) ?_
      refine .cons (.mv rfl rfl) ?_
      refine .cons (.cO [.tmp 38, .tmp 39] [(0, 0)] rfl rfl rfl rfl (ih x (List.mem_of_getElem? hx1) _) rfl ⟨rfl, trivial⟩ (hbI_flat _) (hbI_flat _) (hbI_HB _) outS_one) ?_
      refine .cons (.li 31 6 0 [.tmp 40] rfl rfl rfl rfl rfl rfl) ?_
      refine .cons (St1.appN (k' := 142) (e := 31) (sz := 6) (by' := 112) rfl rfl rfl rfl rfl (by kernel_rfl) rfl rfl rfl (by simp) (by first | (simp [dR]; done) | (simp [dR]; omega)) rfl rfl) ?_
      refine .cons (.fB 6 0 false rfl rfl rfl) ?_
      refine .cons (.sT 1 false rfl rfl rfl rfl rfl rfl rfl) ?_
      refine .nil ⟨by kernel_rfl, ?_⟩
      refine kb_n ?_
      refine ks_n ?_
      refine ACode.region ?_
      refine .cons (.pl rfl rfl rfl) ?_
      refine .cons (.mv rfl rfl) ?_
      refine .nil ?_
      refine kl_k [(0, 0), (110, 110), (111, 111), (112, 142)] (.inr ⟨1, rfl, by omega, by omega, rfl⟩) ⟨ks rfl (.c (.fb _ _ _ _ (by first | decide | simp))), ks rfl .dt, ks rfl (.c .bx), ks rfl (.c .bx), ks rfl .dt, ks rfl .dt, ks rfl .dt, kb 0 rfl (.dt rfl (by first | exact kid_row hx1 | exact kid_row1 hx1 | rfl | (simp; done))), kb 110 rfl (.cons (.cons .dt (.cons .dt (.cons .dt (.cons .dt (.cons .dt (.cons .dt (.cons .dt Ctos.nil))))))) .nil), kb 142 rfl (.dt rfl (by first | exact dR_take (fun x => rX (mapE g x)) hx1 | exact dR_take1 (fun x => rX (mapE g x)) hx1 | rfl | (simp [dR]; done))), kb 111 rfl (.cons (.cons .dt (.cons .dt (.cons (.dt (by first | rfl | (simp [*]; done) | (simp [*]; rfl))) (.cons (.dt (by first | rfl | (simp [*]; done) | (simp [*]; rfl))) (.cons (.dt (by first | rfl | (simp [*]; done) | (simp [*]; rfl))) (.cons (.dt (by first | rfl | (simp [*]; done) | (simp [*]; rfl))) (.cons .ow Ctos.nil))))))) .nil), trivial⟩
    · skip
      have hn : e.ks = [] := List.eq_nil_of_length_eq_zero (by omega)
      refine ACode.exit ?_
      refine ks_e ?_
      refine kl_e ?_
      refine kb_hit ?_
      refine ks_n ?_
      refine ACode.seq ?_
      refine ACode.region ?_
      refine .cons (.bN 7 rfl rfl rfl rfl rfl rfl) ?_
      refine .cons (.sT 7 true rfl rfl rfl rfl rfl rfl rfl) ?_
      refine .nil ?_
      refine ks_n ?_
      refine ACode.ret ?_
      refine kf_wret [(.t 4, .v (.o (.c (.box 100 7 0 0)))), (.b 0, .b 3 1 (dR ([rI ((affsE e).foldl c n)]))), (.u 0, .u), (.b 100, .b 31 7 [[.d (dI e.k), .d (dI e.n), .d (dIs (if e.k = 2 then g e.i else ([], 0)).1), .d (dI (if e.k = 2 then g e.i else ([], 0)).2), .d (dS (if e.k = 3 then mapC g e.r else (ByteArray.empty, [])).1), .d (dAs (if e.k = 3 then mapC g e.r else (ByteArray.empty, [])).2), .d (dEs (e.ks.map (mapE g)))]]), (.u 100, .u)] (Wk.keep [(0, 0), (100, 110)] rfl rfl ⟨ks rfl (.c .bx), kb 0 rfl (.dt rfl (by rw [affsE_fold]; first | rfl | (rw [hn]; rfl) | (rw [List.take_length]; done))), kb 110 rfl (.cons (.cons .dt (.cons .dt (.cons (.dt (by first | rfl | (simp [*]; done) | (simp [*]; rfl))) (.cons (.dt (by first | rfl | (simp [*]; done) | (simp [*]; rfl))) (.cons (.dt (by first | rfl | (simp [*]; done) | (simp [*]; rfl))) (.cons (.dt (by first | rfl | (simp [*]; done) | (simp [*]; rfl))) (.cons (Cto.nilE 7 (by rw [hn]; rfl)) Ctos.nil))))))) .nil), trivial⟩) rfl ?_ (hbI_box rfl)
      rw [rX_map]; rfl
  · skip
    refine ACode.seq ?_
    refine ACode.region ?_
    refine .cons (.ls rfl rfl rfl) ?_
    refine .nil ?_
    refine ks_n ?_
    refine ACode.seq ?_
    refine .cD rfl (fun h33 => ?_) (fun h33 => ?_)
    · skip
      obtain ⟨x, hx1⟩ : ∃ x, e.ks[i]? = some x := ⟨_, List.getElem?_eq_getElem (by omega)⟩
      refine ACode.skip ?_
      refine ks_n ?_
      refine ACode.seq ?_
      refine ACode.block ?_
      refine ACode.seq ?_
      refine ACode.region ?_
      refine .cons (.xL 31 7 112 rfl rfl rfl rfl rfl (rE_at hx1)) ?_
      refine .cons (.lN 7 rfl rfl rfl) ?_
      refine .cons (.al 107 [.int .i64 0, .int .i64 0, .slice none 0 0, .int .i64 0, .string ByteArray.empty, .slice none 0 0, .slice none 0 0] rfl rfl rfl) ?_
      refine .cons (.sT 7 true rfl rfl rfl rfl rfl rfl rfl) ?_
      refine .nil ?_
      refine ks_n ?_
      refine ACode.drawK (by kernel_rfl) (by kernel_rfl) ?_
      refine .cons (.fB 6 0 false rfl rfl rfl) ?_
      refine .cons (.b1 1 rfl rfl rfl rfl rfl rfl) ?_
      refine .cons (.bN 7 rfl rfl rfl rfl rfl rfl) ?_
      refine .cons (.mv rfl rfl) ?_
      refine .cons (.cO [.tmp 38, .tmp 39] [(0, 0)] rfl rfl rfl rfl (ih x (List.mem_of_getElem? hx1) _) rfl ⟨rfl, trivial⟩ (hbI_flat _) (hbI_flat _) (hbI_HB _) outS_one) ?_
      refine .cons (.li 31 6 0 [.tmp 40] rfl rfl rfl rfl rfl rfl) ?_
      refine .cons (St1.appB (k' := 142) (e := 31) (sz := 6) (by' := 112) rfl rfl rfl rfl rfl (by kernel_rfl) rfl rfl rfl rfl (by first | (simp [dR]; done) | (simp [dR]; omega)) (by first | (simp [dR]; done) | (simp [dR]; omega)) rfl rfl rfl) ?_
      refine .cons (.fB 6 0 false rfl rfl rfl) ?_
      refine .cons (.sT 1 false rfl rfl rfl rfl rfl rfl rfl) ?_
      refine .nil ⟨by kernel_rfl, ?_⟩
      refine kb_n ?_
      refine ks_n ?_
      refine ACode.region ?_
      refine .cons (.pl rfl rfl rfl) ?_
      refine .cons (.mv rfl rfl) ?_
      refine .nil ?_
      refine kl_k [(0, 0), (110, 110), (111, 111), (112, 142)] (.inr ⟨i + 1, rfl, by omega, by omega, rfl⟩) ⟨ks rfl (.c (.fb _ _ _ _ (by first | decide | simp))), ks rfl .dt, ks rfl (.c .bx), ks rfl (.c .bx), ks rfl .dt, ks rfl .dt, ks rfl .dt, kb 0 rfl (.dt rfl (by first | exact kid_row hx1 | exact kid_row1 hx1 | rfl | (simp; done))), kb 110 rfl (.cons (.cons .dt (.cons .dt (.cons .dt (.cons .dt (.cons .dt (.cons .dt (.cons .dt Ctos.nil))))))) .nil), kb 142 rfl (.dt rfl (by first | exact dR_take (fun x => rX (mapE g x)) hx1 | exact dR_take1 (fun x => rX (mapE g x)) hx1 | rfl | (simp [dR]; done))), kb 111 rfl (.cons (.cons .dt (.cons .dt (.cons (.dt (by first | rfl | (simp [*]; done) | (simp [*]; rfl))) (.cons (.dt (by first | rfl | (simp [*]; done) | (simp [*]; rfl))) (.cons (.dt (by first | rfl | (simp [*]; done) | (simp [*]; rfl))) (.cons (.dt (by first | rfl | (simp [*]; done) | (simp [*]; rfl))) (.cons .ow Ctos.nil))))))) .nil), trivial⟩
    · skip
      obtain rfl : i = e.ks.length := by omega
      refine ACode.exit ?_
      refine ks_e ?_
      refine kl_e ?_
      refine kb_hit ?_
      refine ks_n ?_
      refine ACode.seq ?_
      refine ACode.region ?_
      refine .cons (.bN 7 rfl rfl rfl rfl rfl rfl) ?_
      refine .cons (.sT 7 true rfl rfl rfl rfl rfl rfl rfl) ?_
      refine .nil ?_
      refine ks_n ?_
      refine ACode.ret ?_
      refine kf_wret [(.t 4, .v (.o (.c (.box 100 7 0 0)))), (.b 0, .b 3 1 (dR ([rI ((affsE e).foldl c n)]))), (.u 0, .u), (.b 100, .b 31 7 [[.d (dI e.k), .d (dI e.n), .d (dIs (if e.k = 2 then g e.i else ([], 0)).1), .d (dI (if e.k = 2 then g e.i else ([], 0)).2), .d (dS (if e.k = 3 then mapC g e.r else (ByteArray.empty, [])).1), .d (dAs (if e.k = 3 then mapC g e.r else (ByteArray.empty, [])).2), .d (dEs (e.ks.map (mapE g)))]]), (.u 100, .u)] (Wk.keep [(0, 0), (100, 110)] rfl rfl ⟨ks rfl (.c .bx), kb 0 rfl (.dt rfl (by rw [affsE_fold]; first | rfl | (rw [hn]; rfl) | (rw [List.take_length]; done))), kb 110 rfl (.cons (.cons .dt (.cons .dt (.cons (.dt (by first | rfl | (simp [*]; done) | (simp [*]; rfl))) (.cons (.dt (by first | rfl | (simp [*]; done) | (simp [*]; rfl))) (.cons (.dt (by first | rfl | (simp [*]; done) | (simp [*]; rfl))) (.cons (.dt (by first | rfl | (simp [*]; done) | (simp [*]; rfl))) (.cons (.fz rfl (by first | rfl | exact dR_ex _ _ | (rw [List.take_length]; done)) (by first | rfl | (simp; done) | (simp; omega)) (by omega)) Ctos.nil))))))) .nil), trivial⟩) rfl ?_ (hbI_box rfl)
      rw [rX_map]; rfl

theorem exprMapB_fn {f : FuncId} (hc : callable Try.prog f = true) (g : Aff → Aff) (c : Int → Aff → Int) : ∀ (e : Ex) (n : Int), szE e ≤ 1073741824 → (∀ x ∈ affsE e, ∀ n, Fn Try.prog f (hbI n) [ad (rA x), .c (.box 0 1 0 0)] (.o (ad (rA (g x)))) (hbI (c n x))) → Fn Try.prog 121 (hbI n) [ad (rX e), .c (.fb f 0 1)] (.o (ad (rX (mapE g e)))) (hbI ((affsE e).foldl c n)) := by
  intro e
  induction e using Ex.rec' with
  | h e ih =>
    intro n hs hg
    rw [szE_eq, szC] at hs
    have := szAs_len e.r.2
    exact exprMapB_one hc g c n e (by omega) (by omega) hg fun x hx n => ih x hx n (by have := szEs_mem hx; omega) fun a ha => hg a (affsE_k hx ha)

set_option maxRecDepth 100000 in
set_option maxHeartbeats 1600000 in
theorem stmtMapB_fn {f : FuncId} (hc : callable Try.prog f = true) (g : Aff → Aff) (c : Int → Aff → Int) (n : Int) (s : Stm) (hs : szS s ≤ 1073741824) (hg : ∀ x ∈ affsS s, ∀ n, Fn Try.prog f (hbI n) [ad (rA x), .c (.box 0 1 0 0)] (.o (ad (rA (g x)))) (hbI (c n x))) : Fn Try.prog 60 (hbI n) [ad (rS s), .c (.fb f 0 1)] (.o (ad (rS (mapS g s)))) (hbI ((affsS s).foldl c n)) := by
  have h1 : s.1.2.length ≤ 1073741824 := by rw [szS, szC] at hs; have := szAs_len s.1.2; omega
  have h2 : szE s.2 ≤ 1073741824 := by rw [szS] at hs; omega
  refine Fn.of_code Try.func60 rfl rfl (hbI_HB _) rfl rfl (hbI_HB _) rfl (hbI_num _ _) ?_
  refine ACode.seq ?_
  refine ACode.region ?_
  refine .cons (St1.boxP rfl rfl rfl rfl rfl rfl) ?_
  refine .cons (.al 104 [.string ByteArray.empty, .slice none 0 0, .int .i64 0, .int .i64 0, .slice none 0 0, .int .i64 0, .string ByteArray.empty, .slice none 0 0, .slice none 0 0] rfl rfl rfl) ?_
  refine .nil ?_
  refine ks_n ?_
  refine ACode.seq ?_
  refine ACode.drawK (by kernel_rfl) (by kernel_rfl) ?_
  refine .cons (.fP 0 1 true rfl rfl) ?_
  refine .cons (.lN 2 rfl rfl rfl) ?_
  refine .cons (.mv rfl rfl) ?_
  refine .cons (.cO [.tmp 6, .tmp 7] [(0, 0)] rfl rfl rfl rfl (accMapB_fn hc g c n s.1 h1 (fun x hx => hg x (by rw [affsS]; exact List.mem_append_left _ hx))) rfl ⟨rfl, trivial⟩ (hbI_flat _) (hbI_flat _) (hbI_HB _) outS_one) ?_
  refine .cons (.fP 2 6 true rfl rfl) ?_
  refine .cons (.lN 7 rfl rfl rfl) ?_
  refine .cons (.mv rfl rfl) ?_
  refine .cons (.cO [.tmp 10, .tmp 11] [(0, 0)] rfl rfl rfl rfl (exprMapB_fn hc g c s.2 _ h2 (fun x hx => hg x (by rw [affsS]; exact List.mem_append_right _ hx))) rfl ⟨rfl, trivial⟩ (hbI_flat _) (hbI_flat _) (hbI_HB _) outS_one) ?_
  refine .cons (.bu [(0, .tmp 8), (1, .tmp 12)] [(0, 2), (2, 7)] [.string ByteArray.empty, .slice none 0 0, .int .i64 0, .int .i64 0, .slice none 0 0, .int .i64 0, .string ByteArray.empty, .slice none 0 0, .slice none 0 0] rfl rfl rfl rfl rfl) ?_
  refine .cons (.sT 9 true rfl rfl rfl rfl rfl rfl rfl) ?_
  refine .nil ⟨by kernel_rfl, ?_⟩
  refine ks_n ?_
  refine ACode.ret ?_
  refine kf_ret rfl ?_ (hbI_box (by rw [affsS, List.foldl_append]; rfl))
  rfl

def depC (n : Int) (x : Aff) : Int := max n (affDepth x : Nat)
/-- The depth of a statement. -/
def depS (s : Stm) : Int := if stmtV 4 s = true then (affsS s).foldl depC 0 else 0

set_option maxRecDepth 100000 in
set_option maxHeartbeats 1600000 in
theorem implDepth_fn (s : Stm) (hs : szS s ≤ 1073741824) : Fn Try.prog 18 [] [ad (rS s)] (.o (nat1 (depS s))) [] := by
  refine Fn.code0 Try.func18 rfl rfl rfl rfl ?_
  refine ACode.seq ?_
  refine ACode.region ?_
  refine .cons (St1.boxP rfl rfl rfl rfl rfl rfl) ?_
  refine .cons (.asg rfl rfl) ?_
  refine .nil ?_
  refine ks_n ?_
  refine ACode.seq ?_
  refine ACode.seq ?_
  refine ACode.region ?_
  refine .cons (.lN 9 rfl rfl rfl) ?_
  refine .cons (.cP [.tmp 4] rfl rfl rfl rfl (isStmt_fn s (by omega)) rfl) ?_
  refine .cons (.nt rfl rfl) ?_
  refine .nil ?_
  refine ks_n ?_
  refine ACode.condT rfl (fun h6 => ?_) (fun h6 => ?_)
  · try simp only [List.length_map, decide_eq_true_eq, decide_eq_false_iff_not, Bool.not_eq_true', Bool.not_eq_false', Bool.not_eq_true, Bool.not_eq_false] at h6
    refine ACode.seq ?_
    refine ACode.region ?_
    refine .cons (.asg rfl rfl) ?_
    refine .nil ?_
    refine ks_n ?_
    refine ACode.ret ?_
    refine ks_r ?_
    refine kf_wret [(.t 2, .v (.o (nat1 (depS s))))] (Wk.keep [] rfl rfl ⟨ks rfl (.dt (by rw [depS, h6]; rfl)), trivial⟩) rfl ?_ nobox
    rfl
  · try simp only [List.length_map, decide_eq_true_eq, decide_eq_false_iff_not, Bool.not_eq_true', Bool.not_eq_false', Bool.not_eq_true, Bool.not_eq_false] at h6
    refine ACode.skip ?_
    refine ks_n ?_
    refine ACode.seq ?_
    refine ACode.region ?_
    refine .cons (.al 103 [.int .i64 0] rfl rfl rfl) ?_
    refine .cons (.sT 1 false rfl rfl rfl rfl rfl rfl rfl) ?_
    refine .nil ?_
    refine ks_n ?_
    refine ACode.seq ?_
    refine ACode.region ?_
    refine .cons (.lN 9 rfl rfl rfl) ?_
    refine .cons (St1.makeFuncB rfl rfl rfl rfl rfl rfl rfl) ?_
    refine .cons (.cO [.tmp 7, .tmp 8] [(0, 103)] rfl rfl rfl rfl (stmtMapB_fn (f := 61) (by kernel_rfl) id depC 0 s hs (fun x _ n => depth1_fn x n)) rfl ⟨rfl, trivial⟩ (hbI_flat _) (hbI_flat _) (hbI_HB _) outS_one) ?_
    refine .nil ?_
    refine ks_n ?_
    refine ACode.seq ?_
    refine ACode.region ?_
    refine .cons (.b1 1 rfl rfl rfl rfl rfl rfl) ?_
    refine .cons (.asg rfl rfl) ?_
    refine .nil ?_
    refine ks_n ?_
    refine ACode.ret ?_
    refine kf_wret [(.t 2, .v (.o (nat1 (depS s))))] (Wk.keep [] rfl rfl ⟨ks rfl (.dt (by rw [depS, h6]; rfl)), trivial⟩) rfl ?_ nobox
    rfl

end Go.Proofs.Ytigdfdhjnadieaa

/- Plain laws of statements: maps over their affine parts; no condition. -/
namespace Go.Proofs.Ytigdfdhjnadieaa
set_option linter.unusedVariables false
set_option linter.unusedSimpArgs false
open Go.RowKit

theorem sameS_self (s : Stm) : sameS s s = true := sameS_iff.2 rfl
end Go.Proofs.Ytigdfdhjnadieaa

/- Plain laws of statements: depth and validity; no condition. -/
namespace Go.Proofs.Ytigdfdhjnadieaa
set_option linter.unusedVariables false
set_option linter.unusedSimpArgs false
open Go.RowKit

theorem depC_le {l : List Aff} : ∀ {n m : Int}, (l.foldl depC n ≤ m ↔ n ≤ m ∧ ∀ x ∈ l, (affDepth x : Int) ≤ m) := by
  induction l with
  | nil => intro n m; simp
  | cons y l ih =>
    intro n m
    rw [List.foldl_cons, ih, depC]
    constructor
    · rintro ⟨h1, h2⟩
      refine ⟨by omega, fun x hx => ?_⟩
      rcases List.mem_cons.1 hx with rfl | hx
      · omega
      · exact h2 x hx
    · rintro ⟨h1, h2⟩
      have := h2 y (by simp)
      exact ⟨by omega, fun x hx => h2 x (by simp [hx])⟩
theorem depC_ge {l : List Aff} : ∀ {n : Int}, n ≤ l.foldl depC n := fun {n} => ((depC_le (l := l) (n := n) (m := l.foldl depC n)).1 (Int.le_refl _)).1
theorem accV_dep {d D : Nat} {a : Acc} (h : accV D a = true) : accV d a = true ↔ ∀ x ∈ a.2, affDepth x ≤ d := by
  simp only [accV, sideV, bndV, Bool.and_eq_true, List.all_eq_true, decide_eq_true_eq] at *
  exact ⟨fun h2 x hx => (h2.2.1.1 x hx).2, fun h2 => ⟨h.1, ⟨⟨fun x hx => ⟨(h.2.1.1 x hx).1, h2 x hx⟩, h.2.1.2⟩, h.2.2⟩⟩⟩
theorem fldV_dep {d D : Nat} {k n : Int} {i : Aff} {r : Acc} (h : fldV D k n i r = true) : fldV d k n i r = true ↔ ((k = 2 → affDepth i ≤ d) ∧ (k = 3 → ∀ x ∈ r.2, affDepth x ≤ d)) := by
  unfold fldV at *
  split at h
  · next h1 => rw [if_pos h1, h]; exact iff_of_true rfl ⟨fun h2 => by omega, fun h2 => by omega⟩
  · next h1 =>
    rw [if_neg h1]
    split at h
    · next h2 =>
      rw [if_pos h2]
      simp only [Bool.and_eq_true, decide_eq_true_eq] at h ⊢
      exact ⟨fun h3 => ⟨fun _ => h3.1.2.2, fun h4 => by omega⟩, fun h3 => ⟨⟨h.1.1, h.1.2.1, h3.1 h2⟩, h.2⟩⟩
    · next h2 =>
      rw [if_neg h2]
      split at h
      · next h3 =>
        rw [if_pos h3]
        simp only [Bool.and_eq_true] at h ⊢
        exact ⟨fun h4 => ⟨fun h5 => absurd h5 h2, fun _ => (accV_dep h.2).1 h4.2⟩, fun h4 => ⟨h.1, (accV_dep h.2).2 (h4.2 h3)⟩⟩
      · next h3 => rw [if_neg h3, h]; exact iff_of_true rfl ⟨fun h4 => absurd h4 h2, fun h4 => absurd h4 h3⟩
theorem exV_dep {d D : Nat} : ∀ {L : Nat} {e : Ex}, exV D L e = true → (exV d L e = true ↔ ∀ x ∈ affsE e, affDepth x ≤ d)
  | 0, e, h => by cases h
  | L + 1, e, h => by
    rw [exV, Bool.and_eq_true, Bool.and_eq_true, List.all_eq_true] at h
    rw [exV, Bool.and_eq_true, Bool.and_eq_true, List.all_eq_true, fldV_dep h.1.2, affsE_eq]
    constructor
    · rintro ⟨⟨_, h1, h2⟩, h3⟩ x hx
      rcases List.mem_append.1 hx with hx | hx
      · split at hx
        · next hk => rw [List.mem_singleton] at hx; subst hx; exact h1 hk
        · cases hx
      · rcases List.mem_append.1 hx with hx | hx
        · split at hx
          · next hk => exact h2 hk x hx
          · cases hx
        · obtain ⟨y, hy, hxy⟩ := affsEs_of hx
          exact (exV_dep (h.2 y hy)).1 (h3 y hy) x hxy
    · intro h1
      refine ⟨⟨h.1.1, fun hk => h1 _ (by rw [if_pos hk]; simp), fun hk x hx => h1 _ (by rw [if_pos hk]; simp [hx])⟩, fun y hy => (exV_dep (h.2 y hy)).2 fun x hx => h1 x ?_⟩
      exact List.mem_append_right _ (List.mem_append_right _ (affsEs_mem hy x hx))
theorem stmtV_dep {s : Stm} {D n : Int} (hv : stmtV D s = true) (hn : 0 ≤ n ∧ n ≤ 4) : stmtV n s = true ↔ (affsS s).foldl depC 0 ≤ n := by
  obtain ⟨h1, h2, h3, h4, h5⟩ := stmtV_ex hv
  rw [stmtV_s hn, Bool.and_eq_true, Bool.and_eq_true, decide_eq_true_eq, accV_dep h2, exV_dep h1, depC_le]
  constructor
  · rintro ⟨⟨a, b⟩, _⟩
    refine ⟨hn.1, fun x hx => ?_⟩
    rw [affsS] at hx
    rcases List.mem_append.1 hx with hx | hx
    · have := a x hx; omega
    · have := b x hx; omega
  · rintro ⟨_, a⟩
    refine ⟨⟨fun x hx => ?_, fun x hx => ?_⟩, h3⟩
    · have := a x (by rw [affsS]; simp [hx]); omega
    · have := a x (by rw [affsS]; simp [hx]); omega
theorem depS_eq {s : Stm} (h : stmtV 4 s = true) : depS s = (affsS s).foldl depC 0 := if_pos h
theorem depS_bd {s : Stm} : 0 ≤ depS s ∧ depS s ≤ 4 := by
  rw [depS]
  split
  · next h => exact ⟨depC_ge, (stmtV_dep h (by omega)).1 h⟩
  · omega
theorem depS_le {s : Stm} (h : stmtV 4 s = true) {m : Int} (hm : 0 ≤ m) : depS s ≤ m ↔ ∀ x ∈ affsS s, (affDepth x : Int) ≤ m := by
  rw [depS_eq h, depC_le]; exact ⟨fun h => h.2, fun h => ⟨hm, h⟩⟩
end Go.Proofs.Ytigdfdhjnadieaa

/- Depth of statements, of the reference; condition: small lists. -/
namespace Go.Proofs.Ytigdfdhjnadieaa
set_option linter.unusedVariables false
set_option linter.unusedSimpArgs false
open Go.RowKit

end Go.Proofs.Ytigdfdhjnadieaa

/- Statements: the reads, in a slice of their own; condition: small lists. -/
namespace Go.Proofs.Ytigdfdhjnadieaa
set_option linter.unusedVariables false
set_option linter.unusedSimpArgs false
open Go.RowKit

end Go.Proofs.Ytigdfdhjnadieaa

/- Law FnStmtSum; condition: bytes. -/
namespace Go.Proofs.Ytigdfdhjnadieaa
set_option linter.unusedVariables false
set_option linter.unusedSimpArgs false
open Go.RowKit

def accS (z : Acc) : Stm := (z, .mk 0 0 ([], 0) (ByteArray.empty, []) [])
end Go.Proofs.Ytigdfdhjnadieaa

/- Law FnFoldReads; condition: bytes. -/
namespace Go.Proofs.Ytigdfdhjnadieaa
set_option linter.unusedVariables false
set_option linter.unusedSimpArgs false
open Go.RowKit

theorem fold_sz {d L : Nat} {e : Ex} (h : exV d L e = true) : szE (foldE e) ≤ szE e := by
  refine fold_ind (d := d) (p := fun L e X => szE X ≤ szE e) (fun L n e _ _ _ => ?_) (fun L e _ _ _ => Nat.le_refl _) (fun L e x y X _ _ hks h => ?_) (fun L e x y Y _ _ hks h => ?_) (fun L e x y _ hk hks h1 h2 _ => ?_) h
  · have : szE (numE n) = 0 := by simp [numE, szE, szC, szAs, szEs]
    rw [this]; exact Nat.zero_le _
  · rw [szE_eq e, hks, szEs, szEs, szEs]; omega
  · rw [szE_eq e, hks, szEs, szEs, szEs]; omega
  · have h3 : szE (outE e.k (foldE x) (foldE y)) = 2 + (szE (foldE x) + (szE (foldE y) + 0)) := by
      rw [outE, szE, szEs, szEs, szEs]; simp [szC, szAs]
    rw [h3, szE_eq e, hks, szEs, szEs, szEs]; simp; omega
theorem foldS_sz {s : Stm} (h : stmtV 4 s = true) : szS (foldS s) ≤ szS s := by
  have := fold_sz (stmtV_ex h).1
  show szC s.1 + szE (foldE s.2) ≤ szC s.1 + szE s.2; omega
theorem foldT_ok {s : Stm} (h : (foldT s).2 = true) : stmtV 4 s = true ∧ (foldT s).1 = foldS s := by
  rw [foldT] at h ⊢
  split at h
  · next hv => rw [if_pos hv]; exact ⟨hv, rfl⟩
  · cases h
theorem foldT_sz {s : Stm} {m : Nat} (h : szS s ≤ m) : szS (foldT s).1 ≤ m := by
  rw [foldT]
  split
  · next hv => exact Nat.le_trans (foldS_sz hv) h
  · exact Nat.zero_le _
end Go.Proofs.Ytigdfdhjnadieaa

/- Law FnFoldStmt; condition: bytes. -/
namespace Go.Proofs.Ytigdfdhjnadieaa
set_option linter.unusedVariables false
set_option linter.unusedSimpArgs false
open Go.RowKit

theorem fold_idem {d L : Nat} {e : Ex} (h : exV d L e = true) : foldE (foldE e) = foldE e := by
  refine fold_ind (d := d) (p := fun L e X => foldE X = X) (fun L n e _ _ _ => ?_) (fun L e _ hk hi => ?_) (fun L e x y X _ _ hks h => h) (fun L e x y Y _ _ hks h => h) (fun L e x y _ hk hks h1 h2 h3 => ?_) h
  · rw [foldE_leaf (show ¬ (4 ≤ (numE n).k ∧ (numE n).k ≤ 6) by show ¬ (4 ≤ (1 : Int) ∧ (1 : Int) ≤ 6); omega)]
    exact if_neg (by simp [idxV, numE, Ex.k])
  · rw [foldE_leaf hk, if_neg (by rw [hi]; simp)]
  · rw [foldE_op (e := outE e.k (foldE x) (foldE y)) (x := foldE x) (y := foldE y) hk rfl, h1, h2]
    exact h3
theorem fold_ops {d L : Nat} {e : Ex} (h : exV d L e = true) : opsE (foldE e) ≤ opsE e := by
  refine fold_ind (d := d) (p := fun L e X => opsE X ≤ opsE e) (fun L n e _ _ _ => ?_) (fun L e _ _ _ => Nat.le_refl _) (fun L e x y X _ _ hks h => ?_) (fun L e x y Y _ _ hks h => ?_) (fun L e x y _ hk hks h1 h2 _ => ?_) h
  · have : opsE (numE n) = 0 := by rw [opsE_eq]; rfl
    omega
  · rw [opsE_eq e, hks, opsEs, opsEs, opsEs]; omega
  · rw [opsE_eq e, hks, opsEs, opsEs, opsEs]; omega
  · have h3 : opsE (outE e.k (foldE x) (foldE y)) = 1 + (opsE (foldE x) + (opsE (foldE y) + 0)) := by
      rw [opsE_eq, show (outE e.k (foldE x) (foldE y)).k = e.k from rfl, if_pos hk]
      show 1 + opsEs [foldE x, foldE y] = _
      rw [opsEs, opsEs, opsEs]
    rw [h3, opsE_eq e, hks, if_pos hk, opsEs, opsEs, opsEs]; omega
theorem fold_affs {d L : Nat} {e : Ex} (h : exV d L e = true) : ∀ a ∈ affsE (foldE e), a ∈ affsE e := by
  refine fold_ind (d := d) (p := fun L e X => ∀ a ∈ affsE X, a ∈ affsE e) (fun L n e _ _ _ a ha => ?_) (fun L e _ _ _ a ha => ha) (fun L e x y X _ _ hks h a ha => ?_) (fun L e x y Y _ _ hks h a ha => ?_) (fun L e x y _ hk hks h1 h2 _ a ha => ?_) h
  · rw [affsE_eq] at ha
    simp [numE, Ex.k, Ex.ks, affsEs] at ha
  · exact affsE_k (show x ∈ e.ks by rw [hks]; simp) (h a ha)
  · exact affsE_k (show y ∈ e.ks by rw [hks]; simp) (h a ha)
  · rw [affsE_eq, show (outE e.k (foldE x) (foldE y)).k = e.k from rfl, if_neg (show ¬ e.k = 2 by omega), if_neg (show ¬ e.k = 3 by omega)] at ha
    obtain ⟨z, hz, haz⟩ := affsEs_of ha
    rcases List.mem_cons.1 (show z ∈ [foldE x, foldE y] from hz) with rfl | hz
    · exact affsE_k (show x ∈ e.ks by rw [hks]; simp) (h1 a haz)
    · rw [List.mem_singleton] at hz; subst hz
      exact affsE_k (show y ∈ e.ks by rw [hks]; simp) (h2 a haz)
theorem foldT_twice {s : Stm} (h : (foldT s).2 = true) : foldT (foldT s).1 = ((foldT s).1, true) ∧ opsS (foldT s).1 ≤ opsS s ∧ (foldT s).1.1 = s.1 ∧ depS (foldT s).1 ≤ depS s := by
  obtain ⟨hv, e⟩ := foldT_ok h
  have hx := (stmtV_ex hv).1
  have hf := foldS_ok hv
  rw [e]
  refine ⟨?_, ?_, rfl, ?_⟩
  · rw [foldT_yes hf]
    have : foldS (foldS s) = foldS s := by show (s.1, foldE (foldE s.2)) = (s.1, foldE s.2); rw [fold_idem hx]
    rw [this]
  · rw [opsS, opsS, if_pos hv, if_pos hf]; exact fold_ops hx
  · rw [depS_le hf depS_bd.1]
    intro x hx2
    refine (depS_le hv depS_bd.1).1 (Int.le_refl _) x ?_
    rw [affsS] at hx2 ⊢
    rcases List.mem_append.1 hx2 with h1 | h1
    · exact List.mem_append_left _ h1
    · exact List.mem_append_right _ (fold_affs hx x h1)
theorem opsS_le (s : Stm) : opsS s ≤ 12 := by
  rw [opsS]
  split
  · next h => exact Nat.le_trans (opsE_le _) (stmtV_ex h).2.2.1
  · exact Nat.zero_le _

theorem accS_sz1 {s : Stm} {m : Nat} (h : szS s ≤ m) : szS (accS s.1) ≤ m := by
  have e : szS (accS s.1) = szC s.1 := by simp [szS, accS, szE, szEs, szC, szAs]
  rw [e]; rw [szS] at h; omega

set_option maxRecDepth 100000 in
set_option maxHeartbeats 1600000 in
theorem foldStmt_core {bs : List Int} (hl : bs.length ≤ 1048576) {s : Stm} (hs : szS s ≤ 400) (hD : Fn Try.prog 45 [] [vD (dYs bs)] (.o (ad (rS s))) [])  : Fn Try.prog 14 [] [vD (dYs bs)] (.o (bo1 true)) [] := by
  have z1 : szS (foldT s).1 ≤ 400 := foldT_sz hs
  have z2 := opsS_le s
  have z3 := opsS_le (foldT s).1
  have z4 : szS (accS (foldT s).1.1) ≤ 400 := accS_sz1 z1
  have z5 : szS (foldT (foldT s).1).1 ≤ 400 := foldT_sz z1
  refine Fn.code0 Try.func14 rfl rfl rfl rfl ?_
  refine ACode.seq ?_
  refine ACode.region ?_
  refine .cons (.asg rfl rfl) ?_
  refine .nil ?_
  refine ks_n ?_
  refine ACode.seq ?_
  refine ACode.seq ?_
  refine ACode.region ?_
  refine .cons (.mv rfl rfl) ?_
  refine .cons (.ln 5 1 1 rfl rfl rfl) ?_
  refine .cons (.gt rfl rfl rfl) ?_
  refine .nil ?_
  refine ks_n ?_
  refine .cD rfl (fun h12 => ?_) (fun h12 => ?_)
  · skip
    omega
  · skip
    refine ACode.skip ?_
    refine ks_n ?_
    refine ACode.seq ?_
    refine ACode.region ?_
    refine .cons (.mv rfl rfl) ?_
    refine .cons (.cP [.tmp 13] rfl rfl rfl rfl (hD) rfl) ?_
    refine .cons (.al 103 [.string ByteArray.empty, .slice none 0 0, .int .i64 0, .int .i64 0, .slice none 0 0, .int .i64 0, .string ByteArray.empty, .slice none 0 0, .slice none 0 0] rfl rfl rfl) ?_
    refine .cons (.sT 9 true rfl rfl rfl rfl rfl rfl rfl) ?_
    refine .nil ?_
    refine ks_n ?_
    refine ACode.seq ?_
    refine ACode.region ?_
    refine .cons (.bN 9 rfl rfl rfl rfl rfl rfl) ?_
    refine .cons (.cP [.tmp 16] rfl rfl rfl rfl (implFold_fn s (by omega)) rfl) ?_
    refine .cons (.mv rfl rfl) ?_
    refine .cons (.ex rfl rfl rfl) ?_
    refine .cons (.ex rfl rfl rfl) ?_
    refine .cons (.al 104 [.string ByteArray.empty, .slice none 0 0, .int .i64 0, .int .i64 0, .slice none 0 0, .int .i64 0, .string ByteArray.empty, .slice none 0 0, .slice none 0 0] rfl rfl rfl) ?_
    refine .cons (.sT 9 true rfl rfl rfl rfl rfl rfl rfl) ?_
    refine .cons (.asg rfl rfl) ?_
    refine .nil ?_
    refine ks_n ?_
    refine ACode.seq ?_
    refine ACode.region ?_
    refine .cons (.bN 9 rfl rfl rfl rfl rfl rfl) ?_
    refine .cons (.cP [.tmp 21] rfl rfl rfl rfl (specFold_fn s (by omega)) rfl) ?_
    refine .cons (.mv rfl rfl) ?_
    refine .cons (.ex rfl rfl rfl) ?_
    refine .cons (.ex rfl rfl rfl) ?_
    refine .cons (.al 106 [.string ByteArray.empty, .slice none 0 0, .int .i64 0, .int .i64 0, .slice none 0 0, .int .i64 0, .string ByteArray.empty, .slice none 0 0, .slice none 0 0] rfl rfl rfl) ?_
    refine .cons (.sT 9 true rfl rfl rfl rfl rfl rfl rfl) ?_
    refine .cons (.asg rfl rfl) ?_
    refine .nil ?_
    refine ks_n ?_
    refine ACode.seq ?_
    refine ACode.seq ?_
    refine ACode.region ?_
    refine .cons (.mv rfl rfl) ?_
    refine .cons (.mv rfl rfl) ?_
    refine .cons (St1.neqB rfl rfl rfl rfl (by kernel_rfl) rfl rfl) ?_
    refine .cons (.mv rfl rfl) ?_
    refine AOps.cases 28 _ rfl (fun g28 => ?_) (fun g28 => ?_)
    · try simp only [List.length_map, decide_eq_true_eq, decide_eq_false_iff_not, Bool.not_eq_true', Bool.not_eq_false', Bool.not_eq_true, Bool.not_eq_false] at g28
      refine .cons (.gF rfl rfl rfl) ?_
      refine .cons (.gF rfl rfl rfl) ?_
      refine .cons (.gF rfl rfl rfl) ?_
      refine .cons (.gF rfl rfl rfl) ?_
      refine .cons (.pT rfl rfl rfl) ?_
      refine .cons (.mv rfl rfl) ?_
      refine .cons (.gF rfl rfl rfl) ?_
      refine .cons (.gF rfl rfl rfl) ?_
      refine .cons (.pT rfl rfl rfl) ?_
      refine .nil ?_
      refine ks_n ?_
      refine ACode.condT rfl (fun _ => ?_) (fun h => by first | (cases h; done) | (simp [*] at h; done) | (exfalso; simp_all; done))
      refine ACode.seq ?_
      refine ACode.region ?_
      refine .cons (.mv rfl rfl) ?_
      refine .cons (.mv rfl rfl) ?_
      refine .cons (St1.eqlB rfl rfl rfl rfl (by kernel_rfl) rfl rfl) ?_
      refine .cons (.mv rfl rfl) ?_
      refine AOps.cases 41 _ rfl (fun g41 => ?_) (fun g41 => ?_)
      · try simp only [List.length_map, decide_eq_true_eq, decide_eq_false_iff_not, Bool.not_eq_true', Bool.not_eq_false', Bool.not_eq_true, Bool.not_eq_false] at g41
        refine .cons (.gT rfl rfl rfl (.bN 9 rfl rfl rfl rfl rfl rfl)) ?_
        refine .cons (.gT rfl rfl rfl (.bN 9 rfl rfl rfl rfl rfl rfl)) ?_
        refine .cons (.gT rfl rfl rfl (.cP [.tmp 42, .tmp 43] rfl rfl rfl rfl (implStmtSame_fn (foldT s).1 (foldT s).1 (by omega)) rfl)) ?_
        refine .cons (.pT rfl rfl rfl) ?_
        refine .cons (.asg rfl rfl) ?_
        refine .nil ?_
        refine ks_n ?_
        refine ACode.ret ?_
        refine ks_r ?_
        refine kf_ret rfl ?_ nobox
        first | rfl | exact leafB (decide_eq_true (by omega)) | (exfalso; omega) | (exfalso; simp_all [sameS_self]; done) | first | rfl | (exfalso; omega) | (exfalso; simp_all only [beq_self_eq_true, sameS_self, Bool.true_eq_false, reduceCtorEq]; done) | exact leafB (decide_eq_true (by omega)) | with_reducible exact leafB (sameS_self _) | exact leafB (by simp) | (exfalso; simp_all [sameS_self]; done) | grind
      · try simp only [List.length_map, decide_eq_true_eq, decide_eq_false_iff_not, Bool.not_eq_true', Bool.not_eq_false', Bool.not_eq_true, Bool.not_eq_false] at g41
        refine .cons (.gF rfl rfl rfl) ?_
        refine .cons (.gF rfl rfl rfl) ?_
        refine .cons (.gF rfl rfl rfl) ?_
        refine .cons (.pF rfl rfl rfl) ?_
        refine .cons (.asg rfl rfl) ?_
        refine .nil ?_
        refine ks_n ?_
        refine ACode.ret ?_
        refine ks_r ?_
        refine kf_ret rfl ?_ nobox
        first | rfl | exact leafB (decide_eq_true (by omega)) | (exfalso; omega) | (exfalso; simp_all [sameS_self]; done) | first | rfl | (exfalso; omega) | (exfalso; simp_all only [beq_self_eq_true, sameS_self, Bool.true_eq_false, reduceCtorEq]; done) | exact leafB (decide_eq_true (by omega)) | with_reducible exact leafB (sameS_self _) | exact leafB (by simp) | (exfalso; simp_all [sameS_self]; done) | grind
    · try simp only [List.length_map, decide_eq_true_eq, decide_eq_false_iff_not, Bool.not_eq_true', Bool.not_eq_false', Bool.not_eq_true, Bool.not_eq_false] at g28
      refine .cons (.gT rfl rfl rfl (.bN 9 rfl rfl rfl rfl rfl rfl)) ?_
      refine .cons (.gT rfl rfl rfl (.bN 9 rfl rfl rfl rfl rfl rfl)) ?_
      refine .cons (.gT rfl rfl rfl (.cP [.tmp 29, .tmp 30] rfl rfl rfl rfl (implStmtSame_fn (foldT s).1 (foldT s).1 (by omega)) rfl)) ?_
      refine .cons (.gT rfl rfl rfl (.nt rfl rfl)) ?_
      refine .cons (.pF rfl rfl rfl) ?_
      refine .cons (.mv rfl rfl) ?_
      refine AOps.cases 34 _ rfl (fun g34 => ?_) (fun g34 => ?_)
      · try simp only [List.length_map, decide_eq_true_eq, decide_eq_false_iff_not, Bool.not_eq_true', Bool.not_eq_false', Bool.not_eq_true, Bool.not_eq_false] at g34
        refine .cons (.gF rfl rfl rfl) ?_
        refine .cons (.gF rfl rfl rfl) ?_
        refine .cons (.pT rfl rfl rfl) ?_
        refine .nil ?_
        refine ks_n ?_
        refine ACode.condT rfl (fun _ => ?_) (fun h => by first | (cases h; done) | (simp [*] at h; done) | (exfalso; simp_all; done))
        refine ACode.seq ?_
        refine ACode.region ?_
        refine .cons (.mv rfl rfl) ?_
        refine .cons (.mv rfl rfl) ?_
        refine .cons (St1.eqlB rfl rfl rfl rfl (by kernel_rfl) rfl rfl) ?_
        refine .cons (.mv rfl rfl) ?_
        refine AOps.cases 41 _ rfl (fun g41 => ?_) (fun g41 => ?_)
        · try simp only [List.length_map, decide_eq_true_eq, decide_eq_false_iff_not, Bool.not_eq_true', Bool.not_eq_false', Bool.not_eq_true, Bool.not_eq_false] at g41
          refine .cons (.gT rfl rfl rfl (.bN 9 rfl rfl rfl rfl rfl rfl)) ?_
          refine .cons (.gT rfl rfl rfl (.bN 9 rfl rfl rfl rfl rfl rfl)) ?_
          refine .cons (.gT rfl rfl rfl (.cP [.tmp 42, .tmp 43] rfl rfl rfl rfl (implStmtSame_fn (foldT s).1 (foldT s).1 (by omega)) rfl)) ?_
          refine .cons (.pT rfl rfl rfl) ?_
          refine .cons (.asg rfl rfl) ?_
          refine .nil ?_
          refine ks_n ?_
          refine ACode.ret ?_
          refine ks_r ?_
          refine kf_ret rfl ?_ nobox
          first | rfl | exact leafB (decide_eq_true (by omega)) | (exfalso; omega) | (exfalso; simp_all [sameS_self]; done) | first | rfl | (exfalso; omega) | (exfalso; simp_all only [beq_self_eq_true, sameS_self, Bool.true_eq_false, reduceCtorEq]; done) | exact leafB (decide_eq_true (by omega)) | with_reducible exact leafB (sameS_self _) | exact leafB (by simp) | (exfalso; simp_all [sameS_self]; done) | grind
        · try simp only [List.length_map, decide_eq_true_eq, decide_eq_false_iff_not, Bool.not_eq_true', Bool.not_eq_false', Bool.not_eq_true, Bool.not_eq_false] at g41
          refine .cons (.gF rfl rfl rfl) ?_
          refine .cons (.gF rfl rfl rfl) ?_
          refine .cons (.gF rfl rfl rfl) ?_
          refine .cons (.pF rfl rfl rfl) ?_
          refine .cons (.asg rfl rfl) ?_
          refine .nil ?_
          refine ks_n ?_
          refine ACode.ret ?_
          refine ks_r ?_
          refine kf_ret rfl ?_ nobox
          first | rfl | exact leafB (decide_eq_true (by omega)) | (exfalso; omega) | (exfalso; simp_all [sameS_self]; done) | first | rfl | (exfalso; omega) | (exfalso; simp_all only [beq_self_eq_true, sameS_self, Bool.true_eq_false, reduceCtorEq]; done) | exact leafB (decide_eq_true (by omega)) | with_reducible exact leafB (sameS_self _) | exact leafB (by simp) | (exfalso; simp_all [sameS_self]; done) | grind
      · try simp only [List.length_map, decide_eq_true_eq, decide_eq_false_iff_not, Bool.not_eq_true', Bool.not_eq_false', Bool.not_eq_true, Bool.not_eq_false] at g34
        refine .cons (.gT rfl rfl rfl (.mv rfl rfl)) ?_
        refine .cons (.gT rfl rfl rfl (.nt rfl rfl)) ?_
        refine .cons (.pF rfl rfl rfl) ?_
        refine .nil ?_
        refine ks_n ?_
        refine ACode.condT rfl (fun h37 => ?_) (fun h37 => ?_)
        · try simp only [List.length_map, decide_eq_true_eq, decide_eq_false_iff_not, Bool.not_eq_true', Bool.not_eq_false', Bool.not_eq_true, Bool.not_eq_false] at h37
          refine ACode.seq ?_
          refine ACode.region ?_
          refine .cons (.mv rfl rfl) ?_
          refine .cons (.mv rfl rfl) ?_
          refine .cons (St1.eqlB rfl rfl rfl rfl (by kernel_rfl) rfl rfl) ?_
          refine .cons (.mv rfl rfl) ?_
          refine AOps.cases 41 _ rfl (fun g41 => ?_) (fun g41 => ?_)
          · try simp only [List.length_map, decide_eq_true_eq, decide_eq_false_iff_not, Bool.not_eq_true', Bool.not_eq_false', Bool.not_eq_true, Bool.not_eq_false] at g41
            refine .cons (.gT rfl rfl rfl (.bN 9 rfl rfl rfl rfl rfl rfl)) ?_
            refine .cons (.gT rfl rfl rfl (.bN 9 rfl rfl rfl rfl rfl rfl)) ?_
            refine .cons (.gT rfl rfl rfl (.cP [.tmp 42, .tmp 43] rfl rfl rfl rfl (implStmtSame_fn (foldT s).1 (foldT s).1 (by omega)) rfl)) ?_
            refine .cons (.pT rfl rfl rfl) ?_
            refine .cons (.asg rfl rfl) ?_
            refine .nil ?_
            refine ks_n ?_
            refine ACode.ret ?_
            refine ks_r ?_
            refine kf_ret rfl ?_ nobox
            first | rfl | exact leafB (decide_eq_true (by omega)) | (exfalso; omega) | (exfalso; simp_all [sameS_self]; done) | first | rfl | (exfalso; omega) | (exfalso; simp_all only [beq_self_eq_true, sameS_self, Bool.true_eq_false, reduceCtorEq]; done) | exact leafB (decide_eq_true (by omega)) | with_reducible exact leafB (sameS_self _) | exact leafB (by simp) | (exfalso; simp_all [sameS_self]; done) | grind
          · try simp only [List.length_map, decide_eq_true_eq, decide_eq_false_iff_not, Bool.not_eq_true', Bool.not_eq_false', Bool.not_eq_true, Bool.not_eq_false] at g41
            refine .cons (.gF rfl rfl rfl) ?_
            refine .cons (.gF rfl rfl rfl) ?_
            refine .cons (.gF rfl rfl rfl) ?_
            refine .cons (.pF rfl rfl rfl) ?_
            refine .cons (.asg rfl rfl) ?_
            refine .nil ?_
            refine ks_n ?_
            refine ACode.ret ?_
            refine ks_r ?_
            refine kf_ret rfl ?_ nobox
            first | rfl | exact leafB (decide_eq_true (by omega)) | (exfalso; omega) | (exfalso; simp_all [sameS_self]; done) | first | rfl | (exfalso; omega) | (exfalso; simp_all only [beq_self_eq_true, sameS_self, Bool.true_eq_false, reduceCtorEq]; done) | exact leafB (decide_eq_true (by omega)) | with_reducible exact leafB (sameS_self _) | exact leafB (by simp) | (exfalso; simp_all [sameS_self]; done) | grind
        · try simp only [List.length_map, decide_eq_true_eq, decide_eq_false_iff_not, Bool.not_eq_true', Bool.not_eq_false', Bool.not_eq_true, Bool.not_eq_false] at h37
          obtain ⟨f1, f2, f3, f4⟩ := foldT_twice h37
          refine ACode.skip ?_
          refine ks_n ?_
          refine ACode.seq ?_
          refine ACode.region ?_
          refine .cons (.bN 9 rfl rfl rfl rfl rfl rfl) ?_
          refine .cons (.cP [.tmp 47] rfl rfl rfl rfl (implFold_fn (foldT s).1 (by omega)) rfl) ?_
          refine .cons (.mv rfl rfl) ?_
          refine .cons (.ex rfl rfl rfl) ?_
          refine .cons (.ex rfl rfl rfl) ?_
          refine .cons (.al 108 [.string ByteArray.empty, .slice none 0 0, .int .i64 0, .int .i64 0, .slice none 0 0, .int .i64 0, .string ByteArray.empty, .slice none 0 0, .slice none 0 0] rfl rfl rfl) ?_
          refine .cons (.sT 9 true rfl rfl rfl rfl rfl rfl rfl) ?_
          refine .cons (.asg rfl rfl) ?_
          refine .nil ?_
          refine ks_n ?_
          refine ACode.seq ?_
          refine ACode.drawK (by kernel_rfl) (by kernel_rfl) ?_
          refine .cons (.mv rfl rfl) ?_
          refine .cons (.mv rfl rfl) ?_
          refine RunK.cases 52 _ rfl (fun g52 => ?_) (fun g52 => ?_)
          · try simp only [List.length_map, decide_eq_true_eq, decide_eq_false_iff_not, Bool.not_eq_true', Bool.not_eq_false', Bool.not_eq_true, Bool.not_eq_false] at g52
            refine .cons (.gT rfl rfl rfl (.bN 9 rfl rfl rfl rfl rfl rfl)) ?_
            refine .cons (.gT rfl rfl rfl (.bN 9 rfl rfl rfl rfl rfl rfl)) ?_
            refine .cons (.gT rfl rfl rfl (.cP [.tmp 53, .tmp 54] rfl rfl rfl rfl (implStmtSame_fn (foldT (foldT s).1).1 (foldT s).1 (by omega)) rfl)) ?_
            refine .cons (.pT rfl rfl rfl) ?_
            refine .cons (.mv rfl rfl) ?_
            refine RunK.cases 57 _ rfl (fun g57 => ?_) (fun g57 => ?_)
            · try simp only [List.length_map, decide_eq_true_eq, decide_eq_false_iff_not, Bool.not_eq_true', Bool.not_eq_false', Bool.not_eq_true, Bool.not_eq_false] at g57
              refine .cons (.gT rfl rfl rfl (.bN 9 rfl rfl rfl rfl rfl rfl)) ?_
              refine .cons (.gT rfl rfl rfl (.cP [.tmp 58] rfl rfl rfl rfl (implCount_fn (foldT s).1 (by omega)) rfl)) ?_
              refine .cons (.gT rfl rfl rfl (.bN 9 rfl rfl rfl rfl rfl rfl)) ?_
              refine .cons (.gT rfl rfl rfl (.cP [.tmp 60] rfl rfl rfl rfl (implCount_fn s (by omega)) rfl)) ?_
              refine .cons (.gT rfl rfl rfl (.le rfl rfl rfl)) ?_
              refine .cons (.pT rfl rfl rfl) ?_
              refine .cons (.mv rfl rfl) ?_
              refine RunK.cases 64 _ rfl (fun g64 => ?_) (fun g64 => ?_)
              · try simp only [List.length_map, decide_eq_true_eq, decide_eq_false_iff_not, Bool.not_eq_true', Bool.not_eq_false', Bool.not_eq_true, Bool.not_eq_false] at g64
                refine .cons (.gT rfl rfl rfl (.fB 0 1 true rfl rfl rfl)) ?_
                refine .cons (.gT rfl rfl rfl (.bN 2 rfl rfl rfl rfl rfl rfl)) ?_
                refine .cons (.gT rfl rfl rfl (.buZ [(0, .tmp 66)] [(0, 2), (2, 7)] [.string ByteArray.empty, .slice none 0 0, .int .i64 0, .int .i64 0, .slice none 0 0, .int .i64 0, .string ByteArray.empty, .slice none 0 0, .slice none 0 0] [dS ByteArray.empty, .list 2 [], dI 0, dI 0, .list 1 [], dI 0, dS ByteArray.empty, .list 2 [], .list 7 []] rfl rfl (.val rfl (.list _ (.val rfl (.val rfl (.list _ (.val rfl (.val rfl (.list _ (.list _ ZR.nil))))))))) rfl rfl)) ?_
                refine .cons (.gT rfl rfl rfl (.fB 0 1 true rfl rfl rfl)) ?_
                refine .cons (.gT rfl rfl rfl (.bN 2 rfl rfl rfl rfl rfl rfl)) ?_
                refine .cons (.gT rfl rfl rfl (.buZ [(0, .tmp 69)] [(0, 2), (2, 7)] [.string ByteArray.empty, .slice none 0 0, .int .i64 0, .int .i64 0, .slice none 0 0, .int .i64 0, .string ByteArray.empty, .slice none 0 0, .slice none 0 0] [dS ByteArray.empty, .list 2 [], dI 0, dI 0, .list 1 [], dI 0, dS ByteArray.empty, .list 2 [], .list 7 []] rfl rfl (.val rfl (.list _ (.val rfl (.val rfl (.list _ (.val rfl (.val rfl (.list _ (.list _ ZR.nil))))))))) rfl rfl)) ?_
                refine .cons (.gT rfl rfl rfl (.cP [.tmp 67, .tmp 70] rfl rfl rfl rfl (implStmtSame_fn (accS (foldT s).1.1) (accS s.1) (by omega)) rfl)) ?_
                refine .cons (.pT rfl rfl rfl) ?_
                refine .cons (.mv rfl rfl) ?_
                refine RunK.cases 73 _ rfl (fun g73 => ?_) (fun g73 => ?_)
                · try simp only [List.length_map, decide_eq_true_eq, decide_eq_false_iff_not, Bool.not_eq_true', Bool.not_eq_false', Bool.not_eq_true, Bool.not_eq_false] at g73
                  refine .cons (.gT rfl rfl rfl (.bN 9 rfl rfl rfl rfl rfl rfl)) ?_
                  refine .cons (.gT rfl rfl rfl (.cP [.tmp 74] rfl rfl rfl rfl (implDepth_fn (foldT s).1 (by omega)) rfl)) ?_
                  refine .cons (.gT rfl rfl rfl (.bN 9 rfl rfl rfl rfl rfl rfl)) ?_
                  refine .cons (.gT rfl rfl rfl (.cP [.tmp 76] rfl rfl rfl rfl (implDepth_fn s (by omega)) rfl)) ?_
                  refine .cons (.gT rfl rfl rfl (.le rfl rfl rfl)) ?_
                  refine .cons (.pT rfl rfl rfl) ?_
                  refine .cons (.asg rfl rfl) ?_
                  refine .nil ⟨by kernel_rfl, ?_⟩
                  refine ks_n ?_
                  refine ACode.ret ?_
                  refine kf_ret rfl ?_ nobox
                  first | rfl | exact leafB (decide_eq_true (by omega)) | (exfalso; omega) | (exfalso; simp_all [sameS_self]; done) | first | rfl | (exfalso; omega) | (exfalso; simp_all only [beq_self_eq_true, sameS_self, Bool.true_eq_false, reduceCtorEq]; done) | exact leafB (decide_eq_true (by omega)) | with_reducible exact leafB (sameS_self _) | exact leafB (by simp) | (exfalso; simp_all [sameS_self]; done) | grind
                · try simp only [List.length_map, decide_eq_true_eq, decide_eq_false_iff_not, Bool.not_eq_true', Bool.not_eq_false', Bool.not_eq_true, Bool.not_eq_false] at g73
                  refine .cons (.gF rfl rfl rfl) ?_
                  refine .cons (.gF rfl rfl rfl) ?_
                  refine .cons (.gF rfl rfl rfl) ?_
                  refine .cons (.gF rfl rfl rfl) ?_
                  refine .cons (.gF rfl rfl rfl) ?_
                  refine .cons (.pF rfl rfl rfl) ?_
                  refine .cons (.asg rfl rfl) ?_
                  refine .nil ⟨by kernel_rfl, ?_⟩
                  refine ks_n ?_
                  refine ACode.ret ?_
                  refine kf_ret rfl ?_ nobox
                  first | rfl | exact leafB (decide_eq_true (by omega)) | (exfalso; omega) | (exfalso; simp_all [sameS_self]; done) | first | rfl | (exfalso; omega) | (exfalso; simp_all only [beq_self_eq_true, sameS_self, Bool.true_eq_false, reduceCtorEq]; done) | exact leafB (decide_eq_true (by omega)) | with_reducible exact leafB (sameS_self _) | exact leafB (by simp) | (exfalso; simp_all [sameS_self]; done) | grind
              · try simp only [List.length_map, decide_eq_true_eq, decide_eq_false_iff_not, Bool.not_eq_true', Bool.not_eq_false', Bool.not_eq_true, Bool.not_eq_false] at g64
                refine .cons (.gF rfl rfl rfl) ?_
                refine .cons (.gF rfl rfl rfl) ?_
                refine .cons (.gF rfl rfl rfl) ?_
                refine .cons (.gF rfl rfl rfl) ?_
                refine .cons (.gF rfl rfl rfl) ?_
                refine .cons (.gF rfl rfl rfl) ?_
                refine .cons (.gF rfl rfl rfl) ?_
                refine .cons (.pF rfl rfl rfl) ?_
                refine .cons (.mv rfl rfl) ?_
                refine .cons (.gF rfl rfl rfl) ?_
                refine .cons (.gF rfl rfl rfl) ?_
                refine .cons (.gF rfl rfl rfl) ?_
                refine .cons (.gF rfl rfl rfl) ?_
                refine .cons (.gF rfl rfl rfl) ?_
                refine .cons (.pF rfl rfl rfl) ?_
                refine .cons (.asg rfl rfl) ?_
                refine .nil ⟨by kernel_rfl, ?_⟩
                refine ks_n ?_
                refine ACode.ret ?_
                refine kf_ret rfl ?_ nobox
                first | rfl | exact leafB (decide_eq_true (by omega)) | (exfalso; omega) | (exfalso; simp_all [sameS_self]; done) | first | rfl | (exfalso; omega) | (exfalso; simp_all only [beq_self_eq_true, sameS_self, Bool.true_eq_false, reduceCtorEq]; done) | exact leafB (decide_eq_true (by omega)) | with_reducible exact leafB (sameS_self _) | exact leafB (by simp) | (exfalso; simp_all [sameS_self]; done) | grind
            · try simp only [List.length_map, decide_eq_true_eq, decide_eq_false_iff_not, Bool.not_eq_true', Bool.not_eq_false', Bool.not_eq_true, Bool.not_eq_false] at g57
              refine .cons (.gF rfl rfl rfl) ?_
              refine .cons (.gF rfl rfl rfl) ?_
              refine .cons (.gF rfl rfl rfl) ?_
              refine .cons (.gF rfl rfl rfl) ?_
              refine .cons (.gF rfl rfl rfl) ?_
              refine .cons (.pF rfl rfl rfl) ?_
              refine .cons (.mv rfl rfl) ?_
              refine .cons (.gF rfl rfl rfl) ?_
              refine .cons (.gF rfl rfl rfl) ?_
              refine .cons (.gF rfl rfl rfl) ?_
              refine .cons (.gF rfl rfl rfl) ?_
              refine .cons (.gF rfl rfl rfl) ?_
              refine .cons (.gF rfl rfl rfl) ?_
              refine .cons (.gF rfl rfl rfl) ?_
              refine .cons (.pF rfl rfl rfl) ?_
              refine .cons (.mv rfl rfl) ?_
              refine .cons (.gF rfl rfl rfl) ?_
              refine .cons (.gF rfl rfl rfl) ?_
              refine .cons (.gF rfl rfl rfl) ?_
              refine .cons (.gF rfl rfl rfl) ?_
              refine .cons (.gF rfl rfl rfl) ?_
              refine .cons (.pF rfl rfl rfl) ?_
              refine .cons (.asg rfl rfl) ?_
              refine .nil ⟨by kernel_rfl, ?_⟩
              refine ks_n ?_
              refine ACode.ret ?_
              refine kf_ret rfl ?_ nobox
              first | rfl | exact leafB (decide_eq_true (by omega)) | (exfalso; omega) | (exfalso; simp_all [sameS_self]; done) | first | rfl | (exfalso; omega) | (exfalso; simp_all only [beq_self_eq_true, sameS_self, Bool.true_eq_false, reduceCtorEq]; done) | exact leafB (decide_eq_true (by omega)) | with_reducible exact leafB (sameS_self _) | exact leafB (by simp) | (exfalso; simp_all [sameS_self]; done) | grind
          · try simp only [List.length_map, decide_eq_true_eq, decide_eq_false_iff_not, Bool.not_eq_true', Bool.not_eq_false', Bool.not_eq_true, Bool.not_eq_false] at g52
            refine .cons (.gF rfl rfl rfl) ?_
            refine .cons (.gF rfl rfl rfl) ?_
            refine .cons (.gF rfl rfl rfl) ?_
            refine .cons (.pF rfl rfl rfl) ?_
            refine .cons (.mv rfl rfl) ?_
            refine .cons (.gF rfl rfl rfl) ?_
            refine .cons (.gF rfl rfl rfl) ?_
            refine .cons (.gF rfl rfl rfl) ?_
            refine .cons (.gF rfl rfl rfl) ?_
            refine .cons (.gF rfl rfl rfl) ?_
            refine .cons (.pF rfl rfl rfl) ?_
            refine .cons (.mv rfl rfl) ?_
            refine .cons (.gF rfl rfl rfl) ?_
            refine .cons (.gF rfl rfl rfl) ?_
            refine .cons (.gF rfl rfl rfl) ?_
            refine .cons (.gF rfl rfl rfl) ?_
            refine .cons (.gF rfl rfl rfl) ?_
            refine .cons (.gF rfl rfl rfl) ?_
            refine .cons (.gF rfl rfl rfl) ?_
            refine .cons (.pF rfl rfl rfl) ?_
            refine .cons (.mv rfl rfl) ?_
            refine .cons (.gF rfl rfl rfl) ?_
            refine .cons (.gF rfl rfl rfl) ?_
            refine .cons (.gF rfl rfl rfl) ?_
            refine .cons (.gF rfl rfl rfl) ?_
            refine .cons (.gF rfl rfl rfl) ?_
            refine .cons (.pF rfl rfl rfl) ?_
            refine .cons (.asg rfl rfl) ?_
            refine .nil ⟨by kernel_rfl, ?_⟩
            refine ks_n ?_
            refine ACode.ret ?_
            refine kf_ret rfl ?_ nobox
            first | rfl | exact leafB (decide_eq_true (by omega)) | (exfalso; omega) | (exfalso; simp_all [sameS_self]; done) | first | rfl | (exfalso; omega) | (exfalso; simp_all only [beq_self_eq_true, sameS_self, Bool.true_eq_false, reduceCtorEq]; done) | exact leafB (decide_eq_true (by omega)) | with_reducible exact leafB (sameS_self _) | exact leafB (by simp) | (exfalso; simp_all [sameS_self]; done) | grind

set_option maxRecDepth 100000 in
set_option maxHeartbeats 1600000 in
theorem foldStmt_big (a : Option Addr) (n c : Nat) (hn : 1048576 < n) : Fn Try.prog 14 [] [vX a n c] (.o (bo1 true)) [] := by
  refine Fn.code0 Try.func14 rfl rfl rfl rfl ?_
  refine ACode.seq ?_
  refine ACode.region ?_
  refine .cons (.asg rfl rfl) ?_
  refine .nil ?_
  refine ks_n ?_
  refine ACode.seq ?_
  refine ACode.seq ?_
  refine ACode.region ?_
  refine .cons (.mv rfl rfl) ?_
  refine .cons (St1.lenN (e := 5) (m := 1) (by' := 1) rfl rfl rfl rfl rfl (by kernel_rfl) rfl) ?_
  refine .cons (.gt rfl rfl rfl) ?_
  refine .nil ?_
  refine ks_n ?_
  refine .cD rfl (fun h12 => ?_) (fun h12 => ?_)
  · skip
    refine ACode.seq ?_
    refine ACode.region ?_
    refine .cons (.asg rfl rfl) ?_
    refine .nil ?_
    refine ks_n ?_
    refine ACode.ret ?_
    refine ks_r ?_
    refine kf_ret rfl ?_ nobox
    rfl
  · skip
    omega

theorem lawFoldStmt (a : Option Addr) (n c : Nat) (bs : List Int) (w : World) (hx : n ≤ 1048576 → Sl Sh.byte (fun b => b < w.heap.size) w (.slice a n c) bs) (hbs : ∀ x ∈ bs, 0 ≤ x ∧ x ≤ 255) : Truth Try.prog 14 #[.slice a n c] w :=
  law1 ⟨hx, hbs⟩ (fun h => foldStmt_big a n c h) (fun hl hb => by
    obtain ⟨s, h1, h2, h3⟩ := drawFo_fn hb
    exact foldStmt_core hl h1 h3)

end Go.Proofs.Ytigdfdhjnadieaa
