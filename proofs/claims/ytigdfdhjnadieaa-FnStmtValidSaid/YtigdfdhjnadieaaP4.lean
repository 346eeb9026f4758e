/- Part 4 of 6 of the proof: laws on memory and data, then what the functions compute, in the order in which they build on each other; conditions: those that each theorem names. -/
import Derived.Test.YtigdfdhjnadieaaP3

/- Statements: copies and maps; condition: small lists. -/
namespace Go.Proofs.Ytigdfdhjnadieaa
set_option linter.unusedVariables false
set_option linter.unusedSimpArgs false
open Go.RowKit

theorem Fn.ofAff {P : Program} {f : FuncId} {args : List V1} {x : Aff} (hn : x.1.length ≤ 17592186044416) (h : ∀ (B : Nat → Prop) (bx : Nat → Nat × Nat) (al : Nat → Prop) (w : World) (vs : List Value), Vals (V1r bx al B w) args vs → Calls P f vs.toArray w (RetAff x w)) : Fn P f [] args (.o (ad (rA x))) [] :=
  Fn.pure fun B bx al w vs hv => (h B bx al w vs hv).mono fun e w' ⟨v, e1, ho, hb⟩ => ⟨v, e1, hb, aff_dr ((ho.r hn).mono fun b hb _ => .inr hb)⟩
theorem Fn.ofA2 {P : Program} {f : FuncId} {args : List V1} {x : Aff} {ok : Bool} (h : ∀ (B : Nat → Prop) (bx : Nat → Nat × Nat) (al : Nat → Prop) (w : World) (vs : List Value), Vals (V1r bx al B w) args vs → Calls P f vs.toArray w (RetA2 (fun b => B b ∨ w.heap.size ≤ b) x ok w)) : Fn P f [] args (.tup [ad (rA x), bo1 ok]) [] :=
  Fn.pure fun B bx al w vs hv => (h B bx al w vs hv).mono fun e w' ⟨v, e1, ho, hb⟩ => ⟨_, e1, hb, ⟨[v, .bool ok], rfl, rfl, fun i c u hc hu => by
    match i, hc, hu with
    | 0, hc, hu => cases hc; cases hu; exact aff_dr ho
    | 1, hc, hu => cases hc; cases hu; exact .val _ rfl⟩⟩
theorem vals3 {R : V1 → Value → Prop} {x y z : V1} {vs : List Value} (h : Vals R [x, y, z] vs) : ∃ u v t, vs = [u, v, t] ∧ R x u ∧ R y v ∧ R z t := by
  obtain ⟨hl, h⟩ := h
  match vs, hl with
  | [u, v, t], _ => exact ⟨u, v, t, rfl, h 0 x u rfl rfl, h 1 y v rfl rfl, h 2 z t rfl rfl⟩
theorem RetA2.mono {P Q : Nat → Prop} {x : Aff} {ok : Bool} {w : World} {e : Ending} {w' : World} (hp : ∀ b, P b → Q b) (h : RetA2 P x ok w e w') : RetA2 Q x ok w e w' := by
  obtain ⟨v, e, ha, hb⟩ := h
  exact ⟨v, e, ha.mono fun b hb _ => hp b hb, hb⟩
theorem nat_v {bx : Nat → Nat × Nat} {al B : Nat → Prop} {w : World} {n : Int} {v : Value} (h : V1r bx al B w (nat1 n) v) : v = .int .i64 n := by cases h; rfl
theorem ownAff_fn {x : Aff} (hx : x.1.length ≤ 1073741824) : Fn Try.prog 122 [] [ad (rA x)] (.o (ad (rA x))) [] :=
  Fn.ofAff (by omega) fun B bx al w vs hv => by
    obtain ⟨v, rfl, h⟩ := vals1 hv
    exact ownAff_any B v x w (dr_aff h) (by omega)
theorem subst_fn {x y : Aff} {j : Int} (hx : affM x) (hy : affM y) (hj : 0 ≤ j ∧ j < 4) : Fn Try.prog 81 [] [ad (rA x), nat1 j, ad (rA y)] (.o (ad (rA (affSubst x j.toNat y)))) [] :=
  Fn.ofAff (by simp [affSubst, affSum]) fun B bx al w vs hv => by
    obtain ⟨v, t, u, rfl, h1, h2, h3⟩ := vals3 hv
    rw [nat_v h2]
    have h := subst_any B B v u x y j.toNat w (dr_aff h1) (dr_aff h3) hx hy (by omega)
    rwa [show ((j.toNat : Nat) : Int) = j by omega] at h
theorem SubstAff_fn (x y : Aff) (j : Int) : Fn Try.prog 42 [] [ad (rA x), nat1 j, ad (rA y)] (.tup [ad (rA (substOf x j y).1), bo1 (substOf x j y).2]) [] :=
  Fn.ofA2 fun B bx al w vs hv => by
    obtain ⟨v, t, u, rfl, h1, h2, h3⟩ := vals3 hv
    rw [nat_v h2]
    exact (implSubst_any B B v x u y j w (dr_aff h1) (dr_aff h3)).mono fun e w' h => h.mono fun b hb => .inr hb
theorem VarAff_fn (j : Int) : Fn Try.prog 44 [] [nat1 j] (.tup [ad (rA (varOf j).1), bo1 (varOf j).2]) [] :=
  Fn.ofA2 fun B bx al w vs hv => by
    obtain ⟨v, rfl, h1⟩ := vals1 hv
    rw [nat_v h1]
    exact (implVar_any j w).mono fun e w' h => h.mono fun b hb => .inr hb
theorem EvalAff_fn (x : Aff) (p : List Int) : Fn Try.prog 39 [] [ad (rA x), vD (dIs p)] (.o (nat1 (evalOf x p))) [] :=
  Fn.pure fun B bx al w vs hv => by
    obtain ⟨u, v, rfl, h1, h2⟩ := vals2 hv
    have h3 := dr_ints h2
    obtain ⟨a, n, c, rfl, rfl⟩ := sl_form h3
    exact (implEval_any B B u x a _ c p w (dr_aff h1) h3).mono fun e w' ⟨h1, h2⟩ => ⟨_, h1, h2, .val _ rfl⟩
theorem rX_map (g : Aff → Aff) (e : Ex) : rX (mapE g e) = [dI e.k, dI e.n, dIs (if e.k = 2 then g e.i else ([], 0)).1, dI (if e.k = 2 then g e.i else ([], 0)).2, dS (if e.k = 3 then mapC g e.r else (ByteArray.empty, [])).1, dAs (if e.k = 3 then mapC g e.r else (ByteArray.empty, [])).2, dEs (e.ks.map (mapE g))] := by
  cases e with
  | mk k n i r ks => rw [mapE, mapEs_map]; rfl
theorem dR_ex (f : Ex → Ex) (l : List Ex) : dR ((l.take l.length).map fun x => rX (f x)) = dR ((l.map f).map rE) := by
  rw [List.take_length, List.map_map]
  congr 1
  exact List.map_congr_left fun x _ => (rE_eq _).symm
theorem dR_af (f : Aff → Aff) (l : List Aff) : dR ((l.take l.length).map fun x => rA (f x)) = dR ((l.map f).map rA) := by
  rw [List.take_length, List.map_map]; rfl

set_option maxRecDepth 100000 in
set_option maxHeartbeats 1600000 in
theorem accMap_fn {f : FuncId} {cap : List (List D)} (hc : callable Try.prog f = true) (g : Aff → Aff) (a : Acc) (ha : a.2.length ≤ 1073741824) (hg : ∀ x ∈ a.2, Fn Try.prog f [] (ad (rA x) :: cap.map fun c => .c (.ptr c)) (.o (ad (rA (g x)))) []) : Fn Try.prog 120 [] [ad (rC a), .c (.fn f cap)] (.o (ad (rC (mapC g a)))) [] := by
  refine Fn.code0 Try.func120 rfl rfl rfl rfl ?_
  refine ACode.seq ?_
  refine ACode.region ?_
  refine .cons (St1.boxP rfl rfl rfl rfl rfl rfl) ?_
  refine .cons (.al 104 [.string ByteArray.empty, .slice none 0 0] rfl rfl rfl) ?_
  refine .nil ?_
  refine ks_n ?_
  refine ACode.seq ?_
  refine ACode.region ?_
  refine .cons (.fP 0 0 false rfl rfl) ?_
  refine .cons (.l1 1 rfl rfl) ?_
  refine .cons (.bu [(0, .tmp 9)] [(0, 1), (1, 1)] [.string ByteArray.empty, .slice none 0 0] rfl rfl rfl rfl rfl) ?_
  refine .cons (.al 105 [.string ByteArray.empty, .slice none 0 0] rfl rfl rfl) ?_
  refine .cons (.sT 2 true rfl rfl rfl rfl rfl rfl rfl) ?_
  refine .nil ?_
  refine ks_n ?_
  refine ACode.seq ?_
  refine ACode.seq ?_
  refine ACode.region ?_
  refine .cons (.fP 1 0 false rfl rfl) ?_
  refine .cons (.l1 1 rfl rfl) ?_
  refine .cons (.ln 28 2 32 rfl rfl rfl) ?_
  refine .cons (.mv rfl rfl) ?_
  refine .nil ?_
  refine ks_n ?_
  refine ACode.block ?_
  refine .loopK (fun m σ => (∃ i : Nat, m = a.2.length - i ∧ (i = 0) ∧ σ = [(.t 1, .v (.o (.c (.fn f cap)))), (.t 2, .v (.o (.c (.ptr (rC a))))), (.t 4, .v (.o (.c (.box 110 2 0 0)))), (.t 5, .v (.o (.c (.box 111 2 0 0)))), (.t 12, .v (.o (vD (dAs a.2)))), (.t 13, .v (.o (nat1 (a.2.length : Nat)))), (.t 14, .v (.o (nat1 (i : Nat)))), (.b 110, .b 25 2 [[.d (dS ByteArray.empty), .d (.val (.slice none 0 0))]]), (.u 110, .u), (.b 111, .b 25 2 [[.d (dS a.1), .d (.val (.slice none 0 0))]]), (.u 111, .u)]) ∨ (∃ i : Nat, m = a.2.length - i ∧ (1 ≤ i) ∧ (i ≤ a.2.length) ∧ σ = [(.t 1, .v (.o (.c (.fn f cap)))), (.t 2, .v (.o (.c (.ptr (rC a))))), (.t 4, .v (.o (.c (.box 110 2 0 0)))), (.t 5, .v (.o (.c (.box 111 2 0 0)))), (.t 12, .v (.o (vD (dAs a.2)))), (.t 13, .v (.o (nat1 (a.2.length : Nat)))), (.t 14, .v (.o (nat1 (i : Nat)))), (.b 110, .b 25 2 [[.d (dS ByteArray.empty), .d (.val (.slice none 0 0))]]), (.u 110, .u), (.b 112, .b 28 2 (dR ((a.2.take i).map fun x => rA (g x)))), (.u 112, .u), (.b 111, .b 25 2 [[.d (dS a.1), .own 112 2 (i)]]), (.u 111, .u)])) [(110, 104), (111, 105)] (.inl ⟨0, rfl, rfl, rfl⟩) ⟨ks rfl .dt, ks rfl .dt, ks rfl (.c .bx), ks rfl (.c .bx), ks rfl .dt, ks rfl .dt, ks rfl .dt, kb 104 rfl (.cons (.cons .dt (.cons .dt Ctos.nil)) .nil), kb 105 rfl (.cons (.cons .dt (.cons .dt Ctos.nil)) .nil), trivial⟩ ?_
  rintro m σ (⟨i, hm0, rfl, rfl⟩ | ⟨i, hm0, hi1, hi2, rfl⟩)
  · skip
    refine ACode.seq ?_
    refine ACode.region ?_
    refine .cons (.ls rfl rfl rfl) ?_
    refine .nil ?_
    refine ks_n ?_
    refine ACode.seq ?_
    refine .cD rfl (fun h15 => ?_) (fun h15 => ?_)
    · skip
      obtain ⟨x, hx1⟩ : ∃ x, a.2[0]? = some x := ⟨_, List.getElem?_eq_getElem (by omega)⟩
      refine ACode.skip ?_
      refine ks_n ?_
      refine ACode.seq ?_
      refine ACode.block ?_
      refine ACode.seq ?_
      refine ACode.region ?_
      refine .cons (.xL 28 2 32 rfl rfl rfl rfl rfl) ?_
      refine .cons (.lN 2 rfl rfl rfl) ?_
      refine .cons (.al 107 [.slice none 0 0, .int .i64 0] rfl rfl rfl) ?_
      refine .cons (.sT 2 true rfl rfl rfl rfl rfl rfl rfl) ?_
      refine .nil ?_
      refine ks_n ?_
      refine ACode.drawK (by kernel_rfl) (by kernel_rfl) ?_
      refine .cons (.fB 1 0 false rfl rfl rfl) ?_
      refine .cons (.b1 1 rfl rfl rfl rfl rfl rfl) ?_
      refine .cons (.mv rfl rfl) ?_
      refine .cons (.bN 2 rfl rfl rfl rfl rfl rfl) ?_
      refine .cons (.cP [.tmp 21] rfl rfl rfl rfl (hg x (List.mem_of_getElem? hx1)) rfl hc) ?_
      refine .cons (.li 28 1 0 [.tmp 22] rfl rfl rfl rfl rfl rfl) ?_
      refine .cons (St1.appN (k' := 124) (e := 28) (sz := 1) (by' := 32) rfl rfl rfl rfl rfl (by kernel_rfl) rfl rfl rfl (by simp) (by first | (simp [dR]; done) | (simp [dR]; omega)) rfl rfl) ?_
      refine .cons (.fB 1 0 false rfl rfl rfl) ?_
      refine .cons (.sT 1 false rfl rfl rfl rfl rfl rfl rfl) ?_
      refine .nil ⟨by kernel_rfl, ?_⟩
      refine kb_n ?_
      refine ks_n ?_
      refine ACode.region ?_
      refine .cons (.pl rfl rfl rfl) ?_
      refine .cons (.mv rfl rfl) ?_
      refine .nil ?_
      refine kl_k [(110, 110), (111, 111), (112, 124)] (.inr ⟨1, rfl, by omega, by omega, rfl⟩) ⟨ks rfl .dt, ks rfl .dt, ks rfl (.c .bx), ks rfl (.c .bx), ks rfl .dt, ks rfl .dt, ks rfl .dt, kb 110 rfl (.cons (.cons .dt (.cons .dt Ctos.nil)) .nil), kb 124 rfl (.dt rfl (by first | exact dR_take (fun x => rA (g x)) hx1 | exact dR_take1 (fun x => rA (g x)) hx1 | rfl | (simp [dR]; done))), kb 111 rfl (.cons (.cons .dt (.cons .ow Ctos.nil)) .nil), trivial⟩
    · skip
      have hn : a.2 = [] := List.eq_nil_of_length_eq_zero (by omega)
      refine ACode.exit ?_
      refine ks_e ?_
      refine kl_e ?_
      refine kb_hit ?_
      refine ks_n ?_
      refine ACode.seq ?_
      refine ACode.region ?_
      refine .cons (.bN 2 rfl rfl rfl rfl rfl rfl) ?_
      refine .cons (.sT 2 true rfl rfl rfl rfl rfl rfl rfl) ?_
      refine .nil ?_
      refine ks_n ?_
      refine ACode.ret ?_
      refine kf_wret [(.t 4, .v (.o (.c (.box 100 2 0 0)))), (.b 100, .b 25 2 [[.d (dS a.1), .d (dAs (a.2.map g))]]), (.u 100, .u)] (Wk.keep [(100, 110)] rfl rfl ⟨ks rfl (.c .bx), kb 110 rfl (.cons (.cons .dt (.cons (Cto.nilE 2 (by rw [hn]; rfl)) Ctos.nil)) .nil), trivial⟩) rfl ?_ nobox
      rfl
  · skip
    refine ACode.seq ?_
    refine ACode.region ?_
    refine .cons (.ls rfl rfl rfl) ?_
    refine .nil ?_
    refine ks_n ?_
    refine ACode.seq ?_
    refine .cD rfl (fun h15 => ?_) (fun h15 => ?_)
    · skip
      obtain ⟨x, hx1⟩ : ∃ x, a.2[i]? = some x := ⟨_, List.getElem?_eq_getElem (by omega)⟩
      refine ACode.skip ?_
      refine ks_n ?_
      refine ACode.seq ?_
      refine ACode.block ?_
      refine ACode.seq ?_
      refine ACode.region ?_
      refine .cons (.xL 28 2 32 rfl rfl rfl rfl rfl) ?_
      refine .cons (.lN 2 rfl rfl rfl) ?_
      refine .cons (.al 107 [.slice none 0 0, .int .i64 0] rfl rfl rfl) ?_
      refine .cons (.sT 2 true rfl rfl rfl rfl rfl rfl rfl) ?_
      refine .nil ?_
      refine ks_n ?_
      refine ACode.drawK (by kernel_rfl) (by kernel_rfl) ?_
      refine .cons (.fB 1 0 false rfl rfl rfl) ?_
      refine .cons (.b1 1 rfl rfl rfl rfl rfl rfl) ?_
      refine .cons (.mv rfl rfl) ?_
      refine .cons (.bN 2 rfl rfl rfl rfl rfl rfl) ?_
      refine .cons (.cP [.tmp 21] rfl rfl rfl rfl (hg x (List.mem_of_getElem? hx1)) rfl hc) ?_
      refine .cons (.li 28 1 0 [.tmp 22] rfl rfl rfl rfl rfl rfl) ?_
      refine .cons (St1.appB (k' := 124) (e := 28) (sz := 1) (by' := 32) rfl rfl rfl rfl rfl (by kernel_rfl) rfl rfl rfl rfl (by first | (simp [dR]; done) | (simp [dR]; omega)) (by first | (simp [dR]; done) | (simp [dR]; omega)) rfl rfl rfl) ?_
      refine .cons (.fB 1 0 false rfl rfl rfl) ?_
      refine .cons (.sT 1 false rfl rfl rfl rfl rfl rfl rfl) ?_
      refine .nil ⟨by kernel_rfl, ?_⟩
      refine kb_n ?_
      refine ks_n ?_
      refine ACode.region ?_
      refine .cons (.pl rfl rfl rfl) ?_
      refine .cons (.mv rfl rfl) ?_
      refine .nil ?_
      refine kl_k [(110, 110), (111, 111), (112, 124)] (.inr ⟨i + 1, rfl, by omega, by omega, rfl⟩) ⟨ks rfl .dt, ks rfl .dt, ks rfl (.c .bx), ks rfl (.c .bx), ks rfl .dt, ks rfl .dt, ks rfl .dt, kb 110 rfl (.cons (.cons .dt (.cons .dt Ctos.nil)) .nil), kb 124 rfl (.dt rfl (by first | exact dR_take (fun x => rA (g x)) hx1 | exact dR_take1 (fun x => rA (g x)) hx1 | rfl | (simp [dR]; done))), kb 111 rfl (.cons (.cons .dt (.cons .ow Ctos.nil)) .nil), trivial⟩
    · skip
      obtain rfl : i = a.2.length := by omega
      refine ACode.exit ?_
      refine ks_e ?_
      refine kl_e ?_
      refine kb_hit ?_
      refine ks_n ?_
      refine ACode.seq ?_
      refine ACode.region ?_
      refine .cons (.bN 2 rfl rfl rfl rfl rfl rfl) ?_
      refine .cons (.sT 2 true rfl rfl rfl rfl rfl rfl rfl) ?_
      refine .nil ?_
      refine ks_n ?_
      refine ACode.ret ?_
      refine kf_wret [(.t 4, .v (.o (.c (.box 100 2 0 0)))), (.b 100, .b 25 2 [[.d (dS a.1), .d (dAs (a.2.map g))]]), (.u 100, .u)] (Wk.keep [(100, 110)] rfl rfl ⟨ks rfl (.c .bx), kb 110 rfl (.cons (.cons .dt (.cons (.fz rfl (by first | rfl | exact dR_af _ _ | (rw [List.take_length]; done)) (by first | rfl | (simp; done) | (simp; omega)) (by omega)) Ctos.nil)) .nil), trivial⟩) rfl ?_ nobox
      rfl

mutual
def affsE : Ex → List Aff
  | .mk k _ i r ks => (if k = 2 then [i] else []) ++ ((if k = 3 then r.2 else []) ++ affsEs ks)
def affsEs : List Ex → List Aff
  | [] => []
  | e :: l => affsE e ++ affsEs l
end
theorem affsE_eq (e : Ex) : affsE e = (if e.k = 2 then [e.i] else []) ++ ((if e.k = 3 then e.r.2 else []) ++ affsEs e.ks) := by cases e; rw [affsE]; rfl
theorem affsEs_mem : ∀ {l : List Ex} {e : Ex}, e ∈ l → ∀ a ∈ affsE e, a ∈ affsEs l
  | x :: l, e, h, a, ha => by
    rw [affsEs, List.mem_append]
    rcases List.mem_cons.1 h with rfl | h
    · exact .inl ha
    · exact .inr (affsEs_mem h a ha)
theorem affsE_i {e : Ex} (h : e.k = 2) : e.i ∈ affsE e := by rw [affsE_eq, if_pos h]; simp
theorem affsE_r {e : Ex} (h : e.k = 3) {a : Aff} (ha : a ∈ e.r.2) : a ∈ affsE e := by rw [affsE_eq, if_pos h]; simp [ha]
theorem affsE_k {e x : Ex} (h : x ∈ e.ks) {a : Aff} (ha : a ∈ affsE x) : a ∈ affsE e := by rw [affsE_eq]; simp [affsEs_mem h a ha]
def affsS (s : Stm) : List Aff := s.1.2 ++ affsE s.2

set_option maxRecDepth 100000 in
set_option maxHeartbeats 1600000 in
theorem exprMap_one {f : FuncId} {cap : List (List D)} (hc : callable Try.prog f = true) (g : Aff → Aff) (e : Ex) (hr : e.r.2.length ≤ 1073741824) (hk : e.ks.length ≤ 1073741824) (hg : ∀ x ∈ affsE e, Fn Try.prog f [] (ad (rA x) :: cap.map fun c => .c (.ptr c)) (.o (ad (rA (g x)))) []) (ih : ∀ x ∈ e.ks, Fn Try.prog 121 [] [ad (rX x), .c (.fn f cap)] (.o (ad (rX (mapE g x)))) []) : Fn Try.prog 121 [] [ad (rX e), .c (.fn f cap)] (.o (ad (rX (mapE g e)))) [] := by
  refine Fn.code0 Try.func121 rfl rfl rfl rfl ?_
  refine ACode.seq ?_
  refine ACode.region ?_
  refine .cons (St1.boxP rfl rfl rfl rfl rfl rfl) ?_
  refine .cons (.al 104 [.int .i64 0, .int .i64 0, .slice none 0 0, .int .i64 0, .string ByteArray.empty, .slice none 0 0, .slice none 0 0] rfl rfl rfl) ?_
  refine .nil ?_
  refine ks_n ?_
  refine ACode.seq ?_
  refine ACode.region ?_
  refine .cons (.fP 0 0 false rfl rfl) ?_
  refine .cons (.l1 1 rfl rfl) ?_
  refine .cons (.fP 1 0 false rfl rfl) ?_
  refine .cons (.l1 1 rfl rfl) ?_
  refine .cons (.bu [(0, .tmp 9), (1, .tmp 11)] [(0, 1), (1, 1), (2, 2), (4, 2), (6, 1)] [.int .i64 0, .int .i64 0, .slice none 0 0, .int .i64 0, .string ByteArray.empty, .slice none 0 0, .slice none 0 0] rfl rfl rfl rfl rfl) ?_
  refine .cons (.al 105 [.int .i64 0, .int .i64 0, .slice none 0 0, .int .i64 0, .string ByteArray.empty, .slice none 0 0, .slice none 0 0] rfl rfl rfl) ?_
  refine .cons (.sT 7 true rfl rfl rfl rfl rfl rfl rfl) ?_
  refine .nil ?_
  refine ks_n ?_
  refine ACode.seq ?_
  refine ACode.seq ?_
  refine ACode.region ?_
  refine .cons (.fP 0 0 false rfl rfl) ?_
  refine .cons (.l1 1 rfl rfl) ?_
  refine .nil ?_
  refine ks_n ?_
  refine ACode.block ?_
  refine ACode.seq ?_
  refine ACode.region ?_
  refine .cons (.eq rfl rfl rfl) ?_
  refine .cons (.asg rfl rfl) ?_
  refine .nil ?_
  refine ks_n ?_
  refine .cD rfl (fun h15 => ?_) (fun h15 => ?_)
  · skip
    refine ACode.region ?_
    refine .cons (.mv rfl rfl) ?_
    refine .cons (.fP 2 1 true rfl rfl) ?_
    refine .cons (.lN 2 rfl rfl rfl) ?_
    refine .cons (.cP [.tmp 19] rfl rfl rfl rfl (hg _ (affsE_i h15)) rfl hc) ?_
    refine .cons (.fB 2 1 true rfl rfl rfl) ?_
    refine .cons (.sT 2 true rfl rfl rfl rfl rfl rfl rfl) ?_
    refine .nil ?_
    refine kb_n ?_
    refine ks_n ?_
    refine ACode.seq ?_
    refine ACode.seq ?_
    refine ACode.region ?_
    refine .cons (.fP 6 0 false rfl rfl) ?_
    refine .cons (.l1 1 rfl rfl) ?_
    refine .cons (.ln 31 7 112 rfl rfl rfl) ?_
    refine .cons (.mv rfl rfl) ?_
    refine .nil ?_
    refine ks_n ?_
    refine ACode.block ?_
    refine .loopK (fun m σ => (∃ i : Nat, m = e.ks.length - i ∧ (i = 0) ∧ σ = [(.t 1, .v (.o (.c (.fn f cap)))), (.t 2, .v (.o (.c (.ptr (rX e))))), (.t 4, .v (.o (.c (.box 110 7 0 0)))), (.t 5, .v (.o (.c (.box 111 7 0 0)))), (.t 30, .v (.o (vD (dEs e.ks)))), (.t 31, .v (.o (nat1 (e.ks.length : Nat)))), (.t 32, .v (.o (nat1 (i : Nat)))), (.b 110, .b 31 7 [[.d (dI 0), .d (dI 0), .d (.val (.slice none 0 0)), .d (dI 0), .d (dS ByteArray.empty), .d (.val (.slice none 0 0)), .d (.val (.slice none 0 0))]]), (.u 110, .u), (.b 111, .b 31 7 [[.d (dI e.k), .d (dI e.n), .d (dIs (if e.k = 2 then g e.i else ([], 0)).1), .d (dI (if e.k = 2 then g e.i else ([], 0)).2), .d (dS (if e.k = 3 then mapC g e.r else (ByteArray.empty, [])).1), .d (dAs (if e.k = 3 then mapC g e.r else (ByteArray.empty, [])).2), .d (.val (.slice none 0 0))]]), (.u 111, .u)]) ∨ (∃ i : Nat, m = e.ks.length - i ∧ (1 ≤ i) ∧ (i ≤ e.ks.length) ∧ σ = [(.t 1, .v (.o (.c (.fn f cap)))), (.t 2, .v (.o (.c (.ptr (rX e))))), (.t 4, .v (.o (.c (.box 110 7 0 0)))), (.t 5, .v (.o (.c (.box 111 7 0 0)))), (.t 30, .v (.o (vD (dEs e.ks)))), (.t 31, .v (.o (nat1 (e.ks.length : Nat)))), (.t 32, .v (.o (nat1 (i : Nat)))), (.b 110, .b 31 7 [[.d (dI 0), .d (dI 0), .d (.val (.slice none 0 0)), .d (dI 0), .d (dS ByteArray.empty), .d (.val (.slice none 0 0)), .d (.val (.slice none 0 0))]]), (.u 110, .u), (.b 112, .b 31 7 (dR ((e.ks.take i).map fun x => rX (mapE g x)))), (.u 112, .u), (.b 111, .b 31 7 [[.d (dI e.k), .d (dI e.n), .d (dIs (if e.k = 2 then g e.i else ([], 0)).1), .d (dI (if e.k = 2 then g e.i else ([], 0)).2), .d (dS (if e.k = 3 then mapC g e.r else (ByteArray.empty, [])).1), .d (dAs (if e.k = 3 then mapC g e.r else (ByteArray.empty, [])).2), .own 112 7 (i)]]), (.u 111, .u)])) [(110, 104), (111, 105)] (.inl ⟨0, rfl, rfl, rfl⟩) ⟨ks rfl .dt, ks rfl .dt, ks rfl (.c .bx), ks rfl (.c .bx), ks rfl .dt, ks rfl .dt, ks rfl .dt, kb 104 rfl (.cons (.cons .dt (.cons .dt (.cons .dt (.cons .dt (.cons .dt (.cons .dt (.cons .dt Ctos.nil))))))) .nil), kb 105 rfl (.cons (.cons .dt (.cons .dt (.cons (.dt (by first | rfl | (simp [*]; done) | (simp [*]; rfl))) (.cons (.dt (by first | rfl | (simp [*]; done) | (simp [*]; rfl))) (.cons (.dt (by first | rfl | (simp [*]; done) | (simp [*]; rfl))) (.cons (Cto.nilE 2 (by rw [if_neg (show ¬ e.k = 3 by omega)]; rfl)) (.cons .dt Ctos.nil))))))) .nil), trivial⟩ ?_
    rintro m σ (⟨i, hm0, rfl, rfl⟩ | ⟨i, hm0, hi1, hi2, rfl⟩)
    · skip
      refine ACode.seq ?_
      refine ACode.region ?_
      refine .cons (.ls rfl rfl rfl) ?_
      refine .nil ?_
      refine ks_n ?_
      refine ACode.seq ?_
      refine .cD rfl (fun h33 => ?_) (fun h33 => ?_)
      · skip
        obtain ⟨x, hx1⟩ : ∃ x, e.ks[0]? = some x := ⟨_, List.getElem?_eq_getElem (by omega)⟩
        refine ACode.skip ?_
        refine ks_n ?_
        refine ACode.seq ?_
        refine ACode.block ?_
        refine ACode.seq ?_
        refine ACode.region ?_
        refine .cons (.xL 31 7 112 rfl rfl rfl rfl rfl (rE_at hx1)) ?_
        refine .cons (.lN 7 rfl rfl rfl) ?_
        refine .cons (.al 107 [.int .i64 0, .int .i64 0, .slice none 0 0, .int .i64 0, .string ByteArray.empty, .slice none 0 0, .slice none 0 0] rfl rfl rfl) ?_
        refine .cons (.sT 7 true rfl rfl rfl rfl rfl rfl rfl) ?_
        refine .nil ?_
        refine ks_n ?_
        refine ACode.drawK (by kernel_rfl) (by kernel_rfl) ?_
        refine .cons (.fB 6 0 false rfl rfl rfl) ?_
        refine .cons (.b1 1 rfl rfl rfl rfl rfl rfl) ?_
        refine .cons (.bN 7 rfl rfl rfl rfl rfl rfl) ?_
        refine .cons (.mv rfl rfl) ?_
        refine .cons (.cP [.tmp 38, .tmp 39] rfl rfl rfl rfl (ih x (List.mem_of_getElem? hx1)) rfl) ?_
        refine .cons (.li 31 6 0 [.tmp 40] rfl rfl rfl rfl rfl rfl) ?_
        refine .cons (St1.appN (k' := 142) (e := 31) (sz := 6) (by' := 112) rfl rfl rfl rfl rfl (by kernel_rfl) rfl rfl rfl (by simp) (by first | (simp [dR]; done) | (simp [dR]; omega)) rfl rfl) ?_
        refine .cons (.fB 6 0 false rfl rfl rfl) ?_
        refine .cons (.sT 1 false rfl rfl rfl rfl rfl rfl rfl) ?_
        refine .nil ⟨by kernel_rfl, ?_⟩
        refine kb_n ?_
        refine ks_n ?_
        refine ACode.region ?_
        refine .cons (.pl rfl rfl rfl) ?_
        refine .cons (.mv rfl rfl) ?_
        refine .nil ?_
        refine kl_k [(110, 110), (111, 111), (112, 142)] (.inr ⟨1, rfl, by omega, by omega, rfl⟩) ⟨ks rfl .dt, ks rfl .dt, ks rfl (.c .bx), ks rfl (.c .bx), ks rfl .dt, ks rfl .dt, ks rfl .dt, kb 110 rfl (.cons (.cons .dt (.cons .dt (.cons .dt (.cons .dt (.cons .dt (.cons .dt (.cons .dt Ctos.nil))))))) .nil), kb 142 rfl (.dt rfl (by first | exact dR_take (fun x => rX (mapE g x)) hx1 | exact dR_take1 (fun x => rX (mapE g x)) hx1 | rfl | (simp [dR]; done))), kb 111 rfl (.cons (.cons .dt (.cons .dt (.cons (.dt (by first | rfl | (simp [*]; done) | (simp [*]; rfl))) (.cons (.dt (by first | rfl | (simp [*]; done) | (simp [*]; rfl))) (.cons (.dt (by first | rfl | (simp [*]; done) | (simp [*]; rfl))) (.cons (.dt (by first | rfl | (simp [*]; done) | (simp [*]; rfl))) (.cons .ow Ctos.nil))))))) .nil), trivial⟩
      · skip
        have hn : e.ks = [] := List.eq_nil_of_length_eq_zero (by omega)
        refine ACode.exit ?_
        refine ks_e ?_
        refine kl_e ?_
        refine kb_hit ?_
        refine ks_n ?_
        refine ACode.seq ?_
        refine ACode.region ?_
        refine .cons (.bN 7 rfl rfl rfl rfl rfl rfl) ?_
        refine .cons (.sT 7 true rfl rfl rfl rfl rfl rfl rfl) ?_
        refine .nil ?_
        refine ks_n ?_
        refine ACode.ret ?_
        refine kf_wret [(.t 4, .v (.o (.c (.box 100 7 0 0)))), (.b 100, .b 31 7 [[.d (dI e.k), .d (dI e.n), .d (dIs (if e.k = 2 then g e.i else ([], 0)).1), .d (dI (if e.k = 2 then g e.i else ([], 0)).2), .d (dS (if e.k = 3 then mapC g e.r else (ByteArray.empty, [])).1), .d (dAs (if e.k = 3 then mapC g e.r else (ByteArray.empty, [])).2), .d (dEs (e.ks.map (mapE g)))]]), (.u 100, .u)] (Wk.keep [(100, 110)] rfl rfl ⟨ks rfl (.c .bx), kb 110 rfl (.cons (.cons .dt (.cons .dt (.cons (.dt (by first | rfl | (simp [*]; done) | (simp [*]; rfl))) (.cons (.dt (by first | rfl | (simp [*]; done) | (simp [*]; rfl))) (.cons (.dt (by first | rfl | (simp [*]; done) | (simp [*]; rfl))) (.cons (.dt (by first | rfl | (simp [*]; done) | (simp [*]; rfl))) (.cons (Cto.nilE 7 (by rw [hn]; rfl)) Ctos.nil))))))) .nil), trivial⟩) rfl ?_ nobox
        rw [rX_map]; rfl
    · skip
      refine ACode.seq ?_
      refine ACode.region ?_
      refine .cons (.ls rfl rfl rfl) ?_
      refine .nil ?_
      refine ks_n ?_
      refine ACode.seq ?_
      refine .cD rfl (fun h33 => ?_) (fun h33 => ?_)
      · skip
        obtain ⟨x, hx1⟩ : ∃ x, e.ks[i]? = some x := ⟨_, List.getElem?_eq_getElem (by omega)⟩
        refine ACode.skip ?_
        refine ks_n ?_
        refine ACode.seq ?_
        refine ACode.block ?_
        refine ACode.seq ?_
        refine ACode.region ?_
        refine .cons (.xL 31 7 112 rfl rfl rfl rfl rfl (rE_at hx1)) ?_
        refine .cons (.lN 7 rfl rfl rfl) ?_
        refine .cons (.al 107 [.int .i64 0, .int .i64 0, .slice none 0 0, .int .i64 0, .string ByteArray.empty, .slice none 0 0, .slice none 0 0] rfl rfl rfl) ?_
        refine .cons (.sT 7 true rfl rfl rfl rfl rfl rfl rfl) ?_
        refine .nil ?_
        refine ks_n ?_
        refine ACode.drawK (by kernel_rfl) (by kernel_rfl) ?_
        refine .cons (.fB 6 0 false rfl rfl rfl) ?_
        refine .cons (.b1 1 rfl rfl rfl rfl rfl rfl) ?_
        refine .cons (.bN 7 rfl rfl rfl rfl rfl rfl) ?_
        refine .cons (.mv rfl rfl) ?_
        refine .cons (.cP [.tmp 38, .tmp 39] rfl rfl rfl rfl (ih x (List.mem_of_getElem? hx1)) rfl) ?_
        refine .cons (.li 31 6 0 [.tmp 40] rfl rfl rfl rfl rfl rfl) ?_
        refine .cons (St1.appB (k' := 142) (e := 31) (sz := 6) (by' := 112) rfl rfl rfl rfl rfl (by kernel_rfl) rfl rfl rfl rfl (by first | (simp [dR]; done) | (simp [dR]; omega)) (by first | (simp [dR]; done) | (simp [dR]; omega)) rfl rfl rfl) ?_
        refine .cons (.fB 6 0 false rfl rfl rfl) ?_
        refine .cons (.sT 1 false rfl rfl rfl rfl rfl rfl rfl) ?_
        refine .nil ⟨by kernel_rfl, ?_⟩
        refine kb_n ?_
        refine ks_n ?_
        refine ACode.region ?_
        refine .cons (.pl rfl rfl rfl) ?_
        refine .cons (.mv rfl rfl) ?_
        refine .nil ?_
        refine kl_k [(110, 110), (111, 111), (112, 142)] (.inr ⟨i + 1, rfl, by omega, by omega, rfl⟩) ⟨ks rfl .dt, ks rfl .dt, ks rfl (.c .bx), ks rfl (.c .bx), ks rfl .dt, ks rfl .dt, ks rfl .dt, kb 110 rfl (.cons (.cons .dt (.cons .dt (.cons .dt (.cons .dt (.cons .dt (.cons .dt (.cons .dt Ctos.nil))))))) .nil), kb 142 rfl (.dt rfl (by first | exact dR_take (fun x => rX (mapE g x)) hx1 | exact dR_take1 (fun x => rX (mapE g x)) hx1 | rfl | (simp [dR]; done))), kb 111 rfl (.cons (.cons .dt (.cons .dt (.cons (.dt (by first | rfl | (simp [*]; done) | (simp [*]; rfl))) (.cons (.dt (by first | rfl | (simp [*]; done) | (simp [*]; rfl))) (.cons (.dt (by first | rfl | (simp [*]; done) | (simp [*]; rfl))) (.cons (.dt (by first | rfl | (simp [*]; done) | (simp [*]; rfl))) (.cons .ow Ctos.nil))))))) .nil), trivial⟩
      · skip
        obtain rfl : i = e.ks.length := by omega
        refine ACode.exit ?_
        refine ks_e ?_
        refine kl_e ?_
        refine kb_hit ?_
        refine ks_n ?_
        refine ACode.seq ?_
        refine ACode.region ?_
        refine .cons (.bN 7 rfl rfl rfl rfl rfl rfl) ?_
        refine .cons (.sT 7 true rfl rfl rfl rfl rfl rfl rfl) ?_
        refine .nil ?_
        refine ks_n ?_
        refine ACode.ret ?_
        refine kf_wret [(.t 4, .v (.o (.c (.box 100 7 0 0)))), (.b 100, .b 31 7 [[.d (dI e.k), .d (dI e.n), .d (dIs (if e.k = 2 then g e.i else ([], 0)).1), .d (dI (if e.k = 2 then g e.i else ([], 0)).2), .d (dS (if e.k = 3 then mapC g e.r else (ByteArray.empty, [])).1), .d (dAs (if e.k = 3 then mapC g e.r else (ByteArray.empty, [])).2), .d (dEs (e.ks.map (mapE g)))]]), (.u 100, .u)] (Wk.keep [(100, 110)] rfl rfl ⟨ks rfl (.c .bx), kb 110 rfl (.cons (.cons .dt (.cons .dt (.cons (.dt (by first | rfl | (simp [*]; done) | (simp [*]; rfl))) (.cons (.dt (by first | rfl | (simp [*]; done) | (simp [*]; rfl))) (.cons (.dt (by first | rfl | (simp [*]; done) | (simp [*]; rfl))) (.cons (.dt (by first | rfl | (simp [*]; done) | (simp [*]; rfl))) (.cons (.fz rfl (by first | rfl | exact dR_ex _ _ | (rw [List.take_length]; done)) (by first | rfl | (simp; done) | (simp; omega)) (by omega)) Ctos.nil))))))) .nil), trivial⟩) rfl ?_ nobox
        rw [rX_map]; rfl
  · skip
    refine ACode.seq ?_
    refine ACode.region ?_
    refine .cons (.eq rfl rfl rfl) ?_
    refine .cons (.asg rfl rfl) ?_
    refine .nil ?_
    refine ks_n ?_
    refine .cD rfl (fun h22 => ?_) (fun h22 => ?_)
    · skip
      refine ACode.region ?_
      refine .cons (.fP 4 1 true rfl rfl) ?_
      refine .cons (.lN 2 rfl rfl rfl) ?_
      refine .cons (.mv rfl rfl) ?_
      refine .cons (.cP [.tmp 25, .tmp 26] rfl rfl rfl rfl (accMap_fn hc g e.r hr (fun x hx => hg x (affsE_r h22 hx))) rfl) ?_
      refine .cons (.fB 4 1 true rfl rfl rfl) ?_
      refine .cons (.sT 2 true rfl rfl rfl rfl rfl rfl rfl) ?_
      refine .nil ?_
      refine kb_n ?_
      refine ks_n ?_
      refine ACode.seq ?_
      refine ACode.seq ?_
      refine ACode.region ?_
      refine .cons (.fP 6 0 false rfl rfl) ?_
      refine .cons (.l1 1 rfl rfl) ?_
      refine .cons (.ln 31 7 112 rfl rfl rfl) ?_
      refine .cons (.mv rfl rfl) ?_
      refine .nil ?_
      refine ks_n ?_
      refine ACode.block ?_
      refine .loopK (fun m σ => (∃ i : Nat, m = e.ks.length - i ∧ (i = 0) ∧ σ = [(.t 1, .v (.o (.c (.fn f cap)))), (.t 2, .v (.o (.c (.ptr (rX e))))), (.t 4, .v (.o (.c (.box 110 7 0 0)))), (.t 5, .v (.o (.c (.box 111 7 0 0)))), (.t 30, .v (.o (vD (dEs e.ks)))), (.t 31, .v (.o (nat1 (e.ks.length : Nat)))), (.t 32, .v (.o (nat1 (i : Nat)))), (.b 110, .b 31 7 [[.d (dI 0), .d (dI 0), .d (.val (.slice none 0 0)), .d (dI 0), .d (dS ByteArray.empty), .d (.val (.slice none 0 0)), .d (.val (.slice none 0 0))]]), (.u 110, .u), (.b 111, .b 31 7 [[.d (dI e.k), .d (dI e.n), .d (dIs (if e.k = 2 then g e.i else ([], 0)).1), .d (dI (if e.k = 2 then g e.i else ([], 0)).2), .d (dS (if e.k = 3 then mapC g e.r else (ByteArray.empty, [])).1), .d (dAs (if e.k = 3 then mapC g e.r else (ByteArray.empty, [])).2), .d (.val (.slice none 0 0))]]), (.u 111, .u)]) ∨ (∃ i : Nat, m = e.ks.length - i ∧ (1 ≤ i) ∧ (i ≤ e.ks.length) ∧ σ = [(.t 1, .v (.o (.c (.fn f cap)))), (.t 2, .v (.o (.c (.ptr (rX e))))), (.t 4, .v (.o (.c (.box 110 7 0 0)))), (.t 5, .v (.o (.c (.box 111 7 0 0)))), (.t 30, .v (.o (vD (dEs e.ks)))), (.t 31, .v (.o (nat1 (e.ks.length : Nat)))), (.t 32, .v (.o (nat1 (i : Nat)))), (.b 110, .b 31 7 [[.d (dI 0), .d (dI 0), .d (.val (.slice none 0 0)), .d (dI 0), .d (dS ByteArray.empty), .d (.val (.slice none 0 0)), .d (.val (.slice none 0 0))]]), (.u 110, .u), (.b 112, .b 31 7 (dR ((e.ks.take i).map fun x => rX (mapE g x)))), (.u 112, .u), (.b 111, .b 31 7 [[.d (dI e.k), .d (dI e.n), .d (dIs (if e.k = 2 then g e.i else ([], 0)).1), .d (dI (if e.k = 2 then g e.i else ([], 0)).2), .d (dS (if e.k = 3 then mapC g e.r else (ByteArray.empty, [])).1), .d (dAs (if e.k = 3 then mapC g e.r else (ByteArray.empty, [])).2), .own 112 7 (i)]]), (.u 111, .u)])) [(110, 104), (111, 105)] (.inl ⟨0, rfl, rfl, rfl⟩) ⟨ks rfl .dt, ks rfl .dt, ks rfl (.c .bx), ks rfl (.c .bx), ks rfl .dt, ks rfl .dt, ks rfl .dt, kb 104 rfl (.cons (.cons .dt (.cons .dt (.cons .dt (.cons .dt (.cons .dt (.cons .dt (.cons .dt Ctos.nil))))))) .nil), kb 105 rfl (.cons (.cons .dt (.cons .dt (.cons (Cto.nilE 1 (by rw [if_neg (show ¬ e.k = 2 by omega)]; rfl)) (.cons (.dt (by first | rfl | (simp [*]; done) | (simp [*]; rfl))) (.cons (.dt (by first | rfl | (simp [*]; done) | (simp [*]; rfl))) (.cons (.dt (by first | rfl | (simp [*]; done) | (simp [*]; rfl))) (.cons .dt Ctos.nil))))))) .nil), trivial⟩ ?_
      rintro m σ (⟨i, hm0, rfl, rfl⟩ | ⟨i, hm0, hi1, hi2, rfl⟩)
      · skip
        refine ACode.seq ?_
        refine ACode.region ?_
        refine .cons (.ls rfl rfl rfl) ?_
        refine .nil ?_
        refine ks_n ?_
        refine ACode.seq ?_
        refine .cD rfl (fun h33 => ?_) (fun h33 => ?_)
        · skip
          obtain ⟨x, hx1⟩ : ∃ x, e.ks[0]? = some x := ⟨_, List.getElem?_eq_getElem (by omega)⟩
          refine ACode.skip ?_
          refine ks_n ?_
          refine ACode.seq ?_
          refine ACode.block ?_
          refine ACode.seq ?_
          refine ACode.region ?_
          refine .cons (.xL 31 7 112 rfl rfl rfl rfl rfl (rE_at hx1)) ?_
          refine .cons (.lN 7 rfl rfl rfl) ?_
          refine .cons (.al 107 [.int .i64 0, .int .i64 0, .slice none 0 0, .int .i64 0, .string ByteArray.empty, .slice none 0 0, .slice none 0 0] rfl rfl rfl) ?_
          refine .cons (.sT 7 true rfl rfl rfl rfl rfl rfl rfl) ?_
          refine .nil ?_
          refine ks_n ?_
          refine ACode.drawK (by kernel_rfl) (by kernel_rfl) ?_
          refine .cons (.fB 6 0 false rfl rfl rfl) ?_
          refine .cons (.b1 1 rfl rfl rfl rfl rfl rfl) ?_
          refine .cons (.bN 7 rfl rfl rfl rfl rfl rfl) ?_
          refine .cons (.mv rfl rfl) ?_
          refine .cons (.cP [.tmp 38, .tmp 39] rfl rfl rfl rfl (ih x (List.mem_of_getElem? hx1)) rfl) ?_
          refine .cons (.li 31 6 0 [.tmp 40] rfl rfl rfl rfl rfl rfl) ?_
          refine .cons (St1.appN (k' := 142) (e := 31) (sz := 6) (by' := 112) rfl rfl rfl rfl rfl (by kernel_rfl) rfl rfl rfl (by simp) (by first | (simp [dR]; done) | (simp [dR]; omega)) rfl rfl) ?_
          refine .cons (.fB 6 0 false rfl rfl rfl) ?_
          refine .cons (.sT 1 false rfl rfl rfl rfl rfl rfl rfl) ?_
          refine .nil ⟨by kernel_rfl, ?_⟩
          refine kb_n ?_
          refine ks_n ?_
          refine ACode.region ?_
          refine .cons (.pl rfl rfl rfl) ?_
          refine .cons (.mv rfl rfl) ?_
          refine .nil ?_
          refine kl_k [(110, 110), (111, 111), (112, 142)] (.inr ⟨1, rfl, by omega, by omega, rfl⟩) ⟨ks rfl .dt, ks rfl .dt, ks rfl (.c .bx), ks rfl (.c .bx), ks rfl .dt, ks rfl .dt, ks rfl .dt, kb 110 rfl (.cons (.cons .dt (.cons .dt (.cons .dt (.cons .dt (.cons .dt (.cons .dt (.cons .dt Ctos.nil))))))) .nil), kb 142 rfl (.dt rfl (by first | exact dR_take (fun x => rX (mapE g x)) hx1 | exact dR_take1 (fun x => rX (mapE g x)) hx1 | rfl | (simp [dR]; done))), kb 111 rfl (.cons (.cons .dt (.cons .dt (.cons (.dt (by first | rfl | (simp [*]; done) | (simp [*]; rfl))) (.cons (.dt (by first | rfl | (simp [*]; done) | (simp [*]; rfl))) (.cons (.dt (by first | rfl | (simp [*]; done) | (simp [*]; rfl))) (.cons (.dt (by first | rfl | (simp [*]; done) | (simp [*]; rfl))) (.cons .ow Ctos.nil))))))) .nil), trivial⟩
        · skip
          have hn : e.ks = [] := List.eq_nil_of_length_eq_zero (by omega)
          refine ACode.exit ?_
          refine ks_e ?_
          refine kl_e ?_
          refine kb_hit ?_
          refine ks_n ?_
          refine ACode.seq ?_
          refine ACode.region ?_
          refine .cons (.bN 7 rfl rfl rfl rfl rfl rfl) ?_
          refine .cons (.sT 7 true rfl rfl rfl rfl rfl rfl rfl) ?_
          refine .nil ?_
          refine ks_n ?_
          refine ACode.ret ?_
          refine kf_wret [(.t 4, .v (.o (.c (.box 100 7 0 0)))), (.b 100, .b 31 7 [[.d (dI e.k), .d (dI e.n), .d (dIs (if e.k = 2 then g e.i else ([], 0)).1), .d (dI (if e.k = 2 then g e.i else ([], 0)).2), .d (dS (if e.k = 3 then mapC g e.r else (ByteArray.empty, [])).1), .d (dAs (if e.k = 3 then mapC g e.r else (ByteArray.empty, [])).2), .d (dEs (e.ks.map (mapE g)))]]), (.u 100, .u)] (Wk.keep [(100, 110)] rfl rfl ⟨ks rfl (.c .bx), kb 110 rfl (.cons (.cons .dt (.cons .dt (.cons (.dt (by first | rfl | (simp [*]; done) | (simp [*]; rfl))) (.cons (.dt (by first | rfl | (simp [*]; done) | (simp [*]; rfl))) (.cons (.dt (by first | rfl | (simp [*]; done) | (simp [*]; rfl))) (.cons (.dt (by first | rfl | (simp [*]; done) | (simp [*]; rfl))) (.cons (Cto.nilE 7 (by rw [hn]; rfl)) Ctos.nil))))))) .nil), trivial⟩) rfl ?_ nobox
          rw [rX_map]; rfl
      · skip
        refine ACode.seq ?_
        refine ACode.region ?_
        refine .cons (.ls rfl rfl rfl) ?_
        refine .nil ?_
        refine ks_n ?_
        refine ACode.seq ?_
        refine .cD rfl (fun h33 => ?_) (fun h33 => ?_)
        · skip
          obtain ⟨x, hx1⟩ : ∃ x, e.ks[i]? = some x := ⟨_, List.getElem?_eq_getElem (by omega)⟩
          refine ACode.skip ?_
          refine ks_n ?_
          refine ACode.seq ?_
          refine ACode.block ?_
          refine ACode.seq ?_
          refine ACode.region ?_
          refine .cons (.xL 31 7 112 rfl rfl rfl rfl rfl (rE_at hx1)) ?_
          refine .cons (.lN 7 rfl rfl rfl) ?_
          refine .cons (.al 107 [.int .i64 0, .int .i64 0, .slice none 0 0, .int .i64 0, .string ByteArray.empty, .slice none 0 0, .slice none 0 0] rfl rfl rfl) ?_
          refine .cons (.sT 7 true rfl rfl rfl rfl rfl rfl rfl) ?_
          refine .nil ?_
          refine ks_n ?_
          refine ACode.drawK (by kernel_rfl) (by kernel_rfl) ?_
          refine .cons (.fB 6 0 false rfl rfl rfl) ?_
          refine .cons (.b1 1 rfl rfl rfl rfl rfl rfl) ?_
          refine .cons (.bN 7 rfl rfl rfl rfl rfl rfl) ?_
          refine .cons (.mv rfl rfl) ?_
          refine .cons (.cP [.tmp 38, .tmp 39] rfl rfl rfl rfl (ih x (List.mem_of_getElem? hx1)) rfl) ?_
          refine .cons (.li 31 6 0 [.tmp 40] rfl rfl rfl rfl rfl rfl) ?_
          refine .cons (St1.appB (k' := 142) (e := 31) (sz := 6) (by' := 112) rfl rfl rfl rfl rfl (by kernel_rfl) rfl rfl rfl rfl (by first | (simp [dR]; done) | (simp [dR]; omega)) (by first | (simp [dR]; done) | (simp [dR]; omega)) rfl rfl rfl) ?_
          refine .cons (.fB 6 0 false rfl rfl rfl) ?_
          refine .cons (.sT 1 false rfl rfl rfl rfl rfl rfl rfl) ?_
          refine .nil ⟨by kernel_rfl, ?_⟩
          refine kb_n ?_
          refine ks_n ?_
          refine ACode.region ?_
          refine .cons (.pl rfl rfl rfl) ?_
          refine .cons (.mv rfl rfl) ?_
          refine .nil ?_
          refine kl_k [(110, 110), (111, 111), (112, 142)] (.inr ⟨i + 1, rfl, by omega, by omega, rfl⟩) ⟨ks rfl .dt, ks rfl .dt, ks rfl (.c .bx), ks rfl (.c .bx), ks rfl .dt, ks rfl .dt, ks rfl .dt, kb 110 rfl (.cons (.cons .dt (.cons .dt (.cons .dt (.cons .dt (.cons .dt (.cons .dt (.cons .dt Ctos.nil))))))) .nil), kb 142 rfl (.dt rfl (by first | exact dR_take (fun x => rX (mapE g x)) hx1 | exact dR_take1 (fun x => rX (mapE g x)) hx1 | rfl | (simp [dR]; done))), kb 111 rfl (.cons (.cons .dt (.cons .dt (.cons (.dt (by first | rfl | (simp [*]; done) | (simp [*]; rfl))) (.cons (.dt (by first | rfl | (simp [*]; done) | (simp [*]; rfl))) (.cons (.dt (by first | rfl | (simp [*]; done) | (simp [*]; rfl))) (.cons (.dt (by first | rfl | (simp [*]; done) | (simp [*]; rfl))) (.cons .ow Ctos.nil))))))) .nil), trivial⟩
        · skip
          obtain rfl : i = e.ks.length := by omega
          refine ACode.exit ?_
          refine ks_e ?_
          refine kl_e ?_
          refine kb_hit ?_
          refine ks_n ?_
          refine ACode.seq ?_
          refine ACode.region ?_
          refine .cons (.bN 7 rfl rfl rfl rfl rfl rfl) ?_
          refine .cons (.sT 7 true rfl rfl rfl rfl rfl rfl rfl) ?_
          refine .nil ?_
          refine ks_n ?_
          refine ACode.ret ?_
          refine kf_wret [(.t 4, .v (.o (.c (.box 100 7 0 0)))), (.b 100, .b 31 7 [[.d (dI e.k), .d (dI e.n), .d (dIs (if e.k = 2 then g e.i else ([], 0)).1), .d (dI (if e.k = 2 then g e.i else ([], 0)).2), .d (dS (if e.k = 3 then mapC g e.r else (ByteArray.empty, [])).1), .d (dAs (if e.k = 3 then mapC g e.r else (ByteArray.empty, [])).2), .d (dEs (e.ks.map (mapE g)))]]), (.u 100, .u)] (Wk.keep [(100, 110)] rfl rfl ⟨ks rfl (.c .bx), kb 110 rfl (.cons (.cons .dt (.cons .dt (.cons (.dt (by first | rfl | (simp [*]; done) | (simp [*]; rfl))) (.cons (.dt (by first | rfl | (simp [*]; done) | (simp [*]; rfl))) (.cons (.dt (by first | rfl | (simp [*]; done) | (simp [*]; rfl))) (.cons (.dt (by first | rfl | (simp [*]; done) | (simp [*]; rfl))) (.cons (.fz rfl (by first | rfl | exact dR_ex _ _ | (rw [List.take_length]; done)) (by first | rfl | (simp; done) | (simp; omega)) (by omega)) Ctos.nil))))))) .nil), trivial⟩) rfl ?_ nobox
          rw [rX_map]; rfl
    · skip
      refine ACode.skip ?_
      refine kb_n ?_
      refine ks_n ?_
      refine ACode.seq ?_
      refine ACode.seq ?_
      refine ACode.region ?_
      refine .cons (.fP 6 0 false rfl rfl) ?_
      refine .cons (.l1 1 rfl rfl) ?_
      refine .cons (.ln 31 7 112 rfl rfl rfl) ?_
      refine .cons (.mv rfl rfl) ?_
      refine .nil ?_
      refine ks_n ?_
      refine ACode.block ?_
      refine .loopK (fun m σ => (∃ i : Nat, m = e.ks.length - i ∧ (i = 0) ∧ σ = [(.t 1, .v (.o (.c (.fn f cap)))), (.t 2, .v (.o (.c (.ptr (rX e))))), (.t 4, .v (.o (.c (.box 110 7 0 0)))), (.t 5, .v (.o (.c (.box 111 7 0 0)))), (.t 30, .v (.o (vD (dEs e.ks)))), (.t 31, .v (.o (nat1 (e.ks.length : Nat)))), (.t 32, .v (.o (nat1 (i : Nat)))), (.b 110, .b 31 7 [[.d (dI 0), .d (dI 0), .d (.val (.slice none 0 0)), .d (dI 0), .d (dS ByteArray.empty), .d (.val (.slice none 0 0)), .d (.val (.slice none 0 0))]]), (.u 110, .u), (.b 111, .b 31 7 [[.d (dI e.k), .d (dI e.n), .d (dIs (if e.k = 2 then g e.i else ([], 0)).1), .d (dI (if e.k = 2 then g e.i else ([], 0)).2), .d (dS (if e.k = 3 then mapC g e.r else (ByteArray.empty, [])).1), .d (dAs (if e.k = 3 then mapC g e.r else (ByteArray.empty, [])).2), .d (.val (.slice none 0 0))]]), (.u 111, .u)]) ∨ (∃ i : Nat, m = e.ks.length - i ∧ (1 ≤ i) ∧ (i ≤ e.ks.length) ∧ σ = [(.t 1, .v (.o (.c (.fn f cap)))), (.t 2, .v (.o (.c (.ptr (rX e))))), (.t 4, .v (.o (.c (.box 110 7 0 0)))), (.t 5, .v (.o (.c (.box 111 7 0 0)))), (.t 30, .v (.o (vD (dEs e.ks)))), (.t 31, .v (.o (nat1 (e.ks.length : Nat)))), (.t 32, .v (.o (nat1 (i : Nat)))), (.b 110, .b 31 7 [[.d (dI 0), .d (dI 0), .d (.val (.slice none 0 0)), .d (dI 0), .d (dS ByteArray.empty), .d (.val (.slice none 0 0)), .d (.val (.slice none 0 0))]]), (.u 110, .u), (.b 112, .b 31 7 (dR ((e.ks.take i).map fun x => rX (mapE g x)))), (.u 112, .u), (.b 111, .b 31 7 [[.d (dI e.k), .d (dI e.n), .d (dIs (if e.k = 2 then g e.i else ([], 0)).1), .d (dI (if e.k = 2 then g e.i else ([], 0)).2), .d (dS (if e.k = 3 then mapC g e.r else (ByteArray.empty, [])).1), .d (dAs (if e.k = 3 then mapC g e.r else (ByteArray.empty, [])).2), .own 112 7 (i)]]), (.u 111, .u)])) [(110, 104), (111, 105)] (.inl ⟨0, rfl, rfl, rfl⟩) ⟨ks rfl .dt, ks rfl .dt, ks rfl (.c .bx), ks rfl (.c .bx), ks rfl .dt, ks rfl .dt, ks rfl .dt, kb 104 rfl (.cons (.cons .dt (.cons .dt (.cons .dt (.cons .dt (.cons .dt (.cons .dt (.cons .dt Ctos.nil))))))) .nil), kb 105 rfl (.cons (.cons .dt (.cons .dt (.cons (Cto.nilE 1 (by rw [if_neg (show ¬ e.k = 2 by omega)]; rfl)) (.cons (.dt (by first | rfl | (simp [*]; done) | (simp [*]; rfl))) (.cons (.dt (by first | rfl | (simp [*]; done) | (simp [*]; rfl))) (.cons (Cto.nilE 2 (by rw [if_neg (show ¬ e.k = 3 by omega)]; rfl)) (.cons .dt Ctos.nil))))))) .nil), trivial⟩ ?_
      rintro m σ (⟨i, hm0, rfl, rfl⟩ | ⟨i, hm0, hi1, hi2, rfl⟩)
      · skip
        refine ACode.seq ?_
        refine ACode.region ?_
        refine .cons (.ls rfl rfl rfl) ?_
        refine .nil ?_
        refine ks_n ?_
        refine ACode.seq ?_
        refine .cD rfl (fun h33 => ?_) (fun h33 => ?_)
        · skip
          obtain ⟨x, hx1⟩ : ∃ x, e.ks[0]? = some x := ⟨_, List.getElem?_eq_getElem (by omega)⟩
          refine ACode.skip ?_
          refine ks_n ?_
          refine ACode.seq ?_
          refine ACode.block ?_
          refine ACode.seq ?_
          refine ACode.region ?_
          refine .cons (.xL 31 7 112 rfl rfl rfl rfl rfl (rE_at hx1)) ?_
          refine .cons (.lN 7 rfl rfl rfl) ?_
          refine .cons (.al 107 [.int .i64 0, .int .i64 0, .slice none 0 0, .int .i64 0, .string ByteArray.empty, .slice none 0 0, .slice none 0 0] rfl rfl rfl) ?_
          refine .cons (.sT 7 true rfl rfl rfl rfl rfl rfl rfl) ?_
          refine .nil ?_
          refine ks_n ?_
          refine ACode.drawK (by kernel_rfl) (by kernel_rfl) ?_
          refine .cons (.fB 6 0 false rfl rfl rfl) ?_
          refine .cons (.b1 1 rfl rfl rfl rfl rfl rfl) ?_
          refine .cons (.bN 7 rfl rfl rfl rfl rfl rfl) ?_
          refine .cons (.mv rfl rfl) ?_
          refine .cons (.cP [.tmp 38, .tmp 39] rfl rfl rfl rfl (ih x (List.mem_of_getElem? hx1)) rfl) ?_
          refine .cons (.li 31 6 0 [.tmp 40] rfl rfl rfl rfl rfl rfl) ?_
          refine .cons (St1.appN (k' := 142) (e := 31) (sz := 6) (by' := 112) rfl rfl rfl rfl rfl (by kernel_rfl) rfl rfl rfl (by simp) (by first | (simp [dR]; done) | (simp [dR]; omega)) rfl rfl) ?_
          refine .cons (.fB 6 0 false rfl rfl rfl) ?_
          refine .cons (.sT 1 false rfl rfl rfl rfl rfl rfl rfl) ?_
          refine .nil ⟨by kernel_rfl, ?_⟩
          refine kb_n ?_
          refine ks_n ?_
          refine ACode.region ?_
          refine .cons (.pl rfl rfl rfl) ?_
          refine .cons (.mv rfl rfl) ?_
          refine .nil ?_
          refine kl_k [(110, 110), (111, 111), (112, 142)] (.inr ⟨1, rfl, by omega, by omega, rfl⟩) ⟨ks rfl .dt, ks rfl .dt, ks rfl (.c .bx), ks rfl (.c .bx), ks rfl .dt, ks rfl .dt, ks rfl .dt, kb 110 rfl (.cons (.cons .dt (.cons .dt (.cons .dt (.cons .dt (.cons .dt (.cons .dt (.cons .dt Ctos.nil))))))) .nil), kb 142 rfl (.dt rfl (by first | exact dR_take (fun x => rX (mapE g x)) hx1 | exact dR_take1 (fun x => rX (mapE g x)) hx1 | rfl | (simp [dR]; done))), kb 111 rfl (.cons (.cons .dt (.cons .dt (.cons (.dt (by first | rfl | (simp [*]; done) | (simp [*]; rfl))) (.cons (.dt (by first | rfl | (simp [*]; done) | (simp [*]; rfl))) (.cons (.dt (by first | rfl | (simp [*]; done) | (simp [*]; rfl))) (.cons (.dt (by first | rfl | (simp [*]; done) | (simp [*]; rfl))) (.cons .ow Ctos.nil))))))) .nil), trivial⟩
        · skip
          have hn : e.ks = [] := List.eq_nil_of_length_eq_zero (by omega)
          refine ACode.exit ?_
          refine ks_e ?_
          refine kl_e ?_
          refine kb_hit ?_
          refine ks_n ?_
          refine ACode.seq ?_
          refine ACode.region ?_
          refine .cons (.bN 7 rfl rfl rfl rfl rfl rfl) ?_
          refine .cons (.sT 7 true rfl rfl rfl rfl rfl rfl rfl) ?_
          refine .nil ?_
          refine ks_n ?_
          refine ACode.ret ?_
          refine kf_wret [(.t 4, .v (.o (.c (.box 100 7 0 0)))), (.b 100, .b 31 7 [[.d (dI e.k), .d (dI e.n), .d (dIs (if e.k = 2 then g e.i else ([], 0)).1), .d (dI (if e.k = 2 then g e.i else ([], 0)).2), .d (dS (if e.k = 3 then mapC g e.r else (ByteArray.empty, [])).1), .d (dAs (if e.k = 3 then mapC g e.r else (ByteArray.empty, [])).2), .d (dEs (e.ks.map (mapE g)))]]), (.u 100, .u)] (Wk.keep [(100, 110)] rfl rfl ⟨ks rfl (.c .bx), kb 110 rfl (.cons (.cons .dt (.cons .dt (.cons (.dt (by first | rfl | (simp [*]; done) | (simp [*]; rfl))) (.cons (.dt (by first | rfl | (simp [*]; done) | (simp [*]; rfl))) (.cons (.dt (by first | rfl | (simp [*]; done) | (simp [*]; rfl))) (.cons (.dt (by first | rfl | (simp [*]; done) | (simp [*]; rfl))) (.cons (Cto.nilE 7 (by rw [hn]; rfl)) Ctos.nil))))))) .nil), trivial⟩) rfl ?_ nobox
          rw [rX_map]; rfl
      · skip
        refine ACode.seq ?_
        refine ACode.region ?_
        refine .cons (.ls rfl rfl rfl) ?_
        refine .nil ?_
        refine ks_n ?_
        refine ACode.seq ?_
        refine .cD rfl (fun h33 => ?_) (fun h33 => ?_)
        · skip
          obtain ⟨x, hx1⟩ : ∃ x, e.ks[i]? = some x := ⟨_, List.getElem?_eq_getElem (by omega)⟩
          refine ACode.skip ?_
          refine ks_n ?_
          refine ACode.seq ?_
          refine ACode.block ?_
          refine ACode.seq ?_
          refine ACode.region ?_
          refine .cons (.xL 31 7 112 rfl rfl rfl rfl rfl (rE_at hx1)) ?_
          refine .cons (.lN 7 rfl rfl rfl) ?_
          refine .cons (.al 107 [.int .i64 0, .int .i64 0, .slice none 0 0, .int .i64 0, .string ByteArray.empty, .slice none 0 0, .slice none 0 0] rfl rfl rfl) ?_
          refine .cons (.sT 7 true rfl rfl rfl rfl rfl rfl rfl) ?_
          refine .nil ?_
          refine ks_n ?_
          refine ACode.drawK (by kernel_rfl) (by kernel_rfl) ?_
          refine .cons (.fB 6 0 false rfl rfl rfl) ?_
          refine .cons (.b1 1 rfl rfl rfl rfl rfl rfl) ?_
          refine .cons (.bN 7 rfl rfl rfl rfl rfl rfl) ?_
          refine .cons (.mv rfl rfl) ?_
          refine .cons (.cP [.tmp 38, .tmp 39] rfl rfl rfl rfl (ih x (List.mem_of_getElem? hx1)) rfl) ?_
          refine .cons (.li 31 6 0 [.tmp 40] rfl rfl rfl rfl rfl rfl) ?_
          refine .cons (St1.appB (k' := 142) (e := 31) (sz := 6) (by' := 112) rfl rfl rfl rfl rfl (by kernel_rfl) rfl rfl rfl rfl (by first | (simp [dR]; done) | (simp [dR]; omega)) (by first | (simp [dR]; done) | (simp [dR]; omega)) rfl rfl rfl) ?_
          refine .cons (.fB 6 0 false rfl rfl rfl) ?_
          refine .cons (.sT 1 false rfl rfl rfl rfl rfl rfl rfl) ?_
          refine .nil ⟨by kernel_rfl, ?_⟩
          refine kb_n ?_
          refine ks_n ?_
          refine ACode.region ?_
          refine .cons (.pl rfl rfl rfl) ?_
          refine .cons (.mv rfl rfl) ?_
          refine .nil ?_
          refine kl_k [(110, 110), (111, 111), (112, 142)] (.inr ⟨i + 1, rfl, by omega, by omega, rfl⟩) ⟨ks rfl .dt, ks rfl .dt, ks rfl (.c .bx), ks rfl (.c .bx), ks rfl .dt, ks rfl .dt, ks rfl .dt, kb 110 rfl (.cons (.cons .dt (.cons .dt (.cons .dt (.cons .dt (.cons .dt (.cons .dt (.cons .dt Ctos.nil))))))) .nil), kb 142 rfl (.dt rfl (by first | exact dR_take (fun x => rX (mapE g x)) hx1 | exact dR_take1 (fun x => rX (mapE g x)) hx1 | rfl | (simp [dR]; done))), kb 111 rfl (.cons (.cons .dt (.cons .dt (.cons (.dt (by first | rfl | (simp [*]; done) | (simp [*]; rfl))) (.cons (.dt (by first | rfl | (simp [*]; done) | (simp [*]; rfl))) (.cons (.dt (by first | rfl | (simp [*]; done) | (simp [*]; rfl))) (.cons (.dt (by first | rfl | (simp [*]; done) | (simp [*]; rfl))) (.cons .ow Ctos.nil))))))) .nil), trivial⟩
        · skip
          obtain rfl : i = e.ks.length := by omega
          refine ACode.exit ?_
          refine ks_e ?_
          refine kl_e ?_
          refine kb_hit ?_
          refine ks_n ?_
          refine ACode.seq ?_
          refine ACode.region ?_
          refine .cons (.bN 7 rfl rfl rfl rfl rfl rfl) ?_
          refine .cons (.sT 7 true rfl rfl rfl rfl rfl rfl rfl) ?_
          refine .nil ?_
          refine ks_n ?_
          refine ACode.ret ?_
          refine kf_wret [(.t 4, .v (.o (.c (.box 100 7 0 0)))), (.b 100, .b 31 7 [[.d (dI e.k), .d (dI e.n), .d (dIs (if e.k = 2 then g e.i else ([], 0)).1), .d (dI (if e.k = 2 then g e.i else ([], 0)).2), .d (dS (if e.k = 3 then mapC g e.r else (ByteArray.empty, [])).1), .d (dAs (if e.k = 3 then mapC g e.r else (ByteArray.empty, [])).2), .d (dEs (e.ks.map (mapE g)))]]), (.u 100, .u)] (Wk.keep [(100, 110)] rfl rfl ⟨ks rfl (.c .bx), kb 110 rfl (.cons (.cons .dt (.cons .dt (.cons (.dt (by first | rfl | (simp [*]; done) | (simp [*]; rfl))) (.cons (.dt (by first | rfl | (simp [*]; done) | (simp [*]; rfl))) (.cons (.dt (by first | rfl | (simp [*]; done) | (simp [*]; rfl))) (.cons (.dt (by first | rfl | (simp [*]; done) | (simp [*]; rfl))) (.cons (.fz rfl (by first | rfl | exact dR_ex _ _ | (rw [List.take_length]; done)) (by first | rfl | (simp; done) | (simp; omega)) (by omega)) Ctos.nil))))))) .nil), trivial⟩) rfl ?_ nobox
          rw [rX_map]; rfl

theorem exprMap_fn {f : FuncId} {cap : List (List D)} (hc : callable Try.prog f = true) (g : Aff → Aff) : ∀ e : Ex, szE e ≤ 1073741824 → (∀ x ∈ affsE e, Fn Try.prog f [] (ad (rA x) :: cap.map fun c => .c (.ptr c)) (.o (ad (rA (g x)))) []) → Fn Try.prog 121 [] [ad (rX e), .c (.fn f cap)] (.o (ad (rX (mapE g e)))) [] := by
  intro e
  induction e using Ex.rec' with
  | h e ih =>
    intro hs hg
    rw [szE_eq, szC] at hs
    have := szAs_len e.r.2
    exact exprMap_one hc g e (by omega) (by omega) hg fun x hx => ih x hx (by have := szEs_mem hx; omega) fun a ha => hg a (affsE_k hx ha)

set_option maxRecDepth 100000 in
set_option maxHeartbeats 1600000 in
theorem stmtMap_fn {f : FuncId} {cap : List (List D)} (hc : callable Try.prog f = true) (g : Aff → Aff) (s : Stm) (hs : szS s ≤ 1073741824) (hg : ∀ x ∈ affsS s, Fn Try.prog f [] (ad (rA x) :: cap.map fun c => .c (.ptr c)) (.o (ad (rA (g x)))) []) : Fn Try.prog 60 [] [ad (rS s), .c (.fn f cap)] (.o (ad (rS (mapS g s)))) [] := by
  have h1 : s.1.2.length ≤ 1073741824 := by rw [szS, szC] at hs; have := szAs_len s.1.2; omega
  have h2 : szE s.2 ≤ 1073741824 := by rw [szS] at hs; omega
  refine Fn.code0 Try.func60 rfl rfl rfl rfl ?_
  refine ACode.seq ?_
  refine ACode.region ?_
  refine .cons (St1.boxP rfl rfl rfl rfl rfl rfl) ?_
  refine .cons (.al 104 [.string ByteArray.empty, .slice none 0 0, .int .i64 0, .int .i64 0, .slice none 0 0, .int .i64 0, .string ByteArray.empty, .slice none 0 0, .slice none 0 0] rfl rfl rfl) ?_
  refine .nil ?_
  refine ks_n ?_
  refine ACode.seq ?_
  refine ACode.drawK (by kernel_rfl) (by kernel_rfl) ?_
  refine .cons (.fP 0 1 true rfl rfl) ?_
  refine .cons (.lN 2 rfl rfl rfl) ?_
  refine .cons (.mv rfl rfl) ?_
  refine .cons (.cP [.tmp 6, .tmp 7] rfl rfl rfl rfl (accMap_fn hc g s.1 h1 (fun x hx => hg x (by rw [affsS]; exact List.mem_append_left _ hx))) rfl) ?_
  refine .cons (.fP 2 6 true rfl rfl) ?_
  refine .cons (.lN 7 rfl rfl rfl) ?_
  refine .cons (.mv rfl rfl) ?_
  refine .cons (.cP [.tmp 10, .tmp 11] rfl rfl rfl rfl (exprMap_fn hc g s.2 h2 (fun x hx => hg x (by rw [affsS]; exact List.mem_append_right _ hx))) rfl) ?_
  refine .cons (.bu [(0, .tmp 8), (1, .tmp 12)] [(0, 2), (2, 7)] [.string ByteArray.empty, .slice none 0 0, .int .i64 0, .int .i64 0, .slice none 0 0, .int .i64 0, .string ByteArray.empty, .slice none 0 0, .slice none 0 0] rfl rfl rfl rfl rfl) ?_
  refine .cons (.sT 9 true rfl rfl rfl rfl rfl rfl rfl) ?_
  refine .nil ⟨by kernel_rfl, ?_⟩
  refine ks_n ?_
  refine ACode.ret ?_
  refine kf_ret rfl ?_ nobox
  rfl

theorem szE_aff : ∀ {e : Ex} {m : Nat}, szE e ≤ m → ∀ x ∈ affsE e, x.1.length ≤ m := by
  intro e
  induction e using Ex.rec' with
  | h e ih =>
    intro m hs x hx
    rw [szE_eq, szC] at hs
    rw [affsE_eq, List.mem_append, List.mem_append] at hx
    rcases hx with hx | hx | hx
    · split at hx
      · rw [List.mem_singleton.1 hx]; omega
      · cases hx
    · split at hx
      · have := szAs_mem hx; omega
      · cases hx
    · have key : ∀ l : List Ex, x ∈ affsEs l → ∃ y ∈ l, x ∈ affsE y := by
        intro l
        induction l with
        | nil => intro h; cases h
        | cons y l ih =>
          intro h
          rw [affsEs, List.mem_append] at h
          rcases h with h | h
          · exact ⟨y, by simp, h⟩
          · obtain ⟨z, h1, h2⟩ := ih h; exact ⟨z, by simp [h1], h2⟩
      obtain ⟨y, hy, hxy⟩ := key _ hx
      exact ih y hy (by have := szEs_mem hy; omega) x hxy
theorem szS_aff {s : Stm} {m : Nat} (hs : szS s ≤ m) : ∀ x ∈ affsS s, x.1.length ≤ m := by
  intro x hx
  rw [szS, szC] at hs
  rw [affsS, List.mem_append] at hx
  rcases hx with hx | hx
  · have := szAs_mem hx; omega
  · exact szE_aff (by omega) x hx
set_option maxRecDepth 100000 in
set_option maxHeartbeats 1600000 in
theorem ownStmt_fn (s : Stm) (hs : szS s ≤ 1073741824) : Fn Try.prog 67 [] [ad (rS s)] (.o (ad (rS (mapS id s)))) [] := by
  refine Fn.code0 Try.func67 rfl rfl rfl rfl ?_
  refine ACode.seq ?_
  refine ACode.region ?_
  refine .cons (St1.boxP rfl rfl rfl rfl rfl rfl) ?_
  refine .cons (.al 102 [.string ByteArray.empty, .slice none 0 0, .int .i64 0, .int .i64 0, .slice none 0 0, .int .i64 0, .string ByteArray.empty, .slice none 0 0, .slice none 0 0] rfl rfl rfl) ?_
  refine .nil ?_
  refine ks_n ?_
  refine ACode.seq ?_
  refine ACode.region ?_
  refine .cons (.lN 9 rfl rfl rfl) ?_
  refine .cons (.cP [.tmp 3, .func 122] rfl rfl rfl rfl (stmtMap_fn (f := 122) (cap := []) (by kernel_rfl) id s hs (fun x hx => ownAff_fn (szS_aff hs x hx))) rfl) ?_
  refine .cons (.sT 9 true rfl rfl rfl rfl rfl rfl rfl) ?_
  refine .nil ?_
  refine ks_n ?_
  refine ACode.ret ?_
  refine kf_ret rfl ?_ nobox
  rfl

set_option maxRecDepth 100000 in
set_option maxHeartbeats 1600000 in
theorem l3CopyAff_fn {x : Aff} (hx : x.1.length ≤ 1073741824) : Fn Try.prog 147 [] [ad (rA x)] (.o (ad (rA x))) [] := by
  refine Fn.code0 Try.func147 rfl rfl rfl rfl ?_
  refine ACode.seq ?_
  refine ACode.region ?_
  refine .cons (St1.boxP rfl rfl rfl rfl rfl rfl) ?_
  refine .cons (.al 102 [.slice none 0 0, .int .i64 0] rfl rfl rfl) ?_
  refine .nil ?_
  refine ks_n ?_
  refine ACode.seq ?_
  refine ACode.seq ?_
  refine ACode.region ?_
  refine .cons (.fP 0 0 false rfl rfl) ?_
  refine .cons (.l1 1 rfl rfl) ?_
  refine .cons (.ln 3 1 8 rfl rfl rfl) ?_
  refine .cons (.eq rfl rfl rfl) ?_
  refine .nil ?_
  refine ks_n ?_
  refine .cD rfl (fun h6 => ?_) (fun h6 => ?_)
  · skip
    have hn : x.1 = [] := List.eq_nil_of_length_eq_zero (by omega)
    refine ACode.seq ?_
    refine ACode.region ?_
    refine .cons (.fP 1 0 false rfl rfl) ?_
    refine .cons (.l1 1 rfl rfl) ?_
    refine .cons (.bu [(1, .tmp 8)] [(0, 1), (1, 1)] [.slice none 0 0, .int .i64 0] rfl rfl rfl rfl rfl) ?_
    refine .cons (.sT 2 true rfl rfl rfl rfl rfl rfl rfl) ?_
    refine .nil ?_
    refine ks_n ?_
    refine ACode.ret ?_
    refine ks_r ?_
    refine kf_wret [(.t 2, .v (.o (.c (.box 100 2 0 0)))), (.b 100, .b 28 2 [[.d (dIs x.1), .d (dI x.2)]]), (.u 100, .u)] (Wk.keep [(100, 102)] rfl rfl ⟨ks rfl (.c .bx), kb 102 rfl (.cons (.cons (Cto.nilE 1 (by rw [hn]; rfl)) (.cons .dt Ctos.nil)) .nil), trivial⟩) rfl ?_ nobox
    rfl
  · skip
    refine ACode.skip ?_
    refine ks_n ?_
    refine ACode.seq ?_
    refine ACode.drawK (by kernel_rfl) (by kernel_rfl) ?_
    refine .cons (St1.lit0 (k' := 110) (e := 3) (sz := 1) (b := true) rfl rfl rfl rfl (by kernel_rfl) rfl rfl) ?_
    refine .cons (.fP 0 0 false rfl rfl) ?_
    refine .cons (.l1 1 rfl rfl) ?_
    refine .cons (St1.appD (rows := []) (e := 3) (sz := 0) (by' := 8) rfl rfl rfl rfl rfl (by kernel_rfl) rfl rfl rfl rfl rfl (by simp; omega) rfl) ?_
    refine .cons (.fP 1 0 false rfl rfl) ?_
    refine .cons (.l1 1 rfl rfl) ?_
    refine .cons (.bu [(0, .tmp 13), (1, .tmp 15)] [(0, 1), (1, 1)] [.slice none 0 0, .int .i64 0] rfl rfl rfl rfl rfl) ?_
    refine .cons (.sT 2 true rfl rfl rfl rfl rfl rfl rfl) ?_
    refine .nil ⟨by kernel_rfl, ?_⟩
    refine ks_n ?_
    refine ACode.ret ?_
    refine kf_wret [(.t 2, .v (.o (.c (.box 100 2 0 0)))), (.b 100, .b 28 2 [[.d (dIs x.1), .d (dI x.2)]]), (.u 100, .u)] (Wk.keep [(100, 102)] rfl rfl ⟨ks rfl (.c .bx), kb 102 rfl (.cons (.cons (.dt) (.cons .dt Ctos.nil)) .nil), trivial⟩) rfl ?_ nobox
    rfl

set_option maxRecDepth 100000 in
set_option maxHeartbeats 1600000 in
theorem l3CopyAcc_fn (a : Acc) (ha : a.2.length ≤ 1073741824) (hq : ∀ x ∈ a.2, x.1.length ≤ 1073741824) : Fn Try.prog 104 [] [ad (rC a)] (.o (ad (rC a))) [] := by
  refine Fn.code0 Try.func104 rfl rfl rfl rfl ?_
  refine ACode.seq ?_
  refine ACode.region ?_
  refine .cons (St1.boxP rfl rfl rfl rfl rfl rfl) ?_
  refine .cons (.al 102 [.string ByteArray.empty, .slice none 0 0] rfl rfl rfl) ?_
  refine .nil ?_
  refine ks_n ?_
  refine ACode.seq ?_
  refine ACode.region ?_
  refine .cons (.fP 0 0 false rfl rfl) ?_
  refine .cons (.l1 1 rfl rfl) ?_
  refine .cons (.bu [(0, .tmp 6)] [(0, 1), (1, 1)] [.string ByteArray.empty, .slice none 0 0] rfl rfl rfl rfl rfl) ?_
  refine .cons (.al 103 [.string ByteArray.empty, .slice none 0 0] rfl rfl rfl) ?_
  refine .cons (.sT 2 true rfl rfl rfl rfl rfl rfl rfl) ?_
  refine .nil ?_
  refine ks_n ?_
  refine ACode.seq ?_
  refine ACode.seq ?_
  refine ACode.region ?_
  refine .cons (.asg rfl rfl) ?_
  refine .nil ?_
  refine ks_n ?_
  refine ACode.block ?_
  refine .loopK (fun m σ => (∃ i : Nat, m = a.2.length - i ∧ (i = 0) ∧ σ = [(.t 1, .v (.o (.c (.ptr (rC a))))), (.t 2, .v (.o (.c (.box 110 2 0 0)))), (.t 3, .v (.o (.c (.box 111 2 0 0)))), (.t 4, .v (.o (nat1 (i : Nat)))), (.b 110, .b 25 2 [[.d (dS ByteArray.empty), .d (.val (.slice none 0 0))]]), (.u 110, .u), (.b 111, .b 25 2 [[.d (dS a.1), .d (.val (.slice none 0 0))]]), (.u 111, .u)]) ∨ (∃ i : Nat, m = a.2.length - i ∧ (1 ≤ i) ∧ (i ≤ a.2.length) ∧ σ = [(.t 1, .v (.o (.c (.ptr (rC a))))), (.t 2, .v (.o (.c (.box 110 2 0 0)))), (.t 3, .v (.o (.c (.box 111 2 0 0)))), (.t 4, .v (.o (nat1 (i : Nat)))), (.b 110, .b 25 2 [[.d (dS ByteArray.empty), .d (.val (.slice none 0 0))]]), (.u 110, .u), (.b 112, .b 28 2 (dR ((a.2.take i).map rA))), (.u 112, .u), (.b 111, .b 25 2 [[.d (dS a.1), .own 112 2 (i)]]), (.u 111, .u)])) [(110, 102), (111, 103)] (.inl ⟨0, rfl, rfl, rfl⟩) ⟨ks rfl .dt, ks rfl (.c .bx), ks rfl (.c .bx), ks rfl .dt, kb 102 rfl (.cons (.cons .dt (.cons .dt Ctos.nil)) .nil), kb 103 rfl (.cons (.cons .dt (.cons .dt Ctos.nil)) .nil), trivial⟩ ?_
  rintro m σ (⟨i, hm0, rfl, rfl⟩ | ⟨i, hm0, hi1, hi2, rfl⟩)
  · skip
    refine ACode.seq ?_
    refine ACode.seq ?_
    refine ACode.region ?_
    refine .cons (.mv rfl rfl) ?_
    refine .cons (.fP 1 0 false rfl rfl) ?_
    refine .cons (.l1 1 rfl rfl) ?_
    refine .cons (.ln 28 2 32 rfl rfl rfl) ?_
    refine .cons (.ls rfl rfl rfl) ?_
    refine .nil ?_
    refine ks_n ?_
    refine .cD rfl (fun h12 => ?_) (fun h12 => ?_)
    · skip
      obtain ⟨x, hx1⟩ : ∃ x, a.2[0]? = some x := ⟨_, List.getElem?_eq_getElem (by omega)⟩
      refine ACode.skip ?_
      refine ks_n ?_
      refine ACode.seq ?_
      refine ACode.block ?_
      refine ACode.drawK (by kernel_rfl) (by kernel_rfl) ?_
      refine .cons (.fB 1 0 false rfl rfl rfl) ?_
      refine .cons (.b1 1 rfl rfl rfl rfl rfl rfl) ?_
      refine .cons (.fP 1 0 false rfl rfl) ?_
      refine .cons (.l1 1 rfl rfl) ?_
      refine .cons (.mv rfl rfl) ?_
      refine .cons (.xL 28 2 32 rfl rfl rfl rfl rfl) ?_
      refine .cons (.lN 2 rfl rfl rfl) ?_
      refine .cons (.cP [.tmp 21] rfl rfl rfl rfl (l3CopyAff_fn (hq x (List.mem_of_getElem? hx1))) rfl) ?_
      refine .cons (.li 28 1 0 [.tmp 22] rfl rfl rfl rfl rfl rfl) ?_
      refine .cons (St1.appN (k' := 124) (e := 28) (sz := 1) (by' := 32) rfl rfl rfl rfl rfl (by kernel_rfl) rfl rfl rfl (by simp) (by first | (simp [dR]; done) | (simp [dR]; omega)) rfl rfl) ?_
      refine .cons (.fB 1 0 false rfl rfl rfl) ?_
      refine .cons (.sT 1 false rfl rfl rfl rfl rfl rfl rfl) ?_
      refine .nil ⟨by kernel_rfl, ?_⟩
      refine kb_n ?_
      refine ks_n ?_
      refine ACode.region ?_
      refine .cons (.mv rfl rfl) ?_
      refine .cons (.pl rfl rfl rfl) ?_
      refine .cons (.asg rfl rfl) ?_
      refine .nil ?_
      refine kl_k [(110, 110), (111, 111), (112, 124)] (.inr ⟨1, rfl, by omega, by omega, rfl⟩) ⟨ks rfl .dt, ks rfl (.c .bx), ks rfl (.c .bx), ks rfl .dt, kb 110 rfl (.cons (.cons .dt (.cons .dt Ctos.nil)) .nil), kb 124 rfl (.dt rfl (by first | exact dR_take (rA) hx1 | exact dR_take1 (rA) hx1 | rfl | (simp [dR]; done))), kb 111 rfl (.cons (.cons .dt (.cons .ow Ctos.nil)) .nil), trivial⟩
    · skip
      have hn : a.2 = [] := List.eq_nil_of_length_eq_zero (by omega)
      refine ACode.exit ?_
      refine ks_e ?_
      refine kl_e ?_
      refine kb_hit ?_
      refine ks_n ?_
      refine ACode.seq ?_
      refine ACode.region ?_
      refine .cons (.bN 2 rfl rfl rfl rfl rfl rfl) ?_
      refine .cons (.sT 2 true rfl rfl rfl rfl rfl rfl rfl) ?_
      refine .nil ?_
      refine ks_n ?_
      refine ACode.ret ?_
      refine kf_wret [(.t 2, .v (.o (.c (.box 100 2 0 0)))), (.b 100, .b 25 2 [[.d (dS a.1), .d (dAs a.2)]]), (.u 100, .u)] (Wk.keep [(100, 110)] rfl rfl ⟨ks rfl (.c .bx), kb 110 rfl (.cons (.cons .dt (.cons (Cto.nilE 2 (by rw [hn]; rfl)) Ctos.nil)) .nil), trivial⟩) rfl ?_ nobox
      rfl
  · skip
    refine ACode.seq ?_
    refine ACode.seq ?_
    refine ACode.region ?_
    refine .cons (.mv rfl rfl) ?_
    refine .cons (.fP 1 0 false rfl rfl) ?_
    refine .cons (.l1 1 rfl rfl) ?_
    refine .cons (.ln 28 2 32 rfl rfl rfl) ?_
    refine .cons (.ls rfl rfl rfl) ?_
    refine .nil ?_
    refine ks_n ?_
    refine .cD rfl (fun h12 => ?_) (fun h12 => ?_)
    · skip
      obtain ⟨x, hx1⟩ : ∃ x, a.2[i]? = some x := ⟨_, List.getElem?_eq_getElem (by omega)⟩
      refine ACode.skip ?_
      refine ks_n ?_
      refine ACode.seq ?_
      refine ACode.block ?_
      refine ACode.drawK (by kernel_rfl) (by kernel_rfl) ?_
      refine .cons (.fB 1 0 false rfl rfl rfl) ?_
      refine .cons (.b1 1 rfl rfl rfl rfl rfl rfl) ?_
      refine .cons (.fP 1 0 false rfl rfl) ?_
      refine .cons (.l1 1 rfl rfl) ?_
      refine .cons (.mv rfl rfl) ?_
      refine .cons (.xL 28 2 32 rfl rfl rfl rfl rfl) ?_
      refine .cons (.lN 2 rfl rfl rfl) ?_
      refine .cons (.cP [.tmp 21] rfl rfl rfl rfl (l3CopyAff_fn (hq x (List.mem_of_getElem? hx1))) rfl) ?_
      refine .cons (.li 28 1 0 [.tmp 22] rfl rfl rfl rfl rfl rfl) ?_
      refine .cons (St1.appB (k' := 124) (e := 28) (sz := 1) (by' := 32) rfl rfl rfl rfl rfl (by kernel_rfl) rfl rfl rfl rfl (by first | (simp [dR]; done) | (simp [dR]; omega)) (by first | (simp [dR]; done) | (simp [dR]; omega)) rfl rfl rfl) ?_
      refine .cons (.fB 1 0 false rfl rfl rfl) ?_
      refine .cons (.sT 1 false rfl rfl rfl rfl rfl rfl rfl) ?_
      refine .nil ⟨by kernel_rfl, ?_⟩
      refine kb_n ?_
      refine ks_n ?_
      refine ACode.region ?_
      refine .cons (.mv rfl rfl) ?_
      refine .cons (.pl rfl rfl rfl) ?_
      refine .cons (.asg rfl rfl) ?_
      refine .nil ?_
      refine kl_k [(110, 110), (111, 111), (112, 124)] (.inr ⟨i + 1, rfl, by omega, by omega, rfl⟩) ⟨ks rfl .dt, ks rfl (.c .bx), ks rfl (.c .bx), ks rfl .dt, kb 110 rfl (.cons (.cons .dt (.cons .dt Ctos.nil)) .nil), kb 124 rfl (.dt rfl (by first | exact dR_take (rA) hx1 | exact dR_take1 (rA) hx1 | rfl | (simp [dR]; done))), kb 111 rfl (.cons (.cons .dt (.cons .ow Ctos.nil)) .nil), trivial⟩
    · skip
      obtain rfl : i = a.2.length := by omega
      refine ACode.exit ?_
      refine ks_e ?_
      refine kl_e ?_
      refine kb_hit ?_
      refine ks_n ?_
      refine ACode.seq ?_
      refine ACode.region ?_
      refine .cons (.bN 2 rfl rfl rfl rfl rfl rfl) ?_
      refine .cons (.sT 2 true rfl rfl rfl rfl rfl rfl rfl) ?_
      refine .nil ?_
      refine ks_n ?_
      refine ACode.ret ?_
      refine kf_wret [(.t 2, .v (.o (.c (.box 100 2 0 0)))), (.b 100, .b 25 2 [[.d (dS a.1), .d (dAs a.2)]]), (.u 100, .u)] (Wk.keep [(100, 110)] rfl rfl ⟨ks rfl (.c .bx), kb 110 rfl (.cons (.cons .dt (.cons (.fz rfl (by first | rfl | exact dR_af _ _ | (rw [List.take_length]; done)) (by first | rfl | (simp; done) | (simp; omega)) (by omega)) Ctos.nil)) .nil), trivial⟩) rfl ?_ nobox
      rfl

set_option maxRecDepth 100000 in
set_option maxHeartbeats 1600000 in
theorem l3CopyEx_one (e : Ex) (hi : e.i.1.length ≤ 1073741824) (hr : e.r.2.length ≤ 1073741824) (hq : ∀ x ∈ e.r.2, x.1.length ≤ 1073741824) (hk : e.ks.length ≤ 1073741824) (ih : ∀ x ∈ e.ks, Fn Try.prog 142 [] [ad (rX x)] (.o (ad (rX x))) []) : Fn Try.prog 142 [] [ad (rX e)] (.o (ad (rX e))) [] := by
  refine Fn.code0 Try.func142 rfl rfl rfl rfl ?_
  refine ACode.seq ?_
  refine ACode.region ?_
  refine .cons (St1.boxP rfl rfl rfl rfl rfl rfl) ?_
  refine .cons (.al 102 [.int .i64 0, .int .i64 0, .slice none 0 0, .int .i64 0, .string ByteArray.empty, .slice none 0 0, .slice none 0 0] rfl rfl rfl) ?_
  refine .nil ?_
  refine ks_n ?_
  refine ACode.seq ?_
  refine ACode.drawK (by kernel_rfl) (by kernel_rfl) ?_
  refine .cons (.fP 0 0 false rfl rfl) ?_
  refine .cons (.l1 1 rfl rfl) ?_
  refine .cons (.fP 1 0 false rfl rfl) ?_
  refine .cons (.l1 1 rfl rfl) ?_
  refine .cons (.fP 2 1 true rfl rfl) ?_
  refine .cons (.lN 2 rfl rfl rfl) ?_
  refine .cons (.cP [.tmp 10] rfl rfl rfl rfl (l3CopyAff_fn hi) rfl) ?_
  refine .cons (.fP 4 1 true rfl rfl) ?_
  refine .cons (.lN 2 rfl rfl rfl) ?_
  refine .cons (.cP [.tmp 13] rfl rfl rfl rfl (l3CopyAcc_fn e.r hr hq) rfl) ?_
  refine .cons (.bu [(0, .tmp 6), (1, .tmp 8), (2, .tmp 11), (3, .tmp 14)] [(0, 1), (1, 1), (2, 2), (4, 2), (6, 1)] [.int .i64 0, .int .i64 0, .slice none 0 0, .int .i64 0, .string ByteArray.empty, .slice none 0 0, .slice none 0 0] rfl rfl rfl rfl rfl) ?_
  refine .cons (.al 103 [.int .i64 0, .int .i64 0, .slice none 0 0, .int .i64 0, .string ByteArray.empty, .slice none 0 0, .slice none 0 0] rfl rfl rfl) ?_
  refine .cons (.sT 7 true rfl rfl rfl rfl rfl rfl rfl) ?_
  refine .nil ⟨by kernel_rfl, ?_⟩
  refine ks_n ?_
  refine ACode.seq ?_
  refine ACode.seq ?_
  refine ACode.region ?_
  refine .cons (.asg rfl rfl) ?_
  refine .nil ?_
  refine ks_n ?_
  refine ACode.block ?_
  refine .loopK (fun m σ => (∃ i : Nat, m = e.ks.length - i ∧ (i = 0) ∧ σ = [(.t 1, .v (.o (.c (.ptr (rX e))))), (.t 2, .v (.o (.c (.box 110 7 0 0)))), (.t 3, .v (.o (.c (.box 111 7 0 0)))), (.t 4, .v (.o (nat1 (i : Nat)))), (.b 110, .b 31 7 [[.d (dI 0), .d (dI 0), .d (.val (.slice none 0 0)), .d (dI 0), .d (dS ByteArray.empty), .d (.val (.slice none 0 0)), .d (.val (.slice none 0 0))]]), (.u 110, .u), (.b 111, .b 31 7 [[.d (dI e.k), .d (dI e.n), .d (dIs e.i.1), .d (dI e.i.2), .d (dS e.r.1), .d (dAs e.r.2), .d (.val (.slice none 0 0))]]), (.u 111, .u)]) ∨ (∃ i : Nat, m = e.ks.length - i ∧ (1 ≤ i) ∧ (i ≤ e.ks.length) ∧ σ = [(.t 1, .v (.o (.c (.ptr (rX e))))), (.t 2, .v (.o (.c (.box 110 7 0 0)))), (.t 3, .v (.o (.c (.box 111 7 0 0)))), (.t 4, .v (.o (nat1 (i : Nat)))), (.b 110, .b 31 7 [[.d (dI 0), .d (dI 0), .d (.val (.slice none 0 0)), .d (dI 0), .d (dS ByteArray.empty), .d (.val (.slice none 0 0)), .d (.val (.slice none 0 0))]]), (.u 110, .u), (.b 112, .b 31 7 (dR ((e.ks.take i).map fun x => rX x))), (.u 112, .u), (.b 111, .b 31 7 [[.d (dI e.k), .d (dI e.n), .d (dIs e.i.1), .d (dI e.i.2), .d (dS e.r.1), .d (dAs e.r.2), .own 112 7 (i)]]), (.u 111, .u)])) [(110, 102), (111, 103)] (.inl ⟨0, rfl, rfl, rfl⟩) ⟨ks rfl .dt, ks rfl (.c .bx), ks rfl (.c .bx), ks rfl .dt, kb 102 rfl (.cons (.cons .dt (.cons .dt (.cons .dt (.cons .dt (.cons .dt (.cons .dt (.cons .dt Ctos.nil))))))) .nil), kb 103 rfl (.cons (.cons .dt (.cons .dt (.cons .dt (.cons .dt (.cons .dt (.cons .dt (.cons .dt Ctos.nil))))))) .nil), trivial⟩ ?_
  rintro m σ (⟨i, hm0, rfl, rfl⟩ | ⟨i, hm0, hi1, hi2, rfl⟩)
  · skip
    refine ACode.seq ?_
    refine ACode.seq ?_
    refine ACode.region ?_
    refine .cons (.mv rfl rfl) ?_
    refine .cons (.fP 6 0 false rfl rfl) ?_
    refine .cons (.l1 1 rfl rfl) ?_
    refine .cons (.ln 31 7 112 rfl rfl rfl) ?_
    refine .cons (.ls rfl rfl rfl) ?_
    refine .nil ?_
    refine ks_n ?_
    refine .cD rfl (fun h20 => ?_) (fun h20 => ?_)
    · skip
      obtain ⟨x, hx1⟩ : ∃ x, e.ks[0]? = some x := ⟨_, List.getElem?_eq_getElem (by omega)⟩
      refine ACode.skip ?_
      refine ks_n ?_
      refine ACode.seq ?_
      refine ACode.block ?_
      refine ACode.drawK (by kernel_rfl) (by kernel_rfl) ?_
      refine .cons (.fB 6 0 false rfl rfl rfl) ?_
      refine .cons (.b1 1 rfl rfl rfl rfl rfl rfl) ?_
      refine .cons (.fP 6 0 false rfl rfl) ?_
      refine .cons (.l1 1 rfl rfl) ?_
      refine .cons (.mv rfl rfl) ?_
      refine .cons (.xL 31 7 112 rfl rfl rfl rfl rfl (rE_at hx1)) ?_
      refine .cons (.lN 7 rfl rfl rfl) ?_
      refine .cons (.cP [.tmp 29] rfl rfl rfl rfl (ih x (List.mem_of_getElem? hx1)) rfl) ?_
      refine .cons (.li 31 6 0 [.tmp 30] rfl rfl rfl rfl rfl rfl) ?_
      refine .cons (St1.appN (k' := 132) (e := 31) (sz := 6) (by' := 112) rfl rfl rfl rfl rfl (by kernel_rfl) rfl rfl rfl (by simp) (by first | (simp [dR]; done) | (simp [dR]; omega)) rfl rfl) ?_
      refine .cons (.fB 6 0 false rfl rfl rfl) ?_
      refine .cons (.sT 1 false rfl rfl rfl rfl rfl rfl rfl) ?_
      refine .nil ⟨by kernel_rfl, ?_⟩
      refine kb_n ?_
      refine ks_n ?_
      refine ACode.region ?_
      refine .cons (.mv rfl rfl) ?_
      refine .cons (.pl rfl rfl rfl) ?_
      refine .cons (.asg rfl rfl) ?_
      refine .nil ?_
      refine kl_k [(110, 110), (111, 111), (112, 132)] (.inr ⟨1, rfl, by omega, by omega, rfl⟩) ⟨ks rfl .dt, ks rfl (.c .bx), ks rfl (.c .bx), ks rfl .dt, kb 110 rfl (.cons (.cons .dt (.cons .dt (.cons .dt (.cons .dt (.cons .dt (.cons .dt (.cons .dt Ctos.nil))))))) .nil), kb 132 rfl (.dt rfl (by first | exact dR_take (fun x => rX x) hx1 | exact dR_take1 (fun x => rX x) hx1 | rfl | (simp [dR]; done))), kb 111 rfl (.cons (.cons .dt (.cons .dt (.cons .dt (.cons .dt (.cons .dt (.cons .dt (.cons .ow Ctos.nil))))))) .nil), trivial⟩
    · skip
      have hn : e.ks = [] := List.eq_nil_of_length_eq_zero (by omega)
      refine ACode.exit ?_
      refine ks_e ?_
      refine kl_e ?_
      refine kb_hit ?_
      refine ks_n ?_
      refine ACode.seq ?_
      refine ACode.region ?_
      refine .cons (.bN 7 rfl rfl rfl rfl rfl rfl) ?_
      refine .cons (.sT 7 true rfl rfl rfl rfl rfl rfl rfl) ?_
      refine .nil ?_
      refine ks_n ?_
      refine ACode.ret ?_
      refine kf_wret [(.t 2, .v (.o (.c (.box 100 7 0 0)))), (.b 100, .b 31 7 [[.d (dI e.k), .d (dI e.n), .d (dIs e.i.1), .d (dI e.i.2), .d (dS e.r.1), .d (dAs e.r.2), .d (dEs e.ks)]]), (.u 100, .u)] (Wk.keep [(100, 110)] rfl rfl ⟨ks rfl (.c .bx), kb 110 rfl (.cons (.cons .dt (.cons .dt (.cons .dt (.cons .dt (.cons .dt (.cons .dt (.cons (Cto.nilE 7 (by rw [hn]; rfl)) Ctos.nil))))))) .nil), trivial⟩) rfl ?_ nobox
      rfl
  · skip
    refine ACode.seq ?_
    refine ACode.seq ?_
    refine ACode.region ?_
    refine .cons (.mv rfl rfl) ?_
    refine .cons (.fP 6 0 false rfl rfl) ?_
    refine .cons (.l1 1 rfl rfl) ?_
    refine .cons (.ln 31 7 112 rfl rfl rfl) ?_
    refine .cons (.ls rfl rfl rfl) ?_
    refine .nil ?_
    refine ks_n ?_
    refine .cD rfl (fun h20 => ?_) (fun h20 => ?_)
    · skip
      obtain ⟨x, hx1⟩ : ∃ x, e.ks[i]? = some x := ⟨_, List.getElem?_eq_getElem (by omega)⟩
      refine ACode.skip ?_
      refine ks_n ?_
      refine ACode.seq ?_
      refine ACode.block ?_
      refine ACode.drawK (by kernel_rfl) (by kernel_rfl) ?_
      refine .cons (.fB 6 0 false rfl rfl rfl) ?_
      refine .cons (.b1 1 rfl rfl rfl rfl rfl rfl) ?_
      refine .cons (.fP 6 0 false rfl rfl) ?_
      refine .cons (.l1 1 rfl rfl) ?_
      refine .cons (.mv rfl rfl) ?_
      refine .cons (.xL 31 7 112 rfl rfl rfl rfl rfl (rE_at hx1)) ?_
      refine .cons (.lN 7 rfl rfl rfl) ?_
      refine .cons (.cP [.tmp 29] rfl rfl rfl rfl (ih x (List.mem_of_getElem? hx1)) rfl) ?_
      refine .cons (.li 31 6 0 [.tmp 30] rfl rfl rfl rfl rfl rfl) ?_
      refine .cons (St1.appB (k' := 132) (e := 31) (sz := 6) (by' := 112) rfl rfl rfl rfl rfl (by kernel_rfl) rfl rfl rfl rfl (by first | (simp [dR]; done) | (simp [dR]; omega)) (by first | (simp [dR]; done) | (simp [dR]; omega)) rfl rfl rfl) ?_
      refine .cons (.fB 6 0 false rfl rfl rfl) ?_
      refine .cons (.sT 1 false rfl rfl rfl rfl rfl rfl rfl) ?_
      refine .nil ⟨by kernel_rfl, ?_⟩
      refine kb_n ?_
      refine ks_n ?_
      refine ACode.region ?_
      refine .cons (.mv rfl rfl) ?_
      refine .cons (.pl rfl rfl rfl) ?_
      refine .cons (.asg rfl rfl) ?_
      refine .nil ?_
      refine kl_k [(110, 110), (111, 111), (112, 132)] (.inr ⟨i + 1, rfl, by omega, by omega, rfl⟩) ⟨ks rfl .dt, ks rfl (.c .bx), ks rfl (.c .bx), ks rfl .dt, kb 110 rfl (.cons (.cons .dt (.cons .dt (.cons .dt (.cons .dt (.cons .dt (.cons .dt (.cons .dt Ctos.nil))))))) .nil), kb 132 rfl (.dt rfl (by first | exact dR_take (fun x => rX x) hx1 | exact dR_take1 (fun x => rX x) hx1 | rfl | (simp [dR]; done))), kb 111 rfl (.cons (.cons .dt (.cons .dt (.cons .dt (.cons .dt (.cons .dt (.cons .dt (.cons .ow Ctos.nil))))))) .nil), trivial⟩
    · skip
      obtain rfl : i = e.ks.length := by omega
      refine ACode.exit ?_
      refine ks_e ?_
      refine kl_e ?_
      refine kb_hit ?_
      refine ks_n ?_
      refine ACode.seq ?_
      refine ACode.region ?_
      refine .cons (.bN 7 rfl rfl rfl rfl rfl rfl) ?_
      refine .cons (.sT 7 true rfl rfl rfl rfl rfl rfl rfl) ?_
      refine .nil ?_
      refine ks_n ?_
      refine ACode.ret ?_
      refine kf_wret [(.t 2, .v (.o (.c (.box 100 7 0 0)))), (.b 100, .b 31 7 [[.d (dI e.k), .d (dI e.n), .d (dIs e.i.1), .d (dI e.i.2), .d (dS e.r.1), .d (dAs e.r.2), .d (dEs e.ks)]]), (.u 100, .u)] (Wk.keep [(100, 110)] rfl rfl ⟨ks rfl (.c .bx), kb 110 rfl (.cons (.cons .dt (.cons .dt (.cons .dt (.cons .dt (.cons .dt (.cons .dt (.cons (.fz rfl (by first | rfl | exact (dR_ex id _).trans (by rw [List.map_id]) | (rw [List.take_length]; done)) (by first | rfl | (simp; done) | (simp; omega)) (by omega)) Ctos.nil))))))) .nil), trivial⟩) rfl ?_ nobox
      rfl

theorem l3CopyEx_fn : ∀ e : Ex, szE e ≤ 1073741824 → Fn Try.prog 142 [] [ad (rX e)] (.o (ad (rX e))) [] := by
  intro e
  induction e using Ex.rec' with
  | h e ih =>
    intro hs
    rw [szE_eq, szC] at hs
    have := szAs_len e.r.2
    exact l3CopyEx_one e (by omega) (by omega) (fun x hx => by have := szAs_mem hx; omega) (by omega) fun x hx => ih x hx (by have := szEs_mem hx; omega)

set_option maxRecDepth 100000 in
set_option maxHeartbeats 1600000 in
theorem l3Copy_fn (s : Stm) (hs : szS s ≤ 1073741824) : Fn Try.prog 94 [] [ad (rS s)] (.o (ad (rS s))) [] := by
  rw [szS, szC] at hs
  have := szAs_len s.1.2
  refine Fn.code0 Try.func94 rfl rfl rfl rfl ?_
  refine ACode.seq ?_
  refine ACode.region ?_
  refine .cons (St1.boxP rfl rfl rfl rfl rfl rfl) ?_
  refine .cons (.al 102 [.string ByteArray.empty, .slice none 0 0, .int .i64 0, .int .i64 0, .slice none 0 0, .int .i64 0, .string ByteArray.empty, .slice none 0 0, .slice none 0 0] rfl rfl rfl) ?_
  refine .nil ?_
  refine ks_n ?_
  refine ACode.seq ?_
  refine ACode.drawK (by kernel_rfl) (by kernel_rfl) ?_
  refine .cons (.fP 0 1 true rfl rfl) ?_
  refine .cons (.lN 2 rfl rfl rfl) ?_
  refine .cons (.cP [.tmp 4] rfl rfl rfl rfl (l3CopyAcc_fn s.1 (by omega) (fun x hx => by have := szAs_mem hx; omega)) rfl) ?_
  refine .cons (.fP 2 6 true rfl rfl) ?_
  refine .cons (.lN 7 rfl rfl rfl) ?_
  refine .cons (.cP [.tmp 7] rfl rfl rfl rfl (l3CopyEx_fn s.2 (by omega)) rfl) ?_
  refine .cons (.bu [(0, .tmp 5), (1, .tmp 8)] [(0, 2), (2, 7)] [.string ByteArray.empty, .slice none 0 0, .int .i64 0, .int .i64 0, .slice none 0 0, .int .i64 0, .string ByteArray.empty, .slice none 0 0, .slice none 0 0] rfl rfl rfl rfl rfl) ?_
  refine .cons (.sT 9 true rfl rfl rfl rfl rfl rfl rfl) ?_
  refine .nil ⟨by kernel_rfl, ?_⟩
  refine ks_n ?_
  refine ACode.ret ?_
  refine kf_ret rfl ?_ nobox
  rfl

end Go.Proofs.Ytigdfdhjnadieaa

/- append of nothing to nothing; texts compared; condition: what the operands hold. -/
namespace Go.Proofs.Ytigdfdhjnadieaa
set_option linter.unusedVariables false
set_option linter.unusedSimpArgs false
open Go.RowKit

section
variable {P : Program} {n : Nat} {ops : Array Oper} {o : Oper} {σ : St} {d : Nat}
theorem run_appE {t ty e : TypeId} {sz by' : Nat} (ht : tyA P t = some (e, sz + 1, by', sz + 1)) (w : World) (ad : Option Addr) (c : Nat) : (Builtin.append_ #[t, t] ty #[.slice none 0 0, .slice ad 0 c]).run P w = .ok (.slice none 0 0) w := by
  obtain ⟨hu, i, z, hi, hz, hs1, hs2, hs3⟩ := tyA_out ht
  cases ad with
  | none => simp [Builtin.append_, run_underlying hu, sizeOf, typeInfo, hi, Builtin.lenOf, Builtin.firstCells]
  | some a =>
    have := run_firstCells_some (P := P) (w := w) i.size 0 a 0 c [] (by simp) (fun j v h => by simp at h)
    simp [Builtin.append_, run_underlying hu, sizeOf, typeInfo, hi, Builtin.lenOf, this]
theorem St1.appNE {t e : TypeId} {s x : Operand} {ts : Array TypeId} {sz by' : Nat} (ho : o.op = .call { callee := .builtin .append, args := #[s, x], argTypes := ts }) (hg : o.guard = none) (hd : o.dst = some d) (hn : Nat.blt d n = true) (hts : ts = #[t, t])
    (ht : tyA P t = some (e, sz + 1, by', sz + 1)) (hs' : ev σ s = some (.o (.c (.d (.val (.slice none 0 0)))))) (hx : ev σ x = some (.o (.c (.d (.list (sz + 1) []))))) :
    St1 P n ops o σ (rd s ++ rd x) [.t d] ((.t d, .v (.o (.c (.d (.val (.slice none 0 0)))))) :: σ) :=
  St1.value hg hd hn fun E bx τ a w hR hs => by
    subst hts
    obtain ⟨ad, c, e1, q1, q2, q3, q4⟩ := (ev_list hx (rd_r hR) hs).slice
    refine ⟨⟨.slice none 0 0, exec_app ho w w _ ?_, .val _ rfl⟩, fun k hk => by cases hk⟩
    rw [ev_val hs' (rd_l hR) hs, e1]
    exact run_appE ht w ad c
/-- A struct's zero cells, told as data: a nil slice may be told as the empty list. -/
inductive ZR : List Value → List D → Prop
  | nil : ZR [] []
  | val {z : Value} {zs : List Value} {ds : List D} (h : z.oneCell' = true) (hs : ZR zs ds) : ZR (z :: zs) (.val z :: ds)
  | list {zs : List Value} {ds : List D} (sz : Nat) (hs : ZR zs ds) : ZR (.slice none 0 0 :: zs) (.list sz [] :: ds)
theorem dr_empty {B : Nat → Prop} {w : World} (sz : Nat) : Dr B w (.list sz []) (.slice none 0 0) :=
  Dr.list sz [] none 0 0 0 0 (fun _ _ => undef) rfl (Nat.le_refl _) (by omega) (fun _ => rfl) (fun h => by simp at h) (fun i r h => by simp at h) (fun i r j x h => by simp at h) (fun i r j x h => by simp at h)
theorem ZR.cells {bx : Nat → Nat × Nat} {al B : Nat → Prop} {w : World} {zs : List Value} {ds : List D} (h : ZR zs ds) : zs.length = ds.length ∧ ∀ (i : Nat) c u, (ds.map C.d)[i]? = some c → zs[i]? = some u → Cr bx al B w c u := by
  induction h with
  | nil => exact ⟨rfl, fun i c u h => by simp at h⟩
  | val h hs ih =>
    refine ⟨by simp [ih.1], fun i c u hc hu => ?_⟩
    cases i with
    | zero => cases hc; cases hu; exact Dr.val _ h
    | succ i => exact ih.2 i c u hc hu
  | list sz hs ih =>
    refine ⟨by simp [ih.1], fun i c u hc hu => ?_⟩
    cases i with
    | zero => cases hc; cases hu; exact dr_empty sz
    | succ i => exact ih.2 i c u hc hu
theorem St1.buZ (pl : List (Nat × Operand)) (places : List (Nat × Nat)) (zs : List Value) (ds : List D) {t : TypeId} {parts : Array (Nat × Operand)} {ps : List (Nat × V1)} {cs : List C} (h4 : (o.op, o.guard, o.dst, Nat.blt d n) = (Op.build t parts, none, some d, true)) (hpl : parts = pl.toArray) (hz : ZR zs ds) (hp : evP σ pl = some ps) (hf : fillA (places[·]?) (ds.map C.d) ps = some cs) (ht : tyB P t = some (places, zs) := by kernel_rfl) :
    St1 P n ops o σ (rdP pl) [.t d] ((.t d, .v (.o (.agg cs))) :: σ) := by
  simp only [Prod.mk.injEq] at h4
  obtain ⟨ho, hg, hd, hn⟩ := h4
  refine St1.value hg hd hn fun E bx τ a w hR hs => ?_
  subst hpl
  obtain ⟨h1, h2⟩ := evP_ok hp hR hs
  have hzc := hz.cells (bx := bx) (al := Al τ) (B := Bf E bx τ) (w := w)
  obtain ⟨cells', h3, h4, h5⟩ := fillA_ok (bx := bx) (al := Al τ) (B := Bf E bx τ) (w := w) (cells := zs.toArray) hf h1 ⟨by simpa using hzc.1, hzc.2⟩
  refine ⟨⟨.agg cells', ?_, cells'.toList, by simp, h4.1, h4.2⟩, fun k hk => ?_⟩
  · have := run_build (P := P) w t (pl.toArray.map fun p => (p.1, a.eval p.2)) cells' (by rw [tyB_built ht]; simpa using h3)
    simp only [execOp, ho, Sem.run_bind]
    rw [this]; rfl
  · obtain ⟨c, hc, hk⟩ := List.mem_flatMap.1 hk
    rcases h5 c hc with h6 | ⟨p, hp, h6⟩
    · obtain ⟨z, _, rfl⟩ := List.mem_map.1 h6
      cases hk
    · exact h2 p hp k (V1.refs_cells h6 k hk)
end
end Go.Proofs.Ytigdfdhjnadieaa

/- Statements: reads and operators; condition: small lists. -/
namespace Go.Proofs.Ytigdfdhjnadieaa
set_option linter.unusedVariables false
set_option linter.unusedSimpArgs false
open Go.RowKit

theorem rdE_eq (e : Ex) : rdE e = (if e.k = 3 then [e.r] else []) ++ rdEs e.ks := by cases e; rw [rdE]; rfl
theorem rdEs_take {l : List Ex} {i : Nat} {x : Ex} (h : l[i]? = some x) : rdEs (l.take (i + 1)) = rdEs (l.take i) ++ rdE x := by
  have key : ∀ (a : List Ex) (x : Ex), rdEs (a ++ [x]) = rdEs a ++ rdE x := by
    intro a x
    induction a with
    | nil => simp [rdEs]
    | cons y a ih => rw [List.cons_append, rdEs, rdEs, ih, List.append_assoc]
  rw [List.take_add_one, h]
  exact key _ _
mutual
theorem rdE_len : ∀ e : Ex, (rdE e).length ≤ cntE e
  | .mk k n i r ks => by
    rw [rdE, cntE, List.length_append]
    have := rdEs_len ks
    split
    · simp; omega
    · simp; omega
theorem rdEs_len : ∀ l : List Ex, (rdEs l).length ≤ cntEs l
  | [] => by simp [rdEs]
  | e :: l => by
    rw [rdEs, cntEs, List.length_append]
    have := rdE_len e
    have := rdEs_len l
    omega
end
theorem cntEs_le {l : List Ex} {i : Nat} : cntEs (l.take i) ≤ cntEs l := by
  induction l generalizing i with
  | nil => simp [cntEs]
  | cons y l ih =>
    cases i with
    | zero => simp [cntEs]
    | succ i => rw [List.take_succ_cons, cntEs, cntEs]; have := ih (i := i); omega
theorem cnt64 {d L : Nat} {e : Ex} (h : exV d L e = true) (hL : L ≤ 6) : cntE e ≤ 64 := by
  have h1 := cnt_bd h
  have : 2 ^ L ≤ 2 ^ 6 := Nat.pow_le_pow_right (by omega) hL
  omega
theorem kids64 {e : Ex} {i : Nat} (h : cntE e ≤ 64) : (rdEs (e.ks.take i)).length ≤ 64 := by
  have h1 := rdEs_len (e.ks.take i)
  have h2 := cntEs_le (l := e.ks) (i := i)
  rw [cntE_eq] at h
  omega
theorem leaf_nil {d L : Nat} {e : Ex} (h : exV d L e = true) (hk : 1 ≤ e.k ∧ e.k ≤ 3) : e.ks = [] := by
  cases L with
  | zero => cases h
  | succ L =>
    rw [exV, Bool.and_eq_true, Bool.and_eq_true] at h
    have h1 := h.1.1
    rw [kidV, if_pos hk] at h1
    exact List.eq_nil_of_length_eq_zero (of_decide_eq_true h1)
theorem dR_apC (a b : List Acc) : dR (a.map rC) ++ (b.map rC).map (·.map C.d) = dR ((a ++ b).map rC) := by rw [dR_app, List.map_append]

set_option maxRecDepth 100000 in
set_option maxHeartbeats 1600000 in
theorem reads_one (e : Ex) {d L : Nat} (hv : exV d L e = true) (hcn : cntE e ≤ 64) (ih : ∀ x ∈ e.ks, Fn Try.prog 66 [] [ad (rX x)] (.o (vD (dCs (rdE x)))) []) : Fn Try.prog 66 [] [ad (rX e)] (.o (vD (dCs (rdE e)))) [] := by
  have hkl := (exV_kids hv).1
  refine Fn.code0 Try.func66 rfl rfl rfl rfl ?_
  refine ACode.seq ?_
  refine ACode.region ?_
  refine .cons (St1.boxP rfl rfl rfl rfl rfl rfl) ?_
  refine .cons (.asg rfl rfl) ?_
  refine .nil ?_
  refine ks_n ?_
  refine ACode.seq ?_
  refine ACode.seq ?_
  refine ACode.region ?_
  refine .cons (.fP 0 0 false rfl rfl) ?_
  refine .cons (.l1 1 rfl rfl) ?_
  refine .cons (.eq rfl rfl rfl) ?_
  refine .nil ?_
  refine ks_n ?_
  refine .cD rfl (fun h8 => ?_) (fun h8 => ?_)
  · skip
    refine ACode.seq ?_
    refine ACode.region ?_
    refine .cons (.fP 4 1 true rfl rfl) ?_
    refine .cons (.lN 2 rfl rfl rfl) ?_
    refine .cons (.li 25 1 0 [.tmp 10] rfl rfl rfl rfl rfl rfl) ?_
    refine .cons (.asg rfl rfl) ?_
    refine .nil ?_
    refine ks_n ?_
    refine ACode.ret ?_
    refine ks_r ?_
    refine kf_wret [(.t 2, .v (.o (vD (dCs (rdE e)))))] (Wk.keep [] rfl rfl ⟨ks rfl (.dt (by rw [rdE_eq, if_pos h8, leaf_nil hv (by omega)]; rfl)), trivial⟩) rfl ?_ nobox
    rfl
  · skip
    refine ACode.skip ?_
    refine ks_n ?_
    refine ACode.seq ?_
    refine ACode.region ?_
    refine .cons (.asg rfl rfl) ?_
    refine .nil ?_
    refine ks_n ?_
    refine ACode.seq ?_
    refine ACode.seq ?_
    refine ACode.region ?_
    refine .cons (.fP 6 0 false rfl rfl) ?_
    refine .cons (.l1 1 rfl rfl) ?_
    refine .cons (.ln 31 7 112 rfl rfl rfl) ?_
    refine .cons (.mv rfl rfl) ?_
    refine .nil ?_
    refine ks_n ?_
    refine ACode.block ?_
    refine .loopK (fun m σ => (∃ i : Nat, m = e.ks.length - i ∧ (i ≤ e.ks.length) ∧ (rdEs (e.ks.take i) = []) ∧ σ = [(.t 1, .v (.o (.c (.ptr (rX e))))), (.t 2, .v (.o (.c (.d (.val (.slice none 0 0)))))), (.t 3, .v (.o (.c (.d (.val (.slice none 0 0)))))), (.t 13, .v (.o (vD (dEs e.ks)))), (.t 14, .v (.o (nat1 (e.ks.length : Nat)))), (.t 15, .v (.o (nat1 (i : Nat))))]) ∨ (∃ i : Nat, m = e.ks.length - i ∧ (i ≤ e.ks.length) ∧ (0 < (rdEs (e.ks.take i)).length) ∧ σ = [(.t 1, .v (.o (.c (.ptr (rX e))))), (.t 2, .v (.o (.c (.d (.val (.slice none 0 0)))))), (.t 3, .v (.o (.c (.own 110 2 ((rdEs (e.ks.take i)).length))))), (.t 13, .v (.o (vD (dEs e.ks)))), (.t 14, .v (.o (nat1 (e.ks.length : Nat)))), (.t 15, .v (.o (nat1 (i : Nat)))), (.b 110, .b 25 2 (dR ((rdEs (e.ks.take i)).map rC))), (.u 110, .u)])) [] (.inl ⟨0, rfl, by omega, by simp [rdEs], rfl⟩) ⟨ks rfl .dt, ks rfl .dt, ks rfl .dt, ks rfl .dt, ks rfl .dt, ks rfl .dt, trivial⟩ ?_
    rintro m σ (⟨i, hm0, hi, h0, rfl⟩ | ⟨i, hm0, hi, h0, rfl⟩)
    · skip
      refine ACode.seq ?_
      refine ACode.region ?_
      refine .cons (.ls rfl rfl rfl) ?_
      refine .nil ?_
      refine ks_n ?_
      refine ACode.seq ?_
      refine .cD rfl (fun h16 => ?_) (fun h16 => ?_)
      · skip
        obtain ⟨x, hx1⟩ : ∃ x, e.ks[i]? = some x := ⟨_, List.getElem?_eq_getElem (by omega)⟩
        have hmx := List.mem_of_getElem? hx1
        have hT := rdEs_take hx1
        have h64 := kids64 (i := i + 1) hcn
        refine ACode.skip ?_
        refine ks_n ?_
        refine ACode.seq ?_
        refine ACode.block ?_
        refine ACode.seq ?_
        refine ACode.region ?_
        refine .cons (.xL 31 7 112 rfl rfl rfl rfl rfl (rE_at hx1)) ?_
        refine .cons (.lN 7 rfl rfl rfl) ?_
        refine .cons (.al 105 [.int .i64 0, .int .i64 0, .slice none 0 0, .int .i64 0, .string ByteArray.empty, .slice none 0 0, .slice none 0 0] rfl rfl rfl) ?_
        refine .cons (.sT 7 true rfl rfl rfl rfl rfl rfl rfl) ?_
        refine .nil ?_
        refine ks_n ?_
        by_cases hsp : rdE x = []
        · skip
          refine ACode.region ?_
          refine .cons (.mv rfl rfl) ?_
          refine .cons (.bN 7 rfl rfl rfl rfl rfl rfl) ?_
          refine .cons (.cP [.tmp 20] rfl rfl rfl rfl (ih x hmx) rfl) ?_
          refine .cons (St1.appNE (e := 25) (sz := 1) (by' := 40) rfl rfl rfl rfl rfl (by kernel_rfl) rfl (congrArg (fun l => some (V.o (vD (dCs l)))) hsp)) ?_
          refine .cons (.asg rfl rfl) ?_
          refine .nil ?_
          refine kb_n ?_
          refine ks_n ?_
          refine ACode.region ?_
          refine .cons (.pl rfl rfl rfl) ?_
          refine .cons (.mv rfl rfl) ?_
          refine .nil ?_
          refine kl_k [] (.inl ⟨i + 1, rfl, by omega, by rw [hT, h0, hsp]; rfl, rfl⟩) ⟨ks rfl .dt, ks rfl .dt, ks rfl .dt, ks rfl .dt, ks rfl .dt, ks rfl .dt, trivial⟩
        · skip
          refine ACode.region ?_
          refine .cons (.mv rfl rfl) ?_
          refine .cons (.bN 7 rfl rfl rfl rfl rfl rfl) ?_
          refine .cons (.cP [.tmp 20] rfl rfl rfl rfl (ih x hmx) rfl) ?_
          refine .cons (St1.appN (k' := 122) (e := 25) (sz := 1) (by' := 40) rfl rfl rfl rfl rfl (by kernel_rfl) rfl rfl rfl (by rw [List.length_map]; exact List.length_pos_iff.2 hsp) (by rw [hT, List.length_append] at h64; simp [dR]; omega) rfl rfl) ?_
          refine .cons (.asg rfl rfl) ?_
          refine .nil ?_
          refine kb_n ?_
          refine ks_n ?_
          refine ACode.region ?_
          refine .cons (.pl rfl rfl rfl) ?_
          refine .cons (.mv rfl rfl) ?_
          refine .nil ?_
          refine kl_k [(110, 122)] (.inr ⟨i + 1, rfl, by omega, by rw [hT, List.length_append]; have := List.length_pos_iff.2 hsp; omega, rfl⟩) ⟨ks rfl .dt, ks rfl .dt, ks rfl (.c (.ow (by first | (simp [rdEs]; done) | (rw [hT, List.length_append, List.length_map]; done) | (rw [hT, h0, List.length_map]; rfl) | (simp [hT, h0]; done)))), ks rfl .dt, ks rfl .dt, ks rfl .dt, kb 122 rfl (.dt rfl (by first | (rw [hT, ← dR_apC]; done) | (rw [hT, h0]; rfl) | (rw [hT, dR_apC]; done) | (simp [dR, hT, h0]; done))), trivial⟩
      · skip
        have hR : rdEs (e.ks.take i) = rdE e := by rw [List.take_of_length_le (by omega), rdE_eq, if_neg h8]; rfl
        refine ACode.exit ?_
        refine ks_e ?_
        refine kl_e ?_
        refine kb_hit ?_
        refine ks_n ?_
        refine ACode.seq ?_
        refine ACode.region ?_
        refine .cons (.mv rfl rfl) ?_
        refine .cons (.asg rfl rfl) ?_
        refine .nil ?_
        refine ks_n ?_
        refine ACode.ret ?_
        refine kf_wret [(.t 2, .v (.o (vD (dCs (rdE e)))))] (Wk.keep [] rfl rfl ⟨ks rfl (.c (Cto.nilE 2 (by rw [← hR, h0]; rfl))), trivial⟩) rfl ?_ nobox
        rfl
    · skip
      refine ACode.seq ?_
      refine ACode.region ?_
      refine .cons (.ls rfl rfl rfl) ?_
      refine .nil ?_
      refine ks_n ?_
      refine ACode.seq ?_
      refine .cD rfl (fun h16 => ?_) (fun h16 => ?_)
      · skip
        obtain ⟨x, hx1⟩ : ∃ x, e.ks[i]? = some x := ⟨_, List.getElem?_eq_getElem (by omega)⟩
        have hmx := List.mem_of_getElem? hx1
        have hT := rdEs_take hx1
        have h64 := kids64 (i := i + 1) hcn
        refine ACode.skip ?_
        refine ks_n ?_
        refine ACode.seq ?_
        refine ACode.block ?_
        refine ACode.seq ?_
        refine ACode.region ?_
        refine .cons (.xL 31 7 112 rfl rfl rfl rfl rfl (rE_at hx1)) ?_
        refine .cons (.lN 7 rfl rfl rfl) ?_
        refine .cons (.al 105 [.int .i64 0, .int .i64 0, .slice none 0 0, .int .i64 0, .string ByteArray.empty, .slice none 0 0, .slice none 0 0] rfl rfl rfl) ?_
        refine .cons (.sT 7 true rfl rfl rfl rfl rfl rfl rfl) ?_
        refine .nil ?_
        refine ks_n ?_
        refine ACode.region ?_
        refine .cons (.mv rfl rfl) ?_
        refine .cons (.bN 7 rfl rfl rfl rfl rfl rfl) ?_
        refine .cons (.cP [.tmp 20] rfl rfl rfl rfl (ih x hmx) rfl) ?_
        refine .cons (St1.appB (k' := 122) (e := 25) (sz := 1) (by' := 40) rfl rfl rfl rfl rfl (by kernel_rfl) rfl rfl rfl rfl (by simp [dR]) (by rw [hT, List.length_append] at h64; simp [dR]; omega) rfl rfl rfl) ?_
        refine .cons (.asg rfl rfl) ?_
        refine .nil ?_
        refine kb_n ?_
        refine ks_n ?_
        refine ACode.region ?_
        refine .cons (.pl rfl rfl rfl) ?_
        refine .cons (.mv rfl rfl) ?_
        refine .nil ?_
        refine kl_k [(110, 122)] (.inr ⟨i + 1, rfl, by omega, by rw [hT, List.length_append]; omega, rfl⟩) ⟨ks rfl .dt, ks rfl .dt, ks rfl (.c (.ow (by first | (simp [rdEs]; done) | (rw [hT, List.length_append, List.length_map]; done) | (rw [hT, h0, List.length_map]; rfl) | (simp [hT, h0]; done)))), ks rfl .dt, ks rfl .dt, ks rfl .dt, kb 122 rfl (.dt rfl (by first | (rw [hT, ← dR_apC]; done) | (rw [hT, h0]; rfl) | (rw [hT, dR_apC]; done) | (simp [dR, hT, h0]; done))), trivial⟩
      · skip
        have hR : rdEs (e.ks.take i) = rdE e := by rw [List.take_of_length_le (by omega), rdE_eq, if_neg h8]; rfl
        refine ACode.exit ?_
        refine ks_e ?_
        refine kl_e ?_
        refine kb_hit ?_
        refine ks_n ?_
        refine ACode.seq ?_
        refine ACode.region ?_
        refine .cons (.mv rfl rfl) ?_
        refine .cons (.asg rfl rfl) ?_
        refine .nil ?_
        refine ks_n ?_
        refine ACode.ret ?_
        refine kf_wret [(.t 2, .v (.o (vD (dCs (rdE e)))))] (Wk.keep [] rfl rfl ⟨ks rfl (.c (.fz rfl (by rw [hR]) (by rw [hR, List.length_map]) (by have := rdE_len e; first | omega | (rw [hR]; omega)))), trivial⟩) rfl ?_ nobox
        rfl

theorem reads_fn {d : Nat} : ∀ {L : Nat} (e : Ex), L ≤ 6 → exV d L e = true → Fn Try.prog 66 [] [ad (rX e)] (.o (vD (dCs (rdE e)))) []
  | 0, e, hL, h => by cases h
  | L + 1, e, hL, h => reads_one e h (cnt64 h hL) fun x hx => reads_fn (L := L) x (by omega) ((exV_kids h).2 x hx)
/-- A statement that is valid somewhere. -/
theorem stmtV_ex {d : Int} {s : Stm} (h : stmtV d s = true) : exV d.toNat 5 s.2 = true ∧ accV d.toNat s.1 = true ∧ cntE s.2 ≤ 12 ∧ 0 ≤ d ∧ d ≤ 4 := by
  rw [stmtV, Bool.and_eq_true, Bool.and_eq_true, Bool.and_eq_true, decide_eq_true_eq, inB, decide_eq_true_eq] at h
  exact ⟨h.2.1.2, h.2.1.1, h.2.2, h.1⟩
theorem nonA_iff {x : Aff} : nonA x = true ↔ x = ([], 0) := by
  obtain ⟨a, b⟩ := x
  simp [nonA, List.length_eq_zero_iff]
theorem nonC_iff {a : Acc} : nonC a = true ↔ a = (ByteArray.empty, []) := by
  obtain ⟨a, b⟩ := a
  simp [nonC, sEq_iff, List.length_eq_zero_iff]
theorem fld_map {d : Nat} {e : Ex} (h : fldV d e.k e.n e.i e.r = true) : (if e.k = 2 then e.i else ([], 0)) = e.i ∧ (if e.k = 3 then e.r else (ByteArray.empty, [])) = e.r := by
  unfold fldV at h
  split at h
  · simp only [Bool.and_eq_true] at h
    rw [if_neg (by omega), if_neg (by omega), nonA_iff.1 h.1.2, nonC_iff.1 h.2]; exact ⟨rfl, rfl⟩
  · split at h
    · simp only [Bool.and_eq_true] at h
      rw [if_pos (by assumption), if_neg (by omega), nonC_iff.1 h.2]; exact ⟨rfl, rfl⟩
    · split at h
      · simp only [Bool.and_eq_true] at h
        rw [if_neg (by omega), if_pos (by assumption), nonA_iff.1 h.1.2]; exact ⟨rfl, rfl⟩
      · simp only [Bool.and_eq_true] at h
        rw [if_neg (by omega), if_neg (by omega), nonA_iff.1 h.1.2, nonC_iff.1 h.2]; exact ⟨rfl, rfl⟩
theorem mapE_eq (g : Aff → Aff) (e : Ex) : mapE g e = .mk e.k e.n (if e.k = 2 then g e.i else ([], 0)) (if e.k = 3 then mapC g e.r else (ByteArray.empty, [])) (e.ks.map (mapE g)) := by
  cases e with
  | mk k n i r ks => rw [mapE, mapEs_map]; rfl
theorem mapC_id (a : Acc) : mapC id a = a := by rw [mapC, List.map_id]
theorem mapE_id {d : Nat} : ∀ {L : Nat} {e : Ex}, exV d L e = true → mapE id e = e
  | 0, e, h => by cases h
  | L + 1, e, h => by
    have h1 := (exV_kids h).2
    rw [exV, Bool.and_eq_true, Bool.and_eq_true] at h
    obtain ⟨f1, f2⟩ := fld_map h.1.2
    rw [mapE_eq, mapC_id, show e.ks.map (mapE id) = e.ks from (List.map_congr_left fun x hx => mapE_id (h1 x hx)).trans (List.map_id _)]
    show Ex.mk e.k e.n (if e.k = 2 then e.i else ([], 0)) _ _ = e
    rw [f1, f2, Ex.eta]
theorem mapS_id {d : Int} {s : Stm} (h : stmtV d s = true) : mapS id s = s := by
  rw [mapS, mapC_id, mapE_id (stmtV_ex h).1]

/-- The accesses that a statement reads. -/
def rdS (s : Stm) : List Acc := if stmtV 4 s = true then rdE s.2 else []

set_option maxRecDepth 100000 in
set_option maxHeartbeats 1600000 in
theorem implReads_fn (s : Stm) (hs : szS s ≤ 1073741824) : Fn Try.prog 24 [] [ad (rS s)] (.o (vD (dCs (rdS s)))) [] := by
  refine Fn.code0 Try.func24 rfl rfl rfl rfl ?_
  refine ACode.seq ?_
  refine ACode.region ?_
  refine .cons (St1.boxP rfl rfl rfl rfl rfl rfl) ?_
  refine .cons (.asg rfl rfl) ?_
  refine .nil ?_
  refine ks_n ?_
  refine ACode.seq ?_
  refine ACode.seq ?_
  refine ACode.region ?_
  refine .cons (.lN 9 rfl rfl rfl) ?_
  refine .cons (.cP [.tmp 3] rfl rfl rfl rfl (isStmt_fn s (by omega)) rfl) ?_
  refine .cons (.nt rfl rfl) ?_
  refine .nil ?_
  refine ks_n ?_
  refine ACode.condT rfl (fun h5 => ?_) (fun h5 => ?_)
  · try simp only [List.length_map, decide_eq_true_eq, decide_eq_false_iff_not, Bool.not_eq_true', Bool.not_eq_false', Bool.not_eq_true, Bool.not_eq_false] at h5
    refine ACode.seq ?_
    refine ACode.region ?_
    refine .cons (.asg rfl rfl) ?_
    refine .nil ?_
    refine ks_n ?_
    refine ACode.ret ?_
    refine ks_r ?_
    refine kf_wret [(.t 2, .v (.o (vD (dCs (rdS s)))))] (Wk.keep [] rfl rfl ⟨ks rfl (.c (Cto.nilE 2 (by rw [rdS, h5]; rfl))), trivial⟩) rfl ?_ nobox
    rfl
  · try simp only [List.length_map, decide_eq_true_eq, decide_eq_false_iff_not, Bool.not_eq_true', Bool.not_eq_false', Bool.not_eq_true, Bool.not_eq_false] at h5
    refine ACode.skip ?_
    refine ks_n ?_
    refine ACode.seq ?_
    refine ACode.region ?_
    refine .cons (.lN 9 rfl rfl rfl) ?_
    refine .cons (.cP [.tmp 6] rfl rfl rfl rfl (ownStmt_fn s hs) rfl) ?_
    refine .cons (.fN 2 7 rfl rfl) ?_
    refine .cons (.cP [.tmp 8] rfl rfl rfl rfl (reads_fn (d := 4) (L := 5) _ (by omega) (by rw [mapS_id h5]; exact (stmtV_ex h5).1)) rfl) ?_
    refine .cons (.asg rfl rfl) ?_
    refine .nil ?_
    refine ks_n ?_
    refine ACode.ret ?_
    refine kf_wret [(.t 2, .v (.o (vD (dCs (rdS s)))))] (Wk.keep [] rfl rfl ⟨ks rfl (.dt (by rw [rdS, if_pos h5, mapS_id h5])), trivial⟩) rfl ?_ nobox
    rfl

mutual
def opsE : Ex → Nat
  | .mk k _ _ _ ks => (if 4 ≤ k ∧ k ≤ 6 then 1 else 0) + opsEs ks
def opsEs : List Ex → Nat
  | [] => 0
  | e :: l => opsE e + opsEs l
end
theorem opsE_eq (e : Ex) : opsE e = (if 4 ≤ e.k ∧ e.k ≤ 6 then 1 else 0) + opsEs e.ks := by cases e; rw [opsE]; rfl
mutual
theorem opsE_le : ∀ e : Ex, opsE e ≤ cntE e
  | .mk k n i r ks => by
    rw [opsE, cntE]
    have := opsEs_le ks
    split <;> omega
theorem opsEs_le : ∀ l : List Ex, opsEs l ≤ cntEs l
  | [] => by simp [opsEs]
  | e :: l => by
    rw [opsEs, cntEs]
    have := opsE_le e
    have := opsEs_le l
    omega
end
theorem opsEs_take {l : List Ex} {i : Nat} {x : Ex} (h : l[i]? = some x) : opsEs (l.take (i + 1)) = opsEs (l.take i) + opsE x := by
  have key : ∀ (a : List Ex) (x : Ex), opsEs (a ++ [x]) = opsEs a + opsE x := by
    intro a x
    induction a with
    | nil => simp [opsEs]
    | cons y a ih => rw [List.cons_append, opsEs, opsEs, ih]; omega
  rw [List.take_add_one, h]
  exact key _ _
theorem ops64 {e : Ex} {i : Nat} (h : cntE e ≤ 64) : opsEs (e.ks.take i) ≤ 64 := by
  have h1 := opsEs_le (e.ks.take i)
  have h2 := cntEs_le (l := e.ks) (i := i)
  rw [cntE_eq] at h
  omega
theorem op_kids {d L : Nat} {e : Ex} (h : exV d L e = true) : (4 ≤ e.k ∧ e.k ≤ 6) ↔ 0 < e.ks.length := by
  cases L with
  | zero => cases h
  | succ L =>
    rw [exV, Bool.and_eq_true, Bool.and_eq_true] at h
    have h1 := h.1.1
    unfold kidV at h1
    split at h1
    · have := of_decide_eq_true h1; constructor <;> omega
    · split at h1
      · have := of_decide_eq_true h1; constructor <;> omega
      · cases h1
/-- The number of operators of a statement. -/
def opsS (s : Stm) : Nat := if stmtV 4 s = true then opsE s.2 else 0

set_option maxRecDepth 100000 in
set_option maxHeartbeats 1600000 in
theorem countOps_one (e : Ex) {d L : Nat} (hv : exV d L e = true) (hcn : cntE e ≤ 64) (ih : ∀ x ∈ e.ks, Fn Try.prog 63 [] [ad (rX x)] (.o (nat1 (opsE x : Nat))) []) : Fn Try.prog 63 [] [ad (rX e)] (.o (nat1 (opsE e : Nat))) [] := by
  have hkl := (exV_kids hv).1
  have hok := op_kids hv
  refine Fn.code0 Try.func63 rfl rfl rfl rfl ?_
  refine ACode.seq ?_
  refine ACode.region ?_
  refine .cons (St1.boxP rfl rfl rfl rfl rfl rfl) ?_
  refine .cons (.asg rfl rfl) ?_
  refine .nil ?_
  refine ks_n ?_
  refine ACode.seq ?_
  refine ACode.region ?_
  refine .cons (.asg rfl rfl) ?_
  refine .nil ?_
  refine ks_n ?_
  refine ACode.seq ?_
  refine ACode.cut [(.t 1, .v (.o (.c (.ptr (rX e))))), (.t 2, .v (.o (nat1 0))), (.t 3, .v (.o (nat1 (((if 4 ≤ e.k ∧ e.k ≤ 6 then 1 else 0) : Nat) : Int))))] ?_ ?_
  · skip
    refine ACode.seq ?_
    refine ACode.region ?_
    refine .cons (.fP 0 0 false rfl rfl) ?_
    refine .cons (.l1 1 rfl rfl) ?_
    refine .cons (.cP [.tmp 7] rfl rfl rfl rfl (isOp_fn _) rfl) ?_
    refine .nil ?_
    refine ks_n ?_
    refine ACode.condT rfl (fun h8 => ?_) (fun h8 => ?_)
    · try simp only [List.length_map, decide_eq_true_eq, decide_eq_false_iff_not, Bool.not_eq_true', Bool.not_eq_false', Bool.not_eq_true, Bool.not_eq_false] at h8
      refine ACode.region ?_
      refine .cons (.asg rfl rfl) ?_
      refine .nil ?_
      exact kc_n (Wk.keep [] rfl rfl ⟨ks rfl .dt, ks rfl .dt, ks rfl (.dt (vI (by first | (rw [if_pos (by simpa [inB] using h8)]; rfl) | (rw [if_neg (by simpa [inB] using h8)]; rfl) | (rw [if_pos (hok.2 (by omega))]; rfl) | (rw [if_neg (fun q => absurd (hok.1 q) (by omega))]; rfl)))), trivial⟩)
    · try simp only [List.length_map, decide_eq_true_eq, decide_eq_false_iff_not, Bool.not_eq_true', Bool.not_eq_false', Bool.not_eq_true, Bool.not_eq_false] at h8
      refine ACode.skip ?_
      exact kc_n (Wk.keep [] rfl rfl ⟨ks rfl .dt, ks rfl .dt, ks rfl (.dt (vI (by first | (rw [if_pos (by simpa [inB] using h8)]; rfl) | (rw [if_neg (by simpa [inB] using h8)]; rfl) | (rw [if_pos (hok.2 (by omega))]; rfl) | (rw [if_neg (fun q => absurd (hok.1 q) (by omega))]; rfl)))), trivial⟩)
  refine ks_n ?_
  refine ACode.seq ?_
  refine ACode.seq ?_
  refine ACode.region ?_
  refine .cons (.fP 6 0 false rfl rfl) ?_
  refine .cons (.l1 1 rfl rfl) ?_
  refine .cons (.ln 31 7 112 rfl rfl rfl) ?_
  refine .cons (.mv rfl rfl) ?_
  refine .nil ?_
  refine ks_n ?_
  refine ACode.block ?_
  refine .loopK (fun m σ => (∃ i : Nat, m = e.ks.length - i ∧ (i ≤ e.ks.length) ∧ (True) ∧ σ = [(.t 1, .v (.o (.c (.ptr (rX e))))), (.t 2, .v (.o (nat1 0))), (.t 3, .v (.o (nat1 (((if 4 ≤ e.k ∧ e.k ≤ 6 then 1 else 0) + opsEs (e.ks.take i) : Nat))))), (.t 10, .v (.o (vD (dEs e.ks)))), (.t 11, .v (.o (nat1 (e.ks.length : Nat)))), (.t 12, .v (.o (nat1 (i : Nat))))])) [] ⟨0, rfl, by omega, trivial, rfl⟩ ⟨ks rfl .dt, ks rfl .dt, ks rfl (.dt (vI (by first | (simp [opsEs]; done) | (rw [hT]; omega) | (rw [hT, ← hq]; omega)))), ks rfl .dt, ks rfl .dt, ks rfl .dt, trivial⟩ ?_
  rintro m σ ⟨i, hm0, hi, hF, rfl⟩
  refine ACode.seq ?_
  refine ACode.region ?_
  refine .cons (.ls rfl rfl rfl) ?_
  refine .nil ?_
  refine ks_n ?_
  refine ACode.seq ?_
  refine .cD rfl (fun h13 => ?_) (fun h13 => ?_)
  · skip
    obtain ⟨x, hx1⟩ : ∃ x, e.ks[i]? = some x := ⟨_, List.getElem?_eq_getElem (by omega)⟩
    have hmx := List.mem_of_getElem? hx1
    have hT := opsEs_take hx1
    have h64 := ops64 (i := i + 1) hcn
    obtain ⟨q, hq⟩ : ∃ q : Nat, q = (if 4 ≤ e.k ∧ e.k ≤ 6 then 1 else 0) := ⟨_, rfl⟩
    have hq1 : q ≤ 1 := by rw [hq]; split <;> omega
    refine ACode.skip ?_
    refine ks_n ?_
    refine ACode.seq ?_
    refine ACode.block ?_
    refine ACode.seq ?_
    refine ACode.region ?_
    refine .cons (.xL 31 7 112 rfl rfl rfl rfl rfl (rE_at hx1)) ?_
    refine .cons (.lN 7 rfl rfl rfl) ?_
    refine .cons (.al 105 [.int .i64 0, .int .i64 0, .slice none 0 0, .int .i64 0, .string ByteArray.empty, .slice none 0 0, .slice none 0 0] rfl rfl rfl) ?_
    refine .cons (.sT 7 true rfl rfl rfl rfl rfl rfl rfl) ?_
    refine .nil ?_
    refine ks_n ?_
    refine ACode.region ?_
    refine .cons (.mv rfl rfl) ?_
    refine .cons (.bN 7 rfl rfl rfl rfl rfl rfl) ?_
    refine .cons (.cP [.tmp 17] rfl rfl rfl rfl (ih x hmx) rfl) ?_
    refine .cons (.pl rfl rfl rfl) ?_
    refine .cons (.asg rfl rfl) ?_
    refine .nil ?_
    refine kb_n ?_
    refine ks_n ?_
    refine ACode.region ?_
    refine .cons (.pl rfl rfl rfl) ?_
    refine .cons (.mv rfl rfl) ?_
    refine .nil ?_
    refine kl_k [] ⟨i + 1, rfl, by omega, trivial, rfl⟩ ⟨ks rfl .dt, ks rfl .dt, ks rfl (.dt (vI (by first | (simp [opsEs]; done) | (rw [hT]; omega) | (rw [hT, ← hq]; omega)))), ks rfl .dt, ks rfl .dt, ks rfl .dt, trivial⟩
  · skip
    have hall : e.ks.take i = e.ks := List.take_of_length_le (by omega)
    refine ACode.exit ?_
    refine ks_e ?_
    refine kl_e ?_
    refine kb_hit ?_
    refine ks_n ?_
    refine ACode.seq ?_
    refine ACode.region ?_
    refine .cons (.mv rfl rfl) ?_
    refine .cons (.asg rfl rfl) ?_
    refine .nil ?_
    refine ks_n ?_
    refine ACode.ret ?_
    refine kf_ret rfl ?_ nobox
    exact leafI (by rw [opsE_eq, hall])

set_option maxRecDepth 100000 in
set_option maxHeartbeats 1600000 in
theorem l13Ops_one (e : Ex) {d L : Nat} (hv : exV d L e = true) (hcn : cntE e ≤ 64) (ih : ∀ x ∈ e.ks, Fn Try.prog 64 [] [ad (rX x)] (.o (nat1 (opsE x : Nat))) []) : Fn Try.prog 64 [] [ad (rX e)] (.o (nat1 (opsE e : Nat))) [] := by
  have hkl := (exV_kids hv).1
  have hok := op_kids hv
  refine Fn.code0 Try.func64 rfl rfl rfl rfl ?_
  refine ACode.seq ?_
  refine ACode.region ?_
  refine .cons (St1.boxP rfl rfl rfl rfl rfl rfl) ?_
  refine .cons (.asg rfl rfl) ?_
  refine .nil ?_
  refine ks_n ?_
  refine ACode.seq ?_
  refine ACode.region ?_
  refine .cons (.asg rfl rfl) ?_
  refine .nil ?_
  refine ks_n ?_
  refine ACode.seq ?_
  refine ACode.cut [(.t 1, .v (.o (.c (.ptr (rX e))))), (.t 2, .v (.o (nat1 0))), (.t 3, .v (.o (nat1 (((if 4 ≤ e.k ∧ e.k ≤ 6 then 1 else 0) : Nat) : Int))))] ?_ ?_
  · skip
    refine ACode.seq ?_
    refine ACode.region ?_
    refine .cons (.fP 6 0 false rfl rfl) ?_
    refine .cons (.l1 1 rfl rfl) ?_
    refine .cons (.ln 31 7 112 rfl rfl rfl) ?_
    refine .cons (.gt rfl rfl rfl) ?_
    refine .nil ?_
    refine ks_n ?_
    refine .cD rfl (fun h8 => ?_) (fun h8 => ?_)
    · skip
      refine ACode.region ?_
      refine .cons (.asg rfl rfl) ?_
      refine .nil ?_
      exact kc_n (Wk.keep [] rfl rfl ⟨ks rfl .dt, ks rfl .dt, ks rfl (.dt (vI (by first | (rw [if_pos (by simpa [inB] using h8)]; rfl) | (rw [if_neg (by simpa [inB] using h8)]; rfl) | (rw [if_pos (hok.2 (by omega))]; rfl) | (rw [if_neg (fun q => absurd (hok.1 q) (by omega))]; rfl)))), trivial⟩)
    · skip
      refine ACode.skip ?_
      exact kc_n (Wk.keep [] rfl rfl ⟨ks rfl .dt, ks rfl .dt, ks rfl (.dt (vI (by first | (rw [if_pos (by simpa [inB] using h8)]; rfl) | (rw [if_neg (by simpa [inB] using h8)]; rfl) | (rw [if_pos (hok.2 (by omega))]; rfl) | (rw [if_neg (fun q => absurd (hok.1 q) (by omega))]; rfl)))), trivial⟩)
  refine ks_n ?_
  refine ACode.seq ?_
  refine ACode.seq ?_
  refine ACode.region ?_
  refine .cons (.asg rfl rfl) ?_
  refine .nil ?_
  refine ks_n ?_
  refine ACode.block ?_
  refine .loopK (fun m σ => (∃ i : Nat, m = e.ks.length - i ∧ (i ≤ e.ks.length) ∧ (True) ∧ σ = [(.t 1, .v (.o (.c (.ptr (rX e))))), (.t 2, .v (.o (nat1 0))), (.t 3, .v (.o (nat1 (((if 4 ≤ e.k ∧ e.k ≤ 6 then 1 else 0) + opsEs (e.ks.take i) : Nat))))), (.t 4, .v (.o (nat1 (i : Nat))))])) [] ⟨0, rfl, by omega, trivial, rfl⟩ ⟨ks rfl .dt, ks rfl .dt, ks rfl (.dt (vI (by first | (simp [opsEs]; done) | (rw [hT]; omega) | (rw [hT, ← hq]; omega)))), ks rfl .dt, trivial⟩ ?_
  rintro m σ ⟨i, hm0, hi, hF, rfl⟩
  refine ACode.seq ?_
  refine ACode.seq ?_
  refine ACode.region ?_
  refine .cons (.mv rfl rfl) ?_
  refine .cons (.fP 6 0 false rfl rfl) ?_
  refine .cons (.l1 1 rfl rfl) ?_
  refine .cons (.ln 31 7 112 rfl rfl rfl) ?_
  refine .cons (.ls rfl rfl rfl) ?_
  refine .nil ?_
  refine ks_n ?_
  refine .cD rfl (fun h13 => ?_) (fun h13 => ?_)
  · skip
    obtain ⟨x, hx1⟩ : ∃ x, e.ks[i]? = some x := ⟨_, List.getElem?_eq_getElem (by omega)⟩
    have hmx := List.mem_of_getElem? hx1
    have hT := opsEs_take hx1
    have h64 := ops64 (i := i + 1) hcn
    obtain ⟨q, hq⟩ : ∃ q : Nat, q = (if 4 ≤ e.k ∧ e.k ≤ 6 then 1 else 0) := ⟨_, rfl⟩
    have hq1 : q ≤ 1 := by rw [hq]; split <;> omega
    refine ACode.skip ?_
    refine ks_n ?_
    refine ACode.seq ?_
    refine ACode.block ?_
    refine ACode.region ?_
    refine .cons (.mv rfl rfl) ?_
    refine .cons (.fP 6 0 false rfl rfl) ?_
    refine .cons (.l1 1 rfl rfl) ?_
    refine .cons (.mv rfl rfl) ?_
    refine .cons (.xL 31 7 112 rfl rfl rfl rfl rfl (rE_at hx1)) ?_
    refine .cons (.lN 7 rfl rfl rfl) ?_
    refine .cons (.cP [.tmp 21] rfl rfl rfl rfl (ih x hmx) rfl) ?_
    refine .cons (.pl rfl rfl rfl) ?_
    refine .cons (.asg rfl rfl) ?_
    refine .nil ?_
    refine kb_n ?_
    refine ks_n ?_
    refine ACode.region ?_
    refine .cons (.mv rfl rfl) ?_
    refine .cons (.pl rfl rfl rfl) ?_
    refine .cons (.asg rfl rfl) ?_
    refine .nil ?_
    refine kl_k [] ⟨i + 1, rfl, by omega, trivial, rfl⟩ ⟨ks rfl .dt, ks rfl .dt, ks rfl (.dt (vI (by first | (simp [opsEs]; done) | (rw [hT]; omega) | (rw [hT, ← hq]; omega)))), ks rfl .dt, trivial⟩
  · skip
    have hall : e.ks.take i = e.ks := List.take_of_length_le (by omega)
    refine ACode.exit ?_
    refine ks_e ?_
    refine kl_e ?_
    refine kb_hit ?_
    refine ks_n ?_
    refine ACode.seq ?_
    refine ACode.region ?_
    refine .cons (.mv rfl rfl) ?_
    refine .cons (.asg rfl rfl) ?_
    refine .nil ?_
    refine ks_n ?_
    refine ACode.ret ?_
    refine kf_ret rfl ?_ nobox
    exact leafI (by rw [opsE_eq, hall])

theorem countOps_fn {d : Nat} : ∀ {L : Nat} (e : Ex), L ≤ 6 → exV d L e = true → Fn Try.prog 63 [] [ad (rX e)] (.o (nat1 (opsE e : Nat))) []
  | 0, e, hL, h => by cases h
  | L + 1, e, hL, h => countOps_one e h (cnt64 h hL) fun x hx => countOps_fn (L := L) x (by omega) ((exV_kids h).2 x hx)

theorem l13Ops_fn {d : Nat} : ∀ {L : Nat} (e : Ex), L ≤ 6 → exV d L e = true → Fn Try.prog 64 [] [ad (rX e)] (.o (nat1 (opsE e : Nat))) []
  | 0, e, hL, h => by cases h
  | L + 1, e, hL, h => l13Ops_one e h (cnt64 h hL) fun x hx => l13Ops_fn (L := L) x (by omega) ((exV_kids h).2 x hx)

set_option maxRecDepth 100000 in
set_option maxHeartbeats 1600000 in
theorem implCount_fn (s : Stm) (hs : szS s ≤ 1099511627776) : Fn Try.prog 21 [] [ad (rS s)] (.o (nat1 (opsS s : Nat))) [] := by
  refine Fn.code0 Try.func21 rfl rfl rfl rfl ?_
  refine ACode.seq ?_
  refine ACode.region ?_
  refine .cons (St1.boxP rfl rfl rfl rfl rfl rfl) ?_
  refine .cons (.asg rfl rfl) ?_
  refine .nil ?_
  refine ks_n ?_
  refine ACode.seq ?_
  refine ACode.seq ?_
  refine ACode.region ?_
  refine .cons (.lN 9 rfl rfl rfl) ?_
  refine .cons (.cP [.tmp 3] rfl rfl rfl rfl (isStmt_fn s hs) rfl) ?_
  refine .cons (.nt rfl rfl) ?_
  refine .nil ?_
  refine ks_n ?_
  refine ACode.condT rfl (fun h5 => ?_) (fun h5 => ?_)
  · try simp only [List.length_map, decide_eq_true_eq, decide_eq_false_iff_not, Bool.not_eq_true', Bool.not_eq_false', Bool.not_eq_true, Bool.not_eq_false] at h5
    refine ACode.seq ?_
    refine ACode.region ?_
    refine .cons (.asg rfl rfl) ?_
    refine .nil ?_
    refine ks_n ?_
    refine ACode.ret ?_
    refine ks_r ?_
    refine kf_ret rfl ?_ nobox
    first | exact leafI (by rw [opsS, h5]; rfl) | exact leafI (by rw [opsS, if_pos h5])
  · try simp only [List.length_map, decide_eq_true_eq, decide_eq_false_iff_not, Bool.not_eq_true', Bool.not_eq_false', Bool.not_eq_true, Bool.not_eq_false] at h5
    refine ACode.skip ?_
    refine ks_n ?_
    refine ACode.seq ?_
    refine ACode.region ?_
    refine .cons (.fP 2 6 true rfl rfl) ?_
    refine .cons (.lN 7 rfl rfl rfl) ?_
    refine .cons (.cP [.tmp 7] rfl rfl rfl rfl (countOps_fn (d := 4) (L := 5) s.2 (by omega) (stmtV_ex h5).1) rfl) ?_
    refine .cons (.asg rfl rfl) ?_
    refine .nil ?_
    refine ks_n ?_
    refine ACode.ret ?_
    refine kf_ret rfl ?_ nobox
    first | exact leafI (by rw [opsS, h5]; rfl) | exact leafI (by rw [opsS, if_pos h5])

set_option maxRecDepth 100000 in
set_option maxHeartbeats 1600000 in
theorem specCount_fn (s : Stm) (hs : szS s ≤ 1099511627776) : Fn Try.prog 22 [] [ad (rS s)] (.o (nat1 (opsS s : Nat))) [] := by
  refine Fn.code0 Try.func22 rfl rfl rfl rfl ?_
  refine ACode.seq ?_
  refine ACode.region ?_
  refine .cons (St1.boxP rfl rfl rfl rfl rfl rfl) ?_
  refine .cons (.asg rfl rfl) ?_
  refine .nil ?_
  refine ks_n ?_
  refine ACode.seq ?_
  refine ACode.seq ?_
  refine ACode.region ?_
  refine .cons (.lN 9 rfl rfl rfl) ?_
  refine .cons (.cP [.tmp 3, .const (.int .i64 (4))] rfl rfl rfl rfl (specStmtV_fn 4 s hs) rfl) ?_
  refine .cons (.nt rfl rfl) ?_
  refine .nil ?_
  refine ks_n ?_
  refine ACode.condT rfl (fun h5 => ?_) (fun h5 => ?_)
  · try simp only [List.length_map, decide_eq_true_eq, decide_eq_false_iff_not, Bool.not_eq_true', Bool.not_eq_false', Bool.not_eq_true, Bool.not_eq_false] at h5
    refine ACode.seq ?_
    refine ACode.region ?_
    refine .cons (.asg rfl rfl) ?_
    refine .nil ?_
    refine ks_n ?_
    refine ACode.ret ?_
    refine ks_r ?_
    refine kf_ret rfl ?_ nobox
    first | exact leafI (by rw [opsS, h5]; rfl) | exact leafI (by rw [opsS, if_pos h5])
  · try simp only [List.length_map, decide_eq_true_eq, decide_eq_false_iff_not, Bool.not_eq_true', Bool.not_eq_false', Bool.not_eq_true, Bool.not_eq_false] at h5
    refine ACode.skip ?_
    refine ks_n ?_
    refine ACode.seq ?_
    refine ACode.region ?_
    refine .cons (.fP 2 6 true rfl rfl) ?_
    refine .cons (.lN 7 rfl rfl rfl) ?_
    refine .cons (.cP [.tmp 7] rfl rfl rfl rfl (l13Ops_fn (d := 4) (L := 5) s.2 (by omega) (stmtV_ex h5).1) rfl) ?_
    refine .cons (.asg rfl rfl) ?_
    refine .nil ?_
    refine ks_n ?_
    refine ACode.ret ?_
    refine kf_ret rfl ?_ nobox
    first | exact leafI (by rw [opsS, h5]; rfl) | exact leafI (by rw [opsS, if_pos h5])

end Go.Proofs.Ytigdfdhjnadieaa

/- Statements: equality and reductions; condition: small lists. -/
namespace Go.Proofs.Ytigdfdhjnadieaa
set_option linter.unusedVariables false
set_option linter.unusedSimpArgs false
open Go.RowKit

theorem sameE_eq (x y : Ex) : sameE x y = (decide (x.k = y.k) && decide (x.n = y.n) && decide (x.i = y.i) && sameC x.r y.r && sameEs x.ks y.ks) := by
  cases x; cases y
  rw [sameE, sameC]
  simp only [Ex.k, Ex.n, Ex.i, Ex.r, Ex.ks, Bool.and_assoc]
  congr 3
  rw [← Bool.and_assoc, ← Bool.and_assoc]
  congr 1
  exact Bool.and_comm _ _
theorem eqF_sameE : ∀ a b : List Ex, eqF sameE a b = sameEs a b
  | [], [] => rfl
  | [], _ :: _ => rfl
  | _ :: _, [] => rfl
  | x :: a, y :: b => by rw [eqF, sameEs, eqF_sameE a b]

set_option maxRecDepth 100000 in
set_option maxHeartbeats 1600000 in
theorem eqf_ex {f : FuncId} {cap : List (List D)} (hc : callable Try.prog f = true) (p : Ex → Ex → Bool) (xs ys : List Ex) (hx : xs.length ≤ 1099511627776) (hf : ∀ x ∈ xs, ∀ y ∈ ys, Fn Try.prog f [] (ad (rX x) :: ad (rX y) :: cap.map fun c => .c (.ptr c)) (.o (bo1 (p x y))) []) : Fn Try.prog 124 [] [vD (dEs xs), vD (dEs ys), .c (.fn f cap)] (.o (bo1 (eqF p xs ys))) [] := by
  refine Fn.code0 Try.func124 rfl rfl rfl rfl ?_
  refine ACode.seq ?_
  refine ACode.region ?_
  refine .cons (.asg rfl rfl) ?_
  refine .nil ?_
  refine ks_n ?_
  refine ACode.seq ?_
  refine ACode.seq ?_
  refine ACode.region ?_
  refine .cons (.mv rfl rfl) ?_
  refine .cons (.ln 31 7 112 rfl rfl rfl) ?_
  refine .cons (.mv rfl rfl) ?_
  refine .cons (.ln 31 7 112 rfl rfl rfl) ?_
  refine .cons (.ne rfl rfl rfl) ?_
  refine .nil ?_
  refine ks_n ?_
  refine .cND rfl (fun h14 => ?_) (fun h14 => ?_)
  · skip
    refine ACode.seq ?_
    refine ACode.region ?_
    refine .cons (.asg rfl rfl) ?_
    refine .nil ?_
    refine ks_n ?_
    refine ACode.ret ?_
    refine ks_r ?_
    refine kf_ret rfl ?_ nobox
    exact leafB (eqF_len (by omega)).symm
  · skip
    refine ACode.skip ?_
    refine ks_n ?_
    refine ACode.seq ?_
    refine ACode.seq ?_
    refine ACode.region ?_
    refine .cons (.mv rfl rfl) ?_
    refine .cons (.ln 31 7 112 rfl rfl rfl) ?_
    refine .cons (.mv rfl rfl) ?_
    refine .nil ?_
    refine ks_n ?_
    refine ACode.block ?_
    refine .loopK (fun m σ => (∃ i : Nat, m = xs.length - i ∧ (i ≤ xs.length) ∧ (eqF p xs ys = eqF p (xs.drop i) (ys.drop i)) ∧ σ = [(.t 1, .v (.o (vD (dEs ys)))), (.t 2, .v (.o (.c (.fn f cap)))), (.t 15, .v (.o (vD (dEs xs)))), (.t 16, .v (.o (nat1 (xs.length : Nat)))), (.t 17, .v (.o (nat1 (i : Nat))))])) [] ⟨0, rfl, by omega, by simp, rfl⟩ ⟨ks rfl .dt, ks rfl .dt, ks rfl .dt, ks rfl .dt, ks rfl .dt, trivial⟩ ?_
    rintro m σ ⟨i, hm0, hi, hF, rfl⟩
    refine ACode.seq ?_
    refine ACode.region ?_
    refine .cons (.ls rfl rfl rfl) ?_
    refine .nil ?_
    refine ks_n ?_
    refine ACode.seq ?_
    refine .cD rfl (fun h18 => ?_) (fun h18 => ?_)
    · skip
      obtain ⟨x, hx1⟩ : ∃ x, xs[i]? = some x := ⟨_, List.getElem?_eq_getElem (by omega)⟩
      obtain ⟨y, hy1⟩ : ∃ x, ys[i]? = some x := ⟨_, List.getElem?_eq_getElem (by omega)⟩
      refine ACode.skip ?_
      refine ks_n ?_
      refine ACode.seq ?_
      refine ACode.block ?_
      refine ACode.seq ?_
      refine ACode.region ?_
      refine .cons (.mv rfl rfl) ?_
      refine .cons (.xL 31 7 112 rfl rfl rfl rfl rfl (rE_at hx1)) ?_
      refine .cons (.lN 7 rfl rfl rfl) ?_
      refine .cons (.al 108 [.int .i64 0, .int .i64 0, .slice none 0 0, .int .i64 0, .string ByteArray.empty, .slice none 0 0, .slice none 0 0] rfl rfl rfl) ?_
      refine .cons (.asg rfl rfl) ?_
      refine .cons (.sT 7 true rfl rfl rfl rfl rfl rfl rfl) ?_
      refine .nil ?_
      refine ks_n ?_
      refine ACode.seq ?_
      refine ACode.region ?_
      refine .cons (.mv rfl rfl) ?_
      refine .cons (.mv rfl rfl) ?_
      refine .cons (.xL 31 7 112 rfl rfl rfl rfl rfl (rE_at hy1)) ?_
      refine .cons (.lN 7 rfl rfl rfl) ?_
      refine .cons (.al 109 [.int .i64 0, .int .i64 0, .slice none 0 0, .int .i64 0, .string ByteArray.empty, .slice none 0 0, .slice none 0 0] rfl rfl rfl) ?_
      refine .cons (.sT 7 true rfl rfl rfl rfl rfl rfl rfl) ?_
      refine .nil ?_
      refine ks_n ?_
      refine ACode.seq ?_
      refine ACode.region ?_
      refine .cons (.mv rfl rfl) ?_
      refine .cons (.bN 7 rfl rfl rfl rfl rfl rfl) ?_
      refine .cons (.bN 7 rfl rfl rfl rfl rfl rfl) ?_
      refine .cons (.cP [.tmp 27, .tmp 28] rfl rfl rfl rfl (hf x (List.mem_of_getElem? hx1) y (List.mem_of_getElem? hy1)) rfl hc) ?_
      refine .cons (.nt rfl rfl) ?_
      refine .nil ?_
      refine ks_n ?_
      refine ACode.condT rfl (fun h30 => ?_) (fun h30 => ?_)
      · try simp only [List.length_map, decide_eq_true_eq, decide_eq_false_iff_not, Bool.not_eq_true', Bool.not_eq_false', Bool.not_eq_true, Bool.not_eq_false] at h30
        have g := h30
        refine ACode.seq ?_
        refine ACode.region ?_
        refine .cons (.asg rfl rfl) ?_
        refine .nil ?_
        refine ks_n ?_
        refine ACode.ret ?_
        refine kb_r ?_
        refine ks_r ?_
        refine kl_r ?_
        refine kb_r ?_
        refine ks_r ?_
        refine kf_ret rfl ?_ nobox
        exact leafB (by rw [hF, eqF_drop hx1 hy1, g]; rfl)
      · try simp only [List.length_map, decide_eq_true_eq, decide_eq_false_iff_not, Bool.not_eq_true', Bool.not_eq_false', Bool.not_eq_true, Bool.not_eq_false] at h30
        have g := h30
        refine ACode.skip ?_
        refine kb_n ?_
        refine ks_n ?_
        refine ACode.region ?_
        refine .cons (.pl rfl rfl rfl) ?_
        refine .cons (.mv rfl rfl) ?_
        refine .nil ?_
        refine kl_k [] ⟨i + 1, rfl, by omega, by rw [hF, eqF_drop hx1 hy1, g, Bool.true_and], rfl⟩ ⟨ks rfl .dt, ks rfl .dt, ks rfl .dt, ks rfl .dt, ks rfl .dt, trivial⟩
    · skip
      refine ACode.exit ?_
      refine ks_e ?_
      refine kl_e ?_
      refine kb_hit ?_
      refine ks_n ?_
      refine ACode.seq ?_
      refine ACode.region ?_
      refine .cons (.asg rfl rfl) ?_
      refine .nil ?_
      refine ks_n ?_
      refine ACode.ret ?_
      refine kf_ret rfl ?_ nobox
      exact leafB (by rw [hF, show i = xs.length by omega, eqF_end (by omega)])

set_option maxRecDepth 100000 in
set_option maxHeartbeats 1600000 in
theorem accSame_fn (a b : Acc) (ha : a.2.length ≤ 1099511627776) : Fn Try.prog 69 [] [ad (rC a), ad (rC b)] (.o (bo1 (sameC a b))) [] := by
  refine Fn.code0 Try.func69 rfl rfl rfl rfl ?_
  refine ACode.seq ?_
  refine ACode.region ?_
  refine .cons (St1.boxP rfl rfl rfl rfl rfl rfl) ?_
  refine .cons (St1.boxP rfl rfl rfl rfl rfl rfl) ?_
  refine .cons (.asg rfl rfl) ?_
  refine .nil ?_
  refine ks_n ?_
  refine ACode.seq ?_
  refine ACode.region ?_
  refine .cons (.fP 0 0 false rfl rfl) ?_
  refine .cons (.l1 1 rfl rfl) ?_
  refine .cons (.fP 0 0 false rfl rfl) ?_
  refine .cons (.l1 1 rfl rfl) ?_
  refine .cons (St1.eqS rfl rfl rfl) ?_
  refine .cons (.mv rfl rfl) ?_
  refine AOps.cases 10 _ rfl (fun g10 => ?_) (fun g10 => ?_)
  · try simp only [List.length_map, decide_eq_true_eq, decide_eq_false_iff_not, Bool.not_eq_true', Bool.not_eq_false', Bool.not_eq_true, Bool.not_eq_false] at g10
    refine .cons (.gT rfl rfl rfl (.fP 1 0 false rfl rfl)) ?_
    refine .cons (.gT rfl rfl rfl (.l1 1 rfl rfl)) ?_
    refine .cons (.gT rfl rfl rfl (.fP 1 0 false rfl rfl)) ?_
    refine .cons (.gT rfl rfl rfl (.l1 1 rfl rfl)) ?_
    refine .cons (.gT rfl rfl rfl (.cP [.tmp 12, .tmp 14, .func 43] rfl rfl rfl rfl (eqfA_fn _ _ ha) rfl)) ?_
    refine .cons (.pT rfl rfl rfl) ?_
    refine .cons (.asg rfl rfl) ?_
    refine .nil ?_
    refine ks_n ?_
    refine ACode.ret ?_
    refine kf_ret rfl ?_ nobox
    exact leafB (by rw [sameC, g10]; rfl)
  · try simp only [List.length_map, decide_eq_true_eq, decide_eq_false_iff_not, Bool.not_eq_true', Bool.not_eq_false', Bool.not_eq_true, Bool.not_eq_false] at g10
    refine .cons (.gF rfl rfl rfl) ?_
    refine .cons (.gF rfl rfl rfl) ?_
    refine .cons (.gF rfl rfl rfl) ?_
    refine .cons (.gF rfl rfl rfl) ?_
    refine .cons (.gF rfl rfl rfl) ?_
    refine .cons (.pF rfl rfl rfl) ?_
    refine .cons (.asg rfl rfl) ?_
    refine .nil ?_
    refine ks_n ?_
    refine ACode.ret ?_
    refine kf_ret rfl ?_ nobox
    exact leafB (by rw [sameC, g10]; rfl)

set_option maxRecDepth 100000 in
set_option maxHeartbeats 1600000 in
theorem l3SameAcc_fn (a b : Acc) (ha : a.2.length ≤ 1099511627776) : Fn Try.prog 138 [] [ad (rC a), ad (rC b)] (.o (bo1 (sameC a b))) [] := by
  refine Fn.code0 Try.func138 rfl rfl rfl rfl ?_
  refine ACode.seq ?_
  refine ACode.region ?_
  refine .cons (St1.boxP rfl rfl rfl rfl rfl rfl) ?_
  refine .cons (St1.boxP rfl rfl rfl rfl rfl rfl) ?_
  refine .cons (.asg rfl rfl) ?_
  refine .nil ?_
  refine ks_n ?_
  refine ACode.seq ?_
  refine ACode.region ?_
  refine .cons (.fP 0 0 false rfl rfl) ?_
  refine .cons (.l1 1 rfl rfl) ?_
  refine .cons (.fP 0 0 false rfl rfl) ?_
  refine .cons (.l1 1 rfl rfl) ?_
  refine .cons (St1.eqS rfl rfl rfl) ?_
  refine .cons (.mv rfl rfl) ?_
  refine AOps.cases 10 _ rfl (fun g10 => ?_) (fun g10 => ?_)
  · try simp only [List.length_map, decide_eq_true_eq, decide_eq_false_iff_not, Bool.not_eq_true', Bool.not_eq_false', Bool.not_eq_true, Bool.not_eq_false] at g10
    refine .cons (.gT rfl rfl rfl (.fP 1 0 false rfl rfl)) ?_
    refine .cons (.gT rfl rfl rfl (.l1 1 rfl rfl)) ?_
    refine .cons (.gT rfl rfl rfl (.fP 1 0 false rfl rfl)) ?_
    refine .cons (.gT rfl rfl rfl (.l1 1 rfl rfl)) ?_
    refine .cons (.gT rfl rfl rfl (.cP [.tmp 12, .tmp 14] rfl rfl rfl rfl (l2SideSame_fn _ _ ha) rfl)) ?_
    refine .cons (.pT rfl rfl rfl) ?_
    refine .cons (.asg rfl rfl) ?_
    refine .nil ?_
    refine ks_n ?_
    refine ACode.ret ?_
    refine kf_ret rfl ?_ nobox
    exact leafB (by rw [sameC, g10]; rfl)
  · try simp only [List.length_map, decide_eq_true_eq, decide_eq_false_iff_not, Bool.not_eq_true', Bool.not_eq_false', Bool.not_eq_true, Bool.not_eq_false] at g10
    refine .cons (.gF rfl rfl rfl) ?_
    refine .cons (.gF rfl rfl rfl) ?_
    refine .cons (.gF rfl rfl rfl) ?_
    refine .cons (.gF rfl rfl rfl) ?_
    refine .cons (.gF rfl rfl rfl) ?_
    refine .cons (.pF rfl rfl rfl) ?_
    refine .cons (.asg rfl rfl) ?_
    refine .nil ?_
    refine ks_n ?_
    refine ACode.ret ?_
    refine kf_ret rfl ?_ nobox
    exact leafB (by rw [sameC, g10]; rfl)

set_option maxRecDepth 100000 in
set_option maxHeartbeats 1600000 in
theorem exprSame_one (x y : Ex) (hr : x.r.2.length ≤ 1099511627776) (hk : x.ks.length ≤ 1099511627776) (ih : ∀ a ∈ x.ks, ∀ b, Fn Try.prog 70 [] [ad (rX a), ad (rX b)] (.o (bo1 (sameE a b))) []) : Fn Try.prog 70 [] [ad (rX x), ad (rX y)] (.o (bo1 (sameE x y))) [] := by
  refine Fn.code0 Try.func70 rfl rfl rfl rfl ?_
  refine ACode.seq ?_
  refine ACode.region ?_
  refine .cons (St1.boxP rfl rfl rfl rfl rfl rfl) ?_
  refine .cons (St1.boxP rfl rfl rfl rfl rfl rfl) ?_
  refine .cons (.asg rfl rfl) ?_
  refine .nil ?_
  refine ks_n ?_
  refine ACode.seq ?_
  refine ACode.region ?_
  refine .cons (.fP 0 0 false rfl rfl) ?_
  refine .cons (.l1 1 rfl rfl) ?_
  refine .cons (.fP 0 0 false rfl rfl) ?_
  refine .cons (.l1 1 rfl rfl) ?_
  refine .cons (.eq rfl rfl rfl) ?_
  refine .cons (.mv rfl rfl) ?_
  refine .cD 10 rfl (fun g10 => ?_) (fun g10 => ?_)
  · skip
    refine .cons (.gT rfl rfl rfl (.fP 1 0 false rfl rfl)) ?_
    refine .cons (.gT rfl rfl rfl (.l1 1 rfl rfl)) ?_
    refine .cons (.gT rfl rfl rfl (.fP 1 0 false rfl rfl)) ?_
    refine .cons (.gT rfl rfl rfl (.l1 1 rfl rfl)) ?_
    refine .cons (.gT rfl rfl rfl (.eq rfl rfl rfl)) ?_
    refine .cons (.pT rfl rfl rfl) ?_
    refine .cons (.mv rfl rfl) ?_
    refine AOps.cases 17 _ rfl (fun g17 => ?_) (fun g17 => ?_)
    · try simp only [List.length_map, decide_eq_true_eq, decide_eq_false_iff_not, Bool.not_eq_true', Bool.not_eq_false', Bool.not_eq_true, Bool.not_eq_false] at g17
      refine .cons (.gT rfl rfl rfl (.fP 2 1 true rfl rfl)) ?_
      refine .cons (.gT rfl rfl rfl (.lN 2 rfl rfl rfl)) ?_
      refine .cons (.gT rfl rfl rfl (.fP 2 1 true rfl rfl)) ?_
      refine .cons (.gT rfl rfl rfl (.lN 2 rfl rfl rfl)) ?_
      refine .cons (.gT rfl rfl rfl (.cP [.tmp 19, .tmp 21] rfl rfl rfl rfl (implSame_fn _ _) rfl)) ?_
      refine .cons (.pT rfl rfl rfl) ?_
      refine .cons (.mv rfl rfl) ?_
      refine AOps.cases 24 _ rfl (fun g24 => ?_) (fun g24 => ?_)
      · try simp only [List.length_map, decide_eq_true_eq, decide_eq_false_iff_not, Bool.not_eq_true', Bool.not_eq_false', Bool.not_eq_true, Bool.not_eq_false] at g24
        refine .cons (.gT rfl rfl rfl (.fP 4 1 true rfl rfl)) ?_
        refine .cons (.gT rfl rfl rfl (.lN 2 rfl rfl rfl)) ?_
        refine .cons (.gT rfl rfl rfl (.fP 4 1 true rfl rfl)) ?_
        refine .cons (.gT rfl rfl rfl (.lN 2 rfl rfl rfl)) ?_
        refine .cons (.gT rfl rfl rfl (.cP [.tmp 26, .tmp 28] rfl rfl rfl rfl (accSame_fn _ _ hr) rfl)) ?_
        refine .cons (.pT rfl rfl rfl) ?_
        refine .cons (.mv rfl rfl) ?_
        refine AOps.cases 31 _ rfl (fun g31 => ?_) (fun g31 => ?_)
        · try simp only [List.length_map, decide_eq_true_eq, decide_eq_false_iff_not, Bool.not_eq_true', Bool.not_eq_false', Bool.not_eq_true, Bool.not_eq_false] at g31
          refine .cons (.gT rfl rfl rfl (.fP 6 0 false rfl rfl)) ?_
          refine .cons (.gT rfl rfl rfl (.l1 1 rfl rfl)) ?_
          refine .cons (.gT rfl rfl rfl (.fP 6 0 false rfl rfl)) ?_
          refine .cons (.gT rfl rfl rfl (.l1 1 rfl rfl)) ?_
          refine .cons (.gT rfl rfl rfl (.cP [.tmp 33, .tmp 35, .func 70] rfl rfl rfl rfl (eqf_ex (f := 70) (cap := []) (by kernel_rfl) sameE x.ks y.ks hk (fun a ha b _ => ih a ha b)) rfl)) ?_
          refine .cons (.pT rfl rfl rfl) ?_
          refine .cons (.asg rfl rfl) ?_
          refine .nil ?_
          refine ks_n ?_
          refine ACode.ret ?_
          refine kf_ret rfl ?_ nobox
          exact leafB (by rw [sameE_eq, ← eqF_sameE]; simp [*])
        · try simp only [List.length_map, decide_eq_true_eq, decide_eq_false_iff_not, Bool.not_eq_true', Bool.not_eq_false', Bool.not_eq_true, Bool.not_eq_false] at g31
          refine .cons (.gF rfl rfl rfl) ?_
          refine .cons (.gF rfl rfl rfl) ?_
          refine .cons (.gF rfl rfl rfl) ?_
          refine .cons (.gF rfl rfl rfl) ?_
          refine .cons (.gF rfl rfl rfl) ?_
          refine .cons (.pF rfl rfl rfl) ?_
          refine .cons (.asg rfl rfl) ?_
          refine .nil ?_
          refine ks_n ?_
          refine ACode.ret ?_
          refine kf_ret rfl ?_ nobox
          exact leafB (by rw [sameE_eq, ← eqF_sameE]; simp [*])
      · try simp only [List.length_map, decide_eq_true_eq, decide_eq_false_iff_not, Bool.not_eq_true', Bool.not_eq_false', Bool.not_eq_true, Bool.not_eq_false] at g24
        refine .cons (.gF rfl rfl rfl) ?_
        refine .cons (.gF rfl rfl rfl) ?_
        refine .cons (.gF rfl rfl rfl) ?_
        refine .cons (.gF rfl rfl rfl) ?_
        refine .cons (.gF rfl rfl rfl) ?_
        refine .cons (.pF rfl rfl rfl) ?_
        refine .cons (.mv rfl rfl) ?_
        refine .cons (.gF rfl rfl rfl) ?_
        refine .cons (.gF rfl rfl rfl) ?_
        refine .cons (.gF rfl rfl rfl) ?_
        refine .cons (.gF rfl rfl rfl) ?_
        refine .cons (.gF rfl rfl rfl) ?_
        refine .cons (.pF rfl rfl rfl) ?_
        refine .cons (.asg rfl rfl) ?_
        refine .nil ?_
        refine ks_n ?_
        refine ACode.ret ?_
        refine kf_ret rfl ?_ nobox
        exact leafB (by rw [sameE_eq, ← eqF_sameE]; simp [*])
    · try simp only [List.length_map, decide_eq_true_eq, decide_eq_false_iff_not, Bool.not_eq_true', Bool.not_eq_false', Bool.not_eq_true, Bool.not_eq_false] at g17
      refine .cons (.gF rfl rfl rfl) ?_
      refine .cons (.gF rfl rfl rfl) ?_
      refine .cons (.gF rfl rfl rfl) ?_
      refine .cons (.gF rfl rfl rfl) ?_
      refine .cons (.gF rfl rfl rfl) ?_
      refine .cons (.pF rfl rfl rfl) ?_
      refine .cons (.mv rfl rfl) ?_
      refine .cons (.gF rfl rfl rfl) ?_
      refine .cons (.gF rfl rfl rfl) ?_
      refine .cons (.gF rfl rfl rfl) ?_
      refine .cons (.gF rfl rfl rfl) ?_
      refine .cons (.gF rfl rfl rfl) ?_
      refine .cons (.pF rfl rfl rfl) ?_
      refine .cons (.mv rfl rfl) ?_
      refine .cons (.gF rfl rfl rfl) ?_
      refine .cons (.gF rfl rfl rfl) ?_
      refine .cons (.gF rfl rfl rfl) ?_
      refine .cons (.gF rfl rfl rfl) ?_
      refine .cons (.gF rfl rfl rfl) ?_
      refine .cons (.pF rfl rfl rfl) ?_
      refine .cons (.asg rfl rfl) ?_
      refine .nil ?_
      refine ks_n ?_
      refine ACode.ret ?_
      refine kf_ret rfl ?_ nobox
      exact leafB (by rw [sameE_eq, ← eqF_sameE]; simp [*])
  · skip
    refine .cons (.gF rfl rfl rfl) ?_
    refine .cons (.gF rfl rfl rfl) ?_
    refine .cons (.gF rfl rfl rfl) ?_
    refine .cons (.gF rfl rfl rfl) ?_
    refine .cons (.gF rfl rfl rfl) ?_
    refine .cons (.pF rfl rfl rfl) ?_
    refine .cons (.mv rfl rfl) ?_
    refine .cons (.gF rfl rfl rfl) ?_
    refine .cons (.gF rfl rfl rfl) ?_
    refine .cons (.gF rfl rfl rfl) ?_
    refine .cons (.gF rfl rfl rfl) ?_
    refine .cons (.gF rfl rfl rfl) ?_
    refine .cons (.pF rfl rfl rfl) ?_
    refine .cons (.mv rfl rfl) ?_
    refine .cons (.gF rfl rfl rfl) ?_
    refine .cons (.gF rfl rfl rfl) ?_
    refine .cons (.gF rfl rfl rfl) ?_
    refine .cons (.gF rfl rfl rfl) ?_
    refine .cons (.gF rfl rfl rfl) ?_
    refine .cons (.pF rfl rfl rfl) ?_
    refine .cons (.mv rfl rfl) ?_
    refine .cons (.gF rfl rfl rfl) ?_
    refine .cons (.gF rfl rfl rfl) ?_
    refine .cons (.gF rfl rfl rfl) ?_
    refine .cons (.gF rfl rfl rfl) ?_
    refine .cons (.gF rfl rfl rfl) ?_
    refine .cons (.pF rfl rfl rfl) ?_
    refine .cons (.asg rfl rfl) ?_
    refine .nil ?_
    refine ks_n ?_
    refine ACode.ret ?_
    refine kf_ret rfl ?_ nobox
    exact leafB (by rw [sameE_eq, ← eqF_sameE]; simp [*])

theorem exprSame_fn : ∀ x y : Ex, szE x ≤ 1099511627776 → Fn Try.prog 70 [] [ad (rX x), ad (rX y)] (.o (bo1 (sameE x y))) [] := by
  intro x
  induction x using Ex.rec' with
  | h x ih => exact fun y hs => exprSame_one x y (szE_parts hs).2.1 (szE_parts hs).2.2.1 fun a ha b => ih a ha b ((szE_parts hs).2.2.2 a ha)

set_option maxRecDepth 100000 in
set_option maxHeartbeats 1600000 in
theorem implStmtSame_fn (s t : Stm) (hs : szS s ≤ 1099511627776) : Fn Try.prog 26 [] [ad (rS s), ad (rS t)] (.o (bo1 (sameS s t))) [] := by
  refine Fn.code0 Try.func26 rfl rfl rfl rfl ?_
  refine ACode.seq ?_
  refine ACode.region ?_
  refine .cons (St1.boxP rfl rfl rfl rfl rfl rfl) ?_
  refine .cons (St1.boxP rfl rfl rfl rfl rfl rfl) ?_
  refine .cons (.asg rfl rfl) ?_
  refine .nil ?_
  refine ks_n ?_
  refine ACode.seq ?_
  refine ACode.region ?_
  refine .cons (.fP 0 1 true rfl rfl) ?_
  refine .cons (.lN 2 rfl rfl rfl) ?_
  refine .cons (.fP 0 1 true rfl rfl) ?_
  refine .cons (.lN 2 rfl rfl rfl) ?_
  refine .cons (.cP [.tmp 6, .tmp 8] rfl rfl rfl rfl (accSame_fn _ _ (szS_parts hs).1) rfl) ?_
  refine .cons (.mv rfl rfl) ?_
  refine AOps.cases 10 _ rfl (fun g10 => ?_) (fun g10 => ?_)
  · try simp only [List.length_map, decide_eq_true_eq, decide_eq_false_iff_not, Bool.not_eq_true', Bool.not_eq_false', Bool.not_eq_true, Bool.not_eq_false] at g10
    refine .cons (.gT rfl rfl rfl (.fP 2 6 true rfl rfl)) ?_
    refine .cons (.gT rfl rfl rfl (.lN 7 rfl rfl rfl)) ?_
    refine .cons (.gT rfl rfl rfl (.fP 2 6 true rfl rfl)) ?_
    refine .cons (.gT rfl rfl rfl (.lN 7 rfl rfl rfl)) ?_
    refine .cons (.gT rfl rfl rfl (.cP [.tmp 12, .tmp 14] rfl rfl rfl rfl (exprSame_fn _ _ (szS_parts hs).2) rfl)) ?_
    refine .cons (.pT rfl rfl rfl) ?_
    refine .cons (.asg rfl rfl) ?_
    refine .nil ?_
    refine ks_n ?_
    refine ACode.ret ?_
    refine kf_ret rfl ?_ nobox
    exact leafB (by rw [sameS, g10]; rfl)
  · try simp only [List.length_map, decide_eq_true_eq, decide_eq_false_iff_not, Bool.not_eq_true', Bool.not_eq_false', Bool.not_eq_true, Bool.not_eq_false] at g10
    refine .cons (.gF rfl rfl rfl) ?_
    refine .cons (.gF rfl rfl rfl) ?_
    refine .cons (.gF rfl rfl rfl) ?_
    refine .cons (.gF rfl rfl rfl) ?_
    refine .cons (.gF rfl rfl rfl) ?_
    refine .cons (.pF rfl rfl rfl) ?_
    refine .cons (.asg rfl rfl) ?_
    refine .nil ?_
    refine ks_n ?_
    refine ACode.ret ?_
    refine kf_ret rfl ?_ nobox
    exact leafB (by rw [sameS, g10]; rfl)

theorem rdEs_drop {l : List Ex} {i : Nat} {x : Ex} (h : l[i]? = some x) : rdEs (l.drop i) = rdE x ++ rdEs (l.drop (i + 1)) := by rw [drop_at h, rdEs]
/-- Whether a valid statement is a reduction. -/
def redV (s : Stm) : Bool := (decide (s.2.k = 4) || decide (s.2.k = 5)) && match s.2.ks with
  | [x, y] => decide (x.k = 3) && sameC x.r s.1 && !(rdE y).any (fun a => sEq a.1 s.1.1)
  | _ => false
theorem redV_two {s : Stm} {x y : Ex} (h : s.2.ks = [x, y]) : redV s = ((decide (s.2.k = 4) || decide (s.2.k = 5)) && (decide (x.k = 3) && sameC x.r s.1 && !(rdE y).any (fun a => sEq a.1 s.1.1))) := by rw [redV, h]
theorem redV_no {s : Stm} (h : ¬ s.2.k = 4) (h2 : ¬ s.2.k = 5) : redV s = false := by rw [redV, decide_eq_false h, decide_eq_false h2]; rfl
theorem op_two {d L : Nat} {e : Ex} (h : exV d L e = true) (hk : 4 ≤ e.k ∧ e.k ≤ 6) : ∃ x y, e.ks = [x, y] := by
  cases L with
  | zero => cases h
  | succ L =>
    rw [exV, Bool.and_eq_true, Bool.and_eq_true] at h
    have h1 := h.1.1
    rw [kidV, if_neg (by omega), if_pos hk] at h1
    exact two_of (of_decide_eq_true h1)

set_option maxRecDepth 100000 in
set_option maxHeartbeats 1600000 in
theorem idx_acc {f : FuncId} {cap : List (List D)} (hc : callable Try.prog f = true) (p : Acc → Bool) (xs : List Acc) (hx : xs.length ≤ 1099511627776) (hf : ∀ x ∈ xs, Fn Try.prog f [] (ad (rC x) :: cap.map fun c => .c (.ptr c)) (.o (bo1 (p x))) []) : Fn Try.prog 160 [] [vD (dCs xs), .c (.fn f cap)] (.o (nat1 (idxF p xs))) [] := by
  refine Fn.code0 Try.func160 rfl rfl rfl rfl ?_
  refine ACode.seq ?_
  refine ACode.region ?_
  refine .cons (.asg rfl rfl) ?_
  refine .nil ?_
  refine ks_n ?_
  refine ACode.seq ?_
  refine ACode.seq ?_
  refine ACode.region ?_
  refine .cons (.mv rfl rfl) ?_
  refine .cons (.ln 25 2 40 rfl rfl rfl) ?_
  refine .cons (.mv rfl rfl) ?_
  refine .nil ?_
  refine ks_n ?_
  refine ACode.block ?_
  refine .loopK (fun m σ => (∃ i : Nat, m = xs.length - i ∧ (i ≤ xs.length) ∧ (idxF p xs = idxG p i (xs.drop i)) ∧ σ = [(.t 0, .v (.o (vD (dCs xs)))), (.t 1, .v (.o (.c (.fn f cap)))), (.t 7, .v (.o (nat1 (xs.length : Nat)))), (.t 8, .v (.o (nat1 (i : Nat))))])) [] ⟨0, rfl, by omega, rfl, rfl⟩ ⟨ks rfl .dt, ks rfl .dt, ks rfl .dt, ks rfl .dt, trivial⟩ ?_
  rintro m σ ⟨i, hm0, hi, hF, rfl⟩
  refine ACode.seq ?_
  refine ACode.region ?_
  refine .cons (.ls rfl rfl rfl) ?_
  refine .nil ?_
  refine ks_n ?_
  refine ACode.seq ?_
  refine .cD rfl (fun h9 => ?_) (fun h9 => ?_)
  · skip
    obtain ⟨x, hx1⟩ : ∃ x, xs[i]? = some x := ⟨_, List.getElem?_eq_getElem (by omega)⟩
    refine ACode.skip ?_
    refine ks_n ?_
    refine ACode.seq ?_
    refine ACode.block ?_
    refine ACode.seq ?_
    refine ACode.region ?_
    refine .cons (.mv rfl rfl) ?_
    refine .cons (.asg rfl rfl) ?_
    refine .nil ?_
    refine ks_n ?_
    refine ACode.seq ?_
    refine ACode.region ?_
    refine .cons (.mv rfl rfl) ?_
    refine .cons (.mv rfl rfl) ?_
    refine .cons (.mv rfl rfl) ?_
    refine .cons (.xL 25 2 40 rfl rfl rfl rfl rfl) ?_
    refine .cons (.lN 2 rfl rfl rfl) ?_
    refine .cons (.cP [.tmp 15] rfl rfl rfl rfl (hf x (List.mem_of_getElem? hx1)) rfl hc) ?_
    refine .nil ?_
    refine ks_n ?_
    refine ACode.condT rfl (fun h16 => ?_) (fun h16 => ?_)
    · try simp only [List.length_map, decide_eq_true_eq, decide_eq_false_iff_not, Bool.not_eq_true', Bool.not_eq_false', Bool.not_eq_true, Bool.not_eq_false] at h16
      refine ACode.seq ?_
      refine ACode.region ?_
      refine .cons (.mv rfl rfl) ?_
      refine .cons (.asg rfl rfl) ?_
      refine .nil ?_
      refine ks_n ?_
      refine ACode.ret ?_
      refine kb_r ?_
      refine ks_r ?_
      refine kl_r ?_
      refine kb_r ?_
      refine ks_r ?_
      refine kf_ret rfl ?_ nobox
      exact leafI (by rw [hF, idxG_drop hx1, h16]; rfl)
    · try simp only [List.length_map, decide_eq_true_eq, decide_eq_false_iff_not, Bool.not_eq_true', Bool.not_eq_false', Bool.not_eq_true, Bool.not_eq_false] at h16
      refine ACode.skip ?_
      refine kb_n ?_
      refine ks_n ?_
      refine ACode.region ?_
      refine .cons (.pl rfl rfl rfl) ?_
      refine .cons (.mv rfl rfl) ?_
      refine .nil ?_
      refine kl_k [] ⟨i + 1, rfl, by omega, by rw [hF, idxG_drop hx1, h16]; rfl, rfl⟩ ⟨ks rfl .dt, ks rfl .dt, ks rfl .dt, ks rfl .dt, trivial⟩
  · skip
    refine ACode.exit ?_
    refine ks_e ?_
    refine kl_e ?_
    refine kb_hit ?_
    refine ks_n ?_
    refine ACode.seq ?_
    refine ACode.region ?_
    refine .cons (.asg rfl rfl) ?_
    refine .nil ?_
    refine ks_n ?_
    refine ACode.ret ?_
    refine kf_ret rfl ?_ nobox
    exact leafI (by rw [hF, List.drop_of_length_le (by omega)]; rfl)

set_option maxRecDepth 100000 in
set_option maxHeartbeats 1600000 in
theorem cnt_acc {f : FuncId} {cap : List (List D)} (hc : callable Try.prog f = true) (p : Acc → Bool) (xs : List Acc) (hx : xs.length ≤ 1099511627776) (hf : ∀ x ∈ xs, Fn Try.prog f [] (ad (rC x) :: cap.map fun c => .c (.ptr c)) (.o (bo1 (p x))) []) : Fn Try.prog 140 [] [vD (dCs xs), .c (.fn f cap)] (.o (bo1 (xs.any p))) [] := by
  refine Fn.code0 Try.func140 rfl rfl rfl rfl ?_
  refine ACode.seq ?_
  refine ACode.region ?_
  refine .cons (.asg rfl rfl) ?_
  refine .nil ?_
  refine ks_n ?_
  refine ACode.seq ?_
  refine ACode.region ?_
  refine .cons (.mv rfl rfl) ?_
  refine .cons (.mv rfl rfl) ?_
  refine .cons (.cP [.tmp 5, .tmp 6] rfl rfl rfl rfl (idx_acc hc p xs hx hf) rfl) ?_
  refine .cons (.ge rfl rfl rfl) ?_
  refine .cons (.asg rfl rfl) ?_
  refine .nil ?_
  refine ks_n ?_
  refine ACode.ret ?_
  refine kf_ret rfl ?_ nobox
  exact leafB idxG_any

set_option maxRecDepth 100000 in
set_option maxHeartbeats 1600000 in
theorem red1_fn (s : Stm) (a : Acc) : Fn Try.prog 141 [] [ad (rC a), .c (.ptr (rS s))] (.o (bo1 (sEq a.1 s.1.1))) [] := by
  refine Fn.code0 Try.func141 rfl rfl rfl rfl ?_
  refine ACode.seq ?_
  refine ACode.region ?_
  refine .cons (St1.boxP rfl rfl rfl rfl rfl rfl) ?_
  refine .cons (.asg rfl rfl) ?_
  refine .nil ?_
  refine ks_n ?_
  refine ACode.seq ?_
  refine ACode.region ?_
  refine .cons (.fP 0 0 false rfl rfl) ?_
  refine .cons (.l1 1 rfl rfl) ?_
  refine .cons (.fP 0 1 true rfl rfl) ?_
  refine .cons (.fP 0 0 false rfl rfl) ?_
  refine .cons (.l1 1 rfl rfl) ?_
  refine .cons (St1.eqS rfl rfl rfl) ?_
  refine .cons (.asg rfl rfl) ?_
  refine .nil ?_
  refine ks_n ?_
  refine ACode.ret ?_
  refine kf_ret rfl ?_ nobox
  rfl

set_option maxRecDepth 100000 in
set_option maxHeartbeats 1600000 in
theorem implRed_fn (s : Stm) (hs : szS s ≤ 1099511627776) (hv : stmtV 4 s = true) : Fn Try.prog 88 [] [ad (rS s)] (.o (bo1 (redV s))) [] := by
  have hxv := (stmtV_ex hv).1
  have hsz := (szS_parts hs).2
  refine Fn.code0 Try.func88 rfl rfl rfl rfl ?_
  refine ACode.seq ?_
  refine ACode.region ?_
  refine .cons (St1.boxP rfl rfl rfl rfl rfl rfl) ?_
  refine .cons (.asg rfl rfl) ?_
  refine .nil ?_
  refine ks_n ?_
  refine ACode.seq ?_
  refine ACode.region ?_
  refine .cons (.fP 2 6 true rfl rfl) ?_
  refine .cons (.lN 7 rfl rfl rfl) ?_
  refine .cons (.al 103 [.int .i64 0, .int .i64 0, .slice none 0 0, .int .i64 0, .string ByteArray.empty, .slice none 0 0, .slice none 0 0] rfl rfl rfl) ?_
  refine .cons (.sT 7 true rfl rfl rfl rfl rfl rfl rfl) ?_
  refine .nil ?_
  refine ks_n ?_
  refine ACode.seq ?_
  refine ACode.seq ?_
  refine ACode.drawK (by kernel_rfl) (by kernel_rfl) ?_
  refine .cons (.fB 0 0 false rfl rfl rfl) ?_
  refine .cons (.b1 1 rfl rfl rfl rfl rfl rfl) ?_
  refine .cons (.ne rfl rfl rfl) ?_
  refine .cons (.mv rfl rfl) ?_
  refine .cND 9 rfl (fun g9 => ?_) (fun g9 => ?_)
  · skip
    refine .cons (.gT rfl rfl rfl (.fB 0 0 false rfl rfl rfl)) ?_
    refine .cons (.gT rfl rfl rfl (.b1 1 rfl rfl rfl rfl rfl rfl)) ?_
    refine .cons (.gT rfl rfl rfl (.ne rfl rfl rfl)) ?_
    refine .cons (.pT rfl rfl rfl) ?_
    refine .cons (.mv rfl rfl) ?_
    refine RunK.cases 14 _ rfl (fun g14 => ?_) (fun g14 => ?_)
    · try simp only [List.length_map, decide_eq_true_eq, decide_eq_false_iff_not, Bool.not_eq_true', Bool.not_eq_false', Bool.not_eq_true, Bool.not_eq_false] at g14
      refine .cons (.gF rfl rfl rfl) ?_
      refine .cons (.gF rfl rfl rfl) ?_
      refine .cons (.gF rfl rfl rfl) ?_
      refine .cons (.gF rfl rfl rfl) ?_
      refine .cons (.gF rfl rfl rfl) ?_
      refine .cons (.gF rfl rfl rfl) ?_
      refine .cons (.pT rfl rfl rfl) ?_
      refine .cons (.mv rfl rfl) ?_
      refine .cons (.gF rfl rfl rfl) ?_
      refine .cons (.gF rfl rfl rfl) ?_
      refine .cons (.gF rfl rfl rfl) ?_
      refine .cons (.gF rfl rfl rfl) ?_
      refine .cons (.gF rfl rfl rfl) ?_
      refine .cons (.gF rfl rfl rfl) ?_
      refine .cons (.gF rfl rfl rfl) ?_
      refine .cons (.gF rfl rfl rfl) ?_
      refine .cons (.gF rfl rfl rfl) ?_
      refine .cons (.pT rfl rfl rfl) ?_
      refine .nil ⟨by kernel_rfl, ?_⟩
      refine ks_n ?_
      refine ACode.condT rfl (fun _ => ?_) (fun h => by first | (cases h; done) | (simp [*] at h; done) | (exfalso; simp_all; done))
      refine ACode.seq ?_
      refine ACode.region ?_
      refine .cons (.asg rfl rfl) ?_
      refine .nil ?_
      refine ks_n ?_
      refine ACode.ret ?_
      refine ks_r ?_
      refine kf_ret rfl ?_ nobox
      exact leafB (by first | (rw [redV_no (by omega) (by omega)]; done) | (rw [hR]; simp [*]; done) | (rw [hR]; grind))
    · try simp only [List.length_map, decide_eq_true_eq, decide_eq_false_iff_not, Bool.not_eq_true', Bool.not_eq_false', Bool.not_eq_true, Bool.not_eq_false] at g14
      have hop : s.2.k = 4 ∨ s.2.k = 5 := by first | omega | simp_all
      obtain ⟨x, y, hks⟩ := op_two (stmtV_ex hv).1 (by omega)
      have hR := redV_two hks
      have hxk := (szE_parts hsz).2.2.2 x (by rw [hks]; simp)
      refine .cons (.gT rfl rfl rfl (.fB 6 0 false rfl rfl rfl)) ?_
      refine .cons (.gT rfl rfl rfl (.b1 1 rfl rfl rfl rfl rfl rfl)) ?_
      refine .cons (.gT rfl rfl rfl (.xL 31 7 112 (i := 0) rfl rfl rfl rfl rfl (by rw [hks]; exact rE_at rfl))) ?_
      refine .cons (.gT rfl rfl rfl (.fP 0 0 false rfl rfl)) ?_
      refine .cons (.gT rfl rfl rfl (.l1 1 rfl rfl)) ?_
      refine .cons (.gT rfl rfl rfl (.ne rfl rfl rfl)) ?_
      refine .cons (.pF rfl rfl rfl) ?_
      refine .cons (.mv rfl rfl) ?_
      refine RunK.cases 22 _ rfl (fun g22 => ?_) (fun g22 => ?_)
      · try simp only [List.length_map, decide_eq_true_eq, decide_eq_false_iff_not, Bool.not_eq_true', Bool.not_eq_false', Bool.not_eq_true, Bool.not_eq_false] at g22
        refine .cons (.gF rfl rfl rfl) ?_
        refine .cons (.gF rfl rfl rfl) ?_
        refine .cons (.gF rfl rfl rfl) ?_
        refine .cons (.gF rfl rfl rfl) ?_
        refine .cons (.gF rfl rfl rfl) ?_
        refine .cons (.gF rfl rfl rfl) ?_
        refine .cons (.gF rfl rfl rfl) ?_
        refine .cons (.gF rfl rfl rfl) ?_
        refine .cons (.gF rfl rfl rfl) ?_
        refine .cons (.pT rfl rfl rfl) ?_
        refine .nil ⟨by kernel_rfl, ?_⟩
        refine ks_n ?_
        refine ACode.condT rfl (fun _ => ?_) (fun h => by first | (cases h; done) | (simp [*] at h; done) | (exfalso; simp_all; done))
        refine ACode.seq ?_
        refine ACode.region ?_
        refine .cons (.asg rfl rfl) ?_
        refine .nil ?_
        refine ks_n ?_
        refine ACode.ret ?_
        refine ks_r ?_
        refine kf_ret rfl ?_ nobox
        exact leafB (by first | (rw [redV_no (by omega) (by omega)]; done) | (rw [hR]; simp [*]; done) | (rw [hR]; grind))
      · try simp only [List.length_map, decide_eq_true_eq, decide_eq_false_iff_not, Bool.not_eq_true', Bool.not_eq_false', Bool.not_eq_true, Bool.not_eq_false] at g22
        refine .cons (.gT rfl rfl rfl (.fB 6 0 false rfl rfl rfl)) ?_
        refine .cons (.gT rfl rfl rfl (.b1 1 rfl rfl rfl rfl rfl rfl)) ?_
        refine .cons (.gT rfl rfl rfl (.xL 31 7 112 (i := 0) rfl rfl rfl rfl rfl (by rw [hks]; exact rE_at rfl))) ?_
        refine .cons (.gT rfl rfl rfl (.fP 4 1 true rfl rfl)) ?_
        refine .cons (.gT rfl rfl rfl (.lN 2 rfl rfl rfl)) ?_
        refine .cons (.gT rfl rfl rfl (.fP 0 1 true rfl rfl)) ?_
        refine .cons (.gT rfl rfl rfl (.lN 2 rfl rfl rfl)) ?_
        refine .cons (.gT rfl rfl rfl (.cP [.tmp 27, .tmp 29] rfl rfl rfl rfl (accSame_fn _ _ (szE_parts hxk).2.1) rfl)) ?_
        refine .cons (.gT rfl rfl rfl (.nt rfl rfl)) ?_
        refine .cons (.pF rfl rfl rfl) ?_
        refine .nil ⟨by kernel_rfl, ?_⟩
        refine ks_n ?_
        refine ACode.condT rfl (fun h32 => ?_) (fun h32 => ?_)
        · try simp only [List.length_map, decide_eq_true_eq, decide_eq_false_iff_not, Bool.not_eq_true', Bool.not_eq_false', Bool.not_eq_true, Bool.not_eq_false] at h32
          refine ACode.seq ?_
          refine ACode.region ?_
          refine .cons (.asg rfl rfl) ?_
          refine .nil ?_
          refine ks_n ?_
          refine ACode.ret ?_
          refine ks_r ?_
          refine kf_ret rfl ?_ nobox
          exact leafB (by first | (rw [redV_no (by omega) (by omega)]; done) | (rw [hR]; simp [*]; done) | (rw [hR]; grind))
        · try simp only [List.length_map, decide_eq_true_eq, decide_eq_false_iff_not, Bool.not_eq_true', Bool.not_eq_false', Bool.not_eq_true, Bool.not_eq_false] at h32
          refine ACode.skip ?_
          refine ks_n ?_
          refine ACode.seq ?_
          have hyv := (exV_kids hxv).2 y (by rw [hks]; simp)
          refine ACode.region ?_
          refine .cons (.fB 6 0 false rfl rfl rfl) ?_
          refine .cons (.b1 1 rfl rfl rfl rfl rfl rfl) ?_
          refine .cons (.xL 31 7 112 (i := 1) rfl rfl rfl rfl rfl (by rw [hks]; exact rE_at rfl)) ?_
          refine .cons (.lN 7 rfl rfl rfl) ?_
          refine .cons (.cP [.tmp 36] rfl rfl rfl rfl (reads_fn (d := 4) (L := 4) y (by omega) hyv) rfl) ?_
          refine .cons (St1.makeFunc (xs := [.tmp 1]) rfl rfl rfl rfl rfl rfl rfl) ?_
          refine .cons (.cP [.tmp 37, .tmp 38] rfl rfl rfl rfl (cnt_acc (f := 141) (cap := [rS s]) (by kernel_rfl) (fun a => sEq a.1 s.1.1) (rdE y) (by have := rdE_len y; have := cnt64 hyv (by omega); omega) (fun a _ => red1_fn s a)) rfl) ?_
          refine .cons (.nt rfl rfl) ?_
          refine .cons (.asg rfl rfl) ?_
          refine .nil ?_
          refine ks_n ?_
          refine ACode.ret ?_
          refine kf_ret rfl ?_ nobox
          exact leafB (by first | (rw [redV_no (by omega) (by omega)]; done) | (rw [hR]; simp [*]; done) | (rw [hR]; grind))
  · skip
    have hop : s.2.k = 4 ∨ s.2.k = 5 := by first | omega | simp_all
    obtain ⟨x, y, hks⟩ := op_two (stmtV_ex hv).1 (by omega)
    have hR := redV_two hks
    have hxk := (szE_parts hsz).2.2.2 x (by rw [hks]; simp)
    refine .cons (.gF rfl rfl rfl) ?_
    refine .cons (.gF rfl rfl rfl) ?_
    refine .cons (.gF rfl rfl rfl) ?_
    refine .cons (.pF rfl rfl rfl) ?_
    refine .cons (.mv rfl rfl) ?_
    refine .cons (.gT rfl rfl rfl (.fB 6 0 false rfl rfl rfl)) ?_
    refine .cons (.gT rfl rfl rfl (.b1 1 rfl rfl rfl rfl rfl rfl)) ?_
    refine .cons (.gT rfl rfl rfl (.xL 31 7 112 (i := 0) rfl rfl rfl rfl rfl (by rw [hks]; exact rE_at rfl))) ?_
    refine .cons (.gT rfl rfl rfl (.fP 0 0 false rfl rfl)) ?_
    refine .cons (.gT rfl rfl rfl (.l1 1 rfl rfl)) ?_
    refine .cons (.gT rfl rfl rfl (.ne rfl rfl rfl)) ?_
    refine .cons (.pF rfl rfl rfl) ?_
    refine .cons (.mv rfl rfl) ?_
    refine RunK.cases 22 _ rfl (fun g22 => ?_) (fun g22 => ?_)
    · try simp only [List.length_map, decide_eq_true_eq, decide_eq_false_iff_not, Bool.not_eq_true', Bool.not_eq_false', Bool.not_eq_true, Bool.not_eq_false] at g22
      refine .cons (.gF rfl rfl rfl) ?_
      refine .cons (.gF rfl rfl rfl) ?_
      refine .cons (.gF rfl rfl rfl) ?_
      refine .cons (.gF rfl rfl rfl) ?_
      refine .cons (.gF rfl rfl rfl) ?_
      refine .cons (.gF rfl rfl rfl) ?_
      refine .cons (.gF rfl rfl rfl) ?_
      refine .cons (.gF rfl rfl rfl) ?_
      refine .cons (.gF rfl rfl rfl) ?_
      refine .cons (.pT rfl rfl rfl) ?_
      refine .nil ⟨by kernel_rfl, ?_⟩
      refine ks_n ?_
      refine ACode.condT rfl (fun _ => ?_) (fun h => by first | (cases h; done) | (simp [*] at h; done) | (exfalso; simp_all; done))
      refine ACode.seq ?_
      refine ACode.region ?_
      refine .cons (.asg rfl rfl) ?_
      refine .nil ?_
      refine ks_n ?_
      refine ACode.ret ?_
      refine ks_r ?_
      refine kf_ret rfl ?_ nobox
      exact leafB (by first | (rw [redV_no (by omega) (by omega)]; done) | (rw [hR]; simp [*]; done) | (rw [hR]; grind))
    · try simp only [List.length_map, decide_eq_true_eq, decide_eq_false_iff_not, Bool.not_eq_true', Bool.not_eq_false', Bool.not_eq_true, Bool.not_eq_false] at g22
      refine .cons (.gT rfl rfl rfl (.fB 6 0 false rfl rfl rfl)) ?_
      refine .cons (.gT rfl rfl rfl (.b1 1 rfl rfl rfl rfl rfl rfl)) ?_
      refine .cons (.gT rfl rfl rfl (.xL 31 7 112 (i := 0) rfl rfl rfl rfl rfl (by rw [hks]; exact rE_at rfl))) ?_
      refine .cons (.gT rfl rfl rfl (.fP 4 1 true rfl rfl)) ?_
      refine .cons (.gT rfl rfl rfl (.lN 2 rfl rfl rfl)) ?_
      refine .cons (.gT rfl rfl rfl (.fP 0 1 true rfl rfl)) ?_
      refine .cons (.gT rfl rfl rfl (.lN 2 rfl rfl rfl)) ?_
      refine .cons (.gT rfl rfl rfl (.cP [.tmp 27, .tmp 29] rfl rfl rfl rfl (accSame_fn _ _ (szE_parts hxk).2.1) rfl)) ?_
      refine .cons (.gT rfl rfl rfl (.nt rfl rfl)) ?_
      refine .cons (.pF rfl rfl rfl) ?_
      refine .nil ⟨by kernel_rfl, ?_⟩
      refine ks_n ?_
      refine ACode.condT rfl (fun h32 => ?_) (fun h32 => ?_)
      · try simp only [List.length_map, decide_eq_true_eq, decide_eq_false_iff_not, Bool.not_eq_true', Bool.not_eq_false', Bool.not_eq_true, Bool.not_eq_false] at h32
        refine ACode.seq ?_
        refine ACode.region ?_
        refine .cons (.asg rfl rfl) ?_
        refine .nil ?_
        refine ks_n ?_
        refine ACode.ret ?_
        refine ks_r ?_
        refine kf_ret rfl ?_ nobox
        exact leafB (by first | (rw [redV_no (by omega) (by omega)]; done) | (rw [hR]; simp [*]; done) | (rw [hR]; grind))
      · try simp only [List.length_map, decide_eq_true_eq, decide_eq_false_iff_not, Bool.not_eq_true', Bool.not_eq_false', Bool.not_eq_true, Bool.not_eq_false] at h32
        refine ACode.skip ?_
        refine ks_n ?_
        refine ACode.seq ?_
        have hyv := (exV_kids hxv).2 y (by rw [hks]; simp)
        refine ACode.region ?_
        refine .cons (.fB 6 0 false rfl rfl rfl) ?_
        refine .cons (.b1 1 rfl rfl rfl rfl rfl rfl) ?_
        refine .cons (.xL 31 7 112 (i := 1) rfl rfl rfl rfl rfl (by rw [hks]; exact rE_at rfl)) ?_
        refine .cons (.lN 7 rfl rfl rfl) ?_
        refine .cons (.cP [.tmp 36] rfl rfl rfl rfl (reads_fn (d := 4) (L := 4) y (by omega) hyv) rfl) ?_
        refine .cons (St1.makeFunc (xs := [.tmp 1]) rfl rfl rfl rfl rfl rfl rfl) ?_
        refine .cons (.cP [.tmp 37, .tmp 38] rfl rfl rfl rfl (cnt_acc (f := 141) (cap := [rS s]) (by kernel_rfl) (fun a => sEq a.1 s.1.1) (rdE y) (by have := rdE_len y; have := cnt64 hyv (by omega); omega) (fun a _ => red1_fn s a)) rfl) ?_
        refine .cons (.nt rfl rfl) ?_
        refine .cons (.asg rfl rfl) ?_
        refine .nil ?_
        refine ks_n ?_
        refine ACode.ret ?_
        refine kf_ret rfl ?_ nobox
        exact leafB (by first | (rw [redV_no (by omega) (by omega)]; done) | (rw [hR]; simp [*]; done) | (rw [hR]; grind))

set_option maxRecDepth 100000 in
set_option maxHeartbeats 1600000 in
theorem implRedOf_fn (s : Stm) (hs : szS s ≤ 1099511627776) : Fn Try.prog 35 [] [ad (rS s)] (.o (bo1 (stmtV 4 s && redV s))) [] := by
  refine Fn.code0 Try.func35 rfl rfl rfl rfl ?_
  refine ACode.seq ?_
  refine ACode.region ?_
  refine .cons (St1.boxP rfl rfl rfl rfl rfl rfl) ?_
  refine .cons (.asg rfl rfl) ?_
  refine .nil ?_
  refine ks_n ?_
  refine ACode.seq ?_
  refine ACode.region ?_
  refine .cons (.lN 9 rfl rfl rfl) ?_
  refine .cons (.cP [.tmp 3] rfl rfl rfl rfl (isStmt_fn s hs) rfl) ?_
  refine .cons (.mv rfl rfl) ?_
  refine AOps.cases 5 _ rfl (fun g5 => ?_) (fun g5 => ?_)
  · try simp only [List.length_map, decide_eq_true_eq, decide_eq_false_iff_not, Bool.not_eq_true', Bool.not_eq_false', Bool.not_eq_true, Bool.not_eq_false] at g5
    refine .cons (.gT rfl rfl rfl (.lN 9 rfl rfl rfl)) ?_
    refine .cons (.gT rfl rfl rfl (.cP [.tmp 6] rfl rfl rfl rfl (implRed_fn s hs g5) rfl)) ?_
    refine .cons (.pT rfl rfl rfl) ?_
    refine .cons (.asg rfl rfl) ?_
    refine .nil ?_
    refine ks_n ?_
    refine ACode.ret ?_
    refine kf_ret rfl ?_ nobox
    exact leafB (by rw [g5]; rfl)
  · try simp only [List.length_map, decide_eq_true_eq, decide_eq_false_iff_not, Bool.not_eq_true', Bool.not_eq_false', Bool.not_eq_true, Bool.not_eq_false] at g5
    refine .cons (.gF rfl rfl rfl) ?_
    refine .cons (.gF rfl rfl rfl) ?_
    refine .cons (.pF rfl rfl rfl) ?_
    refine .cons (.asg rfl rfl) ?_
    refine .nil ?_
    refine ks_n ?_
    refine ACode.ret ?_
    refine kf_ret rfl ?_ nobox
    exact leafB (by rw [g5]; rfl)

set_option maxRecDepth 100000 in
set_option maxHeartbeats 1600000 in
theorem l12Uses_one (e : Ex) (nm : ByteArray) (hk : e.ks.length ≤ 1099511627776) (ih : ∀ x ∈ e.ks, Fn Try.prog 139 [] [ad (rX x), st1 nm] (.o (bo1 ((rdE x).any fun a => sEq a.1 nm))) []) : Fn Try.prog 139 [] [ad (rX e), st1 nm] (.o (bo1 ((rdE e).any fun a => sEq a.1 nm))) [] := by
  refine Fn.code0 Try.func139 rfl rfl rfl rfl ?_
  refine ACode.seq ?_
  refine ACode.region ?_
  refine .cons (St1.boxP rfl rfl rfl rfl rfl rfl) ?_
  refine .cons (.asg rfl rfl) ?_
  refine .nil ?_
  refine ks_n ?_
  refine ACode.seq ?_
  refine ACode.seq ?_
  refine ACode.cut [(.t 1, .v (.o (st1 nm))), (.t 2, .v (.o (.c (.ptr (rX e))))), (.t 4, .v (.o (bo1 false))), (.t 15, .v (.o (bo1 (decide (e.k = 3) && sEq e.r.1 nm))))] ?_ ?_
  · skip
    refine ACode.region ?_
    refine .cons (.fP 0 0 false rfl rfl) ?_
    refine .cons (.l1 1 rfl rfl) ?_
    refine .cons (.eq rfl rfl rfl) ?_
    refine .cons (.mv rfl rfl) ?_
    refine .cD 9 rfl (fun g9 => ?_) (fun g9 => ?_)
    · skip
      refine .cons (.gT rfl rfl rfl (.fP 4 1 true rfl rfl)) ?_
      refine .cons (.gT rfl rfl rfl (.fP 0 0 false rfl rfl)) ?_
      refine .cons (.gT rfl rfl rfl (.l1 1 rfl rfl)) ?_
      refine .cons (.gT rfl rfl rfl (.mv rfl rfl)) ?_
      refine .cons (.gT rfl rfl rfl (St1.eqS rfl rfl rfl)) ?_
      refine .cons (.pT rfl rfl rfl) ?_
      refine .nil ?_
      exact kc_n (Wk.keep [] rfl rfl ⟨ks rfl .dt, ks rfl .dt, ks rfl .dt, ks rfl (.dt (vB (by first | rfl | (simp [*]; done) | grind))), trivial⟩)
    · skip
      refine .cons (.gF rfl rfl rfl) ?_
      refine .cons (.gF rfl rfl rfl) ?_
      refine .cons (.gF rfl rfl rfl) ?_
      refine .cons (.gF rfl rfl rfl) ?_
      refine .cons (.gF rfl rfl rfl) ?_
      refine .cons (.pF rfl rfl rfl) ?_
      refine .nil ?_
      exact kc_n (Wk.keep [] rfl rfl ⟨ks rfl .dt, ks rfl .dt, ks rfl .dt, ks rfl (.dt (vB (by first | rfl | (simp [*]; done) | grind))), trivial⟩)
  refine ks_n ?_
  refine ACode.condT rfl (fun h15 => ?_) (fun h15 => ?_)
  · try simp only [List.length_map, decide_eq_true_eq, decide_eq_false_iff_not, Bool.not_eq_true', Bool.not_eq_false', Bool.not_eq_true, Bool.not_eq_false] at h15
    refine ACode.seq ?_
    refine ACode.region ?_
    refine .cons (.asg rfl rfl) ?_
    refine .nil ?_
    refine ks_n ?_
    refine ACode.ret ?_
    refine ks_r ?_
    refine kf_ret rfl ?_ nobox
    exact leafB (by rw [rdE_eq, List.any_append]; simp at h15; simp [h15])
  · try simp only [List.length_map, decide_eq_true_eq, decide_eq_false_iff_not, Bool.not_eq_true', Bool.not_eq_false', Bool.not_eq_true, Bool.not_eq_false] at h15
    refine ACode.skip ?_
    refine ks_n ?_
    refine ACode.seq ?_
    refine ACode.seq ?_
    have hR : (rdE e).any (fun a => sEq a.1 nm) = (rdEs e.ks).any fun a => sEq a.1 nm := by rw [rdE_eq, List.any_append]; split <;> simp_all
    refine ACode.region ?_
    refine .cons (.asg rfl rfl) ?_
    refine .nil ?_
    refine ks_n ?_
    refine ACode.block ?_
    refine .loopK (fun m σ => (∃ i : Nat, m = e.ks.length - i ∧ (i ≤ e.ks.length) ∧ ((rdEs e.ks).any (fun a => sEq a.1 nm) = (rdEs (e.ks.drop i)).any (fun a => sEq a.1 nm)) ∧ σ = [(.t 1, .v (.o (st1 nm))), (.t 2, .v (.o (.c (.ptr (rX e))))), (.t 4, .v (.o (bo1 false))), (.t 5, .v (.o (nat1 (i : Nat))))])) [] ⟨0, rfl, by omega, by simp, rfl⟩ ⟨ks rfl .dt, ks rfl .dt, ks rfl .dt, ks rfl .dt, trivial⟩ ?_
    rintro m σ ⟨i, hm0, hi, hF, rfl⟩
    refine ACode.seq ?_
    refine ACode.seq ?_
    refine ACode.region ?_
    refine .cons (.mv rfl rfl) ?_
    refine .cons (.fP 6 0 false rfl rfl) ?_
    refine .cons (.l1 1 rfl rfl) ?_
    refine .cons (.ln 31 7 112 rfl rfl rfl) ?_
    refine .cons (.ls rfl rfl rfl) ?_
    refine .nil ?_
    refine ks_n ?_
    refine .cD rfl (fun h20 => ?_) (fun h20 => ?_)
    · skip
      obtain ⟨x, hx1⟩ : ∃ x, e.ks[i]? = some x := ⟨_, List.getElem?_eq_getElem (by omega)⟩
      refine ACode.skip ?_
      refine ks_n ?_
      refine ACode.seq ?_
      refine ACode.block ?_
      refine ACode.seq ?_
      refine ACode.region ?_
      refine .cons (.fP 6 0 false rfl rfl) ?_
      refine .cons (.l1 1 rfl rfl) ?_
      refine .cons (.mv rfl rfl) ?_
      refine .cons (.xL 31 7 112 rfl rfl rfl rfl rfl (rE_at hx1)) ?_
      refine .cons (.lN 7 rfl rfl rfl) ?_
      refine .cons (.mv rfl rfl) ?_
      refine .cons (.cP [.tmp 27, .tmp 28] rfl rfl rfl rfl (ih x (List.mem_of_getElem? hx1)) rfl) ?_
      refine .nil ?_
      refine ks_n ?_
      refine ACode.condT rfl (fun h29 => ?_) (fun h29 => ?_)
      · try simp only [List.length_map, decide_eq_true_eq, decide_eq_false_iff_not, Bool.not_eq_true', Bool.not_eq_false', Bool.not_eq_true, Bool.not_eq_false] at h29
        refine ACode.seq ?_
        refine ACode.region ?_
        refine .cons (.asg rfl rfl) ?_
        refine .nil ?_
        refine ks_n ?_
        refine ACode.ret ?_
        refine kb_r ?_
        refine ks_r ?_
        refine kl_r ?_
        refine kb_r ?_
        refine ks_r ?_
        refine kf_ret rfl ?_ nobox
        exact leafB (by rw [hR, hF, rdEs_drop hx1, List.any_append, h29]; rfl)
      · try simp only [List.length_map, decide_eq_true_eq, decide_eq_false_iff_not, Bool.not_eq_true', Bool.not_eq_false', Bool.not_eq_true, Bool.not_eq_false] at h29
        refine ACode.skip ?_
        refine kb_n ?_
        refine ks_n ?_
        refine ACode.region ?_
        refine .cons (.mv rfl rfl) ?_
        refine .cons (.pl rfl rfl rfl) ?_
        refine .cons (.asg rfl rfl) ?_
        refine .nil ?_
        refine kl_k [] ⟨i + 1, rfl, by omega, by rw [hF, rdEs_drop hx1, List.any_append, h29, Bool.false_or], rfl⟩ ⟨ks rfl .dt, ks rfl .dt, ks rfl .dt, ks rfl .dt, trivial⟩
    · skip
      refine ACode.exit ?_
      refine ks_e ?_
      refine kl_e ?_
      refine kb_hit ?_
      refine ks_n ?_
      refine ACode.seq ?_
      refine ACode.region ?_
      refine .cons (.asg rfl rfl) ?_
      refine .nil ?_
      refine ks_n ?_
      refine ACode.ret ?_
      refine kf_ret rfl ?_ nobox
      exact leafB (by rw [hR, hF, List.drop_of_length_le (by omega)]; rfl)

theorem l12Uses_fn (nm : ByteArray) : ∀ e : Ex, szE e ≤ 1099511627776 → Fn Try.prog 139 [] [ad (rX e), st1 nm] (.o (bo1 ((rdE e).any fun a => sEq a.1 nm))) [] := by
  intro e
  induction e using Ex.rec' with
  | h e ih => exact fun hs => l12Uses_one e nm (szE_parts hs).2.2.1 fun x hx => ih x hx ((szE_parts hs).2.2.2 x hx)

set_option maxRecDepth 100000 in
set_option maxHeartbeats 1600000 in
theorem l12Is_fn (s : Stm) (hs : szS s ≤ 1099511627776) (hv : stmtV 4 s = true) : Fn Try.prog 87 [] [ad (rS s)] (.o (bo1 (redV s))) [] := by
  have hxv := (stmtV_ex hv).1
  have hsz := (szS_parts hs).2
  refine Fn.code0 Try.func87 rfl rfl rfl rfl ?_
  refine ACode.seq ?_
  refine ACode.region ?_
  refine .cons (St1.boxP rfl rfl rfl rfl rfl rfl) ?_
  refine .cons (.asg rfl rfl) ?_
  refine .nil ?_
  refine ks_n ?_
  refine ACode.seq ?_
  refine ACode.region ?_
  refine .cons (.fP 2 6 true rfl rfl) ?_
  refine .cons (.lN 7 rfl rfl rfl) ?_
  refine .cons (.al 103 [.int .i64 0, .int .i64 0, .slice none 0 0, .int .i64 0, .string ByteArray.empty, .slice none 0 0, .slice none 0 0] rfl rfl rfl) ?_
  refine .cons (.sT 7 true rfl rfl rfl rfl rfl rfl rfl) ?_
  refine .nil ?_
  refine ks_n ?_
  refine ACode.seq ?_
  refine ACode.seq ?_
  refine ACode.cut [(.t 1, .v (.o (.c (.ptr (rS s))))), (.t 2, .v (.o (bo1 false))), (.t 3, .v (.o (.c (.box 820 7 0 0)))), (.t 14, .v (.o (bo1 (!decide (s.2.k = 4 ∨ s.2.k = 5))))), (.b 820, .b 31 7 (dR ([rX s.2]))), (.u 820, .u)] ?_ ?_
  · skip
    refine ACode.region ?_
    refine .cons (.fB 0 0 false rfl rfl rfl) ?_
    refine .cons (.b1 1 rfl rfl rfl rfl rfl rfl) ?_
    refine .cons (.ne rfl rfl rfl) ?_
    refine .cons (.mv rfl rfl) ?_
    refine .cND 10 rfl (fun g10 => ?_) (fun g10 => ?_)
    · skip
      refine .cons (.gT rfl rfl rfl (.fB 0 0 false rfl rfl rfl)) ?_
      refine .cons (.gT rfl rfl rfl (.b1 1 rfl rfl rfl rfl rfl rfl)) ?_
      refine .cons (.gT rfl rfl rfl (.ne rfl rfl rfl)) ?_
      refine .cons (.pT rfl rfl rfl) ?_
      refine .nil ?_
      exact kc_n (Wk.keep [(820, 103)] rfl rfl ⟨ks rfl .dt, ks rfl .dt, ks rfl (.c .bx), ks rfl (.dt (vB (by first | rfl | grind))), kb 103 rfl (.dt rfl), trivial⟩)
    · skip
      refine .cons (.gF rfl rfl rfl) ?_
      refine .cons (.gF rfl rfl rfl) ?_
      refine .cons (.gF rfl rfl rfl) ?_
      refine .cons (.pF rfl rfl rfl) ?_
      refine .nil ?_
      exact kc_n (Wk.keep [(820, 103)] rfl rfl ⟨ks rfl .dt, ks rfl .dt, ks rfl (.c .bx), ks rfl (.dt (vB (by first | rfl | grind))), kb 103 rfl (.dt rfl), trivial⟩)
  refine ks_n ?_
  refine ACode.condT rfl (fun h14 => ?_) (fun h14 => ?_)
  · try simp only [List.length_map, decide_eq_true_eq, decide_eq_false_iff_not, Bool.not_eq_true', Bool.not_eq_false', Bool.not_eq_true, Bool.not_eq_false] at h14
    refine ACode.seq ?_
    refine ACode.region ?_
    refine .cons (.asg rfl rfl) ?_
    refine .nil ?_
    refine ks_n ?_
    refine ACode.ret ?_
    refine ks_r ?_
    refine kf_ret rfl ?_ nobox
    exact leafB (redV_no (by simp at h14; omega) (by simp at h14; omega)).symm
  · try simp only [List.length_map, decide_eq_true_eq, decide_eq_false_iff_not, Bool.not_eq_true', Bool.not_eq_false', Bool.not_eq_true, Bool.not_eq_false] at h14
    have hop : s.2.k = 4 ∨ s.2.k = 5 := by simpa using h14
    obtain ⟨x, y, hks⟩ := op_two (stmtV_ex hv).1 (by omega)
    have hR := redV_two hks
    have hxk := (szE_parts hsz).2.2.2 x (by rw [hks]; simp)
    have hyk := (szE_parts hsz).2.2.2 y (by rw [hks]; simp)
    refine ACode.skip ?_
    refine ks_n ?_
    refine ACode.seq ?_
    refine ACode.region ?_
    refine .cons (.fB 6 0 false rfl rfl rfl) ?_
    refine .cons (.b1 1 rfl rfl rfl rfl rfl rfl) ?_
    refine .cons (.xL 31 7 112 (i := 0) rfl rfl rfl rfl rfl (by rw [hks]; exact rE_at rfl)) ?_
    refine .cons (.lN 7 rfl rfl rfl) ?_
    refine .cons (.al 104 [.int .i64 0, .int .i64 0, .slice none 0 0, .int .i64 0, .string ByteArray.empty, .slice none 0 0, .slice none 0 0] rfl rfl rfl) ?_
    refine .cons (.sT 7 true rfl rfl rfl rfl rfl rfl rfl) ?_
    refine .nil ?_
    refine ks_n ?_
    refine ACode.seq ?_
    refine ACode.drawK (by kernel_rfl) (by kernel_rfl) ?_
    refine .cons (.fB 0 0 false rfl rfl rfl) ?_
    refine .cons (.b1 1 rfl rfl rfl rfl rfl rfl) ?_
    refine .cons (.eq rfl rfl rfl) ?_
    refine .cons (.mv rfl rfl) ?_
    refine .cD 22 rfl (fun g22 => ?_) (fun g22 => ?_)
    · skip
      refine .cons (.gT rfl rfl rfl (.fB 4 1 true rfl rfl rfl)) ?_
      refine .cons (.gT rfl rfl rfl (.bN 2 rfl rfl rfl rfl rfl rfl)) ?_
      refine .cons (.gT rfl rfl rfl (.fP 0 1 true rfl rfl)) ?_
      refine .cons (.gT rfl rfl rfl (.lN 2 rfl rfl rfl)) ?_
      refine .cons (.gT rfl rfl rfl (.cP [.tmp 24, .tmp 26] rfl rfl rfl rfl (l3SameAcc_fn _ _ (szE_parts hxk).2.1) rfl)) ?_
      refine .cons (.pT rfl rfl rfl) ?_
      refine .cons (.mv rfl rfl) ?_
      refine RunK.cases 29 _ rfl (fun g29 => ?_) (fun g29 => ?_)
      · try simp only [List.length_map, decide_eq_true_eq, decide_eq_false_iff_not, Bool.not_eq_true', Bool.not_eq_false', Bool.not_eq_true, Bool.not_eq_false] at g29
        refine .cons (.gT rfl rfl rfl (.fB 6 0 false rfl rfl rfl)) ?_
        refine .cons (.gT rfl rfl rfl (.b1 1 rfl rfl rfl rfl rfl rfl)) ?_
        refine .cons (.gT rfl rfl rfl (.xL 31 7 112 (i := 1) rfl rfl rfl rfl rfl (by rw [hks]; exact rE_at rfl))) ?_
        refine .cons (.gT rfl rfl rfl (.lN 7 rfl rfl rfl)) ?_
        refine .cons (.gT rfl rfl rfl (.fP 0 1 true rfl rfl)) ?_
        refine .cons (.gT rfl rfl rfl (.fP 0 0 false rfl rfl)) ?_
        refine .cons (.gT rfl rfl rfl (.l1 1 rfl rfl)) ?_
        refine .cons (.gT rfl rfl rfl (.cP [.tmp 33, .tmp 36] rfl rfl rfl rfl (l12Uses_fn s.1.1 y hyk) rfl)) ?_
        refine .cons (.gT rfl rfl rfl (.nt rfl rfl)) ?_
        refine .cons (.pT rfl rfl rfl) ?_
        refine .cons (.asg rfl rfl) ?_
        refine .nil ⟨by kernel_rfl, ?_⟩
        refine ks_n ?_
        refine ACode.ret ?_
        refine kf_ret rfl ?_ nobox
        exact leafB (by rw [hR]; first | (simp [*]; done) | grind)
      · try simp only [List.length_map, decide_eq_true_eq, decide_eq_false_iff_not, Bool.not_eq_true', Bool.not_eq_false', Bool.not_eq_true, Bool.not_eq_false] at g29
        refine .cons (.gF rfl rfl rfl) ?_
        refine .cons (.gF rfl rfl rfl) ?_
        refine .cons (.gF rfl rfl rfl) ?_
        refine .cons (.gF rfl rfl rfl) ?_
        refine .cons (.gF rfl rfl rfl) ?_
        refine .cons (.gF rfl rfl rfl) ?_
        refine .cons (.gF rfl rfl rfl) ?_
        refine .cons (.gF rfl rfl rfl) ?_
        refine .cons (.gF rfl rfl rfl) ?_
        refine .cons (.pF rfl rfl rfl) ?_
        refine .cons (.asg rfl rfl) ?_
        refine .nil ⟨by kernel_rfl, ?_⟩
        refine ks_n ?_
        refine ACode.ret ?_
        refine kf_ret rfl ?_ nobox
        exact leafB (by rw [hR]; first | (simp [*]; done) | grind)
    · skip
      refine .cons (.gF rfl rfl rfl) ?_
      refine .cons (.gF rfl rfl rfl) ?_
      refine .cons (.gF rfl rfl rfl) ?_
      refine .cons (.gF rfl rfl rfl) ?_
      refine .cons (.gF rfl rfl rfl) ?_
      refine .cons (.pF rfl rfl rfl) ?_
      refine .cons (.mv rfl rfl) ?_
      refine .cons (.gF rfl rfl rfl) ?_
      refine .cons (.gF rfl rfl rfl) ?_
      refine .cons (.gF rfl rfl rfl) ?_
      refine .cons (.gF rfl rfl rfl) ?_
      refine .cons (.gF rfl rfl rfl) ?_
      refine .cons (.gF rfl rfl rfl) ?_
      refine .cons (.gF rfl rfl rfl) ?_
      refine .cons (.gF rfl rfl rfl) ?_
      refine .cons (.gF rfl rfl rfl) ?_
      refine .cons (.pF rfl rfl rfl) ?_
      refine .cons (.asg rfl rfl) ?_
      refine .nil ⟨by kernel_rfl, ?_⟩
      refine ks_n ?_
      refine ACode.ret ?_
      refine kf_ret rfl ?_ nobox
      exact leafB (by rw [hR]; first | (simp [*]; done) | grind)

set_option maxRecDepth 100000 in
set_option maxHeartbeats 1600000 in
theorem specRedOf_fn (s : Stm) (hs : szS s ≤ 1099511627776) : Fn Try.prog 34 [] [ad (rS s)] (.o (bo1 (stmtV 4 s && redV s))) [] := by
  refine Fn.code0 Try.func34 rfl rfl rfl rfl ?_
  refine ACode.seq ?_
  refine ACode.region ?_
  refine .cons (St1.boxP rfl rfl rfl rfl rfl rfl) ?_
  refine .cons (.asg rfl rfl) ?_
  refine .nil ?_
  refine ks_n ?_
  refine ACode.seq ?_
  refine ACode.region ?_
  refine .cons (.lN 9 rfl rfl rfl) ?_
  refine .cons (.cP [.tmp 3, .const (.int .i64 (4))] rfl rfl rfl rfl (specStmtV_fn 4 s hs) rfl) ?_
  refine .cons (.mv rfl rfl) ?_
  refine AOps.cases 5 _ rfl (fun g5 => ?_) (fun g5 => ?_)
  · try simp only [List.length_map, decide_eq_true_eq, decide_eq_false_iff_not, Bool.not_eq_true', Bool.not_eq_false', Bool.not_eq_true, Bool.not_eq_false] at g5
    refine .cons (.gT rfl rfl rfl (.lN 9 rfl rfl rfl)) ?_
    refine .cons (.gT rfl rfl rfl (.cP [.tmp 6] rfl rfl rfl rfl (l12Is_fn s hs g5) rfl)) ?_
    refine .cons (.pT rfl rfl rfl) ?_
    refine .cons (.asg rfl rfl) ?_
    refine .nil ?_
    refine ks_n ?_
    refine ACode.ret ?_
    refine kf_ret rfl ?_ nobox
    exact leafB (by rw [g5]; rfl)
  · try simp only [List.length_map, decide_eq_true_eq, decide_eq_false_iff_not, Bool.not_eq_true', Bool.not_eq_false', Bool.not_eq_true, Bool.not_eq_false] at g5
    refine .cons (.gF rfl rfl rfl) ?_
    refine .cons (.gF rfl rfl rfl) ?_
    refine .cons (.pF rfl rfl rfl) ?_
    refine .cons (.asg rfl rfl) ?_
    refine .nil ?_
    refine ks_n ?_
    refine ACode.ret ?_
    refine kf_ret rfl ?_ nobox
    exact leafB (by rw [g5]; rfl)

end Go.Proofs.Ytigdfdhjnadieaa

/- Statements: reads of the reference, replacements; condition: small lists. -/
namespace Go.Proofs.Ytigdfdhjnadieaa
set_option linter.unusedVariables false
set_option linter.unusedSimpArgs false
open Go.RowKit

def hbL (k : Nat) (l : List Acc) : St := [(.b k, .b 25 2 (dR (l.map rC))), (.u k, .u)]
theorem rdEs_le : ∀ {l : List Ex} {i : Nat}, (rdEs (l.take i)).length ≤ (rdEs l).length
  | [], i => by simp [rdEs]
  | y :: l, 0 => by simp [rdEs]
  | y :: l, i + 1 => by
    rw [List.take_succ_cons, rdEs, rdEs, List.length_append, List.length_append]
    have := rdEs_le (l := l) (i := i)
    omega
theorem hbL_HB (k : Nat) (l : List Acc) : HB (hbL k l) := HB.nil.data
theorem hbL_flat (k : Nat) (l : List Acc) : flatS (hbL k l) := flatS.nil.cons rfl

set_option maxRecDepth 100000 in
set_option maxHeartbeats 1600000 in
theorem l3Reads_one (l : List Acc) (e : Ex) (hi3 : e.r.2.length ≤ 1073741824) (hq3 : ∀ x ∈ e.r.2, x.1.length ≤ 1073741824) (hkl : e.ks.length ≤ 1099511627776) (hln : l.length + (rdE e).length ≤ 1073741824) (ih : ∀ x ∈ e.ks, ∀ l : List Acc, l.length + (rdE x).length ≤ 1073741824 → Fn Try.prog 68 (hbL 0 l) [.c (.own 0 2 l.length), ad (rX x)] (.o (.c (.own 1000 2 (l ++ rdE x).length))) (hbL 1000 (l ++ rdE x))) : Fn Try.prog 68 (hbL 0 l) [.c (.own 0 2 l.length), ad (rX e)] (.o (.c (.own 1000 2 (l ++ rdE e).length))) (hbL 1000 (l ++ rdE e)) := by
  have hrd := rdE_eq e
  have hbl : (rdE e).length = (if e.k = 3 then [e.r] else []).length + (rdEs e.ks).length := by rw [hrd, List.length_append]
  refine Fn.of_code Try.func68 rfl rfl (hbL_HB _ _) rfl rfl (hbL_HB _ _) rfl (one_num rfl) ?_
  refine ACode.seq ?_
  refine ACode.region ?_
  refine .cons (St1.boxP rfl rfl rfl rfl rfl rfl) ?_
  refine .cons (.asg rfl rfl) ?_
  refine .nil ?_
  refine ks_n ?_
  refine ACode.seq ?_
  refine ACode.cut [(.t 0, .v (.o (.c (.own 1710 2 ((l ++ (if e.k = 3 then [e.r] else [])).length))))), (.t 3, .v (.o (.c (.ptr (rX e))))), (.t 4, .v (.o (.c (.d (.val (.slice none 0 0)))))), (.b 1710, .b 25 2 (dR ((l ++ (if e.k = 3 then [e.r] else [])).map rC))), (.u 1710, .u)] ?_ ?_
  · skip
    refine ACode.seq ?_
    refine ACode.region ?_
    refine .cons (.fP 0 0 false rfl rfl) ?_
    refine .cons (.l1 1 rfl rfl) ?_
    refine .cons (.eq rfl rfl rfl) ?_
    refine .nil ?_
    refine ks_n ?_
    refine .cD rfl (fun h8 => ?_) (fun h8 => ?_)
    · skip
      refine ACode.region ?_
      refine .cons (.mv rfl rfl) ?_
      refine .cons (.fP 4 1 true rfl rfl) ?_
      refine .cons (.lN 2 rfl rfl rfl) ?_
      refine .cons (.cP [.tmp 11] rfl rfl rfl rfl (l3CopyAcc_fn _ hi3 hq3) rfl) ?_
      refine .cons (.li 25 1 0 [.tmp 12] rfl rfl rfl rfl rfl rfl) ?_
      refine .cons (St1.appB (k' := 1014) (e := 25) (sz := 1) (by' := 40) rfl rfl rfl rfl rfl (by kernel_rfl) rfl rfl rfl rfl (by simp [dR]) (by rw [if_pos h8] at hbl; simp [dR] at hbl ⊢; omega) rfl rfl rfl) ?_
      refine .cons (.asg rfl rfl) ?_
      refine .nil ?_
      exact kc_n (Wk.keep [(1710, 1014)] rfl rfl ⟨ks rfl (.c (.ow (by first | rfl | omega | (simp; done) | (simp; omega) | (simp [*]; done) | (simp [*]; omega) | (simp [rdEs]; done) | (rw [hT]; simp; omega) | (rw [hT]; simp [Nat.add_assoc]; done)))), ks rfl .dt, ks rfl .dt, kb 1014 rfl (.dt rfl (by first | rfl | (rw [if_pos h8, ← dR_apC]; rfl) | (rw [if_neg h8, List.append_nil]; done) | (simp only [dR_apC]; simp [hT, List.append_assoc]; done) | (rw [hT, ← List.append_assoc]; done) | (simp [rdEs]; done))), trivial⟩)
    · skip
      refine ACode.skip ?_
      exact kc_n (Wk.keep [(1710, 0)] rfl rfl ⟨ks rfl (.c (.ow (by first | rfl | omega | (simp; done) | (simp; omega) | (simp [*]; done) | (simp [*]; omega) | (simp [rdEs]; done) | (rw [hT]; simp; omega) | (rw [hT]; simp [Nat.add_assoc]; done)))), ks rfl .dt, ks rfl .dt, kb 0 rfl (.dt rfl (by first | rfl | (rw [if_pos h8, ← dR_apC]; rfl) | (rw [if_neg h8, List.append_nil]; done) | (simp only [dR_apC]; simp [hT, List.append_assoc]; done) | (rw [hT, ← List.append_assoc]; done) | (simp [rdEs]; done))), trivial⟩)
  refine ks_n ?_
  refine ACode.seq ?_
  refine ACode.seq ?_
  refine ACode.region ?_
  refine .cons (.asg rfl rfl) ?_
  refine .nil ?_
  refine ks_n ?_
  refine ACode.block ?_
  refine .loopK (fun m σ => (∃ i : Nat, m = e.ks.length - i ∧ (i ≤ e.ks.length) ∧ (True) ∧ σ = [(.t 0, .v (.o (.c (.own 1010 2 ((l ++ (if e.k = 3 then [e.r] else []) ++ rdEs (e.ks.take i)).length))))), (.t 3, .v (.o (.c (.ptr (rX e))))), (.t 4, .v (.o (.c (.d (.val (.slice none 0 0)))))), (.t 5, .v (.o (nat1 (i : Nat)))), (.b 1010, .b 25 2 (dR ((l ++ (if e.k = 3 then [e.r] else []) ++ rdEs (e.ks.take i)).map rC))), (.u 1010, .u)])) [(1010, 1710)] ⟨0, rfl, by omega, trivial, rfl⟩ ⟨ks rfl (.c (.ow (by first | rfl | omega | (simp; done) | (simp; omega) | (simp [*]; done) | (simp [*]; omega) | (simp [rdEs]; done) | (rw [hT]; simp; omega) | (rw [hT]; simp [Nat.add_assoc]; done)))), ks rfl .dt, ks rfl .dt, ks rfl .dt, kb 1710 rfl (.dt rfl (by first | rfl | (rw [if_pos h8, ← dR_apC]; rfl) | (rw [if_neg h8, List.append_nil]; done) | (simp only [dR_apC]; simp [hT, List.append_assoc]; done) | (rw [hT, ← List.append_assoc]; done) | (simp [rdEs]; done))), trivial⟩ ?_
  rintro m σ ⟨i, hm0, hi, hF, rfl⟩
  refine ACode.seq ?_
  refine ACode.seq ?_
  refine ACode.region ?_
  refine .cons (.mv rfl rfl) ?_
  refine .cons (.fP 6 0 false rfl rfl) ?_
  refine .cons (.l1 1 rfl rfl) ?_
  refine .cons (.ln 31 7 112 rfl rfl rfl) ?_
  refine .cons (.ls rfl rfl rfl) ?_
  refine .nil ?_
  refine ks_n ?_
  refine .cD rfl (fun h19 => ?_) (fun h19 => ?_)
  · skip
    obtain ⟨x, hx1⟩ : ∃ x, e.ks[i]? = some x := ⟨_, List.getElem?_eq_getElem (by omega)⟩
    have hT := rdEs_take hx1
    have hle := rdEs_le (l := e.ks) (i := i + 1)
    have hnx : (l ++ (if e.k = 3 then [e.r] else []) ++ rdEs (e.ks.take i)).length + (rdE x).length ≤ 1073741824 := by rw [hT, List.length_append] at hle; simp only [List.length_append]; omega
    refine ACode.skip ?_
    refine ks_n ?_
    refine ACode.seq ?_
    refine ACode.block ?_
    refine ACode.region ?_
    refine .cons (.mv rfl rfl) ?_
    refine .cons (.fP 6 0 false rfl rfl) ?_
    refine .cons (.l1 1 rfl rfl) ?_
    refine .cons (.mv rfl rfl) ?_
    refine .cons (.xL 31 7 112 rfl rfl rfl rfl rfl (rE_at hx1)) ?_
    refine .cons (.lN 7 rfl rfl rfl) ?_
    refine .cons (.cO [.tmp 22, .tmp 27] [(0, 1010), (1000, 1028)] rfl rfl rfl rfl (ih x (List.mem_of_getElem? hx1) (l ++ (if e.k = 3 then [e.r] else []) ++ rdEs (e.ks.take i)) hnx) rfl ⟨(by rw [renR_dR]; rfl), trivial⟩ (hbL_flat _ _) (hbL_flat _ _) (hbL_HB _ _) outS_one) ?_
    refine .cons (.asg rfl rfl) ?_
    refine .nil ?_
    refine kb_n ?_
    refine ks_n ?_
    refine ACode.region ?_
    refine .cons (.mv rfl rfl) ?_
    refine .cons (.pl rfl rfl rfl) ?_
    refine .cons (.asg rfl rfl) ?_
    refine .nil ?_
    refine kl_k [(1010, 1028)] ⟨i + 1, rfl, by omega, trivial, rfl⟩ ⟨ks rfl (.c (.ow (by first | rfl | omega | (simp; done) | (simp; omega) | (simp [*]; done) | (simp [*]; omega) | (simp [rdEs]; done) | (rw [hT]; simp; omega) | (rw [hT]; simp [Nat.add_assoc]; done)))), ks rfl .dt, ks rfl .dt, ks rfl .dt, kb 1028 rfl (.dt rfl (by first | rfl | (rw [if_pos h8, ← dR_apC]; rfl) | (rw [if_neg h8, List.append_nil]; done) | (simp only [dR_apC]; simp [hT, List.append_assoc]; done) | (rw [hT, ← List.append_assoc]; done) | (simp [rdEs]; done))), trivial⟩
  · skip
    have hall : l ++ (if e.k = 3 then [e.r] else []) ++ rdEs (e.ks.take i) = l ++ rdE e := by rw [List.take_of_length_le (by omega), hrd, List.append_assoc]
    refine ACode.exit ?_
    refine ks_e ?_
    refine kl_e ?_
    refine kb_hit ?_
    refine ks_n ?_
    refine ACode.seq ?_
    refine ACode.region ?_
    refine .cons (.mv rfl rfl) ?_
    refine .cons (.asg rfl rfl) ?_
    refine .nil ?_
    refine ks_n ?_
    refine ACode.ret ?_
    refine kf_wret [(.t 4, .v (.o (.c (.own 1000 2 ((l ++ rdE e).length))))), (.b 1000, .b 25 2 (dR ((l ++ rdE e).map rC))), (.u 1000, .u)] (Wk.keep [(1000, 1010)] rfl rfl ⟨ks rfl (.c (.ow (by rw [hall]))), kb 1010 rfl (.dt rfl (by rw [hall])), trivial⟩) rfl ?_ (one_box rfl)
    rfl

theorem l3Reads_fn : ∀ e : Ex, szE e ≤ 1073741824 → ∀ l : List Acc, l.length + (rdE e).length ≤ 1073741824 → Fn Try.prog 68 (hbL 0 l) [.c (.own 0 2 l.length), ad (rX e)] (.o (.c (.own 1000 2 (l ++ rdE e).length))) (hbL 1000 (l ++ rdE e)) := by
  intro e
  induction e using Ex.rec' with
  | h e ih =>
    intro hs l hl
    have h1 := hs
    rw [szE_eq, szC] at h1
    have := szAs_len e.r.2
    exact l3Reads_one l e (by omega) (fun x hx => by have := szAs_mem hx; omega) (by omega) hl fun x hx l hl => ih x hx (by have := szEs_mem hx; omega) l hl

set_option maxRecDepth 100000 in
set_option maxHeartbeats 1600000 in
theorem specReads_fn (s : Stm) (hs : szS s ≤ 1073741824) : Fn Try.prog 25 [] [ad (rS s)] (.o (vD (dCs (rdS s)))) [] := by
  have hs2 : szE s.2 ≤ 1073741824 := by rw [szS] at hs; omega
  refine Fn.code0 Try.func25 rfl rfl rfl rfl ?_
  refine ACode.seq ?_
  refine ACode.region ?_
  refine .cons (St1.boxP rfl rfl rfl rfl rfl rfl) ?_
  refine .cons (.asg rfl rfl) ?_
  refine .nil ?_
  refine ks_n ?_
  refine ACode.seq ?_
  refine ACode.seq ?_
  refine ACode.region ?_
  refine .cons (.lN 9 rfl rfl rfl) ?_
  refine .cons (.cP [.tmp 3, .const (.int .i64 (4))] rfl rfl rfl rfl (specStmtV_fn 4 s (by omega)) rfl) ?_
  refine .cons (.nt rfl rfl) ?_
  refine .nil ?_
  refine ks_n ?_
  refine ACode.condT rfl (fun h5 => ?_) (fun h5 => ?_)
  · try simp only [List.length_map, decide_eq_true_eq, decide_eq_false_iff_not, Bool.not_eq_true', Bool.not_eq_false', Bool.not_eq_true, Bool.not_eq_false] at h5
    refine ACode.seq ?_
    refine ACode.region ?_
    refine .cons (St1.lit0D (e := 25) (sz := 2) (b := true) rfl rfl rfl rfl (by kernel_rfl)) ?_
    refine .cons (.asg rfl rfl) ?_
    refine .nil ?_
    refine ks_n ?_
    refine ACode.ret ?_
    refine ks_r ?_
    refine kf_wret [(.t 2, .v (.o (vD (dCs (rdS s)))))] (Wk.keep [] rfl rfl ⟨ks rfl (.dt (by rw [rdS, h5]; rfl)), trivial⟩) rfl ?_ nobox
    rfl
  · try simp only [List.length_map, decide_eq_true_eq, decide_eq_false_iff_not, Bool.not_eq_true', Bool.not_eq_false', Bool.not_eq_true, Bool.not_eq_false] at h5
    have h12 := (stmtV_ex h5).2.2.1
    have hrl := rdE_len s.2
    have hl0 : ([] : List Acc).length + (rdE s.2).length ≤ 1073741824 := by simp; omega
    refine ACode.skip ?_
    refine ks_n ?_
    refine ACode.seq ?_
    refine ACode.region ?_
    refine .cons (St1.lit0 (k' := 107) (e := 25) (sz := 2) (b := true) rfl rfl rfl rfl (by kernel_rfl) rfl rfl) ?_
    refine .cons (.fP 2 6 true rfl rfl) ?_
    refine .cons (.lN 7 rfl rfl rfl) ?_
    refine .cons (.cO [.tmp 7, .tmp 9] [(0, 107), (1000, 110)] rfl rfl rfl rfl (l3Reads_fn s.2 hs2 [] hl0) rfl ⟨rfl, trivial⟩ (hbL_flat _ _) (hbL_flat _ _) (hbL_HB _ _) outS_one) ?_
    refine .cons (.asg rfl rfl) ?_
    refine .nil ?_
    refine ks_n ?_
    refine ACode.ret ?_
    refine kf_wret [(.t 2, .v (.o (vD (dCs (rdS s)))))] (Wk.keep [] rfl rfl ⟨ks rfl (.c (.fz rfl (by rw [rdS, if_pos h5]; rfl) (by rw [rdS, if_pos h5]; simp) (by simp; omega))), trivial⟩) rfl ?_ nobox
    rfl

theorem cmb_subst (x y : Aff) (v : Nat) : cmbA (x.1.set v 0, x.2) 1 y (x.1.getD v 0) = affSubst x v y := by
  rw [affSubst, affSum, cmbA, cmbTo]
  simp [List.range_succ, Int.one_mul]
theorem affM_1000 {x : Aff} (h : affM x) : x.1.length = 4 ∧ (-1000 ≤ x.2 ∧ x.2 ≤ 1000) ∧ ∀ i, -1000 ≤ x.1.getD i 0 ∧ x.1.getD i 0 ≤ 1000 := ⟨h.1, ⟨by have := h.2.2; omega, by have := h.2.2; omega⟩, fun i => by have := h.2.1 i; omega⟩

set_option maxRecDepth 100000 in
set_option maxHeartbeats 1600000 in
theorem l1Subst_fn {x y : Aff} {j : Int} (hx : affM x) (hy : affM y) (hj : 0 ≤ j ∧ j < 4) : Fn Try.prog 158 [] [ad (rA x), nat1 j, ad (rA y)] (.o (ad (rA (affSubst x j.toNat y)))) [] := by
  obtain ⟨v, rfl⟩ : ∃ v : Nat, (v : Int) = j := ⟨j.toNat, by omega⟩
  obtain ⟨a1, a2, a3⟩ := affM_1000 hx
  have hx0 := affM_set hx v
  obtain ⟨b1, b2, b3⟩ := affM_1000 hx0
  obtain ⟨c1, c2, c3⟩ := affM_1000 hy
  refine Fn.code0 Try.func158 rfl rfl rfl rfl ?_
  refine ACode.seq ?_
  refine ACode.region ?_
  refine .cons (St1.boxP rfl rfl rfl rfl rfl rfl) ?_
  refine .cons (St1.boxP rfl rfl rfl rfl rfl rfl) ?_
  refine .cons (.al 106 [.slice none 0 0, .int .i64 0] rfl rfl rfl) ?_
  refine .nil ?_
  refine ks_n ?_
  refine ACode.seq ?_
  refine ACode.drawK (by kernel_rfl) (by kernel_rfl) ?_
  refine .cons (St1.lit0 (k' := 108) (e := 3) (sz := 1) (b := true) rfl rfl rfl rfl (by kernel_rfl) rfl rfl) ?_
  refine .cons (.fP 0 0 false rfl rfl) ?_
  refine .cons (.l1 1 rfl rfl) ?_
  refine .cons (St1.appB (k' := 111) (e := 3) (sz := 0) (by' := 8) rfl rfl rfl rfl rfl (by kernel_rfl) rfl rfl rfl rfl rfl (by simp; omega) rfl rfl rfl) ?_
  refine .cons (.fP 1 0 false rfl rfl) ?_
  refine .cons (.l1 1 rfl rfl) ?_
  refine .cons (.bu [(0, .tmp 11), (1, .tmp 13)] [(0, 1), (1, 1)] [.slice none 0 0, .int .i64 0] rfl rfl rfl rfl rfl) ?_
  refine .cons (.al 107 [.slice none 0 0, .int .i64 0] rfl rfl rfl) ?_
  refine .cons (.sT 2 true rfl rfl rfl rfl rfl rfl rfl) ?_
  refine .nil ⟨by kernel_rfl, ?_⟩
  refine ks_n ?_
  refine ACode.seq ?_
  refine ACode.region ?_
  refine .cons (.fB 0 0 false rfl rfl rfl) ?_
  refine .cons (.b1 1 rfl rfl rfl rfl rfl rfl) ?_
  refine .cons (.mv rfl rfl) ?_
  refine .cons (.xB 3 1 8 rfl rfl rfl rfl rfl rfl (by simp; omega)) ?_
  refine .cons (.sT 1 false rfl rfl rfl rfl (dR_at (map_at (getD_at (by omega)))) rfl rfl) ?_
  refine .nil ?_
  refine ks_n ?_
  refine ACode.seq ?_
  refine .keep [(.t 1, .v (.o (nat1 (v : Nat)))), (.t 3, .v (.o (.c (.ptr (rA x))))), (.t 5, .v (.o (.c (.ptr (rA y))))), (.t 6, .v (.o (.c (.box 730 2 0 0)))), (.t 7, .v (.o (.c (.box 731 2 0 0)))), (.b 730, .b 28 2 [[.d (.val (.slice none 0 0)), .d (dI 0)]]), (.u 730, .u), (.b 731, .b 28 2 [[.d (dIs (x.1.set v 0)), .d (dI x.2)]]), (.u 731, .u)] [(730, 106), (731, 107)] ⟨ks rfl .dt, ks rfl .dt, ks rfl .dt, ks rfl (.c .bx), ks rfl (.c .bx), kb 106 rfl (.cons (.cons .dt (.cons .dt Ctos.nil)) .nil), kb 107 rfl (.cons (.cons (.fz rfl (dR_setI _ _ _ _) (by simp) (by simp; omega)) (.cons .dt Ctos.nil)) .nil), trivial⟩ ?_
  refine ACode.drawK (by kernel_rfl) (by kernel_rfl) ?_
  refine .cons (.bN 2 rfl rfl rfl rfl rfl rfl) ?_
  refine .cons (.lN 2 rfl rfl rfl) ?_
  refine .cons (.fP 0 0 false rfl rfl) ?_
  refine .cons (.l1 1 rfl rfl) ?_
  refine .cons (.mv rfl rfl) ?_
  refine .cons (.xL 3 1 8 rfl rfl rfl rfl rfl (map_at (getD_at (by omega)))) ?_
  refine .cons (.l1 1 rfl rfl) ?_
  refine .cons (.cP [.tmp 19, .const (.int .i64 (1)), .tmp 20, .tmp 25] rfl rfl rfl rfl (l1Combine_fn (x.1.set v 0, x.2) y 1 (x.1.getD v 0) (by omega) (a3 v) b1 c1 b2 c2 b3 c3) rfl) ?_
  refine .cons (.sT 2 true rfl rfl rfl rfl rfl rfl rfl) ?_
  refine .nil ⟨by kernel_rfl, ?_⟩
  refine ks_n ?_
  refine ACode.ret ?_
  refine kf_ret rfl ?_ nobox
  rw [Int.toNat_natCast, ← cmb_subst]; rfl

set_option maxRecDepth 100000 in
set_option maxHeartbeats 1600000 in
theorem l3SubAcc_fn (a : Acc) (ha : a.2.length ≤ 1073741824) {y : Aff} (hy : affM y) {j : Int} (hj : 0 ≤ j ∧ j < 4) (hm : ∀ x ∈ a.2, affM x) : Fn Try.prog 135 [] [ad (rC a), nat1 j, ad (rA y)] (.o (ad (rC (mapC (fun b => affSubst b j.toNat y) a)))) [] := by
  refine Fn.code0 Try.func135 rfl rfl rfl rfl ?_
  refine ACode.seq ?_
  refine ACode.region ?_
  refine .cons (St1.boxP rfl rfl rfl rfl rfl rfl) ?_
  refine .cons (St1.boxP rfl rfl rfl rfl rfl rfl) ?_
  refine .cons (.al 106 [.string ByteArray.empty, .slice none 0 0] rfl rfl rfl) ?_
  refine .nil ?_
  refine ks_n ?_
  refine ACode.seq ?_
  refine ACode.region ?_
  refine .cons (.fP 0 0 false rfl rfl) ?_
  refine .cons (.l1 1 rfl rfl) ?_
  refine .cons (.bu [(0, .tmp 10)] [(0, 1), (1, 1)] [.string ByteArray.empty, .slice none 0 0] rfl rfl rfl rfl rfl) ?_
  refine .cons (.al 107 [.string ByteArray.empty, .slice none 0 0] rfl rfl rfl) ?_
  refine .cons (.sT 2 true rfl rfl rfl rfl rfl rfl rfl) ?_
  refine .nil ?_
  refine ks_n ?_
  refine ACode.seq ?_
  refine ACode.seq ?_
  refine ACode.region ?_
  refine .cons (.asg rfl rfl) ?_
  refine .nil ?_
  refine ks_n ?_
  refine ACode.block ?_
  refine .loopK (fun m σ => (∃ i : Nat, m = a.2.length - i ∧ (i = 0) ∧ σ = [(.t 1, .v (.o (nat1 j))), (.t 3, .v (.o (.c (.ptr (rC a))))), (.t 5, .v (.o (.c (.ptr (rA y))))), (.t 6, .v (.o (.c (.box 110 2 0 0)))), (.t 7, .v (.o (.c (.box 111 2 0 0)))), (.t 8, .v (.o (nat1 (i : Nat)))), (.b 110, .b 25 2 [[.d (dS ByteArray.empty), .d (.val (.slice none 0 0))]]), (.u 110, .u), (.b 111, .b 25 2 [[.d (dS a.1), .d (.val (.slice none 0 0))]]), (.u 111, .u)]) ∨ (∃ i : Nat, m = a.2.length - i ∧ (1 ≤ i) ∧ (i ≤ a.2.length) ∧ σ = [(.t 1, .v (.o (nat1 j))), (.t 3, .v (.o (.c (.ptr (rC a))))), (.t 5, .v (.o (.c (.ptr (rA y))))), (.t 6, .v (.o (.c (.box 110 2 0 0)))), (.t 7, .v (.o (.c (.box 111 2 0 0)))), (.t 8, .v (.o (nat1 (i : Nat)))), (.b 110, .b 25 2 [[.d (dS ByteArray.empty), .d (.val (.slice none 0 0))]]), (.u 110, .u), (.b 112, .b 28 2 (dR ((a.2.take i).map fun x => rA (affSubst x j.toNat y)))), (.u 112, .u), (.b 111, .b 25 2 [[.d (dS a.1), .own 112 2 (i)]]), (.u 111, .u)])) [(110, 106), (111, 107)] (.inl ⟨0, rfl, rfl, rfl⟩) ⟨ks rfl .dt, ks rfl .dt, ks rfl .dt, ks rfl (.c .bx), ks rfl (.c .bx), ks rfl .dt, kb 106 rfl (.cons (.cons .dt (.cons .dt Ctos.nil)) .nil), kb 107 rfl (.cons (.cons .dt (.cons .dt Ctos.nil)) .nil), trivial⟩ ?_
  rintro m σ (⟨i, hm0, rfl, rfl⟩ | ⟨i, hm0, hi1, hi2, rfl⟩)
  · skip
    refine ACode.seq ?_
    refine ACode.seq ?_
    refine ACode.region ?_
    refine .cons (.mv rfl rfl) ?_
    refine .cons (.fP 1 0 false rfl rfl) ?_
    refine .cons (.l1 1 rfl rfl) ?_
    refine .cons (.ln 28 2 32 rfl rfl rfl) ?_
    refine .cons (.ls rfl rfl rfl) ?_
    refine .nil ?_
    refine ks_n ?_
    refine .cD rfl (fun h16 => ?_) (fun h16 => ?_)
    · skip
      obtain ⟨x, hx1⟩ : ∃ x, a.2[0]? = some x := ⟨_, List.getElem?_eq_getElem (by omega)⟩
      refine ACode.skip ?_
      refine ks_n ?_
      refine ACode.seq ?_
      refine ACode.block ?_
      refine ACode.drawK (by kernel_rfl) (by kernel_rfl) ?_
      refine .cons (.fB 1 0 false rfl rfl rfl) ?_
      refine .cons (.b1 1 rfl rfl rfl rfl rfl rfl) ?_
      refine .cons (.fP 1 0 false rfl rfl) ?_
      refine .cons (.l1 1 rfl rfl) ?_
      refine .cons (.mv rfl rfl) ?_
      refine .cons (.xL 28 2 32 rfl rfl rfl rfl rfl) ?_
      refine .cons (.lN 2 rfl rfl rfl) ?_
      refine .cons (.mv rfl rfl) ?_
      refine .cons (.lN 2 rfl rfl rfl) ?_
      refine .cons (.cP [.tmp 25, .tmp 26, .tmp 27] rfl rfl rfl rfl (l1Subst_fn (hm x (List.mem_of_getElem? hx1)) hy hj) rfl) ?_
      refine .cons (.li 28 1 0 [.tmp 28] rfl rfl rfl rfl rfl rfl) ?_
      refine .cons (St1.appN (k' := 130) (e := 28) (sz := 1) (by' := 32) rfl rfl rfl rfl rfl (by kernel_rfl) rfl rfl rfl (by simp) (by first | (simp [dR]; done) | (simp [dR]; omega)) rfl rfl) ?_
      refine .cons (.fB 1 0 false rfl rfl rfl) ?_
      refine .cons (.sT 1 false rfl rfl rfl rfl rfl rfl rfl) ?_
      refine .nil ⟨by kernel_rfl, ?_⟩
      refine kb_n ?_
      refine ks_n ?_
      refine ACode.region ?_
      refine .cons (.mv rfl rfl) ?_
      refine .cons (.pl rfl rfl rfl) ?_
      refine .cons (.asg rfl rfl) ?_
      refine .nil ?_
      refine kl_k [(110, 110), (111, 111), (112, 130)] (.inr ⟨1, rfl, by omega, by omega, rfl⟩) ⟨ks rfl .dt, ks rfl .dt, ks rfl .dt, ks rfl (.c .bx), ks rfl (.c .bx), ks rfl .dt, kb 110 rfl (.cons (.cons .dt (.cons .dt Ctos.nil)) .nil), kb 130 rfl (.dt rfl (by first | exact dR_take (fun x => rA (affSubst x j.toNat y)) hx1 | exact dR_take1 (fun x => rA (affSubst x j.toNat y)) hx1 | rfl | (simp [dR]; done))), kb 111 rfl (.cons (.cons .dt (.cons .ow Ctos.nil)) .nil), trivial⟩
    · skip
      have hn : a.2 = [] := List.eq_nil_of_length_eq_zero (by omega)
      refine ACode.exit ?_
      refine ks_e ?_
      refine kl_e ?_
      refine kb_hit ?_
      refine ks_n ?_
      refine ACode.seq ?_
      refine ACode.region ?_
      refine .cons (.bN 2 rfl rfl rfl rfl rfl rfl) ?_
      refine .cons (.sT 2 true rfl rfl rfl rfl rfl rfl rfl) ?_
      refine .nil ?_
      refine ks_n ?_
      refine ACode.ret ?_
      refine kf_wret [(.t 6, .v (.o (.c (.box 100 2 0 0)))), (.b 100, .b 25 2 [[.d (dS a.1), .d (dAs (a.2.map (fun b => affSubst b j.toNat y)))]]), (.u 100, .u)] (Wk.keep [(100, 110)] rfl rfl ⟨ks rfl (.c .bx), kb 110 rfl (.cons (.cons .dt (.cons (Cto.nilE 2 (by rw [hn]; rfl)) Ctos.nil)) .nil), trivial⟩) rfl ?_ nobox
      rfl
  · skip
    refine ACode.seq ?_
    refine ACode.seq ?_
    refine ACode.region ?_
    refine .cons (.mv rfl rfl) ?_
    refine .cons (.fP 1 0 false rfl rfl) ?_
    refine .cons (.l1 1 rfl rfl) ?_
    refine .cons (.ln 28 2 32 rfl rfl rfl) ?_
    refine .cons (.ls rfl rfl rfl) ?_
    refine .nil ?_
    refine ks_n ?_
    refine .cD rfl (fun h16 => ?_) (fun h16 => ?_)
    · skip
      obtain ⟨x, hx1⟩ : ∃ x, a.2[i]? = some x := ⟨_, List.getElem?_eq_getElem (by omega)⟩
      refine ACode.skip ?_
      refine ks_n ?_
      refine ACode.seq ?_
      refine ACode.block ?_
      refine ACode.drawK (by kernel_rfl) (by kernel_rfl) ?_
      refine .cons (.fB 1 0 false rfl rfl rfl) ?_
      refine .cons (.b1 1 rfl rfl rfl rfl rfl rfl) ?_
      refine .cons (.fP 1 0 false rfl rfl) ?_
      refine .cons (.l1 1 rfl rfl) ?_
      refine .cons (.mv rfl rfl) ?_
      refine .cons (.xL 28 2 32 rfl rfl rfl rfl rfl) ?_
      refine .cons (.lN 2 rfl rfl rfl) ?_
      refine .cons (.mv rfl rfl) ?_
      refine .cons (.lN 2 rfl rfl rfl) ?_
      refine .cons (.cP [.tmp 25, .tmp 26, .tmp 27] rfl rfl rfl rfl (l1Subst_fn (hm x (List.mem_of_getElem? hx1)) hy hj) rfl) ?_
      refine .cons (.li 28 1 0 [.tmp 28] rfl rfl rfl rfl rfl rfl) ?_
      refine .cons (St1.appB (k' := 130) (e := 28) (sz := 1) (by' := 32) rfl rfl rfl rfl rfl (by kernel_rfl) rfl rfl rfl rfl (by first | (simp [dR]; done) | (simp [dR]; omega)) (by first | (simp [dR]; done) | (simp [dR]; omega)) rfl rfl rfl) ?_
      refine .cons (.fB 1 0 false rfl rfl rfl) ?_
      refine .cons (.sT 1 false rfl rfl rfl rfl rfl rfl rfl) ?_
      refine .nil ⟨by kernel_rfl, ?_⟩
      refine kb_n ?_
      refine ks_n ?_
      refine ACode.region ?_
      refine .cons (.mv rfl rfl) ?_
      refine .cons (.pl rfl rfl rfl) ?_
      refine .cons (.asg rfl rfl) ?_
      refine .nil ?_
      refine kl_k [(110, 110), (111, 111), (112, 130)] (.inr ⟨i + 1, rfl, by omega, by omega, rfl⟩) ⟨ks rfl .dt, ks rfl .dt, ks rfl .dt, ks rfl (.c .bx), ks rfl (.c .bx), ks rfl .dt, kb 110 rfl (.cons (.cons .dt (.cons .dt Ctos.nil)) .nil), kb 130 rfl (.dt rfl (by first | exact dR_take (fun x => rA (affSubst x j.toNat y)) hx1 | exact dR_take1 (fun x => rA (affSubst x j.toNat y)) hx1 | rfl | (simp [dR]; done))), kb 111 rfl (.cons (.cons .dt (.cons .ow Ctos.nil)) .nil), trivial⟩
    · skip
      obtain rfl : i = a.2.length := by omega
      refine ACode.exit ?_
      refine ks_e ?_
      refine kl_e ?_
      refine kb_hit ?_
      refine ks_n ?_
      refine ACode.seq ?_
      refine ACode.region ?_
      refine .cons (.bN 2 rfl rfl rfl rfl rfl rfl) ?_
      refine .cons (.sT 2 true rfl rfl rfl rfl rfl rfl rfl) ?_
      refine .nil ?_
      refine ks_n ?_
      refine ACode.ret ?_
      refine kf_wret [(.t 6, .v (.o (.c (.box 100 2 0 0)))), (.b 100, .b 25 2 [[.d (dS a.1), .d (dAs (a.2.map (fun b => affSubst b j.toNat y)))]]), (.u 100, .u)] (Wk.keep [(100, 110)] rfl rfl ⟨ks rfl (.c .bx), kb 110 rfl (.cons (.cons .dt (.cons (.fz rfl (by first | rfl | exact dR_af _ _ | (rw [List.take_length]; done)) (by first | rfl | (simp; done) | (simp; omega)) (by omega)) Ctos.nil)) .nil), trivial⟩) rfl ?_ nobox
      rfl

set_option maxRecDepth 100000 in
set_option maxHeartbeats 1600000 in
theorem l3SubEx_one (e : Ex) (hr : e.r.2.length ≤ 1073741824) (hk : e.ks.length ≤ 1073741824) {y : Aff} (hy : affM y) {j : Int} (hj : 0 ≤ j ∧ j < 4) (hm : ∀ x ∈ affsE e, affM x) (ih : ∀ x ∈ e.ks, Fn Try.prog 136 [] [ad (rX x), nat1 j, ad (rA y)] (.o (ad (rX (mapE (fun b => affSubst b j.toNat y) x)))) []) : Fn Try.prog 136 [] [ad (rX e), nat1 j, ad (rA y)] (.o (ad (rX (mapE (fun b => affSubst b j.toNat y) e)))) [] := by
  refine Fn.code0 Try.func136 rfl rfl rfl rfl ?_
  refine ACode.seq ?_
  refine ACode.region ?_
  refine .cons (St1.boxP rfl rfl rfl rfl rfl rfl) ?_
  refine .cons (St1.boxP rfl rfl rfl rfl rfl rfl) ?_
  refine .cons (.al 106 [.int .i64 0, .int .i64 0, .slice none 0 0, .int .i64 0, .string ByteArray.empty, .slice none 0 0, .slice none 0 0] rfl rfl rfl) ?_
  refine .nil ?_
  refine ks_n ?_
  refine ACode.seq ?_
  refine ACode.region ?_
  refine .cons (.fP 0 0 false rfl rfl) ?_
  refine .cons (.l1 1 rfl rfl) ?_
  refine .cons (.fP 1 0 false rfl rfl) ?_
  refine .cons (.l1 1 rfl rfl) ?_
  refine .cons (.bu [(0, .tmp 10), (1, .tmp 12)] [(0, 1), (1, 1), (2, 2), (4, 2), (6, 1)] [.int .i64 0, .int .i64 0, .slice none 0 0, .int .i64 0, .string ByteArray.empty, .slice none 0 0, .slice none 0 0] rfl rfl rfl rfl rfl) ?_
  refine .cons (.al 107 [.int .i64 0, .int .i64 0, .slice none 0 0, .int .i64 0, .string ByteArray.empty, .slice none 0 0, .slice none 0 0] rfl rfl rfl) ?_
  refine .cons (.sT 7 true rfl rfl rfl rfl rfl rfl rfl) ?_
  refine .nil ?_
  refine ks_n ?_
  refine ACode.seq ?_
  refine ACode.cut [(.t 1, .v (.o (nat1 j))), (.t 3, .v (.o (.c (.ptr (rX e))))), (.t 5, .v (.o (.c (.ptr (rA y))))), (.t 6, .v (.o (.c (.box 810 7 0 0)))), (.t 7, .v (.o (.c (.box 811 7 0 0)))), (.b 810, .b 31 7 [[.d (dI 0), .d (dI 0), .d (.val (.slice none 0 0)), .d (dI 0), .d (dS ByteArray.empty), .d (.val (.slice none 0 0)), .d (.val (.slice none 0 0))]]), (.u 810, .u), (.b 811, .b 31 7 [[.d (dI e.k), .d (dI e.n), .d (dIs (if e.k = 2 then (fun b => affSubst b j.toNat y) e.i else ([], 0)).1), .d (dI (if e.k = 2 then (fun b => affSubst b j.toNat y) e.i else ([], 0)).2), .d (dS ByteArray.empty), .d (.val (.slice none 0 0)), .d (.val (.slice none 0 0))]]), (.u 811, .u)] ?_ ?_
  · skip
    refine ACode.seq ?_
    refine ACode.region ?_
    refine .cons (.fP 0 0 false rfl rfl) ?_
    refine .cons (.l1 1 rfl rfl) ?_
    refine .cons (.eq rfl rfl rfl) ?_
    refine .nil ?_
    refine ks_n ?_
    refine .cD rfl (fun h16 => ?_) (fun h16 => ?_)
    · skip
      refine ACode.region ?_
      refine .cons (.fP 2 1 true rfl rfl) ?_
      refine .cons (.lN 2 rfl rfl rfl) ?_
      refine .cons (.mv rfl rfl) ?_
      refine .cons (.lN 2 rfl rfl rfl) ?_
      refine .cons (.cP [.tmp 18, .tmp 19, .tmp 20] rfl rfl rfl rfl (l1Subst_fn (hm _ (affsE_i h16)) hy hj) rfl) ?_
      refine .cons (.fB 2 1 true rfl rfl rfl) ?_
      refine .cons (.sT 2 true rfl rfl rfl rfl rfl rfl rfl) ?_
      refine .nil ?_
      exact kc_n (Wk.keep [(810, 106), (811, 107)] rfl rfl ⟨ks rfl .dt, ks rfl .dt, ks rfl .dt, ks rfl (.c .bx), ks rfl (.c .bx), kb 106 rfl (.cons (.cons .dt (.cons .dt (.cons .dt (.cons .dt (.cons .dt (.cons .dt (.cons .dt Ctos.nil))))))) .nil), kb 107 rfl (.cons (.cons .dt (.cons .dt (.cons (.dt (by first | rfl | (simp [*]; done) | (simp [*]; rfl))) (.cons (.dt (by first | rfl | (simp [*]; done) | (simp [*]; rfl))) (.cons .dt (.cons .dt (.cons .dt Ctos.nil))))))) .nil), trivial⟩)
    · skip
      refine ACode.skip ?_
      exact kc_n (Wk.keep [(810, 106), (811, 107)] rfl rfl ⟨ks rfl .dt, ks rfl .dt, ks rfl .dt, ks rfl (.c .bx), ks rfl (.c .bx), kb 106 rfl (.cons (.cons .dt (.cons .dt (.cons .dt (.cons .dt (.cons .dt (.cons .dt (.cons .dt Ctos.nil))))))) .nil), kb 107 rfl (.cons (.cons .dt (.cons .dt (.cons (Cto.nilE 1 (by rw [if_neg (show ¬ e.k = 2 by omega)]; rfl)) (.cons (.dt (by first | rfl | (simp [*]; done) | (simp [*]; rfl))) (.cons .dt (.cons .dt (.cons .dt Ctos.nil))))))) .nil), trivial⟩)
  refine ks_n ?_
  refine ACode.seq ?_
  refine ACode.cut [(.t 1, .v (.o (nat1 j))), (.t 3, .v (.o (.c (.ptr (rX e))))), (.t 5, .v (.o (.c (.ptr (rA y))))), (.t 6, .v (.o (.c (.box 820 7 0 0)))), (.t 7, .v (.o (.c (.box 821 7 0 0)))), (.b 820, .b 31 7 [[.d (dI 0), .d (dI 0), .d (.val (.slice none 0 0)), .d (dI 0), .d (dS ByteArray.empty), .d (.val (.slice none 0 0)), .d (.val (.slice none 0 0))]]), (.u 820, .u), (.b 821, .b 31 7 [[.d (dI e.k), .d (dI e.n), .d (dIs (if e.k = 2 then (fun b => affSubst b j.toNat y) e.i else ([], 0)).1), .d (dI (if e.k = 2 then (fun b => affSubst b j.toNat y) e.i else ([], 0)).2), .d (dS (if e.k = 3 then mapC (fun b => affSubst b j.toNat y) e.r else (ByteArray.empty, [])).1), .d (dAs (if e.k = 3 then mapC (fun b => affSubst b j.toNat y) e.r else (ByteArray.empty, [])).2), .d (.val (.slice none 0 0))]]), (.u 821, .u)] ?_ ?_
  · skip
    refine ACode.seq ?_
    refine ACode.region ?_
    refine .cons (.fP 0 0 false rfl rfl) ?_
    refine .cons (.l1 1 rfl rfl) ?_
    refine .cons (.eq rfl rfl rfl) ?_
    refine .nil ?_
    refine ks_n ?_
    refine .cD rfl (fun h25 => ?_) (fun h25 => ?_)
    · skip
      refine ACode.region ?_
      refine .cons (.fP 4 1 true rfl rfl) ?_
      refine .cons (.lN 2 rfl rfl rfl) ?_
      refine .cons (.mv rfl rfl) ?_
      refine .cons (.lN 2 rfl rfl rfl) ?_
      refine .cons (.cP [.tmp 27, .tmp 28, .tmp 29] rfl rfl rfl rfl (l3SubAcc_fn e.r hr hy hj (fun x hx => hm x (affsE_r h25 hx))) rfl) ?_
      refine .cons (.fB 4 1 true rfl rfl rfl) ?_
      refine .cons (.sT 2 true rfl rfl rfl rfl rfl rfl rfl) ?_
      refine .nil ?_
      exact kc_n (Wk.keep [(820, 810), (821, 811)] rfl rfl ⟨ks rfl .dt, ks rfl .dt, ks rfl .dt, ks rfl (.c .bx), ks rfl (.c .bx), kb 810 rfl (.cons (.cons .dt (.cons .dt (.cons .dt (.cons .dt (.cons .dt (.cons .dt (.cons .dt Ctos.nil))))))) .nil), kb 811 rfl (.cons (.cons .dt (.cons .dt (.cons (.dt (by first | rfl | (simp [*]; done) | (simp [*]; rfl))) (.cons (.dt (by first | rfl | (simp [*]; done) | (simp [*]; rfl))) (.cons (.dt (by first | rfl | (simp [*]; done) | (simp [*]; rfl))) (.cons (.dt (by first | rfl | (simp [*]; done) | (simp [*]; rfl))) (.cons .dt Ctos.nil))))))) .nil), trivial⟩)
    · skip
      refine ACode.skip ?_
      exact kc_n (Wk.keep [(820, 810), (821, 811)] rfl rfl ⟨ks rfl .dt, ks rfl .dt, ks rfl .dt, ks rfl (.c .bx), ks rfl (.c .bx), kb 810 rfl (.cons (.cons .dt (.cons .dt (.cons .dt (.cons .dt (.cons .dt (.cons .dt (.cons .dt Ctos.nil))))))) .nil), kb 811 rfl (.cons (.cons .dt (.cons .dt (.cons (.dt (by first | rfl | (simp [*]; done) | (simp [*]; rfl))) (.cons (.dt (by first | rfl | (simp [*]; done) | (simp [*]; rfl))) (.cons (.dt (by first | rfl | (simp [*]; done) | (simp [*]; rfl))) (.cons (Cto.nilE 2 (by rw [if_neg (show ¬ e.k = 3 by omega)]; rfl)) (.cons .dt Ctos.nil))))))) .nil), trivial⟩)
  refine ks_n ?_
  refine ACode.seq ?_
  refine ACode.seq ?_
  refine ACode.region ?_
  refine .cons (.asg rfl rfl) ?_
  refine .nil ?_
  refine ks_n ?_
  refine ACode.block ?_
  refine .loopK (fun m σ => (∃ i : Nat, m = e.ks.length - i ∧ (i = 0) ∧ σ = [(.t 1, .v (.o (nat1 j))), (.t 3, .v (.o (.c (.ptr (rX e))))), (.t 5, .v (.o (.c (.ptr (rA y))))), (.t 6, .v (.o (.c (.box 110 7 0 0)))), (.t 7, .v (.o (.c (.box 111 7 0 0)))), (.t 8, .v (.o (nat1 (i : Nat)))), (.b 110, .b 31 7 [[.d (dI 0), .d (dI 0), .d (.val (.slice none 0 0)), .d (dI 0), .d (dS ByteArray.empty), .d (.val (.slice none 0 0)), .d (.val (.slice none 0 0))]]), (.u 110, .u), (.b 111, .b 31 7 [[.d (dI e.k), .d (dI e.n), .d (dIs (if e.k = 2 then (fun b => affSubst b j.toNat y) e.i else ([], 0)).1), .d (dI (if e.k = 2 then (fun b => affSubst b j.toNat y) e.i else ([], 0)).2), .d (dS (if e.k = 3 then mapC (fun b => affSubst b j.toNat y) e.r else (ByteArray.empty, [])).1), .d (dAs (if e.k = 3 then mapC (fun b => affSubst b j.toNat y) e.r else (ByteArray.empty, [])).2), .d (.val (.slice none 0 0))]]), (.u 111, .u)]) ∨ (∃ i : Nat, m = e.ks.length - i ∧ (1 ≤ i) ∧ (i ≤ e.ks.length) ∧ σ = [(.t 1, .v (.o (nat1 j))), (.t 3, .v (.o (.c (.ptr (rX e))))), (.t 5, .v (.o (.c (.ptr (rA y))))), (.t 6, .v (.o (.c (.box 110 7 0 0)))), (.t 7, .v (.o (.c (.box 111 7 0 0)))), (.t 8, .v (.o (nat1 (i : Nat)))), (.b 110, .b 31 7 [[.d (dI 0), .d (dI 0), .d (.val (.slice none 0 0)), .d (dI 0), .d (dS ByteArray.empty), .d (.val (.slice none 0 0)), .d (.val (.slice none 0 0))]]), (.u 110, .u), (.b 112, .b 31 7 (dR ((e.ks.take i).map fun x => rX (mapE (fun b => affSubst b j.toNat y) x)))), (.u 112, .u), (.b 111, .b 31 7 [[.d (dI e.k), .d (dI e.n), .d (dIs (if e.k = 2 then (fun b => affSubst b j.toNat y) e.i else ([], 0)).1), .d (dI (if e.k = 2 then (fun b => affSubst b j.toNat y) e.i else ([], 0)).2), .d (dS (if e.k = 3 then mapC (fun b => affSubst b j.toNat y) e.r else (ByteArray.empty, [])).1), .d (dAs (if e.k = 3 then mapC (fun b => affSubst b j.toNat y) e.r else (ByteArray.empty, [])).2), .own 112 7 (i)]]), (.u 111, .u)])) [(110, 820), (111, 821)] (.inl ⟨0, rfl, rfl, rfl⟩) ⟨ks rfl .dt, ks rfl .dt, ks rfl .dt, ks rfl (.c .bx), ks rfl (.c .bx), ks rfl .dt, kb 820 rfl (.cons (.cons .dt (.cons .dt (.cons .dt (.cons .dt (.cons .dt (.cons .dt (.cons .dt Ctos.nil))))))) .nil), kb 821 rfl (.cons (.cons .dt (.cons .dt (.cons (.dt (by first | rfl | (simp [*]; done) | (simp [*]; rfl))) (.cons (.dt (by first | rfl | (simp [*]; done) | (simp [*]; rfl))) (.cons (.dt (by first | rfl | (simp [*]; done) | (simp [*]; rfl))) (.cons (.dt (by first | rfl | (simp [*]; done) | (simp [*]; rfl))) (.cons .dt Ctos.nil))))))) .nil), trivial⟩ ?_
  rintro m σ (⟨i, hm0, rfl, rfl⟩ | ⟨i, hm0, hi1, hi2, rfl⟩)
  · skip
    refine ACode.seq ?_
    refine ACode.seq ?_
    refine ACode.region ?_
    refine .cons (.mv rfl rfl) ?_
    refine .cons (.fP 6 0 false rfl rfl) ?_
    refine .cons (.l1 1 rfl rfl) ?_
    refine .cons (.ln 31 7 112 rfl rfl rfl) ?_
    refine .cons (.ls rfl rfl rfl) ?_
    refine .nil ?_
    refine ks_n ?_
    refine .cD rfl (fun h36 => ?_) (fun h36 => ?_)
    · skip
      obtain ⟨x, hx1⟩ : ∃ x, e.ks[0]? = some x := ⟨_, List.getElem?_eq_getElem (by omega)⟩
      refine ACode.skip ?_
      refine ks_n ?_
      refine ACode.seq ?_
      refine ACode.block ?_
      refine ACode.drawK (by kernel_rfl) (by kernel_rfl) ?_
      refine .cons (.fB 6 0 false rfl rfl rfl) ?_
      refine .cons (.b1 1 rfl rfl rfl rfl rfl rfl) ?_
      refine .cons (.fP 6 0 false rfl rfl) ?_
      refine .cons (.l1 1 rfl rfl) ?_
      refine .cons (.mv rfl rfl) ?_
      refine .cons (.xL 31 7 112 rfl rfl rfl rfl rfl (rE_at hx1)) ?_
      refine .cons (.lN 7 rfl rfl rfl) ?_
      refine .cons (.mv rfl rfl) ?_
      refine .cons (.lN 2 rfl rfl rfl) ?_
      refine .cons (.cP [.tmp 45, .tmp 46, .tmp 47] rfl rfl rfl rfl (ih x (List.mem_of_getElem? hx1)) rfl) ?_
      refine .cons (.li 31 6 0 [.tmp 48] rfl rfl rfl rfl rfl rfl) ?_
      refine .cons (St1.appN (k' := 150) (e := 31) (sz := 6) (by' := 112) rfl rfl rfl rfl rfl (by kernel_rfl) rfl rfl rfl (by simp) (by first | (simp [dR]; done) | (simp [dR]; omega)) rfl rfl) ?_
      refine .cons (.fB 6 0 false rfl rfl rfl) ?_
      refine .cons (.sT 1 false rfl rfl rfl rfl rfl rfl rfl) ?_
      refine .nil ⟨by kernel_rfl, ?_⟩
      refine kb_n ?_
      refine ks_n ?_
      refine ACode.region ?_
      refine .cons (.mv rfl rfl) ?_
      refine .cons (.pl rfl rfl rfl) ?_
      refine .cons (.asg rfl rfl) ?_
      refine .nil ?_
      refine kl_k [(110, 110), (111, 111), (112, 150)] (.inr ⟨1, rfl, by omega, by omega, rfl⟩) ⟨ks rfl .dt, ks rfl .dt, ks rfl .dt, ks rfl (.c .bx), ks rfl (.c .bx), ks rfl .dt, kb 110 rfl (.cons (.cons .dt (.cons .dt (.cons .dt (.cons .dt (.cons .dt (.cons .dt (.cons .dt Ctos.nil))))))) .nil), kb 150 rfl (.dt rfl (by first | exact dR_take (fun x => rX (mapE (fun b => affSubst b j.toNat y) x)) hx1 | exact dR_take1 (fun x => rX (mapE (fun b => affSubst b j.toNat y) x)) hx1 | rfl | (simp [dR]; done))), kb 111 rfl (.cons (.cons .dt (.cons .dt (.cons (.dt (by first | rfl | (simp [*]; done) | (simp [*]; rfl))) (.cons (.dt (by first | rfl | (simp [*]; done) | (simp [*]; rfl))) (.cons (.dt (by first | rfl | (simp [*]; done) | (simp [*]; rfl))) (.cons (.dt (by first | rfl | (simp [*]; done) | (simp [*]; rfl))) (.cons .ow Ctos.nil))))))) .nil), trivial⟩
    · skip
      have hn : e.ks = [] := List.eq_nil_of_length_eq_zero (by omega)
      refine ACode.exit ?_
      refine ks_e ?_
      refine kl_e ?_
      refine kb_hit ?_
      refine ks_n ?_
      refine ACode.seq ?_
      refine ACode.region ?_
      refine .cons (.bN 7 rfl rfl rfl rfl rfl rfl) ?_
      refine .cons (.sT 7 true rfl rfl rfl rfl rfl rfl rfl) ?_
      refine .nil ?_
      refine ks_n ?_
      refine ACode.ret ?_
      refine kf_wret [(.t 6, .v (.o (.c (.box 100 7 0 0)))), (.b 100, .b 31 7 [[.d (dI e.k), .d (dI e.n), .d (dIs (if e.k = 2 then (fun b => affSubst b j.toNat y) e.i else ([], 0)).1), .d (dI (if e.k = 2 then (fun b => affSubst b j.toNat y) e.i else ([], 0)).2), .d (dS (if e.k = 3 then mapC (fun b => affSubst b j.toNat y) e.r else (ByteArray.empty, [])).1), .d (dAs (if e.k = 3 then mapC (fun b => affSubst b j.toNat y) e.r else (ByteArray.empty, [])).2), .d (dEs (e.ks.map (mapE (fun b => affSubst b j.toNat y))))]]), (.u 100, .u)] (Wk.keep [(100, 110)] rfl rfl ⟨ks rfl (.c .bx), kb 110 rfl (.cons (.cons .dt (.cons .dt (.cons (.dt (by first | rfl | (simp [*]; done) | (simp [*]; rfl))) (.cons (.dt (by first | rfl | (simp [*]; done) | (simp [*]; rfl))) (.cons (.dt (by first | rfl | (simp [*]; done) | (simp [*]; rfl))) (.cons (.dt (by first | rfl | (simp [*]; done) | (simp [*]; rfl))) (.cons (Cto.nilE 7 (by rw [hn]; rfl)) Ctos.nil))))))) .nil), trivial⟩) rfl ?_ nobox
      rw [rX_map]; rfl
  · skip
    refine ACode.seq ?_
    refine ACode.seq ?_
    refine ACode.region ?_
    refine .cons (.mv rfl rfl) ?_
    refine .cons (.fP 6 0 false rfl rfl) ?_
    refine .cons (.l1 1 rfl rfl) ?_
    refine .cons (.ln 31 7 112 rfl rfl rfl) ?_
    refine .cons (.ls rfl rfl rfl) ?_
    refine .nil ?_
    refine ks_n ?_
    refine .cD rfl (fun h36 => ?_) (fun h36 => ?_)
    · skip
      obtain ⟨x, hx1⟩ : ∃ x, e.ks[i]? = some x := ⟨_, List.getElem?_eq_getElem (by omega)⟩
      refine ACode.skip ?_
      refine ks_n ?_
      refine ACode.seq ?_
      refine ACode.block ?_
      refine ACode.drawK (by kernel_rfl) (by kernel_rfl) ?_
      refine .cons (.fB 6 0 false rfl rfl rfl) ?_
      refine .cons (.b1 1 rfl rfl rfl rfl rfl rfl) ?_
      refine .cons (.fP 6 0 false rfl rfl) ?_
      refine .cons (.l1 1 rfl rfl) ?_
      refine .cons (.mv rfl rfl) ?_
      refine .cons (.xL 31 7 112 rfl rfl rfl rfl rfl (rE_at hx1)) ?_
      refine .cons (.lN 7 rfl rfl rfl) ?_
      refine .cons (.mv rfl rfl) ?_
      refine .cons (.lN 2 rfl rfl rfl) ?_
      refine .cons (.cP [.tmp 45, .tmp 46, .tmp 47] rfl rfl rfl rfl (ih x (List.mem_of_getElem? hx1)) rfl) ?_
      refine .cons (.li 31 6 0 [.tmp 48] rfl rfl rfl rfl rfl rfl) ?_
      refine .cons (St1.appB (k' := 150) (e := 31) (sz := 6) (by' := 112) rfl rfl rfl rfl rfl (by kernel_rfl) rfl rfl rfl rfl (by first | (simp [dR]; done) | (simp [dR]; omega)) (by first | (simp [dR]; done) | (simp [dR]; omega)) rfl rfl rfl) ?_
      refine .cons (.fB 6 0 false rfl rfl rfl) ?_
      refine .cons (.sT 1 false rfl rfl rfl rfl rfl rfl rfl) ?_
      refine .nil ⟨by kernel_rfl, ?_⟩
      refine kb_n ?_
      refine ks_n ?_
      refine ACode.region ?_
      refine .cons (.mv rfl rfl) ?_
      refine .cons (.pl rfl rfl rfl) ?_
      refine .cons (.asg rfl rfl) ?_
      refine .nil ?_
      refine kl_k [(110, 110), (111, 111), (112, 150)] (.inr ⟨i + 1, rfl, by omega, by omega, rfl⟩) ⟨ks rfl .dt, ks rfl .dt, ks rfl .dt, ks rfl (.c .bx), ks rfl (.c .bx), ks rfl .dt, kb 110 rfl (.cons (.cons .dt (.cons .dt (.cons .dt (.cons .dt (.cons .dt (.cons .dt (.cons .dt Ctos.nil))))))) .nil), kb 150 rfl (.dt rfl (by first | exact dR_take (fun x => rX (mapE (fun b => affSubst b j.toNat y) x)) hx1 | exact dR_take1 (fun x => rX (mapE (fun b => affSubst b j.toNat y) x)) hx1 | rfl | (simp [dR]; done))), kb 111 rfl (.cons (.cons .dt (.cons .dt (.cons (.dt (by first | rfl | (simp [*]; done) | (simp [*]; rfl))) (.cons (.dt (by first | rfl | (simp [*]; done) | (simp [*]; rfl))) (.cons (.dt (by first | rfl | (simp [*]; done) | (simp [*]; rfl))) (.cons (.dt (by first | rfl | (simp [*]; done) | (simp [*]; rfl))) (.cons .ow Ctos.nil))))))) .nil), trivial⟩
    · skip
      obtain rfl : i = e.ks.length := by omega
      refine ACode.exit ?_
      refine ks_e ?_
      refine kl_e ?_
      refine kb_hit ?_
      refine ks_n ?_
      refine ACode.seq ?_
      refine ACode.region ?_
      refine .cons (.bN 7 rfl rfl rfl rfl rfl rfl) ?_
      refine .cons (.sT 7 true rfl rfl rfl rfl rfl rfl rfl) ?_
      refine .nil ?_
      refine ks_n ?_
      refine ACode.ret ?_
      refine kf_wret [(.t 6, .v (.o (.c (.box 100 7 0 0)))), (.b 100, .b 31 7 [[.d (dI e.k), .d (dI e.n), .d (dIs (if e.k = 2 then (fun b => affSubst b j.toNat y) e.i else ([], 0)).1), .d (dI (if e.k = 2 then (fun b => affSubst b j.toNat y) e.i else ([], 0)).2), .d (dS (if e.k = 3 then mapC (fun b => affSubst b j.toNat y) e.r else (ByteArray.empty, [])).1), .d (dAs (if e.k = 3 then mapC (fun b => affSubst b j.toNat y) e.r else (ByteArray.empty, [])).2), .d (dEs (e.ks.map (mapE (fun b => affSubst b j.toNat y))))]]), (.u 100, .u)] (Wk.keep [(100, 110)] rfl rfl ⟨ks rfl (.c .bx), kb 110 rfl (.cons (.cons .dt (.cons .dt (.cons (.dt (by first | rfl | (simp [*]; done) | (simp [*]; rfl))) (.cons (.dt (by first | rfl | (simp [*]; done) | (simp [*]; rfl))) (.cons (.dt (by first | rfl | (simp [*]; done) | (simp [*]; rfl))) (.cons (.dt (by first | rfl | (simp [*]; done) | (simp [*]; rfl))) (.cons (.fz rfl (by first | rfl | exact dR_ex _ _ | (rw [List.take_length]; done)) (by first | rfl | (simp; done) | (simp; omega)) (by omega)) Ctos.nil))))))) .nil), trivial⟩) rfl ?_ nobox
      rw [rX_map]; rfl

theorem l3SubEx_fn {y : Aff} (hy : affM y) {j : Int} (hj : 0 ≤ j ∧ j < 4) : ∀ e : Ex, szE e ≤ 1073741824 → (∀ x ∈ affsE e, affM x) → Fn Try.prog 136 [] [ad (rX e), nat1 j, ad (rA y)] (.o (ad (rX (mapE (fun b => affSubst b j.toNat y) e)))) [] := by
  intro e
  induction e using Ex.rec' with
  | h e ih =>
    intro hs hm
    rw [szE_eq, szC] at hs
    have := szAs_len e.r.2
    exact l3SubEx_one e (by omega) (by omega) hy hj hm fun x hx => ih x hx (by have := szEs_mem hx; omega) fun a ha => hm a (affsE_k hx ha)

set_option maxRecDepth 100000 in
set_option maxHeartbeats 1600000 in
theorem l3Subst_fn (s : Stm) (hs : szS s ≤ 1073741824) {y : Aff} (hy : affM y) {j : Int} (hj : 0 ≤ j ∧ j < 4) (hm : ∀ x ∈ affsS s, affM x) : Fn Try.prog 83 [] [ad (rS s), nat1 j, ad (rA y)] (.o (ad (rS (mapS (fun b => affSubst b j.toNat y) s)))) [] := by
  rw [szS, szC] at hs
  have := szAs_len s.1.2
  refine Fn.code0 Try.func83 rfl rfl rfl rfl ?_
  refine ACode.seq ?_
  refine ACode.region ?_
  refine .cons (St1.boxP rfl rfl rfl rfl rfl rfl) ?_
  refine .cons (St1.boxP rfl rfl rfl rfl rfl rfl) ?_
  refine .cons (.al 106 [.string ByteArray.empty, .slice none 0 0, .int .i64 0, .int .i64 0, .slice none 0 0, .int .i64 0, .string ByteArray.empty, .slice none 0 0, .slice none 0 0] rfl rfl rfl) ?_
  refine .nil ?_
  refine ks_n ?_
  refine ACode.seq ?_
  refine ACode.drawK (by kernel_rfl) (by kernel_rfl) ?_
  refine .cons (.fP 0 1 true rfl rfl) ?_
  refine .cons (.lN 2 rfl rfl rfl) ?_
  refine .cons (.mv rfl rfl) ?_
  refine .cons (.lN 2 rfl rfl rfl) ?_
  refine .cons (.cP [.tmp 8, .tmp 9, .tmp 10] rfl rfl rfl rfl (l3SubAcc_fn s.1 (by omega) hy hj (fun x hx => hm x (List.mem_append_left _ hx))) rfl) ?_
  refine .cons (.fP 2 6 true rfl rfl) ?_
  refine .cons (.lN 7 rfl rfl rfl) ?_
  refine .cons (.mv rfl rfl) ?_
  refine .cons (.lN 2 rfl rfl rfl) ?_
  refine .cons (.cP [.tmp 13, .tmp 14, .tmp 15] rfl rfl rfl rfl (l3SubEx_fn hy hj s.2 (by omega) (fun x hx => hm x (List.mem_append_right _ hx))) rfl) ?_
  refine .cons (.bu [(0, .tmp 11), (1, .tmp 16)] [(0, 2), (2, 7)] [.string ByteArray.empty, .slice none 0 0, .int .i64 0, .int .i64 0, .slice none 0 0, .int .i64 0, .string ByteArray.empty, .slice none 0 0, .slice none 0 0] rfl rfl rfl rfl rfl) ?_
  refine .cons (.sT 9 true rfl rfl rfl rfl rfl rfl rfl) ?_
  refine .nil ⟨by kernel_rfl, ?_⟩
  refine ks_n ?_
  refine ACode.ret ?_
  refine kf_ret rfl ?_ nobox
  rfl

end Go.Proofs.Ytigdfdhjnadieaa

/- Statements: SubstStmt, StmtDepth; condition: small lists. -/
namespace Go.Proofs.Ytigdfdhjnadieaa
set_option linter.unusedVariables false
set_option linter.unusedSimpArgs false
open Go.RowKit

theorem fld_aff {d : Nat} {e : Ex} (h : fldV d e.k e.n e.i e.r = true) : (e.k = 2 → bndV d e.i = true) ∧ (e.k = 3 → ∀ x ∈ e.r.2, bndV d x = true) := by
  unfold fldV at h
  refine ⟨fun hk => ?_, fun hk x hx => ?_⟩
  · rw [if_neg (by omega), if_pos hk] at h
    simp only [Bool.and_eq_true] at h
    rw [bndV]; exact Bool.and_eq_true_iff.2 h.1.2
  · rw [if_neg (by omega), if_neg (by omega), if_pos hk] at h
    simp only [Bool.and_eq_true, accV, sideV] at h
    exact List.all_eq_true.1 h.2.2.1.1 x hx
theorem affsEs_of {l : List Ex} {a : Aff} (h : a ∈ affsEs l) : ∃ e ∈ l, a ∈ affsE e := by
  induction l with
  | nil => cases h
  | cons y l ih =>
    rw [affsEs, List.mem_append] at h
    rcases h with h | h
    · exact ⟨y, by simp, h⟩
    · obtain ⟨z, h1, h2⟩ := ih h; exact ⟨z, by simp [h1], h2⟩
theorem exV_aff {d : Nat} : ∀ {L : Nat} {e : Ex}, exV d L e = true → ∀ x ∈ affsE e, bndV d x = true
  | 0, e, h => by cases h
  | L + 1, e, h => by
    intro x hx
    have hk := (exV_kids h).2
    rw [exV, Bool.and_eq_true, Bool.and_eq_true] at h
    obtain ⟨f1, f2⟩ := fld_aff h.1.2
    rw [affsE_eq, List.mem_append, List.mem_append] at hx
    rcases hx with hx | hx | hx
    · split at hx
      · rename_i hk; rw [List.mem_singleton.1 hx]; exact f1 hk
      · cases hx
    · split at hx
      · rename_i hk; exact f2 hk x hx
      · cases hx
    · obtain ⟨z, h1, h2⟩ := affsEs_of hx
      exact exV_aff (hk z h1) x h2
theorem stmtV_aff {d : Int} {s : Stm} (h : stmtV d s = true) : ∀ x ∈ affsS s, affV x = true ∧ affDepth x ≤ d.toNat := by
  intro x hx
  obtain ⟨h1, h2, _⟩ := stmtV_ex h
  have : bndV d.toNat x = true := by
    rw [affsS, List.mem_append] at hx
    rcases hx with hx | hx
    · simp only [accV, sideV, Bool.and_eq_true] at h2
      exact List.all_eq_true.1 h2.2.1.1 x hx
    · exact exV_aff h1 x hx
  simp only [bndV, Bool.and_eq_true, decide_eq_true_eq] at this
  exact this
theorem szAs_map {g : Aff → Aff} : ∀ {l : List Aff}, (∀ x ∈ l, (g x).1.length ≤ x.1.length) → szAs (l.map g) ≤ szAs l
  | [], _ => Nat.le_refl _
  | a :: l, h => by
    have h1 := szAs_map (l := l) fun x hx => h x (by simp [hx])
    have h2 := h a (by simp)
    simp only [szAs, List.length_map, List.map_cons, List.sum_cons, List.length_cons] at h1 ⊢
    omega
theorem szE_map {g : Aff → Aff} : ∀ {e : Ex}, (∀ x ∈ affsE e, (g x).1.length ≤ x.1.length) → szE (mapE g e) ≤ szE e := by
  intro e
  induction e using Ex.rec' with
  | h e ih =>
    intro h
    have hk : ∀ l : List Ex, (∀ x ∈ l, szE (mapE g x) ≤ szE x) → szEs (l.map (mapE g)) ≤ szEs l := by
      intro l
      induction l with
      | nil => intro _; exact Nat.le_refl _
      | cons y l ih =>
        intro h
        have := ih fun x hx => h x (by simp [hx])
        have := h y (by simp)
        simp only [List.map_cons, szEs]; omega
    have h3 := hk e.ks fun x hx => ih x hx fun a ha => h a (affsE_k hx ha)
    rw [mapE_eq, szE, szE_eq, List.length_map]
    have h1 : (if e.k = 2 then g e.i else ([], 0)).1.length ≤ e.i.1.length := by
      split
      · exact h _ (affsE_i (by assumption))
      · exact Nat.zero_le _
    have h2 : szC (if e.k = 3 then mapC g e.r else (ByteArray.empty, [])) ≤ szC e.r := by
      split
      · rw [szC, szC, mapC]
        have := szAs_map (l := e.r.2) fun x hx => h x (affsE_r (by assumption) hx)
        exact Nat.add_le_add_left this _
      · show ByteArray.empty.size + szAs [] ≤ _
        exact Nat.zero_le _
    omega
theorem szS_map {g : Aff → Aff} {s : Stm} (h : ∀ x ∈ affsS s, (g x).1.length ≤ x.1.length) : szS (mapS g s) ≤ szS s := by
  rw [szS, szS, mapS, szC, szC, mapC]
  have h1 := szAs_map (l := s.1.2) fun x hx => h x (List.mem_append_left _ hx)
  have h2 := szE_map (e := s.2) fun x hx => h x (List.mem_append_right _ hx)
  show s.1.1.size + szAs (s.1.2.map g) + szE (mapE g s.2) ≤ _
  omega
/-- The statement without anything. -/
def zS : Stm := ((ByteArray.empty, []), .mk 0 0 ([], 0) (ByteArray.empty, []) [])
def chkS (d : Int) (s : Stm) : Stm × Bool := if stmtV d s = true then (s, true) else (zS, false)
def substS (s : Stm) (v : Int) (a : Aff) : Stm × Bool := if (stmtV 4 s && affV a && inB v 0 3) = true then chkS 4 (mapS (fun b => affSubst b v.toNat a) s) else (zS, false)
theorem substS_no {s : Stm} {v : Int} {a : Aff} (h : (stmtV 4 s && affV a && inB v 0 3) = false) : substS s v a = (zS, false) := by rw [substS, h]; rfl
theorem substS_yes {s : Stm} {v : Int} {a : Aff} (h : (stmtV 4 s && affV a && inB v 0 3) = true) : substS s v a = chkS 4 (mapS (fun b => affSubst b v.toNat a) s) := by rw [substS, if_pos h]
theorem chkS_no {d : Int} {s : Stm} (h : stmtV d s = false) : chkS d s = (zS, false) := by rw [chkS, h]; rfl
theorem chkS_yes {d : Int} {s : Stm} (h : stmtV d s = true) : chkS d s = (s, true) := by rw [chkS, if_pos h]
theorem sub_facts {s : Stm} {v : Int} {a : Aff} (h1 : stmtV 4 s = true) (h2 : affV a = true) (h3 : inB v 0 3 = true) (hs : szS s ≤ 1073741824) : affM a ∧ (0 ≤ v ∧ v < 4) ∧ (∀ x ∈ affsS s, affM x) ∧ szS (mapS (fun b => affSubst b v.toNat a) s) ≤ 1073741824 := by
  refine ⟨affM_of h2, by simp only [inB, decide_eq_true_eq] at h3; omega, fun x hx => affM_of (stmtV_aff h1 x hx).1, Nat.le_trans (szS_map fun x hx => ?_) hs⟩
  rw [affV_len (stmtV_aff h1 x hx).1]
  exact Nat.le_refl _

set_option maxRecDepth 100000 in
set_option maxHeartbeats 1600000 in
theorem subst1_fn {x y : Aff} {j : Int} (hx : affM x) (hy : affM y) (hj : 0 ≤ j ∧ j < 4) : Fn Try.prog 80 [] [ad (rA x), .c (.ptr [dI j]), .c (.ptr (rA y))] (.o (ad (rA (affSubst x j.toNat y)))) [] := by
  refine Fn.code0 Try.func80 rfl rfl rfl rfl ?_
  refine ACode.seq ?_
  refine ACode.region ?_
  refine .cons (St1.boxP rfl rfl rfl rfl rfl rfl) ?_
  refine .cons (.al 104 [.slice none 0 0, .int .i64 0] rfl rfl rfl) ?_
  refine .nil ?_
  refine ks_n ?_
  refine ACode.seq ?_
  refine ACode.region ?_
  refine .cons (.lN 2 rfl rfl rfl) ?_
  refine .cons (.l1 1 rfl rfl) ?_
  refine .cons (.lN 2 rfl rfl rfl) ?_
  refine .cons (.cP [.tmp 5, .tmp 6, .tmp 7] rfl rfl rfl rfl (subst_fn hx hy hj) rfl) ?_
  refine .cons (.sT 2 true rfl rfl rfl rfl rfl rfl rfl) ?_
  refine .nil ?_
  refine ks_n ?_
  refine ACode.ret ?_
  refine kf_ret rfl ?_ nobox
  rfl

set_option maxRecDepth 100000 in
set_option maxHeartbeats 1600000 in
theorem isVar_fn (v : Int) : Fn Try.prog 79 [] [nat1 v] (.o (bo1 (inB v 0 3))) [] := by
  refine Fn.code0 Try.func79 rfl rfl rfl rfl ?_
  refine ACode.seq ?_
  refine ACode.region ?_
  refine .cons (.asg rfl rfl) ?_
  refine .nil ?_
  refine ks_n ?_
  refine ACode.seq ?_
  refine ACode.region ?_
  refine .cons (.mv rfl rfl) ?_
  refine .cons (.cP [.tmp 3, .const (.int .i64 (0)), .const (.int .i64 (3))] rfl rfl rfl rfl (within_fn _ 0 3) rfl) ?_
  refine .cons (.asg rfl rfl) ?_
  refine .nil ?_
  refine ks_n ?_
  refine ACode.ret ?_
  refine kf_ret rfl ?_ nobox
  rfl

set_option maxRecDepth 100000 in
set_option maxHeartbeats 1600000 in
theorem implSub_fn (s : Stm) (v : Int) (a : Aff) (hs : szS s ≤ 1073741824) : Fn Try.prog 31 [] [ad (rS s), nat1 v, ad (rA a)] (.tup [ad (rS (substS s v a).1), bo1 (substS s v a).2]) [] := by
  refine Fn.code0 Try.func31 rfl rfl rfl rfl ?_
  refine ACode.seq ?_
  refine ACode.region ?_
  refine .cons (St1.boxP rfl rfl rfl rfl rfl rfl) ?_
  refine .cons (St1.boxP rfl rfl rfl rfl rfl rfl) ?_
  refine .cons (St1.boxP rfl rfl rfl rfl rfl rfl) ?_
  refine .cons (.al 106 [.string ByteArray.empty, .slice none 0 0, .int .i64 0, .int .i64 0, .slice none 0 0, .int .i64 0, .string ByteArray.empty, .slice none 0 0, .slice none 0 0] rfl rfl rfl) ?_
  refine .cons (.asg rfl rfl) ?_
  refine .nil ?_
  refine ks_n ?_
  refine ACode.seq ?_
  refine ACode.seq ?_
  refine ACode.cut [(.t 3, .v (.o (.c (.ptr (rS s))))), (.t 4, .v (.o (.c (.ptr [dI v])))), (.t 5, .v (.o (.c (.ptr (rA a))))), (.t 6, .v (.o (.c (.box 810 9 0 0)))), (.t 7, .v (.o (bo1 false))), (.t 21, .v (.o (bo1 (!(stmtV 4 s && affV a && inB v 0 3))))), (.b 810, .b 33 9 [[.d (dS ByteArray.empty), .d (.val (.slice none 0 0)), .d (dI 0), .d (dI 0), .d (.val (.slice none 0 0)), .d (dI 0), .d (dS ByteArray.empty), .d (.val (.slice none 0 0)), .d (.val (.slice none 0 0))]]), (.u 810, .u)] ?_ ?_
  · skip
    refine ACode.region ?_
    refine .cons (.lN 9 rfl rfl rfl) ?_
    refine .cons (.cP [.tmp 9] rfl rfl rfl rfl (isStmt_fn s (by omega)) rfl) ?_
    refine .cons (.nt rfl rfl) ?_
    refine .cons (.mv rfl rfl) ?_
    refine AOps.cases 12 _ rfl (fun g12 => ?_) (fun g12 => ?_)
    · try simp only [List.length_map, decide_eq_true_eq, decide_eq_false_iff_not, Bool.not_eq_true', Bool.not_eq_false', Bool.not_eq_true, Bool.not_eq_false] at g12
      refine .cons (.gF rfl rfl rfl) ?_
      refine .cons (.gF rfl rfl rfl) ?_
      refine .cons (.gF rfl rfl rfl) ?_
      refine .cons (.pT rfl rfl rfl) ?_
      refine .cons (.mv rfl rfl) ?_
      refine .cons (.gF rfl rfl rfl) ?_
      refine .cons (.gF rfl rfl rfl) ?_
      refine .cons (.gF rfl rfl rfl) ?_
      refine .cons (.pT rfl rfl rfl) ?_
      refine .nil ?_
      exact kc_n (Wk.keep [(810, 106)] rfl rfl ⟨ks rfl .dt, ks rfl .dt, ks rfl .dt, ks rfl (.c .bx), ks rfl .dt, ks rfl (.dt (vB (by first | (simp [*]; done) | grind))), kb 106 rfl (.cons (.cons .dt (.cons .dt (.cons .dt (.cons .dt (.cons .dt (.cons .dt (.cons .dt (.cons .dt (.cons .dt Ctos.nil))))))))) .nil), trivial⟩)
    · try simp only [List.length_map, decide_eq_true_eq, decide_eq_false_iff_not, Bool.not_eq_true', Bool.not_eq_false', Bool.not_eq_true, Bool.not_eq_false] at g12
      refine .cons (.gT rfl rfl rfl (.lN 2 rfl rfl rfl)) ?_
      refine .cons (.gT rfl rfl rfl (.cP [.tmp 13] rfl rfl rfl rfl (implAffV_fn a) rfl)) ?_
      refine .cons (.gT rfl rfl rfl (.nt rfl rfl)) ?_
      refine .cons (.pF rfl rfl rfl) ?_
      refine .cons (.mv rfl rfl) ?_
      refine AOps.cases 17 _ rfl (fun g17 => ?_) (fun g17 => ?_)
      · try simp only [List.length_map, decide_eq_true_eq, decide_eq_false_iff_not, Bool.not_eq_true', Bool.not_eq_false', Bool.not_eq_true, Bool.not_eq_false] at g17
        refine .cons (.gF rfl rfl rfl) ?_
        refine .cons (.gF rfl rfl rfl) ?_
        refine .cons (.gF rfl rfl rfl) ?_
        refine .cons (.pT rfl rfl rfl) ?_
        refine .nil ?_
        exact kc_n (Wk.keep [(810, 106)] rfl rfl ⟨ks rfl .dt, ks rfl .dt, ks rfl .dt, ks rfl (.c .bx), ks rfl .dt, ks rfl (.dt (vB (by first | (simp [*]; done) | grind))), kb 106 rfl (.cons (.cons .dt (.cons .dt (.cons .dt (.cons .dt (.cons .dt (.cons .dt (.cons .dt (.cons .dt (.cons .dt Ctos.nil))))))))) .nil), trivial⟩)
      · try simp only [List.length_map, decide_eq_true_eq, decide_eq_false_iff_not, Bool.not_eq_true', Bool.not_eq_false', Bool.not_eq_true, Bool.not_eq_false] at g17
        refine .cons (.gT rfl rfl rfl (.l1 1 rfl rfl)) ?_
        refine .cons (.gT rfl rfl rfl (.cP [.tmp 18] rfl rfl rfl rfl (isVar_fn v) rfl)) ?_
        refine .cons (.gT rfl rfl rfl (.nt rfl rfl)) ?_
        refine .cons (.pF rfl rfl rfl) ?_
        refine .nil ?_
        exact kc_n (Wk.keep [(810, 106)] rfl rfl ⟨ks rfl .dt, ks rfl .dt, ks rfl .dt, ks rfl (.c .bx), ks rfl .dt, ks rfl (.dt (vB (by first | (simp [*]; done) | grind))), kb 106 rfl (.cons (.cons .dt (.cons .dt (.cons .dt (.cons .dt (.cons .dt (.cons .dt (.cons .dt (.cons .dt (.cons .dt Ctos.nil))))))))) .nil), trivial⟩)
  refine ks_n ?_
  refine ACode.condT rfl (fun h21 => ?_) (fun h21 => ?_)
  · try simp only [List.length_map, decide_eq_true_eq, decide_eq_false_iff_not, Bool.not_eq_true', Bool.not_eq_false', Bool.not_eq_true, Bool.not_eq_false] at h21
    refine ACode.seq ?_
    refine ACode.region ?_
    refine .cons (.bu [] [(0, 2), (2, 7)] [.string ByteArray.empty, .slice none 0 0, .int .i64 0, .int .i64 0, .slice none 0 0, .int .i64 0, .string ByteArray.empty, .slice none 0 0, .slice none 0 0] rfl rfl rfl rfl rfl) ?_
    refine .cons (.sT 9 true rfl rfl rfl rfl rfl rfl rfl) ?_
    refine .cons (.asg rfl rfl) ?_
    refine .nil ?_
    refine ks_n ?_
    refine ACode.ret ?_
    refine ks_r ?_
    refine kf_wret [(.t 6, .v (.o (.c (.box 100 9 0 0)))), (.t 7, .v (.o (bo1 false))), (.b 100, .b 33 9 [[.d (dS ByteArray.empty), .d (dAs []), .d (dI 0), .d (dI 0), .d (dIs []), .d (dI 0), .d (dS ByteArray.empty), .d (dAs []), .d (dEs [])]]), (.u 100, .u)] (Wk.keep [(100, 810)] rfl rfl ⟨ks rfl (.c .bx), ks rfl .dt, kb 810 rfl (.cons (.cons .dt (.cons (Cto.nil _) (.cons .dt (.cons .dt (.cons (Cto.nil _) (.cons .dt (.cons .dt (.cons (Cto.nil _) (.cons (Cto.nil _) Ctos.nil))))))))) .nil), trivial⟩) rfl ?_ nobox
    rw [substS_no h21]; rfl
  · try simp only [List.length_map, decide_eq_true_eq, decide_eq_false_iff_not, Bool.not_eq_true', Bool.not_eq_false', Bool.not_eq_true, Bool.not_eq_false] at h21
    obtain ⟨q1, q2, q3⟩ : stmtV 4 s = true ∧ affV a = true ∧ inB v 0 3 = true := by simpa [and_assoc] using h21
    have hF := sub_facts q1 q2 q3 hs
    refine ACode.skip ?_
    refine ks_n ?_
    refine ACode.seq ?_
    refine ACode.region ?_
    refine .cons (.lN 9 rfl rfl rfl) ?_
    refine .cons (St1.makeFunc (xs := [.tmp 4, .tmp 5]) rfl rfl rfl rfl rfl rfl rfl) ?_
    refine .cons (.cP [.tmp 23, .tmp 24] rfl rfl rfl rfl (stmtMap_fn (f := 80) (cap := [[dI v], rA a]) (by kernel_rfl) (fun b => affSubst b v.toNat a) s hs (fun x hx => subst1_fn (hF.2.2.1 x hx) hF.1 hF.2.1)) rfl) ?_
    refine .cons (.al 108 [.string ByteArray.empty, .slice none 0 0, .int .i64 0, .int .i64 0, .slice none 0 0, .int .i64 0, .string ByteArray.empty, .slice none 0 0, .slice none 0 0] rfl rfl rfl) ?_
    refine .cons (.sT 9 true rfl rfl rfl rfl rfl rfl rfl) ?_
    refine .nil ?_
    refine ks_n ?_
    refine ACode.seq ?_
    refine ACode.seq ?_
    refine ACode.region ?_
    refine .cons (.bN 9 rfl rfl rfl rfl rfl rfl) ?_
    refine .cons (.cP [.tmp 26] rfl rfl rfl rfl (isStmt_fn (mapS (fun b => affSubst b v.toNat a) s) (by omega)) rfl) ?_
    refine .cons (.nt rfl rfl) ?_
    refine .nil ?_
    refine ks_n ?_
    refine ACode.condT rfl (fun h28 => ?_) (fun h28 => ?_)
    · try simp only [List.length_map, decide_eq_true_eq, decide_eq_false_iff_not, Bool.not_eq_true', Bool.not_eq_false', Bool.not_eq_true, Bool.not_eq_false] at h28
      refine ACode.seq ?_
      refine ACode.region ?_
      refine .cons (.bu [] [(0, 2), (2, 7)] [.string ByteArray.empty, .slice none 0 0, .int .i64 0, .int .i64 0, .slice none 0 0, .int .i64 0, .string ByteArray.empty, .slice none 0 0, .slice none 0 0] rfl rfl rfl rfl rfl) ?_
      refine .cons (.sT 9 true rfl rfl rfl rfl rfl rfl rfl) ?_
      refine .cons (.asg rfl rfl) ?_
      refine .nil ?_
      refine ks_n ?_
      refine ACode.ret ?_
      refine ks_r ?_
      refine kf_wret [(.t 6, .v (.o (.c (.box 100 9 0 0)))), (.t 7, .v (.o (bo1 false))), (.b 100, .b 33 9 [[.d (dS ByteArray.empty), .d (dAs []), .d (dI 0), .d (dI 0), .d (dIs []), .d (dI 0), .d (dS ByteArray.empty), .d (dAs []), .d (dEs [])]]), (.u 100, .u)] (Wk.keep [(100, 810)] rfl rfl ⟨ks rfl (.c .bx), ks rfl .dt, kb 810 rfl (.cons (.cons .dt (.cons (Cto.nil _) (.cons .dt (.cons .dt (.cons (Cto.nil _) (.cons .dt (.cons .dt (.cons (Cto.nil _) (.cons (Cto.nil _) Ctos.nil))))))))) .nil), trivial⟩) rfl ?_ nobox
      rw [substS_yes h21, chkS_no h28]; rfl
    · try simp only [List.length_map, decide_eq_true_eq, decide_eq_false_iff_not, Bool.not_eq_true', Bool.not_eq_false', Bool.not_eq_true, Bool.not_eq_false] at h28
      refine ACode.skip ?_
      refine ks_n ?_
      refine ACode.seq ?_
      refine ACode.region ?_
      refine .cons (.bN 9 rfl rfl rfl rfl rfl rfl) ?_
      refine .cons (.sT 9 true rfl rfl rfl rfl rfl rfl rfl) ?_
      refine .cons (.asg rfl rfl) ?_
      refine .nil ?_
      refine ks_n ?_
      refine ACode.ret ?_
      refine kf_ret rfl ?_ nobox
      rw [substS_yes h21, chkS_yes h28]; rfl

set_option maxRecDepth 100000 in
set_option maxHeartbeats 1600000 in
theorem specSub_fn (s : Stm) (v : Int) (a : Aff) (hs : szS s ≤ 1073741824) : Fn Try.prog 32 [] [ad (rS s), nat1 v, ad (rA a)] (.tup [ad (rS (substS s v a).1), bo1 (substS s v a).2]) [] := by
  refine Fn.code0 Try.func32 rfl rfl rfl rfl ?_
  refine ACode.seq ?_
  refine ACode.region ?_
  refine .cons (St1.boxP rfl rfl rfl rfl rfl rfl) ?_
  refine .cons (St1.boxP rfl rfl rfl rfl rfl rfl) ?_
  refine .cons (.al 106 [.string ByteArray.empty, .slice none 0 0, .int .i64 0, .int .i64 0, .slice none 0 0, .int .i64 0, .string ByteArray.empty, .slice none 0 0, .slice none 0 0] rfl rfl rfl) ?_
  refine .cons (.asg rfl rfl) ?_
  refine .nil ?_
  refine ks_n ?_
  refine ACode.seq ?_
  refine ACode.seq ?_
  refine ACode.cut [(.t 1, .v (.o (nat1 v))), (.t 3, .v (.o (.c (.ptr (rS s))))), (.t 5, .v (.o (.c (.ptr (rA a))))), (.t 6, .v (.o (.c (.box 810 9 0 0)))), (.t 7, .v (.o (bo1 false))), (.t 24, .v (.o (bo1 (!(stmtV 4 s && affV a && inB v 0 3))))), (.b 810, .b 33 9 [[.d (dS ByteArray.empty), .d (.val (.slice none 0 0)), .d (dI 0), .d (dI 0), .d (.val (.slice none 0 0)), .d (dI 0), .d (dS ByteArray.empty), .d (.val (.slice none 0 0)), .d (.val (.slice none 0 0))]]), (.u 810, .u)] ?_ ?_
  · skip
    refine ACode.region ?_
    refine .cons (.lN 9 rfl rfl rfl) ?_
    refine .cons (.cP [.tmp 9, .const (.int .i64 (4))] rfl rfl rfl rfl (specStmtV_fn 4 s (by omega)) rfl) ?_
    refine .cons (.nt rfl rfl) ?_
    refine .cons (.mv rfl rfl) ?_
    refine AOps.cases 12 _ rfl (fun g12 => ?_) (fun g12 => ?_)
    · try simp only [List.length_map, decide_eq_true_eq, decide_eq_false_iff_not, Bool.not_eq_true', Bool.not_eq_false', Bool.not_eq_true, Bool.not_eq_false] at g12
      refine .cons (.gF rfl rfl rfl) ?_
      refine .cons (.gF rfl rfl rfl) ?_
      refine .cons (.gF rfl rfl rfl) ?_
      refine .cons (.pT rfl rfl rfl) ?_
      refine .cons (.mv rfl rfl) ?_
      refine .cons (.gF rfl rfl rfl) ?_
      refine .cons (.gF rfl rfl rfl) ?_
      refine .cons (.pT rfl rfl rfl) ?_
      refine .cons (.mv rfl rfl) ?_
      refine .cons (.gF rfl rfl rfl) ?_
      refine .cons (.gF rfl rfl rfl) ?_
      refine .cons (.pT rfl rfl rfl) ?_
      refine .nil ?_
      exact kc_n (Wk.keep [(810, 106)] rfl rfl ⟨ks rfl .dt, ks rfl .dt, ks rfl .dt, ks rfl (.c .bx), ks rfl .dt, ks rfl (.dt (vB (by rw [inB]; first | (simp [*]; done) | grind))), kb 106 rfl (.cons (.cons .dt (.cons .dt (.cons .dt (.cons .dt (.cons .dt (.cons .dt (.cons .dt (.cons .dt (.cons .dt Ctos.nil))))))))) .nil), trivial⟩)
    · try simp only [List.length_map, decide_eq_true_eq, decide_eq_false_iff_not, Bool.not_eq_true', Bool.not_eq_false', Bool.not_eq_true, Bool.not_eq_false] at g12
      refine .cons (.gT rfl rfl rfl (.lN 2 rfl rfl rfl)) ?_
      refine .cons (.gT rfl rfl rfl (.cP [.tmp 13] rfl rfl rfl rfl (specAffV_fn a) rfl)) ?_
      refine .cons (.gT rfl rfl rfl (.nt rfl rfl)) ?_
      refine .cons (.pF rfl rfl rfl) ?_
      refine .cons (.mv rfl rfl) ?_
      refine AOps.cases 17 _ rfl (fun g17 => ?_) (fun g17 => ?_)
      · try simp only [List.length_map, decide_eq_true_eq, decide_eq_false_iff_not, Bool.not_eq_true', Bool.not_eq_false', Bool.not_eq_true, Bool.not_eq_false] at g17
        refine .cons (.gF rfl rfl rfl) ?_
        refine .cons (.gF rfl rfl rfl) ?_
        refine .cons (.pT rfl rfl rfl) ?_
        refine .cons (.mv rfl rfl) ?_
        refine .cons (.gF rfl rfl rfl) ?_
        refine .cons (.gF rfl rfl rfl) ?_
        refine .cons (.pT rfl rfl rfl) ?_
        refine .nil ?_
        exact kc_n (Wk.keep [(810, 106)] rfl rfl ⟨ks rfl .dt, ks rfl .dt, ks rfl .dt, ks rfl (.c .bx), ks rfl .dt, ks rfl (.dt (vB (by rw [inB]; first | (simp [*]; done) | grind))), kb 106 rfl (.cons (.cons .dt (.cons .dt (.cons .dt (.cons .dt (.cons .dt (.cons .dt (.cons .dt (.cons .dt (.cons .dt Ctos.nil))))))))) .nil), trivial⟩)
      · try simp only [List.length_map, decide_eq_true_eq, decide_eq_false_iff_not, Bool.not_eq_true', Bool.not_eq_false', Bool.not_eq_true, Bool.not_eq_false] at g17
        refine .cons (.gT rfl rfl rfl (.mv rfl rfl)) ?_
        refine .cons (.gT rfl rfl rfl (.ls rfl rfl rfl)) ?_
        refine .cons (.pF rfl rfl rfl) ?_
        refine .cons (.mv rfl rfl) ?_
        refine AOps.cases 21 _ rfl (fun g21 => ?_) (fun g21 => ?_)
        · try simp only [List.length_map, decide_eq_true_eq, decide_eq_false_iff_not, Bool.not_eq_true', Bool.not_eq_false', Bool.not_eq_true, Bool.not_eq_false] at g21
          refine .cons (.gF rfl rfl rfl) ?_
          refine .cons (.gF rfl rfl rfl) ?_
          refine .cons (.pT rfl rfl rfl) ?_
          refine .nil ?_
          exact kc_n (Wk.keep [(810, 106)] rfl rfl ⟨ks rfl .dt, ks rfl .dt, ks rfl .dt, ks rfl (.c .bx), ks rfl .dt, ks rfl (.dt (vB (by rw [inB]; first | (simp [*]; done) | grind))), kb 106 rfl (.cons (.cons .dt (.cons .dt (.cons .dt (.cons .dt (.cons .dt (.cons .dt (.cons .dt (.cons .dt (.cons .dt Ctos.nil))))))))) .nil), trivial⟩)
        · try simp only [List.length_map, decide_eq_true_eq, decide_eq_false_iff_not, Bool.not_eq_true', Bool.not_eq_false', Bool.not_eq_true, Bool.not_eq_false] at g21
          refine .cons (.gT rfl rfl rfl (.mv rfl rfl)) ?_
          refine .cons (.gT rfl rfl rfl (.ge rfl rfl rfl)) ?_
          refine .cons (.pF rfl rfl rfl) ?_
          refine .nil ?_
          exact kc_n (Wk.keep [(810, 106)] rfl rfl ⟨ks rfl .dt, ks rfl .dt, ks rfl .dt, ks rfl (.c .bx), ks rfl .dt, ks rfl (.dt (vB (by rw [inB]; first | (simp [*]; done) | grind))), kb 106 rfl (.cons (.cons .dt (.cons .dt (.cons .dt (.cons .dt (.cons .dt (.cons .dt (.cons .dt (.cons .dt (.cons .dt Ctos.nil))))))))) .nil), trivial⟩)
  refine ks_n ?_
  refine ACode.condT rfl (fun h24 => ?_) (fun h24 => ?_)
  · try simp only [List.length_map, decide_eq_true_eq, decide_eq_false_iff_not, Bool.not_eq_true', Bool.not_eq_false', Bool.not_eq_true, Bool.not_eq_false] at h24
    refine ACode.seq ?_
    refine ACode.region ?_
    refine .cons (.bu [] [(0, 2), (2, 7)] [.string ByteArray.empty, .slice none 0 0, .int .i64 0, .int .i64 0, .slice none 0 0, .int .i64 0, .string ByteArray.empty, .slice none 0 0, .slice none 0 0] rfl rfl rfl rfl rfl) ?_
    refine .cons (.sT 9 true rfl rfl rfl rfl rfl rfl rfl) ?_
    refine .cons (.asg rfl rfl) ?_
    refine .nil ?_
    refine ks_n ?_
    refine ACode.ret ?_
    refine ks_r ?_
    refine kf_wret [(.t 6, .v (.o (.c (.box 100 9 0 0)))), (.t 7, .v (.o (bo1 false))), (.b 100, .b 33 9 [[.d (dS ByteArray.empty), .d (dAs []), .d (dI 0), .d (dI 0), .d (dIs []), .d (dI 0), .d (dS ByteArray.empty), .d (dAs []), .d (dEs [])]]), (.u 100, .u)] (Wk.keep [(100, 810)] rfl rfl ⟨ks rfl (.c .bx), ks rfl .dt, kb 810 rfl (.cons (.cons .dt (.cons (Cto.nil _) (.cons .dt (.cons .dt (.cons (Cto.nil _) (.cons .dt (.cons .dt (.cons (Cto.nil _) (.cons (Cto.nil _) Ctos.nil))))))))) .nil), trivial⟩) rfl ?_ nobox
    rw [substS_no h24]; rfl
  · try simp only [List.length_map, decide_eq_true_eq, decide_eq_false_iff_not, Bool.not_eq_true', Bool.not_eq_false', Bool.not_eq_true, Bool.not_eq_false] at h24
    obtain ⟨q1, q2, q3⟩ : stmtV 4 s = true ∧ affV a = true ∧ inB v 0 3 = true := by simpa [and_assoc] using h24
    have hF := sub_facts q1 q2 q3 hs
    refine ACode.skip ?_
    refine ks_n ?_
    refine ACode.seq ?_
    refine ACode.region ?_
    refine .cons (.lN 9 rfl rfl rfl) ?_
    refine .cons (.mv rfl rfl) ?_
    refine .cons (.lN 2 rfl rfl rfl) ?_
    refine .cons (.cP [.tmp 26, .tmp 27, .tmp 28] rfl rfl rfl rfl (l3Subst_fn s hs hF.1 hF.2.1 hF.2.2.1) rfl) ?_
    refine .cons (.al 108 [.string ByteArray.empty, .slice none 0 0, .int .i64 0, .int .i64 0, .slice none 0 0, .int .i64 0, .string ByteArray.empty, .slice none 0 0, .slice none 0 0] rfl rfl rfl) ?_
    refine .cons (.sT 9 true rfl rfl rfl rfl rfl rfl rfl) ?_
    refine .nil ?_
    refine ks_n ?_
    refine ACode.seq ?_
    refine ACode.seq ?_
    refine ACode.region ?_
    refine .cons (.bN 9 rfl rfl rfl rfl rfl rfl) ?_
    refine .cons (.cP [.tmp 30, .const (.int .i64 (4))] rfl rfl rfl rfl (specStmtV_fn 4 (mapS (fun b => affSubst b v.toNat a) s) (by omega)) rfl) ?_
    refine .cons (.nt rfl rfl) ?_
    refine .nil ?_
    refine ks_n ?_
    refine ACode.condT rfl (fun h32 => ?_) (fun h32 => ?_)
    · try simp only [List.length_map, decide_eq_true_eq, decide_eq_false_iff_not, Bool.not_eq_true', Bool.not_eq_false', Bool.not_eq_true, Bool.not_eq_false] at h32
      refine ACode.seq ?_
      refine ACode.region ?_
      refine .cons (.bu [] [(0, 2), (2, 7)] [.string ByteArray.empty, .slice none 0 0, .int .i64 0, .int .i64 0, .slice none 0 0, .int .i64 0, .string ByteArray.empty, .slice none 0 0, .slice none 0 0] rfl rfl rfl rfl rfl) ?_
      refine .cons (.sT 9 true rfl rfl rfl rfl rfl rfl rfl) ?_
      refine .cons (.asg rfl rfl) ?_
      refine .nil ?_
      refine ks_n ?_
      refine ACode.ret ?_
      refine ks_r ?_
      refine kf_wret [(.t 6, .v (.o (.c (.box 100 9 0 0)))), (.t 7, .v (.o (bo1 false))), (.b 100, .b 33 9 [[.d (dS ByteArray.empty), .d (dAs []), .d (dI 0), .d (dI 0), .d (dIs []), .d (dI 0), .d (dS ByteArray.empty), .d (dAs []), .d (dEs [])]]), (.u 100, .u)] (Wk.keep [(100, 810)] rfl rfl ⟨ks rfl (.c .bx), ks rfl .dt, kb 810 rfl (.cons (.cons .dt (.cons (Cto.nil _) (.cons .dt (.cons .dt (.cons (Cto.nil _) (.cons .dt (.cons .dt (.cons (Cto.nil _) (.cons (Cto.nil _) Ctos.nil))))))))) .nil), trivial⟩) rfl ?_ nobox
      rw [substS_yes h24, chkS_no h32]; rfl
    · try simp only [List.length_map, decide_eq_true_eq, decide_eq_false_iff_not, Bool.not_eq_true', Bool.not_eq_false', Bool.not_eq_true, Bool.not_eq_false] at h32
      refine ACode.skip ?_
      refine ks_n ?_
      refine ACode.seq ?_
      refine ACode.region ?_
      refine .cons (.bN 9 rfl rfl rfl rfl rfl rfl) ?_
      refine .cons (.sT 9 true rfl rfl rfl rfl rfl rfl rfl) ?_
      refine .cons (.asg rfl rfl) ?_
      refine .nil ?_
      refine ks_n ?_
      refine ACode.ret ?_
      refine kf_ret rfl ?_ nobox
      rw [substS_yes h24, chkS_yes h32]; rfl

end Go.Proofs.Ytigdfdhjnadieaa
