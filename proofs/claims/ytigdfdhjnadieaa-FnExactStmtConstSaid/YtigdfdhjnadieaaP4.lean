/- Part 4 of 5 of the proof: laws on memory and data, then what the functions compute, in the order in which they build on each other; conditions: those that each theorem names. -/
import Derived.Laws.MakeOwn
import Derived.Test.YtigdfdhjnadieaaP3

/- Statements: copies and maps; condition: small lists. -/
namespace Go.Proofs.Ytigdfdhjnadieaa
set_option linter.unusedVariables false
set_option linter.unusedSimpArgs false
open Go.RowKit

theorem Fn.ofAff {P : Program} {f : FuncId} {args : List V1} {x : Aff} (hn : x.1.length ≤ 17592186044416) (h : ∀ (B : Nat → Prop) (bx : Nat → Nat × Nat) (al : Nat → Prop) (w : World) (vs : List Value), Vals (V1r bx al B w) args vs → Calls P f vs.toArray w (RetAff x w)) : Fn P f [] args (.o (ad (rA x))) [] :=
  Fn.pure fun B bx al w vs hv => (h B bx al w vs hv).mono fun e w' ⟨v, e1, ho, hb⟩ => ⟨v, e1, hb, aff_dr ((ho.r hn).mono fun b hb _ => .inr hb)⟩
theorem Fn.ofA2 {P : Program} {f : FuncId} {args : List V1} {x : Aff} {ok : Bool} (h : ∀ (B : Nat → Prop) (bx : Nat → Nat × Nat) (al : Nat → Prop) (w : World) (vs : List Value), Vals (V1r bx al B w) args vs → Calls P f vs.toArray w (RetA2 (fun b => B b ∨ w.heap.size ≤ b) x ok w)) : Fn P f [] args (.tup [ad (rA x), bo1 ok]) [] :=
  Fn.pure fun B bx al w vs hv => (h B bx al w vs hv).mono fun e w' ⟨v, e1, ho, hb⟩ => ⟨_, e1, hb, ⟨[v, .bool ok], rfl, rfl, fun i c u hc hu => by
    match i, hc, hu with
    | 0, hc, hu => cases hc; cases hu; exact aff_dr ho
    | 1, hc, hu => cases hc; cases hu; exact .val _ rfl⟩⟩
theorem vals3 {R : V1 → Value → Prop} {x y z : V1} {vs : List Value} (h : Vals R [x, y, z] vs) : ∃ u v t, vs = [u, v, t] ∧ R x u ∧ R y v ∧ R z t := by
  obtain ⟨hl, h⟩ := h
  match vs, hl with
  | [u, v, t], _ => exact ⟨u, v, t, rfl, h 0 x u rfl rfl, h 1 y v rfl rfl, h 2 z t rfl rfl⟩
theorem RetA2.mono {P Q : Nat → Prop} {x : Aff} {ok : Bool} {w : World} {e : Ending} {w' : World} (hp : ∀ b, P b → Q b) (h : RetA2 P x ok w e w') : RetA2 Q x ok w e w' := by
  obtain ⟨v, e, ha, hb⟩ := h
  exact ⟨v, e, ha.mono fun b hb _ => hp b hb, hb⟩
theorem nat_v {bx : Nat → Nat × Nat} {al B : Nat → Prop} {w : World} {n : Int} {v : Value} (h : V1r bx al B w (nat1 n) v) : v = .int .i64 n := by cases h; rfl
theorem ownAff_fn {x : Aff} (hx : x.1.length ≤ 1073741824) : Fn Try.prog 122 [] [ad (rA x)] (.o (ad (rA x))) [] :=
  Fn.ofAff (by omega) fun B bx al w vs hv => by
    obtain ⟨v, rfl, h⟩ := vals1 hv
    exact ownAff_any B v x w (dr_aff h) (by omega)
theorem subst_fn {x y : Aff} {j : Int} (hx : affM x) (hy : affM y) (hj : 0 ≤ j ∧ j < 4) : Fn Try.prog 81 [] [ad (rA x), nat1 j, ad (rA y)] (.o (ad (rA (affSubst x j.toNat y)))) [] :=
  Fn.ofAff (by simp [affSubst, affSum]) fun B bx al w vs hv => by
    obtain ⟨v, t, u, rfl, h1, h2, h3⟩ := vals3 hv
    rw [nat_v h2]
    have h := subst_any B B v u x y j.toNat w (dr_aff h1) (dr_aff h3) hx hy (by omega)
    rwa [show ((j.toNat : Nat) : Int) = j by omega] at h
theorem SubstAff_fn (x y : Aff) (j : Int) : Fn Try.prog 42 [] [ad (rA x), nat1 j, ad (rA y)] (.tup [ad (rA (substOf x j y).1), bo1 (substOf x j y).2]) [] :=
  Fn.ofA2 fun B bx al w vs hv => by
    obtain ⟨v, t, u, rfl, h1, h2, h3⟩ := vals3 hv
    rw [nat_v h2]
    exact (implSubst_any B B v x u y j w (dr_aff h1) (dr_aff h3)).mono fun e w' h => h.mono fun b hb => .inr hb
theorem VarAff_fn (j : Int) : Fn Try.prog 44 [] [nat1 j] (.tup [ad (rA (varOf j).1), bo1 (varOf j).2]) [] :=
  Fn.ofA2 fun B bx al w vs hv => by
    obtain ⟨v, rfl, h1⟩ := vals1 hv
    rw [nat_v h1]
    exact (implVar_any j w).mono fun e w' h => h.mono fun b hb => .inr hb
theorem EvalAff_fn (x : Aff) (p : List Int) : Fn Try.prog 39 [] [ad (rA x), vD (dIs p)] (.o (nat1 (evalOf x p))) [] :=
  Fn.pure fun B bx al w vs hv => by
    obtain ⟨u, v, rfl, h1, h2⟩ := vals2 hv
    have h3 := dr_ints h2
    obtain ⟨a, n, c, rfl, rfl⟩ := sl_form h3
    exact (implEval_any B B u x a _ c p w (dr_aff h1) h3).mono fun e w' ⟨h1, h2⟩ => ⟨_, h1, h2, .val _ rfl⟩
theorem rX_map (g : Aff → Aff) (e : Ex) : rX (mapE g e) = [dI e.k, dI e.n, dIs (if e.k = 2 then g e.i else ([], 0)).1, dI (if e.k = 2 then g e.i else ([], 0)).2, dS (if e.k = 3 then mapC g e.r else (ByteArray.empty, [])).1, dAs (if e.k = 3 then mapC g e.r else (ByteArray.empty, [])).2, dEs (e.ks.map (mapE g))] := by
  cases e with
  | mk k n i r ks => rw [mapE, mapEs_map]; rfl
theorem dR_ex (f : Ex → Ex) (l : List Ex) : dR ((l.take l.length).map fun x => rX (f x)) = dR ((l.map f).map rE) := by
  rw [List.take_length, List.map_map]
  congr 1
  exact List.map_congr_left fun x _ => (rE_eq _).symm
theorem dR_af (f : Aff → Aff) (l : List Aff) : dR ((l.take l.length).map fun x => rA (f x)) = dR ((l.map f).map rA) := by
  rw [List.take_length, List.map_map]; rfl

set_option maxRecDepth 100000 in
set_option maxHeartbeats 1600000 in
theorem accMap_fn {f : FuncId} {cap : List (List D)} (hc : callable Try.prog f = true) (g : Aff → Aff) (a : Acc) (ha : a.2.length ≤ 1073741824) (hg : ∀ x ∈ a.2, Fn Try.prog f [] (ad (rA x) :: cap.map fun c => .c (.ptr c)) (.o (ad (rA (g x)))) []) : Fn Try.prog 120 [] [ad (rC a), .c (.fn f cap)] (.o (ad (rC (mapC g a)))) [] := by
  refine Fn.code0 Try.func120 rfl rfl rfl rfl ?_
  refine ACode.seq ?_
  refine ACode.region ?_
  refine .cons (St1.boxP rfl rfl rfl rfl rfl rfl) ?_
  refine .cons (.al 104 [.string ByteArray.empty, .slice none 0 0] rfl rfl rfl) ?_
  refine .nil ?_
  refine ks_n ?_
  refine ACode.seq ?_
  refine ACode.region ?_
  refine .cons (.fP 0 0 false rfl rfl) ?_
  refine .cons (.l1 1 rfl rfl) ?_
  refine .cons (.bu [(0, .tmp 9)] [(0, 1), (1, 1)] [.string ByteArray.empty, .slice none 0 0] rfl rfl rfl rfl rfl) ?_
  refine .cons (.al 105 [.string ByteArray.empty, .slice none 0 0] rfl rfl rfl) ?_
  refine .cons (.sT 2 true rfl rfl rfl rfl rfl rfl rfl) ?_
  refine .nil ?_
  refine ks_n ?_
  refine ACode.seq ?_
  refine ACode.seq ?_
  refine ACode.region ?_
  refine .cons (.fP 1 0 false rfl rfl) ?_
  refine .cons (.l1 1 rfl rfl) ?_
  refine .cons (.ln 28 2 32 rfl rfl rfl) ?_
  refine .cons (.mv rfl rfl) ?_
  refine .nil ?_
  refine ks_n ?_
  refine ACode.block ?_
  refine .loopK (fun m σ => (∃ i : Nat, m = a.2.length - i ∧ (i = 0) ∧ σ = [(.t 1, .v (.o (.c (.fn f cap)))), (.t 2, .v (.o (.c (.ptr (rC a))))), (.t 4, .v (.o (.c (.box 110 2 0 0)))), (.t 5, .v (.o (.c (.box 111 2 0 0)))), (.t 12, .v (.o (vD (dAs a.2)))), (.t 13, .v (.o (nat1 (a.2.length : Nat)))), (.t 14, .v (.o (nat1 (i : Nat)))), (.b 110, .b 25 2 [[.d (dS ByteArray.empty), .d (.val (.slice none 0 0))]]), (.u 110, .u), (.b 111, .b 25 2 [[.d (dS a.1), .d (.val (.slice none 0 0))]]), (.u 111, .u)]) ∨ (∃ i : Nat, m = a.2.length - i ∧ (1 ≤ i) ∧ (i ≤ a.2.length) ∧ σ = [(.t 1, .v (.o (.c (.fn f cap)))), (.t 2, .v (.o (.c (.ptr (rC a))))), (.t 4, .v (.o (.c (.box 110 2 0 0)))), (.t 5, .v (.o (.c (.box 111 2 0 0)))), (.t 12, .v (.o (vD (dAs a.2)))), (.t 13, .v (.o (nat1 (a.2.length : Nat)))), (.t 14, .v (.o (nat1 (i : Nat)))), (.b 110, .b 25 2 [[.d (dS ByteArray.empty), .d (.val (.slice none 0 0))]]), (.u 110, .u), (.b 112, .b 28 2 (dR ((a.2.take i).map fun x => rA (g x)))), (.u 112, .u), (.b 111, .b 25 2 [[.d (dS a.1), .own 112 2 (i)]]), (.u 111, .u)])) [(110, 104), (111, 105)] (.inl ⟨0, rfl, rfl, rfl⟩) ⟨ks rfl .dt, ks rfl .dt, ks rfl (.c .bx), ks rfl (.c .bx), ks rfl .dt, ks rfl .dt, ks rfl .dt, kb 104 rfl (.cons (.cons .dt (.cons .dt Ctos.nil)) .nil), kb 105 rfl (.cons (.cons .dt (.cons .dt Ctos.nil)) .nil), trivial⟩ ?_
  rintro m σ (⟨i, hm0, rfl, rfl⟩ | ⟨i, hm0, hi1, hi2, rfl⟩)
  · skip
    refine ACode.seq ?_
    refine ACode.region ?_
    refine .cons (.ls rfl rfl rfl) ?_
    refine .nil ?_
    refine ks_n ?_
    refine ACode.seq ?_
    refine .cD rfl (fun h15 => ?_) (fun h15 => ?_)
    · skip
      obtain ⟨x, hx1⟩ : ∃ x, a.2[0]? = some x := ⟨_, List.getElem?_eq_getElem (by omega)⟩
      refine ACode.skip ?_
      refine ks_n ?_
      refine ACode.seq ?_
      refine ACode.block ?_
      refine ACode.seq ?_
      refine ACode.region ?_
      refine .cons (.xL 28 2 32 rfl rfl rfl rfl rfl) ?_
      refine .cons (.lN 2 rfl rfl rfl) ?_
      refine .cons (.al 107 [.slice none 0 0, .int .i64 0] rfl rfl rfl) ?_
      refine .cons (.sT 2 true rfl rfl rfl rfl rfl rfl rfl) ?_
      refine .nil ?_
      refine ks_n ?_
      refine ACode.drawK (by kernel_rfl) (by kernel_rfl) ?_
      refine .cons (.fB 1 0 false rfl rfl rfl) ?_
      refine .cons (.b1 1 rfl rfl rfl rfl rfl rfl) ?_
      refine .cons (.mv rfl rfl) ?_
      refine .cons (.bN 2 rfl rfl rfl rfl rfl rfl) ?_
      refine .cons (.cP [.tmp 21] rfl rfl rfl rfl (hg x (List.mem_of_getElem? hx1)) rfl hc) ?_
      refine .cons (.li 28 1 0 [.tmp 22] rfl rfl rfl rfl rfl rfl) ?_
      refine .cons (St1.appN (k' := 124) (e := 28) (sz := 1) (by' := 32) rfl rfl rfl rfl rfl (by kernel_rfl) rfl rfl rfl (by simp) (by first | (simp [dR]; done) | (simp [dR]; omega)) rfl rfl) ?_
      refine .cons (.fB 1 0 false rfl rfl rfl) ?_
      refine .cons (.sT 1 false rfl rfl rfl rfl rfl rfl rfl) ?_
      refine .nil ⟨by kernel_rfl, ?_⟩
      refine kb_n ?_
      refine ks_n ?_
      refine ACode.region ?_
      refine .cons (.pl rfl rfl rfl) ?_
      refine .cons (.mv rfl rfl) ?_
      refine .nil ?_
      refine kl_k [(110, 110), (111, 111), (112, 124)] (.inr ⟨1, rfl, by omega, by omega, rfl⟩) ⟨ks rfl .dt, ks rfl .dt, ks rfl (.c .bx), ks rfl (.c .bx), ks rfl .dt, ks rfl .dt, ks rfl .dt, kb 110 rfl (.cons (.cons .dt (.cons .dt Ctos.nil)) .nil), kb 124 rfl (.dt rfl (by first | exact dR_take (fun x => rA (g x)) hx1 | exact dR_take1 (fun x => rA (g x)) hx1 | rfl | (simp [dR]; done))), kb 111 rfl (.cons (.cons .dt (.cons .ow Ctos.nil)) .nil), trivial⟩
    · skip
      have hn : a.2 = [] := List.eq_nil_of_length_eq_zero (by omega)
      refine ACode.exit ?_
      refine ks_e ?_
      refine kl_e ?_
      refine kb_hit ?_
      refine ks_n ?_
      refine ACode.seq ?_
      refine ACode.region ?_
      refine .cons (.bN 2 rfl rfl rfl rfl rfl rfl) ?_
      refine .cons (.sT 2 true rfl rfl rfl rfl rfl rfl rfl) ?_
      refine .nil ?_
      refine ks_n ?_
      refine ACode.ret ?_
      refine kf_wret [(.t 4, .v (.o (.c (.box 100 2 0 0)))), (.b 100, .b 25 2 [[.d (dS a.1), .d (dAs (a.2.map g))]]), (.u 100, .u)] (Wk.keep [(100, 110)] rfl rfl ⟨ks rfl (.c .bx), kb 110 rfl (.cons (.cons .dt (.cons (Cto.nilE 2 (by rw [hn]; rfl)) Ctos.nil)) .nil), trivial⟩) rfl ?_ nobox
      rfl
  · skip
    refine ACode.seq ?_
    refine ACode.region ?_
    refine .cons (.ls rfl rfl rfl) ?_
    refine .nil ?_
    refine ks_n ?_
    refine ACode.seq ?_
    refine .cD rfl (fun h15 => ?_) (fun h15 => ?_)
    · skip
      obtain ⟨x, hx1⟩ : ∃ x, a.2[i]? = some x := ⟨_, List.getElem?_eq_getElem (by omega)⟩
      refine ACode.skip ?_
      refine ks_n ?_
      refine ACode.seq ?_
      refine ACode.block ?_
      refine ACode.seq ?_
      refine ACode.region ?_
      refine .cons (.xL 28 2 32 rfl rfl rfl rfl rfl) ?_
      refine .cons (.lN 2 rfl rfl rfl) ?_
      refine .cons (.al 107 [.slice none 0 0, .int .i64 0] rfl rfl rfl) ?_
      refine .cons (.sT 2 true rfl rfl rfl rfl rfl rfl rfl) ?_
      refine .nil ?_
      refine ks_n ?_
      refine ACode.drawK (by kernel_rfl) (by kernel_rfl) ?_
      refine .cons (.fB 1 0 false rfl rfl rfl) ?_
      refine .cons (.b1 1 rfl rfl rfl rfl rfl rfl) ?_
      refine .cons (.mv rfl rfl) ?_
      refine .cons (.bN 2 rfl rfl rfl rfl rfl rfl) ?_
      refine .cons (.cP [.tmp 21] rfl rfl rfl rfl (hg x (List.mem_of_getElem? hx1)) rfl hc) ?_
      refine .cons (.li 28 1 0 [.tmp 22] rfl rfl rfl rfl rfl rfl) ?_
      refine .cons (St1.appB (k' := 124) (e := 28) (sz := 1) (by' := 32) rfl rfl rfl rfl rfl (by kernel_rfl) rfl rfl rfl rfl (by first | (simp [dR]; done) | (simp [dR]; omega)) (by first | (simp [dR]; done) | (simp [dR]; omega)) rfl rfl rfl) ?_
      refine .cons (.fB 1 0 false rfl rfl rfl) ?_
      refine .cons (.sT 1 false rfl rfl rfl rfl rfl rfl rfl) ?_
      refine .nil ⟨by kernel_rfl, ?_⟩
      refine kb_n ?_
      refine ks_n ?_
      refine ACode.region ?_
      refine .cons (.pl rfl rfl rfl) ?_
      refine .cons (.mv rfl rfl) ?_
      refine .nil ?_
      refine kl_k [(110, 110), (111, 111), (112, 124)] (.inr ⟨i + 1, rfl, by omega, by omega, rfl⟩) ⟨ks rfl .dt, ks rfl .dt, ks rfl (.c .bx), ks rfl (.c .bx), ks rfl .dt, ks rfl .dt, ks rfl .dt, kb 110 rfl (.cons (.cons .dt (.cons .dt Ctos.nil)) .nil), kb 124 rfl (.dt rfl (by first | exact dR_take (fun x => rA (g x)) hx1 | exact dR_take1 (fun x => rA (g x)) hx1 | rfl | (simp [dR]; done))), kb 111 rfl (.cons (.cons .dt (.cons .ow Ctos.nil)) .nil), trivial⟩
    · skip
      obtain rfl : i = a.2.length := by omega
      refine ACode.exit ?_
      refine ks_e ?_
      refine kl_e ?_
      refine kb_hit ?_
      refine ks_n ?_
      refine ACode.seq ?_
      refine ACode.region ?_
      refine .cons (.bN 2 rfl rfl rfl rfl rfl rfl) ?_
      refine .cons (.sT 2 true rfl rfl rfl rfl rfl rfl rfl) ?_
      refine .nil ?_
      refine ks_n ?_
      refine ACode.ret ?_
      refine kf_wret [(.t 4, .v (.o (.c (.box 100 2 0 0)))), (.b 100, .b 25 2 [[.d (dS a.1), .d (dAs (a.2.map g))]]), (.u 100, .u)] (Wk.keep [(100, 110)] rfl rfl ⟨ks rfl (.c .bx), kb 110 rfl (.cons (.cons .dt (.cons (.fz rfl (by first | rfl | exact dR_af _ _ | (rw [List.take_length]; done)) (by first | rfl | (simp; done) | (simp; omega)) (by omega)) Ctos.nil)) .nil), trivial⟩) rfl ?_ nobox
      rfl

mutual
def affsE : Ex → List Aff
  | .mk k _ i r ks => (if k = 2 then [i] else []) ++ ((if k = 3 then r.2 else []) ++ affsEs ks)
def affsEs : List Ex → List Aff
  | [] => []
  | e :: l => affsE e ++ affsEs l
end
theorem affsE_eq (e : Ex) : affsE e = (if e.k = 2 then [e.i] else []) ++ ((if e.k = 3 then e.r.2 else []) ++ affsEs e.ks) := by cases e; rw [affsE]; rfl
theorem affsEs_mem : ∀ {l : List Ex} {e : Ex}, e ∈ l → ∀ a ∈ affsE e, a ∈ affsEs l
  | x :: l, e, h, a, ha => by
    rw [affsEs, List.mem_append]
    rcases List.mem_cons.1 h with rfl | h
    · exact .inl ha
    · exact .inr (affsEs_mem h a ha)
theorem affsE_i {e : Ex} (h : e.k = 2) : e.i ∈ affsE e := by rw [affsE_eq, if_pos h]; simp
theorem affsE_r {e : Ex} (h : e.k = 3) {a : Aff} (ha : a ∈ e.r.2) : a ∈ affsE e := by rw [affsE_eq, if_pos h]; simp [ha]
theorem affsE_k {e x : Ex} (h : x ∈ e.ks) {a : Aff} (ha : a ∈ affsE x) : a ∈ affsE e := by rw [affsE_eq]; simp [affsEs_mem h a ha]
def affsS (s : Stm) : List Aff := s.1.2 ++ affsE s.2

set_option maxRecDepth 100000 in
set_option maxHeartbeats 1600000 in
theorem exprMap_one {f : FuncId} {cap : List (List D)} (hc : callable Try.prog f = true) (g : Aff → Aff) (e : Ex) (hr : e.r.2.length ≤ 1073741824) (hk : e.ks.length ≤ 1073741824) (hg : ∀ x ∈ affsE e, Fn Try.prog f [] (ad (rA x) :: cap.map fun c => .c (.ptr c)) (.o (ad (rA (g x)))) []) (ih : ∀ x ∈ e.ks, Fn Try.prog 121 [] [ad (rX x), .c (.fn f cap)] (.o (ad (rX (mapE g x)))) []) : Fn Try.prog 121 [] [ad (rX e), .c (.fn f cap)] (.o (ad (rX (mapE g e)))) [] := by
  refine Fn.code0 Try.func121 rfl rfl rfl rfl ?_
  refine ACode.seq ?_
  refine ACode.region ?_
  refine .cons (St1.boxP rfl rfl rfl rfl rfl rfl) ?_
  refine .cons (.al 104 [.int .i64 0, .int .i64 0, .slice none 0 0, .int .i64 0, .string ByteArray.empty, .slice none 0 0, .slice none 0 0] rfl rfl rfl) ?_
  refine .nil ?_
  refine ks_n ?_
  refine ACode.seq ?_
  refine ACode.region ?_
  refine .cons (.fP 0 0 false rfl rfl) ?_
  refine .cons (.l1 1 rfl rfl) ?_
  refine .cons (.fP 1 0 false rfl rfl) ?_
  refine .cons (.l1 1 rfl rfl) ?_
  refine .cons (.bu [(0, .tmp 9), (1, .tmp 11)] [(0, 1), (1, 1), (2, 2), (4, 2), (6, 1)] [.int .i64 0, .int .i64 0, .slice none 0 0, .int .i64 0, .string ByteArray.empty, .slice none 0 0, .slice none 0 0] rfl rfl rfl rfl rfl) ?_
  refine .cons (.al 105 [.int .i64 0, .int .i64 0, .slice none 0 0, .int .i64 0, .string ByteArray.empty, .slice none 0 0, .slice none 0 0] rfl rfl rfl) ?_
  refine .cons (.sT 7 true rfl rfl rfl rfl rfl rfl rfl) ?_
  refine .nil ?_
  refine ks_n ?_
  refine ACode.seq ?_
  refine ACode.seq ?_
  refine ACode.region ?_
  refine .cons (.fP 0 0 false rfl rfl) ?_
  refine .cons (.l1 1 rfl rfl) ?_
  refine .nil ?_
  refine ks_n ?_
  refine ACode.block ?_
  refine ACode.seq ?_
  refine ACode.region ?_
  refine .cons (.eq rfl rfl rfl) ?_
  refine .cons (.asg rfl rfl) ?_
  refine .nil ?_
  refine ks_n ?_
  refine .cD rfl (fun h15 => ?_) (fun h15 => ?_)
  · skip
    refine ACode.region ?_
    refine .cons (.mv rfl rfl) ?_
    refine .cons (.fP 2 1 true rfl rfl) ?_
    refine .cons (.lN 2 rfl rfl rfl) ?_
    refine .cons (.cP [.tmp 19] rfl rfl rfl rfl (hg _ (affsE_i h15)) rfl hc) ?_
    refine .cons (.fB 2 1 true rfl rfl rfl) ?_
    refine .cons (.sT 2 true rfl rfl rfl rfl rfl rfl rfl) ?_
    refine .nil ?_
    refine kb_n ?_
    refine ks_n ?_
    refine ACode.seq ?_
    refine ACode.seq ?_
    refine ACode.region ?_
    refine .cons (.fP 6 0 false rfl rfl) ?_
    refine .cons (.l1 1 rfl rfl) ?_
    refine .cons (.ln 31 7 112 rfl rfl rfl) ?_
    refine .cons (.mv rfl rfl) ?_
    refine .nil ?_
    refine ks_n ?_
    refine ACode.block ?_
    refine .loopK (fun m σ => (∃ i : Nat, m = e.ks.length - i ∧ (i = 0) ∧ σ = [(.t 1, .v (.o (.c (.fn f cap)))), (.t 2, .v (.o (.c (.ptr (rX e))))), (.t 4, .v (.o (.c (.box 110 7 0 0)))), (.t 5, .v (.o (.c (.box 111 7 0 0)))), (.t 30, .v (.o (vD (dEs e.ks)))), (.t 31, .v (.o (nat1 (e.ks.length : Nat)))), (.t 32, .v (.o (nat1 (i : Nat)))), (.b 110, .b 31 7 [[.d (dI 0), .d (dI 0), .d (.val (.slice none 0 0)), .d (dI 0), .d (dS ByteArray.empty), .d (.val (.slice none 0 0)), .d (.val (.slice none 0 0))]]), (.u 110, .u), (.b 111, .b 31 7 [[.d (dI e.k), .d (dI e.n), .d (dIs (if e.k = 2 then g e.i else ([], 0)).1), .d (dI (if e.k = 2 then g e.i else ([], 0)).2), .d (dS (if e.k = 3 then mapC g e.r else (ByteArray.empty, [])).1), .d (dAs (if e.k = 3 then mapC g e.r else (ByteArray.empty, [])).2), .d (.val (.slice none 0 0))]]), (.u 111, .u)]) ∨ (∃ i : Nat, m = e.ks.length - i ∧ (1 ≤ i) ∧ (i ≤ e.ks.length) ∧ σ = [(.t 1, .v (.o (.c (.fn f cap)))), (.t 2, .v (.o (.c (.ptr (rX e))))), (.t 4, .v (.o (.c (.box 110 7 0 0)))), (.t 5, .v (.o (.c (.box 111 7 0 0)))), (.t 30, .v (.o (vD (dEs e.ks)))), (.t 31, .v (.o (nat1 (e.ks.length : Nat)))), (.t 32, .v (.o (nat1 (i : Nat)))), (.b 110, .b 31 7 [[.d (dI 0), .d (dI 0), .d (.val (.slice none 0 0)), .d (dI 0), .d (dS ByteArray.empty), .d (.val (.slice none 0 0)), .d (.val (.slice none 0 0))]]), (.u 110, .u), (.b 112, .b 31 7 (dR ((e.ks.take i).map fun x => rX (mapE g x)))), (.u 112, .u), (.b 111, .b 31 7 [[.d (dI e.k), .d (dI e.n), .d (dIs (if e.k = 2 then g e.i else ([], 0)).1), .d (dI (if e.k = 2 then g e.i else ([], 0)).2), .d (dS (if e.k = 3 then mapC g e.r else (ByteArray.empty, [])).1), .d (dAs (if e.k = 3 then mapC g e.r else (ByteArray.empty, [])).2), .own 112 7 (i)]]), (.u 111, .u)])) [(110, 104), (111, 105)] (.inl ⟨0, rfl, rfl, rfl⟩) ⟨ks rfl .dt, ks rfl .dt, ks rfl (.c .bx), ks rfl (.c .bx), ks rfl .dt, ks rfl .dt, ks rfl .dt, kb 104 rfl (.cons (.cons .dt (.cons .dt (.cons .dt (.cons .dt (.cons .dt (.cons .dt (.cons .dt Ctos.nil))))))) .nil), kb 105 rfl (.cons (.cons .dt (.cons .dt (.cons (.dt (by first | rfl | (simp [*]; done) | (simp [*]; rfl))) (.cons (.dt (by first | rfl | (simp [*]; done) | (simp [*]; rfl))) (.cons (.dt (by first | rfl | (simp [*]; done) | (simp [*]; rfl))) (.cons (Cto.nilE 2 (by rw [if_neg (show ¬ e.k = 3 by omega)]; rfl)) (.cons .dt Ctos.nil))))))) .nil), trivial⟩ ?_
    rintro m σ (⟨i, hm0, rfl, rfl⟩ | ⟨i, hm0, hi1, hi2, rfl⟩)
    · skip
      refine ACode.seq ?_
      refine ACode.region ?_
      refine .cons (.ls rfl rfl rfl) ?_
      refine .nil ?_
      refine ks_n ?_
      refine ACode.seq ?_
      refine .cD rfl (fun h33 => ?_) (fun h33 => ?_)
      · skip
        obtain ⟨x, hx1⟩ : ∃ x, e.ks[0]? = some x := ⟨_, List.getElem?_eq_getElem (by omega)⟩
        refine ACode.skip ?_
        refine ks_n ?_
        refine ACode.seq ?_
        refine ACode.block ?_
        refine ACode.seq ?_
        refine ACode.region ?_
        refine .cons (.xL 31 7 112 rfl rfl rfl rfl rfl (rE_at hx1)) ?_
        refine .cons (.lN 7 rfl rfl rfl) ?_
        refine .cons (.al 107 [.int .i64 0, .int .i64 0, .slice none 0 0, .int .i64 0, .string ByteArray.empty, .slice none 0 0, .slice none 0 0] rfl rfl rfl) ?_
        refine .cons (.sT 7 true rfl rfl rfl rfl rfl rfl rfl) ?_
        refine .nil ?_
        refine ks_n ?_
        refine ACode.drawK (by kernel_rfl) (by kernel_rfl) ?_
        refine .cons (.fB 6 0 false rfl rfl rfl) ?_
        refine .cons (.b1 1 rfl rfl rfl rfl rfl rfl) ?_
        refine .cons (.bN 7 rfl rfl rfl rfl rfl rfl) ?_
        refine .cons (.mv rfl rfl) ?_
        refine .cons (.cP [.tmp 38, .tmp 39] rfl rfl rfl rfl (ih x (List.mem_of_getElem? hx1)) rfl) ?_
        refine .cons (.li 31 6 0 [.tmp 40] rfl rfl rfl rfl rfl rfl) ?_
        refine .cons (St1.appN (k' := 142) (e := 31) (sz := 6) (by' := 112) rfl rfl rfl rfl rfl (by kernel_rfl) rfl rfl rfl (by simp) (by first | (simp [dR]; done) | (simp [dR]; omega)) rfl rfl) ?_
        refine .cons (.fB 6 0 false rfl rfl rfl) ?_
        refine .cons (.sT 1 false rfl rfl rfl rfl rfl rfl rfl) ?_
        refine .nil ⟨by kernel_rfl, ?_⟩
        refine kb_n ?_
        refine ks_n ?_
        refine ACode.region ?_
        refine .cons (.pl rfl rfl rfl) ?_
        refine .cons (.mv rfl rfl) ?_
        refine .nil ?_
        refine kl_k [(110, 110), (111, 111), (112, 142)] (.inr ⟨1, rfl, by omega, by omega, rfl⟩) ⟨ks rfl .dt, ks rfl .dt, ks rfl (.c .bx), ks rfl (.c .bx), ks rfl .dt, ks rfl .dt, ks rfl .dt, kb 110 rfl (.cons (.cons .dt (.cons .dt (.cons .dt (.cons .dt (.cons .dt (.cons .dt (.cons .dt Ctos.nil))))))) .nil), kb 142 rfl (.dt rfl (by first | exact dR_take (fun x => rX (mapE g x)) hx1 | exact dR_take1 (fun x => rX (mapE g x)) hx1 | rfl | (simp [dR]; done))), kb 111 rfl (.cons (.cons .dt (.cons .dt (.cons (.dt (by first | rfl | (simp [*]; done) | (simp [*]; rfl))) (.cons (.dt (by first | rfl | (simp [*]; done) | (simp [*]; rfl))) (.cons (.dt (by first | rfl | (simp [*]; done) | (simp [*]; rfl))) (.cons (.dt (by first | rfl | (simp [*]; done) | (simp [*]; rfl))) (.cons .ow Ctos.nil))))))) .nil), trivial⟩
      · skip
        have hn : e.ks = [] := List.eq_nil_of_length_eq_zero (by omega)
        refine ACode.exit ?_
        refine ks_e ?_
        refine kl_e ?_
        refine kb_hit ?_
        refine ks_n ?_
        refine ACode.seq ?_
        refine ACode.region ?_
        refine .cons (.bN 7 rfl rfl rfl rfl rfl rfl) ?_
        refine .cons (.sT 7 true rfl rfl rfl rfl rfl rfl rfl) ?_
        refine .nil ?_
        refine ks_n ?_
        refine ACode.ret ?_
        refine kf_wret [(.t 4, .v (.o (.c (.box 100 7 0 0)))), (.b 100, .b 31 7 [[.d (dI e.k), .d (dI e.n), .d (dIs (if e.k = 2 then g e.i else ([], 0)).1), .d (dI (if e.k = 2 then g e.i else ([], 0)).2), .d (dS (if e.k = 3 then mapC g e.r else (ByteArray.empty, [])).1), .d (dAs (if e.k = 3 then mapC g e.r else (ByteArray.empty, [])).2), .d (dEs (e.ks.map (mapE g)))]]), (.u 100, .u)] (Wk.keep [(100, 110)] rfl rfl ⟨ks rfl (.c .bx), kb 110 rfl (.cons (.cons .dt (.cons .dt (.cons (.dt (by first | rfl | (simp [*]; done) | (simp [*]; rfl))) (.cons (.dt (by first | rfl | (simp [*]; done) | (simp [*]; rfl))) (.cons (.dt (by first | rfl | (simp [*]; done) | (simp [*]; rfl))) (.cons (.dt (by first | rfl | (simp [*]; done) | (simp [*]; rfl))) (.cons (Cto.nilE 7 (by rw [hn]; rfl)) Ctos.nil))))))) .nil), trivial⟩) rfl ?_ nobox
        rw [rX_map]; rfl
    · skip
      refine ACode.seq ?_
      refine ACode.region ?_
      refine .cons (.ls rfl rfl rfl) ?_
      refine .nil ?_
      refine ks_n ?_
      refine ACode.seq ?_
      refine .cD rfl (fun h33 => ?_) (fun h33 => ?_)
      · skip
        obtain ⟨x, hx1⟩ : ∃ x, e.ks[i]? = some x := ⟨_, List.getElem?_eq_getElem (by omega)⟩
        refine ACode.skip ?_
        refine ks_n ?_
        refine ACode.seq ?_
        refine ACode.block ?_
        refine ACode.seq ?_
        refine ACode.region ?_
        refine .cons (.xL 31 7 112 rfl rfl rfl rfl rfl (rE_at hx1)) ?_
        refine .cons (.lN 7 rfl rfl rfl) ?_
        refine .cons (.al 107 [.int .i64 0, .int .i64 0, .slice none 0 0, .int .i64 0, .string ByteArray.empty, .slice none 0 0, .slice none 0 0] rfl rfl rfl) ?_
        refine .cons (.sT 7 true rfl rfl rfl rfl rfl rfl rfl) ?_
        refine .nil ?_
        refine ks_n ?_
        refine ACode.drawK (by kernel_rfl) (by kernel_rfl) ?_
        refine .cons (.fB 6 0 false rfl rfl rfl) ?_
        refine .cons (.b1 1 rfl rfl rfl rfl rfl rfl) ?_
        refine .cons (.bN 7 rfl rfl rfl rfl rfl rfl) ?_
        refine .cons (.mv rfl rfl) ?_
        refine .cons (.cP [.tmp 38, .tmp 39] rfl rfl rfl rfl (ih x (List.mem_of_getElem? hx1)) rfl) ?_
        refine .cons (.li 31 6 0 [.tmp 40] rfl rfl rfl rfl rfl rfl) ?_
        refine .cons (St1.appB (k' := 142) (e := 31) (sz := 6) (by' := 112) rfl rfl rfl rfl rfl (by kernel_rfl) rfl rfl rfl rfl (by first | (simp [dR]; done) | (simp [dR]; omega)) (by first | (simp [dR]; done) | (simp [dR]; omega)) rfl rfl rfl) ?_
        refine .cons (.fB 6 0 false rfl rfl rfl) ?_
        refine .cons (.sT 1 false rfl rfl rfl rfl rfl rfl rfl) ?_
        refine .nil ⟨by kernel_rfl, ?_⟩
        refine kb_n ?_
        refine ks_n ?_
        refine ACode.region ?_
        refine .cons (.pl rfl rfl rfl) ?_
        refine .cons (.mv rfl rfl) ?_
        refine .nil ?_
        refine kl_k [(110, 110), (111, 111), (112, 142)] (.inr ⟨i + 1, rfl, by omega, by omega, rfl⟩) ⟨ks rfl .dt, ks rfl .dt, ks rfl (.c .bx), ks rfl (.c .bx), ks rfl .dt, ks rfl .dt, ks rfl .dt, kb 110 rfl (.cons (.cons .dt (.cons .dt (.cons .dt (.cons .dt (.cons .dt (.cons .dt (.cons .dt Ctos.nil))))))) .nil), kb 142 rfl (.dt rfl (by first | exact dR_take (fun x => rX (mapE g x)) hx1 | exact dR_take1 (fun x => rX (mapE g x)) hx1 | rfl | (simp [dR]; done))), kb 111 rfl (.cons (.cons .dt (.cons .dt (.cons (.dt (by first | rfl | (simp [*]; done) | (simp [*]; rfl))) (.cons (.dt (by first | rfl | (simp [*]; done) | (simp [*]; rfl))) (.cons (.dt (by first | rfl | (simp [*]; done) | (simp [*]; rfl))) (.cons (.dt (by first | rfl | (simp [*]; done) | (simp [*]; rfl))) (.cons .ow Ctos.nil))))))) .nil), trivial⟩
      · skip
        obtain rfl : i = e.ks.length := by omega
        refine ACode.exit ?_
        refine ks_e ?_
        refine kl_e ?_
        refine kb_hit ?_
        refine ks_n ?_
        refine ACode.seq ?_
        refine ACode.region ?_
        refine .cons (.bN 7 rfl rfl rfl rfl rfl rfl) ?_
        refine .cons (.sT 7 true rfl rfl rfl rfl rfl rfl rfl) ?_
        refine .nil ?_
        refine ks_n ?_
        refine ACode.ret ?_
        refine kf_wret [(.t 4, .v (.o (.c (.box 100 7 0 0)))), (.b 100, .b 31 7 [[.d (dI e.k), .d (dI e.n), .d (dIs (if e.k = 2 then g e.i else ([], 0)).1), .d (dI (if e.k = 2 then g e.i else ([], 0)).2), .d (dS (if e.k = 3 then mapC g e.r else (ByteArray.empty, [])).1), .d (dAs (if e.k = 3 then mapC g e.r else (ByteArray.empty, [])).2), .d (dEs (e.ks.map (mapE g)))]]), (.u 100, .u)] (Wk.keep [(100, 110)] rfl rfl ⟨ks rfl (.c .bx), kb 110 rfl (.cons (.cons .dt (.cons .dt (.cons (.dt (by first | rfl | (simp [*]; done) | (simp [*]; rfl))) (.cons (.dt (by first | rfl | (simp [*]; done) | (simp [*]; rfl))) (.cons (.dt (by first | rfl | (simp [*]; done) | (simp [*]; rfl))) (.cons (.dt (by first | rfl | (simp [*]; done) | (simp [*]; rfl))) (.cons (.fz rfl (by first | rfl | exact dR_ex _ _ | (rw [List.take_length]; done)) (by first | rfl | (simp; done) | (simp; omega)) (by omega)) Ctos.nil))))))) .nil), trivial⟩) rfl ?_ nobox
        rw [rX_map]; rfl
  · skip
    refine ACode.seq ?_
    refine ACode.region ?_
    refine .cons (.eq rfl rfl rfl) ?_
    refine .cons (.asg rfl rfl) ?_
    refine .nil ?_
    refine ks_n ?_
    refine .cD rfl (fun h22 => ?_) (fun h22 => ?_)
    · skip
      refine ACode.region ?_
      refine .cons (.fP 4 1 true rfl rfl) ?_
      refine .cons (.lN 2 rfl rfl rfl) ?_
      refine .cons (.mv rfl rfl) ?_
      refine .cons (.cP [.tmp 25, .tmp 26] rfl rfl rfl rfl (accMap_fn hc g e.r hr (fun x hx => hg x (affsE_r h22 hx))) rfl) ?_
      refine .cons (.fB 4 1 true rfl rfl rfl) ?_
      refine .cons (.sT 2 true rfl rfl rfl rfl rfl rfl rfl) ?_
      refine .nil ?_
      refine kb_n ?_
      refine ks_n ?_
      refine ACode.seq ?_
      refine ACode.seq ?_
      refine ACode.region ?_
      refine .cons (.fP 6 0 false rfl rfl) ?_
      refine .cons (.l1 1 rfl rfl) ?_
      refine .cons (.ln 31 7 112 rfl rfl rfl) ?_
      refine .cons (.mv rfl rfl) ?_
      refine .nil ?_
      refine ks_n ?_
      refine ACode.block ?_
      refine .loopK (fun m σ => (∃ i : Nat, m = e.ks.length - i ∧ (i = 0) ∧ σ = [(.t 1, .v (.o (.c (.fn f cap)))), (.t 2, .v (.o (.c (.ptr (rX e))))), (.t 4, .v (.o (.c (.box 110 7 0 0)))), (.t 5, .v (.o (.c (.box 111 7 0 0)))), (.t 30, .v (.o (vD (dEs e.ks)))), (.t 31, .v (.o (nat1 (e.ks.length : Nat)))), (.t 32, .v (.o (nat1 (i : Nat)))), (.b 110, .b 31 7 [[.d (dI 0), .d (dI 0), .d (.val (.slice none 0 0)), .d (dI 0), .d (dS ByteArray.empty), .d (.val (.slice none 0 0)), .d (.val (.slice none 0 0))]]), (.u 110, .u), (.b 111, .b 31 7 [[.d (dI e.k), .d (dI e.n), .d (dIs (if e.k = 2 then g e.i else ([], 0)).1), .d (dI (if e.k = 2 then g e.i else ([], 0)).2), .d (dS (if e.k = 3 then mapC g e.r else (ByteArray.empty, [])).1), .d (dAs (if e.k = 3 then mapC g e.r else (ByteArray.empty, [])).2), .d (.val (.slice none 0 0))]]), (.u 111, .u)]) ∨ (∃ i : Nat, m = e.ks.length - i ∧ (1 ≤ i) ∧ (i ≤ e.ks.length) ∧ σ = [(.t 1, .v (.o (.c (.fn f cap)))), (.t 2, .v (.o (.c (.ptr (rX e))))), (.t 4, .v (.o (.c (.box 110 7 0 0)))), (.t 5, .v (.o (.c (.box 111 7 0 0)))), (.t 30, .v (.o (vD (dEs e.ks)))), (.t 31, .v (.o (nat1 (e.ks.length : Nat)))), (.t 32, .v (.o (nat1 (i : Nat)))), (.b 110, .b 31 7 [[.d (dI 0), .d (dI 0), .d (.val (.slice none 0 0)), .d (dI 0), .d (dS ByteArray.empty), .d (.val (.slice none 0 0)), .d (.val (.slice none 0 0))]]), (.u 110, .u), (.b 112, .b 31 7 (dR ((e.ks.take i).map fun x => rX (mapE g x)))), (.u 112, .u), (.b 111, .b 31 7 [[.d (dI e.k), .d (dI e.n), .d (dIs (if e.k = 2 then g e.i else ([], 0)).1), .d (dI (if e.k = 2 then g e.i else ([], 0)).2), .d (dS (if e.k = 3 then mapC g e.r else (ByteArray.empty, [])).1), .d (dAs (if e.k = 3 then mapC g e.r else (ByteArray.empty, [])).2), .own 112 7 (i)]]), (.u 111, .u)])) [(110, 104), (111, 105)] (.inl ⟨0, rfl, rfl, rfl⟩) ⟨ks rfl .dt, ks rfl .dt, ks rfl (.c .bx), ks rfl (.c .bx), ks rfl .dt, ks rfl .dt, ks rfl .dt, kb 104 rfl (.cons (.cons .dt (.cons .dt (.cons .dt (.cons .dt (.cons .dt (.cons .dt (.cons .dt Ctos.nil))))))) .nil), kb 105 rfl (.cons (.cons .dt (.cons .dt (.cons (Cto.nilE 1 (by rw [if_neg (show ¬ e.k = 2 by omega)]; rfl)) (.cons (.dt (by first | rfl | (simp [*]; done) | (simp [*]; rfl))) (.cons (.dt (by first | rfl | (simp [*]; done) | (simp [*]; rfl))) (.cons (.dt (by first | rfl | (simp [*]; done) | (simp [*]; rfl))) (.cons .dt Ctos.nil))))))) .nil), trivial⟩ ?_
      rintro m σ (⟨i, hm0, rfl, rfl⟩ | ⟨i, hm0, hi1, hi2, rfl⟩)
      · skip
        refine ACode.seq ?_
        refine ACode.region ?_
        refine .cons (.ls rfl rfl rfl) ?_
        refine .nil ?_
        refine ks_n ?_
        refine ACode.seq ?_
        refine .cD rfl (fun h33 => ?_) (fun h33 => ?_)
        · skip
          obtain ⟨x, hx1⟩ : ∃ x, e.ks[0]? = some x := ⟨_, List.getElem?_eq_getElem (by omega)⟩
          refine ACode.skip ?_
          refine ks_n ?_
          refine ACode.seq ?_
          refine ACode.block ?_
          refine ACode.seq ?_
          refine ACode.region ?_
          refine .cons (.xL 31 7 112 rfl rfl rfl rfl rfl (rE_at hx1)) ?_
          refine .cons (.lN 7 rfl rfl rfl) ?_
          refine .cons (.al 107 [.int .i64 0, .int .i64 0, .slice none 0 0, .int .i64 0, .string ByteArray.empty, .slice none 0 0, .slice none 0 0] rfl rfl rfl) ?_
          refine .cons (.sT 7 true rfl rfl rfl rfl rfl rfl rfl) ?_
          refine .nil ?_
          refine ks_n ?_
          refine ACode.drawK (by kernel_rfl) (by kernel_rfl) ?_
          refine .cons (.fB 6 0 false rfl rfl rfl) ?_
          refine .cons (.b1 1 rfl rfl rfl rfl rfl rfl) ?_
          refine .cons (.bN 7 rfl rfl rfl rfl rfl rfl) ?_
          refine .cons (.mv rfl rfl) ?_
          refine .cons (.cP [.tmp 38, .tmp 39] rfl rfl rfl rfl (ih x (List.mem_of_getElem? hx1)) rfl) ?_
          refine .cons (.li 31 6 0 [.tmp 40] rfl rfl rfl rfl rfl rfl) ?_
          refine .cons (St1.appN (k' := 142) (e := 31) (sz := 6) (by' := 112) rfl rfl rfl rfl rfl (by kernel_rfl) rfl rfl rfl (by simp) (by first | (simp [dR]; done) | (simp [dR]; omega)) rfl rfl) ?_
          refine .cons (.fB 6 0 false rfl rfl rfl) ?_
          refine .cons (.sT 1 false rfl rfl rfl rfl rfl rfl rfl) ?_
          refine .nil ⟨by kernel_rfl, ?_⟩
          refine kb_n ?_
          refine ks_n ?_
          refine ACode.region ?_
          refine .cons (.pl rfl rfl rfl) ?_
          refine .cons (.mv rfl rfl) ?_
          refine .nil ?_
          refine kl_k [(110, 110), (111, 111), (112, 142)] (.inr ⟨1, rfl, by omega, by omega, rfl⟩) ⟨ks rfl .dt, ks rfl .dt, ks rfl (.c .bx), ks rfl (.c .bx), ks rfl .dt, ks rfl .dt, ks rfl .dt, kb 110 rfl (.cons (.cons .dt (.cons .dt (.cons .dt (.cons .dt (.cons .dt (.cons .dt (.cons .dt Ctos.nil))))))) .nil), kb 142 rfl (.dt rfl (by first | exact dR_take (fun x => rX (mapE g x)) hx1 | exact dR_take1 (fun x => rX (mapE g x)) hx1 | rfl | (simp [dR]; done))), kb 111 rfl (.cons (.cons .dt (.cons .dt (.cons (.dt (by first | rfl | (simp [*]; done) | (simp [*]; rfl))) (.cons (.dt (by first | rfl | (simp [*]; done) | (simp [*]; rfl))) (.cons (.dt (by first | rfl | (simp [*]; done) | (simp [*]; rfl))) (.cons (.dt (by first | rfl | (simp [*]; done) | (simp [*]; rfl))) (.cons .ow Ctos.nil))))))) .nil), trivial⟩
        · skip
          have hn : e.ks = [] := List.eq_nil_of_length_eq_zero (by omega)
          refine ACode.exit ?_
          refine ks_e ?_
          refine kl_e ?_
          refine kb_hit ?_
          refine ks_n ?_
          refine ACode.seq ?_
          refine ACode.region ?_
          refine .cons (.bN 7 rfl rfl rfl rfl rfl rfl) ?_
          refine .cons (.sT 7 true rfl rfl rfl rfl rfl rfl rfl) ?_
          refine .nil ?_
          refine ks_n ?_
          refine ACode.ret ?_
          refine kf_wret [(.t 4, .v (.o (.c (.box 100 7 0 0)))), (.b 100, .b 31 7 [[.d (dI e.k), .d (dI e.n), .d (dIs (if e.k = 2 then g e.i else ([], 0)).1), .d (dI (if e.k = 2 then g e.i else ([], 0)).2), .d (dS (if e.k = 3 then mapC g e.r else (ByteArray.empty, [])).1), .d (dAs (if e.k = 3 then mapC g e.r else (ByteArray.empty, [])).2), .d (dEs (e.ks.map (mapE g)))]]), (.u 100, .u)] (Wk.keep [(100, 110)] rfl rfl ⟨ks rfl (.c .bx), kb 110 rfl (.cons (.cons .dt (.cons .dt (.cons (.dt (by first | rfl | (simp [*]; done) | (simp [*]; rfl))) (.cons (.dt (by first | rfl | (simp [*]; done) | (simp [*]; rfl))) (.cons (.dt (by first | rfl | (simp [*]; done) | (simp [*]; rfl))) (.cons (.dt (by first | rfl | (simp [*]; done) | (simp [*]; rfl))) (.cons (Cto.nilE 7 (by rw [hn]; rfl)) Ctos.nil))))))) .nil), trivial⟩) rfl ?_ nobox
          rw [rX_map]; rfl
      · skip
        refine ACode.seq ?_
        refine ACode.region ?_
        refine .cons (.ls rfl rfl rfl) ?_
        refine .nil ?_
        refine ks_n ?_
        refine ACode.seq ?_
        refine .cD rfl (fun h33 => ?_) (fun h33 => ?_)
        · skip
          obtain ⟨x, hx1⟩ : ∃ x, e.ks[i]? = some x := ⟨_, List.getElem?_eq_getElem (by omega)⟩
          refine ACode.skip ?_
          refine ks_n ?_
          refine ACode.seq ?_
          refine ACode.block ?_
          refine ACode.seq ?_
          refine ACode.region ?_
          refine .cons (.xL 31 7 112 rfl rfl rfl rfl rfl (rE_at hx1)) ?_
          refine .cons (.lN 7 rfl rfl rfl) ?_
          refine .cons (.al 107 [.int .i64 0, .int .i64 0, .slice none 0 0, .int .i64 0, .string ByteArray.empty, .slice none 0 0, .slice none 0 0] rfl rfl rfl) ?_
          refine .cons (.sT 7 true rfl rfl rfl rfl rfl rfl rfl) ?_
          refine .nil ?_
          refine ks_n ?_
          refine ACode.drawK (by kernel_rfl) (by kernel_rfl) ?_
          refine .cons (.fB 6 0 false rfl rfl rfl) ?_
          refine .cons (.b1 1 rfl rfl rfl rfl rfl rfl) ?_
          refine .cons (.bN 7 rfl rfl rfl rfl rfl rfl) ?_
          refine .cons (.mv rfl rfl) ?_
          refine .cons (.cP [.tmp 38, .tmp 39] rfl rfl rfl rfl (ih x (List.mem_of_getElem? hx1)) rfl) ?_
          refine .cons (.li 31 6 0 [.tmp 40] rfl rfl rfl rfl rfl rfl) ?_
          refine .cons (St1.appB (k' := 142) (e := 31) (sz := 6) (by' := 112) rfl rfl rfl rfl rfl (by kernel_rfl) rfl rfl rfl rfl (by first | (simp [dR]; done) | (simp [dR]; omega)) (by first | (simp [dR]; done) | (simp [dR]; omega)) rfl rfl rfl) ?_
          refine .cons (.fB 6 0 false rfl rfl rfl) ?_
          refine .cons (.sT 1 false rfl rfl rfl rfl rfl rfl rfl) ?_
          refine .nil ⟨by kernel_rfl, ?_⟩
          refine kb_n ?_
          refine ks_n ?_
          refine ACode.region ?_
          refine .cons (.pl rfl rfl rfl) ?_
          refine .cons (.mv rfl rfl) ?_
          refine .nil ?_
          refine kl_k [(110, 110), (111, 111), (112, 142)] (.inr ⟨i + 1, rfl, by omega, by omega, rfl⟩) ⟨ks rfl .dt, ks rfl .dt, ks rfl (.c .bx), ks rfl (.c .bx), ks rfl .dt, ks rfl .dt, ks rfl .dt, kb 110 rfl (.cons (.cons .dt (.cons .dt (.cons .dt (.cons .dt (.cons .dt (.cons .dt (.cons .dt Ctos.nil))))))) .nil), kb 142 rfl (.dt rfl (by first | exact dR_take (fun x => rX (mapE g x)) hx1 | exact dR_take1 (fun x => rX (mapE g x)) hx1 | rfl | (simp [dR]; done))), kb 111 rfl (.cons (.cons .dt (.cons .dt (.cons (.dt (by first | rfl | (simp [*]; done) | (simp [*]; rfl))) (.cons (.dt (by first | rfl | (simp [*]; done) | (simp [*]; rfl))) (.cons (.dt (by first | rfl | (simp [*]; done) | (simp [*]; rfl))) (.cons (.dt (by first | rfl | (simp [*]; done) | (simp [*]; rfl))) (.cons .ow Ctos.nil))))))) .nil), trivial⟩
        · skip
          obtain rfl : i = e.ks.length := by omega
          refine ACode.exit ?_
          refine ks_e ?_
          refine kl_e ?_
          refine kb_hit ?_
          refine ks_n ?_
          refine ACode.seq ?_
          refine ACode.region ?_
          refine .cons (.bN 7 rfl rfl rfl rfl rfl rfl) ?_
          refine .cons (.sT 7 true rfl rfl rfl rfl rfl rfl rfl) ?_
          refine .nil ?_
          refine ks_n ?_
          refine ACode.ret ?_
          refine kf_wret [(.t 4, .v (.o (.c (.box 100 7 0 0)))), (.b 100, .b 31 7 [[.d (dI e.k), .d (dI e.n), .d (dIs (if e.k = 2 then g e.i else ([], 0)).1), .d (dI (if e.k = 2 then g e.i else ([], 0)).2), .d (dS (if e.k = 3 then mapC g e.r else (ByteArray.empty, [])).1), .d (dAs (if e.k = 3 then mapC g e.r else (ByteArray.empty, [])).2), .d (dEs (e.ks.map (mapE g)))]]), (.u 100, .u)] (Wk.keep [(100, 110)] rfl rfl ⟨ks rfl (.c .bx), kb 110 rfl (.cons (.cons .dt (.cons .dt (.cons (.dt (by first | rfl | (simp [*]; done) | (simp [*]; rfl))) (.cons (.dt (by first | rfl | (simp [*]; done) | (simp [*]; rfl))) (.cons (.dt (by first | rfl | (simp [*]; done) | (simp [*]; rfl))) (.cons (.dt (by first | rfl | (simp [*]; done) | (simp [*]; rfl))) (.cons (.fz rfl (by first | rfl | exact dR_ex _ _ | (rw [List.take_length]; done)) (by first | rfl | (simp; done) | (simp; omega)) (by omega)) Ctos.nil))))))) .nil), trivial⟩) rfl ?_ nobox
          rw [rX_map]; rfl
    · skip
      refine ACode.skip ?_
      refine kb_n ?_
      refine ks_n ?_
      refine ACode.seq ?_
      refine ACode.seq ?_
      refine ACode.region ?_
      refine .cons (.fP 6 0 false rfl rfl) ?_
      refine .cons (.l1 1 rfl rfl) ?_
      refine .cons (.ln 31 7 112 rfl rfl rfl) ?_
      refine .cons (.mv rfl rfl) ?_
      refine .nil ?_
      refine ks_n ?_
      refine ACode.block ?_
      refine .loopK (fun m σ => (∃ i : Nat, m = e.ks.length - i ∧ (i = 0) ∧ σ = [(.t 1, .v (.o (.c (.fn f cap)))), (.t 2, .v (.o (.c (.ptr (rX e))))), (.t 4, .v (.o (.c (.box 110 7 0 0)))), (.t 5, .v (.o (.c (.box 111 7 0 0)))), (.t 30, .v (.o (vD (dEs e.ks)))), (.t 31, .v (.o (nat1 (e.ks.length : Nat)))), (.t 32, .v (.o (nat1 (i : Nat)))), (.b 110, .b 31 7 [[.d (dI 0), .d (dI 0), .d (.val (.slice none 0 0)), .d (dI 0), .d (dS ByteArray.empty), .d (.val (.slice none 0 0)), .d (.val (.slice none 0 0))]]), (.u 110, .u), (.b 111, .b 31 7 [[.d (dI e.k), .d (dI e.n), .d (dIs (if e.k = 2 then g e.i else ([], 0)).1), .d (dI (if e.k = 2 then g e.i else ([], 0)).2), .d (dS (if e.k = 3 then mapC g e.r else (ByteArray.empty, [])).1), .d (dAs (if e.k = 3 then mapC g e.r else (ByteArray.empty, [])).2), .d (.val (.slice none 0 0))]]), (.u 111, .u)]) ∨ (∃ i : Nat, m = e.ks.length - i ∧ (1 ≤ i) ∧ (i ≤ e.ks.length) ∧ σ = [(.t 1, .v (.o (.c (.fn f cap)))), (.t 2, .v (.o (.c (.ptr (rX e))))), (.t 4, .v (.o (.c (.box 110 7 0 0)))), (.t 5, .v (.o (.c (.box 111 7 0 0)))), (.t 30, .v (.o (vD (dEs e.ks)))), (.t 31, .v (.o (nat1 (e.ks.length : Nat)))), (.t 32, .v (.o (nat1 (i : Nat)))), (.b 110, .b 31 7 [[.d (dI 0), .d (dI 0), .d (.val (.slice none 0 0)), .d (dI 0), .d (dS ByteArray.empty), .d (.val (.slice none 0 0)), .d (.val (.slice none 0 0))]]), (.u 110, .u), (.b 112, .b 31 7 (dR ((e.ks.take i).map fun x => rX (mapE g x)))), (.u 112, .u), (.b 111, .b 31 7 [[.d (dI e.k), .d (dI e.n), .d (dIs (if e.k = 2 then g e.i else ([], 0)).1), .d (dI (if e.k = 2 then g e.i else ([], 0)).2), .d (dS (if e.k = 3 then mapC g e.r else (ByteArray.empty, [])).1), .d (dAs (if e.k = 3 then mapC g e.r else (ByteArray.empty, [])).2), .own 112 7 (i)]]), (.u 111, .u)])) [(110, 104), (111, 105)] (.inl ⟨0, rfl, rfl, rfl⟩) ⟨ks rfl .dt, ks rfl .dt, ks rfl (.c .bx), ks rfl (.c .bx), ks rfl .dt, ks rfl .dt, ks rfl .dt, kb 104 rfl (.cons (.cons .dt (.cons .dt (.cons .dt (.cons .dt (.cons .dt (.cons .dt (.cons .dt Ctos.nil))))))) .nil), kb 105 rfl (.cons (.cons .dt (.cons .dt (.cons (Cto.nilE 1 (by rw [if_neg (show ¬ e.k = 2 by omega)]; rfl)) (.cons (.dt (by first | rfl | (simp [*]; done) | (simp [*]; rfl))) (.cons (.dt (by first | rfl | (simp [*]; done) | (simp [*]; rfl))) (.cons (Cto.nilE 2 (by rw [if_neg (show ¬ e.k = 3 by omega)]; rfl)) (.cons .dt Ctos.nil))))))) .nil), trivial⟩ ?_
      rintro m σ (⟨i, hm0, rfl, rfl⟩ | ⟨i, hm0, hi1, hi2, rfl⟩)
      · skip
        refine ACode.seq ?_
        refine ACode.region ?_
        refine .cons (.ls rfl rfl rfl) ?_
        refine .nil ?_
        refine ks_n ?_
        refine ACode.seq ?_
        refine .cD rfl (fun h33 => ?_) (fun h33 => ?_)
        · skip
          obtain ⟨x, hx1⟩ : ∃ x, e.ks[0]? = some x := ⟨_, List.getElem?_eq_getElem (by omega)⟩
          refine ACode.skip ?_
          refine ks_n ?_
          refine ACode.seq ?_
          refine ACode.block ?_
          refine ACode.seq ?_
          refine ACode.region ?_
          refine .cons (.xL 31 7 112 rfl rfl rfl rfl rfl (rE_at hx1)) ?_
          refine .cons (.lN 7 rfl rfl rfl) ?_
          refine .cons (.al 107 [.int .i64 0, .int .i64 0, .slice none 0 0, .int .i64 0, .string ByteArray.empty, .slice none 0 0, .slice none 0 0] rfl rfl rfl) ?_
          refine .cons (.sT 7 true rfl rfl rfl rfl rfl rfl rfl) ?_
          refine .nil ?_
          refine ks_n ?_
          refine ACode.drawK (by kernel_rfl) (by kernel_rfl) ?_
          refine .cons (.fB 6 0 false rfl rfl rfl) ?_
          refine .cons (.b1 1 rfl rfl rfl rfl rfl rfl) ?_
          refine .cons (.bN 7 rfl rfl rfl rfl rfl rfl) ?_
          refine .cons (.mv rfl rfl) ?_
          refine .cons (.cP [.tmp 38, .tmp 39] rfl rfl rfl rfl (ih x (List.mem_of_getElem? hx1)) rfl) ?_
          refine .cons (.li 31 6 0 [.tmp 40] rfl rfl rfl rfl rfl rfl) ?_
          refine .cons (St1.appN (k' := 142) (e := 31) (sz := 6) (by' := 112) rfl rfl rfl rfl rfl (by kernel_rfl) rfl rfl rfl (by simp) (by first | (simp [dR]; done) | (simp [dR]; omega)) rfl rfl) ?_
          refine .cons (.fB 6 0 false rfl rfl rfl) ?_
          refine .cons (.sT 1 false rfl rfl rfl rfl rfl rfl rfl) ?_
          refine .nil ⟨by kernel_rfl, ?_⟩
          refine kb_n ?_
          refine ks_n ?_
          refine ACode.region ?_
          refine .cons (.pl rfl rfl rfl) ?_
          refine .cons (.mv rfl rfl) ?_
          refine .nil ?_
          refine kl_k [(110, 110), (111, 111), (112, 142)] (.inr ⟨1, rfl, by omega, by omega, rfl⟩) ⟨ks rfl .dt, ks rfl .dt, ks rfl (.c .bx), ks rfl (.c .bx), ks rfl .dt, ks rfl .dt, ks rfl .dt, kb 110 rfl (.cons (.cons .dt (.cons .dt (.cons .dt (.cons .dt (.cons .dt (.cons .dt (.cons .dt Ctos.nil))))))) .nil), kb 142 rfl (.dt rfl (by first | exact dR_take (fun x => rX (mapE g x)) hx1 | exact dR_take1 (fun x => rX (mapE g x)) hx1 | rfl | (simp [dR]; done))), kb 111 rfl (.cons (.cons .dt (.cons .dt (.cons (.dt (by first | rfl | (simp [*]; done) | (simp [*]; rfl))) (.cons (.dt (by first | rfl | (simp [*]; done) | (simp [*]; rfl))) (.cons (.dt (by first | rfl | (simp [*]; done) | (simp [*]; rfl))) (.cons (.dt (by first | rfl | (simp [*]; done) | (simp [*]; rfl))) (.cons .ow Ctos.nil))))))) .nil), trivial⟩
        · skip
          have hn : e.ks = [] := List.eq_nil_of_length_eq_zero (by omega)
          refine ACode.exit ?_
          refine ks_e ?_
          refine kl_e ?_
          refine kb_hit ?_
          refine ks_n ?_
          refine ACode.seq ?_
          refine ACode.region ?_
          refine .cons (.bN 7 rfl rfl rfl rfl rfl rfl) ?_
          refine .cons (.sT 7 true rfl rfl rfl rfl rfl rfl rfl) ?_
          refine .nil ?_
          refine ks_n ?_
          refine ACode.ret ?_
          refine kf_wret [(.t 4, .v (.o (.c (.box 100 7 0 0)))), (.b 100, .b 31 7 [[.d (dI e.k), .d (dI e.n), .d (dIs (if e.k = 2 then g e.i else ([], 0)).1), .d (dI (if e.k = 2 then g e.i else ([], 0)).2), .d (dS (if e.k = 3 then mapC g e.r else (ByteArray.empty, [])).1), .d (dAs (if e.k = 3 then mapC g e.r else (ByteArray.empty, [])).2), .d (dEs (e.ks.map (mapE g)))]]), (.u 100, .u)] (Wk.keep [(100, 110)] rfl rfl ⟨ks rfl (.c .bx), kb 110 rfl (.cons (.cons .dt (.cons .dt (.cons (.dt (by first | rfl | (simp [*]; done) | (simp [*]; rfl))) (.cons (.dt (by first | rfl | (simp [*]; done) | (simp [*]; rfl))) (.cons (.dt (by first | rfl | (simp [*]; done) | (simp [*]; rfl))) (.cons (.dt (by first | rfl | (simp [*]; done) | (simp [*]; rfl))) (.cons (Cto.nilE 7 (by rw [hn]; rfl)) Ctos.nil))))))) .nil), trivial⟩) rfl ?_ nobox
          rw [rX_map]; rfl
      · skip
        refine ACode.seq ?_
        refine ACode.region ?_
        refine .cons (.ls rfl rfl rfl) ?_
        refine .nil ?_
        refine ks_n ?_
        refine ACode.seq ?_
        refine .cD rfl (fun h33 => ?_) (fun h33 => ?_)
        · skip
          obtain ⟨x, hx1⟩ : ∃ x, e.ks[i]? = some x := ⟨_, List.getElem?_eq_getElem (by omega)⟩
          refine ACode.skip ?_
          refine ks_n ?_
          refine ACode.seq ?_
          refine ACode.block ?_
          refine ACode.seq ?_
          refine ACode.region ?_
          refine .cons (.xL 31 7 112 rfl rfl rfl rfl rfl (rE_at hx1)) ?_
          refine .cons (.lN 7 rfl rfl rfl) ?_
          refine .cons (.al 107 [.int .i64 0, .int .i64 0, .slice none 0 0, .int .i64 0, .string ByteArray.empty, .slice none 0 0, .slice none 0 0] rfl rfl rfl) ?_
          refine .cons (.sT 7 true rfl rfl rfl rfl rfl rfl rfl) ?_
          refine .nil ?_
          refine ks_n ?_
          refine ACode.drawK (by kernel_rfl) (by kernel_rfl) ?_
          refine .cons (.fB 6 0 false rfl rfl rfl) ?_
          refine .cons (.b1 1 rfl rfl rfl rfl rfl rfl) ?_
          refine .cons (.bN 7 rfl rfl rfl rfl rfl rfl) ?_
          refine .cons (.mv rfl rfl) ?_
          refine .cons (.cP [.tmp 38, .tmp 39] rfl rfl rfl rfl (ih x (List.mem_of_getElem? hx1)) rfl) ?_
          refine .cons (.li 31 6 0 [.tmp 40] rfl rfl rfl rfl rfl rfl) ?_
          refine .cons (St1.appB (k' := 142) (e := 31) (sz := 6) (by' := 112) rfl rfl rfl rfl rfl (by kernel_rfl) rfl rfl rfl rfl (by first | (simp [dR]; done) | (simp [dR]; omega)) (by first | (simp [dR]; done) | (simp [dR]; omega)) rfl rfl rfl) ?_
          refine .cons (.fB 6 0 false rfl rfl rfl) ?_
          refine .cons (.sT 1 false rfl rfl rfl rfl rfl rfl rfl) ?_
          refine .nil ⟨by kernel_rfl, ?_⟩
          refine kb_n ?_
          refine ks_n ?_
          refine ACode.region ?_
          refine .cons (.pl rfl rfl rfl) ?_
          refine .cons (.mv rfl rfl) ?_
          refine .nil ?_
          refine kl_k [(110, 110), (111, 111), (112, 142)] (.inr ⟨i + 1, rfl, by omega, by omega, rfl⟩) ⟨ks rfl .dt, ks rfl .dt, ks rfl (.c .bx), ks rfl (.c .bx), ks rfl .dt, ks rfl .dt, ks rfl .dt, kb 110 rfl (.cons (.cons .dt (.cons .dt (.cons .dt (.cons .dt (.cons .dt (.cons .dt (.cons .dt Ctos.nil))))))) .nil), kb 142 rfl (.dt rfl (by first | exact dR_take (fun x => rX (mapE g x)) hx1 | exact dR_take1 (fun x => rX (mapE g x)) hx1 | rfl | (simp [dR]; done))), kb 111 rfl (.cons (.cons .dt (.cons .dt (.cons (.dt (by first | rfl | (simp [*]; done) | (simp [*]; rfl))) (.cons (.dt (by first | rfl | (simp [*]; done) | (simp [*]; rfl))) (.cons (.dt (by first | rfl | (simp [*]; done) | (simp [*]; rfl))) (.cons (.dt (by first | rfl | (simp [*]; done) | (simp [*]; rfl))) (.cons .ow Ctos.nil))))))) .nil), trivial⟩
        · skip
          obtain rfl : i = e.ks.length := by omega
          refine ACode.exit ?_
          refine ks_e ?_
          refine kl_e ?_
          refine kb_hit ?_
          refine ks_n ?_
          refine ACode.seq ?_
          refine ACode.region ?_
          refine .cons (.bN 7 rfl rfl rfl rfl rfl rfl) ?_
          refine .cons (.sT 7 true rfl rfl rfl rfl rfl rfl rfl) ?_
          refine .nil ?_
          refine ks_n ?_
          refine ACode.ret ?_
          refine kf_wret [(.t 4, .v (.o (.c (.box 100 7 0 0)))), (.b 100, .b 31 7 [[.d (dI e.k), .d (dI e.n), .d (dIs (if e.k = 2 then g e.i else ([], 0)).1), .d (dI (if e.k = 2 then g e.i else ([], 0)).2), .d (dS (if e.k = 3 then mapC g e.r else (ByteArray.empty, [])).1), .d (dAs (if e.k = 3 then mapC g e.r else (ByteArray.empty, [])).2), .d (dEs (e.ks.map (mapE g)))]]), (.u 100, .u)] (Wk.keep [(100, 110)] rfl rfl ⟨ks rfl (.c .bx), kb 110 rfl (.cons (.cons .dt (.cons .dt (.cons (.dt (by first | rfl | (simp [*]; done) | (simp [*]; rfl))) (.cons (.dt (by first | rfl | (simp [*]; done) | (simp [*]; rfl))) (.cons (.dt (by first | rfl | (simp [*]; done) | (simp [*]; rfl))) (.cons (.dt (by first | rfl | (simp [*]; done) | (simp [*]; rfl))) (.cons (.fz rfl (by first | rfl | exact dR_ex _ _ | (rw [List.take_length]; done)) (by first | rfl | (simp; done) | (simp; omega)) (by omega)) Ctos.nil))))))) .nil), trivial⟩) rfl ?_ nobox
          rw [rX_map]; rfl

theorem exprMap_fn {f : FuncId} {cap : List (List D)} (hc : callable Try.prog f = true) (g : Aff → Aff) : ∀ e : Ex, szE e ≤ 1073741824 → (∀ x ∈ affsE e, Fn Try.prog f [] (ad (rA x) :: cap.map fun c => .c (.ptr c)) (.o (ad (rA (g x)))) []) → Fn Try.prog 121 [] [ad (rX e), .c (.fn f cap)] (.o (ad (rX (mapE g e)))) [] := by
  intro e
  induction e using Ex.rec' with
  | h e ih =>
    intro hs hg
    rw [szE_eq, szC] at hs
    have := szAs_len e.r.2
    exact exprMap_one hc g e (by omega) (by omega) hg fun x hx => ih x hx (by have := szEs_mem hx; omega) fun a ha => hg a (affsE_k hx ha)

set_option maxRecDepth 100000 in
set_option maxHeartbeats 1600000 in
theorem stmtMap_fn {f : FuncId} {cap : List (List D)} (hc : callable Try.prog f = true) (g : Aff → Aff) (s : Stm) (hs : szS s ≤ 1073741824) (hg : ∀ x ∈ affsS s, Fn Try.prog f [] (ad (rA x) :: cap.map fun c => .c (.ptr c)) (.o (ad (rA (g x)))) []) : Fn Try.prog 60 [] [ad (rS s), .c (.fn f cap)] (.o (ad (rS (mapS g s)))) [] := by
  have h1 : s.1.2.length ≤ 1073741824 := by rw [szS, szC] at hs; have := szAs_len s.1.2; omega
  have h2 : szE s.2 ≤ 1073741824 := by rw [szS] at hs; omega
  refine Fn.code0 Try.func60 rfl rfl rfl rfl ?_
  refine ACode.seq ?_
  refine ACode.region ?_
  refine .cons (St1.boxP rfl rfl rfl rfl rfl rfl) ?_
  refine .cons (.al 104 [.string ByteArray.empty, .slice none 0 0, .int .i64 0, .int .i64 0, .slice none 0 0, .int .i64 0, .string ByteArray.empty, .slice none 0 0, .slice none 0 0] rfl rfl rfl) ?_
  refine .nil ?_
  refine ks_n ?_
  refine ACode.seq ?_
  refine ACode.drawK (by kernel_rfl) (by kernel_rfl) ?_
  refine .cons (.fP 0 1 true rfl rfl) ?_
  refine .cons (.lN 2 rfl rfl rfl) ?_
  refine .cons (.mv rfl rfl) ?_
  refine .cons (.cP [.tmp 6, .tmp 7] rfl rfl rfl rfl (accMap_fn hc g s.1 h1 (fun x hx => hg x (by rw [affsS]; exact List.mem_append_left _ hx))) rfl) ?_
  refine .cons (.fP 2 6 true rfl rfl) ?_
  refine .cons (.lN 7 rfl rfl rfl) ?_
  refine .cons (.mv rfl rfl) ?_
  refine .cons (.cP [.tmp 10, .tmp 11] rfl rfl rfl rfl (exprMap_fn hc g s.2 h2 (fun x hx => hg x (by rw [affsS]; exact List.mem_append_right _ hx))) rfl) ?_
  refine .cons (.bu [(0, .tmp 8), (1, .tmp 12)] [(0, 2), (2, 7)] [.string ByteArray.empty, .slice none 0 0, .int .i64 0, .int .i64 0, .slice none 0 0, .int .i64 0, .string ByteArray.empty, .slice none 0 0, .slice none 0 0] rfl rfl rfl rfl rfl) ?_
  refine .cons (.sT 9 true rfl rfl rfl rfl rfl rfl rfl) ?_
  refine .nil ⟨by kernel_rfl, ?_⟩
  refine ks_n ?_
  refine ACode.ret ?_
  refine kf_ret rfl ?_ nobox
  rfl

theorem szE_aff : ∀ {e : Ex} {m : Nat}, szE e ≤ m → ∀ x ∈ affsE e, x.1.length ≤ m := by
  intro e
  induction e using Ex.rec' with
  | h e ih =>
    intro m hs x hx
    rw [szE_eq, szC] at hs
    rw [affsE_eq, List.mem_append, List.mem_append] at hx
    rcases hx with hx | hx | hx
    · split at hx
      · rw [List.mem_singleton.1 hx]; omega
      · cases hx
    · split at hx
      · have := szAs_mem hx; omega
      · cases hx
    · have key : ∀ l : List Ex, x ∈ affsEs l → ∃ y ∈ l, x ∈ affsE y := by
        intro l
        induction l with
        | nil => intro h; cases h
        | cons y l ih =>
          intro h
          rw [affsEs, List.mem_append] at h
          rcases h with h | h
          · exact ⟨y, by simp, h⟩
          · obtain ⟨z, h1, h2⟩ := ih h; exact ⟨z, by simp [h1], h2⟩
      obtain ⟨y, hy, hxy⟩ := key _ hx
      exact ih y hy (by have := szEs_mem hy; omega) x hxy
theorem szS_aff {s : Stm} {m : Nat} (hs : szS s ≤ m) : ∀ x ∈ affsS s, x.1.length ≤ m := by
  intro x hx
  rw [szS, szC] at hs
  rw [affsS, List.mem_append] at hx
  rcases hx with hx | hx
  · have := szAs_mem hx; omega
  · exact szE_aff (by omega) x hx
set_option maxRecDepth 100000 in
set_option maxHeartbeats 1600000 in
theorem ownStmt_fn (s : Stm) (hs : szS s ≤ 1073741824) : Fn Try.prog 67 [] [ad (rS s)] (.o (ad (rS (mapS id s)))) [] := by
  refine Fn.code0 Try.func67 rfl rfl rfl rfl ?_
  refine ACode.seq ?_
  refine ACode.region ?_
  refine .cons (St1.boxP rfl rfl rfl rfl rfl rfl) ?_
  refine .cons (.al 102 [.string ByteArray.empty, .slice none 0 0, .int .i64 0, .int .i64 0, .slice none 0 0, .int .i64 0, .string ByteArray.empty, .slice none 0 0, .slice none 0 0] rfl rfl rfl) ?_
  refine .nil ?_
  refine ks_n ?_
  refine ACode.seq ?_
  refine ACode.region ?_
  refine .cons (.lN 9 rfl rfl rfl) ?_
  refine .cons (.cP [.tmp 3, .func 122] rfl rfl rfl rfl (stmtMap_fn (f := 122) (cap := []) (by kernel_rfl) id s hs (fun x hx => ownAff_fn (szS_aff hs x hx))) rfl) ?_
  refine .cons (.sT 9 true rfl rfl rfl rfl rfl rfl rfl) ?_
  refine .nil ?_
  refine ks_n ?_
  refine ACode.ret ?_
  refine kf_ret rfl ?_ nobox
  rfl

set_option maxRecDepth 100000 in
set_option maxHeartbeats 1600000 in
theorem l3CopyAff_fn {x : Aff} (hx : x.1.length ≤ 1073741824) : Fn Try.prog 147 [] [ad (rA x)] (.o (ad (rA x))) [] := by
  refine Fn.code0 Try.func147 rfl rfl rfl rfl ?_
  refine ACode.seq ?_
  refine ACode.region ?_
  refine .cons (St1.boxP rfl rfl rfl rfl rfl rfl) ?_
  refine .cons (.al 102 [.slice none 0 0, .int .i64 0] rfl rfl rfl) ?_
  refine .nil ?_
  refine ks_n ?_
  refine ACode.seq ?_
  refine ACode.seq ?_
  refine ACode.region ?_
  refine .cons (.fP 0 0 false rfl rfl) ?_
  refine .cons (.l1 1 rfl rfl) ?_
  refine .cons (.ln 3 1 8 rfl rfl rfl) ?_
  refine .cons (.eq rfl rfl rfl) ?_
  refine .nil ?_
  refine ks_n ?_
  refine .cD rfl (fun h6 => ?_) (fun h6 => ?_)
  · skip
    have hn : x.1 = [] := List.eq_nil_of_length_eq_zero (by omega)
    refine ACode.seq ?_
    refine ACode.region ?_
    refine .cons (.fP 1 0 false rfl rfl) ?_
    refine .cons (.l1 1 rfl rfl) ?_
    refine .cons (.bu [(1, .tmp 8)] [(0, 1), (1, 1)] [.slice none 0 0, .int .i64 0] rfl rfl rfl rfl rfl) ?_
    refine .cons (.sT 2 true rfl rfl rfl rfl rfl rfl rfl) ?_
    refine .nil ?_
    refine ks_n ?_
    refine ACode.ret ?_
    refine ks_r ?_
    refine kf_wret [(.t 2, .v (.o (.c (.box 100 2 0 0)))), (.b 100, .b 28 2 [[.d (dIs x.1), .d (dI x.2)]]), (.u 100, .u)] (Wk.keep [(100, 102)] rfl rfl ⟨ks rfl (.c .bx), kb 102 rfl (.cons (.cons (Cto.nilE 1 (by rw [hn]; rfl)) (.cons .dt Ctos.nil)) .nil), trivial⟩) rfl ?_ nobox
    rfl
  · skip
    refine ACode.skip ?_
    refine ks_n ?_
    refine ACode.seq ?_
    refine ACode.drawK (by kernel_rfl) (by kernel_rfl) ?_
    refine .cons (St1.lit0 (k' := 110) (e := 3) (sz := 1) (b := true) rfl rfl rfl rfl (by kernel_rfl) rfl rfl) ?_
    refine .cons (.fP 0 0 false rfl rfl) ?_
    refine .cons (.l1 1 rfl rfl) ?_
    refine .cons (St1.appD (rows := []) (e := 3) (sz := 0) (by' := 8) rfl rfl rfl rfl rfl (by kernel_rfl) rfl rfl rfl rfl rfl (by simp; omega) rfl) ?_
    refine .cons (.fP 1 0 false rfl rfl) ?_
    refine .cons (.l1 1 rfl rfl) ?_
    refine .cons (.bu [(0, .tmp 13), (1, .tmp 15)] [(0, 1), (1, 1)] [.slice none 0 0, .int .i64 0] rfl rfl rfl rfl rfl) ?_
    refine .cons (.sT 2 true rfl rfl rfl rfl rfl rfl rfl) ?_
    refine .nil ⟨by kernel_rfl, ?_⟩
    refine ks_n ?_
    refine ACode.ret ?_
    refine kf_wret [(.t 2, .v (.o (.c (.box 100 2 0 0)))), (.b 100, .b 28 2 [[.d (dIs x.1), .d (dI x.2)]]), (.u 100, .u)] (Wk.keep [(100, 102)] rfl rfl ⟨ks rfl (.c .bx), kb 102 rfl (.cons (.cons (.dt) (.cons .dt Ctos.nil)) .nil), trivial⟩) rfl ?_ nobox
    rfl

set_option maxRecDepth 100000 in
set_option maxHeartbeats 1600000 in
theorem l3CopyAcc_fn (a : Acc) (ha : a.2.length ≤ 1073741824) (hq : ∀ x ∈ a.2, x.1.length ≤ 1073741824) : Fn Try.prog 104 [] [ad (rC a)] (.o (ad (rC a))) [] := by
  refine Fn.code0 Try.func104 rfl rfl rfl rfl ?_
  refine ACode.seq ?_
  refine ACode.region ?_
  refine .cons (St1.boxP rfl rfl rfl rfl rfl rfl) ?_
  refine .cons (.al 102 [.string ByteArray.empty, .slice none 0 0] rfl rfl rfl) ?_
  refine .nil ?_
  refine ks_n ?_
  refine ACode.seq ?_
  refine ACode.region ?_
  refine .cons (.fP 0 0 false rfl rfl) ?_
  refine .cons (.l1 1 rfl rfl) ?_
  refine .cons (.bu [(0, .tmp 6)] [(0, 1), (1, 1)] [.string ByteArray.empty, .slice none 0 0] rfl rfl rfl rfl rfl) ?_
  refine .cons (.al 103 [.string ByteArray.empty, .slice none 0 0] rfl rfl rfl) ?_
  refine .cons (.sT 2 true rfl rfl rfl rfl rfl rfl rfl) ?_
  refine .nil ?_
  refine ks_n ?_
  refine ACode.seq ?_
  refine ACode.seq ?_
  refine ACode.region ?_
  refine .cons (.asg rfl rfl) ?_
  refine .nil ?_
  refine ks_n ?_
  refine ACode.block ?_
  refine .loopK (fun m σ => (∃ i : Nat, m = a.2.length - i ∧ (i = 0) ∧ σ = [(.t 1, .v (.o (.c (.ptr (rC a))))), (.t 2, .v (.o (.c (.box 110 2 0 0)))), (.t 3, .v (.o (.c (.box 111 2 0 0)))), (.t 4, .v (.o (nat1 (i : Nat)))), (.b 110, .b 25 2 [[.d (dS ByteArray.empty), .d (.val (.slice none 0 0))]]), (.u 110, .u), (.b 111, .b 25 2 [[.d (dS a.1), .d (.val (.slice none 0 0))]]), (.u 111, .u)]) ∨ (∃ i : Nat, m = a.2.length - i ∧ (1 ≤ i) ∧ (i ≤ a.2.length) ∧ σ = [(.t 1, .v (.o (.c (.ptr (rC a))))), (.t 2, .v (.o (.c (.box 110 2 0 0)))), (.t 3, .v (.o (.c (.box 111 2 0 0)))), (.t 4, .v (.o (nat1 (i : Nat)))), (.b 110, .b 25 2 [[.d (dS ByteArray.empty), .d (.val (.slice none 0 0))]]), (.u 110, .u), (.b 112, .b 28 2 (dR ((a.2.take i).map rA))), (.u 112, .u), (.b 111, .b 25 2 [[.d (dS a.1), .own 112 2 (i)]]), (.u 111, .u)])) [(110, 102), (111, 103)] (.inl ⟨0, rfl, rfl, rfl⟩) ⟨ks rfl .dt, ks rfl (.c .bx), ks rfl (.c .bx), ks rfl .dt, kb 102 rfl (.cons (.cons .dt (.cons .dt Ctos.nil)) .nil), kb 103 rfl (.cons (.cons .dt (.cons .dt Ctos.nil)) .nil), trivial⟩ ?_
  rintro m σ (⟨i, hm0, rfl, rfl⟩ | ⟨i, hm0, hi1, hi2, rfl⟩)
  · skip
    refine ACode.seq ?_
    refine ACode.seq ?_
    refine ACode.region ?_
    refine .cons (.mv rfl rfl) ?_
    refine .cons (.fP 1 0 false rfl rfl) ?_
    refine .cons (.l1 1 rfl rfl) ?_
    refine .cons (.ln 28 2 32 rfl rfl rfl) ?_
    refine .cons (.ls rfl rfl rfl) ?_
    refine .nil ?_
    refine ks_n ?_
    refine .cD rfl (fun h12 => ?_) (fun h12 => ?_)
    · skip
      obtain ⟨x, hx1⟩ : ∃ x, a.2[0]? = some x := ⟨_, List.getElem?_eq_getElem (by omega)⟩
      refine ACode.skip ?_
      refine ks_n ?_
      refine ACode.seq ?_
      refine ACode.block ?_
      refine ACode.drawK (by kernel_rfl) (by kernel_rfl) ?_
      refine .cons (.fB 1 0 false rfl rfl rfl) ?_
      refine .cons (.b1 1 rfl rfl rfl rfl rfl rfl) ?_
      refine .cons (.fP 1 0 false rfl rfl) ?_
      refine .cons (.l1 1 rfl rfl) ?_
      refine .cons (.mv rfl rfl) ?_
      refine .cons (.xL 28 2 32 rfl rfl rfl rfl rfl) ?_
      refine .cons (.lN 2 rfl rfl rfl) ?_
      refine .cons (.cP [.tmp 21] rfl rfl rfl rfl (l3CopyAff_fn (hq x (List.mem_of_getElem? hx1))) rfl) ?_
      refine .cons (.li 28 1 0 [.tmp 22] rfl rfl rfl rfl rfl rfl) ?_
      refine .cons (St1.appN (k' := 124) (e := 28) (sz := 1) (by' := 32) rfl rfl rfl rfl rfl (by kernel_rfl) rfl rfl rfl (by simp) (by first | (simp [dR]; done) | (simp [dR]; omega)) rfl rfl) ?_
      refine .cons (.fB 1 0 false rfl rfl rfl) ?_
      refine .cons (.sT 1 false rfl rfl rfl rfl rfl rfl rfl) ?_
      refine .nil ⟨by kernel_rfl, ?_⟩
      refine kb_n ?_
      refine ks_n ?_
      refine ACode.region ?_
      refine .cons (.mv rfl rfl) ?_
      refine .cons (.pl rfl rfl rfl) ?_
      refine .cons (.asg rfl rfl) ?_
      refine .nil ?_
      refine kl_k [(110, 110), (111, 111), (112, 124)] (.inr ⟨1, rfl, by omega, by omega, rfl⟩) ⟨ks rfl .dt, ks rfl (.c .bx), ks rfl (.c .bx), ks rfl .dt, kb 110 rfl (.cons (.cons .dt (.cons .dt Ctos.nil)) .nil), kb 124 rfl (.dt rfl (by first | exact dR_take (rA) hx1 | exact dR_take1 (rA) hx1 | rfl | (simp [dR]; done))), kb 111 rfl (.cons (.cons .dt (.cons .ow Ctos.nil)) .nil), trivial⟩
    · skip
      have hn : a.2 = [] := List.eq_nil_of_length_eq_zero (by omega)
      refine ACode.exit ?_
      refine ks_e ?_
      refine kl_e ?_
      refine kb_hit ?_
      refine ks_n ?_
      refine ACode.seq ?_
      refine ACode.region ?_
      refine .cons (.bN 2 rfl rfl rfl rfl rfl rfl) ?_
      refine .cons (.sT 2 true rfl rfl rfl rfl rfl rfl rfl) ?_
      refine .nil ?_
      refine ks_n ?_
      refine ACode.ret ?_
      refine kf_wret [(.t 2, .v (.o (.c (.box 100 2 0 0)))), (.b 100, .b 25 2 [[.d (dS a.1), .d (dAs a.2)]]), (.u 100, .u)] (Wk.keep [(100, 110)] rfl rfl ⟨ks rfl (.c .bx), kb 110 rfl (.cons (.cons .dt (.cons (Cto.nilE 2 (by rw [hn]; rfl)) Ctos.nil)) .nil), trivial⟩) rfl ?_ nobox
      rfl
  · skip
    refine ACode.seq ?_
    refine ACode.seq ?_
    refine ACode.region ?_
    refine .cons (.mv rfl rfl) ?_
    refine .cons (.fP 1 0 false rfl rfl) ?_
    refine .cons (.l1 1 rfl rfl) ?_
    refine .cons (.ln 28 2 32 rfl rfl rfl) ?_
    refine .cons (.ls rfl rfl rfl) ?_
    refine .nil ?_
    refine ks_n ?_
    refine .cD rfl (fun h12 => ?_) (fun h12 => ?_)
    · skip
      obtain ⟨x, hx1⟩ : ∃ x, a.2[i]? = some x := ⟨_, List.getElem?_eq_getElem (by omega)⟩
      refine ACode.skip ?_
      refine ks_n ?_
      refine ACode.seq ?_
      refine ACode.block ?_
      refine ACode.drawK (by kernel_rfl) (by kernel_rfl) ?_
      refine .cons (.fB 1 0 false rfl rfl rfl) ?_
      refine .cons (.b1 1 rfl rfl rfl rfl rfl rfl) ?_
      refine .cons (.fP 1 0 false rfl rfl) ?_
      refine .cons (.l1 1 rfl rfl) ?_
      refine .cons (.mv rfl rfl) ?_
      refine .cons (.xL 28 2 32 rfl rfl rfl rfl rfl) ?_
      refine .cons (.lN 2 rfl rfl rfl) ?_
      refine .cons (.cP [.tmp 21] rfl rfl rfl rfl (l3CopyAff_fn (hq x (List.mem_of_getElem? hx1))) rfl) ?_
      refine .cons (.li 28 1 0 [.tmp 22] rfl rfl rfl rfl rfl rfl) ?_
      refine .cons (St1.appB (k' := 124) (e := 28) (sz := 1) (by' := 32) rfl rfl rfl rfl rfl (by kernel_rfl) rfl rfl rfl rfl (by first | (simp [dR]; done) | (simp [dR]; omega)) (by first | (simp [dR]; done) | (simp [dR]; omega)) rfl rfl rfl) ?_
      refine .cons (.fB 1 0 false rfl rfl rfl) ?_
      refine .cons (.sT 1 false rfl rfl rfl rfl rfl rfl rfl) ?_
      refine .nil ⟨by kernel_rfl, ?_⟩
      refine kb_n ?_
      refine ks_n ?_
      refine ACode.region ?_
      refine .cons (.mv rfl rfl) ?_
      refine .cons (.pl rfl rfl rfl) ?_
      refine .cons (.asg rfl rfl) ?_
      refine .nil ?_
      refine kl_k [(110, 110), (111, 111), (112, 124)] (.inr ⟨i + 1, rfl, by omega, by omega, rfl⟩) ⟨ks rfl .dt, ks rfl (.c .bx), ks rfl (.c .bx), ks rfl .dt, kb 110 rfl (.cons (.cons .dt (.cons .dt Ctos.nil)) .nil), kb 124 rfl (.dt rfl (by first | exact dR_take (rA) hx1 | exact dR_take1 (rA) hx1 | rfl | (simp [dR]; done))), kb 111 rfl (.cons (.cons .dt (.cons .ow Ctos.nil)) .nil), trivial⟩
    · skip
      obtain rfl : i = a.2.length := by omega
      refine ACode.exit ?_
      refine ks_e ?_
      refine kl_e ?_
      refine kb_hit ?_
      refine ks_n ?_
      refine ACode.seq ?_
      refine ACode.region ?_
      refine .cons (.bN 2 rfl rfl rfl rfl rfl rfl) ?_
      refine .cons (.sT 2 true rfl rfl rfl rfl rfl rfl rfl) ?_
      refine .nil ?_
      refine ks_n ?_
      refine ACode.ret ?_
      refine kf_wret [(.t 2, .v (.o (.c (.box 100 2 0 0)))), (.b 100, .b 25 2 [[.d (dS a.1), .d (dAs a.2)]]), (.u 100, .u)] (Wk.keep [(100, 110)] rfl rfl ⟨ks rfl (.c .bx), kb 110 rfl (.cons (.cons .dt (.cons (.fz rfl (by first | rfl | exact dR_af _ _ | (rw [List.take_length]; done)) (by first | rfl | (simp; done) | (simp; omega)) (by omega)) Ctos.nil)) .nil), trivial⟩) rfl ?_ nobox
      rfl

set_option maxRecDepth 100000 in
set_option maxHeartbeats 1600000 in
theorem l3CopyEx_one (e : Ex) (hi : e.i.1.length ≤ 1073741824) (hr : e.r.2.length ≤ 1073741824) (hq : ∀ x ∈ e.r.2, x.1.length ≤ 1073741824) (hk : e.ks.length ≤ 1073741824) (ih : ∀ x ∈ e.ks, Fn Try.prog 142 [] [ad (rX x)] (.o (ad (rX x))) []) : Fn Try.prog 142 [] [ad (rX e)] (.o (ad (rX e))) [] := by
  refine Fn.code0 Try.func142 rfl rfl rfl rfl ?_
  refine ACode.seq ?_
  refine ACode.region ?_
  refine .cons (St1.boxP rfl rfl rfl rfl rfl rfl) ?_
  refine .cons (.al 102 [.int .i64 0, .int .i64 0, .slice none 0 0, .int .i64 0, .string ByteArray.empty, .slice none 0 0, .slice none 0 0] rfl rfl rfl) ?_
  refine .nil ?_
  refine ks_n ?_
  refine ACode.seq ?_
  refine ACode.drawK (by kernel_rfl) (by kernel_rfl) ?_
  refine .cons (.fP 0 0 false rfl rfl) ?_
  refine .cons (.l1 1 rfl rfl) ?_
  refine .cons (.fP 1 0 false rfl rfl) ?_
  refine .cons (.l1 1 rfl rfl) ?_
  refine .cons (.fP 2 1 true rfl rfl) ?_
  refine .cons (.lN 2 rfl rfl rfl) ?_
  refine .cons (.cP [.tmp 10] rfl rfl rfl rfl (l3CopyAff_fn hi) rfl) ?_
  refine .cons (.fP 4 1 true rfl rfl) ?_
  refine .cons (.lN 2 rfl rfl rfl) ?_
  refine .cons (.cP [.tmp 13] rfl rfl rfl rfl (l3CopyAcc_fn e.r hr hq) rfl) ?_
  refine .cons (.bu [(0, .tmp 6), (1, .tmp 8), (2, .tmp 11), (3, .tmp 14)] [(0, 1), (1, 1), (2, 2), (4, 2), (6, 1)] [.int .i64 0, .int .i64 0, .slice none 0 0, .int .i64 0, .string ByteArray.empty, .slice none 0 0, .slice none 0 0] rfl rfl rfl rfl rfl) ?_
  refine .cons (.al 103 [.int .i64 0, .int .i64 0, .slice none 0 0, .int .i64 0, .string ByteArray.empty, .slice none 0 0, .slice none 0 0] rfl rfl rfl) ?_
  refine .cons (.sT 7 true rfl rfl rfl rfl rfl rfl rfl) ?_
  refine .nil ⟨by kernel_rfl, ?_⟩
  refine ks_n ?_
  refine ACode.seq ?_
  refine ACode.seq ?_
  refine ACode.region ?_
  refine .cons (.asg rfl rfl) ?_
  refine .nil ?_
  refine ks_n ?_
  refine ACode.block ?_
  refine .loopK (fun m σ => (∃ i : Nat, m = e.ks.length - i ∧ (i = 0) ∧ σ = [(.t 1, .v (.o (.c (.ptr (rX e))))), (.t 2, .v (.o (.c (.box 110 7 0 0)))), (.t 3, .v (.o (.c (.box 111 7 0 0)))), (.t 4, .v (.o (nat1 (i : Nat)))), (.b 110, .b 31 7 [[.d (dI 0), .d (dI 0), .d (.val (.slice none 0 0)), .d (dI 0), .d (dS ByteArray.empty), .d (.val (.slice none 0 0)), .d (.val (.slice none 0 0))]]), (.u 110, .u), (.b 111, .b 31 7 [[.d (dI e.k), .d (dI e.n), .d (dIs e.i.1), .d (dI e.i.2), .d (dS e.r.1), .d (dAs e.r.2), .d (.val (.slice none 0 0))]]), (.u 111, .u)]) ∨ (∃ i : Nat, m = e.ks.length - i ∧ (1 ≤ i) ∧ (i ≤ e.ks.length) ∧ σ = [(.t 1, .v (.o (.c (.ptr (rX e))))), (.t 2, .v (.o (.c (.box 110 7 0 0)))), (.t 3, .v (.o (.c (.box 111 7 0 0)))), (.t 4, .v (.o (nat1 (i : Nat)))), (.b 110, .b 31 7 [[.d (dI 0), .d (dI 0), .d (.val (.slice none 0 0)), .d (dI 0), .d (dS ByteArray.empty), .d (.val (.slice none 0 0)), .d (.val (.slice none 0 0))]]), (.u 110, .u), (.b 112, .b 31 7 (dR ((e.ks.take i).map fun x => rX x))), (.u 112, .u), (.b 111, .b 31 7 [[.d (dI e.k), .d (dI e.n), .d (dIs e.i.1), .d (dI e.i.2), .d (dS e.r.1), .d (dAs e.r.2), .own 112 7 (i)]]), (.u 111, .u)])) [(110, 102), (111, 103)] (.inl ⟨0, rfl, rfl, rfl⟩) ⟨ks rfl .dt, ks rfl (.c .bx), ks rfl (.c .bx), ks rfl .dt, kb 102 rfl (.cons (.cons .dt (.cons .dt (.cons .dt (.cons .dt (.cons .dt (.cons .dt (.cons .dt Ctos.nil))))))) .nil), kb 103 rfl (.cons (.cons .dt (.cons .dt (.cons .dt (.cons .dt (.cons .dt (.cons .dt (.cons .dt Ctos.nil))))))) .nil), trivial⟩ ?_
  rintro m σ (⟨i, hm0, rfl, rfl⟩ | ⟨i, hm0, hi1, hi2, rfl⟩)
  · skip
    refine ACode.seq ?_
    refine ACode.seq ?_
    refine ACode.region ?_
    refine .cons (.mv rfl rfl) ?_
    refine .cons (.fP 6 0 false rfl rfl) ?_
    refine .cons (.l1 1 rfl rfl) ?_
    refine .cons (.ln 31 7 112 rfl rfl rfl) ?_
    refine .cons (.ls rfl rfl rfl) ?_
    refine .nil ?_
    refine ks_n ?_
    refine .cD rfl (fun h20 => ?_) (fun h20 => ?_)
    · skip
      obtain ⟨x, hx1⟩ : ∃ x, e.ks[0]? = some x := ⟨_, List.getElem?_eq_getElem (by omega)⟩
      refine ACode.skip ?_
      refine ks_n ?_
      refine ACode.seq ?_
      refine ACode.block ?_
      refine ACode.drawK (by kernel_rfl) (by kernel_rfl) ?_
      refine .cons (.fB 6 0 false rfl rfl rfl) ?_
      refine .cons (.b1 1 rfl rfl rfl rfl rfl rfl) ?_
      refine .cons (.fP 6 0 false rfl rfl) ?_
      refine .cons (.l1 1 rfl rfl) ?_
      refine .cons (.mv rfl rfl) ?_
      refine .cons (.xL 31 7 112 rfl rfl rfl rfl rfl (rE_at hx1)) ?_
      refine .cons (.lN 7 rfl rfl rfl) ?_
      refine .cons (.cP [.tmp 29] rfl rfl rfl rfl (ih x (List.mem_of_getElem? hx1)) rfl) ?_
      refine .cons (.li 31 6 0 [.tmp 30] rfl rfl rfl rfl rfl rfl) ?_
      refine .cons (St1.appN (k' := 132) (e := 31) (sz := 6) (by' := 112) rfl rfl rfl rfl rfl (by kernel_rfl) rfl rfl rfl (by simp) (by first | (simp [dR]; done) | (simp [dR]; omega)) rfl rfl) ?_
      refine .cons (.fB 6 0 false rfl rfl rfl) ?_
      refine .cons (.sT 1 false rfl rfl rfl rfl rfl rfl rfl) ?_
      refine .nil ⟨by kernel_rfl, ?_⟩
      refine kb_n ?_
      refine ks_n ?_
      refine ACode.region ?_
      refine .cons (.mv rfl rfl) ?_
      refine .cons (.pl rfl rfl rfl) ?_
      refine .cons (.asg rfl rfl) ?_
      refine .nil ?_
      refine kl_k [(110, 110), (111, 111), (112, 132)] (.inr ⟨1, rfl, by omega, by omega, rfl⟩) ⟨ks rfl .dt, ks rfl (.c .bx), ks rfl (.c .bx), ks rfl .dt, kb 110 rfl (.cons (.cons .dt (.cons .dt (.cons .dt (.cons .dt (.cons .dt (.cons .dt (.cons .dt Ctos.nil))))))) .nil), kb 132 rfl (.dt rfl (by first | exact dR_take (fun x => rX x) hx1 | exact dR_take1 (fun x => rX x) hx1 | rfl | (simp [dR]; done))), kb 111 rfl (.cons (.cons .dt (.cons .dt (.cons .dt (.cons .dt (.cons .dt (.cons .dt (.cons .ow Ctos.nil))))))) .nil), trivial⟩
    · skip
      have hn : e.ks = [] := List.eq_nil_of_length_eq_zero (by omega)
      refine ACode.exit ?_
      refine ks_e ?_
      refine kl_e ?_
      refine kb_hit ?_
      refine ks_n ?_
      refine ACode.seq ?_
      refine ACode.region ?_
      refine .cons (.bN 7 rfl rfl rfl rfl rfl rfl) ?_
      refine .cons (.sT 7 true rfl rfl rfl rfl rfl rfl rfl) ?_
      refine .nil ?_
      refine ks_n ?_
      refine ACode.ret ?_
      refine kf_wret [(.t 2, .v (.o (.c (.box 100 7 0 0)))), (.b 100, .b 31 7 [[.d (dI e.k), .d (dI e.n), .d (dIs e.i.1), .d (dI e.i.2), .d (dS e.r.1), .d (dAs e.r.2), .d (dEs e.ks)]]), (.u 100, .u)] (Wk.keep [(100, 110)] rfl rfl ⟨ks rfl (.c .bx), kb 110 rfl (.cons (.cons .dt (.cons .dt (.cons .dt (.cons .dt (.cons .dt (.cons .dt (.cons (Cto.nilE 7 (by rw [hn]; rfl)) Ctos.nil))))))) .nil), trivial⟩) rfl ?_ nobox
      rfl
  · skip
    refine ACode.seq ?_
    refine ACode.seq ?_
    refine ACode.region ?_
    refine .cons (.mv rfl rfl) ?_
    refine .cons (.fP 6 0 false rfl rfl) ?_
    refine .cons (.l1 1 rfl rfl) ?_
    refine .cons (.ln 31 7 112 rfl rfl rfl) ?_
    refine .cons (.ls rfl rfl rfl) ?_
    refine .nil ?_
    refine ks_n ?_
    refine .cD rfl (fun h20 => ?_) (fun h20 => ?_)
    · skip
      obtain ⟨x, hx1⟩ : ∃ x, e.ks[i]? = some x := ⟨_, List.getElem?_eq_getElem (by omega)⟩
      refine ACode.skip ?_
      refine ks_n ?_
      refine ACode.seq ?_
      refine ACode.block ?_
      refine ACode.drawK (by kernel_rfl) (by kernel_rfl) ?_
      refine .cons (.fB 6 0 false rfl rfl rfl) ?_
      refine .cons (.b1 1 rfl rfl rfl rfl rfl rfl) ?_
      refine .cons (.fP 6 0 false rfl rfl) ?_
      refine .cons (.l1 1 rfl rfl) ?_
      refine .cons (.mv rfl rfl) ?_
      refine .cons (.xL 31 7 112 rfl rfl rfl rfl rfl (rE_at hx1)) ?_
      refine .cons (.lN 7 rfl rfl rfl) ?_
      refine .cons (.cP [.tmp 29] rfl rfl rfl rfl (ih x (List.mem_of_getElem? hx1)) rfl) ?_
      refine .cons (.li 31 6 0 [.tmp 30] rfl rfl rfl rfl rfl rfl) ?_
      refine .cons (St1.appB (k' := 132) (e := 31) (sz := 6) (by' := 112) rfl rfl rfl rfl rfl (by kernel_rfl) rfl rfl rfl rfl (by first | (simp [dR]; done) | (simp [dR]; omega)) (by first | (simp [dR]; done) | (simp [dR]; omega)) rfl rfl rfl) ?_
      refine .cons (.fB 6 0 false rfl rfl rfl) ?_
      refine .cons (.sT 1 false rfl rfl rfl rfl rfl rfl rfl) ?_
      refine .nil ⟨by kernel_rfl, ?_⟩
      refine kb_n ?_
      refine ks_n ?_
      refine ACode.region ?_
      refine .cons (.mv rfl rfl) ?_
      refine .cons (.pl rfl rfl rfl) ?_
      refine .cons (.asg rfl rfl) ?_
      refine .nil ?_
      refine kl_k [(110, 110), (111, 111), (112, 132)] (.inr ⟨i + 1, rfl, by omega, by omega, rfl⟩) ⟨ks rfl .dt, ks rfl (.c .bx), ks rfl (.c .bx), ks rfl .dt, kb 110 rfl (.cons (.cons .dt (.cons .dt (.cons .dt (.cons .dt (.cons .dt (.cons .dt (.cons .dt Ctos.nil))))))) .nil), kb 132 rfl (.dt rfl (by first | exact dR_take (fun x => rX x) hx1 | exact dR_take1 (fun x => rX x) hx1 | rfl | (simp [dR]; done))), kb 111 rfl (.cons (.cons .dt (.cons .dt (.cons .dt (.cons .dt (.cons .dt (.cons .dt (.cons .ow Ctos.nil))))))) .nil), trivial⟩
    · skip
      obtain rfl : i = e.ks.length := by omega
      refine ACode.exit ?_
      refine ks_e ?_
      refine kl_e ?_
      refine kb_hit ?_
      refine ks_n ?_
      refine ACode.seq ?_
      refine ACode.region ?_
      refine .cons (.bN 7 rfl rfl rfl rfl rfl rfl) ?_
      refine .cons (.sT 7 true rfl rfl rfl rfl rfl rfl rfl) ?_
      refine .nil ?_
      refine ks_n ?_
      refine ACode.ret ?_
      refine kf_wret [(.t 2, .v (.o (.c (.box 100 7 0 0)))), (.b 100, .b 31 7 [[.d (dI e.k), .d (dI e.n), .d (dIs e.i.1), .d (dI e.i.2), .d (dS e.r.1), .d (dAs e.r.2), .d (dEs e.ks)]]), (.u 100, .u)] (Wk.keep [(100, 110)] rfl rfl ⟨ks rfl (.c .bx), kb 110 rfl (.cons (.cons .dt (.cons .dt (.cons .dt (.cons .dt (.cons .dt (.cons .dt (.cons (.fz rfl (by first | rfl | exact (dR_ex id _).trans (by rw [List.map_id]) | (rw [List.take_length]; done)) (by first | rfl | (simp; done) | (simp; omega)) (by omega)) Ctos.nil))))))) .nil), trivial⟩) rfl ?_ nobox
      rfl

theorem l3CopyEx_fn : ∀ e : Ex, szE e ≤ 1073741824 → Fn Try.prog 142 [] [ad (rX e)] (.o (ad (rX e))) [] := by
  intro e
  induction e using Ex.rec' with
  | h e ih =>
    intro hs
    rw [szE_eq, szC] at hs
    have := szAs_len e.r.2
    exact l3CopyEx_one e (by omega) (by omega) (fun x hx => by have := szAs_mem hx; omega) (by omega) fun x hx => ih x hx (by have := szEs_mem hx; omega)

set_option maxRecDepth 100000 in
set_option maxHeartbeats 1600000 in
theorem l3Copy_fn (s : Stm) (hs : szS s ≤ 1073741824) : Fn Try.prog 94 [] [ad (rS s)] (.o (ad (rS s))) [] := by
  rw [szS, szC] at hs
  have := szAs_len s.1.2
  refine Fn.code0 Try.func94 rfl rfl rfl rfl ?_
  refine ACode.seq ?_
  refine ACode.region ?_
  refine .cons (St1.boxP rfl rfl rfl rfl rfl rfl) ?_
  refine .cons (.al 102 [.string ByteArray.empty, .slice none 0 0, .int .i64 0, .int .i64 0, .slice none 0 0, .int .i64 0, .string ByteArray.empty, .slice none 0 0, .slice none 0 0] rfl rfl rfl) ?_
  refine .nil ?_
  refine ks_n ?_
  refine ACode.seq ?_
  refine ACode.drawK (by kernel_rfl) (by kernel_rfl) ?_
  refine .cons (.fP 0 1 true rfl rfl) ?_
  refine .cons (.lN 2 rfl rfl rfl) ?_
  refine .cons (.cP [.tmp 4] rfl rfl rfl rfl (l3CopyAcc_fn s.1 (by omega) (fun x hx => by have := szAs_mem hx; omega)) rfl) ?_
  refine .cons (.fP 2 6 true rfl rfl) ?_
  refine .cons (.lN 7 rfl rfl rfl) ?_
  refine .cons (.cP [.tmp 7] rfl rfl rfl rfl (l3CopyEx_fn s.2 (by omega)) rfl) ?_
  refine .cons (.bu [(0, .tmp 5), (1, .tmp 8)] [(0, 2), (2, 7)] [.string ByteArray.empty, .slice none 0 0, .int .i64 0, .int .i64 0, .slice none 0 0, .int .i64 0, .string ByteArray.empty, .slice none 0 0, .slice none 0 0] rfl rfl rfl rfl rfl) ?_
  refine .cons (.sT 9 true rfl rfl rfl rfl rfl rfl rfl) ?_
  refine .nil ⟨by kernel_rfl, ?_⟩
  refine ks_n ?_
  refine ACode.ret ?_
  refine kf_ret rfl ?_ nobox
  rfl

end Go.Proofs.Ytigdfdhjnadieaa

/- append of nothing to nothing; texts compared; condition: what the operands hold. -/
namespace Go.Proofs.Ytigdfdhjnadieaa
set_option linter.unusedVariables false
set_option linter.unusedSimpArgs false
open Go.RowKit

section
variable {P : Program} {n : Nat} {ops : Array Oper} {o : Oper} {σ : St} {d : Nat}
theorem run_appE {t ty e : TypeId} {sz by' : Nat} (ht : tyA P t = some (e, sz + 1, by', sz + 1)) (w : World) (ad : Option Addr) (c : Nat) : (Builtin.append_ #[t, t] ty #[.slice none 0 0, .slice ad 0 c]).run P w = .ok (.slice none 0 0) w := by
  obtain ⟨hu, i, z, hi, hz, hs1, hs2, hs3⟩ := tyA_out ht
  cases ad with
  | none => simp [Builtin.append_, run_underlying hu, sizeOf, typeInfo, hi, Builtin.lenOf, Builtin.firstCells]
  | some a =>
    have := run_firstCells_some (P := P) (w := w) i.size 0 a 0 c [] (by simp) (fun j v h => by simp at h)
    simp [Builtin.append_, run_underlying hu, sizeOf, typeInfo, hi, Builtin.lenOf, this]
theorem St1.appNE {t e : TypeId} {s x : Operand} {ts : Array TypeId} {sz by' : Nat} (ho : o.op = .call { callee := .builtin .append, args := #[s, x], argTypes := ts }) (hg : o.guard = none) (hd : o.dst = some d) (hn : Nat.blt d n = true) (hts : ts = #[t, t])
    (ht : tyA P t = some (e, sz + 1, by', sz + 1)) (hs' : ev σ s = some (.o (.c (.d (.val (.slice none 0 0)))))) (hx : ev σ x = some (.o (.c (.d (.list (sz + 1) []))))) :
    St1 P n ops o σ (rd s ++ rd x) [.t d] ((.t d, .v (.o (.c (.d (.val (.slice none 0 0)))))) :: σ) :=
  St1.value hg hd hn fun E bx τ a w hR hs => by
    subst hts
    obtain ⟨ad, c, e1, q1, q2, q3, q4⟩ := (ev_list hx (rd_r hR) hs).slice
    refine ⟨⟨.slice none 0 0, exec_app ho w w _ ?_, .val _ rfl⟩, fun k hk => by cases hk⟩
    rw [ev_val hs' (rd_l hR) hs, e1]
    exact run_appE ht w ad c
end
end Go.Proofs.Ytigdfdhjnadieaa

/- Statements: reads and operators; condition: small lists. -/
namespace Go.Proofs.Ytigdfdhjnadieaa
set_option linter.unusedVariables false
set_option linter.unusedSimpArgs false
open Go.RowKit

theorem rdE_eq (e : Ex) : rdE e = (if e.k = 3 then [e.r] else []) ++ rdEs e.ks := by cases e; rw [rdE]; rfl
theorem rdEs_take {l : List Ex} {i : Nat} {x : Ex} (h : l[i]? = some x) : rdEs (l.take (i + 1)) = rdEs (l.take i) ++ rdE x := by
  have key : ∀ (a : List Ex) (x : Ex), rdEs (a ++ [x]) = rdEs a ++ rdE x := by
    intro a x
    induction a with
    | nil => simp [rdEs]
    | cons y a ih => rw [List.cons_append, rdEs, rdEs, ih, List.append_assoc]
  rw [List.take_add_one, h]
  exact key _ _
mutual
theorem rdE_len : ∀ e : Ex, (rdE e).length ≤ cntE e
  | .mk k n i r ks => by
    rw [rdE, cntE, List.length_append]
    have := rdEs_len ks
    split
    · simp; omega
    · simp; omega
theorem rdEs_len : ∀ l : List Ex, (rdEs l).length ≤ cntEs l
  | [] => by simp [rdEs]
  | e :: l => by
    rw [rdEs, cntEs, List.length_append]
    have := rdE_len e
    have := rdEs_len l
    omega
end
theorem cntEs_le {l : List Ex} {i : Nat} : cntEs (l.take i) ≤ cntEs l := by
  induction l generalizing i with
  | nil => simp [cntEs]
  | cons y l ih =>
    cases i with
    | zero => simp [cntEs]
    | succ i => rw [List.take_succ_cons, cntEs, cntEs]; have := ih (i := i); omega
theorem cnt64 {d L : Nat} {e : Ex} (h : exV d L e = true) (hL : L ≤ 6) : cntE e ≤ 64 := by
  have h1 := cnt_bd h
  have : 2 ^ L ≤ 2 ^ 6 := Nat.pow_le_pow_right (by omega) hL
  omega
theorem kids64 {e : Ex} {i : Nat} (h : cntE e ≤ 64) : (rdEs (e.ks.take i)).length ≤ 64 := by
  have h1 := rdEs_len (e.ks.take i)
  have h2 := cntEs_le (l := e.ks) (i := i)
  rw [cntE_eq] at h
  omega
theorem leaf_nil {d L : Nat} {e : Ex} (h : exV d L e = true) (hk : 1 ≤ e.k ∧ e.k ≤ 3) : e.ks = [] := by
  cases L with
  | zero => cases h
  | succ L =>
    rw [exV, Bool.and_eq_true, Bool.and_eq_true] at h
    have h1 := h.1.1
    rw [kidV, if_pos hk] at h1
    exact List.eq_nil_of_length_eq_zero (of_decide_eq_true h1)
theorem dR_apC (a b : List Acc) : dR (a.map rC) ++ (b.map rC).map (·.map C.d) = dR ((a ++ b).map rC) := by rw [dR_app, List.map_append]

set_option maxRecDepth 100000 in
set_option maxHeartbeats 1600000 in
theorem reads_one (e : Ex) {d L : Nat} (hv : exV d L e = true) (hcn : cntE e ≤ 64) (ih : ∀ x ∈ e.ks, Fn Try.prog 66 [] [ad (rX x)] (.o (vD (dCs (rdE x)))) []) : Fn Try.prog 66 [] [ad (rX e)] (.o (vD (dCs (rdE e)))) [] := by
  have hkl := (exV_kids hv).1
  refine Fn.code0 Try.func66 rfl rfl rfl rfl ?_
  refine ACode.seq ?_
  refine ACode.region ?_
  refine .cons (St1.boxP rfl rfl rfl rfl rfl rfl) ?_
  refine .cons (.asg rfl rfl) ?_
  refine .nil ?_
  refine ks_n ?_
  refine ACode.seq ?_
  refine ACode.seq ?_
  refine ACode.region ?_
  refine .cons (.fP 0 0 false rfl rfl) ?_
  refine .cons (.l1 1 rfl rfl) ?_
  refine .cons (.eq rfl rfl rfl) ?_
  refine .nil ?_
  refine ks_n ?_
  refine .cD rfl (fun h8 => ?_) (fun h8 => ?_)
  · skip
    refine ACode.seq ?_
    refine ACode.region ?_
    refine .cons (.fP 4 1 true rfl rfl) ?_
    refine .cons (.lN 2 rfl rfl rfl) ?_
    refine .cons (.li 25 1 0 [.tmp 10] rfl rfl rfl rfl rfl rfl) ?_
    refine .cons (.asg rfl rfl) ?_
    refine .nil ?_
    refine ks_n ?_
    refine ACode.ret ?_
    refine ks_r ?_
    refine kf_wret [(.t 2, .v (.o (vD (dCs (rdE e)))))] (Wk.keep [] rfl rfl ⟨ks rfl (.dt (by rw [rdE_eq, if_pos h8, leaf_nil hv (by omega)]; rfl)), trivial⟩) rfl ?_ nobox
    rfl
  · skip
    refine ACode.skip ?_
    refine ks_n ?_
    refine ACode.seq ?_
    refine ACode.region ?_
    refine .cons (.asg rfl rfl) ?_
    refine .nil ?_
    refine ks_n ?_
    refine ACode.seq ?_
    refine ACode.seq ?_
    refine ACode.region ?_
    refine .cons (.fP 6 0 false rfl rfl) ?_
    refine .cons (.l1 1 rfl rfl) ?_
    refine .cons (.ln 31 7 112 rfl rfl rfl) ?_
    refine .cons (.mv rfl rfl) ?_
    refine .nil ?_
    refine ks_n ?_
    refine ACode.block ?_
    refine .loopK (fun m σ => (∃ i : Nat, m = e.ks.length - i ∧ (i ≤ e.ks.length) ∧ (rdEs (e.ks.take i) = []) ∧ σ = [(.t 1, .v (.o (.c (.ptr (rX e))))), (.t 2, .v (.o (.c (.d (.val (.slice none 0 0)))))), (.t 3, .v (.o (.c (.d (.val (.slice none 0 0)))))), (.t 13, .v (.o (vD (dEs e.ks)))), (.t 14, .v (.o (nat1 (e.ks.length : Nat)))), (.t 15, .v (.o (nat1 (i : Nat))))]) ∨ (∃ i : Nat, m = e.ks.length - i ∧ (i ≤ e.ks.length) ∧ (0 < (rdEs (e.ks.take i)).length) ∧ σ = [(.t 1, .v (.o (.c (.ptr (rX e))))), (.t 2, .v (.o (.c (.d (.val (.slice none 0 0)))))), (.t 3, .v (.o (.c (.own 110 2 ((rdEs (e.ks.take i)).length))))), (.t 13, .v (.o (vD (dEs e.ks)))), (.t 14, .v (.o (nat1 (e.ks.length : Nat)))), (.t 15, .v (.o (nat1 (i : Nat)))), (.b 110, .b 25 2 (dR ((rdEs (e.ks.take i)).map rC))), (.u 110, .u)])) [] (.inl ⟨0, rfl, by omega, by simp [rdEs], rfl⟩) ⟨ks rfl .dt, ks rfl .dt, ks rfl .dt, ks rfl .dt, ks rfl .dt, ks rfl .dt, trivial⟩ ?_
    rintro m σ (⟨i, hm0, hi, h0, rfl⟩ | ⟨i, hm0, hi, h0, rfl⟩)
    · skip
      refine ACode.seq ?_
      refine ACode.region ?_
      refine .cons (.ls rfl rfl rfl) ?_
      refine .nil ?_
      refine ks_n ?_
      refine ACode.seq ?_
      refine .cD rfl (fun h16 => ?_) (fun h16 => ?_)
      · skip
        obtain ⟨x, hx1⟩ : ∃ x, e.ks[i]? = some x := ⟨_, List.getElem?_eq_getElem (by omega)⟩
        have hmx := List.mem_of_getElem? hx1
        have hT := rdEs_take hx1
        have h64 := kids64 (i := i + 1) hcn
        refine ACode.skip ?_
        refine ks_n ?_
        refine ACode.seq ?_
        refine ACode.block ?_
        refine ACode.seq ?_
        refine ACode.region ?_
        refine .cons (.xL 31 7 112 rfl rfl rfl rfl rfl (rE_at hx1)) ?_
        refine .cons (.lN 7 rfl rfl rfl) ?_
        refine .cons (.al 105 [.int .i64 0, .int .i64 0, .slice none 0 0, .int .i64 0, .string ByteArray.empty, .slice none 0 0, .slice none 0 0] rfl rfl rfl) ?_
        refine .cons (.sT 7 true rfl rfl rfl rfl rfl rfl rfl) ?_
        refine .nil ?_
        refine ks_n ?_
        by_cases hsp : rdE x = []
        · skip
          refine ACode.region ?_
          refine .cons (.mv rfl rfl) ?_
          refine .cons (.bN 7 rfl rfl rfl rfl rfl rfl) ?_
          refine .cons (.cP [.tmp 20] rfl rfl rfl rfl (ih x hmx) rfl) ?_
          refine .cons (St1.appNE (e := 25) (sz := 1) (by' := 40) rfl rfl rfl rfl rfl (by kernel_rfl) rfl (congrArg (fun l => some (V.o (vD (dCs l)))) hsp)) ?_
          refine .cons (.asg rfl rfl) ?_
          refine .nil ?_
          refine kb_n ?_
          refine ks_n ?_
          refine ACode.region ?_
          refine .cons (.pl rfl rfl rfl) ?_
          refine .cons (.mv rfl rfl) ?_
          refine .nil ?_
          refine kl_k [] (.inl ⟨i + 1, rfl, by omega, by rw [hT, h0, hsp]; rfl, rfl⟩) ⟨ks rfl .dt, ks rfl .dt, ks rfl .dt, ks rfl .dt, ks rfl .dt, ks rfl .dt, trivial⟩
        · skip
          refine ACode.region ?_
          refine .cons (.mv rfl rfl) ?_
          refine .cons (.bN 7 rfl rfl rfl rfl rfl rfl) ?_
          refine .cons (.cP [.tmp 20] rfl rfl rfl rfl (ih x hmx) rfl) ?_
          refine .cons (St1.appN (k' := 122) (e := 25) (sz := 1) (by' := 40) rfl rfl rfl rfl rfl (by kernel_rfl) rfl rfl rfl (by rw [List.length_map]; exact List.length_pos_iff.2 hsp) (by rw [hT, List.length_append] at h64; simp [dR]; omega) rfl rfl) ?_
          refine .cons (.asg rfl rfl) ?_
          refine .nil ?_
          refine kb_n ?_
          refine ks_n ?_
          refine ACode.region ?_
          refine .cons (.pl rfl rfl rfl) ?_
          refine .cons (.mv rfl rfl) ?_
          refine .nil ?_
          refine kl_k [(110, 122)] (.inr ⟨i + 1, rfl, by omega, by rw [hT, List.length_append]; have := List.length_pos_iff.2 hsp; omega, rfl⟩) ⟨ks rfl .dt, ks rfl .dt, ks rfl (.c (.ow (by first | (simp [rdEs]; done) | (rw [hT, List.length_append, List.length_map]; done) | (rw [hT, h0, List.length_map]; rfl) | (simp [hT, h0]; done)))), ks rfl .dt, ks rfl .dt, ks rfl .dt, kb 122 rfl (.dt rfl (by first | (rw [hT, ← dR_apC]; done) | (rw [hT, h0]; rfl) | (rw [hT, dR_apC]; done) | (simp [dR, hT, h0]; done))), trivial⟩
      · skip
        have hR : rdEs (e.ks.take i) = rdE e := by rw [List.take_of_length_le (by omega), rdE_eq, if_neg h8]; rfl
        refine ACode.exit ?_
        refine ks_e ?_
        refine kl_e ?_
        refine kb_hit ?_
        refine ks_n ?_
        refine ACode.seq ?_
        refine ACode.region ?_
        refine .cons (.mv rfl rfl) ?_
        refine .cons (.asg rfl rfl) ?_
        refine .nil ?_
        refine ks_n ?_
        refine ACode.ret ?_
        refine kf_wret [(.t 2, .v (.o (vD (dCs (rdE e)))))] (Wk.keep [] rfl rfl ⟨ks rfl (.c (Cto.nilE 2 (by rw [← hR, h0]; rfl))), trivial⟩) rfl ?_ nobox
        rfl
    · skip
      refine ACode.seq ?_
      refine ACode.region ?_
      refine .cons (.ls rfl rfl rfl) ?_
      refine .nil ?_
      refine ks_n ?_
      refine ACode.seq ?_
      refine .cD rfl (fun h16 => ?_) (fun h16 => ?_)
      · skip
        obtain ⟨x, hx1⟩ : ∃ x, e.ks[i]? = some x := ⟨_, List.getElem?_eq_getElem (by omega)⟩
        have hmx := List.mem_of_getElem? hx1
        have hT := rdEs_take hx1
        have h64 := kids64 (i := i + 1) hcn
        refine ACode.skip ?_
        refine ks_n ?_
        refine ACode.seq ?_
        refine ACode.block ?_
        refine ACode.seq ?_
        refine ACode.region ?_
        refine .cons (.xL 31 7 112 rfl rfl rfl rfl rfl (rE_at hx1)) ?_
        refine .cons (.lN 7 rfl rfl rfl) ?_
        refine .cons (.al 105 [.int .i64 0, .int .i64 0, .slice none 0 0, .int .i64 0, .string ByteArray.empty, .slice none 0 0, .slice none 0 0] rfl rfl rfl) ?_
        refine .cons (.sT 7 true rfl rfl rfl rfl rfl rfl rfl) ?_
        refine .nil ?_
        refine ks_n ?_
        refine ACode.region ?_
        refine .cons (.mv rfl rfl) ?_
        refine .cons (.bN 7 rfl rfl rfl rfl rfl rfl) ?_
        refine .cons (.cP [.tmp 20] rfl rfl rfl rfl (ih x hmx) rfl) ?_
        refine .cons (St1.appB (k' := 122) (e := 25) (sz := 1) (by' := 40) rfl rfl rfl rfl rfl (by kernel_rfl) rfl rfl rfl rfl (by simp [dR]) (by rw [hT, List.length_append] at h64; simp [dR]; omega) rfl rfl rfl) ?_
        refine .cons (.asg rfl rfl) ?_
        refine .nil ?_
        refine kb_n ?_
        refine ks_n ?_
        refine ACode.region ?_
        refine .cons (.pl rfl rfl rfl) ?_
        refine .cons (.mv rfl rfl) ?_
        refine .nil ?_
        refine kl_k [(110, 122)] (.inr ⟨i + 1, rfl, by omega, by rw [hT, List.length_append]; omega, rfl⟩) ⟨ks rfl .dt, ks rfl .dt, ks rfl (.c (.ow (by first | (simp [rdEs]; done) | (rw [hT, List.length_append, List.length_map]; done) | (rw [hT, h0, List.length_map]; rfl) | (simp [hT, h0]; done)))), ks rfl .dt, ks rfl .dt, ks rfl .dt, kb 122 rfl (.dt rfl (by first | (rw [hT, ← dR_apC]; done) | (rw [hT, h0]; rfl) | (rw [hT, dR_apC]; done) | (simp [dR, hT, h0]; done))), trivial⟩
      · skip
        have hR : rdEs (e.ks.take i) = rdE e := by rw [List.take_of_length_le (by omega), rdE_eq, if_neg h8]; rfl
        refine ACode.exit ?_
        refine ks_e ?_
        refine kl_e ?_
        refine kb_hit ?_
        refine ks_n ?_
        refine ACode.seq ?_
        refine ACode.region ?_
        refine .cons (.mv rfl rfl) ?_
        refine .cons (.asg rfl rfl) ?_
        refine .nil ?_
        refine ks_n ?_
        refine ACode.ret ?_
        refine kf_wret [(.t 2, .v (.o (vD (dCs (rdE e)))))] (Wk.keep [] rfl rfl ⟨ks rfl (.c (.fz rfl (by rw [hR]) (by rw [hR, List.length_map]) (by have := rdE_len e; first | omega | (rw [hR]; omega)))), trivial⟩) rfl ?_ nobox
        rfl

theorem reads_fn {d : Nat} : ∀ {L : Nat} (e : Ex), L ≤ 6 → exV d L e = true → Fn Try.prog 66 [] [ad (rX e)] (.o (vD (dCs (rdE e)))) []
  | 0, e, hL, h => by cases h
  | L + 1, e, hL, h => reads_one e h (cnt64 h hL) fun x hx => reads_fn (L := L) x (by omega) ((exV_kids h).2 x hx)
/-- A statement that is valid somewhere. -/
theorem stmtV_ex {d : Int} {s : Stm} (h : stmtV d s = true) : exV d.toNat 5 s.2 = true ∧ accV d.toNat s.1 = true ∧ cntE s.2 ≤ 12 ∧ 0 ≤ d ∧ d ≤ 4 := by
  rw [stmtV, Bool.and_eq_true, Bool.and_eq_true, Bool.and_eq_true, decide_eq_true_eq, inB, decide_eq_true_eq] at h
  exact ⟨h.2.1.2, h.2.1.1, h.2.2, h.1⟩
theorem nonA_iff {x : Aff} : nonA x = true ↔ x = ([], 0) := by
  obtain ⟨a, b⟩ := x
  simp [nonA, List.length_eq_zero_iff]
theorem nonC_iff {a : Acc} : nonC a = true ↔ a = (ByteArray.empty, []) := by
  obtain ⟨a, b⟩ := a
  simp [nonC, sEq_iff, List.length_eq_zero_iff]
theorem fld_map {d : Nat} {e : Ex} (h : fldV d e.k e.n e.i e.r = true) : (if e.k = 2 then e.i else ([], 0)) = e.i ∧ (if e.k = 3 then e.r else (ByteArray.empty, [])) = e.r := by
  unfold fldV at h
  split at h
  · simp only [Bool.and_eq_true] at h
    rw [if_neg (by omega), if_neg (by omega), nonA_iff.1 h.1.2, nonC_iff.1 h.2]; exact ⟨rfl, rfl⟩
  · split at h
    · simp only [Bool.and_eq_true] at h
      rw [if_pos (by assumption), if_neg (by omega), nonC_iff.1 h.2]; exact ⟨rfl, rfl⟩
    · split at h
      · simp only [Bool.and_eq_true] at h
        rw [if_neg (by omega), if_pos (by assumption), nonA_iff.1 h.1.2]; exact ⟨rfl, rfl⟩
      · simp only [Bool.and_eq_true] at h
        rw [if_neg (by omega), if_neg (by omega), nonA_iff.1 h.1.2, nonC_iff.1 h.2]; exact ⟨rfl, rfl⟩
theorem mapE_eq (g : Aff → Aff) (e : Ex) : mapE g e = .mk e.k e.n (if e.k = 2 then g e.i else ([], 0)) (if e.k = 3 then mapC g e.r else (ByteArray.empty, [])) (e.ks.map (mapE g)) := by
  cases e with
  | mk k n i r ks => rw [mapE, mapEs_map]; rfl
theorem mapC_id (a : Acc) : mapC id a = a := by rw [mapC, List.map_id]
theorem mapE_id {d : Nat} : ∀ {L : Nat} {e : Ex}, exV d L e = true → mapE id e = e
  | 0, e, h => by cases h
  | L + 1, e, h => by
    have h1 := (exV_kids h).2
    rw [exV, Bool.and_eq_true, Bool.and_eq_true] at h
    obtain ⟨f1, f2⟩ := fld_map h.1.2
    rw [mapE_eq, mapC_id, show e.ks.map (mapE id) = e.ks from (List.map_congr_left fun x hx => mapE_id (h1 x hx)).trans (List.map_id _)]
    show Ex.mk e.k e.n (if e.k = 2 then e.i else ([], 0)) _ _ = e
    rw [f1, f2, Ex.eta]
theorem mapS_id {d : Int} {s : Stm} (h : stmtV d s = true) : mapS id s = s := by
  rw [mapS, mapC_id, mapE_id (stmtV_ex h).1]

/-- The accesses that a statement reads. -/
def rdS (s : Stm) : List Acc := if stmtV 4 s = true then rdE s.2 else []

set_option maxRecDepth 100000 in
set_option maxHeartbeats 1600000 in
theorem implReads_fn (s : Stm) (hs : szS s ≤ 1073741824) : Fn Try.prog 24 [] [ad (rS s)] (.o (vD (dCs (rdS s)))) [] := by
  refine Fn.code0 Try.func24 rfl rfl rfl rfl ?_
  refine ACode.seq ?_
  refine ACode.region ?_
  refine .cons (St1.boxP rfl rfl rfl rfl rfl rfl) ?_
  refine .cons (.asg rfl rfl) ?_
  refine .nil ?_
  refine ks_n ?_
  refine ACode.seq ?_
  refine ACode.seq ?_
  refine ACode.region ?_
  refine .cons (.lN 9 rfl rfl rfl) ?_
  refine .cons (.cP [.tmp 3] rfl rfl rfl rfl (isStmt_fn s (by omega)) rfl) ?_
  refine .cons (.nt rfl rfl) ?_
  refine .nil ?_
  refine ks_n ?_
  refine ACode.condT rfl (fun h5 => ?_) (fun h5 => ?_)
  · try simp only [List.length_map, decide_eq_true_eq, decide_eq_false_iff_not, Bool.not_eq_true', Bool.not_eq_false', Bool.not_eq_true, Bool.not_eq_false] at h5
    refine ACode.seq ?_
    refine ACode.region ?_
    refine .cons (.asg rfl rfl) ?_
    refine .nil ?_
    refine ks_n ?_
    refine ACode.ret ?_
    refine ks_r ?_
    refine kf_wret [(.t 2, .v (.o (vD (dCs (rdS s)))))] (Wk.keep [] rfl rfl ⟨ks rfl (.c (Cto.nilE 2 (by rw [rdS, h5]; rfl))), trivial⟩) rfl ?_ nobox
    rfl
  · try simp only [List.length_map, decide_eq_true_eq, decide_eq_false_iff_not, Bool.not_eq_true', Bool.not_eq_false', Bool.not_eq_true, Bool.not_eq_false] at h5
    refine ACode.skip ?_
    refine ks_n ?_
    refine ACode.seq ?_
    refine ACode.region ?_
    refine .cons (.lN 9 rfl rfl rfl) ?_
    refine .cons (.cP [.tmp 6] rfl rfl rfl rfl (ownStmt_fn s hs) rfl) ?_
    refine .cons (.fN 2 7 rfl rfl) ?_
    refine .cons (.cP [.tmp 8] rfl rfl rfl rfl (reads_fn (d := 4) (L := 5) _ (by omega) (by rw [mapS_id h5]; exact (stmtV_ex h5).1)) rfl) ?_
    refine .cons (.asg rfl rfl) ?_
    refine .nil ?_
    refine ks_n ?_
    refine ACode.ret ?_
    refine kf_wret [(.t 2, .v (.o (vD (dCs (rdS s)))))] (Wk.keep [] rfl rfl ⟨ks rfl (.dt (by rw [rdS, if_pos h5, mapS_id h5])), trivial⟩) rfl ?_ nobox
    rfl

mutual
def opsE : Ex → Nat
  | .mk k _ _ _ ks => (if 4 ≤ k ∧ k ≤ 6 then 1 else 0) + opsEs ks
def opsEs : List Ex → Nat
  | [] => 0
  | e :: l => opsE e + opsEs l
end
theorem opsE_eq (e : Ex) : opsE e = (if 4 ≤ e.k ∧ e.k ≤ 6 then 1 else 0) + opsEs e.ks := by cases e; rw [opsE]; rfl
mutual
theorem opsE_le : ∀ e : Ex, opsE e ≤ cntE e
  | .mk k n i r ks => by
    rw [opsE, cntE]
    have := opsEs_le ks
    split <;> omega
theorem opsEs_le : ∀ l : List Ex, opsEs l ≤ cntEs l
  | [] => by simp [opsEs]
  | e :: l => by
    rw [opsEs, cntEs]
    have := opsE_le e
    have := opsEs_le l
    omega
end
theorem opsEs_take {l : List Ex} {i : Nat} {x : Ex} (h : l[i]? = some x) : opsEs (l.take (i + 1)) = opsEs (l.take i) + opsE x := by
  have key : ∀ (a : List Ex) (x : Ex), opsEs (a ++ [x]) = opsEs a + opsE x := by
    intro a x
    induction a with
    | nil => simp [opsEs]
    | cons y a ih => rw [List.cons_append, opsEs, opsEs, ih]; omega
  rw [List.take_add_one, h]
  exact key _ _
theorem ops64 {e : Ex} {i : Nat} (h : cntE e ≤ 64) : opsEs (e.ks.take i) ≤ 64 := by
  have h1 := opsEs_le (e.ks.take i)
  have h2 := cntEs_le (l := e.ks) (i := i)
  rw [cntE_eq] at h
  omega
theorem op_kids {d L : Nat} {e : Ex} (h : exV d L e = true) : (4 ≤ e.k ∧ e.k ≤ 6) ↔ 0 < e.ks.length := by
  cases L with
  | zero => cases h
  | succ L =>
    rw [exV, Bool.and_eq_true, Bool.and_eq_true] at h
    have h1 := h.1.1
    unfold kidV at h1
    split at h1
    · have := of_decide_eq_true h1; constructor <;> omega
    · split at h1
      · have := of_decide_eq_true h1; constructor <;> omega
      · cases h1
/-- The number of operators of a statement. -/
def opsS (s : Stm) : Nat := if stmtV 4 s = true then opsE s.2 else 0

set_option maxRecDepth 100000 in
set_option maxHeartbeats 1600000 in
theorem countOps_one (e : Ex) {d L : Nat} (hv : exV d L e = true) (hcn : cntE e ≤ 64) (ih : ∀ x ∈ e.ks, Fn Try.prog 63 [] [ad (rX x)] (.o (nat1 (opsE x : Nat))) []) : Fn Try.prog 63 [] [ad (rX e)] (.o (nat1 (opsE e : Nat))) [] := by
  have hkl := (exV_kids hv).1
  have hok := op_kids hv
  refine Fn.code0 Try.func63 rfl rfl rfl rfl ?_
  refine ACode.seq ?_
  refine ACode.region ?_
  refine .cons (St1.boxP rfl rfl rfl rfl rfl rfl) ?_
  refine .cons (.asg rfl rfl) ?_
  refine .nil ?_
  refine ks_n ?_
  refine ACode.seq ?_
  refine ACode.region ?_
  refine .cons (.asg rfl rfl) ?_
  refine .nil ?_
  refine ks_n ?_
  refine ACode.seq ?_
  refine ACode.cut [(.t 1, .v (.o (.c (.ptr (rX e))))), (.t 2, .v (.o (nat1 0))), (.t 3, .v (.o (nat1 (((if 4 ≤ e.k ∧ e.k ≤ 6 then 1 else 0) : Nat) : Int))))] ?_ ?_
  · skip
    refine ACode.seq ?_
    refine ACode.region ?_
    refine .cons (.fP 0 0 false rfl rfl) ?_
    refine .cons (.l1 1 rfl rfl) ?_
    refine .cons (.cP [.tmp 7] rfl rfl rfl rfl (isOp_fn _) rfl) ?_
    refine .nil ?_
    refine ks_n ?_
    refine ACode.condT rfl (fun h8 => ?_) (fun h8 => ?_)
    · try simp only [List.length_map, decide_eq_true_eq, decide_eq_false_iff_not, Bool.not_eq_true', Bool.not_eq_false', Bool.not_eq_true, Bool.not_eq_false] at h8
      refine ACode.region ?_
      refine .cons (.asg rfl rfl) ?_
      refine .nil ?_
      exact kc_n (Wk.keep [] rfl rfl ⟨ks rfl .dt, ks rfl .dt, ks rfl (.dt (vI (by first | (rw [if_pos (by simpa [inB] using h8)]; rfl) | (rw [if_neg (by simpa [inB] using h8)]; rfl) | (rw [if_pos (hok.2 (by omega))]; rfl) | (rw [if_neg (fun q => absurd (hok.1 q) (by omega))]; rfl)))), trivial⟩)
    · try simp only [List.length_map, decide_eq_true_eq, decide_eq_false_iff_not, Bool.not_eq_true', Bool.not_eq_false', Bool.not_eq_true, Bool.not_eq_false] at h8
      refine ACode.skip ?_
      exact kc_n (Wk.keep [] rfl rfl ⟨ks rfl .dt, ks rfl .dt, ks rfl (.dt (vI (by first | (rw [if_pos (by simpa [inB] using h8)]; rfl) | (rw [if_neg (by simpa [inB] using h8)]; rfl) | (rw [if_pos (hok.2 (by omega))]; rfl) | (rw [if_neg (fun q => absurd (hok.1 q) (by omega))]; rfl)))), trivial⟩)
  refine ks_n ?_
  refine ACode.seq ?_
  refine ACode.seq ?_
  refine ACode.region ?_
  refine .cons (.fP 6 0 false rfl rfl) ?_
  refine .cons (.l1 1 rfl rfl) ?_
  refine .cons (.ln 31 7 112 rfl rfl rfl) ?_
  refine .cons (.mv rfl rfl) ?_
  refine .nil ?_
  refine ks_n ?_
  refine ACode.block ?_
  refine .loopK (fun m σ => (∃ i : Nat, m = e.ks.length - i ∧ (i ≤ e.ks.length) ∧ (True) ∧ σ = [(.t 1, .v (.o (.c (.ptr (rX e))))), (.t 2, .v (.o (nat1 0))), (.t 3, .v (.o (nat1 (((if 4 ≤ e.k ∧ e.k ≤ 6 then 1 else 0) + opsEs (e.ks.take i) : Nat))))), (.t 10, .v (.o (vD (dEs e.ks)))), (.t 11, .v (.o (nat1 (e.ks.length : Nat)))), (.t 12, .v (.o (nat1 (i : Nat))))])) [] ⟨0, rfl, by omega, trivial, rfl⟩ ⟨ks rfl .dt, ks rfl .dt, ks rfl (.dt (vI (by first | (simp [opsEs]; done) | (rw [hT]; omega) | (rw [hT, ← hq]; omega)))), ks rfl .dt, ks rfl .dt, ks rfl .dt, trivial⟩ ?_
  rintro m σ ⟨i, hm0, hi, hF, rfl⟩
  refine ACode.seq ?_
  refine ACode.region ?_
  refine .cons (.ls rfl rfl rfl) ?_
  refine .nil ?_
  refine ks_n ?_
  refine ACode.seq ?_
  refine .cD rfl (fun h13 => ?_) (fun h13 => ?_)
  · skip
    obtain ⟨x, hx1⟩ : ∃ x, e.ks[i]? = some x := ⟨_, List.getElem?_eq_getElem (by omega)⟩
    have hmx := List.mem_of_getElem? hx1
    have hT := opsEs_take hx1
    have h64 := ops64 (i := i + 1) hcn
    obtain ⟨q, hq⟩ : ∃ q : Nat, q = (if 4 ≤ e.k ∧ e.k ≤ 6 then 1 else 0) := ⟨_, rfl⟩
    have hq1 : q ≤ 1 := by rw [hq]; split <;> omega
    refine ACode.skip ?_
    refine ks_n ?_
    refine ACode.seq ?_
    refine ACode.block ?_
    refine ACode.seq ?_
    refine ACode.region ?_
    refine .cons (.xL 31 7 112 rfl rfl rfl rfl rfl (rE_at hx1)) ?_
    refine .cons (.lN 7 rfl rfl rfl) ?_
    refine .cons (.al 105 [.int .i64 0, .int .i64 0, .slice none 0 0, .int .i64 0, .string ByteArray.empty, .slice none 0 0, .slice none 0 0] rfl rfl rfl) ?_
    refine .cons (.sT 7 true rfl rfl rfl rfl rfl rfl rfl) ?_
    refine .nil ?_
    refine ks_n ?_
    refine ACode.region ?_
    refine .cons (.mv rfl rfl) ?_
    refine .cons (.bN 7 rfl rfl rfl rfl rfl rfl) ?_
    refine .cons (.cP [.tmp 17] rfl rfl rfl rfl (ih x hmx) rfl) ?_
    refine .cons (.pl rfl rfl rfl) ?_
    refine .cons (.asg rfl rfl) ?_
    refine .nil ?_
    refine kb_n ?_
    refine ks_n ?_
    refine ACode.region ?_
    refine .cons (.pl rfl rfl rfl) ?_
    refine .cons (.mv rfl rfl) ?_
    refine .nil ?_
    refine kl_k [] ⟨i + 1, rfl, by omega, trivial, rfl⟩ ⟨ks rfl .dt, ks rfl .dt, ks rfl (.dt (vI (by first | (simp [opsEs]; done) | (rw [hT]; omega) | (rw [hT, ← hq]; omega)))), ks rfl .dt, ks rfl .dt, ks rfl .dt, trivial⟩
  · skip
    have hall : e.ks.take i = e.ks := List.take_of_length_le (by omega)
    refine ACode.exit ?_
    refine ks_e ?_
    refine kl_e ?_
    refine kb_hit ?_
    refine ks_n ?_
    refine ACode.seq ?_
    refine ACode.region ?_
    refine .cons (.mv rfl rfl) ?_
    refine .cons (.asg rfl rfl) ?_
    refine .nil ?_
    refine ks_n ?_
    refine ACode.ret ?_
    refine kf_ret rfl ?_ nobox
    exact leafI (by rw [opsE_eq, hall])

set_option maxRecDepth 100000 in
set_option maxHeartbeats 1600000 in
theorem l13Ops_one (e : Ex) {d L : Nat} (hv : exV d L e = true) (hcn : cntE e ≤ 64) (ih : ∀ x ∈ e.ks, Fn Try.prog 64 [] [ad (rX x)] (.o (nat1 (opsE x : Nat))) []) : Fn Try.prog 64 [] [ad (rX e)] (.o (nat1 (opsE e : Nat))) [] := by
  have hkl := (exV_kids hv).1
  have hok := op_kids hv
  refine Fn.code0 Try.func64 rfl rfl rfl rfl ?_
  refine ACode.seq ?_
  refine ACode.region ?_
  refine .cons (St1.boxP rfl rfl rfl rfl rfl rfl) ?_
  refine .cons (.asg rfl rfl) ?_
  refine .nil ?_
  refine ks_n ?_
  refine ACode.seq ?_
  refine ACode.region ?_
  refine .cons (.asg rfl rfl) ?_
  refine .nil ?_
  refine ks_n ?_
  refine ACode.seq ?_
  refine ACode.cut [(.t 1, .v (.o (.c (.ptr (rX e))))), (.t 2, .v (.o (nat1 0))), (.t 3, .v (.o (nat1 (((if 4 ≤ e.k ∧ e.k ≤ 6 then 1 else 0) : Nat) : Int))))] ?_ ?_
  · skip
    refine ACode.seq ?_
    refine ACode.region ?_
    refine .cons (.fP 6 0 false rfl rfl) ?_
    refine .cons (.l1 1 rfl rfl) ?_
    refine .cons (.ln 31 7 112 rfl rfl rfl) ?_
    refine .cons (.gt rfl rfl rfl) ?_
    refine .nil ?_
    refine ks_n ?_
    refine .cD rfl (fun h8 => ?_) (fun h8 => ?_)
    · skip
      refine ACode.region ?_
      refine .cons (.asg rfl rfl) ?_
      refine .nil ?_
      exact kc_n (Wk.keep [] rfl rfl ⟨ks rfl .dt, ks rfl .dt, ks rfl (.dt (vI (by first | (rw [if_pos (by simpa [inB] using h8)]; rfl) | (rw [if_neg (by simpa [inB] using h8)]; rfl) | (rw [if_pos (hok.2 (by omega))]; rfl) | (rw [if_neg (fun q => absurd (hok.1 q) (by omega))]; rfl)))), trivial⟩)
    · skip
      refine ACode.skip ?_
      exact kc_n (Wk.keep [] rfl rfl ⟨ks rfl .dt, ks rfl .dt, ks rfl (.dt (vI (by first | (rw [if_pos (by simpa [inB] using h8)]; rfl) | (rw [if_neg (by simpa [inB] using h8)]; rfl) | (rw [if_pos (hok.2 (by omega))]; rfl) | (rw [if_neg (fun q => absurd (hok.1 q) (by omega))]; rfl)))), trivial⟩)
  refine ks_n ?_
  refine ACode.seq ?_
  refine ACode.seq ?_
  refine ACode.region ?_
  refine .cons (.asg rfl rfl) ?_
  refine .nil ?_
  refine ks_n ?_
  refine ACode.block ?_
  refine .loopK (fun m σ => (∃ i : Nat, m = e.ks.length - i ∧ (i ≤ e.ks.length) ∧ (True) ∧ σ = [(.t 1, .v (.o (.c (.ptr (rX e))))), (.t 2, .v (.o (nat1 0))), (.t 3, .v (.o (nat1 (((if 4 ≤ e.k ∧ e.k ≤ 6 then 1 else 0) + opsEs (e.ks.take i) : Nat))))), (.t 4, .v (.o (nat1 (i : Nat))))])) [] ⟨0, rfl, by omega, trivial, rfl⟩ ⟨ks rfl .dt, ks rfl .dt, ks rfl (.dt (vI (by first | (simp [opsEs]; done) | (rw [hT]; omega) | (rw [hT, ← hq]; omega)))), ks rfl .dt, trivial⟩ ?_
  rintro m σ ⟨i, hm0, hi, hF, rfl⟩
  refine ACode.seq ?_
  refine ACode.seq ?_
  refine ACode.region ?_
  refine .cons (.mv rfl rfl) ?_
  refine .cons (.fP 6 0 false rfl rfl) ?_
  refine .cons (.l1 1 rfl rfl) ?_
  refine .cons (.ln 31 7 112 rfl rfl rfl) ?_
  refine .cons (.ls rfl rfl rfl) ?_
  refine .nil ?_
  refine ks_n ?_
  refine .cD rfl (fun h13 => ?_) (fun h13 => ?_)
  · skip
    obtain ⟨x, hx1⟩ : ∃ x, e.ks[i]? = some x := ⟨_, List.getElem?_eq_getElem (by omega)⟩
    have hmx := List.mem_of_getElem? hx1
    have hT := opsEs_take hx1
    have h64 := ops64 (i := i + 1) hcn
    obtain ⟨q, hq⟩ : ∃ q : Nat, q = (if 4 ≤ e.k ∧ e.k ≤ 6 then 1 else 0) := ⟨_, rfl⟩
    have hq1 : q ≤ 1 := by rw [hq]; split <;> omega
    refine ACode.skip ?_
    refine ks_n ?_
    refine ACode.seq ?_
    refine ACode.block ?_
    refine ACode.region ?_
    refine .cons (.mv rfl rfl) ?_
    refine .cons (.fP 6 0 false rfl rfl) ?_
    refine .cons (.l1 1 rfl rfl) ?_
    refine .cons (.mv rfl rfl) ?_
    refine .cons (.xL 31 7 112 rfl rfl rfl rfl rfl (rE_at hx1)) ?_
    refine .cons (.lN 7 rfl rfl rfl) ?_
    refine .cons (.cP [.tmp 21] rfl rfl rfl rfl (ih x hmx) rfl) ?_
    refine .cons (.pl rfl rfl rfl) ?_
    refine .cons (.asg rfl rfl) ?_
    refine .nil ?_
    refine kb_n ?_
    refine ks_n ?_
    refine ACode.region ?_
    refine .cons (.mv rfl rfl) ?_
    refine .cons (.pl rfl rfl rfl) ?_
    refine .cons (.asg rfl rfl) ?_
    refine .nil ?_
    refine kl_k [] ⟨i + 1, rfl, by omega, trivial, rfl⟩ ⟨ks rfl .dt, ks rfl .dt, ks rfl (.dt (vI (by first | (simp [opsEs]; done) | (rw [hT]; omega) | (rw [hT, ← hq]; omega)))), ks rfl .dt, trivial⟩
  · skip
    have hall : e.ks.take i = e.ks := List.take_of_length_le (by omega)
    refine ACode.exit ?_
    refine ks_e ?_
    refine kl_e ?_
    refine kb_hit ?_
    refine ks_n ?_
    refine ACode.seq ?_
    refine ACode.region ?_
    refine .cons (.mv rfl rfl) ?_
    refine .cons (.asg rfl rfl) ?_
    refine .nil ?_
    refine ks_n ?_
    refine ACode.ret ?_
    refine kf_ret rfl ?_ nobox
    exact leafI (by rw [opsE_eq, hall])

theorem countOps_fn {d : Nat} : ∀ {L : Nat} (e : Ex), L ≤ 6 → exV d L e = true → Fn Try.prog 63 [] [ad (rX e)] (.o (nat1 (opsE e : Nat))) []
  | 0, e, hL, h => by cases h
  | L + 1, e, hL, h => countOps_one e h (cnt64 h hL) fun x hx => countOps_fn (L := L) x (by omega) ((exV_kids h).2 x hx)

theorem l13Ops_fn {d : Nat} : ∀ {L : Nat} (e : Ex), L ≤ 6 → exV d L e = true → Fn Try.prog 64 [] [ad (rX e)] (.o (nat1 (opsE e : Nat))) []
  | 0, e, hL, h => by cases h
  | L + 1, e, hL, h => l13Ops_one e h (cnt64 h hL) fun x hx => l13Ops_fn (L := L) x (by omega) ((exV_kids h).2 x hx)

set_option maxRecDepth 100000 in
set_option maxHeartbeats 1600000 in
theorem implCount_fn (s : Stm) (hs : szS s ≤ 1099511627776) : Fn Try.prog 21 [] [ad (rS s)] (.o (nat1 (opsS s : Nat))) [] := by
  refine Fn.code0 Try.func21 rfl rfl rfl rfl ?_
  refine ACode.seq ?_
  refine ACode.region ?_
  refine .cons (St1.boxP rfl rfl rfl rfl rfl rfl) ?_
  refine .cons (.asg rfl rfl) ?_
  refine .nil ?_
  refine ks_n ?_
  refine ACode.seq ?_
  refine ACode.seq ?_
  refine ACode.region ?_
  refine .cons (.lN 9 rfl rfl rfl) ?_
  refine .cons (.cP [.tmp 3] rfl rfl rfl rfl (isStmt_fn s hs) rfl) ?_
  refine .cons (.nt rfl rfl) ?_
  refine .nil ?_
  refine ks_n ?_
  refine ACode.condT rfl (fun h5 => ?_) (fun h5 => ?_)
  · try simp only [List.length_map, decide_eq_true_eq, decide_eq_false_iff_not, Bool.not_eq_true', Bool.not_eq_false', Bool.not_eq_true, Bool.not_eq_false] at h5
    refine ACode.seq ?_
    refine ACode.region ?_
    refine .cons (.asg rfl rfl) ?_
    refine .nil ?_
    refine ks_n ?_
    refine ACode.ret ?_
    refine ks_r ?_
    refine kf_ret rfl ?_ nobox
    first | exact leafI (by rw [opsS, h5]; rfl) | exact leafI (by rw [opsS, if_pos h5])
  · try simp only [List.length_map, decide_eq_true_eq, decide_eq_false_iff_not, Bool.not_eq_true', Bool.not_eq_false', Bool.not_eq_true, Bool.not_eq_false] at h5
    refine ACode.skip ?_
    refine ks_n ?_
    refine ACode.seq ?_
    refine ACode.region ?_
    refine .cons (.fP 2 6 true rfl rfl) ?_
    refine .cons (.lN 7 rfl rfl rfl) ?_
    refine .cons (.cP [.tmp 7] rfl rfl rfl rfl (countOps_fn (d := 4) (L := 5) s.2 (by omega) (stmtV_ex h5).1) rfl) ?_
    refine .cons (.asg rfl rfl) ?_
    refine .nil ?_
    refine ks_n ?_
    refine ACode.ret ?_
    refine kf_ret rfl ?_ nobox
    first | exact leafI (by rw [opsS, h5]; rfl) | exact leafI (by rw [opsS, if_pos h5])

set_option maxRecDepth 100000 in
set_option maxHeartbeats 1600000 in
theorem specCount_fn (s : Stm) (hs : szS s ≤ 1099511627776) : Fn Try.prog 22 [] [ad (rS s)] (.o (nat1 (opsS s : Nat))) [] := by
  refine Fn.code0 Try.func22 rfl rfl rfl rfl ?_
  refine ACode.seq ?_
  refine ACode.region ?_
  refine .cons (St1.boxP rfl rfl rfl rfl rfl rfl) ?_
  refine .cons (.asg rfl rfl) ?_
  refine .nil ?_
  refine ks_n ?_
  refine ACode.seq ?_
  refine ACode.seq ?_
  refine ACode.region ?_
  refine .cons (.lN 9 rfl rfl rfl) ?_
  refine .cons (.cP [.tmp 3, .const (.int .i64 (4))] rfl rfl rfl rfl (specStmtV_fn 4 s hs) rfl) ?_
  refine .cons (.nt rfl rfl) ?_
  refine .nil ?_
  refine ks_n ?_
  refine ACode.condT rfl (fun h5 => ?_) (fun h5 => ?_)
  · try simp only [List.length_map, decide_eq_true_eq, decide_eq_false_iff_not, Bool.not_eq_true', Bool.not_eq_false', Bool.not_eq_true, Bool.not_eq_false] at h5
    refine ACode.seq ?_
    refine ACode.region ?_
    refine .cons (.asg rfl rfl) ?_
    refine .nil ?_
    refine ks_n ?_
    refine ACode.ret ?_
    refine ks_r ?_
    refine kf_ret rfl ?_ nobox
    first | exact leafI (by rw [opsS, h5]; rfl) | exact leafI (by rw [opsS, if_pos h5])
  · try simp only [List.length_map, decide_eq_true_eq, decide_eq_false_iff_not, Bool.not_eq_true', Bool.not_eq_false', Bool.not_eq_true, Bool.not_eq_false] at h5
    refine ACode.skip ?_
    refine ks_n ?_
    refine ACode.seq ?_
    refine ACode.region ?_
    refine .cons (.fP 2 6 true rfl rfl) ?_
    refine .cons (.lN 7 rfl rfl rfl) ?_
    refine .cons (.cP [.tmp 7] rfl rfl rfl rfl (l13Ops_fn (d := 4) (L := 5) s.2 (by omega) (stmtV_ex h5).1) rfl) ?_
    refine .cons (.asg rfl rfl) ?_
    refine .nil ?_
    refine ks_n ?_
    refine ACode.ret ?_
    refine kf_ret rfl ?_ nobox
    first | exact leafI (by rw [opsS, h5]; rfl) | exact leafI (by rw [opsS, if_pos h5])

end Go.Proofs.Ytigdfdhjnadieaa

/- Statements: equality and reductions; condition: small lists. -/
namespace Go.Proofs.Ytigdfdhjnadieaa
set_option linter.unusedVariables false
set_option linter.unusedSimpArgs false
open Go.RowKit

theorem sameE_eq (x y : Ex) : sameE x y = (decide (x.k = y.k) && decide (x.n = y.n) && decide (x.i = y.i) && sameC x.r y.r && sameEs x.ks y.ks) := by
  cases x; cases y
  rw [sameE, sameC]
  simp only [Ex.k, Ex.n, Ex.i, Ex.r, Ex.ks, Bool.and_assoc]
  congr 3
  rw [← Bool.and_assoc, ← Bool.and_assoc]
  congr 1
  exact Bool.and_comm _ _
theorem eqF_sameE : ∀ a b : List Ex, eqF sameE a b = sameEs a b
  | [], [] => rfl
  | [], _ :: _ => rfl
  | _ :: _, [] => rfl
  | x :: a, y :: b => by rw [eqF, sameEs, eqF_sameE a b]

set_option maxRecDepth 100000 in
set_option maxHeartbeats 1600000 in
theorem eqf_ex {f : FuncId} {cap : List (List D)} (hc : callable Try.prog f = true) (p : Ex → Ex → Bool) (xs ys : List Ex) (hx : xs.length ≤ 1099511627776) (hf : ∀ x ∈ xs, ∀ y ∈ ys, Fn Try.prog f [] (ad (rX x) :: ad (rX y) :: cap.map fun c => .c (.ptr c)) (.o (bo1 (p x y))) []) : Fn Try.prog 124 [] [vD (dEs xs), vD (dEs ys), .c (.fn f cap)] (.o (bo1 (eqF p xs ys))) [] := by
  refine Fn.code0 Try.func124 rfl rfl rfl rfl ?_
  refine ACode.seq ?_
  refine ACode.region ?_
  refine .cons (.asg rfl rfl) ?_
  refine .nil ?_
  refine ks_n ?_
  refine ACode.seq ?_
  refine ACode.seq ?_
  refine ACode.region ?_
  refine .cons (.mv rfl rfl) ?_
  refine .cons (.ln 31 7 112 rfl rfl rfl) ?_
  refine .cons (.mv rfl rfl) ?_
  refine .cons (.ln 31 7 112 rfl rfl rfl) ?_
  refine .cons (.ne rfl rfl rfl) ?_
  refine .nil ?_
  refine ks_n ?_
  refine .cND rfl (fun h14 => ?_) (fun h14 => ?_)
  · skip
    refine ACode.seq ?_
    refine ACode.region ?_
    refine .cons (.asg rfl rfl) ?_
    refine .nil ?_
    refine ks_n ?_
    refine ACode.ret ?_
    refine ks_r ?_
    refine kf_ret rfl ?_ nobox
    exact leafB (eqF_len (by omega)).symm
  · skip
    refine ACode.skip ?_
    refine ks_n ?_
    refine ACode.seq ?_
    refine ACode.seq ?_
    refine ACode.region ?_
    refine .cons (.mv rfl rfl) ?_
    refine .cons (.ln 31 7 112 rfl rfl rfl) ?_
    refine .cons (.mv rfl rfl) ?_
    refine .nil ?_
    refine ks_n ?_
    refine ACode.block ?_
    refine .loopK (fun m σ => (∃ i : Nat, m = xs.length - i ∧ (i ≤ xs.length) ∧ (eqF p xs ys = eqF p (xs.drop i) (ys.drop i)) ∧ σ = [(.t 1, .v (.o (vD (dEs ys)))), (.t 2, .v (.o (.c (.fn f cap)))), (.t 15, .v (.o (vD (dEs xs)))), (.t 16, .v (.o (nat1 (xs.length : Nat)))), (.t 17, .v (.o (nat1 (i : Nat))))])) [] ⟨0, rfl, by omega, by simp, rfl⟩ ⟨ks rfl .dt, ks rfl .dt, ks rfl .dt, ks rfl .dt, ks rfl .dt, trivial⟩ ?_
    rintro m σ ⟨i, hm0, hi, hF, rfl⟩
    refine ACode.seq ?_
    refine ACode.region ?_
    refine .cons (.ls rfl rfl rfl) ?_
    refine .nil ?_
    refine ks_n ?_
    refine ACode.seq ?_
    refine .cD rfl (fun h18 => ?_) (fun h18 => ?_)
    · skip
      obtain ⟨x, hx1⟩ : ∃ x, xs[i]? = some x := ⟨_, List.getElem?_eq_getElem (by omega)⟩
      obtain ⟨y, hy1⟩ : ∃ x, ys[i]? = some x := ⟨_, List.getElem?_eq_getElem (by omega)⟩
      refine ACode.skip ?_
      refine ks_n ?_
      refine ACode.seq ?_
      refine ACode.block ?_
      refine ACode.seq ?_
      refine ACode.region ?_
      refine .cons (.mv rfl rfl) ?_
      refine .cons (.xL 31 7 112 rfl rfl rfl rfl rfl (rE_at hx1)) ?_
      refine .cons (.lN 7 rfl rfl rfl) ?_
      refine .cons (.al 108 [.int .i64 0, .int .i64 0, .slice none 0 0, .int .i64 0, .string ByteArray.empty, .slice none 0 0, .slice none 0 0] rfl rfl rfl) ?_
      refine .cons (.asg rfl rfl) ?_
      refine .cons (.sT 7 true rfl rfl rfl rfl rfl rfl rfl) ?_
      refine .nil ?_
      refine ks_n ?_
      refine ACode.seq ?_
      refine ACode.region ?_
      refine .cons (.mv rfl rfl) ?_
      refine .cons (.mv rfl rfl) ?_
      refine .cons (.xL 31 7 112 rfl rfl rfl rfl rfl (rE_at hy1)) ?_
      refine .cons (.lN 7 rfl rfl rfl) ?_
      refine .cons (.al 109 [.int .i64 0, .int .i64 0, .slice none 0 0, .int .i64 0, .string ByteArray.empty, .slice none 0 0, .slice none 0 0] rfl rfl rfl) ?_
      refine .cons (.sT 7 true rfl rfl rfl rfl rfl rfl rfl) ?_
      refine .nil ?_
      refine ks_n ?_
      refine ACode.seq ?_
      refine ACode.region ?_
      refine .cons (.mv rfl rfl) ?_
      refine .cons (.bN 7 rfl rfl rfl rfl rfl rfl) ?_
      refine .cons (.bN 7 rfl rfl rfl rfl rfl rfl) ?_
      refine .cons (.cP [.tmp 27, .tmp 28] rfl rfl rfl rfl (hf x (List.mem_of_getElem? hx1) y (List.mem_of_getElem? hy1)) rfl hc) ?_
      refine .cons (.nt rfl rfl) ?_
      refine .nil ?_
      refine ks_n ?_
      refine ACode.condT rfl (fun h30 => ?_) (fun h30 => ?_)
      · try simp only [List.length_map, decide_eq_true_eq, decide_eq_false_iff_not, Bool.not_eq_true', Bool.not_eq_false', Bool.not_eq_true, Bool.not_eq_false] at h30
        have g := h30
        refine ACode.seq ?_
        refine ACode.region ?_
        refine .cons (.asg rfl rfl) ?_
        refine .nil ?_
        refine ks_n ?_
        refine ACode.ret ?_
        refine kb_r ?_
        refine ks_r ?_
        refine kl_r ?_
        refine kb_r ?_
        refine ks_r ?_
        refine kf_ret rfl ?_ nobox
        exact leafB (by rw [hF, eqF_drop hx1 hy1, g]; rfl)
      · try simp only [List.length_map, decide_eq_true_eq, decide_eq_false_iff_not, Bool.not_eq_true', Bool.not_eq_false', Bool.not_eq_true, Bool.not_eq_false] at h30
        have g := h30
        refine ACode.skip ?_
        refine kb_n ?_
        refine ks_n ?_
        refine ACode.region ?_
        refine .cons (.pl rfl rfl rfl) ?_
        refine .cons (.mv rfl rfl) ?_
        refine .nil ?_
        refine kl_k [] ⟨i + 1, rfl, by omega, by rw [hF, eqF_drop hx1 hy1, g, Bool.true_and], rfl⟩ ⟨ks rfl .dt, ks rfl .dt, ks rfl .dt, ks rfl .dt, ks rfl .dt, trivial⟩
    · skip
      refine ACode.exit ?_
      refine ks_e ?_
      refine kl_e ?_
      refine kb_hit ?_
      refine ks_n ?_
      refine ACode.seq ?_
      refine ACode.region ?_
      refine .cons (.asg rfl rfl) ?_
      refine .nil ?_
      refine ks_n ?_
      refine ACode.ret ?_
      refine kf_ret rfl ?_ nobox
      exact leafB (by rw [hF, show i = xs.length by omega, eqF_end (by omega)])

set_option maxRecDepth 100000 in
set_option maxHeartbeats 1600000 in
theorem accSame_fn (a b : Acc) (ha : a.2.length ≤ 1099511627776) : Fn Try.prog 69 [] [ad (rC a), ad (rC b)] (.o (bo1 (sameC a b))) [] := by
  refine Fn.code0 Try.func69 rfl rfl rfl rfl ?_
  refine ACode.seq ?_
  refine ACode.region ?_
  refine .cons (St1.boxP rfl rfl rfl rfl rfl rfl) ?_
  refine .cons (St1.boxP rfl rfl rfl rfl rfl rfl) ?_
  refine .cons (.asg rfl rfl) ?_
  refine .nil ?_
  refine ks_n ?_
  refine ACode.seq ?_
  refine ACode.region ?_
  refine .cons (.fP 0 0 false rfl rfl) ?_
  refine .cons (.l1 1 rfl rfl) ?_
  refine .cons (.fP 0 0 false rfl rfl) ?_
  refine .cons (.l1 1 rfl rfl) ?_
  refine .cons (St1.eqS rfl rfl rfl) ?_
  refine .cons (.mv rfl rfl) ?_
  refine AOps.cases 10 _ rfl (fun g10 => ?_) (fun g10 => ?_)
  · try simp only [List.length_map, decide_eq_true_eq, decide_eq_false_iff_not, Bool.not_eq_true', Bool.not_eq_false', Bool.not_eq_true, Bool.not_eq_false] at g10
    refine .cons (.gT rfl rfl rfl (.fP 1 0 false rfl rfl)) ?_
    refine .cons (.gT rfl rfl rfl (.l1 1 rfl rfl)) ?_
    refine .cons (.gT rfl rfl rfl (.fP 1 0 false rfl rfl)) ?_
    refine .cons (.gT rfl rfl rfl (.l1 1 rfl rfl)) ?_
    refine .cons (.gT rfl rfl rfl (.cP [.tmp 12, .tmp 14, .func 43] rfl rfl rfl rfl (eqfA_fn _ _ ha) rfl)) ?_
    refine .cons (.pT rfl rfl rfl) ?_
    refine .cons (.asg rfl rfl) ?_
    refine .nil ?_
    refine ks_n ?_
    refine ACode.ret ?_
    refine kf_ret rfl ?_ nobox
    exact leafB (by rw [sameC, g10]; rfl)
  · try simp only [List.length_map, decide_eq_true_eq, decide_eq_false_iff_not, Bool.not_eq_true', Bool.not_eq_false', Bool.not_eq_true, Bool.not_eq_false] at g10
    refine .cons (.gF rfl rfl rfl) ?_
    refine .cons (.gF rfl rfl rfl) ?_
    refine .cons (.gF rfl rfl rfl) ?_
    refine .cons (.gF rfl rfl rfl) ?_
    refine .cons (.gF rfl rfl rfl) ?_
    refine .cons (.pF rfl rfl rfl) ?_
    refine .cons (.asg rfl rfl) ?_
    refine .nil ?_
    refine ks_n ?_
    refine ACode.ret ?_
    refine kf_ret rfl ?_ nobox
    exact leafB (by rw [sameC, g10]; rfl)

set_option maxRecDepth 100000 in
set_option maxHeartbeats 1600000 in
theorem l3SameAcc_fn (a b : Acc) (ha : a.2.length ≤ 1099511627776) : Fn Try.prog 138 [] [ad (rC a), ad (rC b)] (.o (bo1 (sameC a b))) [] := by
  refine Fn.code0 Try.func138 rfl rfl rfl rfl ?_
  refine ACode.seq ?_
  refine ACode.region ?_
  refine .cons (St1.boxP rfl rfl rfl rfl rfl rfl) ?_
  refine .cons (St1.boxP rfl rfl rfl rfl rfl rfl) ?_
  refine .cons (.asg rfl rfl) ?_
  refine .nil ?_
  refine ks_n ?_
  refine ACode.seq ?_
  refine ACode.region ?_
  refine .cons (.fP 0 0 false rfl rfl) ?_
  refine .cons (.l1 1 rfl rfl) ?_
  refine .cons (.fP 0 0 false rfl rfl) ?_
  refine .cons (.l1 1 rfl rfl) ?_
  refine .cons (St1.eqS rfl rfl rfl) ?_
  refine .cons (.mv rfl rfl) ?_
  refine AOps.cases 10 _ rfl (fun g10 => ?_) (fun g10 => ?_)
  · try simp only [List.length_map, decide_eq_true_eq, decide_eq_false_iff_not, Bool.not_eq_true', Bool.not_eq_false', Bool.not_eq_true, Bool.not_eq_false] at g10
    refine .cons (.gT rfl rfl rfl (.fP 1 0 false rfl rfl)) ?_
    refine .cons (.gT rfl rfl rfl (.l1 1 rfl rfl)) ?_
    refine .cons (.gT rfl rfl rfl (.fP 1 0 false rfl rfl)) ?_
    refine .cons (.gT rfl rfl rfl (.l1 1 rfl rfl)) ?_
    refine .cons (.gT rfl rfl rfl (.cP [.tmp 12, .tmp 14] rfl rfl rfl rfl (l2SideSame_fn _ _ ha) rfl)) ?_
    refine .cons (.pT rfl rfl rfl) ?_
    refine .cons (.asg rfl rfl) ?_
    refine .nil ?_
    refine ks_n ?_
    refine ACode.ret ?_
    refine kf_ret rfl ?_ nobox
    exact leafB (by rw [sameC, g10]; rfl)
  · try simp only [List.length_map, decide_eq_true_eq, decide_eq_false_iff_not, Bool.not_eq_true', Bool.not_eq_false', Bool.not_eq_true, Bool.not_eq_false] at g10
    refine .cons (.gF rfl rfl rfl) ?_
    refine .cons (.gF rfl rfl rfl) ?_
    refine .cons (.gF rfl rfl rfl) ?_
    refine .cons (.gF rfl rfl rfl) ?_
    refine .cons (.gF rfl rfl rfl) ?_
    refine .cons (.pF rfl rfl rfl) ?_
    refine .cons (.asg rfl rfl) ?_
    refine .nil ?_
    refine ks_n ?_
    refine ACode.ret ?_
    refine kf_ret rfl ?_ nobox
    exact leafB (by rw [sameC, g10]; rfl)

set_option maxRecDepth 100000 in
set_option maxHeartbeats 1600000 in
theorem exprSame_one (x y : Ex) (hr : x.r.2.length ≤ 1099511627776) (hk : x.ks.length ≤ 1099511627776) (ih : ∀ a ∈ x.ks, ∀ b, Fn Try.prog 70 [] [ad (rX a), ad (rX b)] (.o (bo1 (sameE a b))) []) : Fn Try.prog 70 [] [ad (rX x), ad (rX y)] (.o (bo1 (sameE x y))) [] := by
  refine Fn.code0 Try.func70 rfl rfl rfl rfl ?_
  refine ACode.seq ?_
  refine ACode.region ?_
  refine .cons (St1.boxP rfl rfl rfl rfl rfl rfl) ?_
  refine .cons (St1.boxP rfl rfl rfl rfl rfl rfl) ?_
  refine .cons (.asg rfl rfl) ?_
  refine .nil ?_
  refine ks_n ?_
  refine ACode.seq ?_
  refine ACode.region ?_
  refine .cons (.fP 0 0 false rfl rfl) ?_
  refine .cons (.l1 1 rfl rfl) ?_
  refine .cons (.fP 0 0 false rfl rfl) ?_
  refine .cons (.l1 1 rfl rfl) ?_
  refine .cons (.eq rfl rfl rfl) ?_
  refine .cons (.mv rfl rfl) ?_
  refine .cD 10 rfl (fun g10 => ?_) (fun g10 => ?_)
  · skip
    refine .cons (.gT rfl rfl rfl (.fP 1 0 false rfl rfl)) ?_
    refine .cons (.gT rfl rfl rfl (.l1 1 rfl rfl)) ?_
    refine .cons (.gT rfl rfl rfl (.fP 1 0 false rfl rfl)) ?_
    refine .cons (.gT rfl rfl rfl (.l1 1 rfl rfl)) ?_
    refine .cons (.gT rfl rfl rfl (.eq rfl rfl rfl)) ?_
    refine .cons (.pT rfl rfl rfl) ?_
    refine .cons (.mv rfl rfl) ?_
    refine AOps.cases 17 _ rfl (fun g17 => ?_) (fun g17 => ?_)
    · try simp only [List.length_map, decide_eq_true_eq, decide_eq_false_iff_not, Bool.not_eq_true', Bool.not_eq_false', Bool.not_eq_true, Bool.not_eq_false] at g17
      refine .cons (.gT rfl rfl rfl (.fP 2 1 true rfl rfl)) ?_
      refine .cons (.gT rfl rfl rfl (.lN 2 rfl rfl rfl)) ?_
      refine .cons (.gT rfl rfl rfl (.fP 2 1 true rfl rfl)) ?_
      refine .cons (.gT rfl rfl rfl (.lN 2 rfl rfl rfl)) ?_
      refine .cons (.gT rfl rfl rfl (.cP [.tmp 19, .tmp 21] rfl rfl rfl rfl (implSame_fn _ _) rfl)) ?_
      refine .cons (.pT rfl rfl rfl) ?_
      refine .cons (.mv rfl rfl) ?_
      refine AOps.cases 24 _ rfl (fun g24 => ?_) (fun g24 => ?_)
      · try simp only [List.length_map, decide_eq_true_eq, decide_eq_false_iff_not, Bool.not_eq_true', Bool.not_eq_false', Bool.not_eq_true, Bool.not_eq_false] at g24
        refine .cons (.gT rfl rfl rfl (.fP 4 1 true rfl rfl)) ?_
        refine .cons (.gT rfl rfl rfl (.lN 2 rfl rfl rfl)) ?_
        refine .cons (.gT rfl rfl rfl (.fP 4 1 true rfl rfl)) ?_
        refine .cons (.gT rfl rfl rfl (.lN 2 rfl rfl rfl)) ?_
        refine .cons (.gT rfl rfl rfl (.cP [.tmp 26, .tmp 28] rfl rfl rfl rfl (accSame_fn _ _ hr) rfl)) ?_
        refine .cons (.pT rfl rfl rfl) ?_
        refine .cons (.mv rfl rfl) ?_
        refine AOps.cases 31 _ rfl (fun g31 => ?_) (fun g31 => ?_)
        · try simp only [List.length_map, decide_eq_true_eq, decide_eq_false_iff_not, Bool.not_eq_true', Bool.not_eq_false', Bool.not_eq_true, Bool.not_eq_false] at g31
          refine .cons (.gT rfl rfl rfl (.fP 6 0 false rfl rfl)) ?_
          refine .cons (.gT rfl rfl rfl (.l1 1 rfl rfl)) ?_
          refine .cons (.gT rfl rfl rfl (.fP 6 0 false rfl rfl)) ?_
          refine .cons (.gT rfl rfl rfl (.l1 1 rfl rfl)) ?_
          refine .cons (.gT rfl rfl rfl (.cP [.tmp 33, .tmp 35, .func 70] rfl rfl rfl rfl (eqf_ex (f := 70) (cap := []) (by kernel_rfl) sameE x.ks y.ks hk (fun a ha b _ => ih a ha b)) rfl)) ?_
          refine .cons (.pT rfl rfl rfl) ?_
          refine .cons (.asg rfl rfl) ?_
          refine .nil ?_
          refine ks_n ?_
          refine ACode.ret ?_
          refine kf_ret rfl ?_ nobox
          exact leafB (by rw [sameE_eq, ← eqF_sameE]; simp [*])
        · try simp only [List.length_map, decide_eq_true_eq, decide_eq_false_iff_not, Bool.not_eq_true', Bool.not_eq_false', Bool.not_eq_true, Bool.not_eq_false] at g31
          refine .cons (.gF rfl rfl rfl) ?_
          refine .cons (.gF rfl rfl rfl) ?_
          refine .cons (.gF rfl rfl rfl) ?_
          refine .cons (.gF rfl rfl rfl) ?_
          refine .cons (.gF rfl rfl rfl) ?_
          refine .cons (.pF rfl rfl rfl) ?_
          refine .cons (.asg rfl rfl) ?_
          refine .nil ?_
          refine ks_n ?_
          refine ACode.ret ?_
          refine kf_ret rfl ?_ nobox
          exact leafB (by rw [sameE_eq, ← eqF_sameE]; simp [*])
      · try simp only [List.length_map, decide_eq_true_eq, decide_eq_false_iff_not, Bool.not_eq_true', Bool.not_eq_false', Bool.not_eq_true, Bool.not_eq_false] at g24
        refine .cons (.gF rfl rfl rfl) ?_
        refine .cons (.gF rfl rfl rfl) ?_
        refine .cons (.gF rfl rfl rfl) ?_
        refine .cons (.gF rfl rfl rfl) ?_
        refine .cons (.gF rfl rfl rfl) ?_
        refine .cons (.pF rfl rfl rfl) ?_
        refine .cons (.mv rfl rfl) ?_
        refine .cons (.gF rfl rfl rfl) ?_
        refine .cons (.gF rfl rfl rfl) ?_
        refine .cons (.gF rfl rfl rfl) ?_
        refine .cons (.gF rfl rfl rfl) ?_
        refine .cons (.gF rfl rfl rfl) ?_
        refine .cons (.pF rfl rfl rfl) ?_
        refine .cons (.asg rfl rfl) ?_
        refine .nil ?_
        refine ks_n ?_
        refine ACode.ret ?_
        refine kf_ret rfl ?_ nobox
        exact leafB (by rw [sameE_eq, ← eqF_sameE]; simp [*])
    · try simp only [List.length_map, decide_eq_true_eq, decide_eq_false_iff_not, Bool.not_eq_true', Bool.not_eq_false', Bool.not_eq_true, Bool.not_eq_false] at g17
      refine .cons (.gF rfl rfl rfl) ?_
      refine .cons (.gF rfl rfl rfl) ?_
      refine .cons (.gF rfl rfl rfl) ?_
      refine .cons (.gF rfl rfl rfl) ?_
      refine .cons (.gF rfl rfl rfl) ?_
      refine .cons (.pF rfl rfl rfl) ?_
      refine .cons (.mv rfl rfl) ?_
      refine .cons (.gF rfl rfl rfl) ?_
      refine .cons (.gF rfl rfl rfl) ?_
      refine .cons (.gF rfl rfl rfl) ?_
      refine .cons (.gF rfl rfl rfl) ?_
      refine .cons (.gF rfl rfl rfl) ?_
      refine .cons (.pF rfl rfl rfl) ?_
      refine .cons (.mv rfl rfl) ?_
      refine .cons (.gF rfl rfl rfl) ?_
      refine .cons (.gF rfl rfl rfl) ?_
      refine .cons (.gF rfl rfl rfl) ?_
      refine .cons (.gF rfl rfl rfl) ?_
      refine .cons (.gF rfl rfl rfl) ?_
      refine .cons (.pF rfl rfl rfl) ?_
      refine .cons (.asg rfl rfl) ?_
      refine .nil ?_
      refine ks_n ?_
      refine ACode.ret ?_
      refine kf_ret rfl ?_ nobox
      exact leafB (by rw [sameE_eq, ← eqF_sameE]; simp [*])
  · skip
    refine .cons (.gF rfl rfl rfl) ?_
    refine .cons (.gF rfl rfl rfl) ?_
    refine .cons (.gF rfl rfl rfl) ?_
    refine .cons (.gF rfl rfl rfl) ?_
    refine .cons (.gF rfl rfl rfl) ?_
    refine .cons (.pF rfl rfl rfl) ?_
    refine .cons (.mv rfl rfl) ?_
    refine .cons (.gF rfl rfl rfl) ?_
    refine .cons (.gF rfl rfl rfl) ?_
    refine .cons (.gF rfl rfl rfl) ?_
    refine .cons (.gF rfl rfl rfl) ?_
    refine .cons (.gF rfl rfl rfl) ?_
    refine .cons (.pF rfl rfl rfl) ?_
    refine .cons (.mv rfl rfl) ?_
    refine .cons (.gF rfl rfl rfl) ?_
    refine .cons (.gF rfl rfl rfl) ?_
    refine .cons (.gF rfl rfl rfl) ?_
    refine .cons (.gF rfl rfl rfl) ?_
    refine .cons (.gF rfl rfl rfl) ?_
    refine .cons (.pF rfl rfl rfl) ?_
    refine .cons (.mv rfl rfl) ?_
    refine .cons (.gF rfl rfl rfl) ?_
    refine .cons (.gF rfl rfl rfl) ?_
    refine .cons (.gF rfl rfl rfl) ?_
    refine .cons (.gF rfl rfl rfl) ?_
    refine .cons (.gF rfl rfl rfl) ?_
    refine .cons (.pF rfl rfl rfl) ?_
    refine .cons (.asg rfl rfl) ?_
    refine .nil ?_
    refine ks_n ?_
    refine ACode.ret ?_
    refine kf_ret rfl ?_ nobox
    exact leafB (by rw [sameE_eq, ← eqF_sameE]; simp [*])

theorem exprSame_fn : ∀ x y : Ex, szE x ≤ 1099511627776 → Fn Try.prog 70 [] [ad (rX x), ad (rX y)] (.o (bo1 (sameE x y))) [] := by
  intro x
  induction x using Ex.rec' with
  | h x ih => exact fun y hs => exprSame_one x y (szE_parts hs).2.1 (szE_parts hs).2.2.1 fun a ha b => ih a ha b ((szE_parts hs).2.2.2 a ha)

set_option maxRecDepth 100000 in
set_option maxHeartbeats 1600000 in
theorem implStmtSame_fn (s t : Stm) (hs : szS s ≤ 1099511627776) : Fn Try.prog 26 [] [ad (rS s), ad (rS t)] (.o (bo1 (sameS s t))) [] := by
  refine Fn.code0 Try.func26 rfl rfl rfl rfl ?_
  refine ACode.seq ?_
  refine ACode.region ?_
  refine .cons (St1.boxP rfl rfl rfl rfl rfl rfl) ?_
  refine .cons (St1.boxP rfl rfl rfl rfl rfl rfl) ?_
  refine .cons (.asg rfl rfl) ?_
  refine .nil ?_
  refine ks_n ?_
  refine ACode.seq ?_
  refine ACode.region ?_
  refine .cons (.fP 0 1 true rfl rfl) ?_
  refine .cons (.lN 2 rfl rfl rfl) ?_
  refine .cons (.fP 0 1 true rfl rfl) ?_
  refine .cons (.lN 2 rfl rfl rfl) ?_
  refine .cons (.cP [.tmp 6, .tmp 8] rfl rfl rfl rfl (accSame_fn _ _ (szS_parts hs).1) rfl) ?_
  refine .cons (.mv rfl rfl) ?_
  refine AOps.cases 10 _ rfl (fun g10 => ?_) (fun g10 => ?_)
  · try simp only [List.length_map, decide_eq_true_eq, decide_eq_false_iff_not, Bool.not_eq_true', Bool.not_eq_false', Bool.not_eq_true, Bool.not_eq_false] at g10
    refine .cons (.gT rfl rfl rfl (.fP 2 6 true rfl rfl)) ?_
    refine .cons (.gT rfl rfl rfl (.lN 7 rfl rfl rfl)) ?_
    refine .cons (.gT rfl rfl rfl (.fP 2 6 true rfl rfl)) ?_
    refine .cons (.gT rfl rfl rfl (.lN 7 rfl rfl rfl)) ?_
    refine .cons (.gT rfl rfl rfl (.cP [.tmp 12, .tmp 14] rfl rfl rfl rfl (exprSame_fn _ _ (szS_parts hs).2) rfl)) ?_
    refine .cons (.pT rfl rfl rfl) ?_
    refine .cons (.asg rfl rfl) ?_
    refine .nil ?_
    refine ks_n ?_
    refine ACode.ret ?_
    refine kf_ret rfl ?_ nobox
    exact leafB (by rw [sameS, g10]; rfl)
  · try simp only [List.length_map, decide_eq_true_eq, decide_eq_false_iff_not, Bool.not_eq_true', Bool.not_eq_false', Bool.not_eq_true, Bool.not_eq_false] at g10
    refine .cons (.gF rfl rfl rfl) ?_
    refine .cons (.gF rfl rfl rfl) ?_
    refine .cons (.gF rfl rfl rfl) ?_
    refine .cons (.gF rfl rfl rfl) ?_
    refine .cons (.gF rfl rfl rfl) ?_
    refine .cons (.pF rfl rfl rfl) ?_
    refine .cons (.asg rfl rfl) ?_
    refine .nil ?_
    refine ks_n ?_
    refine ACode.ret ?_
    refine kf_ret rfl ?_ nobox
    exact leafB (by rw [sameS, g10]; rfl)

theorem rdEs_drop {l : List Ex} {i : Nat} {x : Ex} (h : l[i]? = some x) : rdEs (l.drop i) = rdE x ++ rdEs (l.drop (i + 1)) := by rw [drop_at h, rdEs]
/-- Whether a valid statement is a reduction. -/
def redV (s : Stm) : Bool := (decide (s.2.k = 4) || decide (s.2.k = 5)) && match s.2.ks with
  | [x, y] => decide (x.k = 3) && sameC x.r s.1 && !(rdE y).any (fun a => sEq a.1 s.1.1)
  | _ => false
theorem redV_two {s : Stm} {x y : Ex} (h : s.2.ks = [x, y]) : redV s = ((decide (s.2.k = 4) || decide (s.2.k = 5)) && (decide (x.k = 3) && sameC x.r s.1 && !(rdE y).any (fun a => sEq a.1 s.1.1))) := by rw [redV, h]
theorem redV_no {s : Stm} (h : ¬ s.2.k = 4) (h2 : ¬ s.2.k = 5) : redV s = false := by rw [redV, decide_eq_false h, decide_eq_false h2]; rfl
theorem op_two {d L : Nat} {e : Ex} (h : exV d L e = true) (hk : 4 ≤ e.k ∧ e.k ≤ 6) : ∃ x y, e.ks = [x, y] := by
  cases L with
  | zero => cases h
  | succ L =>
    rw [exV, Bool.and_eq_true, Bool.and_eq_true] at h
    have h1 := h.1.1
    rw [kidV, if_neg (by omega), if_pos hk] at h1
    exact two_of (of_decide_eq_true h1)

set_option maxRecDepth 100000 in
set_option maxHeartbeats 1600000 in
theorem idx_acc {f : FuncId} {cap : List (List D)} (hc : callable Try.prog f = true) (p : Acc → Bool) (xs : List Acc) (hx : xs.length ≤ 1099511627776) (hf : ∀ x ∈ xs, Fn Try.prog f [] (ad (rC x) :: cap.map fun c => .c (.ptr c)) (.o (bo1 (p x))) []) : Fn Try.prog 160 [] [vD (dCs xs), .c (.fn f cap)] (.o (nat1 (idxF p xs))) [] := by
  refine Fn.code0 Try.func160 rfl rfl rfl rfl ?_
  refine ACode.seq ?_
  refine ACode.region ?_
  refine .cons (.asg rfl rfl) ?_
  refine .nil ?_
  refine ks_n ?_
  refine ACode.seq ?_
  refine ACode.seq ?_
  refine ACode.region ?_
  refine .cons (.mv rfl rfl) ?_
  refine .cons (.ln 25 2 40 rfl rfl rfl) ?_
  refine .cons (.mv rfl rfl) ?_
  refine .nil ?_
  refine ks_n ?_
  refine ACode.block ?_
  refine .loopK (fun m σ => (∃ i : Nat, m = xs.length - i ∧ (i ≤ xs.length) ∧ (idxF p xs = idxG p i (xs.drop i)) ∧ σ = [(.t 0, .v (.o (vD (dCs xs)))), (.t 1, .v (.o (.c (.fn f cap)))), (.t 7, .v (.o (nat1 (xs.length : Nat)))), (.t 8, .v (.o (nat1 (i : Nat))))])) [] ⟨0, rfl, by omega, rfl, rfl⟩ ⟨ks rfl .dt, ks rfl .dt, ks rfl .dt, ks rfl .dt, trivial⟩ ?_
  rintro m σ ⟨i, hm0, hi, hF, rfl⟩
  refine ACode.seq ?_
  refine ACode.region ?_
  refine .cons (.ls rfl rfl rfl) ?_
  refine .nil ?_
  refine ks_n ?_
  refine ACode.seq ?_
  refine .cD rfl (fun h9 => ?_) (fun h9 => ?_)
  · skip
    obtain ⟨x, hx1⟩ : ∃ x, xs[i]? = some x := ⟨_, List.getElem?_eq_getElem (by omega)⟩
    refine ACode.skip ?_
    refine ks_n ?_
    refine ACode.seq ?_
    refine ACode.block ?_
    refine ACode.seq ?_
    refine ACode.region ?_
    refine .cons (.mv rfl rfl) ?_
    refine .cons (.asg rfl rfl) ?_
    refine .nil ?_
    refine ks_n ?_
    refine ACode.seq ?_
    refine ACode.region ?_
    refine .cons (.mv rfl rfl) ?_
    refine .cons (.mv rfl rfl) ?_
    refine .cons (.mv rfl rfl) ?_
    refine .cons (.xL 25 2 40 rfl rfl rfl rfl rfl) ?_
    refine .cons (.lN 2 rfl rfl rfl) ?_
    refine .cons (.cP [.tmp 15] rfl rfl rfl rfl (hf x (List.mem_of_getElem? hx1)) rfl hc) ?_
    refine .nil ?_
    refine ks_n ?_
    refine ACode.condT rfl (fun h16 => ?_) (fun h16 => ?_)
    · try simp only [List.length_map, decide_eq_true_eq, decide_eq_false_iff_not, Bool.not_eq_true', Bool.not_eq_false', Bool.not_eq_true, Bool.not_eq_false] at h16
      refine ACode.seq ?_
      refine ACode.region ?_
      refine .cons (.mv rfl rfl) ?_
      refine .cons (.asg rfl rfl) ?_
      refine .nil ?_
      refine ks_n ?_
      refine ACode.ret ?_
      refine kb_r ?_
      refine ks_r ?_
      refine kl_r ?_
      refine kb_r ?_
      refine ks_r ?_
      refine kf_ret rfl ?_ nobox
      exact leafI (by rw [hF, idxG_drop hx1, h16]; rfl)
    · try simp only [List.length_map, decide_eq_true_eq, decide_eq_false_iff_not, Bool.not_eq_true', Bool.not_eq_false', Bool.not_eq_true, Bool.not_eq_false] at h16
      refine ACode.skip ?_
      refine kb_n ?_
      refine ks_n ?_
      refine ACode.region ?_
      refine .cons (.pl rfl rfl rfl) ?_
      refine .cons (.mv rfl rfl) ?_
      refine .nil ?_
      refine kl_k [] ⟨i + 1, rfl, by omega, by rw [hF, idxG_drop hx1, h16]; rfl, rfl⟩ ⟨ks rfl .dt, ks rfl .dt, ks rfl .dt, ks rfl .dt, trivial⟩
  · skip
    refine ACode.exit ?_
    refine ks_e ?_
    refine kl_e ?_
    refine kb_hit ?_
    refine ks_n ?_
    refine ACode.seq ?_
    refine ACode.region ?_
    refine .cons (.asg rfl rfl) ?_
    refine .nil ?_
    refine ks_n ?_
    refine ACode.ret ?_
    refine kf_ret rfl ?_ nobox
    exact leafI (by rw [hF, List.drop_of_length_le (by omega)]; rfl)

set_option maxRecDepth 100000 in
set_option maxHeartbeats 1600000 in
theorem cnt_acc {f : FuncId} {cap : List (List D)} (hc : callable Try.prog f = true) (p : Acc → Bool) (xs : List Acc) (hx : xs.length ≤ 1099511627776) (hf : ∀ x ∈ xs, Fn Try.prog f [] (ad (rC x) :: cap.map fun c => .c (.ptr c)) (.o (bo1 (p x))) []) : Fn Try.prog 140 [] [vD (dCs xs), .c (.fn f cap)] (.o (bo1 (xs.any p))) [] := by
  refine Fn.code0 Try.func140 rfl rfl rfl rfl ?_
  refine ACode.seq ?_
  refine ACode.region ?_
  refine .cons (.asg rfl rfl) ?_
  refine .nil ?_
  refine ks_n ?_
  refine ACode.seq ?_
  refine ACode.region ?_
  refine .cons (.mv rfl rfl) ?_
  refine .cons (.mv rfl rfl) ?_
  refine .cons (.cP [.tmp 5, .tmp 6] rfl rfl rfl rfl (idx_acc hc p xs hx hf) rfl) ?_
  refine .cons (.ge rfl rfl rfl) ?_
  refine .cons (.asg rfl rfl) ?_
  refine .nil ?_
  refine ks_n ?_
  refine ACode.ret ?_
  refine kf_ret rfl ?_ nobox
  exact leafB idxG_any

set_option maxRecDepth 100000 in
set_option maxHeartbeats 1600000 in
theorem red1_fn (s : Stm) (a : Acc) : Fn Try.prog 141 [] [ad (rC a), .c (.ptr (rS s))] (.o (bo1 (sEq a.1 s.1.1))) [] := by
  refine Fn.code0 Try.func141 rfl rfl rfl rfl ?_
  refine ACode.seq ?_
  refine ACode.region ?_
  refine .cons (St1.boxP rfl rfl rfl rfl rfl rfl) ?_
  refine .cons (.asg rfl rfl) ?_
  refine .nil ?_
  refine ks_n ?_
  refine ACode.seq ?_
  refine ACode.region ?_
  refine .cons (.fP 0 0 false rfl rfl) ?_
  refine .cons (.l1 1 rfl rfl) ?_
  refine .cons (.fP 0 1 true rfl rfl) ?_
  refine .cons (.fP 0 0 false rfl rfl) ?_
  refine .cons (.l1 1 rfl rfl) ?_
  refine .cons (St1.eqS rfl rfl rfl) ?_
  refine .cons (.asg rfl rfl) ?_
  refine .nil ?_
  refine ks_n ?_
  refine ACode.ret ?_
  refine kf_ret rfl ?_ nobox
  rfl

set_option maxRecDepth 100000 in
set_option maxHeartbeats 1600000 in
theorem implRed_fn (s : Stm) (hs : szS s ≤ 1099511627776) (hv : stmtV 4 s = true) : Fn Try.prog 88 [] [ad (rS s)] (.o (bo1 (redV s))) [] := by
  have hxv := (stmtV_ex hv).1
  have hsz := (szS_parts hs).2
  refine Fn.code0 Try.func88 rfl rfl rfl rfl ?_
  refine ACode.seq ?_
  refine ACode.region ?_
  refine .cons (St1.boxP rfl rfl rfl rfl rfl rfl) ?_
  refine .cons (.asg rfl rfl) ?_
  refine .nil ?_
  refine ks_n ?_
  refine ACode.seq ?_
  refine ACode.region ?_
  refine .cons (.fP 2 6 true rfl rfl) ?_
  refine .cons (.lN 7 rfl rfl rfl) ?_
  refine .cons (.al 103 [.int .i64 0, .int .i64 0, .slice none 0 0, .int .i64 0, .string ByteArray.empty, .slice none 0 0, .slice none 0 0] rfl rfl rfl) ?_
  refine .cons (.sT 7 true rfl rfl rfl rfl rfl rfl rfl) ?_
  refine .nil ?_
  refine ks_n ?_
  refine ACode.seq ?_
  refine ACode.seq ?_
  refine ACode.drawK (by kernel_rfl) (by kernel_rfl) ?_
  refine .cons (.fB 0 0 false rfl rfl rfl) ?_
  refine .cons (.b1 1 rfl rfl rfl rfl rfl rfl) ?_
  refine .cons (.ne rfl rfl rfl) ?_
  refine .cons (.mv rfl rfl) ?_
  refine .cND 9 rfl (fun g9 => ?_) (fun g9 => ?_)
  · skip
    refine .cons (.gT rfl rfl rfl (.fB 0 0 false rfl rfl rfl)) ?_
    refine .cons (.gT rfl rfl rfl (.b1 1 rfl rfl rfl rfl rfl rfl)) ?_
    refine .cons (.gT rfl rfl rfl (.ne rfl rfl rfl)) ?_
    refine .cons (.pT rfl rfl rfl) ?_
    refine .cons (.mv rfl rfl) ?_
    refine RunK.cases 14 _ rfl (fun g14 => ?_) (fun g14 => ?_)
    · try simp only [List.length_map, decide_eq_true_eq, decide_eq_false_iff_not, Bool.not_eq_true', Bool.not_eq_false', Bool.not_eq_true, Bool.not_eq_false] at g14
      refine .cons (.gF rfl rfl rfl) ?_
      refine .cons (.gF rfl rfl rfl) ?_
      refine .cons (.gF rfl rfl rfl) ?_
      refine .cons (.gF rfl rfl rfl) ?_
      refine .cons (.gF rfl rfl rfl) ?_
      refine .cons (.gF rfl rfl rfl) ?_
      refine .cons (.pT rfl rfl rfl) ?_
      refine .cons (.mv rfl rfl) ?_
      refine .cons (.gF rfl rfl rfl) ?_
      refine .cons (.gF rfl rfl rfl) ?_
      refine .cons (.gF rfl rfl rfl) ?_
      refine .cons (.gF rfl rfl rfl) ?_
      refine .cons (.gF rfl rfl rfl) ?_
      refine .cons (.gF rfl rfl rfl) ?_
      refine .cons (.gF rfl rfl rfl) ?_
      refine .cons (.gF rfl rfl rfl) ?_
      refine .cons (.gF rfl rfl rfl) ?_
      refine .cons (.pT rfl rfl rfl) ?_
      refine .nil ⟨by kernel_rfl, ?_⟩
      refine ks_n ?_
      refine ACode.condT rfl (fun _ => ?_) (fun h => by first | (cases h; done) | (simp [*] at h; done) | (exfalso; simp_all; done))
      refine ACode.seq ?_
      refine ACode.region ?_
      refine .cons (.asg rfl rfl) ?_
      refine .nil ?_
      refine ks_n ?_
      refine ACode.ret ?_
      refine ks_r ?_
      refine kf_ret rfl ?_ nobox
      exact leafB (by first | (rw [redV_no (by omega) (by omega)]; done) | (rw [hR]; simp [*]; done) | (rw [hR]; grind))
    · try simp only [List.length_map, decide_eq_true_eq, decide_eq_false_iff_not, Bool.not_eq_true', Bool.not_eq_false', Bool.not_eq_true, Bool.not_eq_false] at g14
      have hop : s.2.k = 4 ∨ s.2.k = 5 := by first | omega | simp_all
      obtain ⟨x, y, hks⟩ := op_two (stmtV_ex hv).1 (by omega)
      have hR := redV_two hks
      have hxk := (szE_parts hsz).2.2.2 x (by rw [hks]; simp)
      refine .cons (.gT rfl rfl rfl (.fB 6 0 false rfl rfl rfl)) ?_
      refine .cons (.gT rfl rfl rfl (.b1 1 rfl rfl rfl rfl rfl rfl)) ?_
      refine .cons (.gT rfl rfl rfl (.xL 31 7 112 (i := 0) rfl rfl rfl rfl rfl (by rw [hks]; exact rE_at rfl))) ?_
      refine .cons (.gT rfl rfl rfl (.fP 0 0 false rfl rfl)) ?_
      refine .cons (.gT rfl rfl rfl (.l1 1 rfl rfl)) ?_
      refine .cons (.gT rfl rfl rfl (.ne rfl rfl rfl)) ?_
      refine .cons (.pF rfl rfl rfl) ?_
      refine .cons (.mv rfl rfl) ?_
      refine RunK.cases 22 _ rfl (fun g22 => ?_) (fun g22 => ?_)
      · try simp only [List.length_map, decide_eq_true_eq, decide_eq_false_iff_not, Bool.not_eq_true', Bool.not_eq_false', Bool.not_eq_true, Bool.not_eq_false] at g22
        refine .cons (.gF rfl rfl rfl) ?_
        refine .cons (.gF rfl rfl rfl) ?_
        refine .cons (.gF rfl rfl rfl) ?_
        refine .cons (.gF rfl rfl rfl) ?_
        refine .cons (.gF rfl rfl rfl) ?_
        refine .cons (.gF rfl rfl rfl) ?_
        refine .cons (.gF rfl rfl rfl) ?_
        refine .cons (.gF rfl rfl rfl) ?_
        refine .cons (.gF rfl rfl rfl) ?_
        refine .cons (.pT rfl rfl rfl) ?_
        refine .nil ⟨by kernel_rfl, ?_⟩
        refine ks_n ?_
        refine ACode.condT rfl (fun _ => ?_) (fun h => by first | (cases h; done) | (simp [*] at h; done) | (exfalso; simp_all; done))
        refine ACode.seq ?_
        refine ACode.region ?_
        refine .cons (.asg rfl rfl) ?_
        refine .nil ?_
        refine ks_n ?_
        refine ACode.ret ?_
        refine ks_r ?_
        refine kf_ret rfl ?_ nobox
        exact leafB (by first | (rw [redV_no (by omega) (by omega)]; done) | (rw [hR]; simp [*]; done) | (rw [hR]; grind))
      · try simp only [List.length_map, decide_eq_true_eq, decide_eq_false_iff_not, Bool.not_eq_true', Bool.not_eq_false', Bool.not_eq_true, Bool.not_eq_false] at g22
        refine .cons (.gT rfl rfl rfl (.fB 6 0 false rfl rfl rfl)) ?_
        refine .cons (.gT rfl rfl rfl (.b1 1 rfl rfl rfl rfl rfl rfl)) ?_
        refine .cons (.gT rfl rfl rfl (.xL 31 7 112 (i := 0) rfl rfl rfl rfl rfl (by rw [hks]; exact rE_at rfl))) ?_
        refine .cons (.gT rfl rfl rfl (.fP 4 1 true rfl rfl)) ?_
        refine .cons (.gT rfl rfl rfl (.lN 2 rfl rfl rfl)) ?_
        refine .cons (.gT rfl rfl rfl (.fP 0 1 true rfl rfl)) ?_
        refine .cons (.gT rfl rfl rfl (.lN 2 rfl rfl rfl)) ?_
        refine .cons (.gT rfl rfl rfl (.cP [.tmp 27, .tmp 29] rfl rfl rfl rfl (accSame_fn _ _ (szE_parts hxk).2.1) rfl)) ?_
        refine .cons (.gT rfl rfl rfl (.nt rfl rfl)) ?_
        refine .cons (.pF rfl rfl rfl) ?_
        refine .nil ⟨by kernel_rfl, ?_⟩
        refine ks_n ?_
        refine ACode.condT rfl (fun h32 => ?_) (fun h32 => ?_)
        · try simp only [List.length_map, decide_eq_true_eq, decide_eq_false_iff_not, Bool.not_eq_true', Bool.not_eq_false', Bool.not_eq_true, Bool.not_eq_false] at h32
          refine ACode.seq ?_
          refine ACode.region ?_
          refine .cons (.asg rfl rfl) ?_
          refine .nil ?_
          refine ks_n ?_
          refine ACode.ret ?_
          refine ks_r ?_
          refine kf_ret rfl ?_ nobox
          exact leafB (by first | (rw [redV_no (by omega) (by omega)]; done) | (rw [hR]; simp [*]; done) | (rw [hR]; grind))
        · try simp only [List.length_map, decide_eq_true_eq, decide_eq_false_iff_not, Bool.not_eq_true', Bool.not_eq_false', Bool.not_eq_true, Bool.not_eq_false] at h32
          refine ACode.skip ?_
          refine ks_n ?_
          refine ACode.seq ?_
          have hyv := (exV_kids hxv).2 y (by rw [hks]; simp)
          refine ACode.region ?_
          refine .cons (.fB 6 0 false rfl rfl rfl) ?_
          refine .cons (.b1 1 rfl rfl rfl rfl rfl rfl) ?_
          refine .cons (.xL 31 7 112 (i := 1) rfl rfl rfl rfl rfl (by rw [hks]; exact rE_at rfl)) ?_
          refine .cons (.lN 7 rfl rfl rfl) ?_
          refine .cons (.cP [.tmp 36] rfl rfl rfl rfl (reads_fn (d := 4) (L := 4) y (by omega) hyv) rfl) ?_
          refine .cons (St1.makeFunc (xs := [.tmp 1]) rfl rfl rfl rfl rfl rfl rfl) ?_
          refine .cons (.cP [.tmp 37, .tmp 38] rfl rfl rfl rfl (cnt_acc (f := 141) (cap := [rS s]) (by kernel_rfl) (fun a => sEq a.1 s.1.1) (rdE y) (by have := rdE_len y; have := cnt64 hyv (by omega); omega) (fun a _ => red1_fn s a)) rfl) ?_
          refine .cons (.nt rfl rfl) ?_
          refine .cons (.asg rfl rfl) ?_
          refine .nil ?_
          refine ks_n ?_
          refine ACode.ret ?_
          refine kf_ret rfl ?_ nobox
          exact leafB (by first | (rw [redV_no (by omega) (by omega)]; done) | (rw [hR]; simp [*]; done) | (rw [hR]; grind))
  · skip
    have hop : s.2.k = 4 ∨ s.2.k = 5 := by first | omega | simp_all
    obtain ⟨x, y, hks⟩ := op_two (stmtV_ex hv).1 (by omega)
    have hR := redV_two hks
    have hxk := (szE_parts hsz).2.2.2 x (by rw [hks]; simp)
    refine .cons (.gF rfl rfl rfl) ?_
    refine .cons (.gF rfl rfl rfl) ?_
    refine .cons (.gF rfl rfl rfl) ?_
    refine .cons (.pF rfl rfl rfl) ?_
    refine .cons (.mv rfl rfl) ?_
    refine .cons (.gT rfl rfl rfl (.fB 6 0 false rfl rfl rfl)) ?_
    refine .cons (.gT rfl rfl rfl (.b1 1 rfl rfl rfl rfl rfl rfl)) ?_
    refine .cons (.gT rfl rfl rfl (.xL 31 7 112 (i := 0) rfl rfl rfl rfl rfl (by rw [hks]; exact rE_at rfl))) ?_
    refine .cons (.gT rfl rfl rfl (.fP 0 0 false rfl rfl)) ?_
    refine .cons (.gT rfl rfl rfl (.l1 1 rfl rfl)) ?_
    refine .cons (.gT rfl rfl rfl (.ne rfl rfl rfl)) ?_
    refine .cons (.pF rfl rfl rfl) ?_
    refine .cons (.mv rfl rfl) ?_
    refine RunK.cases 22 _ rfl (fun g22 => ?_) (fun g22 => ?_)
    · try simp only [List.length_map, decide_eq_true_eq, decide_eq_false_iff_not, Bool.not_eq_true', Bool.not_eq_false', Bool.not_eq_true, Bool.not_eq_false] at g22
      refine .cons (.gF rfl rfl rfl) ?_
      refine .cons (.gF rfl rfl rfl) ?_
      refine .cons (.gF rfl rfl rfl) ?_
      refine .cons (.gF rfl rfl rfl) ?_
      refine .cons (.gF rfl rfl rfl) ?_
      refine .cons (.gF rfl rfl rfl) ?_
      refine .cons (.gF rfl rfl rfl) ?_
      refine .cons (.gF rfl rfl rfl) ?_
      refine .cons (.gF rfl rfl rfl) ?_
      refine .cons (.pT rfl rfl rfl) ?_
      refine .nil ⟨by kernel_rfl, ?_⟩
      refine ks_n ?_
      refine ACode.condT rfl (fun _ => ?_) (fun h => by first | (cases h; done) | (simp [*] at h; done) | (exfalso; simp_all; done))
      refine ACode.seq ?_
      refine ACode.region ?_
      refine .cons (.asg rfl rfl) ?_
      refine .nil ?_
      refine ks_n ?_
      refine ACode.ret ?_
      refine ks_r ?_
      refine kf_ret rfl ?_ nobox
      exact leafB (by first | (rw [redV_no (by omega) (by omega)]; done) | (rw [hR]; simp [*]; done) | (rw [hR]; grind))
    · try simp only [List.length_map, decide_eq_true_eq, decide_eq_false_iff_not, Bool.not_eq_true', Bool.not_eq_false', Bool.not_eq_true, Bool.not_eq_false] at g22
      refine .cons (.gT rfl rfl rfl (.fB 6 0 false rfl rfl rfl)) ?_
      refine .cons (.gT rfl rfl rfl (.b1 1 rfl rfl rfl rfl rfl rfl)) ?_
      refine .cons (.gT rfl rfl rfl (.xL 31 7 112 (i := 0) rfl rfl rfl rfl rfl (by rw [hks]; exact rE_at rfl))) ?_
      refine .cons (.gT rfl rfl rfl (.fP 4 1 true rfl rfl)) ?_
      refine .cons (.gT rfl rfl rfl (.lN 2 rfl rfl rfl)) ?_
      refine .cons (.gT rfl rfl rfl (.fP 0 1 true rfl rfl)) ?_
      refine .cons (.gT rfl rfl rfl (.lN 2 rfl rfl rfl)) ?_
      refine .cons (.gT rfl rfl rfl (.cP [.tmp 27, .tmp 29] rfl rfl rfl rfl (accSame_fn _ _ (szE_parts hxk).2.1) rfl)) ?_
      refine .cons (.gT rfl rfl rfl (.nt rfl rfl)) ?_
      refine .cons (.pF rfl rfl rfl) ?_
      refine .nil ⟨by kernel_rfl, ?_⟩
      refine ks_n ?_
      refine ACode.condT rfl (fun h32 => ?_) (fun h32 => ?_)
      · try simp only [List.length_map, decide_eq_true_eq, decide_eq_false_iff_not, Bool.not_eq_true', Bool.not_eq_false', Bool.not_eq_true, Bool.not_eq_false] at h32
        refine ACode.seq ?_
        refine ACode.region ?_
        refine .cons (.asg rfl rfl) ?_
        refine .nil ?_
        refine ks_n ?_
        refine ACode.ret ?_
        refine ks_r ?_
        refine kf_ret rfl ?_ nobox
        exact leafB (by first | (rw [redV_no (by omega) (by omega)]; done) | (rw [hR]; simp [*]; done) | (rw [hR]; grind))
      · try simp only [List.length_map, decide_eq_true_eq, decide_eq_false_iff_not, Bool.not_eq_true', Bool.not_eq_false', Bool.not_eq_true, Bool.not_eq_false] at h32
        refine ACode.skip ?_
        refine ks_n ?_
        refine ACode.seq ?_
        have hyv := (exV_kids hxv).2 y (by rw [hks]; simp)
        refine ACode.region ?_
        refine .cons (.fB 6 0 false rfl rfl rfl) ?_
        refine .cons (.b1 1 rfl rfl rfl rfl rfl rfl) ?_
        refine .cons (.xL 31 7 112 (i := 1) rfl rfl rfl rfl rfl (by rw [hks]; exact rE_at rfl)) ?_
        refine .cons (.lN 7 rfl rfl rfl) ?_
        refine .cons (.cP [.tmp 36] rfl rfl rfl rfl (reads_fn (d := 4) (L := 4) y (by omega) hyv) rfl) ?_
        refine .cons (St1.makeFunc (xs := [.tmp 1]) rfl rfl rfl rfl rfl rfl rfl) ?_
        refine .cons (.cP [.tmp 37, .tmp 38] rfl rfl rfl rfl (cnt_acc (f := 141) (cap := [rS s]) (by kernel_rfl) (fun a => sEq a.1 s.1.1) (rdE y) (by have := rdE_len y; have := cnt64 hyv (by omega); omega) (fun a _ => red1_fn s a)) rfl) ?_
        refine .cons (.nt rfl rfl) ?_
        refine .cons (.asg rfl rfl) ?_
        refine .nil ?_
        refine ks_n ?_
        refine ACode.ret ?_
        refine kf_ret rfl ?_ nobox
        exact leafB (by first | (rw [redV_no (by omega) (by omega)]; done) | (rw [hR]; simp [*]; done) | (rw [hR]; grind))

set_option maxRecDepth 100000 in
set_option maxHeartbeats 1600000 in
theorem implRedOf_fn (s : Stm) (hs : szS s ≤ 1099511627776) : Fn Try.prog 35 [] [ad (rS s)] (.o (bo1 (stmtV 4 s && redV s))) [] := by
  refine Fn.code0 Try.func35 rfl rfl rfl rfl ?_
  refine ACode.seq ?_
  refine ACode.region ?_
  refine .cons (St1.boxP rfl rfl rfl rfl rfl rfl) ?_
  refine .cons (.asg rfl rfl) ?_
  refine .nil ?_
  refine ks_n ?_
  refine ACode.seq ?_
  refine ACode.region ?_
  refine .cons (.lN 9 rfl rfl rfl) ?_
  refine .cons (.cP [.tmp 3] rfl rfl rfl rfl (isStmt_fn s hs) rfl) ?_
  refine .cons (.mv rfl rfl) ?_
  refine AOps.cases 5 _ rfl (fun g5 => ?_) (fun g5 => ?_)
  · try simp only [List.length_map, decide_eq_true_eq, decide_eq_false_iff_not, Bool.not_eq_true', Bool.not_eq_false', Bool.not_eq_true, Bool.not_eq_false] at g5
    refine .cons (.gT rfl rfl rfl (.lN 9 rfl rfl rfl)) ?_
    refine .cons (.gT rfl rfl rfl (.cP [.tmp 6] rfl rfl rfl rfl (implRed_fn s hs g5) rfl)) ?_
    refine .cons (.pT rfl rfl rfl) ?_
    refine .cons (.asg rfl rfl) ?_
    refine .nil ?_
    refine ks_n ?_
    refine ACode.ret ?_
    refine kf_ret rfl ?_ nobox
    exact leafB (by rw [g5]; rfl)
  · try simp only [List.length_map, decide_eq_true_eq, decide_eq_false_iff_not, Bool.not_eq_true', Bool.not_eq_false', Bool.not_eq_true, Bool.not_eq_false] at g5
    refine .cons (.gF rfl rfl rfl) ?_
    refine .cons (.gF rfl rfl rfl) ?_
    refine .cons (.pF rfl rfl rfl) ?_
    refine .cons (.asg rfl rfl) ?_
    refine .nil ?_
    refine ks_n ?_
    refine ACode.ret ?_
    refine kf_ret rfl ?_ nobox
    exact leafB (by rw [g5]; rfl)

set_option maxRecDepth 100000 in
set_option maxHeartbeats 1600000 in
theorem l12Uses_one (e : Ex) (nm : ByteArray) (hk : e.ks.length ≤ 1099511627776) (ih : ∀ x ∈ e.ks, Fn Try.prog 139 [] [ad (rX x), st1 nm] (.o (bo1 ((rdE x).any fun a => sEq a.1 nm))) []) : Fn Try.prog 139 [] [ad (rX e), st1 nm] (.o (bo1 ((rdE e).any fun a => sEq a.1 nm))) [] := by
  refine Fn.code0 Try.func139 rfl rfl rfl rfl ?_
  refine ACode.seq ?_
  refine ACode.region ?_
  refine .cons (St1.boxP rfl rfl rfl rfl rfl rfl) ?_
  refine .cons (.asg rfl rfl) ?_
  refine .nil ?_
  refine ks_n ?_
  refine ACode.seq ?_
  refine ACode.seq ?_
  refine ACode.cut [(.t 1, .v (.o (st1 nm))), (.t 2, .v (.o (.c (.ptr (rX e))))), (.t 4, .v (.o (bo1 false))), (.t 15, .v (.o (bo1 (decide (e.k = 3) && sEq e.r.1 nm))))] ?_ ?_
  · skip
    refine ACode.region ?_
    refine .cons (.fP 0 0 false rfl rfl) ?_
    refine .cons (.l1 1 rfl rfl) ?_
    refine .cons (.eq rfl rfl rfl) ?_
    refine .cons (.mv rfl rfl) ?_
    refine .cD 9 rfl (fun g9 => ?_) (fun g9 => ?_)
    · skip
      refine .cons (.gT rfl rfl rfl (.fP 4 1 true rfl rfl)) ?_
      refine .cons (.gT rfl rfl rfl (.fP 0 0 false rfl rfl)) ?_
      refine .cons (.gT rfl rfl rfl (.l1 1 rfl rfl)) ?_
      refine .cons (.gT rfl rfl rfl (.mv rfl rfl)) ?_
      refine .cons (.gT rfl rfl rfl (St1.eqS rfl rfl rfl)) ?_
      refine .cons (.pT rfl rfl rfl) ?_
      refine .nil ?_
      exact kc_n (Wk.keep [] rfl rfl ⟨ks rfl .dt, ks rfl .dt, ks rfl .dt, ks rfl (.dt (vB (by first | rfl | (simp [*]; done) | grind))), trivial⟩)
    · skip
      refine .cons (.gF rfl rfl rfl) ?_
      refine .cons (.gF rfl rfl rfl) ?_
      refine .cons (.gF rfl rfl rfl) ?_
      refine .cons (.gF rfl rfl rfl) ?_
      refine .cons (.gF rfl rfl rfl) ?_
      refine .cons (.pF rfl rfl rfl) ?_
      refine .nil ?_
      exact kc_n (Wk.keep [] rfl rfl ⟨ks rfl .dt, ks rfl .dt, ks rfl .dt, ks rfl (.dt (vB (by first | rfl | (simp [*]; done) | grind))), trivial⟩)
  refine ks_n ?_
  refine ACode.condT rfl (fun h15 => ?_) (fun h15 => ?_)
  · try simp only [List.length_map, decide_eq_true_eq, decide_eq_false_iff_not, Bool.not_eq_true', Bool.not_eq_false', Bool.not_eq_true, Bool.not_eq_false] at h15
    refine ACode.seq ?_
    refine ACode.region ?_
    refine .cons (.asg rfl rfl) ?_
    refine .nil ?_
    refine ks_n ?_
    refine ACode.ret ?_
    refine ks_r ?_
    refine kf_ret rfl ?_ nobox
    exact leafB (by rw [rdE_eq, List.any_append]; simp at h15; simp [h15])
  · try simp only [List.length_map, decide_eq_true_eq, decide_eq_false_iff_not, Bool.not_eq_true', Bool.not_eq_false', Bool.not_eq_true, Bool.not_eq_false] at h15
    refine ACode.skip ?_
    refine ks_n ?_
    refine ACode.seq ?_
    refine ACode.seq ?_
    have hR : (rdE e).any (fun a => sEq a.1 nm) = (rdEs e.ks).any fun a => sEq a.1 nm := by rw [rdE_eq, List.any_append]; split <;> simp_all
    refine ACode.region ?_
    refine .cons (.asg rfl rfl) ?_
    refine .nil ?_
    refine ks_n ?_
    refine ACode.block ?_
    refine .loopK (fun m σ => (∃ i : Nat, m = e.ks.length - i ∧ (i ≤ e.ks.length) ∧ ((rdEs e.ks).any (fun a => sEq a.1 nm) = (rdEs (e.ks.drop i)).any (fun a => sEq a.1 nm)) ∧ σ = [(.t 1, .v (.o (st1 nm))), (.t 2, .v (.o (.c (.ptr (rX e))))), (.t 4, .v (.o (bo1 false))), (.t 5, .v (.o (nat1 (i : Nat))))])) [] ⟨0, rfl, by omega, by simp, rfl⟩ ⟨ks rfl .dt, ks rfl .dt, ks rfl .dt, ks rfl .dt, trivial⟩ ?_
    rintro m σ ⟨i, hm0, hi, hF, rfl⟩
    refine ACode.seq ?_
    refine ACode.seq ?_
    refine ACode.region ?_
    refine .cons (.mv rfl rfl) ?_
    refine .cons (.fP 6 0 false rfl rfl) ?_
    refine .cons (.l1 1 rfl rfl) ?_
    refine .cons (.ln 31 7 112 rfl rfl rfl) ?_
    refine .cons (.ls rfl rfl rfl) ?_
    refine .nil ?_
    refine ks_n ?_
    refine .cD rfl (fun h20 => ?_) (fun h20 => ?_)
    · skip
      obtain ⟨x, hx1⟩ : ∃ x, e.ks[i]? = some x := ⟨_, List.getElem?_eq_getElem (by omega)⟩
      refine ACode.skip ?_
      refine ks_n ?_
      refine ACode.seq ?_
      refine ACode.block ?_
      refine ACode.seq ?_
      refine ACode.region ?_
      refine .cons (.fP 6 0 false rfl rfl) ?_
      refine .cons (.l1 1 rfl rfl) ?_
      refine .cons (.mv rfl rfl) ?_
      refine .cons (.xL 31 7 112 rfl rfl rfl rfl rfl (rE_at hx1)) ?_
      refine .cons (.lN 7 rfl rfl rfl) ?_
      refine .cons (.mv rfl rfl) ?_
      refine .cons (.cP [.tmp 27, .tmp 28] rfl rfl rfl rfl (ih x (List.mem_of_getElem? hx1)) rfl) ?_
      refine .nil ?_
      refine ks_n ?_
      refine ACode.condT rfl (fun h29 => ?_) (fun h29 => ?_)
      · try simp only [List.length_map, decide_eq_true_eq, decide_eq_false_iff_not, Bool.not_eq_true', Bool.not_eq_false', Bool.not_eq_true, Bool.not_eq_false] at h29
        refine ACode.seq ?_
        refine ACode.region ?_
        refine .cons (.asg rfl rfl) ?_
        refine .nil ?_
        refine ks_n ?_
        refine ACode.ret ?_
        refine kb_r ?_
        refine ks_r ?_
        refine kl_r ?_
        refine kb_r ?_
        refine ks_r ?_
        refine kf_ret rfl ?_ nobox
        exact leafB (by rw [hR, hF, rdEs_drop hx1, List.any_append, h29]; rfl)
      · try simp only [List.length_map, decide_eq_true_eq, decide_eq_false_iff_not, Bool.not_eq_true', Bool.not_eq_false', Bool.not_eq_true, Bool.not_eq_false] at h29
        refine ACode.skip ?_
        refine kb_n ?_
        refine ks_n ?_
        refine ACode.region ?_
        refine .cons (.mv rfl rfl) ?_
        refine .cons (.pl rfl rfl rfl) ?_
        refine .cons (.asg rfl rfl) ?_
        refine .nil ?_
        refine kl_k [] ⟨i + 1, rfl, by omega, by rw [hF, rdEs_drop hx1, List.any_append, h29, Bool.false_or], rfl⟩ ⟨ks rfl .dt, ks rfl .dt, ks rfl .dt, ks rfl .dt, trivial⟩
    · skip
      refine ACode.exit ?_
      refine ks_e ?_
      refine kl_e ?_
      refine kb_hit ?_
      refine ks_n ?_
      refine ACode.seq ?_
      refine ACode.region ?_
      refine .cons (.asg rfl rfl) ?_
      refine .nil ?_
      refine ks_n ?_
      refine ACode.ret ?_
      refine kf_ret rfl ?_ nobox
      exact leafB (by rw [hR, hF, List.drop_of_length_le (by omega)]; rfl)

theorem l12Uses_fn (nm : ByteArray) : ∀ e : Ex, szE e ≤ 1099511627776 → Fn Try.prog 139 [] [ad (rX e), st1 nm] (.o (bo1 ((rdE e).any fun a => sEq a.1 nm))) [] := by
  intro e
  induction e using Ex.rec' with
  | h e ih => exact fun hs => l12Uses_one e nm (szE_parts hs).2.2.1 fun x hx => ih x hx ((szE_parts hs).2.2.2 x hx)

set_option maxRecDepth 100000 in
set_option maxHeartbeats 1600000 in
theorem l12Is_fn (s : Stm) (hs : szS s ≤ 1099511627776) (hv : stmtV 4 s = true) : Fn Try.prog 87 [] [ad (rS s)] (.o (bo1 (redV s))) [] := by
  have hxv := (stmtV_ex hv).1
  have hsz := (szS_parts hs).2
  refine Fn.code0 Try.func87 rfl rfl rfl rfl ?_
  refine ACode.seq ?_
  refine ACode.region ?_
  refine .cons (St1.boxP rfl rfl rfl rfl rfl rfl) ?_
  refine .cons (.asg rfl rfl) ?_
  refine .nil ?_
  refine ks_n ?_
  refine ACode.seq ?_
  refine ACode.region ?_
  refine .cons (.fP 2 6 true rfl rfl) ?_
  refine .cons (.lN 7 rfl rfl rfl) ?_
  refine .cons (.al 103 [.int .i64 0, .int .i64 0, .slice none 0 0, .int .i64 0, .string ByteArray.empty, .slice none 0 0, .slice none 0 0] rfl rfl rfl) ?_
  refine .cons (.sT 7 true rfl rfl rfl rfl rfl rfl rfl) ?_
  refine .nil ?_
  refine ks_n ?_
  refine ACode.seq ?_
  refine ACode.seq ?_
  refine ACode.cut [(.t 1, .v (.o (.c (.ptr (rS s))))), (.t 2, .v (.o (bo1 false))), (.t 3, .v (.o (.c (.box 820 7 0 0)))), (.t 14, .v (.o (bo1 (!decide (s.2.k = 4 ∨ s.2.k = 5))))), (.b 820, .b 31 7 (dR ([rX s.2]))), (.u 820, .u)] ?_ ?_
  · skip
    refine ACode.region ?_
    refine .cons (.fB 0 0 false rfl rfl rfl) ?_
    refine .cons (.b1 1 rfl rfl rfl rfl rfl rfl) ?_
    refine .cons (.ne rfl rfl rfl) ?_
    refine .cons (.mv rfl rfl) ?_
    refine .cND 10 rfl (fun g10 => ?_) (fun g10 => ?_)
    · skip
      refine .cons (.gT rfl rfl rfl (.fB 0 0 false rfl rfl rfl)) ?_
      refine .cons (.gT rfl rfl rfl (.b1 1 rfl rfl rfl rfl rfl rfl)) ?_
      refine .cons (.gT rfl rfl rfl (.ne rfl rfl rfl)) ?_
      refine .cons (.pT rfl rfl rfl) ?_
      refine .nil ?_
      exact kc_n (Wk.keep [(820, 103)] rfl rfl ⟨ks rfl .dt, ks rfl .dt, ks rfl (.c .bx), ks rfl (.dt (vB (by first | rfl | grind))), kb 103 rfl (.dt rfl), trivial⟩)
    · skip
      refine .cons (.gF rfl rfl rfl) ?_
      refine .cons (.gF rfl rfl rfl) ?_
      refine .cons (.gF rfl rfl rfl) ?_
      refine .cons (.pF rfl rfl rfl) ?_
      refine .nil ?_
      exact kc_n (Wk.keep [(820, 103)] rfl rfl ⟨ks rfl .dt, ks rfl .dt, ks rfl (.c .bx), ks rfl (.dt (vB (by first | rfl | grind))), kb 103 rfl (.dt rfl), trivial⟩)
  refine ks_n ?_
  refine ACode.condT rfl (fun h14 => ?_) (fun h14 => ?_)
  · try simp only [List.length_map, decide_eq_true_eq, decide_eq_false_iff_not, Bool.not_eq_true', Bool.not_eq_false', Bool.not_eq_true, Bool.not_eq_false] at h14
    refine ACode.seq ?_
    refine ACode.region ?_
    refine .cons (.asg rfl rfl) ?_
    refine .nil ?_
    refine ks_n ?_
    refine ACode.ret ?_
    refine ks_r ?_
    refine kf_ret rfl ?_ nobox
    exact leafB (redV_no (by simp at h14; omega) (by simp at h14; omega)).symm
  · try simp only [List.length_map, decide_eq_true_eq, decide_eq_false_iff_not, Bool.not_eq_true', Bool.not_eq_false', Bool.not_eq_true, Bool.not_eq_false] at h14
    have hop : s.2.k = 4 ∨ s.2.k = 5 := by simpa using h14
    obtain ⟨x, y, hks⟩ := op_two (stmtV_ex hv).1 (by omega)
    have hR := redV_two hks
    have hxk := (szE_parts hsz).2.2.2 x (by rw [hks]; simp)
    have hyk := (szE_parts hsz).2.2.2 y (by rw [hks]; simp)
    refine ACode.skip ?_
    refine ks_n ?_
    refine ACode.seq ?_
    refine ACode.region ?_
    refine .cons (.fB 6 0 false rfl rfl rfl) ?_
    refine .cons (.b1 1 rfl rfl rfl rfl rfl rfl) ?_
    refine .cons (.xL 31 7 112 (i := 0) rfl rfl rfl rfl rfl (by rw [hks]; exact rE_at rfl)) ?_
    refine .cons (.lN 7 rfl rfl rfl) ?_
    refine .cons (.al 104 [.int .i64 0, .int .i64 0, .slice none 0 0, .int .i64 0, .string ByteArray.empty, .slice none 0 0, .slice none 0 0] rfl rfl rfl) ?_
    refine .cons (.sT 7 true rfl rfl rfl rfl rfl rfl rfl) ?_
    refine .nil ?_
    refine ks_n ?_
    refine ACode.seq ?_
    refine ACode.drawK (by kernel_rfl) (by kernel_rfl) ?_
    refine .cons (.fB 0 0 false rfl rfl rfl) ?_
    refine .cons (.b1 1 rfl rfl rfl rfl rfl rfl) ?_
    refine .cons (.eq rfl rfl rfl) ?_
    refine .cons (.mv rfl rfl) ?_
    refine .cD 22 rfl (fun g22 => ?_) (fun g22 => ?_)
    · skip
      refine .cons (.gT rfl rfl rfl (.fB 4 1 true rfl rfl rfl)) ?_
      refine .cons (.gT rfl rfl rfl (.bN 2 rfl rfl rfl rfl rfl rfl)) ?_
      refine .cons (.gT rfl rfl rfl (.fP 0 1 true rfl rfl)) ?_
      refine .cons (.gT rfl rfl rfl (.lN 2 rfl rfl rfl)) ?_
      refine .cons (.gT rfl rfl rfl (.cP [.tmp 24, .tmp 26] rfl rfl rfl rfl (l3SameAcc_fn _ _ (szE_parts hxk).2.1) rfl)) ?_
      refine .cons (.pT rfl rfl rfl) ?_
      refine .cons (.mv rfl rfl) ?_
      refine RunK.cases 29 _ rfl (fun g29 => ?_) (fun g29 => ?_)
      · try simp only [List.length_map, decide_eq_true_eq, decide_eq_false_iff_not, Bool.not_eq_true', Bool.not_eq_false', Bool.not_eq_true, Bool.not_eq_false] at g29
        refine .cons (.gT rfl rfl rfl (.fB 6 0 false rfl rfl rfl)) ?_
        refine .cons (.gT rfl rfl rfl (.b1 1 rfl rfl rfl rfl rfl rfl)) ?_
        refine .cons (.gT rfl rfl rfl (.xL 31 7 112 (i := 1) rfl rfl rfl rfl rfl (by rw [hks]; exact rE_at rfl))) ?_
        refine .cons (.gT rfl rfl rfl (.lN 7 rfl rfl rfl)) ?_
        refine .cons (.gT rfl rfl rfl (.fP 0 1 true rfl rfl)) ?_
        refine .cons (.gT rfl rfl rfl (.fP 0 0 false rfl rfl)) ?_
        refine .cons (.gT rfl rfl rfl (.l1 1 rfl rfl)) ?_
        refine .cons (.gT rfl rfl rfl (.cP [.tmp 33, .tmp 36] rfl rfl rfl rfl (l12Uses_fn s.1.1 y hyk) rfl)) ?_
        refine .cons (.gT rfl rfl rfl (.nt rfl rfl)) ?_
        refine .cons (.pT rfl rfl rfl) ?_
        refine .cons (.asg rfl rfl) ?_
        refine .nil ⟨by kernel_rfl, ?_⟩
        refine ks_n ?_
        refine ACode.ret ?_
        refine kf_ret rfl ?_ nobox
        exact leafB (by rw [hR]; first | (simp [*]; done) | grind)
      · try simp only [List.length_map, decide_eq_true_eq, decide_eq_false_iff_not, Bool.not_eq_true', Bool.not_eq_false', Bool.not_eq_true, Bool.not_eq_false] at g29
        refine .cons (.gF rfl rfl rfl) ?_
        refine .cons (.gF rfl rfl rfl) ?_
        refine .cons (.gF rfl rfl rfl) ?_
        refine .cons (.gF rfl rfl rfl) ?_
        refine .cons (.gF rfl rfl rfl) ?_
        refine .cons (.gF rfl rfl rfl) ?_
        refine .cons (.gF rfl rfl rfl) ?_
        refine .cons (.gF rfl rfl rfl) ?_
        refine .cons (.gF rfl rfl rfl) ?_
        refine .cons (.pF rfl rfl rfl) ?_
        refine .cons (.asg rfl rfl) ?_
        refine .nil ⟨by kernel_rfl, ?_⟩
        refine ks_n ?_
        refine ACode.ret ?_
        refine kf_ret rfl ?_ nobox
        exact leafB (by rw [hR]; first | (simp [*]; done) | grind)
    · skip
      refine .cons (.gF rfl rfl rfl) ?_
      refine .cons (.gF rfl rfl rfl) ?_
      refine .cons (.gF rfl rfl rfl) ?_
      refine .cons (.gF rfl rfl rfl) ?_
      refine .cons (.gF rfl rfl rfl) ?_
      refine .cons (.pF rfl rfl rfl) ?_
      refine .cons (.mv rfl rfl) ?_
      refine .cons (.gF rfl rfl rfl) ?_
      refine .cons (.gF rfl rfl rfl) ?_
      refine .cons (.gF rfl rfl rfl) ?_
      refine .cons (.gF rfl rfl rfl) ?_
      refine .cons (.gF rfl rfl rfl) ?_
      refine .cons (.gF rfl rfl rfl) ?_
      refine .cons (.gF rfl rfl rfl) ?_
      refine .cons (.gF rfl rfl rfl) ?_
      refine .cons (.gF rfl rfl rfl) ?_
      refine .cons (.pF rfl rfl rfl) ?_
      refine .cons (.asg rfl rfl) ?_
      refine .nil ⟨by kernel_rfl, ?_⟩
      refine ks_n ?_
      refine ACode.ret ?_
      refine kf_ret rfl ?_ nobox
      exact leafB (by rw [hR]; first | (simp [*]; done) | grind)

set_option maxRecDepth 100000 in
set_option maxHeartbeats 1600000 in
theorem specRedOf_fn (s : Stm) (hs : szS s ≤ 1099511627776) : Fn Try.prog 34 [] [ad (rS s)] (.o (bo1 (stmtV 4 s && redV s))) [] := by
  refine Fn.code0 Try.func34 rfl rfl rfl rfl ?_
  refine ACode.seq ?_
  refine ACode.region ?_
  refine .cons (St1.boxP rfl rfl rfl rfl rfl rfl) ?_
  refine .cons (.asg rfl rfl) ?_
  refine .nil ?_
  refine ks_n ?_
  refine ACode.seq ?_
  refine ACode.region ?_
  refine .cons (.lN 9 rfl rfl rfl) ?_
  refine .cons (.cP [.tmp 3, .const (.int .i64 (4))] rfl rfl rfl rfl (specStmtV_fn 4 s hs) rfl) ?_
  refine .cons (.mv rfl rfl) ?_
  refine AOps.cases 5 _ rfl (fun g5 => ?_) (fun g5 => ?_)
  · try simp only [List.length_map, decide_eq_true_eq, decide_eq_false_iff_not, Bool.not_eq_true', Bool.not_eq_false', Bool.not_eq_true, Bool.not_eq_false] at g5
    refine .cons (.gT rfl rfl rfl (.lN 9 rfl rfl rfl)) ?_
    refine .cons (.gT rfl rfl rfl (.cP [.tmp 6] rfl rfl rfl rfl (l12Is_fn s hs g5) rfl)) ?_
    refine .cons (.pT rfl rfl rfl) ?_
    refine .cons (.asg rfl rfl) ?_
    refine .nil ?_
    refine ks_n ?_
    refine ACode.ret ?_
    refine kf_ret rfl ?_ nobox
    exact leafB (by rw [g5]; rfl)
  · try simp only [List.length_map, decide_eq_true_eq, decide_eq_false_iff_not, Bool.not_eq_true', Bool.not_eq_false', Bool.not_eq_true, Bool.not_eq_false] at g5
    refine .cons (.gF rfl rfl rfl) ?_
    refine .cons (.gF rfl rfl rfl) ?_
    refine .cons (.pF rfl rfl rfl) ?_
    refine .cons (.asg rfl rfl) ?_
    refine .nil ?_
    refine ks_n ?_
    refine ACode.ret ?_
    refine kf_ret rfl ?_ nobox
    exact leafB (by rw [g5]; rfl)

end Go.Proofs.Ytigdfdhjnadieaa

/- make of slices, over abstract states; rows filled one by one; condition: what the operands hold. -/
namespace Go.Proofs.Ytigdfdhjnadieaa
set_option linter.unusedVariables false
set_option linter.unusedSimpArgs false
open Go.RowKit

def tyMk (P : Program) (t : TypeId) : Option (TypeId × Nat × Nat × List Value) :=
  match P.underlying t with
  | some (.slice e) => (P.info? e).bind fun i => i.zero.map fun z => (e, i.size, i.bytes, z.cells.toList)
  | _ => none
theorem tyMk_out {P : Program} {t e : TypeId} {sz by' : Nat} {zs : List Value} (h : tyMk P t = some (e, sz, by', zs)) : P.underlying t = some (.slice e) ∧ ∃ i z, P.info? e = some i ∧ i.zero = some z ∧ i.size = sz ∧ i.bytes = by' ∧ z.cells.toList = zs := by
  unfold tyMk at h
  cases hu : P.underlying t with
  | none => simp [hu] at h
  | some d =>
    cases d <;> simp only [hu, reduceCtorEq] at h
    case slice e' =>
      cases hi : P.info? e' with
      | none => rw [hi] at h; cases h
      | some i =>
        cases hz : i.zero with
        | none => rw [hi] at h; simp [hz] at h
        | some z =>
          rw [hi] at h
          simp only [Option.bind_some, hz, Option.map_some, Option.some.injEq, Prod.mk.injEq] at h
          obtain ⟨rfl, h1, h2, h3⟩ := h
          exact ⟨rfl, i, z, hi, hz, h1, h2, h3⟩
theorem made_at {z : Value} {n i j sz : Nat} {u : Value} (hs : z.cells.toList.length = sz) (hi : i < n) (hu : z.cells.toList[j]? = some u) : (madeCells z.cells (n * sz))[i * sz + j]? = some u := by
  have hj : j < sz := by rw [← hs]; exact (List.getElem?_eq_some_iff.1 hu).1
  have hlt : i * sz + j < n * sz := by
    have := Nat.mul_le_mul_right sz (show i + 1 ≤ n by omega)
    rw [Nat.add_mul] at this; omega
  have hz : z.cells.size = sz := by rw [← hs, Array.length_toList]
  have hm : (i * sz + j) % sz = j := by rw [Nat.add_comm, Nat.add_mul_mod_self_right, Nat.mod_eq_of_lt hj]
  rw [Array.getElem?_toList] at hu
  simp [madeCells, hlt, hz, hm, Array.getElem!_eq_getD, hu, Array.getD_eq_getD_getElem?]
section
variable {P : Program} {n : Nat} {ops : Array Oper} {o : Oper} {σ : St} {d : Nat}
theorem St1.mk (k' : Nat) (e : TypeId) (sz by' : Nat) (zs : List Value) {t : TypeId} {x y : Operand} {m : Nat} (h4 : (o.op, o.guard, o.dst, Nat.blt d n) = (Op.makeSlice t x y, none, some d, true)) (hx : ev σ x = some (.o (nat1 (m : Nat)))) (hy : ev σ y = some (.o (nat1 (m : Nat)))) (hm : m ≤ 1073741824) (hz : (Nat.beq zs.length sz && zs.all (·.oneCell') && Nat.ble by' 65536) = true)
    (hf : (lk σ (.u k'), Nat.ble 100 k') = (.no, true)) (ht : tyMk P t = some (e, sz, by', zs) := by kernel_rfl) :
    St1 P n ops o σ (.u k' :: (rd x ++ rd y)) [.t d, .u k', .b k', .b k'] ((.t d, .v (.o (.c (.own k' sz m)))) :: (.u k', .u) :: (.b k', .b e sz (dR (List.replicate m (zs.map D.val)))) :: (.b k', .no) :: σ) := by
  simp only [Prod.mk.injEq] at h4 hf
  obtain ⟨ho, hg, hd, hn⟩ := h4
  simp only [Bool.and_eq_true] at hz
  have hzl : zs.length = sz := Nat.eq_of_beq_eq_true hz.1.1
  have hz1 : ∀ u ∈ zs, u.oneCell' = true := fun u hu => List.all_eq_true.1 hz.1.2 u hu
  have hby := Nat.le_of_ble_eq_true hz.2
  have hrow : ∀ {i : Nat} {r : List C}, (dR (List.replicate m (zs.map D.val)))[i]? = some r → i < m ∧ r = zs.map fun u => C.d (.val u) := fun {i r} h => by
    rw [dR, List.map_replicate, List.map_map] at h
    have hi : i < m := by have := (List.getElem?_eq_some_iff.1 h).1; simpa using this
    rw [List.getElem?_replicate, if_pos hi] at h
    exact ⟨hi, (Option.some.inj h).symm⟩
  refine St1.place hg hd hn hf.1 hf.2 (okk_self hf.2) rfl fun E bx τ a w hR hs => ?_
  obtain ⟨hu, i, z, hi, hzz, hs1, hs2, hs3⟩ := tyMk_out ht
  have hbm : i.bytes * m ≤ 281474976710656 := by
    have := Nat.mul_le_mul (show i.bytes ≤ 65536 by omega) hm; omega
  have hb' : (i.bytes : Int) * (m : Int) ≤ 281474976710656 := by
    have h : ((i.bytes * m : Nat) : Int) ≤ 281474976710656 := by omega
    rwa [Int.natCast_mul] at h
  have hr := run_make (P := P) w t e i z hu hi hzz .i64 .i64 (m : Int) (m : Int) (by omega) (Int.le_refl _) hb' (by omega)
  simp only [Int.toNat_natCast, hs1] at hr
  have hsz : (madeCells z.cells (m * sz)).size = m * sz := size_madeCells _ _
  refine ⟨.slice (some ⟨w.heap.size, 0, none⟩) m m, w.alloc (.cells (madeCells z.cells (m * sz)) e), w.heap.size, w.heap.size, madeCells z.cells (m * sz), ?_, .inr (Nat.le_refl _), World.grownBy_alloc w _ _, .inl rfl, heap_alloc_new w _, ?_, fun i r hi => ?_, fun i r j c hi hj => ?_, fun r hr' c hc l hl => ?_, fun bx' al B w2 hbx => ⟨rfl, fun _ => ⟨m, by rw [hbx], Nat.le_refl _, by unfold maxLen; omega, by rw [hbx, hsz]⟩⟩⟩
  · simp only [execOp, ho, ev_val hx (rd_l hR) hs, ev_val hy (rd_r hR) hs, Sem.run_bind, hr]; rfl
  · rw [hsz, dR, List.length_map, List.length_replicate]; exact Nat.le_refl _
  · rw [(hrow hi).2, List.length_map, hzl]
  · obtain ⟨h1, rfl⟩ := hrow hi
    rw [List.getElem?_map] at hj
    cases hq : zs[j]? with
    | none => rw [hq] at hj; cases hj
    | some u =>
      rw [hq] at hj; cases hj
      exact ⟨u, made_at (by rw [hs3, hzl]) h1 (by rw [hs3]; exact hq), .val _ (hz1 u (List.mem_of_getElem? hq))⟩
  · obtain ⟨i, hi⟩ := List.mem_iff_getElem?.1 hr'
    obtain ⟨_, rfl⟩ := hrow hi
    obtain ⟨u, _, rfl⟩ := List.mem_map.1 hc
    cases hl
end
/-- Rows of which the first have been filled. -/
theorem fill_at {α : Type} {f : α → List D} {z : List D} {l : List α} {i : Nat} (h : i < l.length) : (dR ((l.take i).map f ++ List.replicate (l.length - i) z))[i]? = some (z.map C.d) := by
  rw [dR, List.getElem?_map, List.getElem?_append_right (by rw [List.length_map, List.length_take]; omega), List.length_map, List.length_take, Nat.min_eq_left (by omega), Nat.sub_self, List.getElem?_replicate, if_pos (by omega)]; rfl
theorem fill_set {α : Type} (f : α → List D) {z : List D} {l : List α} {i : Nat} {x : α} {r : List C} (h : l[i]? = some x) (hr : r = (f x).map C.d) : (dR ((l.take i).map f ++ List.replicate (l.length - i) z)).set i r = dR ((l.take (i + 1)).map f ++ List.replicate (l.length - (i + 1)) z) := by
  subst hr
  have hi := (List.getElem?_eq_some_iff.1 h).1
  have hl : (List.map (fun x => List.map C.d x) ((l.take i).map f)).length = i := by simp; omega
  rw [dR, dR, List.map_append, List.map_append, List.set_append_right _ _ (by omega), hl, Nat.sub_self, show l.length - i = (l.length - (i + 1)) + 1 by omega, List.replicate_succ, List.map_cons, List.set_cons_zero, List.take_add_one, h, List.map_append, List.map_append, List.append_assoc]
  rfl
theorem fill_new {α : Type} (f : α → List D) {z : List D} (l : List α) : dR (List.replicate l.length z) = dR ((l.take 0).map f ++ List.replicate (l.length - 0) z) := by simp
theorem fill_end {α : Type} (f : α → List D) {z : List D} (l : List α) : dR ((l.take l.length).map f ++ List.replicate (l.length - l.length) z) = dR (l.map f) := by rw [List.take_length, Nat.sub_self]; simp
end Go.Proofs.Ytigdfdhjnadieaa

/- Arguments of laws: copies and equality; condition: small lists. -/
namespace Go.Proofs.Ytigdfdhjnadieaa
set_option linter.unusedVariables false
set_option linter.unusedSimpArgs false
open Go.RowKit

set_option maxRecDepth 100000 in
set_option maxHeartbeats 1600000 in
theorem toInts_fn (xs : List Int) (hx : xs.length ≤ 1073741824) : Fn Try.prog 156 [] [vD (dIs xs)] (.o (vD (dIs xs))) [] := by
  refine Fn.code0 Try.func156 rfl rfl rfl rfl ?_
  refine ACode.seq ?_
  refine ACode.region ?_
  refine .cons (.asg rfl rfl) ?_
  refine .nil ?_
  refine ks_n ?_
  refine ACode.seq ?_
  refine ACode.region ?_
  refine .cons (.mv rfl rfl) ?_
  refine .cons (.ln 3 1 8 rfl rfl rfl) ?_
  refine .cons (.mk 107 3 1 8 [.int .i64 0] rfl rfl rfl (by omega) rfl rfl) ?_
  refine .cons (.asg rfl rfl) ?_
  refine .nil ?_
  refine ks_n ?_
  refine ACode.seq ?_
  refine ACode.seq ?_
  refine ACode.region ?_
  refine .cons (.asg rfl rfl) ?_
  refine .nil ?_
  refine ks_n ?_
  refine ACode.block ?_
  refine .loopK (fun m σ => (∃ i : Nat, m = xs.length - i ∧ (i ≤ xs.length) ∧ (True) ∧ σ = [(.t 0, .v (.o (vD (dIs xs)))), (.t 2, .v (.o (.c (.d (.val (.slice none 0 0)))))), (.t 3, .v (.o (.c (.own 110 1 (xs.length))))), (.t 4, .v (.o (nat1 (i : Nat)))), (.b 110, .b 3 1 (dR ((xs.take i).map (rI) ++ List.replicate (xs.length - i) [dI 0]))), (.u 110, .u)])) [(110, 107)] ⟨0, rfl, by omega, trivial, rfl⟩ ⟨ks rfl .dt, ks rfl .dt, ks rfl (.c .ow), ks rfl .dt, kb 107 rfl (.dt rfl (by first | exact fill_new (rI) xs | exact fill_set (rI) hx1 rfl)), trivial⟩ ?_
  rintro m σ ⟨i, hm0, hi, hF, rfl⟩
  refine ACode.seq ?_
  refine ACode.seq ?_
  refine ACode.region ?_
  refine .cons (.mv rfl rfl) ?_
  refine .cons (.mv rfl rfl) ?_
  refine .cons (.ln 3 1 8 rfl rfl rfl) ?_
  refine .cons (.ls rfl rfl rfl) ?_
  refine .nil ?_
  refine ks_n ?_
  refine .cD rfl (fun h11 => ?_) (fun h11 => ?_)
  · skip
    obtain ⟨x, hx1⟩ : ∃ x, xs[i]? = some x := ⟨_, List.getElem?_eq_getElem (by omega)⟩
    refine ACode.skip ?_
    refine ks_n ?_
    refine ACode.seq ?_
    refine ACode.block ?_
    refine ACode.region ?_
    refine .cons (.mv rfl rfl) ?_
    refine .cons (.mv rfl rfl) ?_
    refine .cons (.mv rfl rfl) ?_
    refine .cons (.mv rfl rfl) ?_
    refine .cons (.xL 3 1 8 rfl rfl rfl rfl rfl (map_at hx1)) ?_
    refine .cons (.l1 1 rfl rfl) ?_
    refine .cons (.xB 3 1 8 rfl rfl rfl rfl rfl rfl (by omega)) ?_
    refine .cons (.sT 1 false rfl rfl rfl rfl (fill_at (by omega)) rfl rfl) ?_
    refine .nil ?_
    refine kb_n ?_
    refine ks_n ?_
    refine ACode.region ?_
    refine .cons (.mv rfl rfl) ?_
    refine .cons (.pl rfl rfl rfl) ?_
    refine .cons (.asg rfl rfl) ?_
    refine .nil ?_
    refine kl_k [(110, 110)] ⟨i + 1, rfl, by omega, trivial, rfl⟩ ⟨ks rfl .dt, ks rfl .dt, ks rfl (.c .ow), ks rfl .dt, kb 110 rfl (.dt rfl (by first | exact fill_new (rI) xs | exact fill_set (rI) hx1 rfl)), trivial⟩
  · skip
    obtain rfl : i = xs.length := by omega
    refine ACode.exit ?_
    refine ks_e ?_
    refine kl_e ?_
    refine kb_hit ?_
    refine ks_n ?_
    refine ACode.seq ?_
    refine ACode.region ?_
    refine .cons (.mv rfl rfl) ?_
    refine .cons (.asg rfl rfl) ?_
    refine .nil ?_
    refine ks_n ?_
    refine ACode.ret ?_
    refine kf_wret [(.t 2, .v (.o (vD (dIs xs))))] (Wk.keep [] rfl rfl ⟨ks rfl (.c (.fz rfl (fill_end (rI) xs) (by simp) (by omega))), trivial⟩) rfl ?_ nobox
    rfl

set_option maxRecDepth 100000 in
set_option maxHeartbeats 1600000 in
theorem toAff_fn {x : Aff} (hx : x.1.length ≤ 1073741824) : Fn Try.prog 129 [] [ad (rA x)] (.o (ad (rA x))) [] := by
  refine Fn.code0 Try.func129 rfl rfl rfl rfl ?_
  refine ACode.seq ?_
  refine ACode.region ?_
  refine .cons (St1.boxP rfl rfl rfl rfl rfl rfl) ?_
  refine .cons (.al 102 [.slice none 0 0, .int .i64 0] rfl rfl rfl) ?_
  refine .nil ?_
  refine ks_n ?_
  refine ACode.seq ?_
  refine ACode.region ?_
  refine .cons (.al 103 [.slice none 0 0, .int .i64 0] rfl rfl rfl) ?_
  refine .nil ?_
  refine ks_n ?_
  refine ACode.seq ?_
  refine ACode.region ?_
  refine .cons (.fP 0 0 false rfl rfl) ?_
  refine .cons (.l1 1 rfl rfl) ?_
  refine .cons (.cP [.tmp 5] rfl rfl rfl rfl (toInts_fn x.1 hx) rfl) ?_
  refine .cons (.fB 0 0 false rfl rfl rfl) ?_
  refine .cons (.sT 1 false rfl rfl rfl rfl rfl rfl rfl) ?_
  refine .nil ?_
  refine ks_n ?_
  refine ACode.seq ?_
  refine ACode.region ?_
  refine .cons (.fP 1 0 false rfl rfl) ?_
  refine .cons (.l1 1 rfl rfl) ?_
  refine .cons (.fB 1 0 false rfl rfl rfl) ?_
  refine .cons (.sT 1 false rfl rfl rfl rfl rfl rfl rfl) ?_
  refine .nil ?_
  refine ks_n ?_
  refine ACode.seq ?_
  refine ACode.region ?_
  refine .cons (.bN 2 rfl rfl rfl rfl rfl rfl) ?_
  refine .cons (.sT 2 true rfl rfl rfl rfl rfl rfl rfl) ?_
  refine .nil ?_
  refine ks_n ?_
  refine ACode.ret ?_
  refine kf_ret rfl ?_ nobox
  rfl

set_option maxRecDepth 100000 in
set_option maxHeartbeats 1600000 in
theorem toAffs_fn (xs : List Aff) (hx : xs.length ≤ 1073741824) (hq : ∀ x ∈ xs, x.1.length ≤ 1073741824) : Fn Try.prog 128 [] [vD (dAs xs)] (.o (vD (dAs xs))) [] := by
  refine Fn.code0 Try.func128 rfl rfl rfl rfl ?_
  refine ACode.seq ?_
  refine ACode.region ?_
  refine .cons (.asg rfl rfl) ?_
  refine .nil ?_
  refine ks_n ?_
  refine ACode.seq ?_
  refine ACode.region ?_
  refine .cons (.mv rfl rfl) ?_
  refine .cons (.ln 47 2 32 rfl rfl rfl) ?_
  refine .cons (.mk 107 28 2 32 [.slice none 0 0, .int .i64 0] rfl rfl rfl (by omega) rfl rfl) ?_
  refine .cons (.asg rfl rfl) ?_
  refine .nil ?_
  refine ks_n ?_
  refine ACode.seq ?_
  refine ACode.seq ?_
  refine ACode.region ?_
  refine .cons (.asg rfl rfl) ?_
  refine .nil ?_
  refine ks_n ?_
  refine ACode.block ?_
  refine .loopK (fun m σ => (∃ i : Nat, m = xs.length - i ∧ (i ≤ xs.length) ∧ (True) ∧ σ = [(.t 0, .v (.o (vD (dAs xs)))), (.t 2, .v (.o (.c (.d (.val (.slice none 0 0)))))), (.t 3, .v (.o (.c (.own 110 2 (xs.length))))), (.t 4, .v (.o (nat1 (i : Nat)))), (.b 110, .b 28 2 (dR ((xs.take i).map (rA) ++ List.replicate (xs.length - i) [.val (.slice none 0 0), dI 0]))), (.u 110, .u)])) [(110, 107)] ⟨0, rfl, by omega, trivial, rfl⟩ ⟨ks rfl .dt, ks rfl .dt, ks rfl (.c .ow), ks rfl .dt, kb 107 rfl (.dt rfl (by first | exact fill_new (rA) xs | exact fill_set (rA) hx1 rfl)), trivial⟩ ?_
  rintro m σ ⟨i, hm0, hi, hF, rfl⟩
  refine ACode.seq ?_
  refine ACode.seq ?_
  refine ACode.region ?_
  refine .cons (.mv rfl rfl) ?_
  refine .cons (.mv rfl rfl) ?_
  refine .cons (.ln 47 2 32 rfl rfl rfl) ?_
  refine .cons (.ls rfl rfl rfl) ?_
  refine .nil ?_
  refine ks_n ?_
  refine .cD rfl (fun h11 => ?_) (fun h11 => ?_)
  · skip
    obtain ⟨x, hx1⟩ : ∃ x, xs[i]? = some x := ⟨_, List.getElem?_eq_getElem (by omega)⟩
    refine ACode.skip ?_
    refine ks_n ?_
    refine ACode.seq ?_
    refine ACode.block ?_
    refine ACode.region ?_
    refine .cons (.mv rfl rfl) ?_
    refine .cons (.mv rfl rfl) ?_
    refine .cons (.mv rfl rfl) ?_
    refine .cons (.mv rfl rfl) ?_
    refine .cons (.xL 47 2 32 rfl rfl rfl rfl rfl (map_at hx1)) ?_
    refine .cons (.lN 2 rfl rfl rfl) ?_
    refine .cons (.cP [.tmp 19] rfl rfl rfl rfl (toAff_fn (hq x (List.mem_of_getElem? hx1))) rfl) ?_
    refine .cons (.xB 28 2 32 rfl rfl rfl rfl rfl rfl (by omega)) ?_
    refine .cons (.sT 2 true rfl rfl rfl rfl (fill_at (by omega)) rfl rfl) ?_
    refine .nil ?_
    refine kb_n ?_
    refine ks_n ?_
    refine ACode.region ?_
    refine .cons (.mv rfl rfl) ?_
    refine .cons (.pl rfl rfl rfl) ?_
    refine .cons (.asg rfl rfl) ?_
    refine .nil ?_
    refine kl_k [(110, 110)] ⟨i + 1, rfl, by omega, trivial, rfl⟩ ⟨ks rfl .dt, ks rfl .dt, ks rfl (.c .ow), ks rfl .dt, kb 110 rfl (.dt rfl (by first | exact fill_new (rA) xs | exact fill_set (rA) hx1 rfl)), trivial⟩
  · skip
    obtain rfl : i = xs.length := by omega
    refine ACode.exit ?_
    refine ks_e ?_
    refine kl_e ?_
    refine kb_hit ?_
    refine ks_n ?_
    refine ACode.seq ?_
    refine ACode.region ?_
    refine .cons (.mv rfl rfl) ?_
    refine .cons (.asg rfl rfl) ?_
    refine .nil ?_
    refine ks_n ?_
    refine ACode.ret ?_
    refine kf_wret [(.t 2, .v (.o (vD (dAs xs))))] (Wk.keep [] rfl rfl ⟨ks rfl (.c (.fz rfl (fill_end (rA) xs) (by simp) (by omega))), trivial⟩) rfl ?_ nobox
    rfl

set_option maxRecDepth 100000 in
set_option maxHeartbeats 1600000 in
theorem toAcc_fn {a : Acc} (h : szC a ≤ 1073741824) : Fn Try.prog 73 [] [ad (rC a)] (.o (ad (rC a))) [] := by
  rw [szC] at h
  have h2 := szAs_len a.2
  refine Fn.code0 Try.func73 rfl rfl rfl rfl ?_
  refine ACode.seq ?_
  refine ACode.region ?_
  refine .cons (St1.boxP rfl rfl rfl rfl rfl rfl) ?_
  refine .cons (.al 102 [.string ByteArray.empty, .slice none 0 0] rfl rfl rfl) ?_
  refine .nil ?_
  refine ks_n ?_
  refine ACode.seq ?_
  refine ACode.region ?_
  refine .cons (.al 103 [.string ByteArray.empty, .slice none 0 0] rfl rfl rfl) ?_
  refine .nil ?_
  refine ks_n ?_
  refine ACode.seq ?_
  refine ACode.region ?_
  refine .cons (.fP 0 0 false rfl rfl) ?_
  refine .cons (.l1 1 rfl rfl) ?_
  refine .cons (.fB 0 0 false rfl rfl rfl) ?_
  refine .cons (.sT 1 false rfl rfl rfl rfl rfl rfl rfl) ?_
  refine .nil ?_
  refine ks_n ?_
  refine ACode.seq ?_
  refine ACode.region ?_
  refine .cons (.fP 1 0 false rfl rfl) ?_
  refine .cons (.l1 1 rfl rfl) ?_
  refine .cons (.cP [.tmp 8] rfl rfl rfl rfl (toAffs_fn a.2 (by omega) (fun x hx => by have := szAs_mem hx; omega)) rfl) ?_
  refine .cons (.fB 1 0 false rfl rfl rfl) ?_
  refine .cons (.sT 1 false rfl rfl rfl rfl rfl rfl rfl) ?_
  refine .nil ?_
  refine ks_n ?_
  refine ACode.seq ?_
  refine ACode.region ?_
  refine .cons (.bN 2 rfl rfl rfl rfl rfl rfl) ?_
  refine .cons (.sT 2 true rfl rfl rfl rfl rfl rfl rfl) ?_
  refine .nil ?_
  refine ks_n ?_
  refine ACode.ret ?_
  refine kf_ret rfl ?_ nobox
  rfl

set_option maxRecDepth 100000 in
set_option maxHeartbeats 1600000 in
theorem toExs_one (xs : List Ex) (hx : xs.length ≤ 1073741824) (ih : ∀ x ∈ xs, Fn Try.prog 74 [] [ad (rX x)] (.o (ad (rX x))) []) : Fn Try.prog 130 [] [vD (dEs xs)] (.o (vD (dEs xs))) [] := by
  refine Fn.code0 Try.func130 rfl rfl rfl rfl ?_
  refine ACode.seq ?_
  refine ACode.region ?_
  refine .cons (.asg rfl rfl) ?_
  refine .nil ?_
  refine ks_n ?_
  refine ACode.seq ?_
  refine ACode.region ?_
  refine .cons (.mv rfl rfl) ?_
  refine .cons (.ln 50 7 112 rfl rfl rfl) ?_
  refine .cons (.mk 107 31 7 112 [.int .i64 0, .int .i64 0, .slice none 0 0, .int .i64 0, .string ByteArray.empty, .slice none 0 0, .slice none 0 0] rfl rfl rfl (by omega) rfl rfl) ?_
  refine .cons (.asg rfl rfl) ?_
  refine .nil ?_
  refine ks_n ?_
  refine ACode.seq ?_
  refine ACode.seq ?_
  refine ACode.region ?_
  refine .cons (.asg rfl rfl) ?_
  refine .nil ?_
  refine ks_n ?_
  refine ACode.block ?_
  refine .loopK (fun m σ => (∃ i : Nat, m = xs.length - i ∧ (i ≤ xs.length) ∧ (True) ∧ σ = [(.t 0, .v (.o (vD (dEs xs)))), (.t 2, .v (.o (.c (.d (.val (.slice none 0 0)))))), (.t 3, .v (.o (.c (.own 110 7 (xs.length))))), (.t 4, .v (.o (nat1 (i : Nat)))), (.b 110, .b 31 7 (dR ((xs.take i).map (rX) ++ List.replicate (xs.length - i) [dI 0, dI 0, .val (.slice none 0 0), dI 0, dS ByteArray.empty, .val (.slice none 0 0), .val (.slice none 0 0)]))), (.u 110, .u)])) [(110, 107)] ⟨0, rfl, by omega, trivial, rfl⟩ ⟨ks rfl .dt, ks rfl .dt, ks rfl (.c .ow), ks rfl .dt, kb 107 rfl (.dt rfl (by first | exact fill_new (rX) xs | exact fill_set (rX) hx1 rfl)), trivial⟩ ?_
  rintro m σ ⟨i, hm0, hi, hF, rfl⟩
  refine ACode.seq ?_
  refine ACode.seq ?_
  refine ACode.region ?_
  refine .cons (.mv rfl rfl) ?_
  refine .cons (.mv rfl rfl) ?_
  refine .cons (.ln 50 7 112 rfl rfl rfl) ?_
  refine .cons (.ls rfl rfl rfl) ?_
  refine .nil ?_
  refine ks_n ?_
  refine .cD rfl (fun h11 => ?_) (fun h11 => ?_)
  · skip
    obtain ⟨x, hx1⟩ : ∃ x, xs[i]? = some x := ⟨_, List.getElem?_eq_getElem (by omega)⟩
    refine ACode.skip ?_
    refine ks_n ?_
    refine ACode.seq ?_
    refine ACode.block ?_
    refine ACode.region ?_
    refine .cons (.mv rfl rfl) ?_
    refine .cons (.mv rfl rfl) ?_
    refine .cons (.mv rfl rfl) ?_
    refine .cons (.mv rfl rfl) ?_
    refine .cons (.xL 50 7 112 rfl rfl rfl rfl rfl (rE_at hx1)) ?_
    refine .cons (.lN 7 rfl rfl rfl) ?_
    refine .cons (.cP [.tmp 19] rfl rfl rfl rfl (ih x (List.mem_of_getElem? hx1)) rfl) ?_
    refine .cons (.xB 31 7 112 rfl rfl rfl rfl rfl rfl (by omega)) ?_
    refine .cons (.sT 7 true rfl rfl rfl rfl (fill_at (by omega)) rfl rfl) ?_
    refine .nil ?_
    refine kb_n ?_
    refine ks_n ?_
    refine ACode.region ?_
    refine .cons (.mv rfl rfl) ?_
    refine .cons (.pl rfl rfl rfl) ?_
    refine .cons (.asg rfl rfl) ?_
    refine .nil ?_
    refine kl_k [(110, 110)] ⟨i + 1, rfl, by omega, trivial, rfl⟩ ⟨ks rfl .dt, ks rfl .dt, ks rfl (.c .ow), ks rfl .dt, kb 110 rfl (.dt rfl (by first | exact fill_new (rX) xs | exact fill_set (rX) hx1 rfl)), trivial⟩
  · skip
    obtain rfl : i = xs.length := by omega
    refine ACode.exit ?_
    refine ks_e ?_
    refine kl_e ?_
    refine kb_hit ?_
    refine ks_n ?_
    refine ACode.seq ?_
    refine ACode.region ?_
    refine .cons (.mv rfl rfl) ?_
    refine .cons (.asg rfl rfl) ?_
    refine .nil ?_
    refine ks_n ?_
    refine ACode.ret ?_
    refine kf_wret [(.t 2, .v (.o (vD (dEs xs))))] (Wk.keep [] rfl rfl ⟨ks rfl (.c (.fz rfl ((fill_end (rX) xs).trans (by rw [show xs.map (rX) = xs.map rE from List.map_congr_left fun x _ => (rE_eq x).symm])) (by simp) (by omega))), trivial⟩) rfl ?_ nobox
    rfl

set_option maxRecDepth 100000 in
set_option maxHeartbeats 1600000 in
theorem toEx_one {e : Ex} (h0 : e.i.1.length ≤ 1073741824) (h1 : szC e.r ≤ 1073741824) (h2 : e.ks.length ≤ 1073741824) (ih : ∀ x ∈ e.ks, Fn Try.prog 74 [] [ad (rX x)] (.o (ad (rX x))) []) : Fn Try.prog 74 [] [ad (rX e)] (.o (ad (rX e))) [] := by
  refine Fn.code0 Try.func74 rfl rfl rfl rfl ?_
  refine ACode.seq ?_
  refine ACode.region ?_
  refine .cons (St1.boxP rfl rfl rfl rfl rfl rfl) ?_
  refine .cons (.al 102 [.int .i64 0, .int .i64 0, .slice none 0 0, .int .i64 0, .string ByteArray.empty, .slice none 0 0, .slice none 0 0] rfl rfl rfl) ?_
  refine .nil ?_
  refine ks_n ?_
  refine ACode.seq ?_
  refine ACode.region ?_
  refine .cons (.al 103 [.int .i64 0, .int .i64 0, .slice none 0 0, .int .i64 0, .string ByteArray.empty, .slice none 0 0, .slice none 0 0] rfl rfl rfl) ?_
  refine .nil ?_
  refine ks_n ?_
  refine ACode.seq ?_
  refine ACode.region ?_
  refine .cons (.fP 0 0 false rfl rfl) ?_
  refine .cons (.l1 1 rfl rfl) ?_
  refine .cons (.fB 0 0 false rfl rfl rfl) ?_
  refine .cons (.sT 1 false rfl rfl rfl rfl rfl rfl rfl) ?_
  refine .nil ?_
  refine ks_n ?_
  refine ACode.seq ?_
  refine ACode.region ?_
  refine .cons (.fP 1 0 false rfl rfl) ?_
  refine .cons (.l1 1 rfl rfl) ?_
  refine .cons (.fB 1 0 false rfl rfl rfl) ?_
  refine .cons (.sT 1 false rfl rfl rfl rfl rfl rfl rfl) ?_
  refine .nil ?_
  refine ks_n ?_
  refine ACode.seq ?_
  refine ACode.region ?_
  refine .cons (.fP 2 1 true rfl rfl) ?_
  refine .cons (.lN 2 rfl rfl rfl) ?_
  refine .cons (.cP [.tmp 11] rfl rfl rfl rfl (toAff_fn h0) rfl) ?_
  refine .cons (.fB 2 1 true rfl rfl rfl) ?_
  refine .cons (.sT 2 true rfl rfl rfl rfl rfl rfl rfl) ?_
  refine .nil ?_
  refine ks_n ?_
  refine ACode.seq ?_
  refine ACode.region ?_
  refine .cons (.fP 4 1 true rfl rfl) ?_
  refine .cons (.lN 2 rfl rfl rfl) ?_
  refine .cons (.cP [.tmp 15] rfl rfl rfl rfl (toAcc_fn h1) rfl) ?_
  refine .cons (.fB 4 1 true rfl rfl rfl) ?_
  refine .cons (.sT 2 true rfl rfl rfl rfl rfl rfl rfl) ?_
  refine .nil ?_
  refine ks_n ?_
  refine ACode.seq ?_
  refine ACode.region ?_
  refine .cons (.fP 6 0 false rfl rfl) ?_
  refine .cons (.l1 1 rfl rfl) ?_
  refine .cons (.cP [.tmp 19] rfl rfl rfl rfl (toExs_one e.ks h2 ih) rfl) ?_
  refine .cons (.fB 6 0 false rfl rfl rfl) ?_
  refine .cons (.sT 1 false rfl rfl rfl rfl rfl rfl rfl) ?_
  refine .nil ?_
  refine ks_n ?_
  refine ACode.seq ?_
  refine ACode.region ?_
  refine .cons (.bN 7 rfl rfl rfl rfl rfl rfl) ?_
  refine .cons (.sT 7 true rfl rfl rfl rfl rfl rfl rfl) ?_
  refine .nil ?_
  refine ks_n ?_
  refine ACode.ret ?_
  refine kf_ret rfl ?_ nobox
  rfl

theorem toEx_fn : ∀ e : Ex, szE e ≤ 1073741824 → Fn Try.prog 74 [] [ad (rX e)] (.o (ad (rX e))) [] := by
  intro e
  induction e using Ex.rec' with
  | h e ih =>
    intro hs
    rw [szE_eq] at hs
    exact toEx_one (by omega) (by omega) (by omega) fun x hx => ih x hx (by have := szEs_mem hx; omega)

set_option maxRecDepth 100000 in
set_option maxHeartbeats 1600000 in
theorem toStm_fn {s : Stm} (h : szS s ≤ 1073741824) : Fn Try.prog 28 [] [ad (rS s)] (.o (ad (rS s))) [] := by
  rw [szS] at h
  refine Fn.code0 Try.func28 rfl rfl rfl rfl ?_
  refine ACode.seq ?_
  refine ACode.region ?_
  refine .cons (St1.boxP rfl rfl rfl rfl rfl rfl) ?_
  refine .cons (.al 102 [.string ByteArray.empty, .slice none 0 0, .int .i64 0, .int .i64 0, .slice none 0 0, .int .i64 0, .string ByteArray.empty, .slice none 0 0, .slice none 0 0] rfl rfl rfl) ?_
  refine .nil ?_
  refine ks_n ?_
  refine ACode.seq ?_
  refine ACode.region ?_
  refine .cons (.al 103 [.string ByteArray.empty, .slice none 0 0, .int .i64 0, .int .i64 0, .slice none 0 0, .int .i64 0, .string ByteArray.empty, .slice none 0 0, .slice none 0 0] rfl rfl rfl) ?_
  refine .nil ?_
  refine ks_n ?_
  refine ACode.seq ?_
  refine ACode.region ?_
  refine .cons (.fP 0 1 true rfl rfl) ?_
  refine .cons (.lN 2 rfl rfl rfl) ?_
  refine .cons (.cP [.tmp 5] rfl rfl rfl rfl (toAcc_fn (a := s.1) (by omega)) rfl) ?_
  refine .cons (.fB 0 1 true rfl rfl rfl) ?_
  refine .cons (.sT 2 true rfl rfl rfl rfl rfl rfl rfl) ?_
  refine .nil ?_
  refine ks_n ?_
  refine ACode.seq ?_
  refine ACode.region ?_
  refine .cons (.fP 2 6 true rfl rfl) ?_
  refine .cons (.lN 7 rfl rfl rfl) ?_
  refine .cons (.cP [.tmp 9] rfl rfl rfl rfl (toEx_fn s.2 (by omega)) rfl) ?_
  refine .cons (.fB 2 6 true rfl rfl rfl) ?_
  refine .cons (.sT 7 true rfl rfl rfl rfl rfl rfl rfl) ?_
  refine .nil ?_
  refine ks_n ?_
  refine ACode.seq ?_
  refine ACode.region ?_
  refine .cons (.bN 9 rfl rfl rfl rfl rfl rfl) ?_
  refine .cons (.sT 9 true rfl rfl rfl rfl rfl rfl rfl) ?_
  refine .nil ?_
  refine ks_n ?_
  refine ACode.ret ?_
  refine kf_ret rfl ?_ nobox
  rfl

set_option maxRecDepth 100000 in
set_option maxHeartbeats 1600000 in
theorem eqInts_f (xs ys : List Int) (hx : xs.length ≤ 1099511627776) : Fn Try.prog 157 [] [vD (dIs xs), vD (dIs ys)] (.o (bo1 (eqF (fun x y : Int => decide (x = y)) xs ys))) [] := by
  refine Fn.code0 Try.func157 rfl rfl rfl rfl ?_
  refine ACode.seq ?_
  refine ACode.region ?_
  refine .cons (.asg rfl rfl) ?_
  refine .nil ?_
  refine ks_n ?_
  refine ACode.seq ?_
  refine ACode.seq ?_
  refine ACode.region ?_
  refine .cons (.mv rfl rfl) ?_
  refine .cons (.ln 3 1 8 rfl rfl rfl) ?_
  refine .cons (.mv rfl rfl) ?_
  refine .cons (.ln 3 1 8 rfl rfl rfl) ?_
  refine .cons (.ne rfl rfl rfl) ?_
  refine .nil ?_
  refine ks_n ?_
  refine .cND rfl (fun h10 => ?_) (fun h10 => ?_)
  · skip
    refine ACode.seq ?_
    refine ACode.region ?_
    refine .cons (.asg rfl rfl) ?_
    refine .nil ?_
    refine ks_n ?_
    refine ACode.ret ?_
    refine ks_r ?_
    refine kf_ret rfl ?_ nobox
    exact leafB (eqF_len (by omega)).symm
  · skip
    refine ACode.skip ?_
    refine ks_n ?_
    refine ACode.seq ?_
    refine ACode.seq ?_
    refine ACode.region ?_
    refine .cons (.asg rfl rfl) ?_
    refine .nil ?_
    refine ks_n ?_
    refine ACode.block ?_
    refine .loopK (fun m σ => (∃ i : Nat, m = xs.length - i ∧ (i ≤ xs.length) ∧ (eqF (fun x y : Int => decide (x = y)) xs ys = eqF (fun x y : Int => decide (x = y)) (xs.drop i) (ys.drop i)) ∧ σ = [(.t 0, .v (.o (vD (dIs xs)))), (.t 1, .v (.o (vD (dIs ys)))), (.t 4, .v (.o (bo1 false))), (.t 5, .v (.o (nat1 (i : Nat))))])) [] ⟨0, rfl, by omega, by simp, rfl⟩ ⟨ks rfl .dt, ks rfl .dt, ks rfl .dt, ks rfl .dt, trivial⟩ ?_
    rintro m σ ⟨i, hm0, hi, hF, rfl⟩
    refine ACode.seq ?_
    refine ACode.seq ?_
    refine ACode.region ?_
    refine .cons (.mv rfl rfl) ?_
    refine .cons (.mv rfl rfl) ?_
    refine .cons (.ln 3 1 8 rfl rfl rfl) ?_
    refine .cons (.ls rfl rfl rfl) ?_
    refine .nil ?_
    refine ks_n ?_
    refine .cD rfl (fun h14 => ?_) (fun h14 => ?_)
    · skip
      obtain ⟨x, hx1⟩ : ∃ x, xs[i]? = some x := ⟨_, List.getElem?_eq_getElem (by omega)⟩
      obtain ⟨y, hy1⟩ : ∃ x, ys[i]? = some x := ⟨_, List.getElem?_eq_getElem (by omega)⟩
      refine ACode.skip ?_
      refine ks_n ?_
      refine ACode.seq ?_
      refine ACode.block ?_
      refine ACode.seq ?_
      refine ACode.drawK (by kernel_rfl) (by kernel_rfl) ?_
      refine .cons (.mv rfl rfl) ?_
      refine .cons (.mv rfl rfl) ?_
      refine .cons (.xL 3 1 8 rfl rfl rfl rfl rfl (map_at hx1)) ?_
      refine .cons (.l1 1 rfl rfl) ?_
      refine .cons (.mv rfl rfl) ?_
      refine .cons (.mv rfl rfl) ?_
      refine .cons (.xL 3 1 8 rfl rfl rfl rfl rfl (map_at hy1)) ?_
      refine .cons (.l1 1 rfl rfl) ?_
      refine .cons (.ne rfl rfl rfl) ?_
      refine .nil ⟨by kernel_rfl, ?_⟩
      refine ks_n ?_
      refine .cND rfl (fun h25 => ?_) (fun h25 => ?_)
      · skip
        have g : decide (x = y) = false := by first | assumption | exact decide_eq_false (by assumption) | (simp; omega)
        refine ACode.seq ?_
        refine ACode.region ?_
        refine .cons (.asg rfl rfl) ?_
        refine .nil ?_
        refine ks_n ?_
        refine ACode.ret ?_
        refine kb_r ?_
        refine ks_r ?_
        refine kl_r ?_
        refine kb_r ?_
        refine ks_r ?_
        refine kf_ret rfl ?_ nobox
        exact leafB (by rw [hF, eqF_drop hx1 hy1, g]; rfl)
      · skip
        have g : decide (x = y) = true := by first | assumption | exact decide_eq_true (by assumption) | (simp; omega)
        refine ACode.skip ?_
        refine kb_n ?_
        refine ks_n ?_
        refine ACode.region ?_
        refine .cons (.mv rfl rfl) ?_
        refine .cons (.pl rfl rfl rfl) ?_
        refine .cons (.asg rfl rfl) ?_
        refine .nil ?_
        refine kl_k [] ⟨i + 1, rfl, by omega, by rw [hF, eqF_drop hx1 hy1, g, Bool.true_and], rfl⟩ ⟨ks rfl .dt, ks rfl .dt, ks rfl .dt, ks rfl .dt, trivial⟩
    · skip
      refine ACode.exit ?_
      refine ks_e ?_
      refine kl_e ?_
      refine kb_hit ?_
      refine ks_n ?_
      refine ACode.seq ?_
      refine ACode.region ?_
      refine .cons (.asg rfl rfl) ?_
      refine .nil ?_
      refine ks_n ?_
      refine ACode.ret ?_
      refine kf_ret rfl ?_ nobox
      exact leafB (by rw [hF, show i = xs.length by omega, eqF_end (by omega)])

theorem eqInts_fn (xs ys : List Int) (hx : xs.length ≤ 1099511627776) : Fn Try.prog 157 [] [vD (dIs xs), vD (dIs ys)] (.o (bo1 (decide (xs = ys)))) [] := by
  rw [← eqF_dec]; exact eqInts_f xs ys hx

set_option maxRecDepth 100000 in
set_option maxHeartbeats 1600000 in
theorem eqAff_fn (x y : Aff) (hx : x.1.length ≤ 1099511627776) : Fn Try.prog 132 [] [ad (rA x), ad (rA y)] (.o (bo1 (decide (x = y)))) [] := by
  refine Fn.code0 Try.func132 rfl rfl rfl rfl ?_
  refine ACode.seq ?_
  refine ACode.region ?_
  refine .cons (St1.boxP rfl rfl rfl rfl rfl rfl) ?_
  refine .cons (St1.boxP rfl rfl rfl rfl rfl rfl) ?_
  refine .cons (.asg rfl rfl) ?_
  refine .nil ?_
  refine ks_n ?_
  refine ACode.seq ?_
  refine ACode.seq ?_
  refine ACode.region ?_
  refine .cons (.fP 0 0 false rfl rfl) ?_
  refine .cons (.l1 1 rfl rfl) ?_
  refine .cons (.fP 0 0 false rfl rfl) ?_
  refine .cons (.l1 1 rfl rfl) ?_
  refine .cons (.cP [.tmp 6, .tmp 8] rfl rfl rfl rfl (eqInts_fn _ _ hx) rfl) ?_
  refine .cons (.nt rfl rfl) ?_
  refine .nil ?_
  refine ks_n ?_
  refine ACode.condT rfl (fun h10 => ?_) (fun h10 => ?_)
  · try simp only [List.length_map, decide_eq_true_eq, decide_eq_false_iff_not, Bool.not_eq_true', Bool.not_eq_false', Bool.not_eq_true, Bool.not_eq_false] at h10
    refine ACode.seq ?_
    refine ACode.region ?_
    refine .cons (.asg rfl rfl) ?_
    refine .nil ?_
    refine ks_n ?_
    refine ACode.ret ?_
    refine ks_r ?_
    refine kf_ret rfl ?_ nobox
    exact leafB (by rw [Bool.eq_iff_iff]; simp [Prod.ext_iff, *])
  · try simp only [List.length_map, decide_eq_true_eq, decide_eq_false_iff_not, Bool.not_eq_true', Bool.not_eq_false', Bool.not_eq_true, Bool.not_eq_false] at h10
    refine ACode.skip ?_
    refine ks_n ?_
    refine ACode.seq ?_
    refine ACode.seq ?_
    refine ACode.region ?_
    refine .cons (.fP 1 0 false rfl rfl) ?_
    refine .cons (.l1 1 rfl rfl) ?_
    refine .cons (.fP 1 0 false rfl rfl) ?_
    refine .cons (.l1 1 rfl rfl) ?_
    refine .cons (.ne rfl rfl rfl) ?_
    refine .nil ?_
    refine ks_n ?_
    refine .cND rfl (fun h15 => ?_) (fun h15 => ?_)
    · skip
      refine ACode.seq ?_
      refine ACode.region ?_
      refine .cons (.asg rfl rfl) ?_
      refine .nil ?_
      refine ks_n ?_
      refine ACode.ret ?_
      refine ks_r ?_
      refine kf_ret rfl ?_ nobox
      exact leafB (by rw [Bool.eq_iff_iff]; simp [Prod.ext_iff, *])
    · skip
      refine ACode.skip ?_
      refine ks_n ?_
      refine ACode.seq ?_
      refine ACode.region ?_
      refine .cons (.asg rfl rfl) ?_
      refine .nil ?_
      refine ks_n ?_
      refine ACode.ret ?_
      refine kf_ret rfl ?_ nobox
      exact leafB (by rw [Bool.eq_iff_iff]; simp [Prod.ext_iff, *])

set_option maxRecDepth 100000 in
set_option maxHeartbeats 1600000 in
theorem eqAffs_f (xs ys : List Aff) (hx : xs.length ≤ 1099511627776) (hq : ∀ x ∈ xs, x.1.length ≤ 1099511627776) : Fn Try.prog 131 [] [vD (dAs xs), vD (dAs ys)] (.o (bo1 (eqF (fun x y : Aff => decide (x = y)) xs ys))) [] := by
  refine Fn.code0 Try.func131 rfl rfl rfl rfl ?_
  refine ACode.seq ?_
  refine ACode.region ?_
  refine .cons (.asg rfl rfl) ?_
  refine .nil ?_
  refine ks_n ?_
  refine ACode.seq ?_
  refine ACode.seq ?_
  refine ACode.region ?_
  refine .cons (.mv rfl rfl) ?_
  refine .cons (.ln 28 2 32 rfl rfl rfl) ?_
  refine .cons (.mv rfl rfl) ?_
  refine .cons (.ln 28 2 32 rfl rfl rfl) ?_
  refine .cons (.ne rfl rfl rfl) ?_
  refine .nil ?_
  refine ks_n ?_
  refine .cND rfl (fun h10 => ?_) (fun h10 => ?_)
  · skip
    refine ACode.seq ?_
    refine ACode.region ?_
    refine .cons (.asg rfl rfl) ?_
    refine .nil ?_
    refine ks_n ?_
    refine ACode.ret ?_
    refine ks_r ?_
    refine kf_ret rfl ?_ nobox
    exact leafB (eqF_len (by omega)).symm
  · skip
    refine ACode.skip ?_
    refine ks_n ?_
    refine ACode.seq ?_
    refine ACode.seq ?_
    refine ACode.region ?_
    refine .cons (.asg rfl rfl) ?_
    refine .nil ?_
    refine ks_n ?_
    refine ACode.block ?_
    refine .loopK (fun m σ => (∃ i : Nat, m = xs.length - i ∧ (i ≤ xs.length) ∧ (eqF (fun x y : Aff => decide (x = y)) xs ys = eqF (fun x y : Aff => decide (x = y)) (xs.drop i) (ys.drop i)) ∧ σ = [(.t 0, .v (.o (vD (dAs xs)))), (.t 1, .v (.o (vD (dAs ys)))), (.t 4, .v (.o (bo1 false))), (.t 5, .v (.o (nat1 (i : Nat))))])) [] ⟨0, rfl, by omega, by simp, rfl⟩ ⟨ks rfl .dt, ks rfl .dt, ks rfl .dt, ks rfl .dt, trivial⟩ ?_
    rintro m σ ⟨i, hm0, hi, hF, rfl⟩
    refine ACode.seq ?_
    refine ACode.seq ?_
    refine ACode.region ?_
    refine .cons (.mv rfl rfl) ?_
    refine .cons (.mv rfl rfl) ?_
    refine .cons (.ln 28 2 32 rfl rfl rfl) ?_
    refine .cons (.ls rfl rfl rfl) ?_
    refine .nil ?_
    refine ks_n ?_
    refine .cD rfl (fun h14 => ?_) (fun h14 => ?_)
    · skip
      obtain ⟨x, hx1⟩ : ∃ x, xs[i]? = some x := ⟨_, List.getElem?_eq_getElem (by omega)⟩
      obtain ⟨y, hy1⟩ : ∃ x, ys[i]? = some x := ⟨_, List.getElem?_eq_getElem (by omega)⟩
      refine ACode.skip ?_
      refine ks_n ?_
      refine ACode.seq ?_
      refine ACode.block ?_
      refine ACode.seq ?_
      refine ACode.drawK (by kernel_rfl) (by kernel_rfl) ?_
      refine .cons (.mv rfl rfl) ?_
      refine .cons (.mv rfl rfl) ?_
      refine .cons (.xL 28 2 32 rfl rfl rfl rfl rfl (map_at hx1)) ?_
      refine .cons (.lN 2 rfl rfl rfl) ?_
      refine .cons (.mv rfl rfl) ?_
      refine .cons (.mv rfl rfl) ?_
      refine .cons (.xL 28 2 32 rfl rfl rfl rfl rfl (map_at hy1)) ?_
      refine .cons (.lN 2 rfl rfl rfl) ?_
      refine .cons (.cP [.tmp 20, .tmp 24] rfl rfl rfl rfl (eqAff_fn x y (hq x (List.mem_of_getElem? hx1))) rfl) ?_
      refine .cons (.nt rfl rfl) ?_
      refine .nil ⟨by kernel_rfl, ?_⟩
      refine ks_n ?_
      refine ACode.condT rfl (fun h26 => ?_) (fun h26 => ?_)
      · try simp only [List.length_map, decide_eq_true_eq, decide_eq_false_iff_not, Bool.not_eq_true', Bool.not_eq_false', Bool.not_eq_true, Bool.not_eq_false] at h26
        have g : decide (x = y) = false := by first | assumption | exact decide_eq_false (by assumption) | (simp; omega)
        refine ACode.seq ?_
        refine ACode.region ?_
        refine .cons (.asg rfl rfl) ?_
        refine .nil ?_
        refine ks_n ?_
        refine ACode.ret ?_
        refine kb_r ?_
        refine ks_r ?_
        refine kl_r ?_
        refine kb_r ?_
        refine ks_r ?_
        refine kf_ret rfl ?_ nobox
        exact leafB (by rw [hF, eqF_drop hx1 hy1, g]; rfl)
      · try simp only [List.length_map, decide_eq_true_eq, decide_eq_false_iff_not, Bool.not_eq_true', Bool.not_eq_false', Bool.not_eq_true, Bool.not_eq_false] at h26
        have g : decide (x = y) = true := by first | assumption | exact decide_eq_true (by assumption) | (simp; omega)
        refine ACode.skip ?_
        refine kb_n ?_
        refine ks_n ?_
        refine ACode.region ?_
        refine .cons (.mv rfl rfl) ?_
        refine .cons (.pl rfl rfl rfl) ?_
        refine .cons (.asg rfl rfl) ?_
        refine .nil ?_
        refine kl_k [] ⟨i + 1, rfl, by omega, by rw [hF, eqF_drop hx1 hy1, g, Bool.true_and], rfl⟩ ⟨ks rfl .dt, ks rfl .dt, ks rfl .dt, ks rfl .dt, trivial⟩
    · skip
      refine ACode.exit ?_
      refine ks_e ?_
      refine kl_e ?_
      refine kb_hit ?_
      refine ks_n ?_
      refine ACode.seq ?_
      refine ACode.region ?_
      refine .cons (.asg rfl rfl) ?_
      refine .nil ?_
      refine ks_n ?_
      refine ACode.ret ?_
      refine kf_ret rfl ?_ nobox
      exact leafB (by rw [hF, show i = xs.length by omega, eqF_end (by omega)])

theorem eqAffs_fn (xs ys : List Aff) (hx : xs.length ≤ 1099511627776) (hq : ∀ x ∈ xs, x.1.length ≤ 1099511627776) : Fn Try.prog 131 [] [vD (dAs xs), vD (dAs ys)] (.o (bo1 (decide (xs = ys)))) [] := by
  rw [← eqF_dec]; exact eqAffs_f xs ys hx hq

set_option maxRecDepth 100000 in
set_option maxHeartbeats 1600000 in
theorem eqAcc_fn (a b : Acc) (h : szC a ≤ 1073741824) : Fn Try.prog 75 [] [ad (rC a), ad (rC b)] (.o (bo1 (sameC a b))) [] := by
  rw [szC] at h
  have h2 := szAs_len a.2
  refine Fn.code0 Try.func75 rfl rfl rfl rfl ?_
  refine ACode.seq ?_
  refine ACode.region ?_
  refine .cons (St1.boxP rfl rfl rfl rfl rfl rfl) ?_
  refine .cons (St1.boxP rfl rfl rfl rfl rfl rfl) ?_
  refine .cons (.asg rfl rfl) ?_
  refine .nil ?_
  refine ks_n ?_
  refine ACode.seq ?_
  refine ACode.seq ?_
  refine ACode.region ?_
  refine .cons (.fP 0 0 false rfl rfl) ?_
  refine .cons (.l1 1 rfl rfl) ?_
  refine .cons (.fP 0 0 false rfl rfl) ?_
  refine .cons (.l1 1 rfl rfl) ?_
  refine .cons (St1.neS rfl rfl rfl) ?_
  refine .nil ?_
  refine ks_n ?_
  refine ACode.condT rfl (fun h9 => ?_) (fun h9 => ?_)
  · try simp only [List.length_map, decide_eq_true_eq, decide_eq_false_iff_not, Bool.not_eq_true', Bool.not_eq_false', Bool.not_eq_true, Bool.not_eq_false] at h9
    refine ACode.seq ?_
    refine ACode.region ?_
    refine .cons (.asg rfl rfl) ?_
    refine .nil ?_
    refine ks_n ?_
    refine ACode.ret ?_
    refine ks_r ?_
    refine kf_ret rfl ?_ nobox
    exact leafB (by rw [sameC]; first | (simp [*]; done) | grind)
  · try simp only [List.length_map, decide_eq_true_eq, decide_eq_false_iff_not, Bool.not_eq_true', Bool.not_eq_false', Bool.not_eq_true, Bool.not_eq_false] at h9
    refine ACode.skip ?_
    refine ks_n ?_
    refine ACode.seq ?_
    refine ACode.seq ?_
    refine ACode.region ?_
    refine .cons (.fP 1 0 false rfl rfl) ?_
    refine .cons (.l1 1 rfl rfl) ?_
    refine .cons (.fP 1 0 false rfl rfl) ?_
    refine .cons (.l1 1 rfl rfl) ?_
    refine .cons (.cP [.tmp 11, .tmp 13] rfl rfl rfl rfl (eqAffs_fn _ _ (by omega) (fun x hx => by have := szAs_mem hx; omega)) rfl) ?_
    refine .cons (.nt rfl rfl) ?_
    refine .nil ?_
    refine ks_n ?_
    refine ACode.condT rfl (fun h15 => ?_) (fun h15 => ?_)
    · try simp only [List.length_map, decide_eq_true_eq, decide_eq_false_iff_not, Bool.not_eq_true', Bool.not_eq_false', Bool.not_eq_true, Bool.not_eq_false] at h15
      refine ACode.seq ?_
      refine ACode.region ?_
      refine .cons (.asg rfl rfl) ?_
      refine .nil ?_
      refine ks_n ?_
      refine ACode.ret ?_
      refine ks_r ?_
      refine kf_ret rfl ?_ nobox
      exact leafB (by rw [sameC]; first | (simp [*]; done) | grind)
    · try simp only [List.length_map, decide_eq_true_eq, decide_eq_false_iff_not, Bool.not_eq_true', Bool.not_eq_false', Bool.not_eq_true, Bool.not_eq_false] at h15
      refine ACode.skip ?_
      refine ks_n ?_
      refine ACode.seq ?_
      refine ACode.region ?_
      refine .cons (.asg rfl rfl) ?_
      refine .nil ?_
      refine ks_n ?_
      refine ACode.ret ?_
      refine kf_ret rfl ?_ nobox
      exact leafB (by rw [sameC]; first | (simp [*]; done) | grind)

set_option maxRecDepth 100000 in
set_option maxHeartbeats 1600000 in
theorem eqExs_one (xs ys : List Ex) (hx : xs.length ≤ 1099511627776) (ih : ∀ x ∈ xs, ∀ y, Fn Try.prog 76 [] [ad (rX x), ad (rX y)] (.o (bo1 (sameE x y))) []) : Fn Try.prog 133 [] [vD (dEs xs), vD (dEs ys)] (.o (bo1 (eqF sameE xs ys))) [] := by
  refine Fn.code0 Try.func133 rfl rfl rfl rfl ?_
  refine ACode.seq ?_
  refine ACode.region ?_
  refine .cons (.asg rfl rfl) ?_
  refine .nil ?_
  refine ks_n ?_
  refine ACode.seq ?_
  refine ACode.seq ?_
  refine ACode.region ?_
  refine .cons (.mv rfl rfl) ?_
  refine .cons (.ln 31 7 112 rfl rfl rfl) ?_
  refine .cons (.mv rfl rfl) ?_
  refine .cons (.ln 31 7 112 rfl rfl rfl) ?_
  refine .cons (.ne rfl rfl rfl) ?_
  refine .nil ?_
  refine ks_n ?_
  refine .cND rfl (fun h10 => ?_) (fun h10 => ?_)
  · skip
    refine ACode.seq ?_
    refine ACode.region ?_
    refine .cons (.asg rfl rfl) ?_
    refine .nil ?_
    refine ks_n ?_
    refine ACode.ret ?_
    refine ks_r ?_
    refine kf_ret rfl ?_ nobox
    exact leafB (eqF_len (by omega)).symm
  · skip
    refine ACode.skip ?_
    refine ks_n ?_
    refine ACode.seq ?_
    refine ACode.seq ?_
    refine ACode.region ?_
    refine .cons (.asg rfl rfl) ?_
    refine .nil ?_
    refine ks_n ?_
    refine ACode.block ?_
    refine .loopK (fun m σ => (∃ i : Nat, m = xs.length - i ∧ (i ≤ xs.length) ∧ (eqF sameE xs ys = eqF sameE (xs.drop i) (ys.drop i)) ∧ σ = [(.t 0, .v (.o (vD (dEs xs)))), (.t 1, .v (.o (vD (dEs ys)))), (.t 4, .v (.o (bo1 false))), (.t 5, .v (.o (nat1 (i : Nat))))])) [] ⟨0, rfl, by omega, by simp, rfl⟩ ⟨ks rfl .dt, ks rfl .dt, ks rfl .dt, ks rfl .dt, trivial⟩ ?_
    rintro m σ ⟨i, hm0, hi, hF, rfl⟩
    refine ACode.seq ?_
    refine ACode.seq ?_
    refine ACode.region ?_
    refine .cons (.mv rfl rfl) ?_
    refine .cons (.mv rfl rfl) ?_
    refine .cons (.ln 31 7 112 rfl rfl rfl) ?_
    refine .cons (.ls rfl rfl rfl) ?_
    refine .nil ?_
    refine ks_n ?_
    refine .cD rfl (fun h14 => ?_) (fun h14 => ?_)
    · skip
      obtain ⟨x, hx1⟩ : ∃ x, xs[i]? = some x := ⟨_, List.getElem?_eq_getElem (by omega)⟩
      obtain ⟨y, hy1⟩ : ∃ x, ys[i]? = some x := ⟨_, List.getElem?_eq_getElem (by omega)⟩
      refine ACode.skip ?_
      refine ks_n ?_
      refine ACode.seq ?_
      refine ACode.block ?_
      refine ACode.seq ?_
      refine ACode.drawK (by kernel_rfl) (by kernel_rfl) ?_
      refine .cons (.mv rfl rfl) ?_
      refine .cons (.mv rfl rfl) ?_
      refine .cons (.xL 31 7 112 rfl rfl rfl rfl rfl (rE_at hx1)) ?_
      refine .cons (.lN 7 rfl rfl rfl) ?_
      refine .cons (.mv rfl rfl) ?_
      refine .cons (.mv rfl rfl) ?_
      refine .cons (.xL 31 7 112 rfl rfl rfl rfl rfl (rE_at hy1)) ?_
      refine .cons (.lN 7 rfl rfl rfl) ?_
      refine .cons (.cP [.tmp 20, .tmp 24] rfl rfl rfl rfl (ih x (List.mem_of_getElem? hx1) y) rfl) ?_
      refine .cons (.nt rfl rfl) ?_
      refine .nil ⟨by kernel_rfl, ?_⟩
      refine ks_n ?_
      refine ACode.condT rfl (fun h26 => ?_) (fun h26 => ?_)
      · try simp only [List.length_map, decide_eq_true_eq, decide_eq_false_iff_not, Bool.not_eq_true', Bool.not_eq_false', Bool.not_eq_true, Bool.not_eq_false] at h26
        have g : sameE x y = false := by first | assumption | exact decide_eq_false (by assumption) | (simp; omega)
        refine ACode.seq ?_
        refine ACode.region ?_
        refine .cons (.asg rfl rfl) ?_
        refine .nil ?_
        refine ks_n ?_
        refine ACode.ret ?_
        refine kb_r ?_
        refine ks_r ?_
        refine kl_r ?_
        refine kb_r ?_
        refine ks_r ?_
        refine kf_ret rfl ?_ nobox
        exact leafB (by rw [hF, eqF_drop hx1 hy1, g]; rfl)
      · try simp only [List.length_map, decide_eq_true_eq, decide_eq_false_iff_not, Bool.not_eq_true', Bool.not_eq_false', Bool.not_eq_true, Bool.not_eq_false] at h26
        have g : sameE x y = true := by first | assumption | exact decide_eq_true (by assumption) | (simp; omega)
        refine ACode.skip ?_
        refine kb_n ?_
        refine ks_n ?_
        refine ACode.region ?_
        refine .cons (.mv rfl rfl) ?_
        refine .cons (.pl rfl rfl rfl) ?_
        refine .cons (.asg rfl rfl) ?_
        refine .nil ?_
        refine kl_k [] ⟨i + 1, rfl, by omega, by rw [hF, eqF_drop hx1 hy1, g, Bool.true_and], rfl⟩ ⟨ks rfl .dt, ks rfl .dt, ks rfl .dt, ks rfl .dt, trivial⟩
    · skip
      refine ACode.exit ?_
      refine ks_e ?_
      refine kl_e ?_
      refine kb_hit ?_
      refine ks_n ?_
      refine ACode.seq ?_
      refine ACode.region ?_
      refine .cons (.asg rfl rfl) ?_
      refine .nil ?_
      refine ks_n ?_
      refine ACode.ret ?_
      refine kf_ret rfl ?_ nobox
      exact leafB (by rw [hF, show i = xs.length by omega, eqF_end (by omega)])

set_option maxRecDepth 100000 in
set_option maxHeartbeats 1600000 in
theorem eqEx_one (x y : Ex) (h0 : x.i.1.length ≤ 1073741824) (h1 : szC x.r ≤ 1073741824) (h2 : x.ks.length ≤ 1099511627776) (ih : ∀ a ∈ x.ks, ∀ b, Fn Try.prog 76 [] [ad (rX a), ad (rX b)] (.o (bo1 (sameE a b))) []) : Fn Try.prog 76 [] [ad (rX x), ad (rX y)] (.o (bo1 (sameE x y))) [] := by
  refine Fn.code0 Try.func76 rfl rfl rfl rfl ?_
  refine ACode.seq ?_
  refine ACode.region ?_
  refine .cons (St1.boxP rfl rfl rfl rfl rfl rfl) ?_
  refine .cons (St1.boxP rfl rfl rfl rfl rfl rfl) ?_
  refine .cons (.asg rfl rfl) ?_
  refine .nil ?_
  refine ks_n ?_
  refine ACode.seq ?_
  refine ACode.seq ?_
  refine ACode.region ?_
  refine .cons (.fP 0 0 false rfl rfl) ?_
  refine .cons (.l1 1 rfl rfl) ?_
  refine .cons (.fP 0 0 false rfl rfl) ?_
  refine .cons (.l1 1 rfl rfl) ?_
  refine .cons (.ne rfl rfl rfl) ?_
  refine .nil ?_
  refine ks_n ?_
  refine .cND rfl (fun h9 => ?_) (fun h9 => ?_)
  · skip
    refine ACode.seq ?_
    refine ACode.region ?_
    refine .cons (.asg rfl rfl) ?_
    refine .nil ?_
    refine ks_n ?_
    refine ACode.ret ?_
    refine ks_r ?_
    refine kf_ret rfl ?_ nobox
    exact leafB (by rw [sameE_eq, ← eqF_sameE]; first | (simp [*]; done) | grind)
  · skip
    refine ACode.skip ?_
    refine ks_n ?_
    refine ACode.seq ?_
    refine ACode.seq ?_
    refine ACode.region ?_
    refine .cons (.fP 1 0 false rfl rfl) ?_
    refine .cons (.l1 1 rfl rfl) ?_
    refine .cons (.fP 1 0 false rfl rfl) ?_
    refine .cons (.l1 1 rfl rfl) ?_
    refine .cons (.ne rfl rfl rfl) ?_
    refine .nil ?_
    refine ks_n ?_
    refine .cND rfl (fun h14 => ?_) (fun h14 => ?_)
    · skip
      refine ACode.seq ?_
      refine ACode.region ?_
      refine .cons (.asg rfl rfl) ?_
      refine .nil ?_
      refine ks_n ?_
      refine ACode.ret ?_
      refine ks_r ?_
      refine kf_ret rfl ?_ nobox
      exact leafB (by rw [sameE_eq, ← eqF_sameE]; first | (simp [*]; done) | grind)
    · skip
      refine ACode.skip ?_
      refine ks_n ?_
      refine ACode.seq ?_
      refine ACode.seq ?_
      refine ACode.region ?_
      refine .cons (.fP 2 1 true rfl rfl) ?_
      refine .cons (.lN 2 rfl rfl rfl) ?_
      refine .cons (.fP 2 1 true rfl rfl) ?_
      refine .cons (.lN 2 rfl rfl rfl) ?_
      refine .cons (.cP [.tmp 16, .tmp 18] rfl rfl rfl rfl (eqAff_fn _ _ (by omega)) rfl) ?_
      refine .cons (.nt rfl rfl) ?_
      refine .nil ?_
      refine ks_n ?_
      refine ACode.condT rfl (fun h20 => ?_) (fun h20 => ?_)
      · try simp only [List.length_map, decide_eq_true_eq, decide_eq_false_iff_not, Bool.not_eq_true', Bool.not_eq_false', Bool.not_eq_true, Bool.not_eq_false] at h20
        refine ACode.seq ?_
        refine ACode.region ?_
        refine .cons (.asg rfl rfl) ?_
        refine .nil ?_
        refine ks_n ?_
        refine ACode.ret ?_
        refine ks_r ?_
        refine kf_ret rfl ?_ nobox
        exact leafB (by rw [sameE_eq, ← eqF_sameE]; first | (simp [*]; done) | grind)
      · try simp only [List.length_map, decide_eq_true_eq, decide_eq_false_iff_not, Bool.not_eq_true', Bool.not_eq_false', Bool.not_eq_true, Bool.not_eq_false] at h20
        refine ACode.skip ?_
        refine ks_n ?_
        refine ACode.seq ?_
        refine ACode.seq ?_
        refine ACode.region ?_
        refine .cons (.fP 4 1 true rfl rfl) ?_
        refine .cons (.lN 2 rfl rfl rfl) ?_
        refine .cons (.fP 4 1 true rfl rfl) ?_
        refine .cons (.lN 2 rfl rfl rfl) ?_
        refine .cons (.cP [.tmp 22, .tmp 24] rfl rfl rfl rfl (eqAcc_fn _ _ h1) rfl) ?_
        refine .cons (.nt rfl rfl) ?_
        refine .nil ?_
        refine ks_n ?_
        refine ACode.condT rfl (fun h26 => ?_) (fun h26 => ?_)
        · try simp only [List.length_map, decide_eq_true_eq, decide_eq_false_iff_not, Bool.not_eq_true', Bool.not_eq_false', Bool.not_eq_true, Bool.not_eq_false] at h26
          refine ACode.seq ?_
          refine ACode.region ?_
          refine .cons (.asg rfl rfl) ?_
          refine .nil ?_
          refine ks_n ?_
          refine ACode.ret ?_
          refine ks_r ?_
          refine kf_ret rfl ?_ nobox
          exact leafB (by rw [sameE_eq, ← eqF_sameE]; first | (simp [*]; done) | grind)
        · try simp only [List.length_map, decide_eq_true_eq, decide_eq_false_iff_not, Bool.not_eq_true', Bool.not_eq_false', Bool.not_eq_true, Bool.not_eq_false] at h26
          refine ACode.skip ?_
          refine ks_n ?_
          refine ACode.seq ?_
          refine ACode.seq ?_
          refine ACode.region ?_
          refine .cons (.fP 6 0 false rfl rfl) ?_
          refine .cons (.l1 1 rfl rfl) ?_
          refine .cons (.fP 6 0 false rfl rfl) ?_
          refine .cons (.l1 1 rfl rfl) ?_
          refine .cons (.cP [.tmp 28, .tmp 30] rfl rfl rfl rfl (eqExs_one x.ks y.ks h2 ih) rfl) ?_
          refine .cons (.nt rfl rfl) ?_
          refine .nil ?_
          refine ks_n ?_
          refine ACode.condT rfl (fun h32 => ?_) (fun h32 => ?_)
          · try simp only [List.length_map, decide_eq_true_eq, decide_eq_false_iff_not, Bool.not_eq_true', Bool.not_eq_false', Bool.not_eq_true, Bool.not_eq_false] at h32
            refine ACode.seq ?_
            refine ACode.region ?_
            refine .cons (.asg rfl rfl) ?_
            refine .nil ?_
            refine ks_n ?_
            refine ACode.ret ?_
            refine ks_r ?_
            refine kf_ret rfl ?_ nobox
            exact leafB (by rw [sameE_eq, ← eqF_sameE]; first | (simp [*]; done) | grind)
          · try simp only [List.length_map, decide_eq_true_eq, decide_eq_false_iff_not, Bool.not_eq_true', Bool.not_eq_false', Bool.not_eq_true, Bool.not_eq_false] at h32
            refine ACode.skip ?_
            refine ks_n ?_
            refine ACode.seq ?_
            refine ACode.region ?_
            refine .cons (.asg rfl rfl) ?_
            refine .nil ?_
            refine ks_n ?_
            refine ACode.ret ?_
            refine kf_ret rfl ?_ nobox
            exact leafB (by rw [sameE_eq, ← eqF_sameE]; first | (simp [*]; done) | grind)

theorem eqEx_fn : ∀ x y : Ex, szE x ≤ 1073741824 → Fn Try.prog 76 [] [ad (rX x), ad (rX y)] (.o (bo1 (sameE x y))) [] := by
  intro x
  induction x using Ex.rec' with
  | h x ih =>
    intro y hs
    rw [szE_eq] at hs
    exact eqEx_one x y (by omega) (by omega) (by omega) fun a ha b => ih a ha b (by have := szEs_mem ha; omega)

set_option maxRecDepth 100000 in
set_option maxHeartbeats 1600000 in
theorem eqStm_fn (s t : Stm) (h : szS s ≤ 1073741824) : Fn Try.prog 29 [] [ad (rS s), ad (rS t)] (.o (bo1 (sameS s t))) [] := by
  rw [szS] at h
  refine Fn.code0 Try.func29 rfl rfl rfl rfl ?_
  refine ACode.seq ?_
  refine ACode.region ?_
  refine .cons (St1.boxP rfl rfl rfl rfl rfl rfl) ?_
  refine .cons (St1.boxP rfl rfl rfl rfl rfl rfl) ?_
  refine .cons (.asg rfl rfl) ?_
  refine .nil ?_
  refine ks_n ?_
  refine ACode.seq ?_
  refine ACode.seq ?_
  refine ACode.region ?_
  refine .cons (.fP 0 1 true rfl rfl) ?_
  refine .cons (.lN 2 rfl rfl rfl) ?_
  refine .cons (.fP 0 1 true rfl rfl) ?_
  refine .cons (.lN 2 rfl rfl rfl) ?_
  refine .cons (.cP [.tmp 6, .tmp 8] rfl rfl rfl rfl (eqAcc_fn _ _ (by omega)) rfl) ?_
  refine .cons (.nt rfl rfl) ?_
  refine .nil ?_
  refine ks_n ?_
  refine ACode.condT rfl (fun h10 => ?_) (fun h10 => ?_)
  · try simp only [List.length_map, decide_eq_true_eq, decide_eq_false_iff_not, Bool.not_eq_true', Bool.not_eq_false', Bool.not_eq_true, Bool.not_eq_false] at h10
    refine ACode.seq ?_
    refine ACode.region ?_
    refine .cons (.asg rfl rfl) ?_
    refine .nil ?_
    refine ks_n ?_
    refine ACode.ret ?_
    refine ks_r ?_
    refine kf_ret rfl ?_ nobox
    exact leafB (by rw [sameS]; first | (simp [*]; done) | grind)
  · try simp only [List.length_map, decide_eq_true_eq, decide_eq_false_iff_not, Bool.not_eq_true', Bool.not_eq_false', Bool.not_eq_true, Bool.not_eq_false] at h10
    refine ACode.skip ?_
    refine ks_n ?_
    refine ACode.seq ?_
    refine ACode.seq ?_
    refine ACode.region ?_
    refine .cons (.fP 2 6 true rfl rfl) ?_
    refine .cons (.lN 7 rfl rfl rfl) ?_
    refine .cons (.fP 2 6 true rfl rfl) ?_
    refine .cons (.lN 7 rfl rfl rfl) ?_
    refine .cons (.cP [.tmp 12, .tmp 14] rfl rfl rfl rfl (eqEx_fn _ _ (by omega)) rfl) ?_
    refine .cons (.nt rfl rfl) ?_
    refine .nil ?_
    refine ks_n ?_
    refine ACode.condT rfl (fun h16 => ?_) (fun h16 => ?_)
    · try simp only [List.length_map, decide_eq_true_eq, decide_eq_false_iff_not, Bool.not_eq_true', Bool.not_eq_false', Bool.not_eq_true, Bool.not_eq_false] at h16
      refine ACode.seq ?_
      refine ACode.region ?_
      refine .cons (.asg rfl rfl) ?_
      refine .nil ?_
      refine ks_n ?_
      refine ACode.ret ?_
      refine ks_r ?_
      refine kf_ret rfl ?_ nobox
      exact leafB (by rw [sameS]; first | (simp [*]; done) | grind)
    · try simp only [List.length_map, decide_eq_true_eq, decide_eq_false_iff_not, Bool.not_eq_true', Bool.not_eq_false', Bool.not_eq_true, Bool.not_eq_false] at h16
      refine ACode.skip ?_
      refine ks_n ?_
      refine ACode.seq ?_
      refine ACode.region ?_
      refine .cons (.asg rfl rfl) ?_
      refine .nil ?_
      refine ks_n ?_
      refine ACode.ret ?_
      refine kf_ret rfl ?_ nobox
      exact leafB (by rw [sameS]; first | (simp [*]; done) | grind)

end Go.Proofs.Ytigdfdhjnadieaa

/- Exact laws over statements; condition: nothing is too long for memory. -/
namespace Go.Proofs.Ytigdfdhjnadieaa
set_option linter.unusedVariables false
set_option linter.unusedSimpArgs false
open Go.RowKit

theorem sameS_refl (s : Stm) : sameS s s = true := sameS_iff.2 rfl

set_option maxRecDepth 100000 in
set_option maxHeartbeats 1600000 in
theorem lawExCount {s : Stm} (ho : okS s) : Fn Try.prog 6 [] [ad (rS s)] (.o (bo1 true)) [] := by
  refine Fn.code0 Try.func6 rfl rfl rfl rfl ?_
  refine ACode.seq ?_
  refine ACode.region ?_
  refine .cons (St1.boxP rfl rfl rfl rfl rfl rfl) ?_
  refine .cons (.asg rfl rfl) ?_
  refine .nil ?_
  refine ks_n ?_
  refine ACode.seq ?_
  refine ACode.region ?_
  refine .cons (.asg rfl rfl) ?_
  refine .nil ?_
  refine ks_n ?_
  refine ACode.seq ?_
  refine ACode.region ?_
  refine .cons (.lN 9 rfl rfl rfl) ?_
  refine .cons (.mv rfl rfl) ?_
  refine .cons (.cP [.tmp 7, .tmp 8] rfl rfl rfl rfl (szStm_fn ho (by omega)) rfl) ?_
  refine .cons (.asg rfl rfl) ?_
  refine .nil ?_
  refine ks_n ?_
  refine ACode.seq ?_
  refine ACode.seq ?_
  refine ACode.region ?_
  refine .cons (.mv rfl rfl) ?_
  refine .cons (.ls rfl rfl rfl) ?_
  refine .nil ?_
  refine ks_n ?_
  refine .cD rfl (fun h11 => ?_) (fun h11 => ?_)
  · skip
    refine ACode.seq ?_
    refine ACode.region ?_
    refine .cons (.asg rfl rfl) ?_
    refine .nil ?_
    refine ks_n ?_
    refine ACode.ret ?_
    refine ks_r ?_
    refine kf_ret rfl ?_ nobox
    rfl
  · skip
    have hP := subZ_pos h11
    have hs : szS s ≤ 1048576 := by omega
    refine ACode.skip ?_
    refine ks_n ?_
    refine ACode.seq ?_
    refine ACode.region ?_
    refine .cons (.lN 9 rfl rfl rfl) ?_
    refine .cons (.cP [.tmp 12] rfl rfl rfl rfl (toStm_fn (by omega)) rfl) ?_
    refine .cons (.cP [.tmp 13] rfl rfl rfl rfl (specCount_fn s (by omega)) rfl) ?_
    refine .cons (.asg rfl rfl) ?_
    refine .nil ?_
    refine ks_n ?_
    refine ACode.seq ?_
    refine ACode.region ?_
    refine .cons (.lN 9 rfl rfl rfl) ?_
    refine .cons (.cP [.tmp 15] rfl rfl rfl rfl (toStm_fn (by omega)) rfl) ?_
    refine .cons (.al 105 [.string ByteArray.empty, .slice none 0 0, .int .i64 0, .int .i64 0, .slice none 0 0, .int .i64 0, .string ByteArray.empty, .slice none 0 0, .slice none 0 0] rfl rfl rfl) ?_
    refine .cons (.sT 9 true rfl rfl rfl rfl rfl rfl rfl) ?_
    refine .nil ?_
    refine ks_n ?_
    refine ACode.seq ?_
    refine ACode.region ?_
    refine .cons (.bN 9 rfl rfl rfl rfl rfl rfl) ?_
    refine .cons (.cP [.tmp 17] rfl rfl rfl rfl (implCount_fn s (by omega)) rfl) ?_
    refine .cons (.asg rfl rfl) ?_
    refine .nil ?_
    refine ks_n ?_
    refine ACode.seq ?_
    refine ACode.seq ?_
    refine ACode.region ?_
    refine .cons (.mv rfl rfl) ?_
    refine .cons (.mv rfl rfl) ?_
    refine .cons (.ne rfl rfl rfl) ?_
    refine .nil ?_
    refine ks_n ?_
    refine .cND rfl (fun h21 => ?_) (fun h21 => ?_)
    · skip
      exact absurd rfl h21
    · skip
      refine ACode.skip ?_
      refine ks_n ?_
      refine ACode.seq ?_
      refine ACode.seq ?_
      refine ACode.drawK (by kernel_rfl) (by kernel_rfl) ?_
      refine .cons (.bN 9 rfl rfl rfl rfl rfl rfl) ?_
      refine .cons (.lN 9 rfl rfl rfl) ?_
      refine .cons (.cP [.tmp 23] rfl rfl rfl rfl (toStm_fn (by omega)) rfl) ?_
      refine .cons (.cP [.tmp 22, .tmp 24] rfl rfl rfl rfl (eqStm_fn s s (by omega)) rfl) ?_
      refine .cons (.nt rfl rfl) ?_
      refine .nil ⟨by kernel_rfl, ?_⟩
      refine ks_n ?_
      refine ACode.condT rfl (fun h26 => ?_) (fun h26 => ?_)
      · try simp only [List.length_map, decide_eq_true_eq, decide_eq_false_iff_not, Bool.not_eq_true', Bool.not_eq_false', Bool.not_eq_true, Bool.not_eq_false] at h26
        exact absurd (h26.symm.trans (sameS_refl s)) (by decide)
      · try simp only [List.length_map, decide_eq_true_eq, decide_eq_false_iff_not, Bool.not_eq_true', Bool.not_eq_false', Bool.not_eq_true, Bool.not_eq_false] at h26
        refine ACode.skip ?_
        refine ks_n ?_
        refine ACode.seq ?_
        refine ACode.region ?_
        refine .cons (.asg rfl rfl) ?_
        refine .nil ?_
        refine ks_n ?_
        refine ACode.ret ?_
        refine kf_ret rfl ?_ nobox
        rfl

set_option maxRecDepth 100000 in
set_option maxHeartbeats 1600000 in
theorem lawExRed {s : Stm} (ho : okS s) : Fn Try.prog 9 [] [ad (rS s)] (.o (bo1 true)) [] := by
  refine Fn.code0 Try.func9 rfl rfl rfl rfl ?_
  refine ACode.seq ?_
  refine ACode.region ?_
  refine .cons (St1.boxP rfl rfl rfl rfl rfl rfl) ?_
  refine .cons (.asg rfl rfl) ?_
  refine .nil ?_
  refine ks_n ?_
  refine ACode.seq ?_
  refine ACode.region ?_
  refine .cons (.asg rfl rfl) ?_
  refine .nil ?_
  refine ks_n ?_
  refine ACode.seq ?_
  refine ACode.region ?_
  refine .cons (.lN 9 rfl rfl rfl) ?_
  refine .cons (.mv rfl rfl) ?_
  refine .cons (.cP [.tmp 7, .tmp 8] rfl rfl rfl rfl (szStm_fn ho (by omega)) rfl) ?_
  refine .cons (.asg rfl rfl) ?_
  refine .nil ?_
  refine ks_n ?_
  refine ACode.seq ?_
  refine ACode.seq ?_
  refine ACode.region ?_
  refine .cons (.mv rfl rfl) ?_
  refine .cons (.ls rfl rfl rfl) ?_
  refine .nil ?_
  refine ks_n ?_
  refine .cD rfl (fun h11 => ?_) (fun h11 => ?_)
  · skip
    refine ACode.seq ?_
    refine ACode.region ?_
    refine .cons (.asg rfl rfl) ?_
    refine .nil ?_
    refine ks_n ?_
    refine ACode.ret ?_
    refine ks_r ?_
    refine kf_ret rfl ?_ nobox
    rfl
  · skip
    have hP := subZ_pos h11
    have hs : szS s ≤ 1048576 := by omega
    refine ACode.skip ?_
    refine ks_n ?_
    refine ACode.seq ?_
    refine ACode.region ?_
    refine .cons (.lN 9 rfl rfl rfl) ?_
    refine .cons (.cP [.tmp 12] rfl rfl rfl rfl (toStm_fn (by omega)) rfl) ?_
    refine .cons (.cP [.tmp 13] rfl rfl rfl rfl (specRedOf_fn s (by omega)) rfl) ?_
    refine .cons (.asg rfl rfl) ?_
    refine .nil ?_
    refine ks_n ?_
    refine ACode.seq ?_
    refine ACode.region ?_
    refine .cons (.lN 9 rfl rfl rfl) ?_
    refine .cons (.cP [.tmp 15] rfl rfl rfl rfl (toStm_fn (by omega)) rfl) ?_
    refine .cons (.al 105 [.string ByteArray.empty, .slice none 0 0, .int .i64 0, .int .i64 0, .slice none 0 0, .int .i64 0, .string ByteArray.empty, .slice none 0 0, .slice none 0 0] rfl rfl rfl) ?_
    refine .cons (.sT 9 true rfl rfl rfl rfl rfl rfl rfl) ?_
    refine .nil ?_
    refine ks_n ?_
    refine ACode.seq ?_
    refine ACode.region ?_
    refine .cons (.bN 9 rfl rfl rfl rfl rfl rfl) ?_
    refine .cons (.cP [.tmp 17] rfl rfl rfl rfl (implRedOf_fn s (by omega)) rfl) ?_
    refine .cons (.asg rfl rfl) ?_
    refine .nil ?_
    refine ks_n ?_
    refine ACode.seq ?_
    refine ACode.seq ?_
    refine ACode.region ?_
    refine .cons (.mv rfl rfl) ?_
    refine .cons (.mv rfl rfl) ?_
    refine .cons (St1.neqB rfl rfl rfl rfl (by kernel_rfl) rfl rfl) ?_
    refine .nil ?_
    refine ks_n ?_
    refine ACode.condT rfl (fun h21 => ?_) (fun h21 => ?_)
    · try simp only [List.length_map, decide_eq_true_eq, decide_eq_false_iff_not, Bool.not_eq_true', Bool.not_eq_false', Bool.not_eq_true, Bool.not_eq_false] at h21
      simp at h21
    · try simp only [List.length_map, decide_eq_true_eq, decide_eq_false_iff_not, Bool.not_eq_true', Bool.not_eq_false', Bool.not_eq_true, Bool.not_eq_false] at h21
      refine ACode.skip ?_
      refine ks_n ?_
      refine ACode.seq ?_
      refine ACode.seq ?_
      refine ACode.drawK (by kernel_rfl) (by kernel_rfl) ?_
      refine .cons (.bN 9 rfl rfl rfl rfl rfl rfl) ?_
      refine .cons (.lN 9 rfl rfl rfl) ?_
      refine .cons (.cP [.tmp 23] rfl rfl rfl rfl (toStm_fn (by omega)) rfl) ?_
      refine .cons (.cP [.tmp 22, .tmp 24] rfl rfl rfl rfl (eqStm_fn s s (by omega)) rfl) ?_
      refine .cons (.nt rfl rfl) ?_
      refine .nil ⟨by kernel_rfl, ?_⟩
      refine ks_n ?_
      refine ACode.condT rfl (fun h26 => ?_) (fun h26 => ?_)
      · try simp only [List.length_map, decide_eq_true_eq, decide_eq_false_iff_not, Bool.not_eq_true', Bool.not_eq_false', Bool.not_eq_true, Bool.not_eq_false] at h26
        exact absurd (h26.symm.trans (sameS_refl s)) (by decide)
      · try simp only [List.length_map, decide_eq_true_eq, decide_eq_false_iff_not, Bool.not_eq_true', Bool.not_eq_false', Bool.not_eq_true, Bool.not_eq_false] at h26
        refine ACode.skip ?_
        refine ks_n ?_
        refine ACode.seq ?_
        refine ACode.region ?_
        refine .cons (.asg rfl rfl) ?_
        refine .nil ?_
        refine ks_n ?_
        refine ACode.ret ?_
        refine kf_ret rfl ?_ nobox
        rfl

end Go.Proofs.Ytigdfdhjnadieaa
