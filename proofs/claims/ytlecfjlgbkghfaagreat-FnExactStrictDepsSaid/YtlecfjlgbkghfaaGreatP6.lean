/- Part 6 of 6 of the proof: laws on memory and data, then what the functions compute, in the order in which they build on each other; conditions: those that each theorem names. -/
import Derived.Test.YtlecfjlgbkghfaaGreatP5
set_option maxRecDepth 100000
set_option maxHeartbeats 1600000

namespace Go.Proofs.YtlecfjlgbkghfaaGreat
set_option linter.unusedVariables false
set_option linter.unusedSimpArgs false
open Go.RowKit
def hbT (k : Nat) (g : Prg) : St := [(.b k, .b 62 1 [[.ptr (rT g)]]), (.u k, .u)]
def hbD (g : Prg) (l : List Dpn) : St := [(.b 0, .b 51 3 (dR (l.map rD))), (.u 0, .u), (.b 1, .b 62 1 [[.ptr (rT g)]]), (.u 1, .u)]
theorem hbT_HB (k : Nat) (g : Prg) : HB (hbT k g) := HB.nil.cons (by
  intro r hr c hc l hl
  rw [List.mem_singleton.1 hr] at hc
  rw [List.mem_singleton.1 hc] at hl; cases hl)
theorem hbD_HB (g : Prg) (l : List Dpn) : HB (hbD g l) := (hbT_HB 1 g).data
theorem hbT_flat (k : Nat) (g : Prg) : flatS (hbT k g) := flatS.nil.cons rfl
theorem hbD_flat (g : Prg) (l : List Dpn) : flatS (hbD g l) := (hbT_flat 1 g).cons rfl
theorem outS_T {inv : Inv} {k : Nat} {g : Prg} : outS inv (hbT k g) = [(.b (asc inv k), .b 62 1 [[.ptr (rT g)]]), (.u (asc inv k), .u)] := rfl
theorem outS_D {inv : Inv} {g : Prg} {l : List Dpn} : outS inv (hbD g l) = [(.b (asc inv 0), .b 51 3 (dR (l.map rD))), (.u (asc inv 0), .u), (.b (asc inv 1), .b 62 1 [[.ptr (rT g)]]), (.u (asc inv 1), .u)] := by
  show [(Res.b (asc inv 0), RC.b _ 3 (renR (asc inv) (dR (l.map rD)))), (.u (asc inv 0), .u), (.b (asc inv 1), .b _ 1 [[.ptr (rT g)]]), (.u (asc inv 1), .u)] = _
  rw [renR_dR]
theorem hbT_num {g : Prg} {j : Nat} : ∀ k, k < 100 → Al (lk (hbT j g)) k → Al (lk (hbT j g)) k := fun _ _ h => h
theorem hbD_num {g : Prg} {l l' : List Dpn} : ∀ k, k < 100 → Al (lk (hbD g l')) k → Al (lk (hbD g l)) k := fun k _ h => by
  match k, h with
  | 0, _ => exact ⟨_, _, _, rfl⟩
  | 1, _ => exact ⟨_, _, _, rfl⟩
  | k + 2, ⟨e, sz, rows, h⟩ => cases h
theorem hbT_box {σ : St} {k0 : Nat} {g : Prg} (h : lk σ (.b k0) = .b 62 1 [[.ptr (rT g)]]) : ∀ k e sz rows, lk (hbT k0 g) (.b k) = .b e sz rows → lk σ (.b k) = .b e sz rows := one_box h
theorem hbD_box {σ : St} {g : Prg} {l : List Dpn} (h0 : lk σ (.b 0) = .b 51 3 (dR (l.map rD))) (h1 : lk σ (.b 1) = .b 62 1 [[.ptr (rT g)]]) : ∀ k e sz rows, lk (hbD g l) (.b k) = .b e sz rows → lk σ (.b k) = .b e sz rows := fun k e sz rows h => by
  match k, h with
  | 0, h => rw [h0]; exact h
  | 1, h => rw [h1]; exact h
  | k + 2, h => cases h
theorem red_fn {g : Prg} (hs : szG g ≤ 1073741824) (hS : prgS g = true) {n : Nat} {x : Ins} (hx : (insG 0 g.2)[n]? = some x) : ∃ k c q, InsOk g x k c q ∧ szS (stI g x) ≤ 1073741824 ∧ stmtV 4 (stI g x) = true := by
  obtain ⟨k, c, q, h⟩ := ins_at hS (List.mem_of_getElem? hx)
  have := stI_sz h
  exact ⟨k, c, q, h, by omega, stmtV_up h.sv⟩

theorem str1_fn {g : Prg} (hs : szG g ≤ 1073741824) (hS : prgS g = true) {d : Dpn} {i k : Nat} (h1 : d.1 = (i : Int)) (h2 : d.2.1 = (k : Int)) {x y : Ins} (hx : (insG 0 g.2)[i]? = some x) (hy : (insG 0 g.2)[k]? = some y) : Fn Tryz.prog 40 (hbT 0 g) [ad (rD d), .c (.box 0 1 0 0)] (.o (bo1 (redS g d))) (hbT 0 g) := by
 obtain ⟨kx, cx, qx, hIx, zx, vx⟩ := red_fn hs hS hx
 obtain ⟨ky, cy, qy, hIy, zy, vy⟩ := red_fn hs hS hy
 obtain ⟨a, b, c⟩ := d
 simp only at h1 h2
 subst h1 h2
 have hr := redS_eq (c := c) hx hy
 refine Fn.of_code Tryz.func40 rfl rfl (hbT_HB _ _) rfl rfl (hbT_HB _ _) rfl hbT_num ?_
 refine .seq <| .region <| .cons (St1.boxP rfl rfl rfl rfl rfl rfl) <| .cons (.asg rfl rfl) <| .nil <| ks_n <| .seq ?_
 refine ACode.drawK (by kernel_rfl) (by kernel_rfl) ?_
 refine .cons (.b1 1 rfl rfl rfl rfl rfl rfl) <| .cons (.nP rfl rfl) <| .cons (.fP 0 1 true rfl rfl) <| .cons (.lN 2 rfl rfl rfl) <| .cons (.b1 1 rfl rfl rfl rfl rfl rfl) <| .cons (.nP rfl rfl) <| .cons (.fP 2 0 false rfl rfl) <| .cons (.l1 1 rfl rfl) <| .cons (.fP 0 0 false rfl rfl) <| .cons (.l1 1 rfl rfl) <| .cons (.xL 82 3 40 (i := i) rfl rfl rfl rfl rfl (map_at hx)) ?_
 refine .cons (.lN 3 rfl rfl rfl) <| .cons (.cP [.tmp 9, .tmp 17] rfl rfl rfl rfl (stmt_fn hIx) rfl) ?_
 refine .cons (.b1 1 rfl rfl rfl rfl rfl rfl) <| .cons (.nP rfl rfl) <| .cons (.fP 0 1 true rfl rfl) <| .cons (.lN 2 rfl rfl rfl) <| .cons (.b1 1 rfl rfl rfl rfl rfl rfl) <| .cons (.nP rfl rfl) <| .cons (.fP 2 0 false rfl rfl) <| .cons (.l1 1 rfl rfl) <| .cons (.fP 1 0 false rfl rfl) <| .cons (.l1 1 rfl rfl) <| .cons (.xL 82 3 40 (i := k) rfl rfl rfl rfl rfl (map_at hy)) ?_
 refine .cons (.lN 3 rfl rfl rfl) <| .cons (.cP [.tmp 22, .tmp 30] rfl rfl rfl rfl (stmt_fn hIy) rfl) ?_
 refine .cons (.al 104 [.string ByteArray.empty, .slice none 0 0, .int .i64 0, .int .i64 0, .slice none 0 0, .int .i64 0, .string ByteArray.empty, .slice none 0 0, .slice none 0 0] rfl rfl rfl) <| .cons (.al 105 [.string ByteArray.empty, .slice none 0 0, .int .i64 0, .int .i64 0, .slice none 0 0, .int .i64 0, .string ByteArray.empty, .slice none 0 0, .slice none 0 0] rfl rfl rfl) <| .cons (.sT 9 true rfl rfl rfl rfl rfl rfl rfl) <| .cons (.sT 9 true rfl rfl rfl rfl rfl rfl rfl) ?_
 refine .nil ⟨by kernel_rfl, ?_⟩
 refine ks_n <| .seq <| .region <| .cons (.bN 9 rfl rfl rfl rfl rfl rfl) <| .cons (.cP [.tmp 32] rfl rfl rfl rfl (implRed_fn _ (by omega) vx) rfl) ?_
 refine .cons (.mv rfl rfl) ?_
 refine AOps.cases 34 _ rfl (fun g34 => ?_) (fun g34 => ?_)
 ·try simp only [zs1, zs2, zs3, zs4, zs5, zs6, zs7] at g34
  refine .cons (.gT rfl rfl rfl (.bN 9 rfl rfl rfl rfl rfl rfl)) <| .cons (.gT rfl rfl rfl (.cP [.tmp 35] rfl rfl rfl rfl (implRed_fn _ (by omega) vy) rfl)) ?_
  refine .cons (.pT rfl rfl rfl) <| .cons (.mv rfl rfl) ?_
  refine AOps.cases 38 _ rfl (fun g38 => ?_) (fun g38 => ?_)
  ·try simp only [zs1, zs2, zs3, zs4, zs5, zs6, zs7] at g38
   refine .cons (.gT rfl rfl rfl (.fB 0 1 true rfl rfl rfl)) <| .cons (.gT rfl rfl rfl (.fB 0 0 false rfl rfl rfl)) <| .cons (.gT rfl rfl rfl (.b1 1 rfl rfl rfl rfl rfl rfl)) <| .cons (.gT rfl rfl rfl (.fB 0 1 true rfl rfl rfl)) <| .cons (.gT rfl rfl rfl (.fB 0 0 false rfl rfl rfl)) <| .cons (.gT rfl rfl rfl (.b1 1 rfl rfl rfl rfl rfl rfl)) <| .cons (.gT rfl rfl rfl (St1.eqS rfl rfl rfl)) <| .cons (.pT rfl rfl rfl) <| .cons (.asg rfl rfl) <| .nil <| ks_n <| .ret ?_
   refine kf_ret rfl ?_ (hbT_box rfl)
   exact leafB (by rw [hr]; simp_all)
  ·try simp only [zs1, zs2, zs3, zs4, zs5, zs6, zs7] at g38
   refine .cons (.gF rfl rfl rfl) <| .cons (.gF rfl rfl rfl) <| .cons (.gF rfl rfl rfl) <| .cons (.gF rfl rfl rfl) <| .cons (.gF rfl rfl rfl) <| .cons (.gF rfl rfl rfl) <| .cons (.gF rfl rfl rfl) <| .cons (.pF rfl rfl rfl) <| .cons (.asg rfl rfl) <| .nil <| ks_n <| .ret ?_
   refine kf_ret rfl ?_ (hbT_box rfl)
   exact leafB (by rw [hr]; simp_all)
 ·try simp only [zs1, zs2, zs3, zs4, zs5, zs6, zs7] at g34
  refine .cons (.gF rfl rfl rfl) <| .cons (.gF rfl rfl rfl) <| .cons (.pF rfl rfl rfl) <| .cons (.mv rfl rfl) <| .cons (.gF rfl rfl rfl) <| .cons (.gF rfl rfl rfl) <| .cons (.gF rfl rfl rfl) <| .cons (.gF rfl rfl rfl) <| .cons (.gF rfl rfl rfl) <| .cons (.gF rfl rfl rfl) <| .cons (.gF rfl rfl rfl) <| .cons (.pF rfl rfl rfl) <| .cons (.asg rfl rfl) <| .nil <| ks_n <| .ret ?_
  refine kf_ret rfl ?_ (hbT_box rfl)
  exact leafB (by rw [hr]; simp_all)

theorem idxB_fn {f : FuncId} (hc : callable Tryz.prog f = true) {g : Prg} (p : Dpn → Bool) (l : List Dpn) (hl : l.length ≤ 1000000) (hf : ∀ x ∈ l, Fn Tryz.prog f (hbT 0 g) [ad (rD x), .c (.box 0 1 0 0)] (.o (bo1 (p x))) (hbT 0 g)) : Fn Tryz.prog 64 (hbD g l) [.c (.own 0 3 l.length), .c (.fb f 1 1)] (.o (nat1 (idxF p l))) (hbD g l) := by
 refine Fn.of_code Tryz.func64 rfl rfl (hbD_HB _ _) rfl rfl (hbD_HB _ _) rfl hbD_num ?_
 refine .seq <| .region <| .cons (.asg rfl rfl) <| .nil <| ks_n <| .seq <| .seq <| .region <| .cons (.mv rfl rfl) <| .cons (.lB 51 3 24 rfl rfl rfl rfl) <| .cons (.mv rfl rfl) <| .nil <| ks_n <| .block ?_
 refine .loopK (fun m σ => (∃ i : Nat, m = l.length - i ∧ (i ≤ l.length) ∧ (idxF p l = idxG p i (l.drop i)) ∧ σ = [(.t 0, .v (.o (.c (.own 0 3 (l.length))))), (.t 1, .v (.o (.c (.fb f 1 1)))), (.t 7, .v (.o (nat1 (l.length : Nat)))), (.t 8, .v (.o (nat1 (i : Nat)))), (.b 1, .b 62 1 ([[.ptr (rT g)]])), (.u 1, .u), (.b 0, .b 51 3 (dR (l.map rD))), (.u 0, .u)])) [(1, 1), (0, 0)] ⟨0, rfl, by omega, rfl, rfl⟩ ⟨ks rfl (.c .ow), ks rfl (.c (.fb _ _ _ _ (by first | decide | simp))), ks rfl .dt, ks rfl .dt, kb 1 rfl ((.cons (.cons (.ptr _ _ rfl) .nil) .nil)), kb 0 rfl (.dt rfl), trivial⟩ ?_
 rintro m σ ⟨i, hm0, hi, hF, rfl⟩
 refine .seq <| .region <| .cons (.ls rfl rfl rfl) <| .nil <| ks_n <| .seq ?_
 refine .cD rfl (fun h9 => ?_) (fun h9 => ?_)
 ·skip
  obtain ⟨x, hx1⟩ : ∃ x_, l[i]? = some x_ := ⟨_, List.getElem?_eq_getElem (by omega)⟩
  refine .skip <| ks_n <| .seq <| .block <| .seq <| .region <| .cons (.mv rfl rfl) <| .cons (.asg rfl rfl) <| .nil <| ks_n <| .seq <| .region <| .cons (.mv rfl rfl) <| .cons (.mv rfl rfl) <| .cons (.mv rfl rfl) <| .cons (.xB 51 3 24 rfl rfl rfl rfl rfl rfl (by omega)) ?_
  refine .cons (.bN 3 rfl rfl rfl rfl (dR_at (map_at hx1)) rfl) <| .cons (.cX [.tmp 15] [(0, 1)] rfl rfl rfl rfl rfl (hf x (List.mem_of_getElem? hx1)) rfl ⟨rfl, trivial⟩ (hbT_flat _ _) (hbT_flat _ _) (hbT_HB _ _) outS_T (hcall := hc)) ?_
  refine .nil <| ks_n ?_
  refine ACode.condT rfl (fun h16 => ?_) (fun h16 => ?_)
  ·try simp only [zs1, zs2, zs3, zs4, zs5, zs6, zs7] at h16
   refine .seq <| .region <| .cons (.mv rfl rfl) <| .cons (.asg rfl rfl) <| .nil <| ks_n <| .ret <| kb_r <| ks_r <| kl_r <| kb_r <| ks_r ?_
   refine kf_ret rfl ?_ (hbD_box rfl rfl)
   exact leafI (by rw [hF, idxG_drop hx1, h16]; rfl)
  ·try simp only [zs1, zs2, zs3, zs4, zs5, zs6, zs7] at h16
   refine .skip <| kb_n <| ks_n <| .region <| .cons (.pl rfl rfl rfl) <| .cons (.mv rfl rfl) <| .nil ?_
   refine kl_k [(1, 1), (0, 0)] ⟨i + 1, rfl, by omega, by rw [hF, idxG_drop hx1, h16]; rfl, rfl⟩ ⟨ks rfl (.c .ow), ks rfl (.c (.fb _ _ _ _ (by first | decide | simp))), ks rfl .dt, ks rfl .dt, kb 1 rfl ((.cons (.cons (.ptr _ _ rfl) .nil) .nil)), kb 0 rfl (.dt rfl), trivial⟩
 ·skip
  refine .exit <| ks_e <| kl_e <| kb_hit <| ks_n <| .seq <| .region <| .cons (.asg rfl rfl) <| .nil <| ks_n <| .ret ?_
  refine kf_ret rfl ?_ (hbD_box rfl rfl)
  exact leafI (by rw [hF, List.drop_of_length_le (by omega)]; rfl)

theorem idxN_fn {f : FuncId} {g : Prg} : Fn Tryz.prog 64 (hbT 1 g) [.c (.d (.val (.slice none 0 0))), .c (.fb f 1 1)] (.o (nat1 (-1))) (hbT 1 g) := by
  refine Fn.of_code Tryz.func64 rfl rfl (hbT_HB _ _) rfl rfl (hbT_HB _ _) rfl hbT_num ?_
  refine .seq <| .region <| .cons (.asg rfl rfl) <| .nil <| ks_n <| .seq <| .seq <| .region <| .cons (.mv rfl rfl) <| .cons (St1.lenN (e := 51) (m := 3) (by' := 24) rfl rfl rfl rfl rfl (by kernel_rfl) rfl) ?_
  refine .cons (.mv rfl rfl) <| .nil <| ks_n <| .block ?_
  refine .loopK (fun m σ => (∃ i : Nat, m = 0 ∧ (i = 0) ∧ σ = [(.t 0, .v (.o (.c (.d (.val (.slice none 0 0)))))), (.t 1, .v (.o (.c (.fb f 1 1)))), (.t 7, .v (.o (nat1 (0 : Nat)))), (.t 8, .v (.o (nat1 (i : Nat)))), (.b 1, .b 62 1 ([[.ptr (rT g)]])), (.u 1, .u)])) [(1, 1)] ⟨0, rfl, rfl, rfl⟩ ⟨ks rfl .dt, ks rfl (.c (.fb _ _ _ _ (by first | decide | simp))), ks rfl .dt, ks rfl .dt, kb 1 rfl ((.cons (.cons (.ptr _ _ rfl) .nil) .nil)), trivial⟩ ?_
  rintro m σ ⟨i, hm0, rfl, rfl⟩
  refine .seq <| .region <| .cons (.ls rfl rfl rfl) <| .nil <| ks_n <| .seq ?_
  refine .cD rfl (fun h9 => ?_) (fun h9 => ?_)
  · skip
    simp at h9
  · skip
    refine .exit <| ks_e <| kl_e <| kb_hit <| ks_n <| .seq <| .region <| .cons (.asg rfl rfl) <| .nil <| ks_n <| .ret ?_
    refine kf_ret rfl ?_ (hbT_box rfl)
    rfl

theorem idxG_ge {α : Type} {p : α → Bool} : ∀ {l : List α} {i : Nat}, idxG p i l = -1 ∧ (∀ x ∈ l, p x = false) ∨ ∃ j, idxG p i l = ((i + j : Nat) : Int) ∧ j < l.length ∧ (∀ t x, t < j → l[t]? = some x → p x = false) ∧ ∀ x, l[j]? = some x → p x = true
  | [], i => .inl ⟨rfl, fun x h => by cases h⟩
  | x :: l, i => by
    rw [idxG]
    cases h : p x with
    | true => exact .inr ⟨0, by simp, by simp, fun t x ht => absurd ht (by omega), fun y hy => by simp at hy; subst hy; exact h⟩
    | false =>
      rcases idxG_ge (p := p) (l := l) (i := i + 1) with ⟨h1, h2⟩ | ⟨j, h1, h2, h3, h4⟩
      · exact .inl ⟨by simpa using h1, fun y hy => (List.mem_cons.1 hy).elim (fun e => by rw [e]; exact h) (fun hy => h2 y hy)⟩
      · refine .inr ⟨j + 1, by simp only [Bool.false_eq_true, if_false]; rw [h1]; congr 1; omega, by simp; omega, fun t y ht hy => ?_, fun y hy => h4 y (by simpa using hy)⟩
        cases t with
        | zero => simp at hy; subst hy; exact h
        | succ t => exact h3 t y (by omega) (by simpa using hy)
theorem del_all {p : Dpn → Bool} {l : List Dpn} (h : idxF p l = -1) : (l.filter fun d => !p d) = l := by
  rw [List.filter_eq_self]
  rcases idxG_ge (p := p) (l := l) (i := 0) with ⟨_, h2⟩ | ⟨j, h1, _⟩
  · intro x hx; rw [h2 x hx]; rfl
  · rw [idxF, h1] at h; omega
theorem del_some {p : Dpn → Bool} {l : List Dpn} (h : ¬ idxF p l = -1) : ∃ j : Nat, idxF p l = (j : Int) ∧ j < l.length ∧ (∀ t x, t < j → l[t]? = some x → p x = false) ∧ ∀ x, l[j]? = some x → p x = true := by
  rcases idxG_ge (p := p) (l := l) (i := 0) with ⟨h1, _⟩ | ⟨j, h1, h2, h3, h4⟩
  · exact absurd h1 h
  · exact ⟨j, by rw [idxF, h1]; congr 1; omega, h2, h3, h4⟩
def keepN (p : Dpn → Bool) (l : List Dpn) (j : Nat) : List Dpn := (l.take j).filter fun d => !p d
theorem keepN_len {p : Dpn → Bool} {l : List Dpn} {j : Nat} : (keepN p l j).length ≤ j := Nat.le_trans (List.length_filter_le _ _) (by simp; omega)
theorem keepN_next {p : Dpn → Bool} {l : List Dpn} {j : Nat} {x : Dpn} (h : l[j]? = some x) : keepN p l (j + 1) = if p x = true then keepN p l j else keepN p l j ++ [x] := by
  rw [keepN, List.take_add_one, h, List.filter_append]
  cases hp : p x <;> simp [keepN, hp]
theorem keepN_all {p : Dpn → Bool} {l : List Dpn} {j : Nat} (h : ∀ t x, t < j → l[t]? = some x → p x = false) : keepN p l j = l.take j := by
  rw [keepN, List.filter_eq_self]
  intro x hx
  obtain ⟨t, ht⟩ := List.mem_iff_getElem?.1 hx
  rw [List.getElem?_take] at ht
  split at ht
  · rename_i h1; rw [h t x h1 ht]; rfl
  · cases ht
def rowsN (p : Dpn → Bool) (l : List Dpn) (j : Nat) : List Dpn := keepN p l j ++ l.drop (keepN p l j).length
theorem rowsN_len {p : Dpn → Bool} {l : List Dpn} {j : Nat} (h : j ≤ l.length) : (rowsN p l j).length = l.length := by
  have := keepN_len (p := p) (l := l) (j := j)
  rw [rowsN, List.length_append, List.length_drop]; omega
theorem rowsN_at {p : Dpn → Bool} {l : List Dpn} {j : Nat} {x : Dpn} (h : l[j]? = some x) : (rowsN p l j)[j]? = some x := by
  have := keepN_len (p := p) (l := l) (j := j)
  rw [rowsN, List.getElem?_append_right this, List.getElem?_drop, show (keepN p l j).length + (j - (keepN p l j).length) = j by omega, h]
theorem rowsN_skip {p : Dpn → Bool} {l : List Dpn} {j : Nat} {x : Dpn} (h : l[j]? = some x) (hp : p x = true) : rowsN p l (j + 1) = rowsN p l j := by rw [rowsN, keepN_next h, if_pos hp]; rfl
theorem rowsN_set {p : Dpn → Bool} {l : List Dpn} {j : Nat} {x : Dpn} (h : l[j]? = some x) (hp : p x = false) : rowsN p l (j + 1) = (rowsN p l j).set (keepN p l j).length x := by
  have h1 := keepN_len (p := p) (l := l) (j := j)
  have h2 := (List.getElem?_eq_some_iff.1 h).1
  rw [rowsN, keepN_next h, if_neg (by rw [hp]; simp), rowsN, List.set_append_right _ _ (Nat.le_refl _), Nat.sub_self, List.length_append, List.length_singleton, List.append_assoc]
  congr 1
  rw [List.drop_eq_getElem_cons (by omega : (keepN p l j).length < l.length), List.set_cons_zero]; rfl
theorem rowsN_take {p : Dpn → Bool} {l : List Dpn} {j : Nat} : (rowsN p l j).take (keepN p l j).length = keepN p l j := by rw [rowsN, List.take_left]
theorem dR_setD (l : List Dpn) (i : Nat) (x y : Dpn) : (dR (l.map rD)).set i (place1 ((rD x).map C.d) 0 (ad (rD y)).cells) = dR ((l.set i y).map rD) := by
  unfold dR
  rw [List.map_set, List.map_set]
  rfl
theorem dR_takeD (l : List (List D)) (i : Nat) : (dR l).take i = dR (l.take i) := by rw [dR, dR, List.map_take]

theorem del_fn {f : FuncId} (hc : callable Tryz.prog f = true) {g : Prg} (p : Dpn → Bool) (l : List Dpn) (hl : l.length ≤ 1000000) (hf : ∀ x ∈ l, Fn Tryz.prog f (hbT 0 g) [ad (rD x), .c (.box 0 1 0 0)] (.o (bo1 (p x))) (hbT 0 g)) : Fn Tryz.prog 38 (hbD g l) [.c (.own 0 3 l.length), .c (.fb f 1 1)] (.o (.c (.own 0 3 (l.filter fun d => !p d).length))) (hbD g (l.filter fun d => !p d)) := by
 refine Fn.of_code Tryz.func38 rfl rfl (hbD_HB _ _) rfl rfl (hbD_HB _ _) rfl hbD_num ?_
 refine .seq <| .region <| .cons (.asg rfl rfl) <| .nil <| ks_n <| .seq <| .region <| .cons (.mv rfl rfl) <| .cons (.mv rfl rfl) <| .cons (.cO [.tmp 8, .tmp 9] [(0, 0), (1, 1)] rfl rfl rfl rfl (idxB_fn hc p l hl hf) rfl ⟨(by rw [renR_dR]; rfl), rfl, trivial⟩ (hbD_flat _ _) (hbD_flat _ _) (hbD_HB _ _) outS_D) ?_
 refine .cons (.asg rfl rfl) <| .nil <| ks_n <| .seq <| .seq <| .region <| .cons (.mv rfl rfl) <| .cons (.eq rfl rfl rfl) <| .nil <| ks_n ?_
 refine .cD rfl (fun h12 => ?_) (fun h12 => ?_)
 ·skip
  have hall := del_all h12
  refine .seq <| .region <| .cons (.mv rfl rfl) <| .cons (.asg rfl rfl) <| .nil <| ks_n <| .ret <| ks_r ?_
  refine kf_wret [(.t 4, .v (.o (.c (.own 0 3 ((l.filter fun d => !p d).length))))), (.b 1, .b 62 1 ([[.ptr (rT g)]])), (.u 1, .u), (.b 0, .b 51 3 (dR ((l.filter fun d => !p d).map rD))), (.u 0, .u)] (Wk.keep [(1, 1), (0, 0)] rfl rfl ⟨ks rfl (.c (.ow (by first | (rw [hall]; done) | (rw [keepN, List.take_length]; done)))), kb 1 rfl ((.cons (.cons (.ptr _ _ rfl) .nil) .nil)), kb 0 rfl (.dt rfl (by first | (rw [hall]; done) | (rw [dR_takeD, ← List.map_take, rowsN_take, keepN, List.take_length]; done))), trivial⟩) rfl ?_ (hbD_box rfl rfl)
  rfl
 ·skip
  obtain ⟨i0, hi0, hil, hall, hone⟩ := del_some h12
  obtain ⟨x0, hx0⟩ : ∃ x, l[i0]? = some x := ⟨_, List.getElem?_eq_getElem hil⟩
  have hk0 : keepN p l (i0 + 1) = l.take i0 := by rw [keepN_next hx0, if_pos (hone x0 hx0), keepN_all hall]
  have hk0l : (keepN p l (i0 + 1)).length = i0 := by rw [hk0, List.length_take]; omega
  have hr0 : rowsN p l (i0 + 1) = l := by rw [rowsN, hk0l, hk0, List.take_append_drop]
  refine .skip <| ks_n <| .seq <| .seq <| .region <| .cons (.mv rfl rfl) <| .cons (.pl rfl rfl rfl) <| .cons (.asg rfl rfl) <| .nil <| ks_n <| .block ?_
  refine .loopK (fun m σ => (∃ j : Nat, m = l.length - j ∧ (j ≤ l.length) ∧ ((keepN p l j).length < j) ∧ σ = [(.t 0, .v (.o (.c (.own 0 3 (l.length))))), (.t 1, .v (.o (.c (.fb f 1 1)))), (.t 5, .v (.o (nat1 ((keepN p l j).length : Nat)))), (.t 6, .v (.o (nat1 (j : Nat)))), (.b 1, .b 62 1 ([[.ptr (rT g)]])), (.u 1, .u), (.b 0, .b 51 3 (dR ((rowsN p l j).map rD))), (.u 0, .u)])) [(1, 1), (0, 0)] ⟨i0 + 1, rfl, by omega, by omega, rfl⟩ ⟨ks rfl (.c .ow), ks rfl (.c (.fb _ _ _ _ (by first | decide | simp))), ks rfl (.dt (vI (by first | omega | (rw [hi0, hk0l]; done) | (rw [hkn]; done) | (rw [hkn, List.length_append, List.length_singleton]; omega) | (rw [hi0]; omega)))), ks rfl .dt, kb 1 rfl ((.cons (.cons (.ptr _ _ rfl) .nil) .nil)), kb 0 rfl (.dt rfl (by first | rfl | (rw [hr0]; done) | (rw [rowsN_skip hx1 hpx]; done) | (rw [rowsN_set hx1 hpx]; exact dR_setD _ _ _ _))), trivial⟩ ?_
  rintro m σ ⟨j, hm0, hj, hkl, rfl⟩
  refine .seq <| .seq <| .region <| .cons (.mv rfl rfl) <| .cons (.mv rfl rfl) <| .cons (.lB 51 3 24 rfl rfl rfl rfl) <| .cons (.ls rfl rfl rfl) <| .nil <| ks_n ?_
  refine .cD rfl (fun h19 => ?_) (fun h19 => ?_)
  ·skip
   obtain ⟨x, hx1⟩ : ∃ x_, l[j]? = some x_ := ⟨_, List.getElem?_eq_getElem (by omega)⟩
   refine .skip <| ks_n <| .seq <| .block <| .seq <| .region <| .cons (.mv rfl rfl) <| .cons (.mv rfl rfl) <| .cons (.xB 51 3 24 rfl rfl rfl rfl rfl rfl (by omega)) ?_
   refine .cons (.bN 3 rfl rfl rfl rfl (dR_at (map_at (rowsN_at hx1))) rfl) <| .cons (.al 107 [.int .i64 0, .int .i64 0, .int .i64 0] rfl rfl rfl) <| .cons (.sT 3 true rfl rfl rfl rfl rfl rfl rfl) <| .nil <| ks_n <| .seq <| .region <| .cons (.mv rfl rfl) <| .cons (.bN 3 rfl rfl rfl rfl rfl rfl) <| .cons (.cX [.tmp 27] [(0, 1)] rfl rfl rfl rfl rfl (hf x (List.mem_of_getElem? hx1)) rfl ⟨rfl, trivial⟩ (hbT_flat _ _) (hbT_flat _ _) (hbT_HB _ _) outS_T (hcall := hc)) ?_
   refine .cons (.nt rfl rfl) <| .nil <| ks_n ?_
   refine ACode.condT rfl (fun h29 => ?_) (fun h29 => ?_)
   ·try simp only [zs1, zs2, zs3, zs4, zs5, zs6, zs7] at h29
    have hpx : p x = false := by first | assumption | simp_all
    have hkn : keepN p l (j + 1) = keepN p l j ++ [x] := by rw [keepN_next hx1, if_neg (by rw [hpx]; simp)]
    obtain ⟨y, hy1⟩ : ∃ y, (rowsN p l j)[(keepN p l j).length]? = some y := ⟨_, List.getElem?_eq_getElem (by rw [rowsN_len hj]; omega)⟩
    refine .seq <| .region <| .cons (.mv rfl rfl) <| .cons (.mv rfl rfl) <| .cons (.bN 3 rfl rfl rfl rfl rfl rfl) <| .cons (.xB 51 3 24 (i := (keepN p l j).length) rfl rfl rfl rfl rfl rfl (by omega)) ?_
    refine .cons (.sT 3 true rfl rfl rfl rfl (dR_at (map_at hy1)) rfl rfl) <| .nil <| ks_n <| .region <| .cons (.mv rfl rfl) <| .cons (.pl rfl rfl rfl) <| .cons (.asg rfl rfl) <| .nil <| kb_n <| ks_n <| .region <| .cons (.mv rfl rfl) <| .cons (.pl rfl rfl rfl) <| .cons (.asg rfl rfl) <| .nil ?_
    refine kl_k [(1, 1), (0, 0)] ⟨j + 1, rfl, by omega, by rw [hkn]; first | omega | (rw [List.length_append, List.length_singleton]; omega), rfl⟩ ⟨ks rfl (.c .ow), ks rfl (.c (.fb _ _ _ _ (by first | decide | simp))), ks rfl (.dt (vI (by first | omega | (rw [hi0, hk0l]; done) | (rw [hkn]; done) | (rw [hkn, List.length_append, List.length_singleton]; omega) | (rw [hi0]; omega)))), ks rfl .dt, kb 1 rfl ((.cons (.cons (.ptr _ _ rfl) .nil) .nil)), kb 0 rfl (.dt rfl (by first | rfl | (rw [hr0]; done) | (rw [rowsN_skip hx1 hpx]; done) | (rw [rowsN_set hx1 hpx]; exact dR_setD _ _ _ _))), trivial⟩
   ·try simp only [zs1, zs2, zs3, zs4, zs5, zs6, zs7] at h29
    have hpx : p x = true := by first | assumption | simp_all
    have hkn : keepN p l (j + 1) = keepN p l j := by rw [keepN_next hx1, if_pos hpx]
    refine .skip <| kb_n <| ks_n <| .region <| .cons (.mv rfl rfl) <| .cons (.pl rfl rfl rfl) <| .cons (.asg rfl rfl) <| .nil ?_
    refine kl_k [(1, 1), (0, 0)] ⟨j + 1, rfl, by omega, by rw [hkn]; first | omega | (rw [List.length_append, List.length_singleton]; omega), rfl⟩ ⟨ks rfl (.c .ow), ks rfl (.c (.fb _ _ _ _ (by first | decide | simp))), ks rfl (.dt (vI (by first | omega | (rw [hi0, hk0l]; done) | (rw [hkn]; done) | (rw [hkn, List.length_append, List.length_singleton]; omega) | (rw [hi0]; omega)))), ks rfl .dt, kb 1 rfl ((.cons (.cons (.ptr _ _ rfl) .nil) .nil)), kb 0 rfl (.dt rfl (by first | rfl | (rw [hr0]; done) | (rw [rowsN_skip hx1 hpx]; done) | (rw [rowsN_set hx1 hpx]; exact dR_setD _ _ _ _))), trivial⟩
  ·skip
   obtain rfl : j = l.length := by omega
   refine .exit <| ks_e <| kl_e <| kb_hit <| ks_n <| .seq <| .region <| .cons (.mv rfl rfl) <| .cons (.mv rfl rfl) ?_
   refine .clrB (e := 51) (sz := 3) (by' := 24) (i := (keepN p l l.length).length) rfl rfl rfl (by kernel_rfl) rfl rfl (by rw [dR_len, List.length_map, rowsN_len (Nat.le_refl _)]) rfl (by first | rfl | omega) (by omega) ?_
   refine .nil <| ks_n <| .seq <| .region <| .cons (.mv rfl rfl) <| .cons (.mv rfl rfl) <| .cons (St1.sliceToB (e := 51) (sz := 3) (by' := 24) (i := (keepN p l l.length).length) rfl rfl rfl rfl rfl (by first | rfl | omega) (by omega)) ?_
   refine .cons (.asg rfl rfl) <| .nil <| ks_n <| .ret ?_
   refine kf_wret [(.t 4, .v (.o (.c (.own 0 3 ((l.filter fun d => !p d).length))))), (.b 1, .b 62 1 ([[.ptr (rT g)]])), (.u 1, .u), (.b 0, .b 51 3 (dR ((l.filter fun d => !p d).map rD))), (.u 0, .u)] (Wk.keep [(1, 1), (0, 0)] rfl rfl ⟨ks rfl (.c (.ow (by first | (rw [hall]; done) | (rw [keepN, List.take_length]; done)))), kb 1 rfl ((.cons (.cons (.ptr _ _ rfl) .nil) .nil)), kb 0 rfl (.dt rfl (by first | (rw [hall]; done) | (rw [dR_takeD, ← List.map_take, rowsN_take, keepN, List.take_length]; done))), trivial⟩) rfl ?_ (hbD_box rfl rfl)
   rfl
theorem deps_own {g : Prg} (hS : prgS g = true) (hL : (insG 0 g.2).length ≤ 120) (hz : depsG g ≠ []) : Fn Tryz.prog 39 [] [.c (.ptr (rT g))] (.o (.c (.own 100 3 (depsG g).length))) [(.b 100, .b 51 3 (dR ((depsG g).map rD))), (.u 100, .u)] := by
  refine Fn.of_code Tryz.func39 rfl rfl HB.nil rfl rfl HB.nil.data rfl (one_num rfl) ?_
  refine .seq <| .region <| .cons (.asg rfl rfl) <| .nil <| ks_n <| .seq <| .region <| .cons (.asg rfl rfl) <| .nil <| ks_n <| .seq <| .seq <| .region <| .cons (.mv rfl rfl) <| .cons (.nP rfl rfl) <| .cons (.fP 2 0 false rfl rfl) <| .cons (.l1 1 rfl rfl) <| .cons (.ln 82 3 40 rfl rfl rfl) <| .cons (.mv rfl rfl) <| .nil <| ks_n <| .block ?_
  refine .loopK (fun m σ => (∃ i : Nat, m = (insG 0 g.2).length - i ∧ (i ≤ (insG 0 g.2).length) ∧ (depsN g i = []) ∧ σ = [(.t 0, .v (.o (.c (.ptr (rT g))))), (.t 3, .v (.o (.c (.d (.val (.slice none 0 0)))))), (.t 10, .v (.o (vD (dNs (insG 0 g.2))))), (.t 11, .v (.o (nat1 ((insG 0 g.2).length : Nat)))), (.t 12, .v (.o (nat1 (i : Nat))))]) ∨ (∃ (i : Nat) (o : List Dpn), m = (insG 0 g.2).length - i ∧ (i ≤ (insG 0 g.2).length) ∧ (depsN g i = o) ∧ (o.length ≤ 120 * i) ∧ (o ≠ []) ∧ σ = [(.t 0, .v (.o (.c (.ptr (rT g))))), (.t 3, .v (.o (.c (.own 110 3 (o.length))))), (.t 10, .v (.o (vD (dNs (insG 0 g.2))))), (.t 11, .v (.o (nat1 ((insG 0 g.2).length : Nat)))), (.t 12, .v (.o (nat1 (i : Nat)))), (.b 110, .b 51 3 (dR (o.map rD))), (.u 110, .u)])) [] (.inl ⟨0, rfl, by omega, rfl, rfl⟩) ⟨ks rfl .dt, ks rfl .dt, ks rfl .dt, ks rfl .dt, ks rfl .dt, trivial⟩ ?_
  rintro m σ (⟨i, hm0, hi, hE, rfl⟩ | ⟨i, o, hm0, hi, hE, ho, hn1, rfl⟩)
  · skip
    refine .seq <| .region <| .cons (.ls rfl rfl rfl) <| .nil <| ks_n <| .seq ?_
    refine .cD rfl (fun h13 => ?_) (fun h13 => ?_)
    · skip
      obtain ⟨x, hx1⟩ : ∃ x_, (insG 0 g.2)[i]? = some x_ := ⟨_, List.getElem?_eq_getElem (by omega)⟩
      obtain ⟨kx, cx, qx, hIx⟩ := ins_at hS (List.mem_of_getElem? hx1)
      have hlx := usR_len hIx
      refine .skip <| ks_n <| .seq <| .block <| .seq <| .region <| .cons (.mv rfl rfl) <| .cons (.asg rfl rfl) <| .nil <| ks_n <| .seq <| .region <| .cons (.mv rfl rfl) <| .cons (.pl rfl rfl rfl) <| .cons (.asg rfl rfl) <| .nil <| ks_n <| .block ?_
      refine .loopK (fun m σ => (∃ k : Nat, m = (insG 0 g.2).length - k ∧ (i + 1 ≤ k) ∧ (k ≤ (insG 0 g.2).length) ∧ (rowN g i k = []) ∧ σ = [(.t 0, .v (.o (.c (.ptr (rT g))))), (.t 3, .v (.o (.c (.d (.val (.slice none 0 0)))))), (.t 4, .v (.o (nat1 (i : Nat)))), (.t 5, .v (.o (nat1 (k : Nat)))), (.t 10, .v (.o (vD (dNs (insG 0 g.2))))), (.t 11, .v (.o (nat1 ((insG 0 g.2).length : Nat)))), (.t 12, .v (.o (nat1 (i : Nat))))]) ∨ (∃ (k : Nat) (o2 : List Dpn), m = (insG 0 g.2).length - k ∧ (i + 1 ≤ k) ∧ (k ≤ (insG 0 g.2).length) ∧ ([] ++ rowN g i k = o2) ∧ (o2.length ≤ 120 * i + k) ∧ (o2 ≠ []) ∧ σ = [(.t 0, .v (.o (.c (.ptr (rT g))))), (.t 3, .v (.o (.c (.own 120 3 (o2.length))))), (.t 4, .v (.o (nat1 (i : Nat)))), (.t 5, .v (.o (nat1 (k : Nat)))), (.t 10, .v (.o (vD (dNs (insG 0 g.2))))), (.t 11, .v (.o (nat1 ((insG 0 g.2).length : Nat)))), (.t 12, .v (.o (nat1 (i : Nat)))), (.b 120, .b 51 3 (dR (o2.map rD))), (.u 120, .u)])) [] (.inl ⟨i + 1, rfl, by omega, by omega, rowN_zero, rfl⟩) ⟨ks rfl .dt, ks rfl .dt, ks rfl .dt, ks rfl .dt, ks rfl .dt, ks rfl .dt, ks rfl .dt, trivial⟩ ?_
      rintro m σ (⟨k, hm0, hk1, hk, hEi, rfl⟩ | ⟨k, o2, hm0, hk1, hk, hEi, ho2, hn2, rfl⟩)
      · skip
        refine .seq <| .seq <| .region <| .cons (.mv rfl rfl) <| .cons (.mv rfl rfl) <| .cons (.nP rfl rfl) <| .cons (.fP 2 0 false rfl rfl) <| .cons (.l1 1 rfl rfl) <| .cons (.ln 82 3 40 rfl rfl rfl) <| .cons (.ls rfl rfl rfl) <| .nil <| ks_n ?_
        refine .cD rfl (fun h23 => ?_) (fun h23 => ?_)
        · skip
          obtain ⟨y, hy1⟩ : ∃ x_, (insG 0 g.2)[k]? = some x_ := ⟨_, List.getElem?_eq_getElem (by omega)⟩
          obtain ⟨ky, cy, qy, hIy⟩ := ins_at hS (List.mem_of_getElem? hy1)
          have hly := usR_len hIy
          have hkb := kindN_bd (g := g) (i := i) (k := k)
          refine .skip <| ks_n <| .seq <| .block <| .seq <| .region <| .cons (.mv rfl rfl) <| .cons (.mv rfl rfl) <| .cons (.mv rfl rfl) <| .cons (.cP [.tmp 26, .tmp 27, .tmp 28] rfl rfl rfl rfl (between_fn hx1 hy1 hlx hly) rfl) ?_
          refine .cons (.asg rfl rfl) <| .nil <| ks_n <| .seq <| .region <| .cons (.mv rfl rfl) <| .cons (.gt rfl rfl rfl) <| .nil <| ks_n ?_
          refine .cD rfl (fun h31 => ?_) (fun h31 => ?_)
          · skip
            have hkn : kindN g i k ≠ 0 := by omega
            refine .region <| .cons (.mv rfl rfl) <| .cons (.mv rfl rfl) <| .cons (.mv rfl rfl) <| .cons (.mv rfl rfl) <| .cons (.bu [(0, .tmp 33), (1, .tmp 34), (2, .tmp 35)] [(0, 1), (1, 1), (2, 1)] [.int .i64 0, .int .i64 0, .int .i64 0] rfl rfl rfl rfl rfl) <| .cons (.li 51 2 0 [.tmp 36] rfl rfl rfl rfl rfl rfl) <| .cons (St1.appN (k' := 138) (e := 51) (sz := 2) (by' := 24) rfl rfl rfl rfl rfl (by kernel_rfl) rfl rfl rfl (by simp) (by first | (simp [dR]; done) | (simp [dR]; omega)) rfl rfl) ?_
            refine .cons (.asg rfl rfl) <| .nil <| kb_n <| ks_n <| .region <| .cons (.mv rfl rfl) <| .cons (.pl rfl rfl rfl) <| .cons (.asg rfl rfl) <| .nil ?_
            refine kl_k [(120, 138)] (.inr ⟨k + 1, [((i : Int), ((k : Nat) : Int), kindN g i k)], rfl, by omega, by omega, by rw [rowN_yes (by omega) hkn, hEi]; rfl, by simp; omega, by simp, rfl⟩) ⟨ks rfl .dt, ks rfl (.c .ow), ks rfl .dt, ks rfl .dt, ks rfl .dt, ks rfl .dt, ks rfl .dt, kb 138 rfl (.dt rfl (by first | rfl | (simp [dR, rD, dI]; done) | (simp [dR, rD, dI]; rfl))), trivial⟩
          · skip
            have hkz : kindN g i k = 0 := by omega
            refine .skip <| kb_n <| ks_n <| .region <| .cons (.mv rfl rfl) <| .cons (.pl rfl rfl rfl) <| .cons (.asg rfl rfl) <| .nil ?_
            refine kl_k [] (.inl ⟨k + 1, rfl, by omega, by omega, by rw [rowN_no hkz, hEi], rfl⟩) ⟨ks rfl .dt, ks rfl .dt, ks rfl .dt, ks rfl .dt, ks rfl .dt, ks rfl .dt, ks rfl .dt, trivial⟩
        · skip
          obtain rfl : k = (insG 0 g.2).length := by omega
          refine .exit <| ks_e <| kl_e <| kb_hit <| kb_n <| ks_n <| .region <| .cons (.pl rfl rfl rfl) <| .cons (.mv rfl rfl) <| .nil ?_
          refine kl_k [] (.inl ⟨i + 1, rfl, by omega, by rw [depsN_next, hE, hEi]; rfl, rfl⟩) ⟨ks rfl .dt, ks rfl .dt, ks rfl .dt, ks rfl .dt, ks rfl .dt, trivial⟩
      · skip
        refine .seq <| .seq <| .region <| .cons (.mv rfl rfl) <| .cons (.mv rfl rfl) <| .cons (.nP rfl rfl) <| .cons (.fP 2 0 false rfl rfl) <| .cons (.l1 1 rfl rfl) <| .cons (.ln 82 3 40 rfl rfl rfl) <| .cons (.ls rfl rfl rfl) <| .nil <| ks_n ?_
        refine .cD rfl (fun h23 => ?_) (fun h23 => ?_)
        · skip
          obtain ⟨y, hy1⟩ : ∃ x_, (insG 0 g.2)[k]? = some x_ := ⟨_, List.getElem?_eq_getElem (by omega)⟩
          obtain ⟨ky, cy, qy, hIy⟩ := ins_at hS (List.mem_of_getElem? hy1)
          have hly := usR_len hIy
          have hkb := kindN_bd (g := g) (i := i) (k := k)
          refine .skip <| ks_n <| .seq <| .block <| .seq <| .region <| .cons (.mv rfl rfl) <| .cons (.mv rfl rfl) <| .cons (.mv rfl rfl) <| .cons (.cP [.tmp 26, .tmp 27, .tmp 28] rfl rfl rfl rfl (between_fn hx1 hy1 hlx hly) rfl) ?_
          refine .cons (.asg rfl rfl) <| .nil <| ks_n <| .seq <| .region <| .cons (.mv rfl rfl) <| .cons (.gt rfl rfl rfl) <| .nil <| ks_n ?_
          refine .cD rfl (fun h31 => ?_) (fun h31 => ?_)
          · skip
            have hkn : kindN g i k ≠ 0 := by omega
            refine .region <| .cons (.mv rfl rfl) <| .cons (.mv rfl rfl) <| .cons (.mv rfl rfl) <| .cons (.mv rfl rfl) <| .cons (.bu [(0, .tmp 33), (1, .tmp 34), (2, .tmp 35)] [(0, 1), (1, 1), (2, 1)] [.int .i64 0, .int .i64 0, .int .i64 0] rfl rfl rfl rfl rfl) <| .cons (.li 51 2 0 [.tmp 36] rfl rfl rfl rfl rfl rfl) <| .cons (St1.appB (k' := 138) (e := 51) (sz := 2) (by' := 24) rfl rfl rfl rfl rfl (by kernel_rfl) rfl rfl rfl rfl (by first | (simp [dR]; done) | (simp [dR]; omega)) (by first | (simp [dR]; done) | (simp [dR]; omega)) rfl rfl rfl) ?_
            refine .cons (.asg rfl rfl) <| .nil <| kb_n <| ks_n <| .region <| .cons (.mv rfl rfl) <| .cons (.pl rfl rfl rfl) <| .cons (.asg rfl rfl) <| .nil ?_
            refine kl_k [(120, 138)] (.inr ⟨k + 1, o2 ++ [((i : Int), ((k : Nat) : Int), kindN g i k)], rfl, by omega, by omega, by rw [rowN_yes (by omega) hkn, ← List.append_assoc, hEi], by rw [List.length_append, List.length_singleton]; omega, by simp, rfl⟩) ⟨ks rfl .dt, ks rfl (.c .ow), ks rfl .dt, ks rfl .dt, ks rfl .dt, ks rfl .dt, ks rfl .dt, kb 138 rfl (.dt rfl (by first | rfl | (simp [dR, rD, dI]; done) | (simp [dR, rD, dI]; rfl))), trivial⟩
          · skip
            have hkz : kindN g i k = 0 := by omega
            refine .skip <| kb_n <| ks_n <| .region <| .cons (.mv rfl rfl) <| .cons (.pl rfl rfl rfl) <| .cons (.asg rfl rfl) <| .nil ?_
            refine kl_k [(120, 120)] (.inr ⟨k + 1, o2, rfl, by omega, by omega, by rw [rowN_no hkz, hEi], by omega, hn2, rfl⟩) ⟨ks rfl .dt, ks rfl (.c .ow), ks rfl .dt, ks rfl .dt, ks rfl .dt, ks rfl .dt, ks rfl .dt, kb 120 rfl (.dt rfl (by first | rfl | (simp [dR, rD, dI]; done) | (simp [dR, rD, dI]; rfl))), trivial⟩
        · skip
          obtain rfl : k = (insG 0 g.2).length := by omega
          refine .exit <| ks_e <| kl_e <| kb_hit <| kb_n <| ks_n <| .region <| .cons (.pl rfl rfl rfl) <| .cons (.mv rfl rfl) <| .nil ?_
          refine kl_k [(110, 120)] (.inr ⟨i + 1, o2, rfl, by omega, by rw [depsN_next, hE]; exact hEi, by omega, hn2, rfl⟩) ⟨ks rfl .dt, ks rfl (.c .ow), ks rfl .dt, ks rfl .dt, ks rfl .dt, kb 120 rfl (.dt rfl (by first | rfl | (simp [dR, rD, dI]; done) | (simp [dR, rD, dI]; rfl))), trivial⟩
    · skip
      exact absurd (by rw [depsG, ← show i = (insG 0 g.2).length by omega]; exact hE) hz
  · skip
    refine .seq <| .region <| .cons (.ls rfl rfl rfl) <| .nil <| ks_n <| .seq ?_
    refine .cD rfl (fun h13 => ?_) (fun h13 => ?_)
    · skip
      obtain ⟨x, hx1⟩ : ∃ x_, (insG 0 g.2)[i]? = some x_ := ⟨_, List.getElem?_eq_getElem (by omega)⟩
      obtain ⟨kx, cx, qx, hIx⟩ := ins_at hS (List.mem_of_getElem? hx1)
      have hlx := usR_len hIx
      refine .skip <| ks_n <| .seq <| .block <| .seq <| .region <| .cons (.mv rfl rfl) <| .cons (.asg rfl rfl) <| .nil <| ks_n <| .seq <| .region <| .cons (.mv rfl rfl) <| .cons (.pl rfl rfl rfl) <| .cons (.asg rfl rfl) <| .nil <| ks_n <| .block ?_
      refine .loopK (fun m σ => (∃ (k : Nat) (o2 : List Dpn), m = (insG 0 g.2).length - k ∧ (i + 1 ≤ k) ∧ (k ≤ (insG 0 g.2).length) ∧ (o ++ rowN g i k = o2) ∧ (o2.length ≤ 120 * i + k) ∧ (o2 ≠ []) ∧ σ = [(.t 0, .v (.o (.c (.ptr (rT g))))), (.t 3, .v (.o (.c (.own 120 3 (o2.length))))), (.t 4, .v (.o (nat1 (i : Nat)))), (.t 5, .v (.o (nat1 (k : Nat)))), (.t 10, .v (.o (vD (dNs (insG 0 g.2))))), (.t 11, .v (.o (nat1 ((insG 0 g.2).length : Nat)))), (.t 12, .v (.o (nat1 (i : Nat)))), (.b 120, .b 51 3 (dR (o2.map rD))), (.u 120, .u)])) [(120, 110)] ⟨i + 1, o, rfl, by omega, by omega, by rw [rowN_zero, List.append_nil], by omega, hn1, rfl⟩ ⟨ks rfl .dt, ks rfl (.c .ow), ks rfl .dt, ks rfl .dt, ks rfl .dt, ks rfl .dt, ks rfl .dt, kb 110 rfl (.dt rfl (by first | rfl | (simp [dR, rD, dI]; done) | (simp [dR, rD, dI]; rfl))), trivial⟩ ?_
      rintro m σ ⟨k, o2, hm0, hk1, hk, hEi, ho2, hn2, rfl⟩
      refine .seq <| .seq <| .region <| .cons (.mv rfl rfl) <| .cons (.mv rfl rfl) <| .cons (.nP rfl rfl) <| .cons (.fP 2 0 false rfl rfl) <| .cons (.l1 1 rfl rfl) <| .cons (.ln 82 3 40 rfl rfl rfl) <| .cons (.ls rfl rfl rfl) <| .nil <| ks_n ?_
      refine .cD rfl (fun h23 => ?_) (fun h23 => ?_)
      · skip
        obtain ⟨y, hy1⟩ : ∃ x_, (insG 0 g.2)[k]? = some x_ := ⟨_, List.getElem?_eq_getElem (by omega)⟩
        obtain ⟨ky, cy, qy, hIy⟩ := ins_at hS (List.mem_of_getElem? hy1)
        have hly := usR_len hIy
        have hkb := kindN_bd (g := g) (i := i) (k := k)
        refine .skip <| ks_n <| .seq <| .block <| .seq <| .region <| .cons (.mv rfl rfl) <| .cons (.mv rfl rfl) <| .cons (.mv rfl rfl) <| .cons (.cP [.tmp 26, .tmp 27, .tmp 28] rfl rfl rfl rfl (between_fn hx1 hy1 hlx hly) rfl) ?_
        refine .cons (.asg rfl rfl) <| .nil <| ks_n <| .seq <| .region <| .cons (.mv rfl rfl) <| .cons (.gt rfl rfl rfl) <| .nil <| ks_n ?_
        refine .cD rfl (fun h31 => ?_) (fun h31 => ?_)
        · skip
          have hkn : kindN g i k ≠ 0 := by omega
          refine .region <| .cons (.mv rfl rfl) <| .cons (.mv rfl rfl) <| .cons (.mv rfl rfl) <| .cons (.mv rfl rfl) <| .cons (.bu [(0, .tmp 33), (1, .tmp 34), (2, .tmp 35)] [(0, 1), (1, 1), (2, 1)] [.int .i64 0, .int .i64 0, .int .i64 0] rfl rfl rfl rfl rfl) <| .cons (.li 51 2 0 [.tmp 36] rfl rfl rfl rfl rfl rfl) <| .cons (St1.appB (k' := 138) (e := 51) (sz := 2) (by' := 24) rfl rfl rfl rfl rfl (by kernel_rfl) rfl rfl rfl rfl (by first | (simp [dR]; done) | (simp [dR]; omega)) (by first | (simp [dR]; done) | (simp [dR]; omega)) rfl rfl rfl) ?_
          refine .cons (.asg rfl rfl) <| .nil <| kb_n <| ks_n <| .region <| .cons (.mv rfl rfl) <| .cons (.pl rfl rfl rfl) <| .cons (.asg rfl rfl) <| .nil ?_
          refine kl_k [(120, 138)] ⟨k + 1, o2 ++ [((i : Int), ((k : Nat) : Int), kindN g i k)], rfl, by omega, by omega, by rw [rowN_yes (by omega) hkn, ← List.append_assoc, hEi], by rw [List.length_append, List.length_singleton]; omega, by simp, rfl⟩ ⟨ks rfl .dt, ks rfl (.c .ow), ks rfl .dt, ks rfl .dt, ks rfl .dt, ks rfl .dt, ks rfl .dt, kb 138 rfl (.dt rfl (by first | rfl | (simp [dR, rD, dI]; done) | (simp [dR, rD, dI]; rfl))), trivial⟩
        · skip
          have hkz : kindN g i k = 0 := by omega
          refine .skip <| kb_n <| ks_n <| .region <| .cons (.mv rfl rfl) <| .cons (.pl rfl rfl rfl) <| .cons (.asg rfl rfl) <| .nil ?_
          refine kl_k [(120, 120)] ⟨k + 1, o2, rfl, by omega, by omega, by rw [rowN_no hkz, hEi], by omega, hn2, rfl⟩ ⟨ks rfl .dt, ks rfl (.c .ow), ks rfl .dt, ks rfl .dt, ks rfl .dt, ks rfl .dt, ks rfl .dt, kb 120 rfl (.dt rfl (by first | rfl | (simp [dR, rD, dI]; done) | (simp [dR, rD, dI]; rfl))), trivial⟩
      · skip
        obtain rfl : k = (insG 0 g.2).length := by omega
        refine .exit <| ks_e <| kl_e <| kb_hit <| kb_n <| ks_n <| .region <| .cons (.pl rfl rfl rfl) <| .cons (.mv rfl rfl) <| .nil ?_
        refine kl_k [(110, 120)] (.inr ⟨i + 1, o2, rfl, by omega, by rw [depsN_next, hE]; exact hEi, by omega, hn2, rfl⟩) ⟨ks rfl .dt, ks rfl (.c .ow), ks rfl .dt, ks rfl .dt, ks rfl .dt, kb 120 rfl (.dt rfl (by first | rfl | (simp [dR, rD, dI]; done) | (simp [dR, rD, dI]; rfl))), trivial⟩
    · skip
      obtain rfl : i = (insG 0 g.2).length := by omega
      refine .exit <| ks_e <| kl_e <| kb_hit <| ks_n <| .seq <| .region <| .cons (.mv rfl rfl) <| .cons (.asg rfl rfl) <| .nil <| ks_n <| .ret ?_
      refine kf_wret [(.t 2, .v (.o (.c (.own 100 3 ((depsG g).length))))), (.b 100, .b 51 3 (dR ((depsG g).map rD))), (.u 100, .u)] (Wk.keep [(100, 110)] rfl rfl ⟨ks rfl (.c (.ow (by rw [depsG, hE]))), kb 110 rfl (.dt rfl (by rw [depsG, hE])), trivial⟩) rfl ?_ (one_box rfl)
      rfl

theorem deps_nil {g : Prg} (hS : prgS g = true) (hL : (insG 0 g.2).length ≤ 120) (hz : depsG g = []) : Fn Tryz.prog 39 [] [.c (.ptr (rT g))] (.o (.c (.d (.val (.slice none 0 0))))) [] := by
  refine Fn.code0 Tryz.func39 rfl rfl rfl rfl ?_
  refine .seq <| .region <| .cons (.asg rfl rfl) <| .nil <| ks_n <| .seq <| .region <| .cons (.asg rfl rfl) <| .nil <| ks_n <| .seq <| .seq <| .region <| .cons (.mv rfl rfl) <| .cons (.nP rfl rfl) <| .cons (.fP 2 0 false rfl rfl) <| .cons (.l1 1 rfl rfl) <| .cons (.ln 82 3 40 rfl rfl rfl) <| .cons (.mv rfl rfl) <| .nil <| ks_n <| .block ?_
  refine .loopK (fun m σ => (∃ i : Nat, m = (insG 0 g.2).length - i ∧ (i ≤ (insG 0 g.2).length) ∧ (depsN g i = []) ∧ σ = [(.t 0, .v (.o (.c (.ptr (rT g))))), (.t 3, .v (.o (.c (.d (.val (.slice none 0 0)))))), (.t 10, .v (.o (vD (dNs (insG 0 g.2))))), (.t 11, .v (.o (nat1 ((insG 0 g.2).length : Nat)))), (.t 12, .v (.o (nat1 (i : Nat))))]) ∨ (∃ (i : Nat) (o : List Dpn), m = (insG 0 g.2).length - i ∧ (i ≤ (insG 0 g.2).length) ∧ (depsN g i = o) ∧ (o.length ≤ 120 * i) ∧ (o ≠ []) ∧ σ = [(.t 0, .v (.o (.c (.ptr (rT g))))), (.t 3, .v (.o (.c (.own 110 3 (o.length))))), (.t 10, .v (.o (vD (dNs (insG 0 g.2))))), (.t 11, .v (.o (nat1 ((insG 0 g.2).length : Nat)))), (.t 12, .v (.o (nat1 (i : Nat)))), (.b 110, .b 51 3 (dR (o.map rD))), (.u 110, .u)])) [] (.inl ⟨0, rfl, by omega, rfl, rfl⟩) ⟨ks rfl .dt, ks rfl .dt, ks rfl .dt, ks rfl .dt, ks rfl .dt, trivial⟩ ?_
  rintro m σ (⟨i, hm0, hi, hE, rfl⟩ | ⟨i, o, hm0, hi, hE, ho, hn1, rfl⟩)
  · skip
    refine .seq <| .region <| .cons (.ls rfl rfl rfl) <| .nil <| ks_n <| .seq ?_
    refine .cD rfl (fun h13 => ?_) (fun h13 => ?_)
    · skip
      obtain ⟨x, hx1⟩ : ∃ x_, (insG 0 g.2)[i]? = some x_ := ⟨_, List.getElem?_eq_getElem (by omega)⟩
      obtain ⟨kx, cx, qx, hIx⟩ := ins_at hS (List.mem_of_getElem? hx1)
      have hlx := usR_len hIx
      refine .skip <| ks_n <| .seq <| .block <| .seq <| .region <| .cons (.mv rfl rfl) <| .cons (.asg rfl rfl) <| .nil <| ks_n <| .seq <| .region <| .cons (.mv rfl rfl) <| .cons (.pl rfl rfl rfl) <| .cons (.asg rfl rfl) <| .nil <| ks_n <| .block ?_
      refine .loopK (fun m σ => (∃ k : Nat, m = (insG 0 g.2).length - k ∧ (i + 1 ≤ k) ∧ (k ≤ (insG 0 g.2).length) ∧ (rowN g i k = []) ∧ σ = [(.t 0, .v (.o (.c (.ptr (rT g))))), (.t 3, .v (.o (.c (.d (.val (.slice none 0 0)))))), (.t 4, .v (.o (nat1 (i : Nat)))), (.t 5, .v (.o (nat1 (k : Nat)))), (.t 10, .v (.o (vD (dNs (insG 0 g.2))))), (.t 11, .v (.o (nat1 ((insG 0 g.2).length : Nat)))), (.t 12, .v (.o (nat1 (i : Nat))))]) ∨ (∃ (k : Nat) (o2 : List Dpn), m = (insG 0 g.2).length - k ∧ (i + 1 ≤ k) ∧ (k ≤ (insG 0 g.2).length) ∧ ([] ++ rowN g i k = o2) ∧ (o2.length ≤ 120 * i + k) ∧ (o2 ≠ []) ∧ σ = [(.t 0, .v (.o (.c (.ptr (rT g))))), (.t 3, .v (.o (.c (.own 120 3 (o2.length))))), (.t 4, .v (.o (nat1 (i : Nat)))), (.t 5, .v (.o (nat1 (k : Nat)))), (.t 10, .v (.o (vD (dNs (insG 0 g.2))))), (.t 11, .v (.o (nat1 ((insG 0 g.2).length : Nat)))), (.t 12, .v (.o (nat1 (i : Nat)))), (.b 120, .b 51 3 (dR (o2.map rD))), (.u 120, .u)])) [] (.inl ⟨i + 1, rfl, by omega, by omega, rowN_zero, rfl⟩) ⟨ks rfl .dt, ks rfl .dt, ks rfl .dt, ks rfl .dt, ks rfl .dt, ks rfl .dt, ks rfl .dt, trivial⟩ ?_
      rintro m σ (⟨k, hm0, hk1, hk, hEi, rfl⟩ | ⟨k, o2, hm0, hk1, hk, hEi, ho2, hn2, rfl⟩)
      · skip
        refine .seq <| .seq <| .region <| .cons (.mv rfl rfl) <| .cons (.mv rfl rfl) <| .cons (.nP rfl rfl) <| .cons (.fP 2 0 false rfl rfl) <| .cons (.l1 1 rfl rfl) <| .cons (.ln 82 3 40 rfl rfl rfl) <| .cons (.ls rfl rfl rfl) <| .nil <| ks_n ?_
        refine .cD rfl (fun h23 => ?_) (fun h23 => ?_)
        · skip
          obtain ⟨y, hy1⟩ : ∃ x_, (insG 0 g.2)[k]? = some x_ := ⟨_, List.getElem?_eq_getElem (by omega)⟩
          obtain ⟨ky, cy, qy, hIy⟩ := ins_at hS (List.mem_of_getElem? hy1)
          have hly := usR_len hIy
          have hkb := kindN_bd (g := g) (i := i) (k := k)
          refine .skip <| ks_n <| .seq <| .block <| .seq <| .region <| .cons (.mv rfl rfl) <| .cons (.mv rfl rfl) <| .cons (.mv rfl rfl) <| .cons (.cP [.tmp 26, .tmp 27, .tmp 28] rfl rfl rfl rfl (between_fn hx1 hy1 hlx hly) rfl) ?_
          refine .cons (.asg rfl rfl) <| .nil <| ks_n <| .seq <| .region <| .cons (.mv rfl rfl) <| .cons (.gt rfl rfl rfl) <| .nil <| ks_n ?_
          refine .cD rfl (fun h31 => ?_) (fun h31 => ?_)
          · skip
            have hkn : kindN g i k ≠ 0 := by omega
            refine .region <| .cons (.mv rfl rfl) <| .cons (.mv rfl rfl) <| .cons (.mv rfl rfl) <| .cons (.mv rfl rfl) <| .cons (.bu [(0, .tmp 33), (1, .tmp 34), (2, .tmp 35)] [(0, 1), (1, 1), (2, 1)] [.int .i64 0, .int .i64 0, .int .i64 0] rfl rfl rfl rfl rfl) <| .cons (.li 51 2 0 [.tmp 36] rfl rfl rfl rfl rfl rfl) <| .cons (St1.appN (k' := 138) (e := 51) (sz := 2) (by' := 24) rfl rfl rfl rfl rfl (by kernel_rfl) rfl rfl rfl (by simp) (by first | (simp [dR]; done) | (simp [dR]; omega)) rfl rfl) ?_
            refine .cons (.asg rfl rfl) <| .nil <| kb_n <| ks_n <| .region <| .cons (.mv rfl rfl) <| .cons (.pl rfl rfl rfl) <| .cons (.asg rfl rfl) <| .nil ?_
            refine kl_k [(120, 138)] (.inr ⟨k + 1, [((i : Int), ((k : Nat) : Int), kindN g i k)], rfl, by omega, by omega, by rw [rowN_yes (by omega) hkn, hEi]; rfl, by simp; omega, by simp, rfl⟩) ⟨ks rfl .dt, ks rfl (.c .ow), ks rfl .dt, ks rfl .dt, ks rfl .dt, ks rfl .dt, ks rfl .dt, kb 138 rfl (.dt rfl (by first | rfl | (simp [dR, rD, dI]; done) | (simp [dR, rD, dI]; rfl))), trivial⟩
          · skip
            have hkz : kindN g i k = 0 := by omega
            refine .skip <| kb_n <| ks_n <| .region <| .cons (.mv rfl rfl) <| .cons (.pl rfl rfl rfl) <| .cons (.asg rfl rfl) <| .nil ?_
            refine kl_k [] (.inl ⟨k + 1, rfl, by omega, by omega, by rw [rowN_no hkz, hEi], rfl⟩) ⟨ks rfl .dt, ks rfl .dt, ks rfl .dt, ks rfl .dt, ks rfl .dt, ks rfl .dt, ks rfl .dt, trivial⟩
        · skip
          obtain rfl : k = (insG 0 g.2).length := by omega
          refine .exit <| ks_e <| kl_e <| kb_hit <| kb_n <| ks_n <| .region <| .cons (.pl rfl rfl rfl) <| .cons (.mv rfl rfl) <| .nil ?_
          refine kl_k [] (.inl ⟨i + 1, rfl, by omega, by rw [depsN_next, hE, hEi]; rfl, rfl⟩) ⟨ks rfl .dt, ks rfl .dt, ks rfl .dt, ks rfl .dt, ks rfl .dt, trivial⟩
      · skip
        refine .seq <| .seq <| .region <| .cons (.mv rfl rfl) <| .cons (.mv rfl rfl) <| .cons (.nP rfl rfl) <| .cons (.fP 2 0 false rfl rfl) <| .cons (.l1 1 rfl rfl) <| .cons (.ln 82 3 40 rfl rfl rfl) <| .cons (.ls rfl rfl rfl) <| .nil <| ks_n ?_
        refine .cD rfl (fun h23 => ?_) (fun h23 => ?_)
        · skip
          obtain ⟨y, hy1⟩ : ∃ x_, (insG 0 g.2)[k]? = some x_ := ⟨_, List.getElem?_eq_getElem (by omega)⟩
          obtain ⟨ky, cy, qy, hIy⟩ := ins_at hS (List.mem_of_getElem? hy1)
          have hly := usR_len hIy
          have hkb := kindN_bd (g := g) (i := i) (k := k)
          refine .skip <| ks_n <| .seq <| .block <| .seq <| .region <| .cons (.mv rfl rfl) <| .cons (.mv rfl rfl) <| .cons (.mv rfl rfl) <| .cons (.cP [.tmp 26, .tmp 27, .tmp 28] rfl rfl rfl rfl (between_fn hx1 hy1 hlx hly) rfl) ?_
          refine .cons (.asg rfl rfl) <| .nil <| ks_n <| .seq <| .region <| .cons (.mv rfl rfl) <| .cons (.gt rfl rfl rfl) <| .nil <| ks_n ?_
          refine .cD rfl (fun h31 => ?_) (fun h31 => ?_)
          · skip
            have hkn : kindN g i k ≠ 0 := by omega
            refine .region <| .cons (.mv rfl rfl) <| .cons (.mv rfl rfl) <| .cons (.mv rfl rfl) <| .cons (.mv rfl rfl) <| .cons (.bu [(0, .tmp 33), (1, .tmp 34), (2, .tmp 35)] [(0, 1), (1, 1), (2, 1)] [.int .i64 0, .int .i64 0, .int .i64 0] rfl rfl rfl rfl rfl) <| .cons (.li 51 2 0 [.tmp 36] rfl rfl rfl rfl rfl rfl) <| .cons (St1.appB (k' := 138) (e := 51) (sz := 2) (by' := 24) rfl rfl rfl rfl rfl (by kernel_rfl) rfl rfl rfl rfl (by first | (simp [dR]; done) | (simp [dR]; omega)) (by first | (simp [dR]; done) | (simp [dR]; omega)) rfl rfl rfl) ?_
            refine .cons (.asg rfl rfl) <| .nil <| kb_n <| ks_n <| .region <| .cons (.mv rfl rfl) <| .cons (.pl rfl rfl rfl) <| .cons (.asg rfl rfl) <| .nil ?_
            refine kl_k [(120, 138)] (.inr ⟨k + 1, o2 ++ [((i : Int), ((k : Nat) : Int), kindN g i k)], rfl, by omega, by omega, by rw [rowN_yes (by omega) hkn, ← List.append_assoc, hEi], by rw [List.length_append, List.length_singleton]; omega, by simp, rfl⟩) ⟨ks rfl .dt, ks rfl (.c .ow), ks rfl .dt, ks rfl .dt, ks rfl .dt, ks rfl .dt, ks rfl .dt, kb 138 rfl (.dt rfl (by first | rfl | (simp [dR, rD, dI]; done) | (simp [dR, rD, dI]; rfl))), trivial⟩
          · skip
            have hkz : kindN g i k = 0 := by omega
            refine .skip <| kb_n <| ks_n <| .region <| .cons (.mv rfl rfl) <| .cons (.pl rfl rfl rfl) <| .cons (.asg rfl rfl) <| .nil ?_
            refine kl_k [(120, 120)] (.inr ⟨k + 1, o2, rfl, by omega, by omega, by rw [rowN_no hkz, hEi], by omega, hn2, rfl⟩) ⟨ks rfl .dt, ks rfl (.c .ow), ks rfl .dt, ks rfl .dt, ks rfl .dt, ks rfl .dt, ks rfl .dt, kb 120 rfl (.dt rfl (by first | rfl | (simp [dR, rD, dI]; done) | (simp [dR, rD, dI]; rfl))), trivial⟩
        · skip
          obtain rfl : k = (insG 0 g.2).length := by omega
          refine .exit <| ks_e <| kl_e <| kb_hit <| kb_n <| ks_n <| .region <| .cons (.pl rfl rfl rfl) <| .cons (.mv rfl rfl) <| .nil ?_
          refine kl_k [(110, 120)] (.inr ⟨i + 1, o2, rfl, by omega, by rw [depsN_next, hE]; exact hEi, by omega, hn2, rfl⟩) ⟨ks rfl .dt, ks rfl (.c .ow), ks rfl .dt, ks rfl .dt, ks rfl .dt, kb 120 rfl (.dt rfl (by first | rfl | (simp [dR, rD, dI]; done) | (simp [dR, rD, dI]; rfl))), trivial⟩
    · skip
      obtain rfl : i = (insG 0 g.2).length := by omega
      refine .exit <| ks_e <| kl_e <| kb_hit <| ks_n <| .seq <| .region <| .cons (.mv rfl rfl) <| .cons (.asg rfl rfl) <| .nil <| ks_n <| .ret ?_
      refine kf_ret rfl ?_ nobox
      rfl
  · skip
    refine .seq <| .region <| .cons (.ls rfl rfl rfl) <| .nil <| ks_n <| .seq ?_
    refine .cD rfl (fun h13 => ?_) (fun h13 => ?_)
    · skip
      obtain ⟨x, hx1⟩ : ∃ x_, (insG 0 g.2)[i]? = some x_ := ⟨_, List.getElem?_eq_getElem (by omega)⟩
      obtain ⟨kx, cx, qx, hIx⟩ := ins_at hS (List.mem_of_getElem? hx1)
      have hlx := usR_len hIx
      refine .skip <| ks_n <| .seq <| .block <| .seq <| .region <| .cons (.mv rfl rfl) <| .cons (.asg rfl rfl) <| .nil <| ks_n <| .seq <| .region <| .cons (.mv rfl rfl) <| .cons (.pl rfl rfl rfl) <| .cons (.asg rfl rfl) <| .nil <| ks_n <| .block ?_
      refine .loopK (fun m σ => (∃ (k : Nat) (o2 : List Dpn), m = (insG 0 g.2).length - k ∧ (i + 1 ≤ k) ∧ (k ≤ (insG 0 g.2).length) ∧ (o ++ rowN g i k = o2) ∧ (o2.length ≤ 120 * i + k) ∧ (o2 ≠ []) ∧ σ = [(.t 0, .v (.o (.c (.ptr (rT g))))), (.t 3, .v (.o (.c (.own 120 3 (o2.length))))), (.t 4, .v (.o (nat1 (i : Nat)))), (.t 5, .v (.o (nat1 (k : Nat)))), (.t 10, .v (.o (vD (dNs (insG 0 g.2))))), (.t 11, .v (.o (nat1 ((insG 0 g.2).length : Nat)))), (.t 12, .v (.o (nat1 (i : Nat)))), (.b 120, .b 51 3 (dR (o2.map rD))), (.u 120, .u)])) [(120, 110)] ⟨i + 1, o, rfl, by omega, by omega, by rw [rowN_zero, List.append_nil], by omega, hn1, rfl⟩ ⟨ks rfl .dt, ks rfl (.c .ow), ks rfl .dt, ks rfl .dt, ks rfl .dt, ks rfl .dt, ks rfl .dt, kb 110 rfl (.dt rfl (by first | rfl | (simp [dR, rD, dI]; done) | (simp [dR, rD, dI]; rfl))), trivial⟩ ?_
      rintro m σ ⟨k, o2, hm0, hk1, hk, hEi, ho2, hn2, rfl⟩
      refine .seq <| .seq <| .region <| .cons (.mv rfl rfl) <| .cons (.mv rfl rfl) <| .cons (.nP rfl rfl) <| .cons (.fP 2 0 false rfl rfl) <| .cons (.l1 1 rfl rfl) <| .cons (.ln 82 3 40 rfl rfl rfl) <| .cons (.ls rfl rfl rfl) <| .nil <| ks_n ?_
      refine .cD rfl (fun h23 => ?_) (fun h23 => ?_)
      · skip
        obtain ⟨y, hy1⟩ : ∃ x_, (insG 0 g.2)[k]? = some x_ := ⟨_, List.getElem?_eq_getElem (by omega)⟩
        obtain ⟨ky, cy, qy, hIy⟩ := ins_at hS (List.mem_of_getElem? hy1)
        have hly := usR_len hIy
        have hkb := kindN_bd (g := g) (i := i) (k := k)
        refine .skip <| ks_n <| .seq <| .block <| .seq <| .region <| .cons (.mv rfl rfl) <| .cons (.mv rfl rfl) <| .cons (.mv rfl rfl) <| .cons (.cP [.tmp 26, .tmp 27, .tmp 28] rfl rfl rfl rfl (between_fn hx1 hy1 hlx hly) rfl) ?_
        refine .cons (.asg rfl rfl) <| .nil <| ks_n <| .seq <| .region <| .cons (.mv rfl rfl) <| .cons (.gt rfl rfl rfl) <| .nil <| ks_n ?_
        refine .cD rfl (fun h31 => ?_) (fun h31 => ?_)
        · skip
          have hkn : kindN g i k ≠ 0 := by omega
          refine .region <| .cons (.mv rfl rfl) <| .cons (.mv rfl rfl) <| .cons (.mv rfl rfl) <| .cons (.mv rfl rfl) <| .cons (.bu [(0, .tmp 33), (1, .tmp 34), (2, .tmp 35)] [(0, 1), (1, 1), (2, 1)] [.int .i64 0, .int .i64 0, .int .i64 0] rfl rfl rfl rfl rfl) <| .cons (.li 51 2 0 [.tmp 36] rfl rfl rfl rfl rfl rfl) <| .cons (St1.appB (k' := 138) (e := 51) (sz := 2) (by' := 24) rfl rfl rfl rfl rfl (by kernel_rfl) rfl rfl rfl rfl (by first | (simp [dR]; done) | (simp [dR]; omega)) (by first | (simp [dR]; done) | (simp [dR]; omega)) rfl rfl rfl) ?_
          refine .cons (.asg rfl rfl) <| .nil <| kb_n <| ks_n <| .region <| .cons (.mv rfl rfl) <| .cons (.pl rfl rfl rfl) <| .cons (.asg rfl rfl) <| .nil ?_
          refine kl_k [(120, 138)] ⟨k + 1, o2 ++ [((i : Int), ((k : Nat) : Int), kindN g i k)], rfl, by omega, by omega, by rw [rowN_yes (by omega) hkn, ← List.append_assoc, hEi], by rw [List.length_append, List.length_singleton]; omega, by simp, rfl⟩ ⟨ks rfl .dt, ks rfl (.c .ow), ks rfl .dt, ks rfl .dt, ks rfl .dt, ks rfl .dt, ks rfl .dt, kb 138 rfl (.dt rfl (by first | rfl | (simp [dR, rD, dI]; done) | (simp [dR, rD, dI]; rfl))), trivial⟩
        · skip
          have hkz : kindN g i k = 0 := by omega
          refine .skip <| kb_n <| ks_n <| .region <| .cons (.mv rfl rfl) <| .cons (.pl rfl rfl rfl) <| .cons (.asg rfl rfl) <| .nil ?_
          refine kl_k [(120, 120)] ⟨k + 1, o2, rfl, by omega, by omega, by rw [rowN_no hkz, hEi], by omega, hn2, rfl⟩ ⟨ks rfl .dt, ks rfl (.c .ow), ks rfl .dt, ks rfl .dt, ks rfl .dt, ks rfl .dt, ks rfl .dt, kb 120 rfl (.dt rfl (by first | rfl | (simp [dR, rD, dI]; done) | (simp [dR, rD, dI]; rfl))), trivial⟩
      · skip
        obtain rfl : k = (insG 0 g.2).length := by omega
        refine .exit <| ks_e <| kl_e <| kb_hit <| kb_n <| ks_n <| .region <| .cons (.pl rfl rfl rfl) <| .cons (.mv rfl rfl) <| .nil ?_
        refine kl_k [(110, 120)] (.inr ⟨i + 1, o2, rfl, by omega, by rw [depsN_next, hE]; exact hEi, by omega, hn2, rfl⟩) ⟨ks rfl .dt, ks rfl (.c .ow), ks rfl .dt, ks rfl .dt, ks rfl .dt, kb 120 rfl (.dt rfl (by first | rfl | (simp [dR, rD, dI]; done) | (simp [dR, rD, dI]; rfl))), trivial⟩
    · skip
      exact absurd (by rw [← hE, show i = (insG 0 g.2).length by omega]; exact hz) hn1

theorem del_nil {f : FuncId} {g : Prg} : Fn Tryz.prog 38 (hbT 1 g) [.c (.d (.val (.slice none 0 0))), .c (.fb f 1 1)] (.o (.c (.d (.val (.slice none 0 0))))) (hbT 1 g) := by
  refine Fn.of_code Tryz.func38 rfl rfl (hbT_HB _ _) rfl rfl (hbT_HB _ _) rfl hbT_num ?_
  refine .seq <| .region <| .cons (.asg rfl rfl) <| .nil <| ks_n <| .seq <| .region <| .cons (.mv rfl rfl) <| .cons (.mv rfl rfl) <| .cons (.cO [.tmp 8, .tmp 9] [(1, 1)] rfl rfl rfl rfl (idxN_fn) rfl ⟨rfl, trivial⟩ (hbT_flat _ _) (hbT_flat _ _) (hbT_HB _ _) outS_T) ?_
  refine .cons (.asg rfl rfl) <| .nil <| ks_n <| .seq <| .seq <| .region <| .cons (.mv rfl rfl) <| .cons (.eq rfl rfl rfl) <| .nil <| ks_n ?_
  refine .cD rfl (fun h12 => ?_) (fun h12 => ?_)
  · skip
    refine .seq <| .region <| .cons (.mv rfl rfl) <| .cons (.asg rfl rfl) <| .nil <| ks_n <| .ret <| ks_r ?_
    refine kf_ret rfl ?_ (hbT_box rfl)
    rfl
  · skip
    simp at h12

theorem strG_take {g : Prg} {i : Nat} {d : Dpn} (h : (depsG g)[i]? = some d) : ((depsG g).take (i + 1)).filter (fun d => !redS g d) = ((depsG g).take i).filter (fun d => !redS g d) ++ if redS g d = true then [] else [d] := by
  rw [List.take_add_one, h, List.filter_append]
  cases hp : redS g d <;> simp [hp]

theorem specStr_fn {g : Prg} (hs : szG g ≤ 1073741824)  : Fn Tryz.prog 15 [] [ad (rG g)] (.o (vD (dDs (strV g)))) [] := by
 refine Fn.code0 Tryz.func15 rfl rfl rfl rfl ?_
 refine .seq <| .region <| .cons (St1.boxP rfl rfl rfl rfl rfl rfl) <| .cons (.asg rfl rfl) <| .nil <| ks_n <| .seq <| .region <| .cons (St1.lit0 (k' := 109) (e := 51) (sz := 3) (b := true) rfl rfl rfl rfl (by kernel_rfl) rfl rfl) ?_
 refine .cons (.asg rfl rfl) <| .nil <| ks_n <| .seq <| .seq <| .region <| .cons (.lN 2 rfl rfl rfl) <| .cons (.cP [.tmp 10] rfl rfl rfl rfl (specPV_fn hs) rfl) ?_
 refine .cons (.nt rfl rfl) <| .nil <| ks_n ?_
 refine ACode.condT rfl (fun h12 => ?_) (fun h12 => ?_)
 ·try simp only [zs1, zs2, zs3, zs4, zs5, zs6, zs7] at h12
  have hV : prgV g = false := by first | assumption | simp_all
  refine .seq <| .region <| .cons (.mv rfl rfl) <| .cons (.asg rfl rfl) <| .nil <| ks_n <| .ret <| ks_r ?_
  refine kf_wret [(.t 2, .v (.o (vD (dDs (strV g)))))] (Wk.keep [] rfl rfl ⟨ks rfl (.c (.fz rfl (by rw [strV_no hV]; rfl) (by rw [strV_no hV]; rfl) (by omega))), trivial⟩) rfl ?_ nobox
  rfl
 ·try simp only [zs1, zs2, zs3, zs4, zs5, zs6, zs7] at h12
  have hV : prgV g = true := by first | assumption | simp_all
  obtain ⟨hS, hN, hL⟩ := prgV_s hV
  have hdl := depsN_len hL (n := (insG 0 g.2).length)
  have hdl2 : (depsG g).length ≤ 14400 := by unfold depsG; omega
  refine .skip <| ks_n <| .seq <| .region <| .cons (.lN 2 rfl rfl rfl) <| .cons (.cP [.tmp 14] rfl rfl rfl rfl (l12Names_fn hs hS) rfl) ?_
  refine .cons (.asg rfl rfl) <| .nil <| ks_n <| .seq <| .region <| .cons (.lN 2 rfl rfl rfl) <| .cons (.cP [.tmp 16] rfl rfl rfl rfl (l6Deps_fn hs hS hL) rfl) ?_
  refine .cons (.asg rfl rfl) <| .nil <| ks_n <| .seq <| .seq <| .region <| .cons (.asg rfl rfl) <| .nil <| ks_n <| .block ?_
  refine .loopK (fun m σ => (∃ (i : Nat) (o : List Dpn), m = (depsG g).length - i ∧ (i ≤ (depsG g).length) ∧ (((depsG g).take i).filter (fun d => !redS g d) = o) ∧ (o.length ≤ i) ∧ σ = [(.t 3, .v (.o (.c (.own 110 3 (o.length))))), (.t 4, .v (.o (vD (dSs (namesV g))))), (.t 5, .v (.o (vD (dDs (depsG g))))), (.t 6, .v (.o (nat1 (i : Nat)))), (.b 110, .b 51 3 (dR (o.map rD))), (.u 110, .u)])) [(110, 109)] ⟨0, [], rfl, by omega, rfl, by simp, rfl⟩ ⟨ks rfl (.c .ow), ks rfl .dt, ks rfl .dt, ks rfl .dt, kb 109 rfl (.dt rfl (by first | rfl | (simp [dR, rD, dI]; done) | (simp [dR, rD, dI]; rfl))), trivial⟩ ?_
  rintro m σ ⟨i, o, hm0, hi, hE, ho, rfl⟩
  refine .seq <| .seq <| .region <| .cons (.mv rfl rfl) <| .cons (.mv rfl rfl) <| .cons (.ln 51 3 24 rfl rfl rfl) <| .cons (.ls rfl rfl rfl) <| .nil <| ks_n ?_
  refine .cD rfl (fun h21 => ?_) (fun h21 => ?_)
  ·skip
   obtain ⟨d, hd1⟩ : ∃ x_, (depsG g)[i]? = some x_ := ⟨_, List.getElem?_eq_getElem (by omega)⟩
   obtain ⟨a, b, hde, hab, hbl, _⟩ := deps_mem (List.mem_of_getElem? hd1)
   obtain ⟨x, hx1⟩ : ∃ x, (insG 0 g.2)[a]? = some x := ⟨_, List.getElem?_eq_getElem (by omega)⟩
   obtain ⟨y, hy1⟩ : ∃ y, (insG 0 g.2)[b]? = some y := ⟨_, List.getElem?_eq_getElem hbl⟩
   obtain ⟨kx, cx, qx, hIx, _, _⟩ := red_fn hs hS hx1
   obtain ⟨ky, cy, qy, hIy, _, _⟩ := red_fn hs hS hy1
   have hnr := name_red hIx hIy
   rw [← redS_eq (c := kindN g a b) hx1 hy1, ← hde] at hnr
   have hda : d.1 = (a : Int) := by rw [hde]
   have hdb : d.2.1 = (b : Int) := by rw [hde]
   refine .skip <| ks_n <| .seq <| .block <| .seq <| .region <| .cons (.mv rfl rfl) <| .cons (.mv rfl rfl) <| .cons (.xL 51 3 24 rfl rfl rfl rfl rfl) ?_
   refine .cons (.fP 0 0 false rfl rfl) <| .cons (.l1 1 rfl rfl) <| .cons (.asg rfl rfl) <| .nil <| ks_n <| .seq <| .region <| .cons (.mv rfl rfl) <| .cons (.mv rfl rfl) <| .cons (.xL 51 3 24 rfl rfl rfl rfl rfl) ?_
   refine .cons (.fP 1 0 false rfl rfl) <| .cons (.l1 1 rfl rfl) <| .cons (.asg rfl rfl) <| .nil <| ks_n <| .seq ?_
   refine ACode.drawK (by kernel_rfl) (by kernel_rfl) ?_
   refine .cons (.mv rfl rfl) <| .cons (.mv rfl rfl) <| .cons (.xL 9 1 16 (i := a) rfl rfl rfl rfl hda (map_at (names_at hx1))) ?_
   refine .cons (.l1 1 rfl rfl) <| .cons (St1.eqS rfl rfl rfl) <| .cons (.mv rfl rfl) ?_
   refine RunK.cases 39 _ rfl (fun g39 => ?_) (fun g39 => ?_)
   ·try simp only [zs1, zs2, zs3, zs4, zs5, zs6, zs7] at g39
    have hrs : redS g d = false := by simp_all
    refine .cons (.gF rfl rfl rfl) <| .cons (.gF rfl rfl rfl) <| .cons (.gF rfl rfl rfl) <| .cons (.gF rfl rfl rfl) <| .cons (.gF rfl rfl rfl) <| .cons (.gF rfl rfl rfl) <| .cons (.gF rfl rfl rfl) <| .cons (.gF rfl rfl rfl) <| .cons (.gF rfl rfl rfl) <| .cons (.pT rfl rfl rfl) ?_
    refine .nil ⟨by kernel_rfl, ?_⟩
    refine ks_n ?_
    refine ACode.condT rfl (fun _ => ?_) (fun h => by first | (cases h; done) | (simp [*] at h; done) | (exfalso; simp_all; done))
    refine .region <| .cons (.mv rfl rfl) <| .cons (.mv rfl rfl) <| .cons (.mv rfl rfl) <| .cons (.xL 51 3 24 rfl rfl rfl rfl rfl) ?_
    refine .cons (.lN 3 rfl rfl rfl) <| .cons (.li 51 2 0 [.tmp 54] rfl rfl rfl rfl rfl rfl) <| .cons (St1.appB (k' := 156) (e := 51) (sz := 2) (by' := 24) rfl rfl rfl rfl rfl (by kernel_rfl) rfl rfl rfl rfl (by first | (simp [dR]; done) | (simp [dR]; omega)) (by first | (simp [dR]; done) | (simp [dR]; omega)) rfl rfl rfl) ?_
    refine .cons (.asg rfl rfl) <| .nil <| kb_n <| ks_n <| .region <| .cons (.mv rfl rfl) <| .cons (.pl rfl rfl rfl) <| .cons (.asg rfl rfl) <| .nil ?_
    refine kl_k [(110, 156)] ⟨i + 1, o ++ [d], rfl, by omega, by rw [strG_take hd1, hE, if_neg (by rw [hrs]; simp)], by rw [List.length_append, List.length_singleton]; omega, rfl⟩ ⟨ks rfl (.c .ow), ks rfl .dt, ks rfl .dt, ks rfl .dt, kb 156 rfl (.dt rfl (by first | rfl | (simp [dR, rD, dI]; done) | (simp [dR, rD, dI]; rfl))), trivial⟩
   ·try simp only [zs1, zs2, zs3, zs4, zs5, zs6, zs7] at g39
    refine .cons (.gT rfl rfl rfl (.mv rfl rfl)) <| .cons (.gT rfl rfl rfl (.mv rfl rfl)) <| .cons (.gT rfl rfl rfl (.xL 9 1 16 (i := a) rfl rfl rfl rfl hda (map_at (names_at hx1)))) ?_
    refine .cons (.gT rfl rfl rfl (.l1 1 rfl rfl)) <| .cons (.gT rfl rfl rfl (.mv rfl rfl)) <| .cons (.gT rfl rfl rfl (.mv rfl rfl)) <| .cons (.gT rfl rfl rfl (.xL 9 1 16 (i := b) rfl rfl rfl rfl hdb (map_at (names_at hy1)))) ?_
    refine .cons (.gT rfl rfl rfl (.l1 1 rfl rfl)) <| .cons (.gT rfl rfl rfl (St1.neS rfl rfl rfl)) <| .cons (.pF rfl rfl rfl) ?_
    refine .nil ⟨by kernel_rfl, ?_⟩
    refine ks_n ?_
    refine ACode.condT rfl (fun h49 => ?_) (fun h49 => ?_)
    ·try simp only [zs1, zs2, zs3, zs4, zs5, zs6, zs7] at h49
     have hrs : redS g d = false := by simp_all
     refine .region <| .cons (.mv rfl rfl) <| .cons (.mv rfl rfl) <| .cons (.mv rfl rfl) <| .cons (.xL 51 3 24 rfl rfl rfl rfl rfl) ?_
     refine .cons (.lN 3 rfl rfl rfl) <| .cons (.li 51 2 0 [.tmp 54] rfl rfl rfl rfl rfl rfl) <| .cons (St1.appB (k' := 156) (e := 51) (sz := 2) (by' := 24) rfl rfl rfl rfl rfl (by kernel_rfl) rfl rfl rfl rfl (by first | (simp [dR]; done) | (simp [dR]; omega)) (by first | (simp [dR]; done) | (simp [dR]; omega)) rfl rfl rfl) ?_
     refine .cons (.asg rfl rfl) <| .nil <| kb_n <| ks_n <| .region <| .cons (.mv rfl rfl) <| .cons (.pl rfl rfl rfl) <| .cons (.asg rfl rfl) <| .nil ?_
     refine kl_k [(110, 156)] ⟨i + 1, o ++ [d], rfl, by omega, by rw [strG_take hd1, hE, if_neg (by rw [hrs]; simp)], by rw [List.length_append, List.length_singleton]; omega, rfl⟩ ⟨ks rfl (.c .ow), ks rfl .dt, ks rfl .dt, ks rfl .dt, kb 156 rfl (.dt rfl (by first | rfl | (simp [dR, rD, dI]; done) | (simp [dR, rD, dI]; rfl))), trivial⟩
    ·try simp only [zs1, zs2, zs3, zs4, zs5, zs6, zs7] at h49
     have hrs : redS g d = true := by simp_all
     refine .skip <| kb_n <| ks_n <| .region <| .cons (.mv rfl rfl) <| .cons (.pl rfl rfl rfl) <| .cons (.asg rfl rfl) <| .nil ?_
     refine kl_k [(110, 110)] ⟨i + 1, o, rfl, by omega, by rw [strG_take hd1, hE, if_pos hrs, List.append_nil], by omega, rfl⟩ ⟨ks rfl (.c .ow), ks rfl .dt, ks rfl .dt, ks rfl .dt, kb 110 rfl (.dt rfl (by first | rfl | (simp [dR, rD, dI]; done) | (simp [dR, rD, dI]; rfl))), trivial⟩
  ·skip
   obtain rfl : i = (depsG g).length := by omega
   rw [List.take_length] at hE
   refine .exit <| ks_e <| kl_e <| kb_hit <| ks_n <| .seq <| .region <| .cons (.mv rfl rfl) <| .cons (.asg rfl rfl) <| .nil <| ks_n <| .ret ?_
   refine kf_wret [(.t 2, .v (.o (vD (dDs (strV g)))))] (Wk.keep [] rfl rfl ⟨ks rfl (.c (.fz rfl (by rw [strV_yes hV, strG, hE]) (by rw [strV_yes hV, strG, hE, List.length_map]) (by omega))), trivial⟩) rfl ?_ nobox
   rfl
theorem strR_bad {g : Prg} (hs : szG g ≤ 1073741824) (hV : prgV g = false) : Fn Tryz.prog 16 [] [ad (rG g)] (.o (.c (.d (.val (.slice none 0 0))))) [] := by
 refine Fn.code0 Tryz.func16 rfl rfl rfl rfl ?_
 refine .seq <| .region <| .cons (St1.boxP rfl rfl rfl rfl rfl rfl) <| .cons (.asg rfl rfl) <| .nil <| ks_n <| .seq <| .region <| .cons (.lN 2 rfl rfl rfl) <| .cons (.cP [.tmp 6] rfl rfl rfl rfl (trace_no hs hV) rfl) ?_
 refine .cons (.mv rfl rfl) <| .cons (.ex rfl rfl rfl) <| .cons (.ex rfl rfl rfl) <| .cons (.al 103 [.pointer none] rfl rfl rfl) <| .cons (.sT 1 false rfl rfl rfl rfl rfl rfl rfl) <| .cons (.asg rfl rfl) <| .nil <| ks_n <| .seq <| .seq <| .region <| .cons (.mv rfl rfl) <| .cons (.nt rfl rfl) <| .nil <| ks_n ?_
 refine ACode.condT rfl (fun h11 => ?_) (fun h11 => ?_)
 ·try simp only [zs1, zs2, zs3, zs4, zs5, zs6, zs7] at h11
  refine .seq <| .region <| .cons (.asg rfl rfl) <| .nil <| ks_n <| .ret <| ks_r ?_
  refine kf_ret rfl ?_ nobox
  rfl
 ·try simp only [zs1, zs2, zs3, zs4, zs5, zs6, zs7] at h11
  cases h11

theorem strR_own {g : Prg} (hs : szG g ≤ 1073741824) (hV : prgV g = true) (hz : depsG g ≠ []) : Fn Tryz.prog 16 [] [ad (rG g)] (.o (.c (.own 100 3 (strV g).length))) [(.b 100, .b 51 3 (dR ((strV g).map rD))), (.u 100, .u)] := by
 obtain ⟨hS, hN, hL⟩ := prgV_s hV
 have hdl := depsN_len hL (n := (insG 0 g.2).length)
 have hdl2 : (depsG g).length ≤ 14400 := by unfold depsG; omega
 refine Fn.of_code Tryz.func16 rfl rfl HB.nil rfl rfl HB.nil.data rfl (one_num rfl) ?_
 refine .seq <| .region <| .cons (St1.boxP rfl rfl rfl rfl rfl rfl) <| .cons (.asg rfl rfl) <| .nil <| ks_n <| .seq <| .region <| .cons (.lN 2 rfl rfl rfl) <| .cons (.cP [.tmp 6] rfl rfl rfl rfl (trace_fn hs hV) rfl) ?_
 refine .cons (.mv rfl rfl) <| .cons (.ex rfl rfl rfl) <| .cons (.ex rfl rfl rfl) <| .cons (.al 103 [.pointer none] rfl rfl rfl) <| .cons (.sT 1 false rfl rfl rfl rfl rfl rfl rfl) <| .cons (.asg rfl rfl) <| .nil <| ks_n <| .seq <| .seq <| .region <| .cons (.mv rfl rfl) <| .cons (.nt rfl rfl) <| .nil <| ks_n ?_
 refine ACode.condT rfl (fun h11 => ?_) (fun h11 => ?_)
 ·try simp only [zs1, zs2, zs3, zs4, zs5, zs6, zs7] at h11
  cases h11
 ·try simp only [zs1, zs2, zs3, zs4, zs5, zs6, zs7] at h11
  refine .skip <| ks_n <| .seq <| .region <| .cons (.b1 1 rfl rfl rfl rfl rfl rfl) <| .cons (.cO [.tmp 12] [(100, 113)] rfl rfl rfl rfl (deps_own hS hL hz) rfl trivial flatS.nil (flatS.nil.cons rfl) HB.nil.data outS_one) ?_
  refine .cons (St1.makeFuncB rfl rfl rfl rfl rfl rfl rfl) <| .cons (.cO [.tmp 13, .tmp 14] [(0, 113), (1, 103)] rfl rfl rfl rfl (del_fn (by kernel_rfl) (redS g) (depsG g) (by omega) (fun d hd => by obtain ⟨i, k, rfl, h1, h2, _⟩ := deps_mem hd; exact str1_fn hs hS rfl rfl (List.getElem?_eq_getElem (by omega : i < (insG 0 g.2).length)) (List.getElem?_eq_getElem h2))) rfl ⟨(by rw [renR_dR]; rfl), rfl, trivial⟩ (hbD_flat _ _) (hbD_flat _ _) (hbD_HB _ _) outS_D) ?_
  refine .cons (.asg rfl rfl) <| .nil <| ks_n <| .ret ?_
  refine kf_wret [(.t 2, .v (.o (.c (.own 100 3 ((strV g).length))))), (.b 100, .b 51 3 (dR ((strV g).map rD))), (.u 100, .u)] (Wk.keep [(100, 113)] rfl rfl ⟨ks rfl (.c (.ow (by rw [strV_yes hV]; rfl))), kb 113 rfl (.dt rfl (by rw [strV_yes hV]; rfl)), trivial⟩) rfl ?_ (one_box rfl)
  rfl

theorem strR_nil {g : Prg} (hs : szG g ≤ 1073741824) (hV : prgV g = true) (hz : depsG g = []) : Fn Tryz.prog 16 [] [ad (rG g)] (.o (.c (.d (.val (.slice none 0 0))))) [] := by
 obtain ⟨hS, hN, hL⟩ := prgV_s hV
 have hdl := depsN_len hL (n := (insG 0 g.2).length)
 have hdl2 : (depsG g).length ≤ 14400 := by unfold depsG; omega
 refine Fn.code0 Tryz.func16 rfl rfl rfl rfl ?_
 refine .seq <| .region <| .cons (St1.boxP rfl rfl rfl rfl rfl rfl) <| .cons (.asg rfl rfl) <| .nil <| ks_n <| .seq <| .region <| .cons (.lN 2 rfl rfl rfl) <| .cons (.cP [.tmp 6] rfl rfl rfl rfl (trace_fn hs hV) rfl) ?_
 refine .cons (.mv rfl rfl) <| .cons (.ex rfl rfl rfl) <| .cons (.ex rfl rfl rfl) <| .cons (.al 103 [.pointer none] rfl rfl rfl) <| .cons (.sT 1 false rfl rfl rfl rfl rfl rfl rfl) <| .cons (.asg rfl rfl) <| .nil <| ks_n <| .seq <| .seq <| .region <| .cons (.mv rfl rfl) <| .cons (.nt rfl rfl) <| .nil <| ks_n ?_
 refine ACode.condT rfl (fun h11 => ?_) (fun h11 => ?_)
 ·try simp only [zs1, zs2, zs3, zs4, zs5, zs6, zs7] at h11
  cases h11
 ·try simp only [zs1, zs2, zs3, zs4, zs5, zs6, zs7] at h11
  refine .skip <| ks_n <| .seq <| .region <| .cons (.b1 1 rfl rfl rfl rfl rfl rfl) <| .cons (.cP [.tmp 12] rfl rfl rfl rfl (deps_nil hS hL hz) rfl) ?_
  refine .cons (St1.makeFuncB rfl rfl rfl rfl rfl rfl rfl) <| .cons (.cO [.tmp 13, .tmp 14] [(1, 103)] rfl rfl rfl rfl (del_nil) rfl ⟨rfl, trivial⟩ (hbT_flat _ _) (hbT_flat _ _) (hbT_HB _ _) outS_T) ?_
  refine .cons (.asg rfl rfl) <| .nil <| ks_n <| .ret ?_
  refine kf_ret rfl ?_ nobox
  rfl

theorem eqDep_fn (x y : Dpn) : Fn Tryz.prog 43 [] [ad (rD x), ad (rD y)] (.o (bo1 (decide (x = y)))) [] := by
  refine Fn.code0 Tryz.func43 rfl rfl rfl rfl ?_
  refine .seq <| .region <| .cons (St1.boxP rfl rfl rfl rfl rfl rfl) <| .cons (St1.boxP rfl rfl rfl rfl rfl rfl) <| .cons (.asg rfl rfl) <| .nil <| ks_n <| .seq <| .seq <| .region <| .cons (.fP 0 0 false rfl rfl) <| .cons (.l1 1 rfl rfl) <| .cons (.fP 0 0 false rfl rfl) <| .cons (.l1 1 rfl rfl) <| .cons (.ne rfl rfl rfl) <| .nil <| ks_n ?_
  refine .cND rfl (fun h9 => ?_) (fun h9 => ?_)
  · skip
    refine .seq <| .region <| .cons (.asg rfl rfl) <| .nil <| ks_n <| .ret <| ks_r ?_
    refine kf_ret rfl ?_ nobox
    exact leafB (by rw [Bool.eq_iff_iff]; simp only [decide_eq_true_eq, Prod.ext_iff]; first | (simp [*]; done) | (simp_all; done) | omega)
  · skip
    refine .skip <| ks_n <| .seq <| .seq <| .region <| .cons (.fP 1 0 false rfl rfl) <| .cons (.l1 1 rfl rfl) <| .cons (.fP 1 0 false rfl rfl) <| .cons (.l1 1 rfl rfl) <| .cons (.ne rfl rfl rfl) <| .nil <| ks_n ?_
    refine .cND rfl (fun h14 => ?_) (fun h14 => ?_)
    · skip
      refine .seq <| .region <| .cons (.asg rfl rfl) <| .nil <| ks_n <| .ret <| ks_r ?_
      refine kf_ret rfl ?_ nobox
      exact leafB (by rw [Bool.eq_iff_iff]; simp only [decide_eq_true_eq, Prod.ext_iff]; first | (simp [*]; done) | (simp_all; done) | omega)
    · skip
      refine .skip <| ks_n <| .seq <| .seq <| .region <| .cons (.fP 2 0 false rfl rfl) <| .cons (.l1 1 rfl rfl) <| .cons (.fP 2 0 false rfl rfl) <| .cons (.l1 1 rfl rfl) <| .cons (.ne rfl rfl rfl) <| .nil <| ks_n ?_
      refine .cND rfl (fun h19 => ?_) (fun h19 => ?_)
      · skip
        refine .seq <| .region <| .cons (.asg rfl rfl) <| .nil <| ks_n <| .ret <| ks_r ?_
        refine kf_ret rfl ?_ nobox
        exact leafB (by rw [Bool.eq_iff_iff]; simp only [decide_eq_true_eq, Prod.ext_iff]; first | (simp [*]; done) | (simp_all; done) | omega)
      · skip
        refine .skip <| ks_n <| .seq <| .region <| .cons (.asg rfl rfl) <| .nil <| ks_n <| .ret ?_
        refine kf_ret rfl ?_ nobox
        exact leafB (by rw [Bool.eq_iff_iff]; simp only [decide_eq_true_eq, Prod.ext_iff]; first | (simp [*]; done) | (simp_all; done) | omega)

theorem eqDeps_f (xs ys : List Dpn) (hx : xs.length ≤ 1099511627776) : Fn Tryz.prog 17 [] [vD (dDs xs), vD (dDs ys)] (.o (bo1 (eqF (fun x y : Dpn => decide (x = y)) xs ys))) [] := by
 refine Fn.code0 Tryz.func17 rfl rfl rfl rfl ?_
 refine .seq <| .region <| .cons (.asg rfl rfl) <| .nil <| ks_n <| .seq <| .seq <| .region <| .cons (.mv rfl rfl) <| .cons (.ln 51 3 24 rfl rfl rfl) <| .cons (.mv rfl rfl) <| .cons (.ln 51 3 24 rfl rfl rfl) <| .cons (.ne rfl rfl rfl) <| .nil <| ks_n ?_
 refine .cND rfl (fun h10 => ?_) (fun h10 => ?_)
 ·skip
  refine .seq <| .region <| .cons (.asg rfl rfl) <| .nil <| ks_n <| .ret <| ks_r ?_
  refine kf_ret rfl ?_ nobox
  exact leafB (eqF_len (by omega)).symm
 ·skip
  refine .skip <| ks_n <| .seq <| .seq <| .region <| .cons (.asg rfl rfl) <| .nil <| ks_n <| .block ?_
  refine .loopK (fun m σ => (∃ i : Nat, m = xs.length - i ∧ (i ≤ xs.length) ∧ (eqF (fun x y : Dpn => decide (x = y)) xs ys = eqF (fun x y : Dpn => decide (x = y)) (xs.drop i) (ys.drop i)) ∧ σ = [(.t 0, .v (.o (vD (dDs xs)))), (.t 1, .v (.o (vD (dDs ys)))), (.t 4, .v (.o (bo1 false))), (.t 5, .v (.o (nat1 (i : Nat))))])) [] ⟨0, rfl, by omega, by simp, rfl⟩ ⟨ks rfl .dt, ks rfl .dt, ks rfl .dt, ks rfl .dt, trivial⟩ ?_
  rintro m σ ⟨i, hm0, hi, hF, rfl⟩
  refine .seq <| .seq <| .region <| .cons (.mv rfl rfl) <| .cons (.mv rfl rfl) <| .cons (.ln 51 3 24 rfl rfl rfl) <| .cons (.ls rfl rfl rfl) <| .nil <| ks_n ?_
  refine .cD rfl (fun h14 => ?_) (fun h14 => ?_)
  ·skip
   obtain ⟨x, hx1⟩ : ∃ x_, xs[i]? = some x_ := ⟨_, List.getElem?_eq_getElem (by omega)⟩
   obtain ⟨y, hy1⟩ : ∃ x_, ys[i]? = some x_ := ⟨_, List.getElem?_eq_getElem (by omega)⟩
   refine .skip <| ks_n <| .seq <| .block <| .seq ?_
   refine ACode.drawK (by kernel_rfl) (by kernel_rfl) ?_
   refine .cons (.mv rfl rfl) <| .cons (.mv rfl rfl) <| .cons (.xL 51 3 24 rfl rfl rfl rfl rfl (map_at hx1)) ?_
   refine .cons (.lN 3 rfl rfl rfl) <| .cons (.mv rfl rfl) <| .cons (.mv rfl rfl) <| .cons (.xL 51 3 24 rfl rfl rfl rfl rfl (map_at hy1)) ?_
   refine .cons (.lN 3 rfl rfl rfl) <| .cons (.cP [.tmp 20, .tmp 24] rfl rfl rfl rfl (eqDep_fn x y) rfl) ?_
   refine .cons (.nt rfl rfl) ?_
   refine .nil ⟨by kernel_rfl, ?_⟩
   refine ks_n ?_
   refine ACode.condT rfl (fun h26 => ?_) (fun h26 => ?_)
   ·try simp only [zs1, zs2, zs3, zs4, zs5, zs6, zs7] at h26
    have g : decide (x = y) = false := by first | assumption | exact decide_eq_false (by assumption) | (simp; omega)
    refine .seq <| .region <| .cons (.asg rfl rfl) <| .nil <| ks_n <| .ret <| kb_r <| ks_r <| kl_r <| kb_r <| ks_r ?_
    refine kf_ret rfl ?_ nobox
    exact leafB (by rw [hF, eqF_drop hx1 hy1, g]; rfl)
   ·try simp only [zs1, zs2, zs3, zs4, zs5, zs6, zs7] at h26
    have g : decide (x = y) = true := by first | assumption | exact decide_eq_true (by assumption) | (simp; omega)
    refine .skip <| kb_n <| ks_n <| .region <| .cons (.mv rfl rfl) <| .cons (.pl rfl rfl rfl) <| .cons (.asg rfl rfl) <| .nil ?_
    refine kl_k [] ⟨i + 1, rfl, by omega, by rw [hF, eqF_drop hx1 hy1, g, Bool.true_and], rfl⟩ ⟨ks rfl .dt, ks rfl .dt, ks rfl .dt, ks rfl .dt, trivial⟩
  ·skip
   refine .exit <| ks_e <| kl_e <| kb_hit <| ks_n <| .seq <| .region <| .cons (.asg rfl rfl) <| .nil <| ks_n <| .ret ?_
   refine kf_ret rfl ?_ nobox
   exact leafB (by rw [hF, show i = xs.length by omega, eqF_end (by omega)])

theorem eqDeps_fn (xs ys : List Dpn) (hx : xs.length ≤ 1099511627776) : Fn Tryz.prog 17 [] [vD (dDs xs), vD (dDs ys)] (.o (bo1 (decide (xs = ys)))) [] := by
  rw [← eqF_dec]; exact eqDeps_f xs ys hx
/-- The block that a slice lies in. -/
def InB (a : Option Addr) (b : Nat) : Prop := ∃ o, a = some ⟨b, o, none⟩
/-- A slice of dependences in memory from block B on, which may be written. -/
structure OwnD (w : World) (B : Nat) (a : Option Addr) (n c : Nat) (ds : List Dpn) : Prop where
  len : ds.length = n
  cap : n ≤ c
  nil : a = none → c = 0
  ge : ∀ b, InB a b → B ≤ b
  row : 0 < n → ∃ g cur, a = some ⟨g, 0, none⟩ ∧ B ≤ g ∧ w.heap[g]? = some (.cells cur 51 (0, 0)) ∧
    ∀ (i : Nat) d, ds[i]? = some d → cur[i * 3]? = some (.int .i64 d.1) ∧ cur[i * 3 + 1]? = some (.int .i64 d.2.1) ∧ cur[i * 3 + 2]? = some (.int .i64 d.2.2)
theorem OwnD.move {w w' : World} {B n c : Nat} {a : Option Addr} {ds : List Dpn} (h : OwnD w B a n c ds) (hs : ∀ b, B ≤ b → b < w.heap.size → InB a b → w'.heap[b]? = w.heap[b]?) : OwnD w' B a n c ds :=
  ⟨h.len, h.cap, h.nil, h.ge, fun h0 => by
    obtain ⟨g, cur, e, hB, hg, hr⟩ := h.row h0
    exact ⟨g, cur, e, hB, (hs g hB (blk_lt hg) ⟨0, e⟩).trans hg, hr⟩⟩
theorem OwnD.fwd {w w' : World} {B n c : Nat} {a : Option Addr} {ds : List Dpn} (h : OwnD w B a n c ds) (hb : Below w.heap.size w w') : OwnD w' B a n c ds := h.move fun b _ hl _ => hb.block b hl
theorem OwnD.marked {S : Nat → Prop} {w w' : World} {B n c : Nat} {a : Option Addr} {ds : List Dpn} (h : OwnD w B a n c ds) (hm : Marked S w w') (hS : ∀ b, S b → b < B) : OwnD w' B a n c ds :=
  h.move fun b hB hl _ => hm.old b hl fun hs => by have := hS b hs; omega
theorem OwnD.dr {w : World} {B n c : Nat} {a : Option Addr} {ds : List Dpn} (h : OwnD w B a n c ds) (hn : n ≤ 17592186044416) : Dr (fun _ => True) w (dDs ds) (.slice a n c) := by
  by_cases h0 : 0 < n
  · obtain ⟨g, cur, rfl, hB, hg, hr⟩ := h.row h0
    refine Dr.list 3 (ds.map rD) _ n c g 0 (fun i j => cur.getD (i * 3 + j) undef) (by rw [List.length_map, h.len]) h.cap hn (fun e => by cases e) (fun _ => rfl) (fun i r hi => ?_) (fun i r j x hi hj => ?_) (fun i r j x hi hj => ?_)
    · rw [List.getElem?_map] at hi
      cases hd : ds[i]? with
      | none => rw [hd] at hi; cases hi
      | some d => rw [hd] at hi; cases hi; rfl
    all_goals
      rw [List.getElem?_map] at hi
      cases hd : ds[i]? with
      | none => rw [hd] at hi; cases hi
      | some d =>
        rw [hd] at hi; cases hi
        obtain ⟨q0, q1, q2⟩ := hr i d hd
        match j, hj with
        | 0, hj => cases hj; first | exact ⟨trivial, by rw [cell_of_row w _ _ _ _ _ hg, Nat.zero_add, Nat.add_zero, q0, Array.getD_eq_getD_getElem?, q0]; rfl⟩ | (rw [Array.getD_eq_getD_getElem?, Nat.add_zero, q0]; exact Dr.val _ rfl)
        | 1, hj => cases hj; first | exact ⟨trivial, by rw [cell_of_row w _ _ _ _ _ hg, Nat.zero_add, q1, Array.getD_eq_getD_getElem?, q1]; rfl⟩ | (rw [Array.getD_eq_getD_getElem?, q1]; exact Dr.val _ rfl)
        | 2, hj => cases hj; first | exact ⟨trivial, by rw [cell_of_row w _ _ _ _ _ hg, Nat.zero_add, q2, Array.getD_eq_getD_getElem?, q2]; rfl⟩ | (rw [Array.getD_eq_getD_getElem?, q2]; exact Dr.val _ rfl)
  · obtain rfl : ds = [] := List.eq_nil_of_length_eq_zero (by have := h.len; omega)
    exact Dr.list 3 [] a n c 0 0 (fun _ _ => undef) (by simpa using h.len.symm) h.cap hn h.nil (fun h => absurd h h0) (fun i r h => by simp at h) (fun i r j x h => by simp at h) (fun i r j x h => by simp at h)
/-- What marks leave: numbers from k on. -/
def mk3 (k : Int) (n : Nat) : List Dpn := (List.range n).map fun (i : Nat) => (k + 3 * i, k + 3 * i + 1, k + 3 * i + 2)
theorem mk3_len (k : Int) (n : Nat) : (mk3 k n).length = n := by rw [mk3, List.length_map, List.length_range]
theorem mk3_at {k : Int} {n i : Nat} (h : i < n) : (mk3 k n)[i]? = some (k + 3 * i, k + 3 * i + 1, k + 3 * i + 2) := by rw [mk3, List.getElem?_map, List.getElem?_range h]; rfl
theorem OwnD.store {w : World} {B n c g : Nat} {ds : List Dpn} (h : OwnD w B (some ⟨g, 0, none⟩) n c ds) {j : Nat} (hj : j < n) (d : Dpn) :
    OwnD (setRow w g (j * 3) [.int .i64 d.1, .int .i64 d.2.1, .int .i64 d.2.2]) B (some ⟨g, 0, none⟩) n c (ds.set j d) ∧ Marked (InB (some ⟨g, 0, none⟩)) w (setRow w g (j * 3) [.int .i64 d.1, .int .i64 d.2.1, .int .i64 d.2.2]) := by
  obtain ⟨g', cur, e, hB, hg, hr⟩ := h.row (by omega)
  cases e
  obtain ⟨d0, hd0⟩ : ∃ d, ds[j]? = some d := ⟨_, List.getElem?_eq_getElem (by rw [h.len]; exact hj)⟩
  obtain ⟨p0, p1, p2⟩ := hr j d0 hd0
  have hsz : j * 3 + 2 < cur.size := (Array.getElem?_eq_some_iff.1 p2).1
  obtain ⟨cur', q1, q2, q3, q4⟩ := setRow_same [.int .i64 d.1, .int .i64 d.2.1, .int .i64 d.2.2] (j * 3) w cur _ hg (by simp; omega)
  have hIn : InB (some ⟨g, 0, none⟩) g := ⟨0, rfl⟩
  have c0 : w.cell? ⟨g, j * 3, none⟩ = some (.int .i64 d0.1) := by rw [cell_of_row w _ _ _ _ _ hg]; exact p0
  have c1 : w.cell? ⟨g, j * 3 + 1, none⟩ = some (.int .i64 d0.2.1) := by rw [cell_of_row w _ _ _ _ _ hg]; exact p1
  have c2 : w.cell? ⟨g, j * 3 + 2, none⟩ = some (.int .i64 d0.2.2) := by rw [cell_of_row w _ _ _ _ _ hg]; exact p2
  refine ⟨⟨by rw [List.length_set]; exact h.len, h.cap, fun e => (by cases e), h.ge, fun _ => ⟨g, cur', rfl, hB, q1, fun i x hx => ?_⟩⟩, ?_⟩
  · rw [List.getElem?_set] at hx
    by_cases e : j = i
    · subst e
      rw [if_pos rfl, if_pos (by rw [h.len]; exact hj)] at hx
      cases hx
      exact ⟨q4 0 _ rfl, q4 1 _ rfl, q4 2 _ rfl⟩
    · rw [if_neg e] at hx
      obtain ⟨r0, r1, r2⟩ := hr i x hx
      exact ⟨(q3 _ (by simp; omega)).trans r0, (q3 _ (by simp; omega)).trans r1, (q3 _ (by simp; omega)).trans r2⟩
  · refine ((Marked.set (t := .int .i64 d.1) hIn c0 rfl rfl).trans (Marked.set (t := .int .i64 d.2.1) (o := j * 3 + 1) (u := .int .i64 d0.2.1) hIn ?_ rfl rfl)).trans (Marked.set (t := .int .i64 d.2.2) (o := j * 3 + 2) (u := .int .i64 d0.2.2) hIn ?_ rfl rfl)
    · rw [World.cell?_setCell_other _ _ _ _ (by simp)]; exact c1
    · rw [World.cell?_setCell_other _ _ _ _ (by simp), World.cell?_setCell_other _ _ _ _ (by simp)]; exact c2
theorem mk3_step {k : Int} {j : Nat} {ds : List Dpn} (h : j < ds.length) : (mk3 k j ++ ds.drop j).set j (k + 3 * j, k + 3 * j + 1, k + 3 * j + 2) = mk3 k (j + 1) ++ ds.drop (j + 1) := by
  rw [List.set_append, if_neg (by rw [mk3_len]; omega), mk3_len, Nat.sub_self, List.drop_eq_getElem_cons h, List.set_cons_zero, mk3, mk3, List.range_succ, List.map_append, List.append_assoc]
  rfl

set_option maxHeartbeats 3200000 in
theorem markDepS_any {a : Option Addr} {n c B : Nat} {k : Int} {ds : List Dpn} {w : World} (hx : OwnD w B a n c ds) (hn : n ≤ 1000000) (hk0 : 0 ≤ k) (hk1 : k ≤ 1048576) :
    Calls Tryz.prog 18 #[.slice a n c, .int .i64 k] w fun e w' => e = .returned (.int .i64 (k + 3 * n)) ∧ OwnD w' B a n c (mk3 k n) ∧ Marked (InB a) w w' := by
  go_enter Tryz.func18, Tryz.ntmps18
  have Hx := hid hx; clear hx
  go_wp2
  go_loopw [1, 5] (fun q i wr => ∃ (j : Nat) (K : Int), j ≤ n ∧ i = .int .i64 j ∧ q = .int .i64 K ∧ Hid (K = k + 3 * j) ∧ OwnD wr B a n c (mk3 k j ++ ds.drop j) ∧ Marked (InB a) w wr) (fun _ i _ => n - (intOf i).toNat)
  case atStart => exact ⟨0, k, Nat.zero_le _, rfl, rfl, hid (by omega), Hx.out, Marked.refl _ _⟩
  case round =>
    obtain ⟨j, K, hj, rfl, rfl, HK, ho, hm⟩ := hrel
    by_cases hlt : j < n
    · obtain ⟨g, cur, rfl, hB, hg, hr⟩ := ho.row (by omega)
      have hst := ho.store hlt (k + 3 * j, k + 3 * j + 1, k + 3 * j + 2)
      rw [mk3_step (by rw [Hx.out.len]; exact hlt)] at hst
      obtain ⟨d, hd⟩ : ∃ d, (mk3 k j ++ ds.drop j)[j]? = some d := ⟨_, List.getElem?_eq_getElem (by rw [ho.len]; exact hlt)⟩
      obtain ⟨p0, p1, p2⟩ := hr j d hd
      have c0 : wr.cell? ⟨g, j * 3, none⟩ = some (.int .i64 d.1) := by rw [cell_of_row wr _ _ _ _ _ hg]; exact p0
      have c1 : wr.cell? ⟨g, j * 3 + 1, none⟩ = some (.int .i64 d.2.1) := by rw [cell_of_row wr _ _ _ _ _ hg]; exact p1
      have c2 : wr.cell? ⟨g, j * 3 + 2, none⟩ = some (.int .i64 d.2.2) := by rw [cell_of_row wr _ _ _ _ _ hg]; exact p2
      have f0 : wr.frozen? ⟨g, j * 3, none⟩ = false := by simp [World.frozen?, hg]
      have f1 : wr.frozen? ⟨g, j * 3 + 1, none⟩ = false := by simp [World.frozen?, hg]
      have f2 : wr.frozen? ⟨g, j * 3 + 2, none⟩ = false := by simp [World.frozen?, hg]
      have hK0 : 0 ≤ K := by have := HK.out; omega
      have hK1 : K ≤ 9000000 := by have := HK.out; omega
      have hK2 := HK.out
      rw [← hK2] at hst
      have Hs := hid hst
      clear hst hr hd p0 p1 p2 hg hK2 ho
      go_wp2
      exact ⟨⟨j + 1, K + 1 + 1 + 1, by omega, rfl, int_i64 (by omega), hid (by have := HK.out; omega), by have := Hs.out.1; rw [show K + 1 + 1 = K + 2 by omega]; exact this, by have := Hs.out.2; rw [show K + 1 + 1 = K + 2 by omega]; exact hm.trans this⟩, by simp [intOf]; omega⟩
    · have : j = n := by omega
      subst this
      go_wp2
      go_ret
      exact ⟨ret_int (by rw [HK.out]), by rw [List.drop_of_length_le (by have := Hx.out.len; omega), List.append_nil] at ho; exact ho, hm⟩

set_option maxHeartbeats 3200000 in
theorem heldDepS_any {a : Option Addr} {n c B : Nat} {k : Int} {w : World} (hx : OwnD w B a n c (mk3 k n)) (hn : n ≤ 1000000) (hk0 : 0 ≤ k) (hk1 : k ≤ 1048576) :
    Calls Tryz.prog 19 #[.slice a n c, .int .i64 k] w fun e w' => e = .returned (.int .i64 (k + 3 * n)) ∧ Quiet w w' := by
  go_enter Tryz.func19, Tryz.ntmps19
  have Hx := hid hx; clear hx
  go_wp2
  go_loopw [1, 5] (fun q i wr => ∃ (j : Nat) (K : Int), j ≤ n ∧ i = .int .i64 j ∧ q = .int .i64 K ∧ Hid (K = k + 3 * j) ∧ Quiet w wr) (fun _ i _ => n - (intOf i).toNat)
  case atStart => exact ⟨0, k, Nat.zero_le _, rfl, rfl, hid (by omega), Quiet.refl _⟩
  case round =>
    obtain ⟨j, K, hj, rfl, rfl, HK, hq⟩ := hrel
    by_cases hlt : j < n
    · obtain ⟨g, cur, rfl, hB, hg, hr⟩ := Hx.out.row (by omega)
      obtain ⟨p0, p1, p2⟩ := hr j _ (mk3_at hlt)
      have c0 : wr.cell? ⟨g, j * 3, none⟩ = some (.int .i64 K) := by rw [hq.cell, cell_of_row w _ _ _ _ _ hg, HK.out]; exact p0
      have c1 : wr.cell? ⟨g, j * 3 + 1, none⟩ = some (.int .i64 (K + 1)) := by rw [hq.cell, cell_of_row w _ _ _ _ _ hg, HK.out]; exact p1
      have c2 : wr.cell? ⟨g, j * 3 + 2, none⟩ = some (.int .i64 (K + 1 + 1)) := by rw [hq.cell, cell_of_row w _ _ _ _ _ hg, HK.out, p2]; congr 2; show k + 3 * (j : Int) + 2 = k + 3 * (j : Int) + 1 + 1; omega
      have hK0 : 0 ≤ K := by have := HK.out; omega
      have hK1 : K ≤ 9000000 := by have := HK.out; omega
      clear hr p0 p1 p2 hg
      go_wp2
      exact ⟨⟨j + 1, K + 1 + 1 + 1, by omega, rfl, int_i64 (by omega), hid (by have := HK.out; omega), hq⟩, by simp [intOf]; omega⟩
    · have : j = n := by omega
      subst this
      go_wp2
      go_ret
      exact ⟨ret_int (by rw [HK.out]), hq⟩
/-- A function that answers a list of dependences; where it lies is not told. -/
def PureCD (f : FuncId) (args : List V1) (ds : List Dpn) : Prop := ∀ (B : Nat → Prop) (w : World) (vs : List Value), Vals (V1r bx0 al0 B w) args vs →
  Calls Tryz.prog f vs.toArray w fun e w' => (∃ a c, e = .returned (.slice a ds.length c) ∧ Dr (fun b => b < w'.heap.size) w' (dDs ds) (.slice a ds.length c)) ∧ Below w.heap.size w w'
/-- A function that answers a list of dependences in memory of its own. -/
def OwnCD (f : FuncId) (args : List V1) (ds : List Dpn) : Prop := ∀ (B : Nat → Prop) (w : World) (vs : List Value), Vals (V1r bx0 al0 B w) args vs →
  Calls Tryz.prog f vs.toArray w fun e w' => (∃ a c, e = .returned (.slice a ds.length c) ∧ OwnD w' w.heap.size a ds.length c ds) ∧ Below w.heap.size w w'
theorem Fn.pureCD {f : FuncId} {args : List V1} {ds : List Dpn} (h : Fn Tryz.prog f [] args (.o (vD (dDs ds))) []) : PureCD f args ds := fun B w vs hv => by
  refine (h.calls hv).mono ?_
  rintro e w' ⟨⟨v, B', rfl, hv⟩, hb⟩
  have hv : Dr _ w' (dDs ds) v := hv
  obtain ⟨a, c, rfl, _⟩ := hv.slice
  have hv2 := hv.mono (B' := fun b => b < w'.heap.size) fun b _ h => h
  rw [List.length_map] at hv2 ⊢
  exact ⟨⟨a, c, rfl, hv2⟩, hb⟩
theorem Fn.nilCD {f : FuncId} {args : List V1} (h : Fn Tryz.prog f [] args (.o (vD (.val (.slice none 0 0)))) []) : OwnCD f args [] := fun B w vs hv => by
  refine (h.calls hv).mono ?_
  rintro e w' ⟨⟨v, B', rfl, hv⟩, hb⟩
  have hv : Dr _ w' (.val (.slice none 0 0)) v := hv
  cases hv
  exact ⟨⟨none, 0, rfl, rfl, Nat.le_refl _, fun _ => rfl, fun b ⟨o, e⟩ => (by cases e), fun h => absurd h (by simp)⟩, hb⟩
theorem Fn.ownCD {f : FuncId} {args : List V1} {ds : List Dpn} (h : Fn Tryz.prog f [] args (.o (.c (.own 100 3 ds.length))) [(.b 100, .b 51 3 (dR (ds.map rD))), (.u 100, .u)]) : OwnCD f args ds := fun B w vs hv => by
  refine (h B bx0 w vs ⟨fun k e sz rows h => (by cases h), fun k l hk => (no_al0 k hk).elim, fun k hk => (no_al0 k hk).elim⟩ hv).mono ?_
  rintro e w' ⟨v, bx', rfl, hp⟩
  have ha : Al (lk [(.b 100, .b 51 3 (dR (ds.map rD))), (.u 100, .u)]) 100 := ⟨_, _, _, rfl⟩
  obtain ⟨_, h2⟩ := (show Cr bx' _ (Baft bx' B w (lk [(.b 100, .b 51 3 (dR (ds.map rD))), (.u 100, .u)])) w' (.own 100 3 ds.length) v from hp.val)
  obtain ⟨cap, rfl, h3, h4, h5⟩ := h2 ha
  obtain ⟨cur, h6, h7, h8, h9, h10⟩ := hp.ok.1 100 _ _ _ rfl
  have hn : w.heap.size ≤ (bx' 100).1 := (hp.new 100 ha).elim id fun ⟨l, hl, _⟩ => (no_al0 l hl).elim
  refine ⟨⟨_, cap, rfl, rfl, h3, fun e => (by cases e), fun b ⟨o, e⟩ => (by cases e; exact hn), fun _ => ⟨(bx' 100).1, cur, rfl, hn, h6, fun i d hd => ?_⟩⟩, hp.os, hp.tape, hp.output, hp.size, fun b hb => hp.old b hb fun k hk => (no_al0 k hk).elim⟩
  have hrow : (dR (ds.map rD))[i]? = some [.d (dI d.1), .d (dI d.2.1), .d (dI d.2.2)] := by rw [dR, List.getElem?_map, List.getElem?_map, hd]; rfl
  have key : ∀ (j : Nat) (z : Int), [C.d (dI d.1), .d (dI d.2.1), .d (dI d.2.2)][j]? = some (.d (dI z)) → cur[i * 3 + j]? = some (.int .i64 z) := fun j z hz => by
    obtain ⟨u, h11, h12⟩ := h10 i _ j _ hrow hz
    have h12 : Dr _ w' (dI z) u := h12
    cases h12
    exact h11
  exact ⟨key 0 _ rfl, key 1 _ rfl, key 2 _ rfl⟩
theorem strR_ownC {g : Prg} (hs : szG g ≤ 1073741824) : OwnCD 16 [ad (rG g)] (strV g) := by
  cases hV : prgV g with
  | false => rw [strV_no hV]; exact (strR_bad hs hV).nilCD
  | true =>
    by_cases hz : depsG g = []
    · rw [strV_yes hV, strG, hz]; exact (strR_nil hs hV hz).nilCD
    · exact (strR_own hs hV hz).ownCD
theorem dec_selfD (ds : List Dpn) : decide (ds = ds) = true := by simp

theorem strP_len (g : Prg) : (strV g).length ≤ 14400 := by
  cases hV : prgV g with
  | false => rw [strV_no hV]; simp
  | true => rw [strV_yes hV]; exact strG_len (prgV_s hV).2.2
set_option maxHeartbeats 6400000 in
theorem lawXst {g : Prg} (ho : okPrg g) {xs : List Dpn} (hx : xs.length ≤ 1000000) (qs : szG g ≤ 1048576 → PureCD 15 [ad (rG g)] xs) (qi : szG g ≤ 1048576 → OwnCD 16 [ad (rG g)] xs)
    {w : World} {u0 u1 : Value} (d0 : Dr (fun b => b < w.heap.size) w (dRs g.1) u0) (d1 : Dr (fun b => b < w.heap.size) w (dPts g.2) u1) : Truth Tryz.prog 4 #[.agg #[u0, u1]] w := by
  have L0 := LawS.start w [u0, u1]
  have hz := szPrg_fn (l := 1048576) (by omega) ho
  have D0 := hid d0; have D1 := hid d1; clear d0 d1
  have HL0 := hid L0; clear L0
  have HX := hid hx; clear hx
  by_cases hs : szG g ≤ 1048576
  case neg =>
    rw [subZ_no (by omega)] at hz
    have HZ := hid hz; clear hz qs qi ho
    go_enter Tryz.func4, Tryz.ntmps4
    go_wp2_with fail
    refine (HZ.out.callsI (vs := [_, _]) (vals2_mk (ad2_v (D0.out.frame (below_sameAll HL0.out.below _)) (D1.out.frame (below_sameAll HL0.out.below _))) (Dr.val (.int .i64 1048576) rfl))).mono ?_
    rintro e wA ⟨rfl, bA⟩
    have LA := HL0.out.fwd bA HL0.out.lt
    have HLA := hid LA; clear LA
    go_wp2_with fail
    go_ret
    exact ⟨rfl, HLA.out.below⟩
  rw [subZ_yes (by omega)] at hz
  have qs := hid (qs hs); have qi := hid (qi hs)
  have hcp := hid (copyPrg hs)
  have hep := hid (eqPrg_fn g g (by omega))
  have HS := hid hs
  have HZ := hid hz
  have hz0 : (0 : Int) ≤ 1048576 - (szG g : Nat) := by omega
  clear hz ho hs
  obtain ⟨z, hz1⟩ : ∃ z : Int, z = 1048576 - (szG g : Nat) := ⟨_, rfl⟩
  rw [← hz1] at HZ hz0
  clear hz1
  go_enter Tryz.func4, Tryz.ntmps4
  go_wp2_with fail
  refine (HZ.out.callsI (vs := [_, _]) (vals2_mk (ad2_v (D0.out.frame (below_sameAll HL0.out.below _)) (D1.out.frame (below_sameAll HL0.out.below _))) (Dr.val (.int .i64 1048576) rfl))).mono ?_
  rintro e wA ⟨rfl, bA⟩
  have HLA := hid (HL0.out.fwd bA HL0.out.lt); clear bA
  have c0 := HLA.out.c 0 rfl; have c1 := HLA.out.c 1 rfl
  go_wp2_with fail
  clear c0 c1
  refine (hcp.out _ _ [u0, u1] rfl (all2 (D0.out.frame (below_sameAll HLA.out.below _)) (D1.out.frame (below_sameAll HLA.out.below _)))).mono ?_
  rintro e wB ⟨vs, rfl, bB, hv⟩
  obtain ⟨y0, l0, rfl, hv1⟩ := len_cons hv.1
  obtain ⟨y1, l1, rfl, hv2⟩ := len_cons hv1
  obtain rfl := len_zero hv2
  have NB0 := hid (hv.2 0 _ _ rfl rfl); have NB1 := hid (hv.2 1 _ _ rfl rfl); clear hv hv1 hv2
  have HLB := hid (HLA.out.fwd bB HLA.out.lt); clear bB
  go_wp2_with fail
  refine (qs.out _ _ [.agg #[y0, y1]] (vals1_mk (ad2_v NB0.out.dr NB1.out.dr))).mono ?_
  rintro e wC ⟨⟨a0, k0, rfl, i0⟩, bC⟩
  have HLC := hid (HLB.out.fwd bC HLB.out.lt); clear bC NB0 NB1
  have I0 := hid i0; clear i0
  have c0 := HLC.out.c 0 rfl; have c1 := HLC.out.c 1 rfl
  go_wp2_with fail
  clear c0 c1
  refine (hcp.out _ _ [u0, u1] rfl (all2 (D0.out.frame (below_sameAll HLC.out.below _)) (D1.out.frame (below_sameAll HLC.out.below _)))).mono ?_
  rintro e wD ⟨vs, rfl, bD, hv⟩
  obtain ⟨x0, l0, rfl, hv1⟩ := len_cons hv.1
  obtain ⟨x1, l1, rfl, hv2⟩ := len_cons hv1
  obtain rfl := len_zero hv2
  have ND0 := hid (hv.2 0 _ _ rfl rfl); have ND1 := hid (hv.2 1 _ _ rfl rfl); clear hv hv1 hv2
  have HBD := hid bD; clear bD
  have HA := hid ((HBD.out).alloc HBD.out.size (.cells #[x0, x1] 32))
  have HBx := hid (heap_alloc_new wD (.cells #[x0, x1] 32))
  have HAl := hid (show Below wD.heap.size wD (wD.alloc (.cells #[x0, x1] 32)) from (Below.refl _ _).alloc (Nat.le_refl _) _)
  have ND0a := hid (ND0.out.fwd HAl.out); have ND1a := hid (ND1.out.fwd HAl.out)
  have s0 := fun a m w => run_store Tryz.prog w a x0 m ND0.out.one; have s1 := fun a m w => run_store Tryz.prog w a x1 m ND1.out.one
  go_wp2_with fail
  clear s0 s1
  refine (qi.out _ _ [.agg #[x0, x1]] (vals1_mk (ad2_v ND0a.out.dr ND1a.out.dr))).mono ?_
  rintro e wE ⟨⟨a1, k1, rfl, o1⟩, bE⟩
  have O1 := hid (show OwnD wE (wD.heap.size + 1) _ _ _ _ by have := o1; simpa using this); clear o1
  have HBE := hid (HA.out.trans (bE.mono HA.out.size))
  have HDE := hid (HAl.out.trans (bE.mono HAl.out.size))
  have HBx1 := hid ((bE.block _ (by simp)).trans HBx.out); clear bE
  go_wp2_with fail
  refine ((eqDeps_fn xs xs (by have := HX.out; omega)).callsB (vs := [_, _]) (B := fun _ => True) (vals2_mk (O1.out.dr (by have := HX.out; omega)) (I0.out.to (below_sameAll (HBE.out.mono (Nat.le_refl _)) _) fun _ _ _ => trivial))).mono ?_
  rintro e wF ⟨rfl, q⟩
  rw [dec_selfD]
  have HBF := hid (HBE.out.trans ((q).mono HBE.out.size)); have HDF := hid (HDE.out.trans ((q).mono HDE.out.size))
  have O1F := hid (O1.out.fwd (q)); have HBxF := hid ((q.block _ (blk_lt HBx1.out)).trans HBx1.out); clear q
  have HLF := hid (HLC.out.fwd HBF.out HLC.out.lt)
  have c0 := HLF.out.c 0 rfl; have c1 := HLF.out.c 1 rfl
  have e0 : wF.cell? ⟨wD.heap.size, 0, none⟩ = some x0 := by rw [cell_of_row wF _ _ _ _ _ HBxF.out]; rfl
  have e1 : wF.cell? ⟨wD.heap.size, 1, none⟩ = some x1 := by rw [cell_of_row wF _ _ _ _ _ HBxF.out]; rfl
  go_wp2_with fail
  go_region_held3 (fun wq => wq.cell? ⟨w.heap.size, 0, none⟩ = some u0 ∧ wq.cell? ⟨w.heap.size, 1, none⟩ = some u1 ∧ wq.cell? ⟨wD.heap.size, 0, none⟩ = some x0 ∧ wq.cell? ⟨wD.heap.size, 1, none⟩ = some x1)
    ((repeat' apply And.intro) <;> first | assumption | go_keep)
    (first
    | (go_at_call 8
       refine (hcp.out _ _ [u0, u1] rfl (all2 (D0.out.frame (below_sameAll (HLF.out.below.drew) _)) (D1.out.frame (below_sameAll (HLF.out.below.drew) _)))).mono ?_
       rintro e wG ⟨vs, rfl, bG, hv⟩
       obtain ⟨z0, l0, rfl, hv1⟩ := len_cons hv.1
       obtain ⟨z1, l1, rfl, hv2⟩ := len_cons hv1
       obtain rfl := len_zero hv2
       have NG0 := hid (hv.2 0 _ _ rfl rfl); have NG1 := hid (hv.2 1 _ _ rfl rfl)
       have HFG := hid (show Below wF.heap.size wF wG from (Below.refl _ _).drew.trans bG)
       clear hv hv1 hv2 bG
       have c0 := (HLF.out.fwd HFG.out HLF.out.lt).c 0 rfl; have c1 := (HLF.out.fwd HFG.out HLF.out.lt).c 1 rfl
       have e0 : wG.cell? ⟨wD.heap.size, 0, none⟩ = some x0 := by rw [cell_of_row wG _ _ _ _ _ ((HFG.out.block _ (blk_lt HBxF.out)).trans HBxF.out)]; rfl
       have e1 : wG.cell? ⟨wD.heap.size, 1, none⟩ = some x1 := by rw [cell_of_row wG _ _ _ _ _ ((HFG.out.block _ (blk_lt HBxF.out)).trans HBxF.out)]; rfl)
    | (go_at_call 11
       refine (hep.out.callsB (vs := [_, _]) (B := fun _ => True) (vals2_mk (ad2_v (((ND0.out.fwd HDF.out).fwd HFG.out).dr.mono fun _ _ _ => trivial) (((ND1.out.fwd HDF.out).fwd HFG.out).dr.mono fun _ _ _ => trivial)) (ad2_v (NG0.out.dr.mono fun _ _ _ => trivial) (NG1.out.dr.mono fun _ _ _ => trivial)))).mono ?_
       rintro e wH ⟨rfl, bH⟩
       rw [sameG_refl]
       have HFH := hid (HFG.out.trans (bH.mono HFG.out.size))
       clear bH
       have c0 := (HLF.out.fwd HFH.out HLF.out.lt).c 0 rfl; have c1 := (HLF.out.fwd HFH.out HLF.out.lt).c 1 rfl
       have e0 : wH.cell? ⟨wD.heap.size, 0, none⟩ = some x0 := by rw [cell_of_row wH _ _ _ _ _ ((HFH.out.block _ (blk_lt HBxF.out)).trans HBxF.out)]; rfl
       have e1 : wH.cell? ⟨wD.heap.size, 1, none⟩ = some x1 := by rw [cell_of_row wH _ _ _ _ _ ((HFH.out.block _ (blk_lt HBxF.out)).trans HBxF.out)]; rfl))

  have HBH := hid (HBF.out.trans (HFH.out.mono HBF.out.size)); have HDH := hid (HDF.out.trans (HFH.out.mono HDF.out.size))
  have O1H := hid (O1F.out.fwd HFH.out)
  clear NG0 NG1 HFG HFH HLF HBxF
  go_wp2_with fail
  clear c0 c1 e0 e1
  refine (markPrg_k HS.out (S := fun b => wC.heap.size ≤ b ∧ b < wD.heap.size) ((ND0.out.k fun b h1 h2 => ⟨h1, h2⟩).mark (marked_of HDH.out (fun _ => True))) ((ND1.out.k fun b h1 h2 => ⟨h1, h2⟩).mark (marked_of HDH.out (fun _ => True))) (fun b h => Nat.lt_of_lt_of_le h.2 HDH.out.size)).mono ?_
  rintro e wI ⟨⟨k, hk0, hk1, rfl⟩, mI⟩
  have HBI := hid (HBH.out.trans (mI.below (fun b h => h.1) HBH.out.size))
  have O1I := hid (O1H.out.marked mI (fun b h => by have := h.2; omega)); clear mI
  have h2 : decide (k < 0) = false := by simp; omega
  go_wp2_with fail
  clear h2
  refine ((eqDeps_fn xs xs (by have := HX.out; omega)).callsB (vs := [_, _]) (B := fun _ => True) (vals2_mk (O1I.out.dr (by have := HX.out; omega)) (I0.out.to (below_sameAll (HBI.out.mono (Nat.le_refl _)) _) fun _ _ _ => trivial))).mono ?_
  rintro e wJ ⟨rfl, q⟩
  rw [dec_selfD]
  have HBJ := hid (HBI.out.trans ((q).mono HBI.out.size)); have O1J := hid (O1I.out.fwd (q)); clear q
  go_wp2_with fail
  refine (markDepS_any (k := 1) O1J.out HX.out (by omega) (by omega)).mono ?_
  rintro e wK ⟨rfl, o, gK⟩
  have HBK := hid (HBJ.out.trans (gK.below (fun b hb => by have := O1J.out.ge b hb; have := HBD.out.size; omega) HBJ.out.size))
  have O1K := hid o; clear o gK
  go_wp2_with fail
  refine (heldDepS_any (k := 1) O1K.out HX.out (by omega) (by omega)).mono ?_
  rintro e wL ⟨rfl, q0⟩
  have q := q0.below wK.heap.size
  have HBL := hid (HBK.out.trans ((q).mono HBK.out.size)); have O1L := hid (O1K.out.fwd (q)); clear q
  have HLL := hid (HLC.out.fwd HBL.out HLC.out.lt)
  have h3 : decide ((1 : Int) + 3 * (xs.length : Nat) < 0) = false := by simp; omega
  have c0 := HLL.out.c 0 rfl; have c1 := HLL.out.c 1 rfl
  go_wp2_with fail
  clear c0 c1
  refine (hcp.out _ _ [u0, u1] rfl (all2 (D0.out.frame (below_sameAll HLL.out.below _)) (D1.out.frame (below_sameAll HLL.out.below _)))).mono ?_
  rintro e wM ⟨vs, rfl, bM, hv⟩
  obtain ⟨m0, l0, rfl, hv1⟩ := len_cons hv.1
  obtain ⟨m1, l1, rfl, hv2⟩ := len_cons hv1
  obtain rfl := len_zero hv2
  have NM0 := hid (hv.2 0 _ _ rfl rfl); have NM1 := hid (hv.2 1 _ _ rfl rfl); clear hv hv1 hv2
  have HBM := hid (HBL.out.trans (bM.mono HBL.out.size)); have O1M := hid (O1L.out.fwd bM); clear bM
  go_wp2_with fail
  refine (qi.out _ _ [.agg #[m0, m1]] (vals1_mk (ad2_v NM0.out.dr NM1.out.dr))).mono ?_
  rintro e wN ⟨⟨a2, k2, rfl, o2⟩, bN⟩
  have O2 := hid o2; clear o2
  have HBN := hid (HBM.out.trans (bN.mono HBM.out.size)); have O1N := hid (O1M.out.fwd bN); clear bN
  go_wp2_with fail
  refine ((eqDeps_fn xs xs (by have := HX.out; omega)).callsB (vs := [_, _]) (B := fun _ => True) (vals2_mk (O2.out.dr (by have := HX.out; omega)) (I0.out.to (below_sameAll (HBN.out.mono (Nat.le_refl _)) _) fun _ _ _ => trivial))).mono ?_
  rintro e wO ⟨rfl, q⟩
  rw [dec_selfD]
  have HBO := hid (HBN.out.trans ((q).mono HBN.out.size)); have O1O := hid (O1N.out.fwd (q)); clear q
  go_wp2_with fail
  refine (heldDepS_any (k := 1) O1O.out HX.out (by omega) (by omega)).mono ?_
  rintro e wP ⟨rfl, q0⟩
  have q := q0.below wO.heap.size
  have HBP := hid (HBO.out.trans ((q).mono HBO.out.size)); clear q
  go_wp2_with fail
  go_ret
  exact ⟨rfl, HLC.out.below.trans (HBP.out.mono (Nat.le_of_lt HLC.out.lt))⟩
theorem lawExst {g : Prg} (ho : okPrg g) {w : World} {v : Value} (e0 : V1r bx0 al0 (fun b => b < w.heap.size) w (ad (rG g)) v) : Truth Tryz.prog 4 #[v] w := by
  obtain ⟨u0, u1, rfl, d0, d1⟩ := e0_parts e0
  exact lawXst ho  (by have := strP_len g; omega) (fun hs => (specStr_fn (by omega)).pureCD) (fun hs => strR_ownC (by omega)) d0 d1
end Go.Proofs.YtlecfjlgbkghfaaGreat
