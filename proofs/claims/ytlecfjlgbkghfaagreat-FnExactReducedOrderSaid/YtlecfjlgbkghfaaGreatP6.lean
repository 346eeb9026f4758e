/- Part 6 of 6 of the proof: laws on memory and data, then what the functions compute, in the order in which they build on each other; conditions: those that each theorem names. -/
import Derived.Lib.SliceRun
import Derived.Test.YtlecfjlgbkghfaaGreatP5
set_option maxRecDepth 100000
set_option maxHeartbeats 1600000

namespace Go.Proofs.YtlecfjlgbkghfaaGreat
set_option linter.unusedVariables false
set_option linter.unusedSimpArgs false
open Go.RowKit
section
variable {P : Program} {n : Nat} {ops : Array Oper} {o : Oper} {σ : St} {d : Nat} {t e : TypeId} {x y : Operand} {k sz by' m i : Nat} {p : Int} {rows : List (List C)}
theorem St1.sliceToB (h4 : (o.op, o.guard, o.dst, Nat.blt d n) = (Op.slice t x none (some y) none, none, some d, true)) (ht : tyS P t = some (e, sz, by')) (hx : ev σ x = some (.o (.c (.own k sz m)))) (hb : lk σ (.b k) = .b e sz rows) (hy : ev σ y = some (.o (nat1 p))) (hp : p = (i : Int)) (hi : i ≤ m) :
    St1 P n ops o σ ((rd x ++ rd y) ++ [.b k]) [.t d] ((.t d, .v (.o (.c (.own k sz i)))) :: σ) := by
  simp only [Prod.mk.injEq] at h4
  obtain ⟨ho, hg, hd, hn⟩ := h4
  exact St1.value hg hd hn fun E bx τ a w hR hs => by
    subst hp
    have hk : τ (.b k) = .b e sz rows := (rd_r hR _ (by simp)).trans hb
    obtain ⟨cap, e1, c1, c2, c3⟩ := ev_own hx (rd_l (rd_l hR)) hs (Al_of hk)
    obtain ⟨hu, _⟩ := tyS_out ht
    have hrefs := (ev_ok hx (rd_l (rd_l hR)) hs).2
    refine ⟨⟨.slice (some ⟨(bx k).1, 0, none⟩) i cap, ?_, ⟨rfl, fun _ => ⟨cap, rfl, by omega, c2, c3⟩⟩⟩, hrefs⟩
    have hbd : 0 ≤ (i : Int) ∧ (i : Int) ≤ (cap : Int) := by omega
    simp [execOp, ho, e1, ev_val hy (rd_r (rd_l hR)) hs, sliceAt_list ht, Instr.slice, run_underlying hu, Instr.sliceBounds, Instr.sliceBound, asIntOf, hbd, run_sizeE ht]
    rw [if_pos (by omega)]
    simp [Addr.add]
/-- What clear writes is cells. -/
def tyC (P : Program) (t : TypeId) : Bool := match P.underlying t with
  | some (.slice e) => match P.info? e with
    | some i => match i.zero with
      | some z => Nat.beq z.cells.size i.size && (Nat.blt 0 i.size && z.cells.toList.all fun v => v.oneCell')
      | none => false
    | none => false
  | _ => false
theorem zeroCells_ok {zs : Array Value} {q : Nat} (h0 : 0 < zs.size) (h : ∀ v ∈ zs.toList, v.oneCell' = true) : (Builtin.zeroCells zs q).toList.length = q * zs.size ∧ ∀ v ∈ (Builtin.zeroCells zs q).toList, v.oneCell' = true := by
  refine ⟨by simp [Builtin.zeroCells], fun v hv => ?_⟩
  simp only [Builtin.zeroCells, Array.toList_map, List.mem_map] at hv
  obtain ⟨j, _, rfl⟩ := hv
  have hj : j % zs.size < zs.size := Nat.mod_lt _ h0
  rw [getElem!_pos zs _ hj]
  exact h _ (Array.mem_toList_iff.2 (Array.getElem_mem hj))
theorem run_clear_own {w : World} {b q c s : Nat} {cur : Array Value} (hc : tyC P t = true) (ht : tyS P t = some (e, sz, by')) (hw : w.heap[b]? = some (.cells cur e (0, 0))) (hq : 0 < q) (hs : s + q * sz ≤ cur.size) {ty : TypeId} :
    ∃ vs : List Value, vs.length = q * sz ∧ (Builtin.clear_ #[t] ty #[.slice (some ⟨b, s, none⟩) q c]).run P w = .ok (.tuple #[]) (w.setCells b s vs) := by
  obtain ⟨hu, i, hi, hsz, _⟩ := tyS_out ht
  simp only [tyC, hu, hi] at hc
  cases hz : i.zero with
  | none => rw [hz] at hc; cases hc
  | some z =>
    rw [hz] at hc
    simp only [Bool.and_eq_true] at hc
    obtain ⟨h1, h2, h3⟩ := hc
    have h1' := Nat.eq_of_beq_eq_true h1
    have h2' : 0 < i.size := by simpa using h2
    obtain ⟨g1, g2⟩ := zeroCells_ok (zs := z.cells) (q := q) (by omega) (fun v hv => List.all_eq_true.1 h3 v hv)
    refine ⟨(Builtin.zeroCells z.cells q).toList, by rw [g1, h1', hsz], ?_⟩
    have hst := run_storeCells_cells (P := P) b s (Builtin.zeroCells z.cells q).toList 0 w (fun j hj => by rw [cell_of_row w _ _ _ _ _ hw, Array.getElem?_eq_getElem (by rw [g1, h1', hsz] at hj; omega)]; rfl) (fun j hj => by simp [World.frozen?, hw]) g2
    simp only [Nat.add_zero] at hst
    obtain ⟨q', rfl⟩ : ∃ q', q = q' + 1 := ⟨q - 1, by omega⟩
    simp [Builtin.clear_, run_underlying hu, zeroValue, typeInfo, hi, hz, hst]
theorem AOps.clrB {o1 o2 : Oper} {l : List Oper} {K : St → Prop} (h4 : (o1.op, o1.guard, o1.dst, Nat.blt d n) = (Op.slice t x (some y) none none, none, some d, true)) (h5 : (o2.op, o2.guard, o2.dst) = (Op.call { callee := .builtin .clear, args := #[.tmp d], argTypes := #[t] }, none, none))
    (ht : tyS P t = some (e, sz, by')) (hc : tyC P t = true) (hx : ev σ x = some (.o (.c (.own k sz m)))) (hb : lk σ (.b k) = .b e sz rows) (hm : rows.length = m) (hy : ev σ y = some (.o (nat1 p))) (hp : p = (i : Int)) (hi : i < m)
    (kk : AOps P n ops l K ((.b k, .b e sz (rows.take i)) :: (.t d, .no) :: σ)) : AOps P n ops (o1 :: o2 :: l) K σ := by
  simp only [Prod.mk.injEq] at h4 h5
  obtain ⟨ho, hg, hd, hn⟩ := h4
  obtain ⟨ho2, hg2, hd2⟩ := h5
  subst hp hm
  intro E bx a w hE hs Q hQ
  have hR : ∀ r, lk σ r = lk σ r := fun _ => rfl
  obtain ⟨cap, e1, c1, c2, c3⟩ := ev_own hx (fun _ _ => rfl) hs (Al_of hb)
  obtain ⟨hu, _⟩ := tyS_out ht
  obtain ⟨cur, b1, b2, b3, b4, b5⟩ := hs.box k e sz rows hb
  refine wpList_step fun KK hKK => ?_
  rw [if_pos (by simp [Region.wanted, hg])]
  unfold Oper.wp
  have hbd : 0 ≤ (i : Int) ∧ (i : Int) ≤ (rows.length : Int) := by omega
  have hrun : (execOp a.eval o1).run P w = .ok (.value (.slice (some ⟨(bx k).1, i * sz, none⟩) (rows.length - i) (cap - i))) w := by
    simp [execOp, ho, e1, ev_val hy (fun _ _ => rfl) hs, sliceAt_list ht, Instr.slice, run_underlying hu, Instr.sliceBounds, Instr.sliceBound, asIntOf, hbd, run_sizeE ht]
    rw [if_pos (by omega), if_neg (by omega)]
    simp [Addr.add]
    exact fun h => h.symm
  rw [hrun, Oper.upon_value, hd]
  refine hKK _ _ ?_
  have hdn : d < E.n := by rw [hE]; simpa using hn
  have hs1 : SR E bx (upd (lk σ) (.t d) .no) (a.put (some d) (.slice (some ⟨(bx k).1, i * sz, none⟩) (rows.length - i) (cap - i))) w := hs.drop _
  refine wpList_step fun KK2 hKK2 => ?_
  rw [if_pos (by simp [Region.wanted, hg2])]
  unfold Oper.wp
  have hle := Nat.mul_le_mul_right sz (show i ≤ rows.length by omega)
  have hsum : i * sz + (rows.length - i) * sz ≤ cur.size := by rw [Nat.sub_mul]; omega
  obtain ⟨vs, v1, v2⟩ := run_clear_own (P := P) (w := w) (b := (bx k).1) (q := rows.length - i) (c := cap - i) (s := i * sz) hc ht b1 (by omega) hsum (ty := o2.type)
  have hrun2 : (execOp (a.put (some d) (.slice (some ⟨(bx k).1, i * sz, none⟩) (rows.length - i) (cap - i))).eval o2).run P w = .ok (.value (.tuple #[])) (w.setCells (bx k).1 (i * sz) vs) := by
    have hda : d < a.tmps.size := by rw [hs.size]; exact hdn
    have hev : (a.put (some d) (.slice (some ⟨(bx k).1, i * sz, none⟩) (rows.length - i) (cap - i))).eval (.tmp d) = .slice (some ⟨(bx k).1, i * sz, none⟩) (rows.length - i) (cap - i) := by
      simp [Act.put, Act.eval, hda]
    simp only [execOp, ho2, resolve, invoke, builtin, Sem.run_bind, Sem.run_pure, Result.andThen_ok, List.map_toArray, List.map_cons, List.map_nil, hev, v2]
  rw [hrun2, Oper.upon_value, hd2]
  refine hKK2 _ _ ?_
  obtain ⟨cur', f1, f2, f3⟩ := heap_setCells (bx k).1 e vs (i * sz) w cur b1 (by rw [v1]; exact hsum)
  have hkb : upd (lk σ) (.t d) .no (.b k) = .b e sz rows := by rw [upd_other _ _ (by simp)]; exact hb
  have hnew := hs1.write (rows' := rows.take i) hkb (setCells_grown (bx k).1 vs (i * sz) w) f1 (by rw [f2, b2]) (by rw [List.length_take, f2]; exact Nat.le_trans (Nat.mul_le_mul_right sz (Nat.min_le_right _ _)) b3)
    (fun j r hj => by rw [List.getElem?_take] at hj; split at hj; · exact b4 j r hj
                      · cases hj)
    (fun j r q c hj hq => by
      have hj0 : j < i ∧ rows[j]? = some r := by
        rw [List.getElem?_take] at hj
        split at hj
        · exact ⟨by assumption, hj⟩
        · cases hj
      obtain ⟨u, u1, u2⟩ := b5 j r q c hj0.2 hq
      have hqs : q < sz := by have := b4 j r hj0.2; have := (List.getElem?_eq_some_iff.1 hq).1; omega
      have hmul := Nat.mul_le_mul_right sz (show j + 1 ≤ i by omega)
      rw [Nat.add_mul, Nat.one_mul] at hmul
      have hal := Al_upd_t (lk σ) d .no
      have hbf := Bf_upd_t (E := E) (bx := bx) (lk σ) d .no
      refine ⟨u, ?_, by rw [hal, hbf]; exact u2⟩
      rw [← Array.getElem?_toList, f3, List.append_assoc, List.getElem?_append_left (by rw [List.length_take, Array.length_toList]; omega), List.getElem?_take, if_pos (by omega), Array.getElem?_toList]
      exact u1)
    (fun r hr c hc' l hl => by
      rw [upd_other _ _ (by simp)]
      exact fun hu' => (hs.unused l hu').2.2 k e sz rows hb r (List.mem_of_mem_take hr) c hc' hl)
  refine kk E bx _ _ hE ?_ Q hQ
  have e9 : lk ((.b k, .b e sz (rows.take i)) :: (.t d, .no) :: σ) = upd (upd (lk σ) (.t d) .no) (.b k) (.b e sz (rows.take i)) := by rw [lk_cons, lk_cons]
  rw [e9]
  exact hnew
end
def hbT (k : Nat) (g : Prg) : St := [(.b k, .b 62 1 [[.ptr (rT g)]]), (.u k, .u)]
def hbD (g : Prg) (l : List Dpn) : St := [(.b 0, .b 51 3 (dR (l.map rD))), (.u 0, .u), (.b 1, .b 62 1 [[.ptr (rT g)]]), (.u 1, .u)]
theorem hbT_HB (k : Nat) (g : Prg) : HB (hbT k g) := HB.nil.cons (by
  intro r hr c hc l hl
  rw [List.mem_singleton.1 hr] at hc
  rw [List.mem_singleton.1 hc] at hl; cases hl)
theorem hbD_HB (g : Prg) (l : List Dpn) : HB (hbD g l) := (hbT_HB 1 g).data
theorem hbT_flat (k : Nat) (g : Prg) : flatS (hbT k g) := flatS.nil.cons rfl
theorem hbD_flat (g : Prg) (l : List Dpn) : flatS (hbD g l) := (hbT_flat 1 g).cons rfl
theorem outS_T {inv : Inv} {k : Nat} {g : Prg} : outS inv (hbT k g) = [(.b (asc inv k), .b 62 1 [[.ptr (rT g)]]), (.u (asc inv k), .u)] := rfl
theorem outS_D {inv : Inv} {g : Prg} {l : List Dpn} : outS inv (hbD g l) = [(.b (asc inv 0), .b 51 3 (dR (l.map rD))), (.u (asc inv 0), .u), (.b (asc inv 1), .b 62 1 [[.ptr (rT g)]]), (.u (asc inv 1), .u)] := by
  show [(Res.b (asc inv 0), RC.b _ 3 (renR (asc inv) (dR (l.map rD)))), (.u (asc inv 0), .u), (.b (asc inv 1), .b _ 1 [[.ptr (rT g)]]), (.u (asc inv 1), .u)] = _
  rw [renR_dR]
theorem hbT_num {g : Prg} {j : Nat} : ∀ k, k < 100 → Al (lk (hbT j g)) k → Al (lk (hbT j g)) k := fun _ _ h => h
theorem hbD_num {g : Prg} {l l' : List Dpn} : ∀ k, k < 100 → Al (lk (hbD g l')) k → Al (lk (hbD g l)) k := fun k _ h => by
  match k, h with
  | 0, _ => exact ⟨_, _, _, rfl⟩
  | 1, _ => exact ⟨_, _, _, rfl⟩
  | k + 2, ⟨e, sz, rows, h⟩ => cases h
theorem hbT_box {σ : St} {k0 : Nat} {g : Prg} (h : lk σ (.b k0) = .b 62 1 [[.ptr (rT g)]]) : ∀ k e sz rows, lk (hbT k0 g) (.b k) = .b e sz rows → lk σ (.b k) = .b e sz rows := one_box h
theorem hbD_box {σ : St} {g : Prg} {l : List Dpn} (h0 : lk σ (.b 0) = .b 51 3 (dR (l.map rD))) (h1 : lk σ (.b 1) = .b 62 1 [[.ptr (rT g)]]) : ∀ k e sz rows, lk (hbD g l) (.b k) = .b e sz rows → lk σ (.b k) = .b e sz rows := fun k e sz rows h => by
  match k, h with
  | 0, h => rw [h0]; exact h
  | 1, h => rw [h1]; exact h
  | k + 2, h => cases h
theorem red_fn {g : Prg} (hs : szG g ≤ 1073741824) (hS : prgS g = true) {n : Nat} {x : Ins} (hx : (insG 0 g.2)[n]? = some x) : ∃ k c q, InsOk g x k c q ∧ szS (stI g x) ≤ 1073741824 ∧ stmtV 4 (stI g x) = true := by
  obtain ⟨k, c, q, h⟩ := ins_at hS (List.mem_of_getElem? hx)
  have := stI_sz h
  exact ⟨k, c, q, h, by omega, stmtV_up h.sv⟩

theorem str1_fn {g : Prg} (hs : szG g ≤ 1073741824) (hS : prgS g = true) {d : Dpn} {i k : Nat} (h1 : d.1 = (i : Int)) (h2 : d.2.1 = (k : Int)) {x y : Ins} (hx : (insG 0 g.2)[i]? = some x) (hy : (insG 0 g.2)[k]? = some y) : Fn Tryz.prog 40 (hbT 0 g) [ad (rD d), .c (.box 0 1 0 0)] (.o (bo1 (redS g d))) (hbT 0 g) := by
 obtain ⟨kx, cx, qx, hIx, zx, vx⟩ := red_fn hs hS hx
 obtain ⟨ky, cy, qy, hIy, zy, vy⟩ := red_fn hs hS hy
 obtain ⟨a, b, c⟩ := d
 simp only at h1 h2
 subst h1 h2
 have hr := redS_eq (c := c) hx hy
 refine Fn.of_code Tryz.func40 rfl rfl (hbT_HB _ _) rfl rfl (hbT_HB _ _) rfl hbT_num ?_
 refine .seq <| .region <| .cons (St1.boxP rfl rfl rfl rfl rfl rfl) <| .cons (.asg rfl rfl) <| .nil <| ks_n <| .seq ?_
 refine ACode.drawK (by kernel_rfl) (by kernel_rfl) ?_
 refine .cons (.b1 1 rfl rfl rfl rfl rfl rfl) <| .cons (.nP rfl rfl) <| .cons (.fP 0 1 true rfl rfl) <| .cons (.lN 2 rfl rfl rfl) <| .cons (.b1 1 rfl rfl rfl rfl rfl rfl) <| .cons (.nP rfl rfl) <| .cons (.fP 2 0 false rfl rfl) <| .cons (.l1 1 rfl rfl) <| .cons (.fP 0 0 false rfl rfl) <| .cons (.l1 1 rfl rfl) <| .cons (.xL 82 3 40 (i := i) rfl rfl rfl rfl rfl (map_at hx)) ?_
 refine .cons (.lN 3 rfl rfl rfl) <| .cons (.cP [.tmp 9, .tmp 17] rfl rfl rfl rfl (stmt_fn hIx) rfl) ?_
 refine .cons (.b1 1 rfl rfl rfl rfl rfl rfl) <| .cons (.nP rfl rfl) <| .cons (.fP 0 1 true rfl rfl) <| .cons (.lN 2 rfl rfl rfl) <| .cons (.b1 1 rfl rfl rfl rfl rfl rfl) <| .cons (.nP rfl rfl) <| .cons (.fP 2 0 false rfl rfl) <| .cons (.l1 1 rfl rfl) <| .cons (.fP 1 0 false rfl rfl) <| .cons (.l1 1 rfl rfl) <| .cons (.xL 82 3 40 (i := k) rfl rfl rfl rfl rfl (map_at hy)) ?_
 refine .cons (.lN 3 rfl rfl rfl) <| .cons (.cP [.tmp 22, .tmp 30] rfl rfl rfl rfl (stmt_fn hIy) rfl) ?_
 refine .cons (.al 104 [.string ByteArray.empty, .slice none 0 0, .int .i64 0, .int .i64 0, .slice none 0 0, .int .i64 0, .string ByteArray.empty, .slice none 0 0, .slice none 0 0] rfl rfl rfl) <| .cons (.al 105 [.string ByteArray.empty, .slice none 0 0, .int .i64 0, .int .i64 0, .slice none 0 0, .int .i64 0, .string ByteArray.empty, .slice none 0 0, .slice none 0 0] rfl rfl rfl) <| .cons (.sT 9 true rfl rfl rfl rfl rfl rfl rfl) <| .cons (.sT 9 true rfl rfl rfl rfl rfl rfl rfl) ?_
 refine .nil ⟨by kernel_rfl, ?_⟩
 refine ks_n <| .seq <| .region <| .cons (.bN 9 rfl rfl rfl rfl rfl rfl) <| .cons (.cP [.tmp 32] rfl rfl rfl rfl (implRed_fn _ (by omega) vx) rfl) ?_
 refine .cons (.mv rfl rfl) ?_
 refine AOps.cases 34 _ rfl (fun g34 => ?_) (fun g34 => ?_)
 ·try simp only [zs1, zs2, zs3, zs4, zs5, zs6, zs7] at g34
  refine .cons (.gT rfl rfl rfl (.bN 9 rfl rfl rfl rfl rfl rfl)) <| .cons (.gT rfl rfl rfl (.cP [.tmp 35] rfl rfl rfl rfl (implRed_fn _ (by omega) vy) rfl)) ?_
  refine .cons (.pT rfl rfl rfl) <| .cons (.mv rfl rfl) ?_
  refine AOps.cases 38 _ rfl (fun g38 => ?_) (fun g38 => ?_)
  ·try simp only [zs1, zs2, zs3, zs4, zs5, zs6, zs7] at g38
   refine .cons (.gT rfl rfl rfl (.fB 0 1 true rfl rfl rfl)) <| .cons (.gT rfl rfl rfl (.fB 0 0 false rfl rfl rfl)) <| .cons (.gT rfl rfl rfl (.b1 1 rfl rfl rfl rfl rfl rfl)) <| .cons (.gT rfl rfl rfl (.fB 0 1 true rfl rfl rfl)) <| .cons (.gT rfl rfl rfl (.fB 0 0 false rfl rfl rfl)) <| .cons (.gT rfl rfl rfl (.b1 1 rfl rfl rfl rfl rfl rfl)) <| .cons (.gT rfl rfl rfl (St1.eqS rfl rfl rfl)) <| .cons (.pT rfl rfl rfl) <| .cons (.asg rfl rfl) <| .nil <| ks_n <| .ret ?_
   refine kf_ret rfl ?_ (hbT_box rfl)
   exact leafB (by rw [hr]; simp_all)
  ·try simp only [zs1, zs2, zs3, zs4, zs5, zs6, zs7] at g38
   refine .cons (.gF rfl rfl rfl) <| .cons (.gF rfl rfl rfl) <| .cons (.gF rfl rfl rfl) <| .cons (.gF rfl rfl rfl) <| .cons (.gF rfl rfl rfl) <| .cons (.gF rfl rfl rfl) <| .cons (.gF rfl rfl rfl) <| .cons (.pF rfl rfl rfl) <| .cons (.asg rfl rfl) <| .nil <| ks_n <| .ret ?_
   refine kf_ret rfl ?_ (hbT_box rfl)
   exact leafB (by rw [hr]; simp_all)
 ·try simp only [zs1, zs2, zs3, zs4, zs5, zs6, zs7] at g34
  refine .cons (.gF rfl rfl rfl) <| .cons (.gF rfl rfl rfl) <| .cons (.pF rfl rfl rfl) <| .cons (.mv rfl rfl) <| .cons (.gF rfl rfl rfl) <| .cons (.gF rfl rfl rfl) <| .cons (.gF rfl rfl rfl) <| .cons (.gF rfl rfl rfl) <| .cons (.gF rfl rfl rfl) <| .cons (.gF rfl rfl rfl) <| .cons (.gF rfl rfl rfl) <| .cons (.pF rfl rfl rfl) <| .cons (.asg rfl rfl) <| .nil <| ks_n <| .ret ?_
  refine kf_ret rfl ?_ (hbT_box rfl)
  exact leafB (by rw [hr]; simp_all)

theorem idxB_fn {f : FuncId} (hc : callable Tryz.prog f = true) {g : Prg} (p : Dpn → Bool) (l : List Dpn) (hl : l.length ≤ 1000000) (hf : ∀ x ∈ l, Fn Tryz.prog f (hbT 0 g) [ad (rD x), .c (.box 0 1 0 0)] (.o (bo1 (p x))) (hbT 0 g)) : Fn Tryz.prog 64 (hbD g l) [.c (.own 0 3 l.length), .c (.fb f 1 1)] (.o (nat1 (idxF p l))) (hbD g l) := by
 refine Fn.of_code Tryz.func64 rfl rfl (hbD_HB _ _) rfl rfl (hbD_HB _ _) rfl hbD_num ?_
 refine .seq <| .region <| .cons (.asg rfl rfl) <| .nil <| ks_n <| .seq <| .seq <| .region <| .cons (.mv rfl rfl) <| .cons (.lB 51 3 24 rfl rfl rfl rfl) <| .cons (.mv rfl rfl) <| .nil <| ks_n <| .block ?_
 refine .loopK (fun m σ => (∃ i : Nat, m = l.length - i ∧ (i ≤ l.length) ∧ (idxF p l = idxG p i (l.drop i)) ∧ σ = [(.t 0, .v (.o (.c (.own 0 3 (l.length))))), (.t 1, .v (.o (.c (.fb f 1 1)))), (.t 7, .v (.o (nat1 (l.length : Nat)))), (.t 8, .v (.o (nat1 (i : Nat)))), (.b 1, .b 62 1 ([[.ptr (rT g)]])), (.u 1, .u), (.b 0, .b 51 3 (dR (l.map rD))), (.u 0, .u)])) [(1, 1), (0, 0)] ⟨0, rfl, by omega, rfl, rfl⟩ ⟨ks rfl (.c .ow), ks rfl (.c (.fb _ _ _ _ (by first | decide | simp))), ks rfl .dt, ks rfl .dt, kb 1 rfl ((.cons (.cons (.ptr _ _ rfl) .nil) .nil)), kb 0 rfl (.dt rfl), trivial⟩ ?_
 rintro m σ ⟨i, hm0, hi, hF, rfl⟩
 refine .seq <| .region <| .cons (.ls rfl rfl rfl) <| .nil <| ks_n <| .seq ?_
 refine .cD rfl (fun h9 => ?_) (fun h9 => ?_)
 ·skip
  obtain ⟨x, hx1⟩ : ∃ x_, l[i]? = some x_ := ⟨_, List.getElem?_eq_getElem (by omega)⟩
  refine .skip <| ks_n <| .seq <| .block <| .seq <| .region <| .cons (.mv rfl rfl) <| .cons (.asg rfl rfl) <| .nil <| ks_n <| .seq <| .region <| .cons (.mv rfl rfl) <| .cons (.mv rfl rfl) <| .cons (.mv rfl rfl) <| .cons (.xB 51 3 24 rfl rfl rfl rfl rfl rfl (by omega)) ?_
  refine .cons (.bN 3 rfl rfl rfl rfl (dR_at (map_at hx1)) rfl) <| .cons (.cX [.tmp 15] [(0, 1)] rfl rfl rfl rfl rfl (hf x (List.mem_of_getElem? hx1)) rfl ⟨rfl, trivial⟩ (hbT_flat _ _) (hbT_flat _ _) (hbT_HB _ _) outS_T (hcall := hc)) ?_
  refine .nil <| ks_n ?_
  refine ACode.condT rfl (fun h16 => ?_) (fun h16 => ?_)
  ·try simp only [zs1, zs2, zs3, zs4, zs5, zs6, zs7] at h16
   refine .seq <| .region <| .cons (.mv rfl rfl) <| .cons (.asg rfl rfl) <| .nil <| ks_n <| .ret <| kb_r <| ks_r <| kl_r <| kb_r <| ks_r ?_
   refine kf_ret rfl ?_ (hbD_box rfl rfl)
   exact leafI (by rw [hF, idxG_drop hx1, h16]; rfl)
  ·try simp only [zs1, zs2, zs3, zs4, zs5, zs6, zs7] at h16
   refine .skip <| kb_n <| ks_n <| .region <| .cons (.pl rfl rfl rfl) <| .cons (.mv rfl rfl) <| .nil ?_
   refine kl_k [(1, 1), (0, 0)] ⟨i + 1, rfl, by omega, by rw [hF, idxG_drop hx1, h16]; rfl, rfl⟩ ⟨ks rfl (.c .ow), ks rfl (.c (.fb _ _ _ _ (by first | decide | simp))), ks rfl .dt, ks rfl .dt, kb 1 rfl ((.cons (.cons (.ptr _ _ rfl) .nil) .nil)), kb 0 rfl (.dt rfl), trivial⟩
 ·skip
  refine .exit <| ks_e <| kl_e <| kb_hit <| ks_n <| .seq <| .region <| .cons (.asg rfl rfl) <| .nil <| ks_n <| .ret ?_
  refine kf_ret rfl ?_ (hbD_box rfl rfl)
  exact leafI (by rw [hF, List.drop_of_length_le (by omega)]; rfl)

theorem idxN_fn {f : FuncId} {g : Prg} : Fn Tryz.prog 64 (hbT 1 g) [.c (.d (.val (.slice none 0 0))), .c (.fb f 1 1)] (.o (nat1 (-1))) (hbT 1 g) := by
  refine Fn.of_code Tryz.func64 rfl rfl (hbT_HB _ _) rfl rfl (hbT_HB _ _) rfl hbT_num ?_
  refine .seq <| .region <| .cons (.asg rfl rfl) <| .nil <| ks_n <| .seq <| .seq <| .region <| .cons (.mv rfl rfl) <| .cons (St1.lenN (e := 51) (m := 3) (by' := 24) rfl rfl rfl rfl rfl (by kernel_rfl) rfl) ?_
  refine .cons (.mv rfl rfl) <| .nil <| ks_n <| .block ?_
  refine .loopK (fun m σ => (∃ i : Nat, m = 0 ∧ (i = 0) ∧ σ = [(.t 0, .v (.o (.c (.d (.val (.slice none 0 0)))))), (.t 1, .v (.o (.c (.fb f 1 1)))), (.t 7, .v (.o (nat1 (0 : Nat)))), (.t 8, .v (.o (nat1 (i : Nat)))), (.b 1, .b 62 1 ([[.ptr (rT g)]])), (.u 1, .u)])) [(1, 1)] ⟨0, rfl, rfl, rfl⟩ ⟨ks rfl .dt, ks rfl (.c (.fb _ _ _ _ (by first | decide | simp))), ks rfl .dt, ks rfl .dt, kb 1 rfl ((.cons (.cons (.ptr _ _ rfl) .nil) .nil)), trivial⟩ ?_
  rintro m σ ⟨i, hm0, rfl, rfl⟩
  refine .seq <| .region <| .cons (.ls rfl rfl rfl) <| .nil <| ks_n <| .seq ?_
  refine .cD rfl (fun h9 => ?_) (fun h9 => ?_)
  · skip
    simp at h9
  · skip
    refine .exit <| ks_e <| kl_e <| kb_hit <| ks_n <| .seq <| .region <| .cons (.asg rfl rfl) <| .nil <| ks_n <| .ret ?_
    refine kf_ret rfl ?_ (hbT_box rfl)
    rfl

theorem idxG_ge {α : Type} {p : α → Bool} : ∀ {l : List α} {i : Nat}, idxG p i l = -1 ∧ (∀ x ∈ l, p x = false) ∨ ∃ j, idxG p i l = ((i + j : Nat) : Int) ∧ j < l.length ∧ (∀ t x, t < j → l[t]? = some x → p x = false) ∧ ∀ x, l[j]? = some x → p x = true
  | [], i => .inl ⟨rfl, fun x h => by cases h⟩
  | x :: l, i => by
    rw [idxG]
    cases h : p x with
    | true => exact .inr ⟨0, by simp, by simp, fun t x ht => absurd ht (by omega), fun y hy => by simp at hy; subst hy; exact h⟩
    | false =>
      rcases idxG_ge (p := p) (l := l) (i := i + 1) with ⟨h1, h2⟩ | ⟨j, h1, h2, h3, h4⟩
      · exact .inl ⟨by simpa using h1, fun y hy => (List.mem_cons.1 hy).elim (fun e => by rw [e]; exact h) (fun hy => h2 y hy)⟩
      · refine .inr ⟨j + 1, by simp only [Bool.false_eq_true, if_false]; rw [h1]; congr 1; omega, by simp; omega, fun t y ht hy => ?_, fun y hy => h4 y (by simpa using hy)⟩
        cases t with
        | zero => simp at hy; subst hy; exact h
        | succ t => exact h3 t y (by omega) (by simpa using hy)
theorem del_all {p : Dpn → Bool} {l : List Dpn} (h : idxF p l = -1) : (l.filter fun d => !p d) = l := by
  rw [List.filter_eq_self]
  rcases idxG_ge (p := p) (l := l) (i := 0) with ⟨_, h2⟩ | ⟨j, h1, _⟩
  · intro x hx; rw [h2 x hx]; rfl
  · rw [idxF, h1] at h; omega
theorem del_some {p : Dpn → Bool} {l : List Dpn} (h : ¬ idxF p l = -1) : ∃ j : Nat, idxF p l = (j : Int) ∧ j < l.length ∧ (∀ t x, t < j → l[t]? = some x → p x = false) ∧ ∀ x, l[j]? = some x → p x = true := by
  rcases idxG_ge (p := p) (l := l) (i := 0) with ⟨h1, _⟩ | ⟨j, h1, h2, h3, h4⟩
  · exact absurd h1 h
  · exact ⟨j, by rw [idxF, h1]; congr 1; omega, h2, h3, h4⟩
def keepN (p : Dpn → Bool) (l : List Dpn) (j : Nat) : List Dpn := (l.take j).filter fun d => !p d
theorem keepN_len {p : Dpn → Bool} {l : List Dpn} {j : Nat} : (keepN p l j).length ≤ j := Nat.le_trans (List.length_filter_le _ _) (by simp; omega)
theorem keepN_next {p : Dpn → Bool} {l : List Dpn} {j : Nat} {x : Dpn} (h : l[j]? = some x) : keepN p l (j + 1) = if p x = true then keepN p l j else keepN p l j ++ [x] := by
  rw [keepN, List.take_add_one, h, List.filter_append]
  cases hp : p x <;> simp [keepN, hp]
theorem keepN_all {p : Dpn → Bool} {l : List Dpn} {j : Nat} (h : ∀ t x, t < j → l[t]? = some x → p x = false) : keepN p l j = l.take j := by
  rw [keepN, List.filter_eq_self]
  intro x hx
  obtain ⟨t, ht⟩ := List.mem_iff_getElem?.1 hx
  rw [List.getElem?_take] at ht
  split at ht
  · rename_i h1; rw [h t x h1 ht]; rfl
  · cases ht
def rowsN (p : Dpn → Bool) (l : List Dpn) (j : Nat) : List Dpn := keepN p l j ++ l.drop (keepN p l j).length
theorem rowsN_len {p : Dpn → Bool} {l : List Dpn} {j : Nat} (h : j ≤ l.length) : (rowsN p l j).length = l.length := by
  have := keepN_len (p := p) (l := l) (j := j)
  rw [rowsN, List.length_append, List.length_drop]; omega
theorem rowsN_at {p : Dpn → Bool} {l : List Dpn} {j : Nat} {x : Dpn} (h : l[j]? = some x) : (rowsN p l j)[j]? = some x := by
  have := keepN_len (p := p) (l := l) (j := j)
  rw [rowsN, List.getElem?_append_right this, List.getElem?_drop, show (keepN p l j).length + (j - (keepN p l j).length) = j by omega, h]
theorem rowsN_skip {p : Dpn → Bool} {l : List Dpn} {j : Nat} {x : Dpn} (h : l[j]? = some x) (hp : p x = true) : rowsN p l (j + 1) = rowsN p l j := by rw [rowsN, keepN_next h, if_pos hp]; rfl
theorem rowsN_set {p : Dpn → Bool} {l : List Dpn} {j : Nat} {x : Dpn} (h : l[j]? = some x) (hp : p x = false) : rowsN p l (j + 1) = (rowsN p l j).set (keepN p l j).length x := by
  have h1 := keepN_len (p := p) (l := l) (j := j)
  have h2 := (List.getElem?_eq_some_iff.1 h).1
  rw [rowsN, keepN_next h, if_neg (by rw [hp]; simp), rowsN, List.set_append_right _ _ (Nat.le_refl _), Nat.sub_self, List.length_append, List.length_singleton, List.append_assoc]
  congr 1
  rw [List.drop_eq_getElem_cons (by omega : (keepN p l j).length < l.length), List.set_cons_zero]; rfl
theorem rowsN_take {p : Dpn → Bool} {l : List Dpn} {j : Nat} : (rowsN p l j).take (keepN p l j).length = keepN p l j := by rw [rowsN, List.take_left]
theorem dR_setD (l : List Dpn) (i : Nat) (x y : Dpn) : (dR (l.map rD)).set i (place1 ((rD x).map C.d) 0 (ad (rD y)).cells) = dR ((l.set i y).map rD) := by
  unfold dR
  rw [List.map_set, List.map_set]
  rfl
theorem dR_takeD (l : List (List D)) (i : Nat) : (dR l).take i = dR (l.take i) := by rw [dR, dR, List.map_take]

theorem del_fn {f : FuncId} (hc : callable Tryz.prog f = true) {g : Prg} (p : Dpn → Bool) (l : List Dpn) (hl : l.length ≤ 1000000) (hf : ∀ x ∈ l, Fn Tryz.prog f (hbT 0 g) [ad (rD x), .c (.box 0 1 0 0)] (.o (bo1 (p x))) (hbT 0 g)) : Fn Tryz.prog 38 (hbD g l) [.c (.own 0 3 l.length), .c (.fb f 1 1)] (.o (.c (.own 0 3 (l.filter fun d => !p d).length))) (hbD g (l.filter fun d => !p d)) := by
 refine Fn.of_code Tryz.func38 rfl rfl (hbD_HB _ _) rfl rfl (hbD_HB _ _) rfl hbD_num ?_
 refine .seq <| .region <| .cons (.asg rfl rfl) <| .nil <| ks_n <| .seq <| .region <| .cons (.mv rfl rfl) <| .cons (.mv rfl rfl) <| .cons (.cO [.tmp 8, .tmp 9] [(0, 0), (1, 1)] rfl rfl rfl rfl (idxB_fn hc p l hl hf) rfl ⟨(by rw [renR_dR]; rfl), rfl, trivial⟩ (hbD_flat _ _) (hbD_flat _ _) (hbD_HB _ _) outS_D) ?_
 refine .cons (.asg rfl rfl) <| .nil <| ks_n <| .seq <| .seq <| .region <| .cons (.mv rfl rfl) <| .cons (.eq rfl rfl rfl) <| .nil <| ks_n ?_
 refine .cD rfl (fun h12 => ?_) (fun h12 => ?_)
 ·skip
  have hall := del_all h12
  refine .seq <| .region <| .cons (.mv rfl rfl) <| .cons (.asg rfl rfl) <| .nil <| ks_n <| .ret <| ks_r ?_
  refine kf_wret [(.t 4, .v (.o (.c (.own 0 3 ((l.filter fun d => !p d).length))))), (.b 1, .b 62 1 ([[.ptr (rT g)]])), (.u 1, .u), (.b 0, .b 51 3 (dR ((l.filter fun d => !p d).map rD))), (.u 0, .u)] (Wk.keep [(1, 1), (0, 0)] rfl rfl ⟨ks rfl (.c (.ow (by first | (rw [hall]; done) | (rw [keepN, List.take_length]; done)))), kb 1 rfl ((.cons (.cons (.ptr _ _ rfl) .nil) .nil)), kb 0 rfl (.dt rfl (by first | (rw [hall]; done) | (rw [dR_takeD, ← List.map_take, rowsN_take, keepN, List.take_length]; done))), trivial⟩) rfl ?_ (hbD_box rfl rfl)
  rfl
 ·skip
  obtain ⟨i0, hi0, hil, hall, hone⟩ := del_some h12
  obtain ⟨x0, hx0⟩ : ∃ x, l[i0]? = some x := ⟨_, List.getElem?_eq_getElem hil⟩
  have hk0 : keepN p l (i0 + 1) = l.take i0 := by rw [keepN_next hx0, if_pos (hone x0 hx0), keepN_all hall]
  have hk0l : (keepN p l (i0 + 1)).length = i0 := by rw [hk0, List.length_take]; omega
  have hr0 : rowsN p l (i0 + 1) = l := by rw [rowsN, hk0l, hk0, List.take_append_drop]
  refine .skip <| ks_n <| .seq <| .seq <| .region <| .cons (.mv rfl rfl) <| .cons (.pl rfl rfl rfl) <| .cons (.asg rfl rfl) <| .nil <| ks_n <| .block ?_
  refine .loopK (fun m σ => (∃ j : Nat, m = l.length - j ∧ (j ≤ l.length) ∧ ((keepN p l j).length < j) ∧ σ = [(.t 0, .v (.o (.c (.own 0 3 (l.length))))), (.t 1, .v (.o (.c (.fb f 1 1)))), (.t 5, .v (.o (nat1 ((keepN p l j).length : Nat)))), (.t 6, .v (.o (nat1 (j : Nat)))), (.b 1, .b 62 1 ([[.ptr (rT g)]])), (.u 1, .u), (.b 0, .b 51 3 (dR ((rowsN p l j).map rD))), (.u 0, .u)])) [(1, 1), (0, 0)] ⟨i0 + 1, rfl, by omega, by omega, rfl⟩ ⟨ks rfl (.c .ow), ks rfl (.c (.fb _ _ _ _ (by first | decide | simp))), ks rfl (.dt (vI (by first | omega | (rw [hi0, hk0l]; done) | (rw [hkn]; done) | (rw [hkn, List.length_append, List.length_singleton]; omega) | (rw [hi0]; omega)))), ks rfl .dt, kb 1 rfl ((.cons (.cons (.ptr _ _ rfl) .nil) .nil)), kb 0 rfl (.dt rfl (by first | rfl | (rw [hr0]; done) | (rw [rowsN_skip hx1 hpx]; done) | (rw [rowsN_set hx1 hpx]; exact dR_setD _ _ _ _))), trivial⟩ ?_
  rintro m σ ⟨j, hm0, hj, hkl, rfl⟩
  refine .seq <| .seq <| .region <| .cons (.mv rfl rfl) <| .cons (.mv rfl rfl) <| .cons (.lB 51 3 24 rfl rfl rfl rfl) <| .cons (.ls rfl rfl rfl) <| .nil <| ks_n ?_
  refine .cD rfl (fun h19 => ?_) (fun h19 => ?_)
  ·skip
   obtain ⟨x, hx1⟩ : ∃ x_, l[j]? = some x_ := ⟨_, List.getElem?_eq_getElem (by omega)⟩
   refine .skip <| ks_n <| .seq <| .block <| .seq <| .region <| .cons (.mv rfl rfl) <| .cons (.mv rfl rfl) <| .cons (.xB 51 3 24 rfl rfl rfl rfl rfl rfl (by omega)) ?_
   refine .cons (.bN 3 rfl rfl rfl rfl (dR_at (map_at (rowsN_at hx1))) rfl) <| .cons (.al 107 [.int .i64 0, .int .i64 0, .int .i64 0] rfl rfl rfl) <| .cons (.sT 3 true rfl rfl rfl rfl rfl rfl rfl) <| .nil <| ks_n <| .seq <| .region <| .cons (.mv rfl rfl) <| .cons (.bN 3 rfl rfl rfl rfl rfl rfl) <| .cons (.cX [.tmp 27] [(0, 1)] rfl rfl rfl rfl rfl (hf x (List.mem_of_getElem? hx1)) rfl ⟨rfl, trivial⟩ (hbT_flat _ _) (hbT_flat _ _) (hbT_HB _ _) outS_T (hcall := hc)) ?_
   refine .cons (.nt rfl rfl) <| .nil <| ks_n ?_
   refine ACode.condT rfl (fun h29 => ?_) (fun h29 => ?_)
   ·try simp only [zs1, zs2, zs3, zs4, zs5, zs6, zs7] at h29
    have hpx : p x = false := by first | assumption | simp_all
    have hkn : keepN p l (j + 1) = keepN p l j ++ [x] := by rw [keepN_next hx1, if_neg (by rw [hpx]; simp)]
    obtain ⟨y, hy1⟩ : ∃ y, (rowsN p l j)[(keepN p l j).length]? = some y := ⟨_, List.getElem?_eq_getElem (by rw [rowsN_len hj]; omega)⟩
    refine .seq <| .region <| .cons (.mv rfl rfl) <| .cons (.mv rfl rfl) <| .cons (.bN 3 rfl rfl rfl rfl rfl rfl) <| .cons (.xB 51 3 24 (i := (keepN p l j).length) rfl rfl rfl rfl rfl rfl (by omega)) ?_
    refine .cons (.sT 3 true rfl rfl rfl rfl (dR_at (map_at hy1)) rfl rfl) <| .nil <| ks_n <| .region <| .cons (.mv rfl rfl) <| .cons (.pl rfl rfl rfl) <| .cons (.asg rfl rfl) <| .nil <| kb_n <| ks_n <| .region <| .cons (.mv rfl rfl) <| .cons (.pl rfl rfl rfl) <| .cons (.asg rfl rfl) <| .nil ?_
    refine kl_k [(1, 1), (0, 0)] ⟨j + 1, rfl, by omega, by rw [hkn]; first | omega | (rw [List.length_append, List.length_singleton]; omega), rfl⟩ ⟨ks rfl (.c .ow), ks rfl (.c (.fb _ _ _ _ (by first | decide | simp))), ks rfl (.dt (vI (by first | omega | (rw [hi0, hk0l]; done) | (rw [hkn]; done) | (rw [hkn, List.length_append, List.length_singleton]; omega) | (rw [hi0]; omega)))), ks rfl .dt, kb 1 rfl ((.cons (.cons (.ptr _ _ rfl) .nil) .nil)), kb 0 rfl (.dt rfl (by first | rfl | (rw [hr0]; done) | (rw [rowsN_skip hx1 hpx]; done) | (rw [rowsN_set hx1 hpx]; exact dR_setD _ _ _ _))), trivial⟩
   ·try simp only [zs1, zs2, zs3, zs4, zs5, zs6, zs7] at h29
    have hpx : p x = true := by first | assumption | simp_all
    have hkn : keepN p l (j + 1) = keepN p l j := by rw [keepN_next hx1, if_pos hpx]
    refine .skip <| kb_n <| ks_n <| .region <| .cons (.mv rfl rfl) <| .cons (.pl rfl rfl rfl) <| .cons (.asg rfl rfl) <| .nil ?_
    refine kl_k [(1, 1), (0, 0)] ⟨j + 1, rfl, by omega, by rw [hkn]; first | omega | (rw [List.length_append, List.length_singleton]; omega), rfl⟩ ⟨ks rfl (.c .ow), ks rfl (.c (.fb _ _ _ _ (by first | decide | simp))), ks rfl (.dt (vI (by first | omega | (rw [hi0, hk0l]; done) | (rw [hkn]; done) | (rw [hkn, List.length_append, List.length_singleton]; omega) | (rw [hi0]; omega)))), ks rfl .dt, kb 1 rfl ((.cons (.cons (.ptr _ _ rfl) .nil) .nil)), kb 0 rfl (.dt rfl (by first | rfl | (rw [hr0]; done) | (rw [rowsN_skip hx1 hpx]; done) | (rw [rowsN_set hx1 hpx]; exact dR_setD _ _ _ _))), trivial⟩
  ·skip
   obtain rfl : j = l.length := by omega
   refine .exit <| ks_e <| kl_e <| kb_hit <| ks_n <| .seq <| .region <| .cons (.mv rfl rfl) <| .cons (.mv rfl rfl) ?_
   refine .clrB (e := 51) (sz := 3) (by' := 24) (i := (keepN p l l.length).length) rfl rfl rfl (by kernel_rfl) rfl rfl (by rw [dR_len, List.length_map, rowsN_len (Nat.le_refl _)]) rfl (by first | rfl | omega) (by omega) ?_
   refine .nil <| ks_n <| .seq <| .region <| .cons (.mv rfl rfl) <| .cons (.mv rfl rfl) <| .cons (St1.sliceToB (e := 51) (sz := 3) (by' := 24) (i := (keepN p l l.length).length) rfl rfl rfl rfl rfl (by first | rfl | omega) (by omega)) ?_
   refine .cons (.asg rfl rfl) <| .nil <| ks_n <| .ret ?_
   refine kf_wret [(.t 4, .v (.o (.c (.own 0 3 ((l.filter fun d => !p d).length))))), (.b 1, .b 62 1 ([[.ptr (rT g)]])), (.u 1, .u), (.b 0, .b 51 3 (dR ((l.filter fun d => !p d).map rD))), (.u 0, .u)] (Wk.keep [(1, 1), (0, 0)] rfl rfl ⟨ks rfl (.c (.ow (by first | (rw [hall]; done) | (rw [keepN, List.take_length]; done)))), kb 1 rfl ((.cons (.cons (.ptr _ _ rfl) .nil) .nil)), kb 0 rfl (.dt rfl (by first | (rw [hall]; done) | (rw [dR_takeD, ← List.map_take, rowsN_take, keepN, List.take_length]; done))), trivial⟩) rfl ?_ (hbD_box rfl rfl)
   rfl
theorem deps_own {g : Prg} (hS : prgS g = true) (hL : (insG 0 g.2).length ≤ 120) (hz : depsG g ≠ []) : Fn Tryz.prog 39 [] [.c (.ptr (rT g))] (.o (.c (.own 100 3 (depsG g).length))) [(.b 100, .b 51 3 (dR ((depsG g).map rD))), (.u 100, .u)] := by
  refine Fn.of_code Tryz.func39 rfl rfl HB.nil rfl rfl HB.nil.data rfl (one_num rfl) ?_
  refine .seq <| .region <| .cons (.asg rfl rfl) <| .nil <| ks_n <| .seq <| .region <| .cons (.asg rfl rfl) <| .nil <| ks_n <| .seq <| .seq <| .region <| .cons (.mv rfl rfl) <| .cons (.nP rfl rfl) <| .cons (.fP 2 0 false rfl rfl) <| .cons (.l1 1 rfl rfl) <| .cons (.ln 82 3 40 rfl rfl rfl) <| .cons (.mv rfl rfl) <| .nil <| ks_n <| .block ?_
  refine .loopK (fun m σ => (∃ i : Nat, m = (insG 0 g.2).length - i ∧ (i ≤ (insG 0 g.2).length) ∧ (depsN g i = []) ∧ σ = [(.t 0, .v (.o (.c (.ptr (rT g))))), (.t 3, .v (.o (.c (.d (.val (.slice none 0 0)))))), (.t 10, .v (.o (vD (dNs (insG 0 g.2))))), (.t 11, .v (.o (nat1 ((insG 0 g.2).length : Nat)))), (.t 12, .v (.o (nat1 (i : Nat))))]) ∨ (∃ (i : Nat) (o : List Dpn), m = (insG 0 g.2).length - i ∧ (i ≤ (insG 0 g.2).length) ∧ (depsN g i = o) ∧ (o.length ≤ 120 * i) ∧ (o ≠ []) ∧ σ = [(.t 0, .v (.o (.c (.ptr (rT g))))), (.t 3, .v (.o (.c (.own 110 3 (o.length))))), (.t 10, .v (.o (vD (dNs (insG 0 g.2))))), (.t 11, .v (.o (nat1 ((insG 0 g.2).length : Nat)))), (.t 12, .v (.o (nat1 (i : Nat)))), (.b 110, .b 51 3 (dR (o.map rD))), (.u 110, .u)])) [] (.inl ⟨0, rfl, by omega, rfl, rfl⟩) ⟨ks rfl .dt, ks rfl .dt, ks rfl .dt, ks rfl .dt, ks rfl .dt, trivial⟩ ?_
  rintro m σ (⟨i, hm0, hi, hE, rfl⟩ | ⟨i, o, hm0, hi, hE, ho, hn1, rfl⟩)
  · skip
    refine .seq <| .region <| .cons (.ls rfl rfl rfl) <| .nil <| ks_n <| .seq ?_
    refine .cD rfl (fun h13 => ?_) (fun h13 => ?_)
    · skip
      obtain ⟨x, hx1⟩ : ∃ x_, (insG 0 g.2)[i]? = some x_ := ⟨_, List.getElem?_eq_getElem (by omega)⟩
      obtain ⟨kx, cx, qx, hIx⟩ := ins_at hS (List.mem_of_getElem? hx1)
      have hlx := usR_len hIx
      refine .skip <| ks_n <| .seq <| .block <| .seq <| .region <| .cons (.mv rfl rfl) <| .cons (.asg rfl rfl) <| .nil <| ks_n <| .seq <| .region <| .cons (.mv rfl rfl) <| .cons (.pl rfl rfl rfl) <| .cons (.asg rfl rfl) <| .nil <| ks_n <| .block ?_
      refine .loopK (fun m σ => (∃ k : Nat, m = (insG 0 g.2).length - k ∧ (i + 1 ≤ k) ∧ (k ≤ (insG 0 g.2).length) ∧ (rowN g i k = []) ∧ σ = [(.t 0, .v (.o (.c (.ptr (rT g))))), (.t 3, .v (.o (.c (.d (.val (.slice none 0 0)))))), (.t 4, .v (.o (nat1 (i : Nat)))), (.t 5, .v (.o (nat1 (k : Nat)))), (.t 10, .v (.o (vD (dNs (insG 0 g.2))))), (.t 11, .v (.o (nat1 ((insG 0 g.2).length : Nat)))), (.t 12, .v (.o (nat1 (i : Nat))))]) ∨ (∃ (k : Nat) (o2 : List Dpn), m = (insG 0 g.2).length - k ∧ (i + 1 ≤ k) ∧ (k ≤ (insG 0 g.2).length) ∧ ([] ++ rowN g i k = o2) ∧ (o2.length ≤ 120 * i + k) ∧ (o2 ≠ []) ∧ σ = [(.t 0, .v (.o (.c (.ptr (rT g))))), (.t 3, .v (.o (.c (.own 120 3 (o2.length))))), (.t 4, .v (.o (nat1 (i : Nat)))), (.t 5, .v (.o (nat1 (k : Nat)))), (.t 10, .v (.o (vD (dNs (insG 0 g.2))))), (.t 11, .v (.o (nat1 ((insG 0 g.2).length : Nat)))), (.t 12, .v (.o (nat1 (i : Nat)))), (.b 120, .b 51 3 (dR (o2.map rD))), (.u 120, .u)])) [] (.inl ⟨i + 1, rfl, by omega, by omega, rowN_zero, rfl⟩) ⟨ks rfl .dt, ks rfl .dt, ks rfl .dt, ks rfl .dt, ks rfl .dt, ks rfl .dt, ks rfl .dt, trivial⟩ ?_
      rintro m σ (⟨k, hm0, hk1, hk, hEi, rfl⟩ | ⟨k, o2, hm0, hk1, hk, hEi, ho2, hn2, rfl⟩)
      · skip
        refine .seq <| .seq <| .region <| .cons (.mv rfl rfl) <| .cons (.mv rfl rfl) <| .cons (.nP rfl rfl) <| .cons (.fP 2 0 false rfl rfl) <| .cons (.l1 1 rfl rfl) <| .cons (.ln 82 3 40 rfl rfl rfl) <| .cons (.ls rfl rfl rfl) <| .nil <| ks_n ?_
        refine .cD rfl (fun h23 => ?_) (fun h23 => ?_)
        · skip
          obtain ⟨y, hy1⟩ : ∃ x_, (insG 0 g.2)[k]? = some x_ := ⟨_, List.getElem?_eq_getElem (by omega)⟩
          obtain ⟨ky, cy, qy, hIy⟩ := ins_at hS (List.mem_of_getElem? hy1)
          have hly := usR_len hIy
          have hkb := kindN_bd (g := g) (i := i) (k := k)
          refine .skip <| ks_n <| .seq <| .block <| .seq <| .region <| .cons (.mv rfl rfl) <| .cons (.mv rfl rfl) <| .cons (.mv rfl rfl) <| .cons (.cP [.tmp 26, .tmp 27, .tmp 28] rfl rfl rfl rfl (between_fn hx1 hy1 hlx hly) rfl) ?_
          refine .cons (.asg rfl rfl) <| .nil <| ks_n <| .seq <| .region <| .cons (.mv rfl rfl) <| .cons (.gt rfl rfl rfl) <| .nil <| ks_n ?_
          refine .cD rfl (fun h31 => ?_) (fun h31 => ?_)
          · skip
            have hkn : kindN g i k ≠ 0 := by omega
            refine .region <| .cons (.mv rfl rfl) <| .cons (.mv rfl rfl) <| .cons (.mv rfl rfl) <| .cons (.mv rfl rfl) <| .cons (.bu [(0, .tmp 33), (1, .tmp 34), (2, .tmp 35)] [(0, 1), (1, 1), (2, 1)] [.int .i64 0, .int .i64 0, .int .i64 0] rfl rfl rfl rfl rfl) <| .cons (.li 51 2 0 [.tmp 36] rfl rfl rfl rfl rfl rfl) <| .cons (St1.appN (k' := 138) (e := 51) (sz := 2) (by' := 24) rfl rfl rfl rfl rfl (by kernel_rfl) rfl rfl rfl (by simp) (by first | (simp [dR]; done) | (simp [dR]; omega)) rfl rfl) ?_
            refine .cons (.asg rfl rfl) <| .nil <| kb_n <| ks_n <| .region <| .cons (.mv rfl rfl) <| .cons (.pl rfl rfl rfl) <| .cons (.asg rfl rfl) <| .nil ?_
            refine kl_k [(120, 138)] (.inr ⟨k + 1, [((i : Int), ((k : Nat) : Int), kindN g i k)], rfl, by omega, by omega, by rw [rowN_yes (by omega) hkn, hEi]; rfl, by simp; omega, by simp, rfl⟩) ⟨ks rfl .dt, ks rfl (.c .ow), ks rfl .dt, ks rfl .dt, ks rfl .dt, ks rfl .dt, ks rfl .dt, kb 138 rfl (.dt rfl (by first | rfl | (simp [dR, rD, dI]; done) | (simp [dR, rD, dI]; rfl))), trivial⟩
          · skip
            have hkz : kindN g i k = 0 := by omega
            refine .skip <| kb_n <| ks_n <| .region <| .cons (.mv rfl rfl) <| .cons (.pl rfl rfl rfl) <| .cons (.asg rfl rfl) <| .nil ?_
            refine kl_k [] (.inl ⟨k + 1, rfl, by omega, by omega, by rw [rowN_no hkz, hEi], rfl⟩) ⟨ks rfl .dt, ks rfl .dt, ks rfl .dt, ks rfl .dt, ks rfl .dt, ks rfl .dt, ks rfl .dt, trivial⟩
        · skip
          obtain rfl : k = (insG 0 g.2).length := by omega
          refine .exit <| ks_e <| kl_e <| kb_hit <| kb_n <| ks_n <| .region <| .cons (.pl rfl rfl rfl) <| .cons (.mv rfl rfl) <| .nil ?_
          refine kl_k [] (.inl ⟨i + 1, rfl, by omega, by rw [depsN_next, hE, hEi]; rfl, rfl⟩) ⟨ks rfl .dt, ks rfl .dt, ks rfl .dt, ks rfl .dt, ks rfl .dt, trivial⟩
      · skip
        refine .seq <| .seq <| .region <| .cons (.mv rfl rfl) <| .cons (.mv rfl rfl) <| .cons (.nP rfl rfl) <| .cons (.fP 2 0 false rfl rfl) <| .cons (.l1 1 rfl rfl) <| .cons (.ln 82 3 40 rfl rfl rfl) <| .cons (.ls rfl rfl rfl) <| .nil <| ks_n ?_
        refine .cD rfl (fun h23 => ?_) (fun h23 => ?_)
        · skip
          obtain ⟨y, hy1⟩ : ∃ x_, (insG 0 g.2)[k]? = some x_ := ⟨_, List.getElem?_eq_getElem (by omega)⟩
          obtain ⟨ky, cy, qy, hIy⟩ := ins_at hS (List.mem_of_getElem? hy1)
          have hly := usR_len hIy
          have hkb := kindN_bd (g := g) (i := i) (k := k)
          refine .skip <| ks_n <| .seq <| .block <| .seq <| .region <| .cons (.mv rfl rfl) <| .cons (.mv rfl rfl) <| .cons (.mv rfl rfl) <| .cons (.cP [.tmp 26, .tmp 27, .tmp 28] rfl rfl rfl rfl (between_fn hx1 hy1 hlx hly) rfl) ?_
          refine .cons (.asg rfl rfl) <| .nil <| ks_n <| .seq <| .region <| .cons (.mv rfl rfl) <| .cons (.gt rfl rfl rfl) <| .nil <| ks_n ?_
          refine .cD rfl (fun h31 => ?_) (fun h31 => ?_)
          · skip
            have hkn : kindN g i k ≠ 0 := by omega
            refine .region <| .cons (.mv rfl rfl) <| .cons (.mv rfl rfl) <| .cons (.mv rfl rfl) <| .cons (.mv rfl rfl) <| .cons (.bu [(0, .tmp 33), (1, .tmp 34), (2, .tmp 35)] [(0, 1), (1, 1), (2, 1)] [.int .i64 0, .int .i64 0, .int .i64 0] rfl rfl rfl rfl rfl) <| .cons (.li 51 2 0 [.tmp 36] rfl rfl rfl rfl rfl rfl) <| .cons (St1.appB (k' := 138) (e := 51) (sz := 2) (by' := 24) rfl rfl rfl rfl rfl (by kernel_rfl) rfl rfl rfl rfl (by first | (simp [dR]; done) | (simp [dR]; omega)) (by first | (simp [dR]; done) | (simp [dR]; omega)) rfl rfl rfl) ?_
            refine .cons (.asg rfl rfl) <| .nil <| kb_n <| ks_n <| .region <| .cons (.mv rfl rfl) <| .cons (.pl rfl rfl rfl) <| .cons (.asg rfl rfl) <| .nil ?_
            refine kl_k [(120, 138)] (.inr ⟨k + 1, o2 ++ [((i : Int), ((k : Nat) : Int), kindN g i k)], rfl, by omega, by omega, by rw [rowN_yes (by omega) hkn, ← List.append_assoc, hEi], by rw [List.length_append, List.length_singleton]; omega, by simp, rfl⟩) ⟨ks rfl .dt, ks rfl (.c .ow), ks rfl .dt, ks rfl .dt, ks rfl .dt, ks rfl .dt, ks rfl .dt, kb 138 rfl (.dt rfl (by first | rfl | (simp [dR, rD, dI]; done) | (simp [dR, rD, dI]; rfl))), trivial⟩
          · skip
            have hkz : kindN g i k = 0 := by omega
            refine .skip <| kb_n <| ks_n <| .region <| .cons (.mv rfl rfl) <| .cons (.pl rfl rfl rfl) <| .cons (.asg rfl rfl) <| .nil ?_
            refine kl_k [(120, 120)] (.inr ⟨k + 1, o2, rfl, by omega, by omega, by rw [rowN_no hkz, hEi], by omega, hn2, rfl⟩) ⟨ks rfl .dt, ks rfl (.c .ow), ks rfl .dt, ks rfl .dt, ks rfl .dt, ks rfl .dt, ks rfl .dt, kb 120 rfl (.dt rfl (by first | rfl | (simp [dR, rD, dI]; done) | (simp [dR, rD, dI]; rfl))), trivial⟩
        · skip
          obtain rfl : k = (insG 0 g.2).length := by omega
          refine .exit <| ks_e <| kl_e <| kb_hit <| kb_n <| ks_n <| .region <| .cons (.pl rfl rfl rfl) <| .cons (.mv rfl rfl) <| .nil ?_
          refine kl_k [(110, 120)] (.inr ⟨i + 1, o2, rfl, by omega, by rw [depsN_next, hE]; exact hEi, by omega, hn2, rfl⟩) ⟨ks rfl .dt, ks rfl (.c .ow), ks rfl .dt, ks rfl .dt, ks rfl .dt, kb 120 rfl (.dt rfl (by first | rfl | (simp [dR, rD, dI]; done) | (simp [dR, rD, dI]; rfl))), trivial⟩
    · skip
      exact absurd (by rw [depsG, ← show i = (insG 0 g.2).length by omega]; exact hE) hz
  · skip
    refine .seq <| .region <| .cons (.ls rfl rfl rfl) <| .nil <| ks_n <| .seq ?_
    refine .cD rfl (fun h13 => ?_) (fun h13 => ?_)
    · skip
      obtain ⟨x, hx1⟩ : ∃ x_, (insG 0 g.2)[i]? = some x_ := ⟨_, List.getElem?_eq_getElem (by omega)⟩
      obtain ⟨kx, cx, qx, hIx⟩ := ins_at hS (List.mem_of_getElem? hx1)
      have hlx := usR_len hIx
      refine .skip <| ks_n <| .seq <| .block <| .seq <| .region <| .cons (.mv rfl rfl) <| .cons (.asg rfl rfl) <| .nil <| ks_n <| .seq <| .region <| .cons (.mv rfl rfl) <| .cons (.pl rfl rfl rfl) <| .cons (.asg rfl rfl) <| .nil <| ks_n <| .block ?_
      refine .loopK (fun m σ => (∃ (k : Nat) (o2 : List Dpn), m = (insG 0 g.2).length - k ∧ (i + 1 ≤ k) ∧ (k ≤ (insG 0 g.2).length) ∧ (o ++ rowN g i k = o2) ∧ (o2.length ≤ 120 * i + k) ∧ (o2 ≠ []) ∧ σ = [(.t 0, .v (.o (.c (.ptr (rT g))))), (.t 3, .v (.o (.c (.own 120 3 (o2.length))))), (.t 4, .v (.o (nat1 (i : Nat)))), (.t 5, .v (.o (nat1 (k : Nat)))), (.t 10, .v (.o (vD (dNs (insG 0 g.2))))), (.t 11, .v (.o (nat1 ((insG 0 g.2).length : Nat)))), (.t 12, .v (.o (nat1 (i : Nat)))), (.b 120, .b 51 3 (dR (o2.map rD))), (.u 120, .u)])) [(120, 110)] ⟨i + 1, o, rfl, by omega, by omega, by rw [rowN_zero, List.append_nil], by omega, hn1, rfl⟩ ⟨ks rfl .dt, ks rfl (.c .ow), ks rfl .dt, ks rfl .dt, ks rfl .dt, ks rfl .dt, ks rfl .dt, kb 110 rfl (.dt rfl (by first | rfl | (simp [dR, rD, dI]; done) | (simp [dR, rD, dI]; rfl))), trivial⟩ ?_
      rintro m σ ⟨k, o2, hm0, hk1, hk, hEi, ho2, hn2, rfl⟩
      refine .seq <| .seq <| .region <| .cons (.mv rfl rfl) <| .cons (.mv rfl rfl) <| .cons (.nP rfl rfl) <| .cons (.fP 2 0 false rfl rfl) <| .cons (.l1 1 rfl rfl) <| .cons (.ln 82 3 40 rfl rfl rfl) <| .cons (.ls rfl rfl rfl) <| .nil <| ks_n ?_
      refine .cD rfl (fun h23 => ?_) (fun h23 => ?_)
      · skip
        obtain ⟨y, hy1⟩ : ∃ x_, (insG 0 g.2)[k]? = some x_ := ⟨_, List.getElem?_eq_getElem (by omega)⟩
        obtain ⟨ky, cy, qy, hIy⟩ := ins_at hS (List.mem_of_getElem? hy1)
        have hly := usR_len hIy
        have hkb := kindN_bd (g := g) (i := i) (k := k)
        refine .skip <| ks_n <| .seq <| .block <| .seq <| .region <| .cons (.mv rfl rfl) <| .cons (.mv rfl rfl) <| .cons (.mv rfl rfl) <| .cons (.cP [.tmp 26, .tmp 27, .tmp 28] rfl rfl rfl rfl (between_fn hx1 hy1 hlx hly) rfl) ?_
        refine .cons (.asg rfl rfl) <| .nil <| ks_n <| .seq <| .region <| .cons (.mv rfl rfl) <| .cons (.gt rfl rfl rfl) <| .nil <| ks_n ?_
        refine .cD rfl (fun h31 => ?_) (fun h31 => ?_)
        · skip
          have hkn : kindN g i k ≠ 0 := by omega
          refine .region <| .cons (.mv rfl rfl) <| .cons (.mv rfl rfl) <| .cons (.mv rfl rfl) <| .cons (.mv rfl rfl) <| .cons (.bu [(0, .tmp 33), (1, .tmp 34), (2, .tmp 35)] [(0, 1), (1, 1), (2, 1)] [.int .i64 0, .int .i64 0, .int .i64 0] rfl rfl rfl rfl rfl) <| .cons (.li 51 2 0 [.tmp 36] rfl rfl rfl rfl rfl rfl) <| .cons (St1.appB (k' := 138) (e := 51) (sz := 2) (by' := 24) rfl rfl rfl rfl rfl (by kernel_rfl) rfl rfl rfl rfl (by first | (simp [dR]; done) | (simp [dR]; omega)) (by first | (simp [dR]; done) | (simp [dR]; omega)) rfl rfl rfl) ?_
          refine .cons (.asg rfl rfl) <| .nil <| kb_n <| ks_n <| .region <| .cons (.mv rfl rfl) <| .cons (.pl rfl rfl rfl) <| .cons (.asg rfl rfl) <| .nil ?_
          refine kl_k [(120, 138)] ⟨k + 1, o2 ++ [((i : Int), ((k : Nat) : Int), kindN g i k)], rfl, by omega, by omega, by rw [rowN_yes (by omega) hkn, ← List.append_assoc, hEi], by rw [List.length_append, List.length_singleton]; omega, by simp, rfl⟩ ⟨ks rfl .dt, ks rfl (.c .ow), ks rfl .dt, ks rfl .dt, ks rfl .dt, ks rfl .dt, ks rfl .dt, kb 138 rfl (.dt rfl (by first | rfl | (simp [dR, rD, dI]; done) | (simp [dR, rD, dI]; rfl))), trivial⟩
        · skip
          have hkz : kindN g i k = 0 := by omega
          refine .skip <| kb_n <| ks_n <| .region <| .cons (.mv rfl rfl) <| .cons (.pl rfl rfl rfl) <| .cons (.asg rfl rfl) <| .nil ?_
          refine kl_k [(120, 120)] ⟨k + 1, o2, rfl, by omega, by omega, by rw [rowN_no hkz, hEi], by omega, hn2, rfl⟩ ⟨ks rfl .dt, ks rfl (.c .ow), ks rfl .dt, ks rfl .dt, ks rfl .dt, ks rfl .dt, ks rfl .dt, kb 120 rfl (.dt rfl (by first | rfl | (simp [dR, rD, dI]; done) | (simp [dR, rD, dI]; rfl))), trivial⟩
      · skip
        obtain rfl : k = (insG 0 g.2).length := by omega
        refine .exit <| ks_e <| kl_e <| kb_hit <| kb_n <| ks_n <| .region <| .cons (.pl rfl rfl rfl) <| .cons (.mv rfl rfl) <| .nil ?_
        refine kl_k [(110, 120)] (.inr ⟨i + 1, o2, rfl, by omega, by rw [depsN_next, hE]; exact hEi, by omega, hn2, rfl⟩) ⟨ks rfl .dt, ks rfl (.c .ow), ks rfl .dt, ks rfl .dt, ks rfl .dt, kb 120 rfl (.dt rfl (by first | rfl | (simp [dR, rD, dI]; done) | (simp [dR, rD, dI]; rfl))), trivial⟩
    · skip
      obtain rfl : i = (insG 0 g.2).length := by omega
      refine .exit <| ks_e <| kl_e <| kb_hit <| ks_n <| .seq <| .region <| .cons (.mv rfl rfl) <| .cons (.asg rfl rfl) <| .nil <| ks_n <| .ret ?_
      refine kf_wret [(.t 2, .v (.o (.c (.own 100 3 ((depsG g).length))))), (.b 100, .b 51 3 (dR ((depsG g).map rD))), (.u 100, .u)] (Wk.keep [(100, 110)] rfl rfl ⟨ks rfl (.c (.ow (by rw [depsG, hE]))), kb 110 rfl (.dt rfl (by rw [depsG, hE])), trivial⟩) rfl ?_ (one_box rfl)
      rfl

theorem deps_nil {g : Prg} (hS : prgS g = true) (hL : (insG 0 g.2).length ≤ 120) (hz : depsG g = []) : Fn Tryz.prog 39 [] [.c (.ptr (rT g))] (.o (.c (.d (.val (.slice none 0 0))))) [] := by
  refine Fn.code0 Tryz.func39 rfl rfl rfl rfl ?_
  refine .seq <| .region <| .cons (.asg rfl rfl) <| .nil <| ks_n <| .seq <| .region <| .cons (.asg rfl rfl) <| .nil <| ks_n <| .seq <| .seq <| .region <| .cons (.mv rfl rfl) <| .cons (.nP rfl rfl) <| .cons (.fP 2 0 false rfl rfl) <| .cons (.l1 1 rfl rfl) <| .cons (.ln 82 3 40 rfl rfl rfl) <| .cons (.mv rfl rfl) <| .nil <| ks_n <| .block ?_
  refine .loopK (fun m σ => (∃ i : Nat, m = (insG 0 g.2).length - i ∧ (i ≤ (insG 0 g.2).length) ∧ (depsN g i = []) ∧ σ = [(.t 0, .v (.o (.c (.ptr (rT g))))), (.t 3, .v (.o (.c (.d (.val (.slice none 0 0)))))), (.t 10, .v (.o (vD (dNs (insG 0 g.2))))), (.t 11, .v (.o (nat1 ((insG 0 g.2).length : Nat)))), (.t 12, .v (.o (nat1 (i : Nat))))]) ∨ (∃ (i : Nat) (o : List Dpn), m = (insG 0 g.2).length - i ∧ (i ≤ (insG 0 g.2).length) ∧ (depsN g i = o) ∧ (o.length ≤ 120 * i) ∧ (o ≠ []) ∧ σ = [(.t 0, .v (.o (.c (.ptr (rT g))))), (.t 3, .v (.o (.c (.own 110 3 (o.length))))), (.t 10, .v (.o (vD (dNs (insG 0 g.2))))), (.t 11, .v (.o (nat1 ((insG 0 g.2).length : Nat)))), (.t 12, .v (.o (nat1 (i : Nat)))), (.b 110, .b 51 3 (dR (o.map rD))), (.u 110, .u)])) [] (.inl ⟨0, rfl, by omega, rfl, rfl⟩) ⟨ks rfl .dt, ks rfl .dt, ks rfl .dt, ks rfl .dt, ks rfl .dt, trivial⟩ ?_
  rintro m σ (⟨i, hm0, hi, hE, rfl⟩ | ⟨i, o, hm0, hi, hE, ho, hn1, rfl⟩)
  · skip
    refine .seq <| .region <| .cons (.ls rfl rfl rfl) <| .nil <| ks_n <| .seq ?_
    refine .cD rfl (fun h13 => ?_) (fun h13 => ?_)
    · skip
      obtain ⟨x, hx1⟩ : ∃ x_, (insG 0 g.2)[i]? = some x_ := ⟨_, List.getElem?_eq_getElem (by omega)⟩
      obtain ⟨kx, cx, qx, hIx⟩ := ins_at hS (List.mem_of_getElem? hx1)
      have hlx := usR_len hIx
      refine .skip <| ks_n <| .seq <| .block <| .seq <| .region <| .cons (.mv rfl rfl) <| .cons (.asg rfl rfl) <| .nil <| ks_n <| .seq <| .region <| .cons (.mv rfl rfl) <| .cons (.pl rfl rfl rfl) <| .cons (.asg rfl rfl) <| .nil <| ks_n <| .block ?_
      refine .loopK (fun m σ => (∃ k : Nat, m = (insG 0 g.2).length - k ∧ (i + 1 ≤ k) ∧ (k ≤ (insG 0 g.2).length) ∧ (rowN g i k = []) ∧ σ = [(.t 0, .v (.o (.c (.ptr (rT g))))), (.t 3, .v (.o (.c (.d (.val (.slice none 0 0)))))), (.t 4, .v (.o (nat1 (i : Nat)))), (.t 5, .v (.o (nat1 (k : Nat)))), (.t 10, .v (.o (vD (dNs (insG 0 g.2))))), (.t 11, .v (.o (nat1 ((insG 0 g.2).length : Nat)))), (.t 12, .v (.o (nat1 (i : Nat))))]) ∨ (∃ (k : Nat) (o2 : List Dpn), m = (insG 0 g.2).length - k ∧ (i + 1 ≤ k) ∧ (k ≤ (insG 0 g.2).length) ∧ ([] ++ rowN g i k = o2) ∧ (o2.length ≤ 120 * i + k) ∧ (o2 ≠ []) ∧ σ = [(.t 0, .v (.o (.c (.ptr (rT g))))), (.t 3, .v (.o (.c (.own 120 3 (o2.length))))), (.t 4, .v (.o (nat1 (i : Nat)))), (.t 5, .v (.o (nat1 (k : Nat)))), (.t 10, .v (.o (vD (dNs (insG 0 g.2))))), (.t 11, .v (.o (nat1 ((insG 0 g.2).length : Nat)))), (.t 12, .v (.o (nat1 (i : Nat)))), (.b 120, .b 51 3 (dR (o2.map rD))), (.u 120, .u)])) [] (.inl ⟨i + 1, rfl, by omega, by omega, rowN_zero, rfl⟩) ⟨ks rfl .dt, ks rfl .dt, ks rfl .dt, ks rfl .dt, ks rfl .dt, ks rfl .dt, ks rfl .dt, trivial⟩ ?_
      rintro m σ (⟨k, hm0, hk1, hk, hEi, rfl⟩ | ⟨k, o2, hm0, hk1, hk, hEi, ho2, hn2, rfl⟩)
      · skip
        refine .seq <| .seq <| .region <| .cons (.mv rfl rfl) <| .cons (.mv rfl rfl) <| .cons (.nP rfl rfl) <| .cons (.fP 2 0 false rfl rfl) <| .cons (.l1 1 rfl rfl) <| .cons (.ln 82 3 40 rfl rfl rfl) <| .cons (.ls rfl rfl rfl) <| .nil <| ks_n ?_
        refine .cD rfl (fun h23 => ?_) (fun h23 => ?_)
        · skip
          obtain ⟨y, hy1⟩ : ∃ x_, (insG 0 g.2)[k]? = some x_ := ⟨_, List.getElem?_eq_getElem (by omega)⟩
          obtain ⟨ky, cy, qy, hIy⟩ := ins_at hS (List.mem_of_getElem? hy1)
          have hly := usR_len hIy
          have hkb := kindN_bd (g := g) (i := i) (k := k)
          refine .skip <| ks_n <| .seq <| .block <| .seq <| .region <| .cons (.mv rfl rfl) <| .cons (.mv rfl rfl) <| .cons (.mv rfl rfl) <| .cons (.cP [.tmp 26, .tmp 27, .tmp 28] rfl rfl rfl rfl (between_fn hx1 hy1 hlx hly) rfl) ?_
          refine .cons (.asg rfl rfl) <| .nil <| ks_n <| .seq <| .region <| .cons (.mv rfl rfl) <| .cons (.gt rfl rfl rfl) <| .nil <| ks_n ?_
          refine .cD rfl (fun h31 => ?_) (fun h31 => ?_)
          · skip
            have hkn : kindN g i k ≠ 0 := by omega
            refine .region <| .cons (.mv rfl rfl) <| .cons (.mv rfl rfl) <| .cons (.mv rfl rfl) <| .cons (.mv rfl rfl) <| .cons (.bu [(0, .tmp 33), (1, .tmp 34), (2, .tmp 35)] [(0, 1), (1, 1), (2, 1)] [.int .i64 0, .int .i64 0, .int .i64 0] rfl rfl rfl rfl rfl) <| .cons (.li 51 2 0 [.tmp 36] rfl rfl rfl rfl rfl rfl) <| .cons (St1.appN (k' := 138) (e := 51) (sz := 2) (by' := 24) rfl rfl rfl rfl rfl (by kernel_rfl) rfl rfl rfl (by simp) (by first | (simp [dR]; done) | (simp [dR]; omega)) rfl rfl) ?_
            refine .cons (.asg rfl rfl) <| .nil <| kb_n <| ks_n <| .region <| .cons (.mv rfl rfl) <| .cons (.pl rfl rfl rfl) <| .cons (.asg rfl rfl) <| .nil ?_
            refine kl_k [(120, 138)] (.inr ⟨k + 1, [((i : Int), ((k : Nat) : Int), kindN g i k)], rfl, by omega, by omega, by rw [rowN_yes (by omega) hkn, hEi]; rfl, by simp; omega, by simp, rfl⟩) ⟨ks rfl .dt, ks rfl (.c .ow), ks rfl .dt, ks rfl .dt, ks rfl .dt, ks rfl .dt, ks rfl .dt, kb 138 rfl (.dt rfl (by first | rfl | (simp [dR, rD, dI]; done) | (simp [dR, rD, dI]; rfl))), trivial⟩
          · skip
            have hkz : kindN g i k = 0 := by omega
            refine .skip <| kb_n <| ks_n <| .region <| .cons (.mv rfl rfl) <| .cons (.pl rfl rfl rfl) <| .cons (.asg rfl rfl) <| .nil ?_
            refine kl_k [] (.inl ⟨k + 1, rfl, by omega, by omega, by rw [rowN_no hkz, hEi], rfl⟩) ⟨ks rfl .dt, ks rfl .dt, ks rfl .dt, ks rfl .dt, ks rfl .dt, ks rfl .dt, ks rfl .dt, trivial⟩
        · skip
          obtain rfl : k = (insG 0 g.2).length := by omega
          refine .exit <| ks_e <| kl_e <| kb_hit <| kb_n <| ks_n <| .region <| .cons (.pl rfl rfl rfl) <| .cons (.mv rfl rfl) <| .nil ?_
          refine kl_k [] (.inl ⟨i + 1, rfl, by omega, by rw [depsN_next, hE, hEi]; rfl, rfl⟩) ⟨ks rfl .dt, ks rfl .dt, ks rfl .dt, ks rfl .dt, ks rfl .dt, trivial⟩
      · skip
        refine .seq <| .seq <| .region <| .cons (.mv rfl rfl) <| .cons (.mv rfl rfl) <| .cons (.nP rfl rfl) <| .cons (.fP 2 0 false rfl rfl) <| .cons (.l1 1 rfl rfl) <| .cons (.ln 82 3 40 rfl rfl rfl) <| .cons (.ls rfl rfl rfl) <| .nil <| ks_n ?_
        refine .cD rfl (fun h23 => ?_) (fun h23 => ?_)
        · skip
          obtain ⟨y, hy1⟩ : ∃ x_, (insG 0 g.2)[k]? = some x_ := ⟨_, List.getElem?_eq_getElem (by omega)⟩
          obtain ⟨ky, cy, qy, hIy⟩ := ins_at hS (List.mem_of_getElem? hy1)
          have hly := usR_len hIy
          have hkb := kindN_bd (g := g) (i := i) (k := k)
          refine .skip <| ks_n <| .seq <| .block <| .seq <| .region <| .cons (.mv rfl rfl) <| .cons (.mv rfl rfl) <| .cons (.mv rfl rfl) <| .cons (.cP [.tmp 26, .tmp 27, .tmp 28] rfl rfl rfl rfl (between_fn hx1 hy1 hlx hly) rfl) ?_
          refine .cons (.asg rfl rfl) <| .nil <| ks_n <| .seq <| .region <| .cons (.mv rfl rfl) <| .cons (.gt rfl rfl rfl) <| .nil <| ks_n ?_
          refine .cD rfl (fun h31 => ?_) (fun h31 => ?_)
          · skip
            have hkn : kindN g i k ≠ 0 := by omega
            refine .region <| .cons (.mv rfl rfl) <| .cons (.mv rfl rfl) <| .cons (.mv rfl rfl) <| .cons (.mv rfl rfl) <| .cons (.bu [(0, .tmp 33), (1, .tmp 34), (2, .tmp 35)] [(0, 1), (1, 1), (2, 1)] [.int .i64 0, .int .i64 0, .int .i64 0] rfl rfl rfl rfl rfl) <| .cons (.li 51 2 0 [.tmp 36] rfl rfl rfl rfl rfl rfl) <| .cons (St1.appB (k' := 138) (e := 51) (sz := 2) (by' := 24) rfl rfl rfl rfl rfl (by kernel_rfl) rfl rfl rfl rfl (by first | (simp [dR]; done) | (simp [dR]; omega)) (by first | (simp [dR]; done) | (simp [dR]; omega)) rfl rfl rfl) ?_
            refine .cons (.asg rfl rfl) <| .nil <| kb_n <| ks_n <| .region <| .cons (.mv rfl rfl) <| .cons (.pl rfl rfl rfl) <| .cons (.asg rfl rfl) <| .nil ?_
            refine kl_k [(120, 138)] (.inr ⟨k + 1, o2 ++ [((i : Int), ((k : Nat) : Int), kindN g i k)], rfl, by omega, by omega, by rw [rowN_yes (by omega) hkn, ← List.append_assoc, hEi], by rw [List.length_append, List.length_singleton]; omega, by simp, rfl⟩) ⟨ks rfl .dt, ks rfl (.c .ow), ks rfl .dt, ks rfl .dt, ks rfl .dt, ks rfl .dt, ks rfl .dt, kb 138 rfl (.dt rfl (by first | rfl | (simp [dR, rD, dI]; done) | (simp [dR, rD, dI]; rfl))), trivial⟩
          · skip
            have hkz : kindN g i k = 0 := by omega
            refine .skip <| kb_n <| ks_n <| .region <| .cons (.mv rfl rfl) <| .cons (.pl rfl rfl rfl) <| .cons (.asg rfl rfl) <| .nil ?_
            refine kl_k [(120, 120)] (.inr ⟨k + 1, o2, rfl, by omega, by omega, by rw [rowN_no hkz, hEi], by omega, hn2, rfl⟩) ⟨ks rfl .dt, ks rfl (.c .ow), ks rfl .dt, ks rfl .dt, ks rfl .dt, ks rfl .dt, ks rfl .dt, kb 120 rfl (.dt rfl (by first | rfl | (simp [dR, rD, dI]; done) | (simp [dR, rD, dI]; rfl))), trivial⟩
        · skip
          obtain rfl : k = (insG 0 g.2).length := by omega
          refine .exit <| ks_e <| kl_e <| kb_hit <| kb_n <| ks_n <| .region <| .cons (.pl rfl rfl rfl) <| .cons (.mv rfl rfl) <| .nil ?_
          refine kl_k [(110, 120)] (.inr ⟨i + 1, o2, rfl, by omega, by rw [depsN_next, hE]; exact hEi, by omega, hn2, rfl⟩) ⟨ks rfl .dt, ks rfl (.c .ow), ks rfl .dt, ks rfl .dt, ks rfl .dt, kb 120 rfl (.dt rfl (by first | rfl | (simp [dR, rD, dI]; done) | (simp [dR, rD, dI]; rfl))), trivial⟩
    · skip
      obtain rfl : i = (insG 0 g.2).length := by omega
      refine .exit <| ks_e <| kl_e <| kb_hit <| ks_n <| .seq <| .region <| .cons (.mv rfl rfl) <| .cons (.asg rfl rfl) <| .nil <| ks_n <| .ret ?_
      refine kf_ret rfl ?_ nobox
      rfl
  · skip
    refine .seq <| .region <| .cons (.ls rfl rfl rfl) <| .nil <| ks_n <| .seq ?_
    refine .cD rfl (fun h13 => ?_) (fun h13 => ?_)
    · skip
      obtain ⟨x, hx1⟩ : ∃ x_, (insG 0 g.2)[i]? = some x_ := ⟨_, List.getElem?_eq_getElem (by omega)⟩
      obtain ⟨kx, cx, qx, hIx⟩ := ins_at hS (List.mem_of_getElem? hx1)
      have hlx := usR_len hIx
      refine .skip <| ks_n <| .seq <| .block <| .seq <| .region <| .cons (.mv rfl rfl) <| .cons (.asg rfl rfl) <| .nil <| ks_n <| .seq <| .region <| .cons (.mv rfl rfl) <| .cons (.pl rfl rfl rfl) <| .cons (.asg rfl rfl) <| .nil <| ks_n <| .block ?_
      refine .loopK (fun m σ => (∃ (k : Nat) (o2 : List Dpn), m = (insG 0 g.2).length - k ∧ (i + 1 ≤ k) ∧ (k ≤ (insG 0 g.2).length) ∧ (o ++ rowN g i k = o2) ∧ (o2.length ≤ 120 * i + k) ∧ (o2 ≠ []) ∧ σ = [(.t 0, .v (.o (.c (.ptr (rT g))))), (.t 3, .v (.o (.c (.own 120 3 (o2.length))))), (.t 4, .v (.o (nat1 (i : Nat)))), (.t 5, .v (.o (nat1 (k : Nat)))), (.t 10, .v (.o (vD (dNs (insG 0 g.2))))), (.t 11, .v (.o (nat1 ((insG 0 g.2).length : Nat)))), (.t 12, .v (.o (nat1 (i : Nat)))), (.b 120, .b 51 3 (dR (o2.map rD))), (.u 120, .u)])) [(120, 110)] ⟨i + 1, o, rfl, by omega, by omega, by rw [rowN_zero, List.append_nil], by omega, hn1, rfl⟩ ⟨ks rfl .dt, ks rfl (.c .ow), ks rfl .dt, ks rfl .dt, ks rfl .dt, ks rfl .dt, ks rfl .dt, kb 110 rfl (.dt rfl (by first | rfl | (simp [dR, rD, dI]; done) | (simp [dR, rD, dI]; rfl))), trivial⟩ ?_
      rintro m σ ⟨k, o2, hm0, hk1, hk, hEi, ho2, hn2, rfl⟩
      refine .seq <| .seq <| .region <| .cons (.mv rfl rfl) <| .cons (.mv rfl rfl) <| .cons (.nP rfl rfl) <| .cons (.fP 2 0 false rfl rfl) <| .cons (.l1 1 rfl rfl) <| .cons (.ln 82 3 40 rfl rfl rfl) <| .cons (.ls rfl rfl rfl) <| .nil <| ks_n ?_
      refine .cD rfl (fun h23 => ?_) (fun h23 => ?_)
      · skip
        obtain ⟨y, hy1⟩ : ∃ x_, (insG 0 g.2)[k]? = some x_ := ⟨_, List.getElem?_eq_getElem (by omega)⟩
        obtain ⟨ky, cy, qy, hIy⟩ := ins_at hS (List.mem_of_getElem? hy1)
        have hly := usR_len hIy
        have hkb := kindN_bd (g := g) (i := i) (k := k)
        refine .skip <| ks_n <| .seq <| .block <| .seq <| .region <| .cons (.mv rfl rfl) <| .cons (.mv rfl rfl) <| .cons (.mv rfl rfl) <| .cons (.cP [.tmp 26, .tmp 27, .tmp 28] rfl rfl rfl rfl (between_fn hx1 hy1 hlx hly) rfl) ?_
        refine .cons (.asg rfl rfl) <| .nil <| ks_n <| .seq <| .region <| .cons (.mv rfl rfl) <| .cons (.gt rfl rfl rfl) <| .nil <| ks_n ?_
        refine .cD rfl (fun h31 => ?_) (fun h31 => ?_)
        · skip
          have hkn : kindN g i k ≠ 0 := by omega
          refine .region <| .cons (.mv rfl rfl) <| .cons (.mv rfl rfl) <| .cons (.mv rfl rfl) <| .cons (.mv rfl rfl) <| .cons (.bu [(0, .tmp 33), (1, .tmp 34), (2, .tmp 35)] [(0, 1), (1, 1), (2, 1)] [.int .i64 0, .int .i64 0, .int .i64 0] rfl rfl rfl rfl rfl) <| .cons (.li 51 2 0 [.tmp 36] rfl rfl rfl rfl rfl rfl) <| .cons (St1.appB (k' := 138) (e := 51) (sz := 2) (by' := 24) rfl rfl rfl rfl rfl (by kernel_rfl) rfl rfl rfl rfl (by first | (simp [dR]; done) | (simp [dR]; omega)) (by first | (simp [dR]; done) | (simp [dR]; omega)) rfl rfl rfl) ?_
          refine .cons (.asg rfl rfl) <| .nil <| kb_n <| ks_n <| .region <| .cons (.mv rfl rfl) <| .cons (.pl rfl rfl rfl) <| .cons (.asg rfl rfl) <| .nil ?_
          refine kl_k [(120, 138)] ⟨k + 1, o2 ++ [((i : Int), ((k : Nat) : Int), kindN g i k)], rfl, by omega, by omega, by rw [rowN_yes (by omega) hkn, ← List.append_assoc, hEi], by rw [List.length_append, List.length_singleton]; omega, by simp, rfl⟩ ⟨ks rfl .dt, ks rfl (.c .ow), ks rfl .dt, ks rfl .dt, ks rfl .dt, ks rfl .dt, ks rfl .dt, kb 138 rfl (.dt rfl (by first | rfl | (simp [dR, rD, dI]; done) | (simp [dR, rD, dI]; rfl))), trivial⟩
        · skip
          have hkz : kindN g i k = 0 := by omega
          refine .skip <| kb_n <| ks_n <| .region <| .cons (.mv rfl rfl) <| .cons (.pl rfl rfl rfl) <| .cons (.asg rfl rfl) <| .nil ?_
          refine kl_k [(120, 120)] ⟨k + 1, o2, rfl, by omega, by omega, by rw [rowN_no hkz, hEi], by omega, hn2, rfl⟩ ⟨ks rfl .dt, ks rfl (.c .ow), ks rfl .dt, ks rfl .dt, ks rfl .dt, ks rfl .dt, ks rfl .dt, kb 120 rfl (.dt rfl (by first | rfl | (simp [dR, rD, dI]; done) | (simp [dR, rD, dI]; rfl))), trivial⟩
      · skip
        obtain rfl : k = (insG 0 g.2).length := by omega
        refine .exit <| ks_e <| kl_e <| kb_hit <| kb_n <| ks_n <| .region <| .cons (.pl rfl rfl rfl) <| .cons (.mv rfl rfl) <| .nil ?_
        refine kl_k [(110, 120)] (.inr ⟨i + 1, o2, rfl, by omega, by rw [depsN_next, hE]; exact hEi, by omega, hn2, rfl⟩) ⟨ks rfl .dt, ks rfl (.c .ow), ks rfl .dt, ks rfl .dt, ks rfl .dt, kb 120 rfl (.dt rfl (by first | rfl | (simp [dR, rD, dI]; done) | (simp [dR, rD, dI]; rfl))), trivial⟩
    · skip
      exact absurd (by rw [← hE, show i = (insG 0 g.2).length by omega]; exact hz) hn1

theorem del_nil {f : FuncId} {g : Prg} : Fn Tryz.prog 38 (hbT 1 g) [.c (.d (.val (.slice none 0 0))), .c (.fb f 1 1)] (.o (.c (.d (.val (.slice none 0 0))))) (hbT 1 g) := by
  refine Fn.of_code Tryz.func38 rfl rfl (hbT_HB _ _) rfl rfl (hbT_HB _ _) rfl hbT_num ?_
  refine .seq <| .region <| .cons (.asg rfl rfl) <| .nil <| ks_n <| .seq <| .region <| .cons (.mv rfl rfl) <| .cons (.mv rfl rfl) <| .cons (.cO [.tmp 8, .tmp 9] [(1, 1)] rfl rfl rfl rfl (idxN_fn) rfl ⟨rfl, trivial⟩ (hbT_flat _ _) (hbT_flat _ _) (hbT_HB _ _) outS_T) ?_
  refine .cons (.asg rfl rfl) <| .nil <| ks_n <| .seq <| .seq <| .region <| .cons (.mv rfl rfl) <| .cons (.eq rfl rfl rfl) <| .nil <| ks_n ?_
  refine .cD rfl (fun h12 => ?_) (fun h12 => ?_)
  · skip
    refine .seq <| .region <| .cons (.mv rfl rfl) <| .cons (.asg rfl rfl) <| .nil <| ks_n <| .ret <| ks_r ?_
    refine kf_ret rfl ?_ (hbT_box rfl)
    rfl
  · skip
    simp at h12

theorem implStr_bad {g : Prg} (hs : szG g ≤ 1073741824) (hV : prgV g = false) : Fn Tryz.prog 16 [] [ad (rG g)] (.o (vD (dDs (strV g)))) [] := by
 refine Fn.code0 Tryz.func16 rfl rfl rfl rfl ?_
 refine .seq <| .region <| .cons (St1.boxP rfl rfl rfl rfl rfl rfl) <| .cons (.asg rfl rfl) <| .nil <| ks_n <| .seq <| .region <| .cons (.lN 2 rfl rfl rfl) <| .cons (.cP [.tmp 6] rfl rfl rfl rfl (trace_no hs hV) rfl) ?_
 refine .cons (.mv rfl rfl) <| .cons (.ex rfl rfl rfl) <| .cons (.ex rfl rfl rfl) <| .cons (.al 103 [.pointer none] rfl rfl rfl) <| .cons (.sT 1 false rfl rfl rfl rfl rfl rfl rfl) <| .cons (.asg rfl rfl) <| .nil <| ks_n <| .seq <| .seq <| .region <| .cons (.mv rfl rfl) <| .cons (.nt rfl rfl) <| .nil <| ks_n ?_
 refine ACode.condT rfl (fun h11 => ?_) (fun h11 => ?_)
 ·try simp only [zs1, zs2, zs3, zs4, zs5, zs6, zs7] at h11
  refine .seq <| .region <| .cons (.asg rfl rfl) <| .nil <| ks_n <| .ret <| ks_r ?_
  refine kf_wret [(.t 2, .v (.o (vD (dDs (strV g)))))] (Wk.keep [] rfl rfl ⟨ks rfl (.c (Cto.nilE 3 (by rw [strV_no hV]; rfl))), trivial⟩) rfl ?_ nobox
  rfl
 ·try simp only [zs1, zs2, zs3, zs4, zs5, zs6, zs7] at h11
  cases h11

theorem implStr_own {g : Prg} (hs : szG g ≤ 1073741824) (hV : prgV g = true) (hz : depsG g ≠ []) : Fn Tryz.prog 16 [] [ad (rG g)] (.o (vD (dDs (strV g)))) [] := by
 obtain ⟨hS, hN, hL⟩ := prgV_s hV
 have hdl := depsN_len hL (n := (insG 0 g.2).length)
 have hdl2 : (depsG g).length ≤ 14400 := by unfold depsG; omega
 refine Fn.code0 Tryz.func16 rfl rfl rfl rfl ?_
 refine .seq <| .region <| .cons (St1.boxP rfl rfl rfl rfl rfl rfl) <| .cons (.asg rfl rfl) <| .nil <| ks_n <| .seq <| .region <| .cons (.lN 2 rfl rfl rfl) <| .cons (.cP [.tmp 6] rfl rfl rfl rfl (trace_fn hs hV) rfl) ?_
 refine .cons (.mv rfl rfl) <| .cons (.ex rfl rfl rfl) <| .cons (.ex rfl rfl rfl) <| .cons (.al 103 [.pointer none] rfl rfl rfl) <| .cons (.sT 1 false rfl rfl rfl rfl rfl rfl rfl) <| .cons (.asg rfl rfl) <| .nil <| ks_n <| .seq <| .seq <| .region <| .cons (.mv rfl rfl) <| .cons (.nt rfl rfl) <| .nil <| ks_n ?_
 refine ACode.condT rfl (fun h11 => ?_) (fun h11 => ?_)
 ·try simp only [zs1, zs2, zs3, zs4, zs5, zs6, zs7] at h11
  cases h11
 ·try simp only [zs1, zs2, zs3, zs4, zs5, zs6, zs7] at h11
  refine .skip <| ks_n <| .seq <| .region <| .cons (.b1 1 rfl rfl rfl rfl rfl rfl) <| .cons (.cO [.tmp 12] [(100, 113)] rfl rfl rfl rfl (deps_own hS hL hz) rfl trivial flatS.nil (flatS.nil.cons rfl) HB.nil.data outS_one) ?_
  refine .cons (St1.makeFuncB rfl rfl rfl rfl rfl rfl rfl) <| .cons (.cO [.tmp 13, .tmp 14] [(0, 113), (1, 103)] rfl rfl rfl rfl (del_fn (by kernel_rfl) (redS g) (depsG g) (by omega) (fun d hd => by obtain ⟨i, k, rfl, h1, h2, _⟩ := deps_mem hd; exact str1_fn hs hS rfl rfl (List.getElem?_eq_getElem (by omega : i < (insG 0 g.2).length)) (List.getElem?_eq_getElem h2))) rfl ⟨(by rw [renR_dR]; rfl), rfl, trivial⟩ (hbD_flat _ _) (hbD_flat _ _) (hbD_HB _ _) outS_D) ?_
  refine .cons (.asg rfl rfl) <| .nil <| ks_n <| .ret ?_
  refine kf_wret [(.t 2, .v (.o (vD (dDs (strV g)))))] (Wk.keep [] rfl rfl ⟨ks rfl (.c (.fz rfl (by rw [strV_yes hV]; rfl) (by rw [strV_yes hV, strG, List.length_map]) (by have := strG_len (g := g) hL; unfold strG at this; omega))), trivial⟩) rfl ?_ nobox
  rfl

theorem implStr_nil {g : Prg} (hs : szG g ≤ 1073741824) (hV : prgV g = true) (hz : depsG g = []) : Fn Tryz.prog 16 [] [ad (rG g)] (.o (vD (dDs (strV g)))) [] := by
 obtain ⟨hS, hN, hL⟩ := prgV_s hV
 have hdl := depsN_len hL (n := (insG 0 g.2).length)
 have hdl2 : (depsG g).length ≤ 14400 := by unfold depsG; omega
 refine Fn.code0 Tryz.func16 rfl rfl rfl rfl ?_
 refine .seq <| .region <| .cons (St1.boxP rfl rfl rfl rfl rfl rfl) <| .cons (.asg rfl rfl) <| .nil <| ks_n <| .seq <| .region <| .cons (.lN 2 rfl rfl rfl) <| .cons (.cP [.tmp 6] rfl rfl rfl rfl (trace_fn hs hV) rfl) ?_
 refine .cons (.mv rfl rfl) <| .cons (.ex rfl rfl rfl) <| .cons (.ex rfl rfl rfl) <| .cons (.al 103 [.pointer none] rfl rfl rfl) <| .cons (.sT 1 false rfl rfl rfl rfl rfl rfl rfl) <| .cons (.asg rfl rfl) <| .nil <| ks_n <| .seq <| .seq <| .region <| .cons (.mv rfl rfl) <| .cons (.nt rfl rfl) <| .nil <| ks_n ?_
 refine ACode.condT rfl (fun h11 => ?_) (fun h11 => ?_)
 ·try simp only [zs1, zs2, zs3, zs4, zs5, zs6, zs7] at h11
  cases h11
 ·try simp only [zs1, zs2, zs3, zs4, zs5, zs6, zs7] at h11
  refine .skip <| ks_n <| .seq <| .region <| .cons (.b1 1 rfl rfl rfl rfl rfl rfl) <| .cons (.cP [.tmp 12] rfl rfl rfl rfl (deps_nil hS hL hz) rfl) ?_
  refine .cons (St1.makeFuncB rfl rfl rfl rfl rfl rfl rfl) <| .cons (.cO [.tmp 13, .tmp 14] [(1, 103)] rfl rfl rfl rfl (del_nil) rfl ⟨rfl, trivial⟩ (hbT_flat _ _) (hbT_flat _ _) (hbT_HB _ _) outS_T) ?_
  refine .cons (.asg rfl rfl) <| .nil <| ks_n <| .ret ?_
  refine kf_wret [(.t 2, .v (.o (vD (dDs (strV g)))))] (Wk.keep [] rfl rfl ⟨ks rfl (.c (Cto.nilE 3 (by rw [strV_yes hV, strG, hz]; rfl))), trivial⟩) rfl ?_ nobox
  rfl

theorem implStr_fn {g : Prg} (hs : szG g ≤ 1073741824) : Fn Tryz.prog 16 [] [ad (rG g)] (.o (vD (dDs (strV g)))) [] := by
  cases hV : prgV g with
  | false => exact implStr_bad hs hV
  | true =>
    by_cases hz : depsG g = []
    · exact implStr_nil hs hV hz
    · exact implStr_own hs hV hz

theorem strG_take {g : Prg} {i : Nat} {d : Dpn} (h : (depsG g)[i]? = some d) : ((depsG g).take (i + 1)).filter (fun d => !redS g d) = ((depsG g).take i).filter (fun d => !redS g d) ++ if redS g d = true then [] else [d] := by
  rw [List.take_add_one, h, List.filter_append]
  cases hp : redS g d <;> simp [hp]

theorem specStr_fn {g : Prg} (hs : szG g ≤ 1073741824)  : Fn Tryz.prog 15 [] [ad (rG g)] (.o (vD (dDs (strV g)))) [] := by
 refine Fn.code0 Tryz.func15 rfl rfl rfl rfl ?_
 refine .seq <| .region <| .cons (St1.boxP rfl rfl rfl rfl rfl rfl) <| .cons (.asg rfl rfl) <| .nil <| ks_n <| .seq <| .region <| .cons (St1.lit0 (k' := 109) (e := 51) (sz := 3) (b := true) rfl rfl rfl rfl (by kernel_rfl) rfl rfl) ?_
 refine .cons (.asg rfl rfl) <| .nil <| ks_n <| .seq <| .seq <| .region <| .cons (.lN 2 rfl rfl rfl) <| .cons (.cP [.tmp 10] rfl rfl rfl rfl (specPV_fn hs) rfl) ?_
 refine .cons (.nt rfl rfl) <| .nil <| ks_n ?_
 refine ACode.condT rfl (fun h12 => ?_) (fun h12 => ?_)
 ·try simp only [zs1, zs2, zs3, zs4, zs5, zs6, zs7] at h12
  have hV : prgV g = false := by first | assumption | simp_all
  refine .seq <| .region <| .cons (.mv rfl rfl) <| .cons (.asg rfl rfl) <| .nil <| ks_n <| .ret <| ks_r ?_
  refine kf_wret [(.t 2, .v (.o (vD (dDs (strV g)))))] (Wk.keep [] rfl rfl ⟨ks rfl (.c (.fz rfl (by rw [strV_no hV]; rfl) (by rw [strV_no hV]; rfl) (by omega))), trivial⟩) rfl ?_ nobox
  rfl
 ·try simp only [zs1, zs2, zs3, zs4, zs5, zs6, zs7] at h12
  have hV : prgV g = true := by first | assumption | simp_all
  obtain ⟨hS, hN, hL⟩ := prgV_s hV
  have hdl := depsN_len hL (n := (insG 0 g.2).length)
  have hdl2 : (depsG g).length ≤ 14400 := by unfold depsG; omega
  refine .skip <| ks_n <| .seq <| .region <| .cons (.lN 2 rfl rfl rfl) <| .cons (.cP [.tmp 14] rfl rfl rfl rfl (l12Names_fn hs hS) rfl) ?_
  refine .cons (.asg rfl rfl) <| .nil <| ks_n <| .seq <| .region <| .cons (.lN 2 rfl rfl rfl) <| .cons (.cP [.tmp 16] rfl rfl rfl rfl (l6Deps_fn hs hS hL) rfl) ?_
  refine .cons (.asg rfl rfl) <| .nil <| ks_n <| .seq <| .seq <| .region <| .cons (.asg rfl rfl) <| .nil <| ks_n <| .block ?_
  refine .loopK (fun m σ => (∃ (i : Nat) (o : List Dpn), m = (depsG g).length - i ∧ (i ≤ (depsG g).length) ∧ (((depsG g).take i).filter (fun d => !redS g d) = o) ∧ (o.length ≤ i) ∧ σ = [(.t 3, .v (.o (.c (.own 110 3 (o.length))))), (.t 4, .v (.o (vD (dSs (namesV g))))), (.t 5, .v (.o (vD (dDs (depsG g))))), (.t 6, .v (.o (nat1 (i : Nat)))), (.b 110, .b 51 3 (dR (o.map rD))), (.u 110, .u)])) [(110, 109)] ⟨0, [], rfl, by omega, rfl, by simp, rfl⟩ ⟨ks rfl (.c .ow), ks rfl .dt, ks rfl .dt, ks rfl .dt, kb 109 rfl (.dt rfl (by first | rfl | (simp [dR, rD, dI]; done) | (simp [dR, rD, dI]; rfl))), trivial⟩ ?_
  rintro m σ ⟨i, o, hm0, hi, hE, ho, rfl⟩
  refine .seq <| .seq <| .region <| .cons (.mv rfl rfl) <| .cons (.mv rfl rfl) <| .cons (.ln 51 3 24 rfl rfl rfl) <| .cons (.ls rfl rfl rfl) <| .nil <| ks_n ?_
  refine .cD rfl (fun h21 => ?_) (fun h21 => ?_)
  ·skip
   obtain ⟨d, hd1⟩ : ∃ x_, (depsG g)[i]? = some x_ := ⟨_, List.getElem?_eq_getElem (by omega)⟩
   obtain ⟨a, b, hde, hab, hbl, _⟩ := deps_mem (List.mem_of_getElem? hd1)
   obtain ⟨x, hx1⟩ : ∃ x, (insG 0 g.2)[a]? = some x := ⟨_, List.getElem?_eq_getElem (by omega)⟩
   obtain ⟨y, hy1⟩ : ∃ y, (insG 0 g.2)[b]? = some y := ⟨_, List.getElem?_eq_getElem hbl⟩
   obtain ⟨kx, cx, qx, hIx, _, _⟩ := red_fn hs hS hx1
   obtain ⟨ky, cy, qy, hIy, _, _⟩ := red_fn hs hS hy1
   have hnr := name_red hIx hIy
   rw [← redS_eq (c := kindN g a b) hx1 hy1, ← hde] at hnr
   have hda : d.1 = (a : Int) := by rw [hde]
   have hdb : d.2.1 = (b : Int) := by rw [hde]
   refine .skip <| ks_n <| .seq <| .block <| .seq <| .region <| .cons (.mv rfl rfl) <| .cons (.mv rfl rfl) <| .cons (.xL 51 3 24 rfl rfl rfl rfl rfl) ?_
   refine .cons (.fP 0 0 false rfl rfl) <| .cons (.l1 1 rfl rfl) <| .cons (.asg rfl rfl) <| .nil <| ks_n <| .seq <| .region <| .cons (.mv rfl rfl) <| .cons (.mv rfl rfl) <| .cons (.xL 51 3 24 rfl rfl rfl rfl rfl) ?_
   refine .cons (.fP 1 0 false rfl rfl) <| .cons (.l1 1 rfl rfl) <| .cons (.asg rfl rfl) <| .nil <| ks_n <| .seq ?_
   refine ACode.drawK (by kernel_rfl) (by kernel_rfl) ?_
   refine .cons (.mv rfl rfl) <| .cons (.mv rfl rfl) <| .cons (.xL 9 1 16 (i := a) rfl rfl rfl rfl hda (map_at (names_at hx1))) ?_
   refine .cons (.l1 1 rfl rfl) <| .cons (St1.eqS rfl rfl rfl) <| .cons (.mv rfl rfl) ?_
   refine RunK.cases 39 _ rfl (fun g39 => ?_) (fun g39 => ?_)
   ·try simp only [zs1, zs2, zs3, zs4, zs5, zs6, zs7] at g39
    have hrs : redS g d = false := by simp_all
    refine .cons (.gF rfl rfl rfl) <| .cons (.gF rfl rfl rfl) <| .cons (.gF rfl rfl rfl) <| .cons (.gF rfl rfl rfl) <| .cons (.gF rfl rfl rfl) <| .cons (.gF rfl rfl rfl) <| .cons (.gF rfl rfl rfl) <| .cons (.gF rfl rfl rfl) <| .cons (.gF rfl rfl rfl) <| .cons (.pT rfl rfl rfl) ?_
    refine .nil ⟨by kernel_rfl, ?_⟩
    refine ks_n ?_
    refine ACode.condT rfl (fun _ => ?_) (fun h => by first | (cases h; done) | (simp [*] at h; done) | (exfalso; simp_all; done))
    refine .region <| .cons (.mv rfl rfl) <| .cons (.mv rfl rfl) <| .cons (.mv rfl rfl) <| .cons (.xL 51 3 24 rfl rfl rfl rfl rfl) ?_
    refine .cons (.lN 3 rfl rfl rfl) <| .cons (.li 51 2 0 [.tmp 54] rfl rfl rfl rfl rfl rfl) <| .cons (St1.appB (k' := 156) (e := 51) (sz := 2) (by' := 24) rfl rfl rfl rfl rfl (by kernel_rfl) rfl rfl rfl rfl (by first | (simp [dR]; done) | (simp [dR]; omega)) (by first | (simp [dR]; done) | (simp [dR]; omega)) rfl rfl rfl) ?_
    refine .cons (.asg rfl rfl) <| .nil <| kb_n <| ks_n <| .region <| .cons (.mv rfl rfl) <| .cons (.pl rfl rfl rfl) <| .cons (.asg rfl rfl) <| .nil ?_
    refine kl_k [(110, 156)] ⟨i + 1, o ++ [d], rfl, by omega, by rw [strG_take hd1, hE, if_neg (by rw [hrs]; simp)], by rw [List.length_append, List.length_singleton]; omega, rfl⟩ ⟨ks rfl (.c .ow), ks rfl .dt, ks rfl .dt, ks rfl .dt, kb 156 rfl (.dt rfl (by first | rfl | (simp [dR, rD, dI]; done) | (simp [dR, rD, dI]; rfl))), trivial⟩
   ·try simp only [zs1, zs2, zs3, zs4, zs5, zs6, zs7] at g39
    refine .cons (.gT rfl rfl rfl (.mv rfl rfl)) <| .cons (.gT rfl rfl rfl (.mv rfl rfl)) <| .cons (.gT rfl rfl rfl (.xL 9 1 16 (i := a) rfl rfl rfl rfl hda (map_at (names_at hx1)))) ?_
    refine .cons (.gT rfl rfl rfl (.l1 1 rfl rfl)) <| .cons (.gT rfl rfl rfl (.mv rfl rfl)) <| .cons (.gT rfl rfl rfl (.mv rfl rfl)) <| .cons (.gT rfl rfl rfl (.xL 9 1 16 (i := b) rfl rfl rfl rfl hdb (map_at (names_at hy1)))) ?_
    refine .cons (.gT rfl rfl rfl (.l1 1 rfl rfl)) <| .cons (.gT rfl rfl rfl (St1.neS rfl rfl rfl)) <| .cons (.pF rfl rfl rfl) ?_
    refine .nil ⟨by kernel_rfl, ?_⟩
    refine ks_n ?_
    refine ACode.condT rfl (fun h49 => ?_) (fun h49 => ?_)
    ·try simp only [zs1, zs2, zs3, zs4, zs5, zs6, zs7] at h49
     have hrs : redS g d = false := by simp_all
     refine .region <| .cons (.mv rfl rfl) <| .cons (.mv rfl rfl) <| .cons (.mv rfl rfl) <| .cons (.xL 51 3 24 rfl rfl rfl rfl rfl) ?_
     refine .cons (.lN 3 rfl rfl rfl) <| .cons (.li 51 2 0 [.tmp 54] rfl rfl rfl rfl rfl rfl) <| .cons (St1.appB (k' := 156) (e := 51) (sz := 2) (by' := 24) rfl rfl rfl rfl rfl (by kernel_rfl) rfl rfl rfl rfl (by first | (simp [dR]; done) | (simp [dR]; omega)) (by first | (simp [dR]; done) | (simp [dR]; omega)) rfl rfl rfl) ?_
     refine .cons (.asg rfl rfl) <| .nil <| kb_n <| ks_n <| .region <| .cons (.mv rfl rfl) <| .cons (.pl rfl rfl rfl) <| .cons (.asg rfl rfl) <| .nil ?_
     refine kl_k [(110, 156)] ⟨i + 1, o ++ [d], rfl, by omega, by rw [strG_take hd1, hE, if_neg (by rw [hrs]; simp)], by rw [List.length_append, List.length_singleton]; omega, rfl⟩ ⟨ks rfl (.c .ow), ks rfl .dt, ks rfl .dt, ks rfl .dt, kb 156 rfl (.dt rfl (by first | rfl | (simp [dR, rD, dI]; done) | (simp [dR, rD, dI]; rfl))), trivial⟩
    ·try simp only [zs1, zs2, zs3, zs4, zs5, zs6, zs7] at h49
     have hrs : redS g d = true := by simp_all
     refine .skip <| kb_n <| ks_n <| .region <| .cons (.mv rfl rfl) <| .cons (.pl rfl rfl rfl) <| .cons (.asg rfl rfl) <| .nil ?_
     refine kl_k [(110, 110)] ⟨i + 1, o, rfl, by omega, by rw [strG_take hd1, hE, if_pos hrs, List.append_nil], by omega, rfl⟩ ⟨ks rfl (.c .ow), ks rfl .dt, ks rfl .dt, ks rfl .dt, kb 110 rfl (.dt rfl (by first | rfl | (simp [dR, rD, dI]; done) | (simp [dR, rD, dI]; rfl))), trivial⟩
  ·skip
   obtain rfl : i = (depsG g).length := by omega
   rw [List.take_length] at hE
   refine .exit <| ks_e <| kl_e <| kb_hit <| ks_n <| .seq <| .region <| .cons (.mv rfl rfl) <| .cons (.asg rfl rfl) <| .nil <| ks_n <| .ret ?_
   refine kf_wret [(.t 2, .v (.o (vD (dDs (strV g)))))] (Wk.keep [] rfl rfl ⟨ks rfl (.c (.fz rfl (by rw [strV_yes hV, strG, hE]) (by rw [strV_yes hV, strG, hE, List.length_map]) (by omega))), trivial⟩) rfl ?_ nobox
   rfl
/-- The instances of a program that is valid. -/
def insQ (g : Prg) : List Ins := if prgV g = true then insG 0 g.2 else []
theorem insQ_yes {g : Prg} (h : prgV g = true) : insQ g = insG 0 g.2 := if_pos h
theorem insQ_no {g : Prg} (h : prgV g = false) : insQ g = [] := if_neg (by rw [h]; simp)
theorem insQ_len (g : Prg) : (insQ g).length ≤ 120 := by
  cases hV : prgV g with
  | false => rw [insQ_no hV]; simp
  | true => rw [insQ_yes hV]; exact (prgV_s hV).2.2
theorem strP_ok (g : Prg) : DOk (strV g) (insQ g).length := by
  cases hV : prgV g with
  | false => rw [strV_no hV]; exact fun d hd => by cases hd
  | true => rw [insQ_yes hV]; exact strV_ok g
theorem strP_len (g : Prg) : (strV g).length ≤ 14400 := by
  cases hV : prgV g with
  | false => rw [strV_no hV]; simp
  | true => rw [strV_yes hV]; exact strG_len (prgV_s hV).2.2
theorem implPI_fn {g : Prg} (hs : szG g ≤ 1073741824)  : Fn Tryz.prog 29 [] [ad (rG g)] (.o (vD (dNs (insQ g)))) [] := by
 refine Fn.code0 Tryz.func29 rfl rfl rfl rfl ?_
 refine .seq <| .region <| .cons (St1.boxP rfl rfl rfl rfl rfl rfl) <| .cons (.asg rfl rfl) <| .nil <| ks_n <| .seq <| .region <| .cons (.lN 2 rfl rfl rfl) <| .cons (.cP [.tmp 6] rfl rfl rfl rfl (instances_fn hs) rfl) ?_
 refine .cons (.mv rfl rfl) <| .cons (.ex rfl rfl rfl) <| .cons (.ex rfl rfl rfl) <| .cons (.asg rfl rfl) <| .cons (.asg rfl rfl) <| .nil <| ks_n <| .seq <| .seq <| .region <| .cons (.mv rfl rfl) <| .cons (.nt rfl rfl) <| .nil <| ks_n ?_
 refine ACode.condT rfl (fun h11 => ?_) (fun h11 => ?_)
 ·try simp only [zs1, zs2, zs3, zs4, zs5, zs6, zs7] at h11
  have hV : prgV g = false := by first | assumption | simp_all
  refine .seq <| .region <| .cons (.asg rfl rfl) <| .nil <| ks_n <| .ret <| ks_r ?_
  refine kf_wret [(.t 2, .v (.o (vD (dNs (insQ g)))))] (Wk.keep [] rfl rfl ⟨ks rfl (.c (Cto.nilE 3 (by rw [insQ_no hV]; rfl))), trivial⟩) rfl ?_ nobox
  rfl
 ·try simp only [zs1, zs2, zs3, zs4, zs5, zs6, zs7] at h11
  have hV : prgV g = true := by first | assumption | simp_all
  refine .skip <| ks_n <| .seq <| .region <| .cons (.mv rfl rfl) <| .cons (.asg rfl rfl) <| .nil <| ks_n <| .ret ?_
  refine kf_wret [(.t 2, .v (.o (vD (dNs (insQ g)))))] (Wk.keep [] rfl rfl ⟨ks rfl (.dt (by rw [insQ_yes hV, (prgV_s hV).2.1])), trivial⟩) rfl ?_ nobox
  rfl

theorem specPI_fn {g : Prg} (hs : szG g ≤ 1073741824)  : Fn Tryz.prog 25 [] [ad (rG g)] (.o (vD (dNs (insQ g)))) [] := by
 refine Fn.code0 Tryz.func25 rfl rfl rfl rfl ?_
 refine .seq <| .region <| .cons (St1.boxP rfl rfl rfl rfl rfl rfl) <| .cons (.asg rfl rfl) <| .nil <| ks_n <| .seq <| .seq <| .region <| .cons (.lN 2 rfl rfl rfl) <| .cons (.cP [.tmp 3] rfl rfl rfl rfl (specPV_fn hs) rfl) ?_
 refine .cons (.nt rfl rfl) <| .nil <| ks_n ?_
 refine ACode.condT rfl (fun h5 => ?_) (fun h5 => ?_)
 ·try simp only [zs1, zs2, zs3, zs4, zs5, zs6, zs7] at h5
  have hV : prgV g = false := by first | assumption | simp_all
  refine .seq <| .region <| .cons (St1.lit0 (k' := 106) (e := 82) (sz := 3) (b := true) rfl rfl rfl rfl (by kernel_rfl) rfl rfl) ?_
  refine .cons (.asg rfl rfl) <| .nil <| ks_n <| .ret <| ks_r ?_
  refine kf_wret [(.t 2, .v (.o (vD (dNs (insQ g)))))] (Wk.keep [] rfl rfl ⟨ks rfl (.c (.fz rfl (by rw [insQ_no hV]; rfl) (by rw [insQ_no hV]; rfl) (by omega))), trivial⟩) rfl ?_ nobox
  rfl
 ·try simp only [zs1, zs2, zs3, zs4, zs5, zs6, zs7] at h5
  have hV : prgV g = true := by first | assumption | simp_all
  refine .skip <| ks_n <| .seq <| .region <| .cons (.lN 2 rfl rfl rfl) <| .cons (.cP [.tmp 7] rfl rfl rfl rfl (l4Instances_fn (prgV_s hV).1) rfl) ?_
  refine .cons (.asg rfl rfl) <| .nil <| ks_n <| .ret ?_
  refine kf_wret [(.t 2, .v (.o (vD (dNs (insQ g)))))] (Wk.keep [] rfl rfl ⟨ks rfl (.dt (by rw [insQ_yes hV])), trivial⟩) rfl ?_ nobox
  rfl

/-- Does i wait for something that is not done? -/
def waitD (fl : List Bool) (i : Int) (d : Dpn) : Bool := decide (d.2.1 = i) && !fl.getD d.1.toNat false
def rbB (ds : List Dpn) (fl : List Bool) (i : Nat) : Bool := !fl.getD i false && !ds.any (waitD fl i)
/-- What may be done next, as flags: j dependences seen. -/
def rbN (ds : List Dpn) (fl : List Bool) (j : Nat) : List Bool := (List.range fl.length).map fun (i : Nat) => rbB (ds.take j) fl i
def rdyV (ds : List Dpn) (fl : List Bool) : List Int := flagV (rbN ds fl ds.length)
theorem rbN_len {ds : List Dpn} {fl : List Bool} {j : Nat} : (rbN ds fl j).length = fl.length := by rw [rbN, List.length_map, List.length_range]
theorem rbN_at {ds : List Dpn} {fl : List Bool} {j i : Nat} (h : i < fl.length) : (rbN ds fl j)[i]? = some (rbB (ds.take j) fl i) := by rw [rbN, List.getElem?_map, List.getElem?_range h]; rfl
theorem rbN_zero (ds : List Dpn) (fl : List Bool) : rbN ds fl 0 = fl.map not := by
  apply List.ext_getElem?
  intro i
  rw [List.getElem?_map]
  by_cases h : i < fl.length
  · rw [rbN_at h, List.getElem?_eq_getElem h, rbB, List.getD, List.getElem?_eq_getElem h]; simp
  · rw [List.getElem?_eq_none (by rw [rbN_len]; omega), List.getElem?_eq_none (by omega)]; rfl
theorem rbB_take {ds : List Dpn} {fl : List Bool} {j : Nat} {d : Dpn} (h : ds[j]? = some d) (i : Nat) : rbB (ds.take (j + 1)) fl i = (rbB (ds.take j) fl i && !waitD fl i d) := by
  rw [rbB, rbB, List.take_add_one, h, List.any_append]
  simp [Bool.and_assoc]
theorem rbN_yes {ds : List Dpn} {fl : List Bool} {j b : Nat} {d : Dpn} (h : ds[j]? = some d) (hb : d.2.1 = (b : Int)) (hw : fl.getD d.1.toNat false = false) : (rbN ds fl j).set b false = rbN ds fl (j + 1) := by
  apply List.ext_getElem?
  intro i
  rw [List.getElem?_set]
  by_cases hi : i < fl.length
  · rw [rbN_at hi, rbN_at hi, rbB_take h, waitD, hw, hb]
    by_cases e : b = i
    · subst e; rw [if_pos rfl, rbN_len, if_pos hi]; simp
    · rw [if_neg e, decide_eq_false (by omega)]; simp
  · rw [List.getElem?_eq_none (by rw [rbN_len]; omega), List.getElem?_eq_none (by rw [rbN_len]; omega)]
    by_cases e : b = i
    · subst e; rw [if_pos rfl, rbN_len, if_neg hi]
    · rw [if_neg e]
theorem rbN_no {ds : List Dpn} {fl : List Bool} {j : Nat} {d : Dpn} (h : ds[j]? = some d) (hw : fl.getD d.1.toNat false = true) : rbN ds fl (j + 1) = rbN ds fl j := by
  apply List.ext_getElem?
  intro i
  by_cases hi : i < fl.length
  · rw [rbN_at hi, rbN_at hi, rbB_take h, waitD, hw]; simp
  · rw [List.getElem?_eq_none (by rw [rbN_len]; omega), List.getElem?_eq_none (by rw [rbN_len]; omega)]
theorem rdyV_mem {ds : List Dpn} {fl : List Bool} {x : Int} (h : x ∈ rdyV ds fl) : ∃ i : Nat, x = (i : Int) ∧ i < fl.length ∧ rbB ds fl i = true := by
  rw [rdyV, flagV, flagN] at h
  obtain ⟨i, hi, rfl⟩ := List.mem_map.1 h
  obtain ⟨h1, h2⟩ := List.mem_filter.1 hi
  rw [List.mem_range, rbN_len] at h1
  rw [List.getD, rbN_at h1, List.take_length] at h2
  exact ⟨i, rfl, h1, h2⟩
theorem mem_rdyV {ds : List Dpn} {fl : List Bool} {i : Nat} (hi : i < fl.length) (h : rbB ds fl i = true) : (i : Int) ∈ rdyV ds fl := by
  rw [rdyV, flagV, flagN]
  refine List.mem_map.2 ⟨i, List.mem_filter.2 ⟨List.mem_range.2 (by rw [rbN_len]; exact hi), ?_⟩, rfl⟩
  rw [List.getD, rbN_at hi, List.take_length]; exact h
theorem rdyV_len {ds : List Dpn} {fl : List Bool} : (rdyV ds fl).length ≤ fl.length := by
  rw [rdyV, flagV, rbN_len]; exact flagN_len
theorem first_false : ∀ {fl : List Bool}, 0 < fl.count false → ∃ i : Nat, fl[i]? = some false ∧ ∀ j : Nat, j < i → fl[j]? = some true
  | [], h => by simp at h
  | false :: l, _ => ⟨0, rfl, fun j hj => absurd hj (by omega)⟩
  | true :: l, h => by
    obtain ⟨i, h1, h2⟩ := first_false (fl := l) (by simpa using h)
    refine ⟨i + 1, h1, fun j hj => ?_⟩
    cases j with
    | zero => rfl
    | succ j => exact h2 j (by omega)
/-- As long as something is not done something is ready. -/
theorem rdyV_pos {ds : List Dpn} {fl : List Bool} (ho : DOk ds fl.length) (h : 0 < fl.count false) : 0 < (rdyV ds fl).length := by
  obtain ⟨i, h1, h2⟩ := first_false h
  have hi := (List.getElem?_eq_some_iff.1 h1).1
  refine List.length_pos_of_mem (mem_rdyV hi ?_)
  rw [rbB, List.getD, h1, Option.getD_some, Bool.not_false, Bool.true_and, Bool.not_eq_true', List.any_eq_false]
  intro d hd
  obtain ⟨a, b, ha, hb, hab, _⟩ := ho d hd
  rw [waitD]
  by_cases e : d.2.1 = (i : Int)
  · rw [decide_eq_true e, Bool.true_and, ha, Int.toNat_natCast, List.getD, h2 a (by omega)]; simp
  · rw [decide_eq_false e]; simp
/-- The choice number n among m. -/
def chV (ch : List Int) (n m : Nat) : Int := if ch = [] then 0 else max 0 ((ch.getD (n % ch.length) 0).tmod m)
theorem chV_bd {ch : List Int} {n m : Nat} (hm : 0 < m) : 0 ≤ chV ch n m ∧ chV ch n m < (m : Int) := by
  rw [chV]
  by_cases e : ch = []
  · rw [if_pos e]; omega
  · rw [if_neg e]
    have := Int.tmod_lt_of_pos (ch.getD (n % ch.length) 0) (show (0 : Int) < m by omega)
    omega
theorem chV_at {ch : List Int} {n m : Nat} {x : Int} (h : ch[n % ch.length]? = some x) : chV ch n m = max 0 (x.tmod m) := by
  rw [chV, if_neg (by intro e; subst e; simp at h), List.getD, h]; rfl
/-- The order: what is done, and the list, behind k choices. -/
def grN (ds : List Dpn) (n : Nat) (ch : List Int) : Nat → List Bool × List Int
  | 0 => (List.replicate n false, [])
  | k + 1 =>
    let s := grN ds n ch k
    let x := (rdyV ds s.1).getD (chV ch k (rdyV ds s.1).length).toNat 0
    (s.1.set x.toNat true, s.2 ++ [x])
theorem grN_len (ds : List Dpn) (n : Nat) (ch : List Int) : ∀ k, (grN ds n ch k).1.length = n ∧ (grN ds n ch k).2.length = k
  | 0 => ⟨List.length_replicate, rfl⟩
  | k + 1 => by
    obtain ⟨h1, h2⟩ := grN_len ds n ch k
    exact ⟨by rw [grN, List.length_set]; exact h1, by rw [grN, List.length_append, h2]; rfl⟩
theorem grN_pick {ds : List Dpn} {n : Nat} {ch : List Int} {k : Nat} (hr : 0 < (rdyV ds (grN ds n ch k).1).length) : ∃ (i : Nat) (c : Nat), chV ch k (rdyV ds (grN ds n ch k).1).length = (c : Int) ∧ (rdyV ds (grN ds n ch k).1)[c]? = some (i : Int) ∧ i < n ∧ (grN ds n ch k).1[i]? = some false ∧
    grN ds n ch (k + 1) = ((grN ds n ch k).1.set i true, (grN ds n ch k).2 ++ [(i : Int)]) := by
  obtain ⟨h1, h2⟩ := chV_bd (ch := ch) (n := k) hr
  obtain ⟨c, hc⟩ := Int.eq_ofNat_of_zero_le h1
  have hcl : c < (rdyV ds (grN ds n ch k).1).length := by omega
  obtain ⟨i, hi, hl, hb⟩ := rdyV_mem (List.getElem_mem hcl)
  have hx : (rdyV ds (grN ds n ch k).1)[c]? = some (i : Int) := by rw [List.getElem?_eq_getElem hcl, hi]
  refine ⟨i, c, hc, hx, by rw [(grN_len ds n ch k).1] at hl; exact hl, ?_, ?_⟩
  · rw [rbB, Bool.and_eq_true] at hb
    have := hb.1
    rw [List.getD, List.getElem?_eq_getElem hl] at this
    rw [List.getElem?_eq_getElem hl]
    simpa using this
  · rw [grN]
    simp only [hc, Int.toNat_natCast, List.getD, hx, Option.getD_some]
theorem grN_cnt {ds : List Dpn} {n : Nat} {ch : List Int} (ho : DOk ds n) : ∀ k, k ≤ n → (grN ds n ch k).1.count false = n - k
  | 0, _ => by rw [grN]; simp
  | k + 1, hk => by
    have ih := grN_cnt ho (ch := ch) k (by omega)
    have hr := rdyV_pos (ds := ds) (fl := (grN ds n ch k).1) (by rw [(grN_len ds n ch k).1]; exact ho) (by omega)
    obtain ⟨i, c, _, _, hin, hf, e⟩ := grN_pick (n := n) (ch := ch) (k := k) hr
    have hl : i < (grN ds n ch k).1.length := by rw [(grN_len ds n ch k).1]; exact hin
    rw [e]
    show ((grN ds n ch k).1.set i true).count false = _
    rw [List.count_set hl, ih]
    rw [List.getElem?_eq_getElem hl] at hf
    have hf := Option.some.inj hf
    rw [hf]; simp; omega
theorem grN_rdy {ds : List Dpn} {n : Nat} {ch : List Int} (ho : DOk ds n) {k : Nat} (hk : k < n) : 0 < (rdyV ds (grN ds n ch k).1).length :=
  rdyV_pos (by rw [(grN_len ds n ch k).1]; exact ho) (by rw [grN_cnt ho k (by omega)]; omega)
theorem waitD_eq {fl : List Bool} {i : Int} {d : Dpn} {a : Nat} {b : Bool} (ha : d.1 = (a : Int)) (hb : fl[a]? = some b) : waitD fl i d = (decide (d.2.1 = i) && !b) := by
  rw [waitD, ha, Int.toNat_natCast, List.getD, hb]; rfl
theorem fill_not {l : List Bool} {i : Nat} {b : Bool} (h : l[i]? = some b) : ((l.map not).take i ++ List.replicate (l.length - i) false).set i (!b) = (l.map not).take (i + 1) ++ List.replicate (l.length - (i + 1)) false := by
  have hl := (List.getElem?_eq_some_iff.1 h).1
  rw [List.set_append, if_neg (by simp; omega), show l.length - i = (l.length - (i + 1)) + 1 by omega, List.replicate_succ, List.length_take, List.length_map, Nat.min_eq_left (by omega), Nat.sub_self, List.set_cons_zero, List.take_add_one, List.getElem?_map, h, List.append_assoc]
  rfl
theorem fill_all (ds : List Dpn) (fl : List Bool) : (fl.map not).take fl.length ++ List.replicate (fl.length - fl.length) false = rbN ds fl 0 := by
  rw [rbN_zero, Nat.sub_self, List.replicate_zero, List.append_nil, List.take_of_length_le (by simp)]
theorem fill_at' {l : List Bool} {i : Nat} (h : i < l.length) : ((l.map not).take i ++ List.replicate (l.length - i) false)[i]? = some false := by
  rw [List.getElem?_append_right (by simp; omega), List.length_take, List.length_map, Nat.min_eq_left (by omega), Nat.sub_self, List.getElem?_replicate, if_pos (by omega)]

theorem choice_fn (ch : List Int) (n m : Nat) (hc : ch.length ≤ 1099511627776) (hn : n ≤ 1000000) (hm : 0 < m) (hm2 : m ≤ 1000000) : Fn Tryz.prog 73 [] [vD (dIs ch), nat1 (n : Nat), nat1 (m : Nat)] (.o (nat1 (chV ch n m))) [] := by
  refine Fn.code0 Tryz.func73 rfl rfl rfl rfl ?_
  refine .seq <| .region <| .cons (.asg rfl rfl) <| .nil <| ks_n <| .seq <| .seq <| .region <| .cons (.mv rfl rfl) <| .cons (.ln 3 1 8 rfl rfl rfl) <| .cons (.eq rfl rfl rfl) <| .nil <| ks_n ?_
  refine .cD rfl (fun h9 => ?_) (fun h9 => ?_)
  · skip
    refine .seq <| .region <| .cons (.asg rfl rfl) <| .nil <| ks_n <| .ret <| ks_r ?_
    refine kf_ret rfl ?_ nobox
    exact leafI (by rw [chV, if_pos (List.eq_nil_of_length_eq_zero (by omega))])
  · skip
    have hne : ch.length ≠ 0 := by omega
    obtain ⟨x, hx1⟩ : ∃ x, ch[n % ch.length]? = some x := ⟨_, List.getElem?_eq_getElem (Nat.mod_lt _ (by omega))⟩
    have hv := chV_at (m := m) hx1
    have hrm : ((n : Int)).tmod ((ch.length : Nat) : Int) = ((n % ch.length : Nat) : Int) := by rw [Int.tmod_eq_emod_of_nonneg (by omega)]; rfl
    refine .skip <| ks_n <| .seq <| .region <| .cons (.mv rfl rfl) <| .cons (.mv rfl rfl) <| .cons (.mv rfl rfl) <| .cons (.ln 3 1 8 rfl rfl rfl) <| .cons (St1.rem rfl rfl rfl rfl rfl rfl (by omega)) ?_
    refine .cons (.xL 3 1 8 (i := n % ch.length) rfl rfl rfl rfl hrm (map_at hx1)) ?_
    refine .cons (.l1 1 rfl rfl) <| .cons (.mv rfl rfl) <| .cons (St1.rem rfl rfl rfl rfl rfl rfl (by omega)) ?_
    refine .cons (St1.max2 rfl rfl rfl rfl rfl rfl) <| .cons (.asg rfl rfl) <| .nil <| ks_n <| .ret ?_
    refine kf_ret rfl ?_ nobox
    exact leafI (by rw [hv])

theorem l7Choice_fn (ch : List Int) (n m : Nat) (hc : ch.length ≤ 1099511627776) (hn : n ≤ 1000000) (hm : 0 < m) (hm2 : m ≤ 1000000) : Fn Tryz.prog 45 [] [vD (dIs ch), nat1 (n : Nat), nat1 (m : Nat)] (.o (nat1 (chV ch n m))) [] := by
  refine Fn.code0 Tryz.func45 rfl rfl rfl rfl ?_
  refine .seq <| .region <| .cons (.asg rfl rfl) <| .nil <| ks_n <| .seq <| .seq <| .region <| .cons (.mv rfl rfl) <| .cons (.ln 3 1 8 rfl rfl rfl) <| .cons (.eq rfl rfl rfl) <| .nil <| ks_n ?_
  refine .cD rfl (fun h10 => ?_) (fun h10 => ?_)
  · skip
    refine .seq <| .region <| .cons (.asg rfl rfl) <| .nil <| ks_n <| .ret <| ks_r ?_
    refine kf_ret rfl ?_ nobox
    exact leafI (by first | (rw [hv]; omega) | (rw [chV, if_pos (List.eq_nil_of_length_eq_zero (by omega))]))
  · skip
    have hne : ch.length ≠ 0 := by omega
    obtain ⟨x, hx1⟩ : ∃ x, ch[n % ch.length]? = some x := ⟨_, List.getElem?_eq_getElem (Nat.mod_lt _ (by omega))⟩
    have hv := chV_at (m := m) hx1
    have hrm : ((n : Int)).tmod ((ch.length : Nat) : Int) = ((n % ch.length : Nat) : Int) := by rw [Int.tmod_eq_emod_of_nonneg (by omega)]; rfl
    refine .skip <| ks_n <| .seq <| .region <| .cons (.mv rfl rfl) <| .cons (.mv rfl rfl) <| .cons (.mv rfl rfl) <| .cons (.ln 3 1 8 rfl rfl rfl) <| .cons (St1.rem rfl rfl rfl rfl rfl rfl (by omega)) ?_
    refine .cons (.xL 3 1 8 (i := n % ch.length) rfl rfl rfl rfl hrm (map_at hx1)) ?_
    refine .cons (.l1 1 rfl rfl) <| .cons (.mv rfl rfl) <| .cons (St1.rem rfl rfl rfl rfl rfl rfl (by omega)) ?_
    refine .cons (.asg rfl rfl) <| .nil <| ks_n <| .seq <| .seq <| .region <| .cons (.mv rfl rfl) <| .cons (.ls rfl rfl rfl) <| .nil <| ks_n ?_
    refine .cD rfl (fun h21 => ?_) (fun h21 => ?_)
    · skip
      refine .seq <| .region <| .cons (.asg rfl rfl) <| .nil <| ks_n <| .ret <| ks_r ?_
      refine kf_ret rfl ?_ nobox
      exact leafI (by first | (rw [hv]; omega) | (rw [chV, if_pos (List.eq_nil_of_length_eq_zero (by omega))]))
    · skip
      refine .skip <| ks_n <| .seq <| .region <| .cons (.mv rfl rfl) <| .cons (.asg rfl rfl) <| .nil <| ks_n <| .ret ?_
      refine kf_ret rfl ?_ nobox
      exact leafI (by first | (rw [hv]; omega) | (rw [chV, if_pos (List.eq_nil_of_length_eq_zero (by omega))]))

theorem l7Ready_fn (ds : List Dpn) (fl : List Bool) (ho : DOk ds fl.length) (hl : ds.length ≤ 1000000) (hn : fl.length ≤ 1000000) : Fn Tryz.prog 44 [] [vD (dDs ds), vD (dBs fl)] (.o (vD (dIs (rdyV ds fl)))) [] := by
 refine Fn.code0 Tryz.func44 rfl rfl rfl rfl ?_
 refine .seq <| .region <| .cons (.asg rfl rfl) <| .nil <| ks_n <| .seq <| .region <| .cons (.mv rfl rfl) <| .cons (.ln 4 1 1 rfl rfl rfl) <| .cons (.mk 110 4 1 1 [.bool false] rfl rfl rfl (by omega) rfl rfl) ?_
 refine .cons (.asg rfl rfl) <| .nil <| ks_n <| .seq <| .seq <| .region <| .cons (.asg rfl rfl) <| .nil <| ks_n <| .block ?_
 refine .loopK (fun m σ => (∃ i : Nat, m = fl.length - i ∧ (i ≤ fl.length) ∧ σ = [(.t 0, .v (.o (vD (dDs ds)))), (.t 1, .v (.o (vD (dBs fl)))), (.t 5, .v (.o (.c (.own 110 1 (fl.length))))), (.t 6, .v (.o (nat1 (i : Nat)))), (.b 110, .b 4 1 (dR (((fl.map not).take i ++ List.replicate (fl.length - i) false).map rB))), (.u 110, .u)])) [(110, 110)] ⟨0, rfl, by omega, rfl⟩ ⟨ks rfl .dt, ks rfl .dt, ks rfl (.c .ow), ks rfl .dt, kb 110 rfl (.dt rfl (by first | exact dR_repB _ | rfl | (rw [← fill_not hf1]; exact dR_setB _ _ _ _))), trivial⟩ ?_
 rintro m σ ⟨i, hm0, hi, rfl⟩
 refine .seq <| .seq <| .region <| .cons (.mv rfl rfl) <| .cons (.mv rfl rfl) <| .cons (.ln 4 1 1 rfl rfl rfl) <| .cons (.ls rfl rfl rfl) <| .nil <| ks_n ?_
 refine .cD rfl (fun h14 => ?_) (fun h14 => ?_)
 ·skip
  obtain ⟨f, hf1⟩ : ∃ x_, fl[i]? = some x_ := ⟨_, List.getElem?_eq_getElem (by omega)⟩
  refine .skip <| ks_n <| .seq <| .block <| .region <| .cons (.mv rfl rfl) <| .cons (.mv rfl rfl) <| .cons (.mv rfl rfl) <| .cons (.mv rfl rfl) <| .cons (.xL 4 1 1 rfl rfl rfl rfl rfl (map_at hf1)) ?_
  refine .cons (.l1 1 rfl rfl) <| .cons (.nt rfl rfl) <| .cons (.xB 4 1 1 (i := i) rfl rfl rfl rfl rfl rfl (by omega)) ?_
  refine .cons (.sT 1 false rfl rfl rfl rfl (dR_at (map_at (fill_at' (by omega)))) rfl rfl) ?_
  refine .nil <| kb_n <| ks_n <| .region <| .cons (.mv rfl rfl) <| .cons (.pl rfl rfl rfl) <| .cons (.asg rfl rfl) <| .nil ?_
  refine kl_k [(110, 110)] ⟨i + 1, rfl, by omega, rfl⟩ ⟨ks rfl .dt, ks rfl .dt, ks rfl (.c .ow), ks rfl .dt, kb 110 rfl (.dt rfl (by first | exact dR_repB _ | rfl | (rw [← fill_not hf1]; exact dR_setB _ _ _ _))), trivial⟩
 ·skip
  obtain rfl : i = fl.length := by omega
  refine .exit <| ks_e <| kl_e <| kb_hit <| ks_n <| .seq <| .seq <| .region <| .cons (.asg rfl rfl) <| .nil <| ks_n <| .block ?_
  refine .loopK (fun m σ => (∃ j : Nat, m = ds.length - j ∧ (j ≤ ds.length) ∧ σ = [(.t 0, .v (.o (vD (dDs ds)))), (.t 1, .v (.o (vD (dBs fl)))), (.t 5, .v (.o (.c (.own 120 1 (fl.length))))), (.t 7, .v (.o (nat1 (j : Nat)))), (.b 120, .b 4 1 (dR ((rbN ds fl j).map rB))), (.u 120, .u)])) [(120, 110)] ⟨0, rfl, by omega, rfl⟩ ⟨ks rfl .dt, ks rfl .dt, ks rfl (.c .ow), ks rfl .dt, kb 110 rfl (.dt rfl (by first | rfl | (rw [fill_all ds fl]; done) | (rw [hno]; done) | (rw [← hyes]; exact dR_setB _ _ _ _))), trivial⟩ ?_
  rintro m σ ⟨j, hm0, hj, rfl⟩
  refine .seq <| .seq <| .region <| .cons (.mv rfl rfl) <| .cons (.mv rfl rfl) <| .cons (.ln 51 3 24 rfl rfl rfl) <| .cons (.ls rfl rfl rfl) <| .nil <| ks_n ?_
  refine .cD rfl (fun h28 => ?_) (fun h28 => ?_)
  ·skip
   obtain ⟨d, hd1⟩ : ∃ x_, ds[j]? = some x_ := ⟨_, List.getElem?_eq_getElem (by omega)⟩
   obtain ⟨a, b, hda, hdb, hab, hbn⟩ := ho d (List.mem_of_getElem? hd1)
   obtain ⟨f, hf1⟩ : ∃ f, fl[a]? = some f := ⟨_, List.getElem?_eq_getElem (by omega)⟩
   have hgd : fl.getD d.1.toNat false = f := by rw [hda, Int.toNat_natCast, List.getD, hf1]; rfl
   have hrb := rbN_at (ds := ds) (j := j) hbn
   refine .skip <| ks_n <| .seq <| .block <| .seq <| .region <| .cons (.mv rfl rfl) <| .cons (.mv rfl rfl) <| .cons (.mv rfl rfl) <| .cons (.xL 51 3 24 rfl rfl rfl rfl rfl) ?_
   refine .cons (.fP 0 0 false rfl rfl) <| .cons (.l1 1 rfl rfl) <| .cons (.xL 4 1 1 (i := a) rfl rfl rfl rfl hda (map_at hf1)) ?_
   refine .cons (.l1 1 rfl rfl) <| .cons (.nt rfl rfl) <| .nil <| ks_n ?_
   refine ACode.condT rfl (fun h39 => ?_) (fun h39 => ?_)
   ·try simp only [zs1, zs2, zs3, zs4, zs5, zs6, zs7] at h39
    have hyes := rbN_yes hd1 hdb (by rw [hgd]; simp_all)
    refine .region <| .cons (.mv rfl rfl) <| .cons (.mv rfl rfl) <| .cons (.mv rfl rfl) <| .cons (.xL 51 3 24 rfl rfl rfl rfl rfl) ?_
    refine .cons (.fP 1 0 false rfl rfl) <| .cons (.l1 1 rfl rfl) <| .cons (.xB 4 1 1 (i := b) rfl rfl rfl rfl rfl hdb (by omega)) ?_
    refine .cons (.sT 1 false rfl rfl rfl rfl (dR_at (map_at hrb)) rfl rfl) <| .nil <| kb_n <| ks_n <| .region <| .cons (.mv rfl rfl) <| .cons (.pl rfl rfl rfl) <| .cons (.asg rfl rfl) <| .nil ?_
    refine kl_k [(120, 120)] ⟨j + 1, rfl, by omega, rfl⟩ ⟨ks rfl .dt, ks rfl .dt, ks rfl (.c .ow), ks rfl .dt, kb 120 rfl (.dt rfl (by first | rfl | (rw [fill_all ds fl]; done) | (rw [hno]; done) | (rw [← hyes]; exact dR_setB _ _ _ _))), trivial⟩
   ·try simp only [zs1, zs2, zs3, zs4, zs5, zs6, zs7] at h39
    have hno := rbN_no hd1 (by rw [hgd]; simp_all)
    refine .skip <| kb_n <| ks_n <| .region <| .cons (.mv rfl rfl) <| .cons (.pl rfl rfl rfl) <| .cons (.asg rfl rfl) <| .nil ?_
    refine kl_k [(120, 120)] ⟨j + 1, rfl, by omega, rfl⟩ ⟨ks rfl .dt, ks rfl .dt, ks rfl (.c .ow), ks rfl .dt, kb 120 rfl (.dt rfl (by first | rfl | (rw [fill_all ds fl]; done) | (rw [hno]; done) | (rw [← hyes]; exact dR_setB _ _ _ _))), trivial⟩
  ·skip
   obtain rfl : j = ds.length := by omega
   refine .exit <| ks_e <| kl_e <| kb_hit <| ks_n <| .seq ?_
   refine .keep [(.t 5, .v (.o (vD (dBs (rbN ds fl ds.length)))))] [] ⟨ks rfl (.c (.fz rfl rfl (by rw [List.length_map, rbN_len]) (by omega))), trivial⟩ ?_
   refine .region <| .cons (.mv rfl rfl) <| .cons (.cP [.tmp 47] rfl rfl rfl rfl (l5Flagged_fn _ (by rw [rbN_len]; omega)) rfl) ?_
   refine .cons (.asg rfl rfl) <| .nil <| ks_n <| .ret ?_
   refine kf_ret rfl ?_ nobox
   rfl

theorem grd1_fn {d : Dpn} {a i : Nat} {fl : List Bool} {f : Bool} (ha : d.1 = (a : Int)) (hf : fl[a]? = some f) : Fn Tryz.prog 72 [] [ad (rD d), .c (.ptr [dI (i : Nat)]), .c (.ptr [dBs fl])] (.o (bo1 (waitD fl (i : Nat) d))) [] := by
  refine Fn.code0 Tryz.func72 rfl rfl rfl rfl ?_
  refine .seq <| .region <| .cons (St1.boxP rfl rfl rfl rfl rfl rfl) <| .cons (.asg rfl rfl) <| .nil <| ks_n <| .seq <| .region <| .cons (.fP 1 0 false rfl rfl) <| .cons (.l1 1 rfl rfl) <| .cons (.l1 1 rfl rfl) <| .cons (.eq rfl rfl rfl) <| .cons (.mv rfl rfl) ?_
  refine .cD 9 rfl (fun g9 => ?_) (fun g9 => ?_)
  · skip
    refine .cons (.gT rfl rfl rfl (.l1 1 rfl rfl)) <| .cons (.gT rfl rfl rfl (.fP 0 0 false rfl rfl)) <| .cons (.gT rfl rfl rfl (.l1 1 rfl rfl)) <| .cons (.gT rfl rfl rfl (.xL 4 1 1 (i := a) rfl rfl rfl rfl ha (map_at hf))) ?_
    refine .cons (.gT rfl rfl rfl (.l1 1 rfl rfl)) <| .cons (.gT rfl rfl rfl (.nt rfl rfl)) <| .cons (.pT rfl rfl rfl) <| .cons (.asg rfl rfl) <| .nil <| ks_n <| .ret ?_
    refine kf_ret rfl ?_ nobox
    exact leafB (by rw [waitD_eq ha hf]; simp_all)
  · skip
    refine .cons (.gF rfl rfl rfl) <| .cons (.gF rfl rfl rfl) <| .cons (.gF rfl rfl rfl) <| .cons (.gF rfl rfl rfl) <| .cons (.gF rfl rfl rfl) <| .cons (.gF rfl rfl rfl) <| .cons (.pF rfl rfl rfl) <| .cons (.asg rfl rfl) <| .nil <| ks_n <| .ret ?_
    refine kf_ret rfl ?_ nobox
    exact leafB (by rw [waitD_eq ha hf]; simp_all)

theorem cnt_dpn {f : FuncId} {cap : List (List D)} (hc : callable Tryz.prog f = true) (p : Dpn → Bool) (xs : List Dpn) (hx : xs.length ≤ 1099511627776) (hf : ∀ x ∈ xs, Fn Tryz.prog f [] (ad (rD x) :: cap.map fun c => .c (.ptr c)) (.o (bo1 (p x))) []) : Fn Tryz.prog 71 [] [vD (.list 3 (xs.map rD)), .c (.fn f cap)] (.o (bo1 (xs.any p))) [] := by
  refine Fn.code0 Tryz.func71 rfl rfl rfl rfl ?_
  refine .seq <| .region <| .cons (.asg rfl rfl) <| .nil <| ks_n <| .seq <| .region <| .cons (.mv rfl rfl) <| .cons (.mv rfl rfl) <| .cons (.cP [.tmp 5, .tmp 6] rfl rfl rfl rfl (idx_dpn hc p xs hx hf) rfl) ?_
  refine .cons (.ge rfl rfl rfl) <| .cons (.asg rfl rfl) <| .nil <| ks_n <| .ret ?_
  refine kf_ret rfl ?_ nobox
  exact leafB idxG_any
theorem Fn.callsD {P : Program} {f : FuncId} {args : List V1} {x : D} {vs : List Value} {w : World} {B : Nat → Prop} (h : Fn P f [] args (.o (vD x)) []) (hv : Vals (V1r bx0 al0 B w) args vs) :
    Calls P f vs.toArray w fun e w' => (∃ v, e = .returned v ∧ Dr (fun b => B b ∨ w.heap.size ≤ b) w' x v) ∧ Below w.heap.size w w' := by
  refine (h B bx0 w vs ⟨fun k e sz rows h => (by cases h), fun k l hk => (no_al0 k hk).elim, fun k hk => (no_al0 k hk).elim⟩ hv).mono ?_
  rintro e w' ⟨v, bx', rfl, hp⟩
  have hv : Dr _ w' x v := hp.val
  exact ⟨⟨v, rfl, hv.mono fun b hb _ => hb.1⟩, hp.os, hp.tape, hp.output, hp.size, fun b hb => hp.old b hb fun k hk => (no_al0 k hk).elim⟩
theorem vals2_parts {R : V1 → Value → Prop} {x y : V1} {vs : List Value} (h : Vals R [x, y] vs) : ∃ u v, vs = [u, v] ∧ R x u ∧ R y v := by
  obtain ⟨hl, h⟩ := h
  obtain ⟨u, l0, rfl, h0⟩ := len_cons (show vs.length = 1 + 1 from hl)
  obtain ⟨v, l1, rfl, h1⟩ := len_cons (show l0.length = 0 + 1 from h0)
  obtain rfl := len_zero h1
  exact ⟨u, v, rfl, h 0 x u rfl rfl, h 1 y v rfl rfl⟩
/-- A block of flags. -/
def TB (w : World) (g : Nat) (fl : List Bool) : Prop := w.heap[g]? = some (.cells (fl.map Value.bool).toArray 4 (0, 0))
section
variable {w w' : World} {g : Nat} {fl : List Bool}
theorem TB.new (w : World) (n : Nat) : TB (w.alloc (.cells (madeCells #[.bool false] n) 4)) w.heap.size (List.replicate n false) := by
  have h := heap_alloc_new w (.cells (madeCells #[.bool false] n) 4)
  rw [TB, h]
  congr 2
  apply Array.toList_inj.1
  rw [toList_madeCells_one]; simp
theorem TB.cell (h : TB w g fl) {i : Nat} {b : Bool} (hb : fl[i]? = some b) : w.cell? ⟨g, i, none⟩ = some (.bool b) := by
  rw [cell_of_row w _ _ _ _ _ h, List.getElem?_toArray, List.getElem?_map, hb]; rfl
theorem TB.frozen (h : TB w g fl) (i : Nat) : w.frozen? ⟨g, i, none⟩ = false := by
  have h : w.heap[g]? = _ := h
  simp [World.frozen?, h]
theorem TB.set (h : TB w g fl) (i : Nat) (b : Bool) : TB (w.setCell ⟨g, i, none⟩ (.bool b)) g (fl.set i b) := by
  have := heap_setCell_same w g i _ _ (.bool b) h
  rw [TB, this, List.setIfInBounds_toArray, List.map_set]
theorem TB.to (h : TB w g fl) (hb : w'.heap[g]? = w.heap[g]?) : TB w' g fl := hb.trans h
theorem TB.lt (h : TB w g fl) : g < w.heap.size := blk_lt h
theorem TB.dr (h : TB w g fl) (hn : fl.length ≤ 1000000) : Dr (fun _ => True) w (dBs fl) (.slice (some ⟨g, 0, none⟩) fl.length fl.length) := by
  refine Dr.list 1 (fl.map rB) _ _ _ g 0 (fun i _ => .bool (fl.getD i false)) (by rw [List.length_map]) (Nat.le_refl _) (by omega) (fun e => by cases e) (fun _ => rfl) (fun i r hi => ?_) (fun i r j x hi hj => ?_) (fun i r j x hi hj => ?_)
  all_goals
    rw [List.getElem?_map] at hi
    cases hd : fl[i]? with
    | none => rw [hd] at hi; cases hi
    | some b =>
      rw [hd] at hi; cases hi
      first
      | rfl
      | (obtain rfl : j = 0 := by have := (List.getElem?_eq_some_iff.1 hj).1; simp [rB] at this; omega
         cases hj
         first
         | exact ⟨trivial, by rw [Nat.mul_one, Nat.zero_add, Nat.add_zero, h.cell hd, List.getD, hd]; rfl⟩
         | (rw [List.getD, hd]; exact Dr.val _ rfl))
/-- But for the blocks of X nothing that was there has turned. -/
structure Chg (X : Nat → Prop) (w w' : World) : Prop where
  os : w'.os = w.os
  tape : w'.tape = w.tape
  output : w'.output = w.output
  size : w.heap.size ≤ w'.heap.size
  old : ∀ b, b < w.heap.size → ¬ X b → w'.heap[b]? = w.heap[b]?
theorem Chg.refl (X : Nat → Prop) (w : World) : Chg X w w := ⟨rfl, rfl, rfl, Nat.le_refl _, fun _ _ _ => rfl⟩
theorem Chg.fwd {X : Nat → Prop} {w'' : World} (h : Chg X w w') (hb : Below w'.heap.size w' w'') : Chg X w w'' :=
  ⟨hb.os.trans h.os, hb.tape.trans h.tape, hb.output.trans h.output, Nat.le_trans h.size hb.size, fun b h1 h2 => (hb.block b (Nat.lt_of_lt_of_le h1 h.size)).trans (h.old b h1 h2)⟩
theorem Chg.set {X : Nat → Prop} (h : Chg X w w') {b : Nat} (hX : w.heap.size ≤ b ∨ X b) (i : Nat) (v : Value) : Chg X w (w'.setCell ⟨b, i, none⟩ v) :=
  ⟨h.os, h.tape, h.output, Nat.le_trans h.size (by simp [World.setCell]), fun c h1 h2 => (Below.heap_setCell _ _ _ _ (by show c ≠ b; rintro rfl; rcases hX with h3 | h3; omega; exact h2 h3)).trans (h.old c h1 h2)⟩
theorem Chg.grown {X : Nat → Prop} {w'' : World} {r : Option Nat} (h : Chg X w w') (hg : w'.grownBy w'' r) (hX : ∀ k, r = some k → w.heap.size ≤ k ∨ X k) : Chg X w w'' :=
  ⟨hg.os.trans h.os, hg.tape.trans h.tape, hg.output.trans h.output, Nat.le_trans h.size hg.size, fun b h1 h2 => (hg.block b (Nat.lt_of_lt_of_le h1 h.size) (fun e => by rcases hX b e.symm with h3 | h3; omega; exact h2 h3)).trans (h.old b h1 h2)⟩
theorem Chg.same {X B : Nat → Prop} (h : Chg X w w') (hB : ∀ b, B b → b < w.heap.size → ¬ X b) : Same B w w' := fun b h1 h2 => h.old b h2 (hB b h1 h2)
theorem Chg.below {X : Nat → Prop} {n : Nat} (h : Chg X w w') (hn : n ≤ w.heap.size) (hX : ∀ b, X b → n ≤ b) : Below n w w' := ⟨h.os, h.tape, h.output, h.size, fun b hb => h.old b (by omega) fun hx => by have := hX b hx; omega⟩
end
theorem Tryz.infoBool : (Tryz.prog.info? 4).map (fun i => (i.zero, i.size, i.bytes)) = some (some (.bool false), 1, 1) := by kernel_rfl

theorem OwnS.kept2 {w : World} {B g : Nat} {v : Value} {xs : List Int} (h : OwnS w B v xs) (hg : ∀ b, v.ownBlock = some b → b ≠ g) (i : Nat) (u : Value) : OwnS (w.setCell ⟨g, i, none⟩ u) B v xs := by
  obtain ⟨h1, h2 | ⟨b, cap, cur, e, hB, hc, r⟩⟩ := h
  · exact ⟨h1, .inl h2⟩
  · exact ⟨h1, .inr ⟨b, cap, cur, e, hB, (Below.heap_setCell _ _ _ _ (hg b (by rw [e]; rfl))).trans hc, r⟩⟩
theorem OwnS.shapeM {w : World} {B : Nat} {v : Value} {xs : List Int} (h : OwnS w B v xs) : ∃ a cap, v = .slice a xs.length cap := by
  rcases h.2 with ⟨rfl, h0⟩ | ⟨g, cap, cur, rfl, _⟩
  · exact ⟨none, 0, by rw [h0]⟩
  · exact ⟨_, cap, rfl⟩
set_option maxHeartbeats 6400000 in
theorem specRO_c {g : Prg} (hs : szG g ≤ 1073741824) {ch : List Int} (hc : ch.length ≤ 1099511627776) : PureC 20 [ad (rG g), vD (dIs ch)] (grN (strV g) (insQ g).length ch (insQ g).length).2 := by
  intro B w vs hv
  obtain ⟨v0, v1, rfl, e0, e1⟩ := vals2_parts hv
  obtain ⟨u0, u1, rfl, d0, d1⟩ := e0_parts e0
  have e1 : Dr B w (dIs ch) v1 := e1
  have D0 := hid (d0.mono (B' := fun b => b < w.heap.size) fun b _ h => h)
  have D1 := hid (d1.mono (B' := fun b => b < w.heap.size) fun b _ h => h)
  have E1 := hid (e1.mono (B' := fun b => b < w.heap.size) fun b _ h => h)
  clear hv e0 e1 d0 d1
  obtain ⟨n, hn⟩ : ∃ n, n = (insQ g).length := ⟨_, rfl⟩
  obtain ⟨ds, hds⟩ : ∃ ds, ds = strV g := ⟨_, rfl⟩
  have hn2 : n ≤ 120 := by rw [hn]; exact insQ_len g
  have Ho := hid (show DOk ds n by rw [hds, hn]; exact strP_ok g)
  have Hl := hid (show ds.length ≤ 1000000 by rw [hds]; have := strP_len g; omega)
  have q1 := hid (specStr_fn hs)
  have q2 := hid (specPI_fn hs)
  rw [← hds] at q1 ⊢
  rw [← hn]
  have HN := hid hn; clear hn hds hs
  go_enter Tryz.func20, Tryz.ntmps20
  have hB1 := ((Below.refl w.heap.size w).alloc (Nat.le_refl _) (.cells #[u0, u1] 32)).alloc (by simp) (.cells #[] 3)
  have hbox1 : ((w.alloc (.cells #[u0, u1] 32)).alloc (.cells #[] 3)).heap[w.heap.size]? = some (.cells #[u0, u1] 32 (0, 0)) := by rw [Below.heap_alloc _ _ _ (by simp)]; exact heap_alloc_new w _
  have ho1 : OwnS ((w.alloc (.cells #[u0, u1] 32)).alloc (.cells #[] 3)) w.heap.size (.slice (some ⟨w.heap.size + 1, 0, none⟩) 0 0) [] := by
    have := OwnS.empty (w.alloc (.cells #[u0, u1] 32)) (B := w.heap.size) (by simp)
    simpa using this
  have HB1 := hid hB1; have HX1 := hid hbox1; have HO1 := hid ho1; clear hB1 hbox1 ho1
  go_wp2_with fail
  refine (q1.out.callsD (vs := [_]) (vals1_mk (ad2_v (D0.out.frame (below_sameAll HB1.out _)) (D1.out.frame (below_sameAll HB1.out _))))).mono ?_
  rintro e wA ⟨⟨vd, rfl, hd⟩, bA⟩
  obtain ⟨ad, cd, rfl, _⟩ := hd.slice
  rw [List.length_map] at hd ⊢
  have HBA := hid (HB1.out.trans (bA.mono HB1.out.size)); have HXA := hid ((bA.block _ (blk_lt HX1.out)).trans HX1.out); have HOA := hid (HO1.out.below' bA)
  have HD := hid (show Dr (fun b => b < w.heap.size ∨ w.heap.size + 2 ≤ b) wA (dDs ds) (.slice ad ds.length cd) from hd.mono fun b hb _ => by simpa using hb)
  have hsA := hid (show w.heap.size + 2 ≤ wA.heap.size by have := bA.size; simpa using this)
  clear hd bA
  have c0 : wA.cell? ⟨w.heap.size, 0, none⟩ = some u0 := by rw [cell_of_row wA _ _ _ _ _ HXA.out]; rfl
  have c1 : wA.cell? ⟨w.heap.size, 1, none⟩ = some u1 := by rw [cell_of_row wA _ _ _ _ _ HXA.out]; rfl
  go_wp2_with fail
  clear c0 c1
  refine (q2.out.callsD (vs := [_]) (vals1_mk (ad2_v (D0.out.frame (below_sameAll HBA.out _)) (D1.out.frame (below_sameAll HBA.out _))))).mono ?_
  rintro e wC ⟨⟨vi, rfl, hi⟩, bC⟩
  obtain ⟨ai, ci, rfl, _⟩ := hi.slice
  rw [List.length_map, ← HN.out]
  have HBC := hid (HBA.out.trans (bC.mono HBA.out.size)); have HOC := hid (HOA.out.below' bC); have HDC := hid (HD.out.frame (below_sameAll bC _))
  have hsC := hid (Nat.le_trans hsA.out bC.size)
  clear hi bC HXA HX1 HO1 HOA HD hsA HB1 HBA HN q1 q2 D0 D1
  have hmk := info_make Tryz.underlying86 Tryz.infoBool n (by omega) (by omega)
  go_wp2_with fail
  go_loopw [5, 8] (fun vo i wr => ∃ (k : Nat) (a : Option Addr) (c : Nat), k ≤ n ∧ i = .int .i64 k ∧ vo = .slice a k c ∧ OwnS wr w.heap.size (.slice a k c) (grN ds n ch k).2 ∧ Hid (∀ b, (Value.slice a k c).ownBlock = some b → b = w.heap.size + 1 ∨ wC.heap.size < b) ∧ TB wr wC.heap.size (grN ds n ch k).1 ∧ Chg (fun b => b = w.heap.size + 1) wC wr) (fun _ i _ => n - (intOf i).toNat)
  case atStart =>
    refine ⟨0, _, _, Nat.zero_le _, rfl, rfl, HOC.out.alloc _, hid fun b hb => ?_, ?_, (Chg.refl _ _).fwd ((Below.refl _ _).alloc (Nat.le_refl _) _)⟩
    · simp [Value.ownBlock] at hb; exact .inl hb.symm
    · have h := TB.new wC n; rw [grN]; simpa using h
  case round =>
    clear hmk
    obtain ⟨k, a, c, hk, rfl, rfl, ho, hob, ht, hch⟩ := hrel
    by_cases hlt : k < n
    · have hpos := grN_rdy Ho.out (ch := ch) hlt
      obtain ⟨i, cc, hcv, hri, hin, hfi, hnext⟩ := grN_pick (n := n) (ch := ch) hpos
      have hlen := (grN_len ds n ch k).1
      have hlen2 := (grN_len ds n ch k).2
      generalize hfl : (grN ds n ch k).1 = fl at *
      generalize hol : (grN ds n ch k).2 = ol at *
      have hrl := rdyV_len (ds := ds) (fl := fl)
      have hdr := hid (HDC.out.frame (hch.same fun b hb _ e => by omega))
      have hbl := hid (hch.below (n := w.heap.size) (Nat.le_of_lt (by have := hsC.out; omega)) (fun b e => by omega))
      have hcr := hid (E1.out.frame (below_sameAll (HBC.out.trans hbl.out) _))
      have hta := hid ht; have Hch := hid hch; have Ho2 := hid ho
      have Hn := hid hnext; have Hcv := hid hcv; have Hri := hid hri; have Hpos := hid hpos
      have Hl1 := hid hlen; have Hl2 := hid hlen2; have Hrl := hid hrl; have Hfi := hid hfi
      clear hnext hcv hri hpos hlen hlen2 hrl hfi ht hch ho hfl hol
      go_wp2_with fail
      refine ((l7Ready_fn ds fl (by rw [Hl1.out]; exact Ho.out) Hl.out (by have := Hl1.out; omega)).pureC (fun _ => True) wr [_, _] (vals2_mk (hdr.out.mono fun _ _ _ => trivial) (by have := hta.out.dr (by have := Hl1.out; omega); rwa [Hl1.out] at this))).mono ?_
      rintro e w1 ⟨⟨ar, cr, rfl, ir⟩, b1⟩
      have Ir := hid ir
      have Hch1 := hid (Hch.out.fwd b1); have Ho3 := hid (Ho2.out.below' b1); have hta1 := hid (hta.out.to (b1.block _ hta.out.lt)); have hcr1 := hid (hcr.out.frame (below_sameAll b1 _))
      clear ir b1
      go_wp2_with fail
      refine ((l7Choice_fn ch k (rdyV ds fl).length hc (by omega) Hpos.out (by have := Hrl.out; have := Hl1.out; omega)).callsI (vs := [_, _, _]) (vals3_mk (hcr1.out) (Dr.val _ rfl) (Dr.val _ rfl))).mono ?_
      rintro e w2 ⟨rfl, b2⟩
      rw [Hcv.out]
      have Ir2 := hid (Ir.out.below b2)
      have Hch2 := hid (Hch1.out.fwd b2); have Ho4 := hid (Ho3.out.below' b2); have hta2 := hid (hta1.out.to (b2.block _ hta1.out.lt))
      obtain ⟨br, orr, hra, _, hrc⟩ := Ir2.out.at Hpos.out
      have hcl : cc < (rdyV ds fl).length := (List.getElem?_eq_some_iff.1 Hri.out).1
      have x1 := hrc cc hcl
      rw [List.getD, Hri.out, Option.getD_some] at x1
      subst hra
      have x2 := hta2.out.cell Hfi.out
      have x3 := hta2.out.frozen i
      have hta3 := hid (hta2.out.set i true)
      have Hch3 := hid (Hch2.out.set (b := wC.heap.size) (.inl (Nat.le_refl _)) i (.bool true))
      have Ho5 := hid (Ho4.out.kept2 (g := wC.heap.size) (fun b hb => by have := hob.out b hb; have := hsC.out; omega) i (.bool true))
      clear hrc b2
      go_wp2_with (at_builtin; go_must (refine wpList_app1 _ rfl _ _ rfl w.heap.size _ _ rfl (Ho5.out.alloc _) _ (i : Int) rfl ?_ ?c1 ?c2 ?c3); intro v' w3 hp3; have hp3 : AppPost _ w3 w.heap.size 3 1 (.slice a k c) v' _ _ := hp3; have Hp3 := hid hp3; clear hp3)
      case c1 => have h := cell_new (w2.setCell ⟨wC.heap.size, i, none⟩ (.bool true)) (.int .i64 (i : Int)) 3; simpa using h
      case c2 => have := Hl2.out; omega
      case c3 => have := HBC.out.size; have := Hch2.out.size; simp; omega
      have hl3 : (ol ++ [(i : Int)]).length = k + 1 := by rw [List.length_append, Hl2.out]; rfl
      have ho6 : OwnS w3 w.heap.size v' (ol ++ [(i : Int)]) := Hp3.out.own
      obtain ⟨a', c', rfl⟩ := OwnS.shapeM ho6
      rw [hl3] at ho6 Hp3 ⊢
      have hlt3 := hta3.out.lt
      have hlt2 := hta2.out.lt
      have hne : ∀ b, (Value.slice a k c).ownBlock = some b → b ≠ wC.heap.size := fun b hb => by have := hob.out b hb; have := hsC.out; omega
      have hT : TB w3 wC.heap.size (fl.set i true) := hta3.out.to ((Hp3.out.grown.block wC.heap.size (by simp; omega) (fun e => hne _ e.symm rfl)).trans (Below.heap_alloc _ _ _ hlt3))
      have hC : Chg (fun b => b = w.heap.size + 1) wC w3 := (Hch3.out.fwd ((Below.refl _ _).alloc (Nat.le_refl _) _)).grown Hp3.out.grown (fun b hb => by have := hob.out b hb; omega)
      refine ⟨⟨k + 1, a', c', by omega, int_i64 (by omega), rfl, by rw [Hn.out]; exact ho6, hid fun b hb => ?_, by rw [Hn.out]; exact hT, hC⟩, by simp [intOf]; omega⟩
      rcases Hp3.out.blk with e | ⟨b2, e, h2⟩
      · rw [e] at hb; exact hob.out b hb
      · rw [e] at hb; cases hb; simp at h2; omega
    · have : k = n := by omega
      subst this
      go_wp2
      go_ret
      have hl := (grN_len ds k ch k).2
      have hi := ho.intsA (by omega)
      exact ⟨⟨a, c, by show Ending.returned (.slice a k c) = _; rw [hl], by rw [hl]; exact hi⟩, HBC.out.trans (hch.below (n := w.heap.size) (by have := hsC.out; omega) (fun b e => by omega))⟩
theorem cells_int {w : World} {b : Nat} {z : Int} (h : w.cell? ⟨b, 0, none⟩ = some (.int .i64 z)) : Pr (fun _ => True) w [dI z] (.pointer (some ⟨b, 0, none⟩)) :=
  ⟨b, 0, rfl, fun j x hx => by
    obtain rfl : j = 0 := by have := (List.getElem?_eq_some_iff.1 hx).1; simp at this; omega
    cases hx
    exact ⟨_, trivial, h, Dr.val _ rfl⟩⟩
theorem cells_fl {w : World} {b g : Nat} {fl : List Bool} {n : Nat} (h : w.cell? ⟨b, 0, none⟩ = some (.slice (some ⟨g, 0, none⟩) n n)) (ht : TB w g fl) (hl : fl.length = n) (hn : n ≤ 1000000) : Pr (fun _ => True) w [dBs fl] (.pointer (some ⟨b, 0, none⟩)) :=
  ⟨b, 0, rfl, fun j x hx => by
    obtain rfl : j = 0 := by have := (List.getElem?_eq_some_iff.1 hx).1; simp at this; omega
    cases hx
    exact ⟨_, trivial, h, by have := ht.dr (by omega); rwa [hl] at this⟩⟩
theorem wait_any {ds : List Dpn} {fl : List Bool} {i : Nat} {f a : Bool} (hi : fl[i]? = some f) (ha : ds.any (waitD fl (i : Int)) = a) : (rbN ds fl ds.length)[i]? = some (!f && !a) := by
  rw [rbN_at (List.getElem?_eq_some_iff.1 hi).1, List.take_length, rbB, ha, List.getD, hi]; rfl
set_option maxHeartbeats 12800000 in
theorem greedy_c {ds : List Dpn} {n : Nat} {ch : List Int} (Ho : Hid (DOk ds n)) (hl : ds.length ≤ 1000000) (hn : n ≤ 1000) (hc : ch.length ≤ 1099511627776) {w : World} {ad ac : Option Addr} {cd cc : Nat}
    (hd : Dr (fun b => b < w.heap.size) w (dDs ds) (.slice ad ds.length cd)) (hch : Dr (fun b => b < w.heap.size) w (dIs ch) (.slice ac ch.length cc)) :
    Calls Tryz.prog 46 #[.slice ad ds.length cd, .int .i64 n, .slice ac ch.length cc] w fun e w' => (∃ a c, e = .returned (.slice a n c) ∧ OwnS w' w.heap.size (.slice a n c) (grN ds n ch n).2 ∧ (n = 0 → a = none ∧ c = 0)) ∧ Below w.heap.size w w' := by
  have hmk := info_make Tryz.underlying86 Tryz.infoBool n (by omega) (by omega) w
  have HD := hid hd; have HC := hid hch; clear hd hch
  have hB0 := ((Below.refl w.heap.size w).alloc (Nat.le_refl _) (.cells (madeCells #[.bool false] n) 4)).alloc (by simp) (.cells #[.slice (some ⟨w.heap.size, 0, none⟩) n n] 86)
  have hT0 : TB ((w.alloc (.cells (madeCells #[.bool false] n) 4)).alloc (.cells #[.slice (some ⟨w.heap.size, 0, none⟩) n n] 86)) w.heap.size (List.replicate n false) := (TB.new w n).to (Below.heap_alloc _ _ _ (by simp))
  have hx0 : ((w.alloc (.cells (madeCells #[.bool false] n) 4)).alloc (.cells #[.slice (some ⟨w.heap.size, 0, none⟩) n n] 86)).heap[w.heap.size + 1]? = some (.cells #[.slice (some ⟨w.heap.size, 0, none⟩) n n] 86 (0, 0)) := by
    have := heap_alloc_new (w.alloc (.cells (madeCells #[.bool false] n) 4)) (.cells #[.slice (some ⟨w.heap.size, 0, none⟩) n n] 86)
    simpa using this
  have HB0 := hid hB0; have HT0 := hid hT0; have HX0 := hid hx0; clear hB0 hT0 hx0
  go_enter Tryz.func46, Tryz.ntmps46
  go_wp2_with fail
  clear hmk
  go_loopw [7, 17] (fun vo i wr => ∃ (k : Nat) (a : Option Addr) (c : Nat), k ≤ n ∧ i = .int .i64 k ∧ vo = .slice a k c ∧ OwnS wr (w.heap.size + 2) (.slice a k c) (grN ds n ch k).2 ∧ TB wr w.heap.size (grN ds n ch k).1 ∧ Hid (wr.heap[w.heap.size + 1]? = some (.cells #[.slice (some ⟨w.heap.size, 0, none⟩) n n] 86 (0, 0))) ∧ Below w.heap.size w wr ∧ Hid (k = 0 → a = none ∧ c = 0)) (fun _ i _ => n - (intOf i).toNat)
  case atStart => exact ⟨0, _, _, Nat.zero_le _, rfl, rfl, OwnS.nil _ _, HT0.out, HX0, HB0.out, hid fun _ => ⟨rfl, rfl⟩⟩
  case round =>
    clear HB0 HT0 HX0
    obtain ⟨k, a, c, hk, rfl, rfl, ho, ht, hx, hb, hz⟩ := hrel
    obtain ⟨wo, rfl⟩ : ∃ wo : World, wo = wr := ⟨_, rfl⟩
    by_cases hlt : k < n
    · have hpos := grN_rdy Ho.out (ch := ch) hlt
      obtain ⟨i, cx, hcv, hri, hin, hfi, hnext⟩ := grN_pick (n := n) (ch := ch) hpos
      have hlen := (grN_len ds n ch k).1
      have hlen2 := (grN_len ds n ch k).2
      generalize hfl : (grN ds n ch k).1 = fl at *
      generalize hol : (grN ds n ch k).2 = ol at *
      have hrl := rdyV_len (ds := ds) (fl := fl)
      have HD1 := hid (HD.out.frame (below_sameAll hb _)); have HC1 := hid (HC.out.frame (below_sameAll hb _))
      have Ht := hid ht; have Hb := hid hb; have Ho2 := hid ho
      have Hn := hid hnext; have Hcv := hid hcv; have Hri := hid hri; have Hpos := hid hpos
      have Hl1 := hid hlen; have Hl2 := hid hlen2; have Hrl := hid hrl; have Hfi := hid hfi
      have hgs := hid ht.lt; have hxs := hid (blk_lt hx.out)
      clear hnext hcv hri hpos hlen hlen2 hrl hfi ht hb ho hfl hol
      go_wp2_with fail
      go_loopw [10, 21] (fun vr q wr => ∃ (m : Nat) (ar : Option Addr) (cr : Nat) (rl : List Int), m ≤ n ∧ q = .int .i64 m ∧ Hid (rl = flagN (rbN ds fl ds.length) m) ∧ vr = .slice ar rl.length cr ∧ OwnS wr wo.heap.size (.slice ar rl.length cr) rl ∧ Below wo.heap.size wo wr) (fun _ q _ => n - (intOf q).toNat)
      case atStart => exact ⟨0, none, 0, [], Nat.zero_le _, rfl, hid rfl, rfl, OwnS.nil _ _, Below.refl _ _⟩
      case round =>
        obtain ⟨m, ar, cr, rl, hm, rfl, Hrl2, rfl, hor, hbi⟩ := hrel
        have Hbi := hid hbi; have Hor := hid hor; clear hbi hor
        by_cases hmn : m < n
        · obtain ⟨f, hf⟩ : ∃ f, fl[m]? = some f := ⟨_, List.getElem?_eq_getElem (by rw [Hl1.out]; exact hmn)⟩
          have Hf := hid hf; clear hf
          have hal := hid (show Below wo.heap.size wo (wr.alloc (.cells #[.int .i64 (m : Int)] 3)) from Hbi.out.alloc Hbi.out.size _)
          have hrlm := hid (show rl.length ≤ 1000 by rw [Hrl2.out]; have := flagN_len (l := rbN ds fl ds.length) (n := m); omega)
          go_wp2_with fail
          refine ((cnt_dpn (f := 72) (cap := [[dI (m : Nat)], [dBs fl]]) (by kernel_rfl) (waitD fl (m : Nat)) ds (by omega) (fun d hd => by
            obtain ⟨x, y, hx1, hy1, hxy, hyn⟩ := Ho.out d hd
            exact grd1_fn hx1 (List.getElem?_eq_getElem (by rw [Hl1.out]; omega)))).callsB (vs := [_, _]) (B := fun _ => True) (vals2_mk ((HD1.out.frame (below_sameAll (hal.out.mono (Nat.le_refl _)) _)).mono fun _ _ _ => trivial) ⟨[_, _], rfl, rfl, fun j c u hc hu => by
              match j, hc, hu with
              | 0, hc, hu => cases hc; cases hu; exact cells_int (cell_new wr _ _)
              | 1, hc, hu => cases hc; cases hu; exact cells_fl (n := n) (by rw [cell_of_row _ _ _ _ _ _ ((hal.out.block _ hxs.out).trans hx.out)]; rfl) (Ht.out.to (hal.out.block _ hgs.out)) Hl1.out (by omega)⟩)).mono ?_
          rintro e w1 ⟨rfl, b1⟩
          generalize hany : ds.any (waitD fl (m : Nat)) = av
          have Hst := hid (wait_any Hf.out hany); clear hany
          have hbw := hid (hal.out.trans (b1.mono hal.out.size))
          have horw := hid ((Hor.out.alloc _).below' b1)
          have y1 : w1.cell? ⟨w.heap.size + 1, 0, none⟩ = some (.slice (some ⟨w.heap.size, 0, none⟩) n n) := by rw [cell_of_row _ _ _ _ _ _ ((hbw.out.block _ hxs.out).trans hx.out)]; rfl
          have y2 : w1.cell? ⟨wr.heap.size, 0, none⟩ = some (.int .i64 m) := (b1.cell (p := ⟨wr.heap.size, 0, none⟩) (by simp)).trans (cell_new wr _ _)
          have y3 : w1.cell? ⟨w.heap.size, m, none⟩ = some (.bool f) := (Ht.out.to (hbw.out.block _ hgs.out)).cell Hf.out
          clear b1
          cases f
          · cases av
            · go_wp2_with (at_builtin; go_must (refine wpList_app1 _ rfl _ _ rfl wo.heap.size _ _ rfl (horw.out.alloc _) _ (m : Int) rfl ?_ ?d1 ?d2 ?d3); intro v' w2 hp; have hp : AppPost _ w2 wo.heap.size 3 1 (.slice ar rl.length cr) v' _ _ := hp; have Hp := hid hp; clear hp)
              case d1 => exact cell_new w1 _ _
              case d2 => have := hrlm.out; omega
              case d3 => have := hbw.out.size; simp; omega
              obtain ⟨a', c', rfl⟩ := OwnS.shapeM (show OwnS w2 wo.heap.size v' (rl ++ [(m : Int)]) from Hp.out.own)
              exact ⟨⟨m + 1, a', c', rl ++ [(m : Int)], by omega, int_i64 (by omega), hid (by rw [flagN_next Hst.out, Hrl2.out]; rfl), rfl, Hp.out.own, (hbw.out.alloc hbw.out.size _).grown Hp.out.grown (by have := hbw.out.size; simp; omega) (fun b hb => (horw.out.lt b hb).1)⟩, by simp [intOf]; omega⟩
            · go_wp2_with fail
              exact ⟨⟨m + 1, ar, cr, rl, by omega, int_i64 (by omega), hid (by rw [flagN_next Hst.out, Hrl2.out]; rfl), rfl, horw.out, hbw.out⟩, by simp [intOf]; omega⟩
          · cases av
            · go_wp2_with fail
              exact ⟨⟨m + 1, ar, cr, rl, by omega, int_i64 (by omega), hid (by rw [flagN_next Hst.out, Hrl2.out]; rfl), rfl, horw.out, hbw.out⟩, by simp [intOf]; omega⟩
            · go_wp2_with fail
              exact ⟨⟨m + 1, ar, cr, rl, by omega, int_i64 (by omega), hid (by rw [flagN_next Hst.out, Hrl2.out]; rfl), rfl, horw.out, hbw.out⟩, by simp [intOf]; omega⟩
        · obtain rfl : n = m := by omega
          have hrv : rl = rdyV ds fl := by rw [Hrl2.out, rdyV, flagV, rbN_len, Hl1.out]
          subst hrv
          go_wp2_with fail
          refine ((choice_fn ch k (rdyV ds fl).length hc (by omega) Hpos.out (by have := Hrl.out; have := Hl1.out; omega)).callsI (vs := [_, _, _]) (vals3_mk (HC1.out.frame (below_sameAll Hbi.out _)) (Dr.val _ rfl) (Dr.val _ rfl))).mono ?_
          rintro e w1 ⟨rfl, b1⟩
          rw [Hcv.out]
          have hbw := hid (Hbi.out.trans (b1.mono Hbi.out.size))
          have hir := (Hor.out.below' b1).intsA (by have := Hrl.out; have := Hl1.out; omega)
          obtain ⟨br, orr, hra, _, hrc⟩ := hir.at Hpos.out
          have hcl : cx < (rdyV ds fl).length := (List.getElem?_eq_some_iff.1 Hri.out).1
          have x1 := hrc cx hcl
          rw [List.getD, Hri.out, Option.getD_some] at x1
          have y1 : w1.cell? ⟨w.heap.size + 1, 0, none⟩ = some (.slice (some ⟨w.heap.size, 0, none⟩) n n) := by rw [cell_of_row _ _ _ _ _ _ ((hbw.out.block _ hxs.out).trans hx.out)]; rfl
          have ht1 := hid (Ht.out.to (hbw.out.block _ hgs.out))
          have x2 := ht1.out.cell Hfi.out
          have x3 := ht1.out.frozen i
          have hta3 := hid (ht1.out.set i true)
          have Ho5 := hid (((Ho2.out.below' Hbi.out).below' b1).kept2 (g := w.heap.size) (fun b hb => by have := (Ho2.out.lt b hb).1; omega) i (.bool true))
          have HX1 := hid ((Below.heap_setCell w1 ⟨w.heap.size, i, none⟩ (.bool true) (w.heap.size + 1) (by show w.heap.size + 1 ≠ w.heap.size; omega)).trans ((hbw.out.block _ hxs.out).trans hx.out))
          have HB3 := hid ((Hb.out.trans (hbw.out.mono (Nat.le_of_lt hgs.out))).setCell (p := ⟨w.heap.size, i, none⟩) (Nat.le_refl _) (.bool true))
          have hwo := hid hbw.out.size
          subst hra
          clear hrc hir b1
          go_wp2_with (at_builtin; go_must (refine wpList_app1 _ rfl _ _ rfl (w.heap.size + 2) _ _ rfl (Ho5.out.alloc _) _ (i : Int) rfl ?_ ?c1 ?c2 ?c3); intro v' w3 hp3; have hp3 : AppPost _ w3 (w.heap.size + 2) 3 1 (.slice a k c) v' _ _ := hp3; have Hp3 := hid hp3; clear hp3)
          case c1 => have h := cell_new (w1.setCell ⟨w.heap.size, i, none⟩ (.bool true)) (.int .i64 (i : Int)) 3; simpa using h
          case c2 => have := Hl2.out; omega
          case c3 => have := hwo.out; have := hxs.out; simp; omega
          have hl3 : (ol ++ [(i : Int)]).length = k + 1 := by rw [List.length_append, Hl2.out]; rfl
          have ho6 : OwnS w3 (w.heap.size + 2) v' (ol ++ [(i : Int)]) := Hp3.out.own
          obtain ⟨a', c', rfl⟩ := OwnS.shapeM ho6
          rw [hl3] at ho6 Hp3 ⊢
          have hge : ∀ b, (Value.slice a k c).ownBlock = some b → w.heap.size + 2 ≤ b := fun b hb => (Ho2.out.lt b hb).1
          have hsz := hwo.out
          have hxs2 := hxs.out
          have hT : TB w3 w.heap.size (fl.set i true) := hta3.out.to ((Hp3.out.grown.block w.heap.size (by simp; omega) (fun e => by have := hge _ e.symm; omega)).trans (Below.heap_alloc _ _ _ (by simp; omega)))
          have hX : w3.heap[w.heap.size + 1]? = some (.cells #[.slice (some ⟨w.heap.size, 0, none⟩) n n] 86 (0, 0)) := ((Hp3.out.grown.block (w.heap.size + 1) (by simp; omega) (fun e => by have := hge _ e.symm; omega)).trans (Below.heap_alloc _ _ _ (by simp; omega))).trans HX1.out
          have hC : Below w.heap.size w w3 := (HB3.out.alloc HB3.out.size _).grown Hp3.out.grown (by simp; omega) (fun b hb => by have := hge b hb; omega)
          exact ⟨⟨k + 1, a', c', by omega, int_i64 (by omega), rfl, by rw [Hn.out]; exact ho6, by rw [Hn.out]; exact hT, hid hX, hC, hid fun h => absurd h (by omega)⟩, by simp [intOf]; omega⟩
    · have : k = n := by omega
      subst this
      go_wp2
      go_ret
      exact ⟨⟨a, c, rfl, ownsRow_base ho (by omega), hz.out⟩, hb⟩
theorem Vals.none {args : List V1} {vs : List Value} {bx : Nat → Nat × Nat} {B : Nat → Prop} {w : World} (h : Vals (V1r bx (Al (lk [])) B w) args vs) : Vals (V1r bx0 al0 B w) args vs :=
  ⟨h.1, fun i x v hx hv => (h.2 i x v hx hv).to (Same.refl _ _) (fun b hb _ => hb) (fun k _ hk => (no_al0 k hk).elim)⟩
theorem al_one {k : Nat} {x : RC} : Al (lk [(.b 100, x), (.u 100, .u)]) k → k = 100 := fun ⟨e, sz, rows, h⟩ => by
  by_cases hk : k = 100
  · exact hk
  · rw [lk_other _ _ _ _ (by simp; omega), lk_other _ _ _ _ (by simp)] at h; cases h
/-- A call that answers numbers in memory of its own, told over abstract states. -/
theorem OwnC.fn {f : FuncId} {args : List V1} {xs : List Int} (hne : xs ≠ []) (h : OwnC f args xs) : Fn Tryz.prog f [] args (.o (.c (.own 100 1 xs.length))) [(.b 100, .b 3 1 (dR (xs.map rI))), (.u 100, .u)] := by
  intro B bx w vs hok hv
  refine (h B w vs hv.none).mono ?_
  rintro e w' ⟨⟨a, c, rfl, ho⟩, hb⟩
  obtain ⟨h1, ⟨_, h0⟩ | ⟨g, cap, cur, e, hg, hc, h3, h4, h5, r⟩⟩ := ho
  · exact absurd (List.eq_nil_of_length_eq_zero h0) hne
  cases e
  have hk : ∀ k, Al (lk [(.b 100, RC.b 3 1 (dR (xs.map rI))), (.u 100, .u)]) k → k = 100 := fun k => al_one
  refine ⟨_, fun _ => (g, cur.size), rfl, ⟨⟨fun k e sz rows hl => ?_, fun k l h1 h2 _ => (hk k h1).trans (hk l h2).symm, fun k h1 h2 => h2.2 k h1 rfl⟩, ⟨rfl, fun _ => ⟨c, rfl, h3, h4, by show c * 1 = cur.size; omega⟩⟩, hb.os, hb.tape, hb.output, hb.size, fun b hl _ => hb.block b hl, fun k h1 h2 => by have := hk k h2; omega, fun k _ => .inl hg⟩⟩
  obtain rfl := hk k ⟨e, sz, rows, hl⟩
  have hl : RC.b 3 1 (dR (xs.map rI)) = .b e sz rows := hl
  cases hl
  have hlen : (dR (xs.map rI)).length = xs.length := by simp [dR]
  refine ⟨cur, hc, rfl, by rw [hlen]; omega, fun i r hi => ?_, fun i r j c hi hj => ?_⟩
  all_goals
    rw [dR, List.getElem?_map, List.getElem?_map] at hi
    cases hx : xs[i]? with
    | none => rw [hx] at hi; cases hi
    | some x =>
      rw [hx] at hi; cases hi
      first
      | rfl
      | (obtain rfl : j = 0 := by have := (List.getElem?_eq_some_iff.1 hj).1; simp [rI] at this; omega
         cases hj
         refine ⟨.int .i64 x, ?_, Dr.val _ rfl⟩
         have hil := (List.getElem?_eq_some_iff.1 hx).1
         have := congrArg (fun l => l[i]?) r
         simp only [List.getElem?_map, hx] at this
         rw [List.getElem?_take, if_pos (by omega), Array.getElem?_toList] at this
         rw [Nat.mul_one, Nat.add_zero]; exact this)
theorem Fn.nilOf {f : FuncId} {args : List V1} (h : ∀ (B : Nat → Prop) (w : World) (vs : List Value), Vals (V1r bx0 al0 B w) args vs → Calls Tryz.prog f vs.toArray w fun e w' => e = .returned (.slice none 0 0) ∧ Below w.heap.size w w') : Fn Tryz.prog f [] args (.o (.c (.d (.val (.slice none 0 0))))) [] := by
  intro B bx w vs hok hv
  refine (h B w vs hv.none).mono ?_
  rintro e w' ⟨rfl, hb⟩
  exact ⟨_, bx, rfl, ⟨⟨fun k e sz rows hl => (by cases hl), fun k l hk => (no_al0 k hk).elim, fun k hk => (no_al0 k hk).elim⟩, Dr.val _ rfl, hb.os, hb.tape, hb.output, hb.size, fun b hl _ => hb.block b hl, fun k _ hk => (no_al0 k hk).elim, fun k hk => (no_al0 k hk).elim⟩⟩
theorem greedy_v {ds : List Dpn} {n : Nat} {ch : List Int} (Ho : DOk ds n) (hl : ds.length ≤ 1000000) (hn : n ≤ 1000) (hc : ch.length ≤ 1099511627776) {w : World} {B : Nat → Prop} {vs : List Value} (hv : Vals (V1r bx0 al0 B w) [vD (dDs ds), nat1 (n : Nat), vD (dIs ch)] vs) :
    Calls Tryz.prog 46 vs.toArray w fun e w' => (∃ a c, e = .returned (.slice a n c) ∧ OwnS w' w.heap.size (.slice a n c) (grN ds n ch n).2 ∧ (n = 0 → a = none ∧ c = 0)) ∧ Below w.heap.size w w' := by
  obtain ⟨hle, hv⟩ := hv
  obtain ⟨v0, l0, rfl, h0⟩ := len_cons (show vs.length = 2 + 1 from hle)
  obtain ⟨v1, l1, rfl, h1⟩ := len_cons (show l0.length = 1 + 1 from h0)
  obtain ⟨v2, l2, rfl, h2⟩ := len_cons (show l1.length = 0 + 1 from h1)
  obtain rfl := len_zero h2
  have e0 : Dr B w (dDs ds) v0 := hv 0 _ _ rfl rfl
  have e1 : Dr B w (dI (n : Nat)) v1 := hv 1 _ _ rfl rfl
  have e2 : Dr B w (dIs ch) v2 := hv 2 _ _ rfl rfl
  cases e1
  obtain ⟨a0, c0, rfl, _⟩ := e0.slice
  obtain ⟨a2, c2, rfl, _⟩ := e2.slice
  have e0 : Dr B w (dDs ds) (.slice a0 ds.length c0) := by simpa using e0
  have e2 : Dr B w (dIs ch) (.slice a2 ch.length c2) := by simpa using e2
  have := greedy_c (hid Ho) hl hn hc (e0.mono fun b _ h => h) (e2.mono fun b _ h => h)
  simpa using this
theorem greedy_own {ds : List Dpn} {n : Nat} {ch : List Int} (Ho : DOk ds n) (hl : ds.length ≤ 1000000) (hn : n ≤ 1000) (hc : ch.length ≤ 1099511627776) (hz : n ≠ 0) :
    Fn Tryz.prog 46 [] [vD (dDs ds), nat1 (n : Nat), vD (dIs ch)] (.o (.c (.own 100 1 (grN ds n ch n).2.length))) [(.b 100, .b 3 1 (dR ((grN ds n ch n).2.map rI))), (.u 100, .u)] := by
  have hle := (grN_len ds n ch n).2
  refine OwnC.fn (fun e => hz (by rw [← hle, e]; rfl)) fun B w vs hv => (greedy_v Ho hl hn hc hv).mono ?_
  rintro e w' ⟨⟨a, c, rfl, h, _⟩, hb⟩
  exact ⟨⟨a, c, by rw [hle], by rw [hle]; exact h⟩, hb⟩
theorem greedy_nil {ds : List Dpn} {n : Nat} {ch : List Int} (Ho : DOk ds n) (hl : ds.length ≤ 1000000) (hc : ch.length ≤ 1099511627776) (hz : n = 0) :
    Fn Tryz.prog 46 [] [vD (dDs ds), nat1 (n : Nat), vD (dIs ch)] (.o (.c (.d (.val (.slice none 0 0))))) [] := by
  refine Fn.nilOf fun B w vs hv => (greedy_v Ho hl (by omega) hc hv).mono ?_
  rintro e w' ⟨⟨a, c, rfl, _, h⟩, hb⟩
  obtain ⟨rfl, rfl⟩ := h hz
  exact ⟨by rw [hz], hb⟩
theorem implRO_own {g : Prg} (hs : szG g ≤ 1073741824) {ch : List Int} (hc : ch.length ≤ 1099511627776) (hz : (insQ g).length ≠ 0) : Fn Tryz.prog 22 [] [ad (rG g), vD (dIs ch)] (.o (.c (.own 100 1 (grN (strV g) (insQ g).length ch (insQ g).length).2.length))) [(.b 100, .b 3 1 (dR ((grN (strV g) (insQ g).length ch (insQ g).length).2.map rI))), (.u 100, .u)] := by
 have ho := strP_ok g
 have hil := insQ_len g
 have hdl := strP_len g
 refine Fn.of_code Tryz.func22 rfl rfl HB.nil rfl rfl HB.nil.data rfl (one_num rfl) ?_
 refine .seq <| .region <| .cons (St1.boxP rfl rfl rfl rfl rfl rfl) <| .cons (.asg rfl rfl) <| .nil <| ks_n <| .seq ?_
 refine ACode.drawK (by kernel_rfl) (by kernel_rfl) ?_
 refine .cons (.lN 2 rfl rfl rfl) <| .cons (.cP [.tmp 5] rfl rfl rfl rfl (implStr_fn hs) rfl) ?_
 refine .cons (.lN 2 rfl rfl rfl) <| .cons (.cP [.tmp 7] rfl rfl rfl rfl (implPI_fn hs) rfl) ?_
 refine .cons (.ln 82 3 40 rfl rfl rfl) <| .cons (.mv rfl rfl) <| .cons (.cO [.tmp 6, .tmp 9, .tmp 10] [(100, 111)] rfl rfl rfl rfl (greedy_own ho (by omega) (by omega) hc hz) rfl trivial flatS.nil (flatS.nil.cons rfl) HB.nil.data outS_one) ?_
 refine .cons (.asg rfl rfl) ?_
 refine .nil ⟨by kernel_rfl, ?_⟩
 refine ks_n <| .ret ?_
 refine kf_wret [(.t 4, .v (.o (.c (.own 100 1 ((grN (strV g) (insQ g).length ch (insQ g).length).2.length))))), (.b 100, .b 3 1 (dR ((grN (strV g) (insQ g).length ch (insQ g).length).2.map rI))), (.u 100, .u)] (Wk.keep [(100, 111)] rfl rfl ⟨ks rfl (.c (.ow rfl)), kb 111 rfl (.dt rfl rfl), trivial⟩) rfl ?_ (one_box rfl)
 rfl

theorem implRO_nil {g : Prg} (hs : szG g ≤ 1073741824) {ch : List Int} (hc : ch.length ≤ 1099511627776) (hz : (insQ g).length = 0) : Fn Tryz.prog 22 [] [ad (rG g), vD (dIs ch)] (.o (.c (.d (.val (.slice none 0 0))))) [] := by
 have ho := strP_ok g
 have hil := insQ_len g
 have hdl := strP_len g
 refine Fn.code0 Tryz.func22 rfl rfl rfl rfl ?_
 refine .seq <| .region <| .cons (St1.boxP rfl rfl rfl rfl rfl rfl) <| .cons (.asg rfl rfl) <| .nil <| ks_n <| .seq ?_
 refine ACode.drawK (by kernel_rfl) (by kernel_rfl) ?_
 refine .cons (.lN 2 rfl rfl rfl) <| .cons (.cP [.tmp 5] rfl rfl rfl rfl (implStr_fn hs) rfl) ?_
 refine .cons (.lN 2 rfl rfl rfl) <| .cons (.cP [.tmp 7] rfl rfl rfl rfl (implPI_fn hs) rfl) ?_
 refine .cons (.ln 82 3 40 rfl rfl rfl) <| .cons (.mv rfl rfl) <| .cons (.cP [.tmp 6, .tmp 9, .tmp 10] rfl rfl rfl rfl (greedy_nil ho (by omega) hc hz) rfl) ?_
 refine .cons (.asg rfl rfl) ?_
 refine .nil ⟨by kernel_rfl, ?_⟩
 refine ks_n <| .ret ?_
 refine kf_ret rfl ?_ nobox
 rfl

theorem implRO_ownC {g : Prg} (hs : szG g ≤ 1073741824) {ch : List Int} (hc : ch.length ≤ 1099511627776) : OwnC 22 [ad (rG g), vD (dIs ch)] (grN (strV g) (insQ g).length ch (insQ g).length).2 := by
  by_cases hz : (insQ g).length = 0
  · have h := (implRO_nil hs hc hz).nilC
    rw [hz]; exact h
  · exact (implRO_own hs hc hz).ownC
theorem DrN.ints_shape {lo : Nat} {w : World} {ch : List Int} {v : Value} (h : DrN lo w (dIs ch) v) : ∃ a c, v = .slice a ch.length c := by
  obtain ⟨a, n, c, rfl, rfl, _⟩ := h.dr.ints
  exact ⟨a, c, rfl⟩
theorem DrN.intsA {lo : Nat} {w : World} {ch : List Int} {a : Option Addr} {n c : Nat} (h : DrN lo w (dIs ch) (.slice a n c)) : IntsA w a n c ch := by
  obtain ⟨a', n', c', e, _, hi⟩ := h.dr.ints
  simp only [Value.slice.injEq] at e
  obtain ⟨rfl, rfl, rfl⟩ := e
  exact hi
set_option maxHeartbeats 12800000 in
theorem lawXro {g : Prg} (ho : okPrg g) {ch : List Int} {xs : List Int} (hx : xs.length ≤ 1000000) (qs : szG g ≤ 1048576 → ch.length ≤ 1048576 → PureC 20 [ad (rG g), vD (dIs ch)] xs) (qi : szG g ≤ 1048576 → ch.length ≤ 1048576 → OwnC 22 [ad (rG g), vD (dIs ch)] xs)
    {w : World} {u0 u1 : Value} {ac : Option Addr} {cc : Nat} (d0 : Dr (fun b => b < w.heap.size) w (dRs g.1) u0) (d1 : Dr (fun b => b < w.heap.size) w (dPts g.2) u1) (dc : Dr (fun b => b < w.heap.size) w (dIs ch) (.slice ac ch.length cc)) : Truth Tryz.prog 5 #[.agg #[u0, u1], .slice ac ch.length cc] w := by
  have L0 := LawS.start w [u0, u1]
  have D0 := hid d0; have D1 := hid d1; have DC := hid dc; clear d0 d1 dc
  have HL0 := hid L0; clear L0
  have HX := hid hx; clear hx
  by_cases hc : ch.length ≤ 1048576
  case neg =>
    clear qs qi ho
    go_enter Tryz.func5, Tryz.ntmps5
    go_wp2_with fail
    go_ret
    exact ⟨rfl, HL0.out.below⟩
  have hz := szPrg_fn (l := 1048576) (by omega) ho
  by_cases hs : szG g ≤ 1048576
  case neg =>
    rw [subZ_no (by omega)] at hz
    have HZ := hid hz; clear hz qs qi ho
    go_enter Tryz.func5, Tryz.ntmps5
    go_wp2_with fail
    refine (HZ.out.callsI (vs := [_, _]) (vals2_mk (ad2_v (D0.out.frame (below_sameAll HL0.out.below _)) (D1.out.frame (below_sameAll HL0.out.below _))) (Dr.val (.int .i64 1048576) rfl))).mono ?_
    rintro e wA ⟨rfl, bA⟩
    have LA := HL0.out.fwd bA HL0.out.lt
    have HLA := hid LA; clear LA
    go_wp2_with fail
    go_ret
    exact ⟨rfl, HLA.out.below⟩
  rw [subZ_yes (by omega)] at hz
  have qs := hid (qs hs hc); have qi := hid (qi hs hc)
  have hcp := hid (copyPrg hs)
  have hci := hid (copyInts (xs := ch) hc)
  have hep := hid (eqPrg_fn g g (by omega))
  have HS := hid hs
  have HCL := hid hc
  have HZ := hid hz
  have hz0 : (0 : Int) ≤ 1048576 - (szG g : Nat) := by omega
  clear hz ho hs
  obtain ⟨z, hz1⟩ : ∃ z : Int, z = 1048576 - (szG g : Nat) := ⟨_, rfl⟩
  rw [← hz1] at HZ hz0
  clear hz1
  go_enter Tryz.func5, Tryz.ntmps5
  go_wp2_with fail
  refine (HZ.out.callsI (vs := [_, _]) (vals2_mk (ad2_v (D0.out.frame (below_sameAll HL0.out.below _)) (D1.out.frame (below_sameAll HL0.out.below _))) (Dr.val (.int .i64 1048576) rfl))).mono ?_
  rintro e wA ⟨rfl, bA⟩
  have HLA := hid (HL0.out.fwd bA HL0.out.lt); clear bA
  have c0 := HLA.out.c 0 rfl; have c1 := HLA.out.c 1 rfl
  go_wp2_with fail
  clear c0 c1
  refine (hcp.out _ _ [u0, u1] rfl (all2 (D0.out.frame (below_sameAll HLA.out.below _)) (D1.out.frame (below_sameAll HLA.out.below _)))).mono ?_
  rintro e wB0 ⟨vs, rfl, bB, hv⟩
  obtain ⟨y0, l0, rfl, hv1⟩ := len_cons hv.1
  obtain ⟨y1, l1, rfl, hv2⟩ := len_cons hv1
  obtain rfl := len_zero hv2
  have NB0 := hid (hv.2 0 _ _ rfl rfl); have NB1 := hid (hv.2 1 _ _ rfl rfl); clear hv hv1 hv2
  have HLB0 := hid (HLA.out.fwd bB HLA.out.lt); have HB1 := hid bB; clear bB
  go_wp2_with fail
  refine (hci.out _ _ _ (DC.out.frame (below_sameAll HLB0.out.below _))).mono ?_
  rintro e wB ⟨v, rfl, bB, hv⟩
  obtain ⟨ay, cy, rfl⟩ := DrN.ints_shape hv
  have NBc := hid hv; clear hv
  have HLB := hid (HLB0.out.fwd bB HLB0.out.lt); have NB0 := hid (NB0.out.fwd bB); have NB1 := hid (NB1.out.fwd bB); clear bB
  go_wp2_with fail
  refine (qs.out _ _ [.agg #[y0, y1], .slice ay ch.length cy] (vals2_mk (ad2_v (NB0.out.dr.mono (B' := fun _ => True) fun _ _ _ => trivial) (NB1.out.dr.mono (B' := fun _ => True) fun _ _ _ => trivial)) (NBc.out.dr.mono (B' := fun _ => True) fun _ _ _ => trivial))).mono ?_
  rintro e wC ⟨⟨a0, k0, rfl, i0⟩, bC⟩
  have HLC := hid (HLB.out.fwd bC HLB.out.lt); clear bC NB0 NB1 NBc
  have I0 := hid i0; clear i0
  have c0 := HLC.out.c 0 rfl; have c1 := HLC.out.c 1 rfl
  go_wp2_with fail
  clear c0 c1
  refine (hcp.out _ _ [u0, u1] rfl (all2 (D0.out.frame (below_sameAll HLC.out.below _)) (D1.out.frame (below_sameAll HLC.out.below _)))).mono ?_
  rintro e wD ⟨vs, rfl, bD, hv⟩
  obtain ⟨x0, l0, rfl, hv1⟩ := len_cons hv.1
  obtain ⟨x1, l1, rfl, hv2⟩ := len_cons hv1
  obtain rfl := len_zero hv2
  have ND0 := hid (hv.2 0 _ _ rfl rfl); have ND1 := hid (hv.2 1 _ _ rfl rfl); clear hv hv1 hv2
  have HBD := hid bD; clear bD
  have HA := hid ((HBD.out).alloc HBD.out.size (.cells #[x0, x1] 32))
  have HBx0 := hid (heap_alloc_new wD (.cells #[x0, x1] 32))
  have HAl := hid (show Below wD.heap.size wD (wD.alloc (.cells #[x0, x1] 32)) from (Below.refl _ _).alloc (Nat.le_refl _) _)
  have ND0a := hid (ND0.out.fwd HAl.out); have ND1a := hid (ND1.out.fwd HAl.out)
  have s0 := fun a m w => run_store Tryz.prog w a x0 m ND0.out.one; have s1 := fun a m w => run_store Tryz.prog w a x1 m ND1.out.one
  go_wp2_with fail
  clear s0 s1
  refine (hci.out _ _ _ (DC.out.frame (below_sameAll (HLC.out.below.trans (HA.out.mono (Nat.le_of_lt HLC.out.lt))) _))).mono ?_
  rintro e wX ⟨v, rfl, bX, hv⟩
  obtain ⟨ax, cx, rfl⟩ := DrN.ints_shape hv
  have NDc := hid hv; clear hv
  have HAX := hid (HA.out.trans (bX.mono HA.out.size)); have HAlX := hid (HAl.out.trans (bX.mono HAl.out.size))
  have HBx := hid ((bX.block _ (by simp)).trans HBx0.out)
  have NX0 := hid (ND0a.out.fwd bX); have NX1 := hid (ND1a.out.fwd bX); clear bX
  have e0 : wX.cell? ⟨wD.heap.size, 0, none⟩ = some x0 := by rw [cell_of_row wX _ _ _ _ _ HBx.out]; rfl
  have e1 : wX.cell? ⟨wD.heap.size, 1, none⟩ = some x1 := by rw [cell_of_row wX _ _ _ _ _ HBx.out]; rfl
  go_wp2_with fail
  clear e0 e1
  refine (qi.out _ _ [.agg #[x0, x1], .slice ax ch.length cx] (vals2_mk (ad2_v (NX0.out.dr.mono (B' := fun _ => True) fun _ _ _ => trivial) (NX1.out.dr.mono (B' := fun _ => True) fun _ _ _ => trivial)) (NDc.out.dr.mono (B' := fun _ => True) fun _ _ _ => trivial))).mono ?_
  rintro e wE ⟨⟨a1, k1, rfl, o1⟩, bE⟩
  have O1 := hid o1; clear o1
  have HXE := hid bE
  have HBE := hid (HAX.out.trans (bE.mono HAX.out.size))
  have HDE := hid (HAlX.out.trans (bE.mono HAlX.out.size))
  have HBx1 := hid ((bE.block _ (blk_lt HBx.out)).trans HBx.out); clear bE
  go_wp2_with fail
  refine (eqIntS_any _ _ _ _ _ _ xs xs _ (O1.out.intsA (by have := HX.out; omega)) (I0.out.below HBE.out)).mono ?_
  rintro e wF ⟨rfl, q⟩
  rw [dec_self]
  have HXF := hid (HXE.out.trans ((q.below _).mono HXE.out.size))
  have HBF := hid (HBE.out.trans ((q.below _).mono HBE.out.size)); have HDF := hid (HDE.out.trans ((q.below _).mono HDE.out.size))
  have O1F := hid (O1.out.below' (q.below _)); have HBxF := hid (((q.below wE.heap.size).block _ (blk_lt HBx1.out)).trans HBx1.out); clear q
  have HLF := hid (HLC.out.fwd HBF.out HLC.out.lt)
  have c0 := HLF.out.c 0 rfl; have c1 := HLF.out.c 1 rfl
  have e0 : wF.cell? ⟨wD.heap.size, 0, none⟩ = some x0 := by rw [cell_of_row wF _ _ _ _ _ HBxF.out]; rfl
  have e1 : wF.cell? ⟨wD.heap.size, 1, none⟩ = some x1 := by rw [cell_of_row wF _ _ _ _ _ HBxF.out]; rfl
  go_wp2_with fail
  go_region_held3 (fun wq => wq.cell? ⟨w.heap.size, 0, none⟩ = some u0 ∧ wq.cell? ⟨w.heap.size, 1, none⟩ = some u1 ∧ wq.cell? ⟨wD.heap.size, 0, none⟩ = some x0 ∧ wq.cell? ⟨wD.heap.size, 1, none⟩ = some x1)
    ((repeat' apply And.intro) <;> first | assumption | go_keep)
    (first
    | (go_at_call 8
       refine (hcp.out _ _ [u0, u1] rfl (all2 (D0.out.frame (below_sameAll (HLF.out.below.drew) _)) (D1.out.frame (below_sameAll (HLF.out.below.drew) _)))).mono ?_
       rintro e wG ⟨vs, rfl, bG, hv⟩
       obtain ⟨z0, l0, rfl, hv1⟩ := len_cons hv.1
       obtain ⟨z1, l1, rfl, hv2⟩ := len_cons hv1
       obtain rfl := len_zero hv2
       have NG0 := hid (hv.2 0 _ _ rfl rfl); have NG1 := hid (hv.2 1 _ _ rfl rfl)
       have HFG := hid (show Below wF.heap.size wF wG from (Below.refl _ _).drew.trans bG)
       clear hv hv1 hv2 bG
       have c0 := (HLF.out.fwd HFG.out HLF.out.lt).c 0 rfl; have c1 := (HLF.out.fwd HFG.out HLF.out.lt).c 1 rfl
       have e0 : wG.cell? ⟨wD.heap.size, 0, none⟩ = some x0 := by rw [cell_of_row wG _ _ _ _ _ ((HFG.out.block _ (blk_lt HBxF.out)).trans HBxF.out)]; rfl
       have e1 : wG.cell? ⟨wD.heap.size, 1, none⟩ = some x1 := by rw [cell_of_row wG _ _ _ _ _ ((HFG.out.block _ (blk_lt HBxF.out)).trans HBxF.out)]; rfl)
    | (go_at_call 11
       refine (hep.out.callsB (vs := [_, _]) (B := fun _ => True) (vals2_mk (ad2_v (((ND0.out.fwd HDF.out).fwd HFG.out).dr.mono fun _ _ _ => trivial) (((ND1.out.fwd HDF.out).fwd HFG.out).dr.mono fun _ _ _ => trivial)) (ad2_v (NG0.out.dr.mono fun _ _ _ => trivial) (NG1.out.dr.mono fun _ _ _ => trivial)))).mono ?_
       rintro e wH ⟨rfl, bH⟩
       rw [sameG_refl]
       have HFH := hid (HFG.out.trans (bH.mono HFG.out.size))
       clear bH
       have c0 := (HLF.out.fwd HFH.out HLF.out.lt).c 0 rfl; have c1 := (HLF.out.fwd HFH.out HLF.out.lt).c 1 rfl
       have e0 : wH.cell? ⟨wD.heap.size, 0, none⟩ = some x0 := by rw [cell_of_row wH _ _ _ _ _ ((HFH.out.block _ (blk_lt HBxF.out)).trans HBxF.out)]; rfl
       have e1 : wH.cell? ⟨wD.heap.size, 1, none⟩ = some x1 := by rw [cell_of_row wH _ _ _ _ _ ((HFH.out.block _ (blk_lt HBxF.out)).trans HBxF.out)]; rfl))

  have HXH := hid (HXF.out.trans (HFH.out.mono HXF.out.size))
  have HBH := hid (HBF.out.trans (HFH.out.mono HBF.out.size)); have HDH := hid (HDF.out.trans (HFH.out.mono HDF.out.size))
  have O1H := hid (O1F.out.below' HFH.out)
  have HBxH := hid ((HFH.out.block _ (blk_lt HBxF.out)).trans HBxF.out)
  have HLH := hid (HLC.out.fwd HBH.out HLC.out.lt)
  clear NG0 NG1 HFG HFH HLF HBxF
  go_wp2_with fail
  clear c0 c1 e0 e1
  refine (hci.out _ _ _ (DC.out.frame (below_sameAll HLH.out.below _))).mono ?_
  rintro e wP ⟨v, rfl, bP, hv⟩
  obtain ⟨ap, cp, rfl⟩ := DrN.ints_shape hv
  have NPc := hid hv; clear hv
  have HXP := hid (HXH.out.trans (bP.mono HXH.out.size))
  have HBP := hid (HBH.out.trans (bP.mono HBH.out.size)); have HDP := hid (HDH.out.trans (bP.mono HDH.out.size)); have O1P := hid (O1H.out.below' bP)
  have HBxP := hid ((bP.block _ (blk_lt HBxH.out)).trans HBxH.out); clear bP
  go_wp2_with fail
  refine (eqIntS_any _ _ _ _ _ _ ch ch _ (DrN.intsA (NDc.out.fwd HXP.out)) (DrN.intsA NPc.out)).mono ?_
  rintro e wQ ⟨rfl, q⟩
  rw [dec_self]
  have HXQ := hid (HXP.out.trans ((q.below _).mono HXP.out.size))
  have HBQ := hid (HBP.out.trans ((q.below _).mono HBP.out.size)); have HDQ := hid (HDP.out.trans ((q.below _).mono HDP.out.size)); have O1Q := hid (O1P.out.below' (q.below _))
  have HBxQ := hid (((q.below wP.heap.size).block _ (blk_lt HBxP.out)).trans HBxP.out); clear q NPc
  have e0 : wQ.cell? ⟨wD.heap.size, 0, none⟩ = some x0 := by rw [cell_of_row wQ _ _ _ _ _ HBxQ.out]; rfl
  have e1 : wQ.cell? ⟨wD.heap.size, 1, none⟩ = some x1 := by rw [cell_of_row wQ _ _ _ _ _ HBxQ.out]; rfl
  go_wp2_with fail
  clear e0 e1
  have hsX := hid HXQ.out.size
  refine (markPrg_k HS.out (S := fun b => wC.heap.size ≤ b ∧ b < wX.heap.size) ((NX0.out.k fun b h1 h2 => ⟨h1, h2⟩).mark (marked_of HXQ.out (fun _ => True))) ((NX1.out.k fun b h1 h2 => ⟨h1, h2⟩).mark (marked_of HXQ.out (fun _ => True))) (fun b h => Nat.lt_of_lt_of_le h.2 hsX.out)).mono ?_
  rintro e wI0 ⟨⟨k, hk0, hk1, rfl⟩, mI0⟩
  have HKC := hid ((NDc.out.k (S := fun b => wC.heap.size ≤ b ∧ b < wX.heap.size) fun b h1 h2 => ⟨by have := HBD.out.size; have := HAl.out.size; omega, h2⟩).mark (marked_of HXQ.out (fun _ => True)) |>.mark mI0)
  have HBI0 := hid (HBQ.out.trans (mI0.below (fun b h => h.1) HBQ.out.size))
  have O1I0 := hid (O1Q.out.marked mI0 (fun b h => by have := h.2; omega)); clear mI0
  go_wp2_with fail
  refine (markInts_k ch (fun b => wC.heap.size ≤ b ∧ b < wX.heap.size) _ _ k HKC.out hk0 (by rw [wgt_ints]; have := HCL.out; omega)).mono ?_
  rintro e wI ⟨rfl, mI⟩
  rw [wgt_ints]
  have HBI := hid (HBI0.out.trans (mI.below (fun b h => h.1) HBI0.out.size))
  have O1I := hid (O1I0.out.marked mI (fun b h => by have := h.2; omega)); clear mI
  have h2 : decide (k + (ch.length : Nat) < 0) = false := by simp; omega
  go_wp2_with fail
  clear h2
  refine (eqIntS_any _ _ _ _ _ _ xs xs _ (O1I.out.intsA (by have := HX.out; omega)) (I0.out.below HBI.out)).mono ?_
  rintro e wJ ⟨rfl, q⟩
  rw [dec_self]
  have HBJ := hid (HBI.out.trans ((q.below _).mono HBI.out.size)); have O1J := hid (O1I.out.below' (q.below _)); clear q
  go_wp2_with fail
  refine (markIntS_any _ _ _ _ 1 _ _ O1J.out (by have := HX.out; omega) (by omega) (by omega)).mono ?_
  rintro e wK ⟨rfl, o, gK⟩
  have HBK := hid (HBJ.out.grown gK HBJ.out.size (fun k hk => by have := (O1J.out.lt k hk).1; have := HAX.out.size; omega))
  have O1K := hid o; clear o gK
  go_wp2_with fail
  refine (heldIntS_any _ _ _ 1 _ (O1K.out.intsA (by have := HX.out; omega)) (by omega) (by omega)).mono ?_
  rintro e wL ⟨rfl, q⟩
  have HBL := hid (HBK.out.trans ((q.below _).mono HBK.out.size)); have O1L := hid (O1K.out.below' (q.below _)); clear q
  have HLL := hid (HLC.out.fwd HBL.out HLC.out.lt)
  have h3 : decide ((1 : Int) + (xs.length : Nat) < 0) = false := by simp; omega
  have c0 := HLL.out.c 0 rfl; have c1 := HLL.out.c 1 rfl
  go_wp2_with fail
  clear c0 c1
  refine (hcp.out _ _ [u0, u1] rfl (all2 (D0.out.frame (below_sameAll HLL.out.below _)) (D1.out.frame (below_sameAll HLL.out.below _)))).mono ?_
  rintro e wM0 ⟨vs, rfl, bM, hv⟩
  obtain ⟨m0, l0, rfl, hv1⟩ := len_cons hv.1
  obtain ⟨m1, l1, rfl, hv2⟩ := len_cons hv1
  obtain rfl := len_zero hv2
  have NM0 := hid (hv.2 0 _ _ rfl rfl); have NM1 := hid (hv.2 1 _ _ rfl rfl); clear hv hv1 hv2
  have HBM0 := hid (HBL.out.trans (bM.mono HBL.out.size)); have O1M0 := hid (O1L.out.below' bM); clear bM
  have HLM0 := hid (HLC.out.fwd HBM0.out HLC.out.lt)
  go_wp2_with fail
  refine (hci.out _ _ _ (DC.out.frame (below_sameAll HLM0.out.below _))).mono ?_
  rintro e wM ⟨v, rfl, bM, hv⟩
  obtain ⟨am, cm, rfl⟩ := DrN.ints_shape hv
  have NMc := hid hv; clear hv
  have HBM := hid (HBM0.out.trans (bM.mono HBM0.out.size)); have O1M := hid (O1M0.out.below' bM); have NM0 := hid (NM0.out.fwd bM); have NM1 := hid (NM1.out.fwd bM); clear bM
  go_wp2_with fail
  refine (qi.out _ _ [.agg #[m0, m1], .slice am ch.length cm] (vals2_mk (ad2_v (NM0.out.dr.mono (B' := fun _ => True) fun _ _ _ => trivial) (NM1.out.dr.mono (B' := fun _ => True) fun _ _ _ => trivial)) (NMc.out.dr.mono (B' := fun _ => True) fun _ _ _ => trivial))).mono ?_
  rintro e wN ⟨⟨a2, k2, rfl, o2⟩, bN⟩
  have O2 := hid o2; clear o2
  have HBN := hid (HBM.out.trans (bN.mono HBM.out.size)); have O1N := hid (O1M.out.below' bN); clear bN
  go_wp2_with fail
  refine (eqIntS_any _ _ _ _ _ _ xs xs _ (O2.out.intsA (by have := HX.out; omega)) (I0.out.below HBN.out)).mono ?_
  rintro e wO ⟨rfl, q⟩
  rw [dec_self]
  have HBO := hid (HBN.out.trans ((q.below _).mono HBN.out.size)); have O1O := hid (O1N.out.below' (q.below _)); clear q
  go_wp2_with fail
  refine (heldIntS_any _ _ _ 1 _ (O1O.out.intsA (by have := HX.out; omega)) (by omega) (by omega)).mono ?_
  rintro e wP1 ⟨rfl, q⟩
  have HBP1 := hid (HBO.out.trans ((q.below _).mono HBO.out.size)); clear q
  go_wp2_with fail
  go_ret
  exact ⟨rfl, HLC.out.below.trans (HBP1.out.mono (Nat.le_of_lt HLC.out.lt))⟩
theorem lawExro {g : Prg} (ho : okPrg g) {ch : List Int} {w : World} {v : Value} {ac : Option Addr} {nc cc : Nat} (e0 : V1r bx0 al0 (fun b => b < w.heap.size) w (ad (rG g)) v) (e1 : V1r bx0 al0 (fun b => b < w.heap.size) w (vD (dIs ch)) (.slice ac nc cc)) : Truth Tryz.prog 5 #[v, .slice ac nc cc] w := by
  obtain ⟨u0, u1, rfl, d0, d1⟩ := e0_parts e0
  have e1 : Dr (fun b => b < w.heap.size) w (dIs ch) (.slice ac nc cc) := e1
  obtain ⟨a', n', c', e, hn, _⟩ := e1.ints
  simp only [Value.slice.injEq] at e
  obtain ⟨rfl, rfl, rfl⟩ := e
  subst hn
  exact lawXro ho (by rw [(grN_len _ _ _ _).2]; have := insQ_len g; omega) (fun hs hc => specRO_c (by omega) (by omega)) (fun hs hc => implRO_ownC (by omega) (by omega)) d0 d1 e1
end Go.Proofs.YtlecfjlgbkghfaaGreat
namespace Go.Proofs.YtlecfjlgbkghfaaGreat
set_option linter.unusedVariables false
set_option linter.unusedSimpArgs false
open Go.ChangeShapes Go.WideShapes Go.ChangeAt Go.RowKit
section
variable {H : Type} {enc : TypeId × Value → H} {w : World} {spare : Nat → Bool} {held : Bool}
theorem opInts (n : Nat) : OpF enc Tryz.prog w spare held n 27 (fun l : List Int => [dIs l]) (fun l => l.length ≤ 17592186044416) :=
  OpF.mono (f := fun l : List Int => [dIs l]) (n := n + 1) (opSlice (enc := enc) (w := w) (spare := spare) (held := held) (n := n) (t := 27) 1 8 Tryz.underlying27 (by kernel_rfl) (by kernel_rfl) (by rfl) (opInt Tryz.underlying3)) (by omega) fun a h => h.1
end
end Go.Proofs.YtlecfjlgbkghfaaGreat
