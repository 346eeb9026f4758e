/- spec.StackDistances returns the list of the stack distances; condition: what the slice holds. -/
import Derived.Test.YtnjbfeejpnfdgaaMark
import Derived.Test.YtnjbfeejpnfdgaaStackLaw
namespace Go.Proofs.Ytnjbfeejpnfdgaa
open Go.RowKit

set_option maxHeartbeats 800000 in
theorem specStack_small (a : Option Addr) (n c : Nat) (xs : List Int) (w : World) (hx : IntsA w a n c xs) (h6 : n ≤ 600) :
    Calls Try.prog 13 #[.slice a n c] w fun e w' => (∃ v, e = .returned v ∧ OwnS w' w.heap.size v (sds xs n)) ∧ Below w.heap.size w w' := by
  have h1 : decide ((600 : Int) < (n : Int)) = false := by simp; omega
  go_enter Try.func13, Try.ntmps13
  go_wp2_with fail
  go_loopw [3, 4, 5] (fun vo vs i wr => ∃ k : Nat, k ≤ n ∧ i = .int .i64 k ∧ OwnS wr w.heap.size vo (sds xs k) ∧ OwnS wr w.heap.size vs (stk (xs.take k)) ∧ Dis vo vs ∧ Below w.heap.size w wr) (fun _ _ i _ => n - (intOf i).toNat)
  case atStart =>
    have ho : OwnS (w.alloc (.cells #[] 3)) w.heap.size (.slice (some ⟨w.heap.size, 0, none⟩) 0 0) [] := OwnS.empty w (Nat.le_refl _)
    have hs := OwnS.empty (w.alloc (.cells #[] 3)) (B := w.heap.size) (by simp)
    have hd := Dis.new ho 0 0
    rw [World.size_alloc] at hs hd
    exact ⟨0, Nat.zero_le _, rfl, ho.alloc _, hs, hd, ((Below.refl _ _).alloc (Nat.le_refl _) _).alloc (by simp) _⟩
  case round =>
    obtain ⟨k, hk, rfl, ho, hs, hd, hb⟩ := hrel
    obtain ⟨wo, rfl⟩ : ∃ wo : World, wo = wr := ⟨_, rfl⟩
    have hsl : (stk (xs.take k)).length ≤ 600 := Nat.le_trans (stk_le _) (Nat.le_trans (List.length_take_le _ _) (by omega))
    have hnd := nodup_stk (xs.take k)
    generalize hst : stk (xs.take k) = st at hs hsl hnd
    have Hst := hid hst; clear hst
    by_cases hlt : k < n
    · obtain ⟨ast, cst, rfl, his, has⟩ := hs.form (by omega)
      obtain ⟨ba, oa, ha, hlb, hca⟩ := hx.at (by omega)
      have h2 : wo.cell? ⟨ba, oa + k, none⟩ = _ := (hb.cell hlb).trans (hca k hlt)
      generalize hxk : xs.getD k 0 = x at h2
      have h2w : Hid (w.cell? ⟨ba, oa + k, none⟩ = some (.int .i64 x)) := hid (by rw [← hxk]; exact hca k hlt)
      have Hxk := hid hxk; clear hxk
      subst ha
      clear hca
      go_wp2_with fail
      go_loopw [6, 7, 8] (fun q vr kk wi => ∃ j : Nat, j ≤ st.length ∧ kk = .int .i64 j ∧ q = .int .i64 (posIn (st.take j) x) ∧ OwnS wi wo.heap.size vr (others (st.take j) x) ∧ Below wo.heap.size wo wi) (fun _ _ kk _ => st.length - (intOf kk).toNat)
      case atStart => exact ⟨0, Nat.zero_le _, rfl, int_i64 (posIn_nil _).symm, OwnS.empty wo (Nat.le_refl _), (Below.refl _ _).alloc (Nat.le_refl _) _⟩
      case round =>
        obtain ⟨j, hj, rfl, rfl, hr, hb2⟩ := hrel
        have hbs := hb2.size
        by_cases hlt2 : j < st.length
        · have h3 : wr.cell? _ = _ := (hb2.cell (World.block_lt_of_cell? _ _ h2)).trans h2
          obtain ⟨g, hg, _, hgl, _, hcs, _⟩ := hs.at (by omega)
          have h4 : wr.cell? _ = _ := (hb2.cell (p := ⟨g, j, none⟩) hgl).trans (hcs j hlt2)
          have hol := others_le (st.take j) x
          have htl : (st.take j).length ≤ j := List.length_take_le _ _
          subst hg
          clear hcs h2
          generalize hy : st.getD j 0 = y at h4
          have hy' : st[j]?.getD 0 = y := by rw [← hy]; rfl
          have Hy := hid hy'; clear hy hy'
          cases he : (y == x)
          · have hx1 : posIn (st.take (j + 1)) x = posIn (st.take j) x := posIn_miss hlt2 (by rw [Hy.out]; exact he)
            have hx2 : others (st.take (j + 1)) x = others (st.take j) x ++ [y] := by rw [others_miss hlt2 (by rw [Hy.out]; exact he), Hy.out]
            have H1 := hid hx1; have H2 := hid hx2; clear hx1 hx2
            go_wp2_with fail
            go_quiet (fail)
            go_wp2_with (at_builtin; go_must (refine wpList_app1 _ rfl _ _ rfl wo.heap.size _ _ rfl (OwnS.alloc hr.drewN _) wr.heap.size y rfl ?_ ?c1 ?c2 ?c3); intro v' w1 hp)
            case c1 => exact cell_new (wr.drewN nq) _ _
            case c2 => omega
            case c3 => rw [World.size_alloc]; show wo.heap.size ≤ wr.heap.size + 1; omega
            have hr1 : OwnS ((wr.drewN nq).alloc (.cells #[.int .i64 y] 3)) wo.heap.size _ _ := OwnS.alloc hr.drewN _
            exact ⟨⟨j + 1, by omega, rfl, int_i64 H1.out.symm, by rw [H2.out]; exact hp.own, hp.below hr1 ((belowN hb2).alloc hbs _) (Nat.le_refl _) (by rw [World.size_alloc]; show wo.heap.size ≤ wr.heap.size + 1; omega)⟩, by simp [intOf]; omega⟩
          · have hx1 : posIn (st.take (j + 1)) x = j := posIn_hit hnd hlt2 (by rw [Hy.out]; exact he)
            have hx2 : others (st.take (j + 1)) x = others (st.take j) x := others_hit hlt2 (by rw [Hy.out]; exact he)
            have H1 := hid hx1; have H2 := hid hx2; clear hx1 hx2
            go_wp2_with fail
            go_quiet (fail)
            go_wp2_with fail
            exact ⟨⟨j + 1, by omega, rfl, int_i64 H1.out.symm, by rw [H2.out]; exact hr.drewN, belowN hb2⟩, by simp [intOf]; omega⟩
        · have hje : j = st.length := by omega
          subst hje
          rw [List.take_length] at hr ⊢
          have ho1 := ho.below' hb2
          have hs1 := hs.below' hb2
          have hole := others_le st x
          have hdr : Dis (.slice ast st.length cst) u7 := fun q hq e => absurd (hs.lt q hq).2 (by have := (hr.lt q e).1; omega)
          have h5 : wr.cell? _ = _ := (hb2.cell (World.block_lt_of_cell? _ _ h2)).trans h2
          have hsk := sds_length xs k
          have hbw := hb.trans (hb2.mono hb.size)
          have hwsz := hbw.size
          have hdo : Dis u7 u3 := fun q hq e => absurd (ho.lt q e).2 (by have := (hr.lt q hq).1; omega)
          obtain ⟨ar, cr, rfl, _, _⟩ := hr.form (by omega)
          have tok1 : True := trivial
          go_wp2_with (first
            | (at_builtin; have _t := tok1; go_must (refine wpList_app1 _ rfl _ _ rfl w.heap.size u3 (sds xs k) rfl (ho1.alloc _) wr.heap.size (posIn st x) rfl ?_ ?d1 ?d2 ?d3); intro v' w1 hp; have hb6 := hp.below (ho1.alloc _) (hbw.alloc hwsz _) (Nat.le_refl _) (by rw [World.size_alloc]; omega); have h6 := (hb6.cell (p := ⟨ba, oa + k, none⟩) hlb).trans h2w.out; have hr7 := (hr.alloc (.cells #[.int .i64 (posIn st x)] 3)).kept hp.grown hdo; clear tok1)
            | (at_builtin; go_must (refine wpList_appS _ rfl _ _ rfl w.heap.size wo.heap.size _ [x] rfl (OwnS.one w1 hb6.size x) _ _ _ (others st x) rfl (hr7.alloc _) ?_ ?e4 ?e5); intro v2 w2 hp2))
          case d1 => exact cell_new wr _ _
          case d2 => omega
          case d3 => rw [World.size_alloc]; omega
          case e4 => rw [List.length_singleton]; omega
          case e5 => rw [World.size_alloc]; have := hb6.size; omega
          have hown2 : OwnS (w1.alloc (.cells #[.int .i64 x] 3)) w.heap.size (.slice (some ⟨w1.heap.size, 0, none⟩) 1 1) [x] := OwnS.one w1 hb6.size x
          have hv1 : OwnS w1 w.heap.size v' (sds xs k ++ [posIn st x]) := hp.own
          have e1 : sds xs (k + 1) = sds xs k ++ [posIn st x] := by rw [sds_succ, sd, Hst.out, ← Hxk.out]; rfl
          have e2 : stk (xs.take (k + 1)) = x :: others st x := by rw [take_snoc (by rw [hx.1]; exact hlt), stk_snoc, Hst.out, ← Hxk.out]; rfl
          have hd9 : Dis v' (.slice (some ⟨w1.heap.size, 0, none⟩) 1 1) := Dis.new hv1 1 1
          refine ⟨⟨k + 1, by omega, rfl, by rw [e1]; exact (hv1.alloc _).kept hp2.grown hd9, by rw [e2]; exact hp2.own, hp2.dis hd9 (fun q hq => by have := (hv1.lt q hq).2; rw [World.size_alloc]; omega), hp2.below hown2 (hb6.alloc hb6.size _) (Nat.le_refl _) (by rw [World.size_alloc]; have := hb6.size; omega)⟩, by simp [intOf]; omega⟩
    · have : k = n := by omega
      subst this
      go_wp2
      go_ret
      exact ⟨⟨_, rfl, ho⟩, hb⟩
end Go.Proofs.Ytnjbfeejpnfdgaa
