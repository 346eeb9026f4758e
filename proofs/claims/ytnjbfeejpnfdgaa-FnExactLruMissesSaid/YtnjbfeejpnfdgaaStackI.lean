/- impl.StackDistances returns the list of the stack distances; condition: what the slice holds. -/
import Derived.Test.YtnjbfeejpnfdgaaStackS
import Derived.Test.YtnjbfeejpnfdgaaDistI
namespace Go.Proofs.Ytnjbfeejpnfdgaa
open Go.RowKit Go.Maps

/-- The numbers at k - 1, k - 2, .., p. -/
def vis (xs : List Int) (k p : Nat) : List Int := ((xs.take k).drop p).reverse
theorem vis_self (xs : List Int) (k : Nat) : vis xs k k = [] := by
  unfold vis
  rw [List.drop_of_length_le (List.length_take_le _ _)]; rfl
theorem vis_pred {xs : List Int} {k p : Nat} (hp : p < k) (hk : k ≤ xs.length) : vis xs k p = vis xs k (p + 1) ++ [xs.getD p 0] := by
  unfold vis
  have hl : p < (xs.take k).length := by rw [List.length_take]; omega
  rw [List.drop_eq_getElem_cons hl, List.reverse_cons, List.getElem_take, List.getD, List.getElem?_eq_getElem (by omega)]; rfl
theorem vis_length {xs : List Int} {k p : Nat} (hk : k ≤ xs.length) : (vis xs k p).length = k - p := by
  unfold vis
  rw [List.length_reverse, List.length_drop, List.length_take]; omega
theorem sd_hit {xs : List Int} {k p : Nat} (hp : p < k) (hk : k < xs.length) (he : xs.getD p 0 = xs.getD k 0) (hn : xs.getD k 0 ∉ vis xs k (p + 1)) : sd xs k = (uniq (vis xs k (p + 1))).length := by
  have hl : p < (xs.take k).length := by rw [List.length_take]; omega
  have e : xs.take k = xs.take p ++ xs.getD k 0 :: (xs.take k).drop (p + 1) := by
    rw [← he]
    conv => lhs; rw [← List.take_append_drop p (xs.take k), List.take_take, Nat.min_eq_left (by omega), List.drop_eq_getElem_cons hl, List.getElem_take]
    rw [List.getD, List.getElem?_eq_getElem (by omega)]; rfl
  unfold sd
  rw [e]
  exact sd_old (ys := xs.take p) (zs := (xs.take k).drop (p + 1)) (fun h => hn (List.mem_reverse.2 h))
theorem sd_new {xs : List Int} {k : Nat} (hn : xs.getD k 0 ∉ vis xs k 0) : sd xs k = -1 :=
  sd_fresh (fun h => hn (by unfold vis; rw [List.drop_zero]; exact List.mem_reverse.2 h))

set_option maxHeartbeats 800000 in
theorem implStack_small (a : Option Addr) (n c : Nat) (xs : List Int) (w : World) (hx : IntsA w a n c xs) (h6 : n ≤ 600) (hwf : ∀ x ∈ xs, (Lit.int .i64 x).wf = true) :
    Calls Try.prog 14 #[.slice a n c] w fun e w' => (∃ v, e = .returned v ∧ OwnS w' w.heap.size v (sds xs n)) ∧ Below w.heap.size w w' := by
  have h1 : decide (n ≤ 600) = true := by simp; omega
  have hmm := @run_makeMap Try.prog
  go_enter Try.func14, Try.ntmps14
  go_wp2_with (go_at_call 31; refine (isTrace_any a n c _).mono ?_; rintro e w' ⟨rfl, rfl⟩)
  go_loopw [3, 14] (fun vo i wr => ∃ k : Nat, k ≤ n ∧ i = .int .i64 k ∧ OwnS wr w.heap.size vo (sds xs k) ∧ Below w.heap.size w wr) (fun _ i _ => n - (intOf i).toNat)
  case atStart => exact ⟨0, Nat.zero_le _, rfl, OwnS.nil _ _, Below.refl _ _⟩
  case round =>
    obtain ⟨k, hk, rfl, ho, hb⟩ := hrel
    obtain ⟨wo, rfl⟩ : ∃ wo : World, wo = wr := ⟨_, rfl⟩
    by_cases hlt : k < n
    · obtain ⟨ba, oa, ha, hlb, hca⟩ := hx.at (by omega)
      have Hca := hid hca; clear hca
      have h2 : wo.cell? ⟨ba, oa + k, none⟩ = _ := (hb.cell hlb).trans (Hca.out k hlt)
      generalize hxk : xs.getD k 0 = x at h2
      have Hxk := hid hxk; clear hxk
      subst ha
      have hbs := hb.size
      go_wp2_with fail
      clear hmm
      go_loopw [7] (fun q wi => ∃ p : Nat, p ≤ k ∧ q = .int .i64 ((p : Int) - 1) ∧ Hid (x ∉ vis xs k p) ∧ wi.ownsMap Try.prog 3 (plainElem Try.prog 4) wo.heap.size (k - p) (setI (vis xs k p)) ∧ Below wo.heap.size wo wi) (fun q _ => ((intOf q) + 1).toNat)
      case atStart => exact ⟨k, Nat.le_refl _, rfl, hid (by rw [vis_self]; simp), by rw [vis_self, setI_nil, Nat.sub_self]; exact World.ownsMap_made _ _ _ _, (Below.refl _ _).alloc (Nat.le_refl _) _⟩
      case round =>
        obtain ⟨p, hp, rfl, hnv, hown, hb2⟩ := hrel
        have hb3 := hb.trans (hb2.mono hbs)
        have ho2 := ho.below' hb2
        have hbs3 := hb3.size
        have hsl := sds_length xs k
        cases p with
        | zero =>
          have hsd : sd xs k = -1 := sd_new (by rw [Hxk.out]; exact hnv.out)
          have Hsd := hid hsd; clear hsd
          have e0 : ((0 : Nat) : Int) - 1 = -1 := rfl
          rw [e0]
          go_wp2_with (first
            | (at_len; refine wpList_len_own _ rfl _ 36 rfl 3 4 Try.underlying36 _ wo.heap.size (k - 0) _ rfl hown ?_)
            | (at_builtin; go_must (refine wpList_app1 _ rfl _ _ rfl w.heap.size _ _ rfl (ho2.alloc _) wr.heap.size (-1) rfl ?_ ?c1 ?c2 ?c3); intro v' w1 hp1))
          case c1 => exact cell_new wr _ _
          case c2 => omega
          case c3 => rw [World.size_alloc]; show w.heap.size ≤ wr.heap.size + 1; omega
          have hr1 : OwnS (wr.alloc (.cells #[.int .i64 (-1)] 3)) w.heap.size _ _ := OwnS.alloc ho2 _
          refine ⟨⟨k + 1, by omega, rfl, by rw [sds_succ, Hsd.out]; exact hp1.own, hp1.below hr1 (hb3.alloc hbs3 _) (Nat.le_refl _) (by rw [World.size_alloc]; show w.heap.size ≤ wr.heap.size + 1; omega)⟩, by simp [intOf]; omega⟩
        | succ p =>
          have e0 : ((p + 1 : Nat) : Int) - 1 = (p : Int) := by omega
          rw [e0]
          have h3 : wr.cell? ⟨ba, oa + p, none⟩ = _ := (hb3.cell hlb).trans (Hca.out p (by omega))
          generalize hxp : xs.getD p 0 = y at h3
          have Hxp := hid hxp; clear hxp
          cases he : (y != x)
          · have hyx : y = x := by simpa using he
            have hsd : sd xs k = (uniq (vis xs k (p + 1))).length := sd_hit (by omega) (by rw [hx.1]; exact hlt) (by rw [Hxp.out, Hxk.out, hyx]) (by rw [Hxk.out]; exact hnv.out)
            have Hsd := hid hsd; clear hsd hyx
            have hsz := size_setI (vis xs k (p + 1))
            generalize hM : setI (vis xs k (p + 1)) = M at hown hsz
            have HM := hid hM; clear hM
            generalize hU : (uniq (vis xs k (p + 1))).length = U at hsz
            have HU := hid hU; clear hU
            go_wp2_with (first
              | (at_len; refine wpList_len_own _ rfl _ 36 rfl 3 4 Try.underlying36 _ wo.heap.size (k - (p + 1)) _ rfl hown ?_)
              | (at_builtin; go_must (refine wpList_app1 _ rfl _ _ rfl w.heap.size _ _ rfl (ho2.alloc _) wr.heap.size (U : Int) rfl ?_ ?e1 ?e2 ?e3); intro v' w1 hp1))
            case e1 => exact cell_new wr _ _
            case e2 => omega
            case e3 => rw [World.size_alloc]; show w.heap.size ≤ wr.heap.size + 1; omega
            have hr1 : OwnS (wr.alloc (.cells #[.int .i64 (U : Int)] 3)) w.heap.size _ _ := OwnS.alloc ho2 _
            refine ⟨⟨k + 1, by omega, rfl, by rw [sds_succ, Hsd.out, HU.out]; exact hp1.own, hp1.below hr1 (hb3.alloc hbs3 _) (Nat.le_refl _) (by rw [World.size_alloc]; show w.heap.size ≤ wr.heap.size + 1; omega)⟩, by simp [intOf]; omega⟩
          · have hyx : y ≠ x := by simpa using he
            have hnv2 : x ∉ vis xs k p := by
              rw [vis_pred (by omega) (by rw [hx.1]; omega), Hxp.out, List.mem_append, List.mem_singleton]
              exact fun h => h.elim hnv.out (fun e => hyx e.symm)
            have Hnv2 := hid hnv2; clear hnv2 hyx
            have hkey : keyOf Try.prog 3 (.int .i64 y) = some (.int .i64 y) := keyOf_int_mk Try.underlying3 (hwf _ (by rw [← Hxp.out, List.getD, List.getElem?_eq_getElem (by rw [hx.1]; omega)]; exact List.getElem_mem _))
            have hset : setI (vis xs k p) = (setI (vis xs k (p + 1))).put (.int .i64 y) (.lit (.bool true)) := by
              rw [vis_pred (by omega) (by rw [hx.1]; omega), Hxp.out, setI_snoc]
            have Hset := hid hset; clear hset
            go_wp2_with (at_mapUpdate; refine wpList_mapUpdate_own _ rfl _ _ _ 36 rfl 3 4 Try.lawInt Try.underlying36 (plainElem (H := Unit) Try.prog 4) wo.heap.size (k - (p + 1)) _ rfl hown (by unfold maxLen; omega) _ _ _ rfl rfl hkey _ [] (plainElem_bool Try.underlying4 true) ?_; intro w1 hown1 hgrow1)
            exact ⟨⟨p, by omega, rfl, Hnv2, by rw [Hset.out, show k - p = k - (p + 1) + 1 by omega]; exact hown1, hb2.grown hgrow1 hb2.size (fun j hj => by cases hj; exact Nat.le_refl _)⟩, by simp [intOf]⟩
    · have : k = n := by omega
      subst this
      go_wp2
      go_ret
      exact ⟨⟨_, rfl, ho⟩, hb⟩

theorem OwnS.shape2 {w : World} {B : Nat} {v : Value} {xs : List Int} (h : OwnS w B v xs) : ∃ a cap, v = .slice a xs.length cap := by
  rcases h.2 with ⟨rfl, h0⟩ | ⟨g, cap, cur, rfl, _⟩
  · exact ⟨none, 0, by rw [h0]⟩
  · exact ⟨_, cap, rfl⟩
/-- The stack distances of a list that is short enough. -/
def dists (xs : List Int) : List Int := if xs.length ≤ 600 then sds xs xs.length else []
theorem dists_length (xs : List Int) : (dists xs).length ≤ 600 := by
  unfold dists
  split
  · rw [sds_length]; omega
  · simp

set_option maxHeartbeats 400000 in
theorem implStack_any (a : Option Addr) (n c : Nat) (xs : List Int) (w : World) (hx : IntsA w a n c xs) (hwf : ∀ x ∈ xs, (Lit.int .i64 x).wf = true) :
    Calls Try.prog 14 #[.slice a n c] w fun e w' => (∃ v, e = .returned v ∧ OwnS w' w.heap.size v (dists xs)) ∧ Below w.heap.size w w' := by
  unfold dists
  rw [hx.1]
  by_cases h : n ≤ 600
  · rw [if_pos h]; exact implStack_small a n c xs w hx h hwf
  · rw [if_neg h]
    have h1 : decide (n ≤ 600) = false := by simp; omega
    go_enter Try.func14, Try.ntmps14
    go_wp2_with (go_at_call 31; refine (isTrace_any a n c _).mono ?_; rintro e w' ⟨rfl, rfl⟩)
    go_ret
    exact ⟨⟨_, rfl, OwnS.nil _ _⟩, Below.refl _ _⟩
set_option maxHeartbeats 400000 in
theorem specStack_any (a : Option Addr) (n c : Nat) (xs : List Int) (w : World) (hx : IntsA w a n c xs) :
    Calls Try.prog 13 #[.slice a n c] w fun e w' => (∃ v, e = .returned v ∧ OwnS w' w.heap.size v (dists xs)) ∧ Below w.heap.size w w' := by
  unfold dists
  rw [hx.1]
  by_cases h : n ≤ 600
  · rw [if_pos h]; exact specStack_small a n c xs w hx h
  · rw [if_neg h]
    have h1 : decide ((600 : Int) < (n : Int)) = true := by simp; omega
    go_enter Try.func13, Try.ntmps13
    go_wp2
    go_ret
    exact ⟨⟨_, rfl, OwnS.empty w (Nat.le_refl _)⟩, (Below.refl _ _).alloc (Nat.le_refl _) _⟩
end Go.Proofs.Ytnjbfeejpnfdgaa
