/- impl.BestMisses; condition: what the slice holds. -/
import Derived.Test.YtnjbfeejpnfdgabBestS
namespace Go.Proofs.Ytnjbfeejpnfdgab
open Go.RowKit

/-- What the search holds behind k of the numbers, none of which is unused later: the first of the greatest, and how great. -/
def latestOf (f : Nat → Int) (k : Nat) : Int := if k = 0 then -1 else f (bestOf f k)
theorem bestOf_succ (f : Nat → Int) (k : Nat) (hf : ∀ j, 0 ≤ f j) : bestOf f (k + 1) = if f k > latestOf f k then k else bestOf f k := by
  rw [bestOf, latestOf]
  by_cases h : k = 0
  · subst h
    have := hf 0
    simp only [if_true]
    rw [if_pos (by omega)]
  · rw [if_neg h, if_neg h]
theorem latestOf_succ (f : Nat → Int) (k : Nat) (hf : ∀ j, 0 ≤ f j) : latestOf f (k + 1) = if f k > latestOf f k then f k else latestOf f k := by
  have h1 : latestOf f (k + 1) = f (bestOf f (k + 1)) := by rw [latestOf, if_neg (by omega)]
  rw [h1, bestOf_succ f k hf]
  by_cases h : f k > latestOf f k
  · rw [if_pos h, if_pos h]
  · rw [if_neg h, if_neg h]
    by_cases hk : k = 0
    · subst hk
      have := hf 0
      rw [latestOf, if_pos rfl] at h
      omega
    · rw [latestOf, if_neg hk]

/-- A slice expression [k:], as the walk shows it. -/
theorem Sl.dropIf {P : Nat → Prop} {w : World} {b off n c : Nat} {xs : List Int} (h : Sl Sh.int P w (.slice (some ⟨b, off, none⟩) n c) xs) (k : Nat) (hk : k ≤ n) :
    Sl Sh.int P w (.slice (if c = k then some ⟨b, off, none⟩ else some ⟨b, off + k, none⟩) (n - k) (c - k)) (xs.drop k) := by
  have hc := h.le.1
  by_cases e : c = k
  · rw [if_pos e]
    have e1 : n - k = 0 := by omega
    have e2 : xs.drop k = [] := List.drop_of_length_le (by rw [h.len]; omega)
    rw [e1, e2]
    exact Sl.empty _ _ _ _ _
  · rw [if_neg e]
    have := h.drop k hk
    simpa [Sh.int] using this

set_option maxHeartbeats 3200000 in
set_option maxRecDepth 100000 in
theorem implBest_yes (a : Option Addr) (n c : Nat) (size : Int) (xs : List Int) (w : World) (hx : Sl Sh.int (fun _ => True) w (.slice a n c) xs) (hf : fitsB n size = true) :
    Calls Try.prog 6 #[.slice a n c, .int .i64 size] w fun e w' => e = .returned (.int .i64 (bm xs size n).2) ∧ Below w.heap.size w w' := by
  obtain ⟨h6, hs0, hs40⟩ := of_decide_eq_true hf
  have hxl := hid hx.len
  have hxc := hx.le
  go_enter Try.func6, Try.ntmps6
  go_wp2_with (go_at_call 11; refine (isCache_any _ _ _ _ _).mono ?_; rintro e w' ⟨rfl, rfl⟩)
  go_loopw [5, 6, 20] (fun q vh i wr => ∃ k : Nat, k ≤ n ∧ i = .int .i64 k ∧ q = .int .i64 (bm xs size k).2 ∧ OwnI w.heap.size wr vh (bm xs size k).1 ∧ Below w.heap.size w wr) (fun _ _ i _ => n - (intOf i).toNat)
  case atStart => exact ⟨0, Nat.zero_le _, rfl, rfl, OwnI.nil _ _, Below.refl _ _⟩
  case round =>
    obtain ⟨k, hk, rfl, rfl, ho, hb⟩ := hrel
    obtain ⟨wo, rfl⟩ : ∃ wo : World, wo = wr := ⟨_, rfl⟩
    have hbd := bm_bd xs size k
    have hstep : bm xs size (k + 1) = bmStep xs size (bm xs size k) k := rfl
    by_cases hlt : k < n
    · have hxw := hx.below hb
      obtain ⟨ba, oa, ha, _, _, hca⟩ := hxw.intAt (by omega)
      subst ha
      have h2 := hca k hlt
      generalize hxk : xs.getD k 0 = x at h2
      rw [bmStep, hxk] at hstep
      generalize bm xs size k = st at ho hbd hstep
      obtain ⟨h, m⟩ := st
      simp only at ho hbd hstep
      have Hxk := hid hxk
      clear hca hxk
      obtain ⟨ah, ch, rfl, hhc⟩ := ho.shape
      have hs := ho.slAny (by omega)
      have hbs := hb.size
      by_cases hm : x ∈ h
      · have hmb : decide (x ∈ h) = true := by simpa using hm
        rw [if_pos hm] at hstep
        have Hst := hid hstep
        have Hmb := hid hmb
        clear hstep hmb hm
        go_wp2_with (go_at_call 12; refine (contains_any _ _ _ _ x h _ hs).mono ?_; rintro e w' ⟨rfl, rfl⟩; rw [Hmb.out])
        exact ⟨⟨k + 1, by omega, rfl, by rw [Hst.out], by rw [Hst.out]; exact ho, hb⟩, by simp [intOf]; omega⟩
      · have hmb : decide (x ∈ h) = false := by simpa using hm
        rw [if_neg hm] at hstep
        have Hmb := hid hmb
        clear hmb hm
        by_cases hle : (h.length : Int) + 1 ≤ size
        · rw [if_pos hle] at hstep
          have Hst := hid hstep
          have hL := hid (show (h ++ [x]).length = h.length + 1 by rw [List.length_append, List.length_singleton])
          have hdec : decide ((h.length : Int) + 1 ≤ size) = true := decide_eq_true hle
          clear hstep
          go_wp2_with (first
            | (go_at_call 12; refine (contains_any _ _ _ _ x h _ hs).mono ?_; rintro e w' ⟨rfl, rfl⟩; rw [Hmb.out])
            | (at_builtin; go_must (refine wpList_app1I _ rfl _ _ rfl w.heap.size _ h rfl wo x rfl ho rfl ?_ ?c1 ?c2); intro v' w2 o2 g2 b2 _; have hb2 := (hb.alloc hbs _).trans b2; obtain ⟨a2, c2, hv2, hc2⟩ := o2.shape; rw [hL.out] at hv2 hc2; subst hv2))
          case c1 => omega
          case c2 => omega
          exact ⟨⟨k + 1, by omega, rfl, by rw [Hst.out], by rw [Hst.out]; exact o2, hb2⟩, by simp [intOf]; omega⟩
        · rw [if_neg hle] at hstep
          have Hst := hid hstep
          have hL := hid (show (h ++ [x]).length = h.length + 1 by rw [List.length_append, List.length_singleton])
          have hdec : decide ((h.length : Int) + 1 ≤ size) = false := decide_eq_false hle
          clear hstep
          go_wp2_with (first
            | (go_at_call 12; refine (contains_any _ _ _ _ x h _ hs).mono ?_; rintro e w' ⟨rfl, rfl⟩; rw [Hmb.out])
            | (at_builtin; go_must (refine wpList_app1I _ rfl _ _ rfl w.heap.size _ h rfl wo x rfl ho rfl ?_ ?d1 ?d2); intro v' w2 o2 g2 b2 _; have hb2 := (hb.alloc hbs _).trans b2; obtain ⟨a2, c2, hv2, hc2⟩ := o2.shape; rw [hL.out] at hv2 hc2; subst hv2))
          case d1 => omega
          case d2 => omega
          have hs2 := hb2.size
          clear g2 b2
          generalize hh : h ++ [x] = hx2 at o2
          have hlen2 : hx2.length = h.length + 1 := by rw [← hh]; exact hL.out
          have Hh := hid hh
          clear hh
          have hx3 := hx.below hb2
          obtain ⟨gh, oh, rfl, hghB, _⟩ := o2.at (by omega)
          have hs3 := o2.slAny (by omega)
          generalize hN : h.length + 1 = N at hlen2 o2 hs3
          have hN1 : 0 < N := by omega
          have HN := hid hN
          have hN6 : N ≤ 601 := by omega
          have hNc : N ≤ c2 := by omega
          have hcN : (h.length : Int) + 1 = (N : Int) := by omega
          rw [hcN]
          clear hN hcN
          have hdl : bmDrop xs k (h ++ [x]) = bestOf (fun j => nextIn (xs.drop (k + 1)) (hx2.getD j 0)) N := by rw [Hh.out, bmDrop, hlen2]
          rw [hdl, Hh.out] at Hst
          have hfn : ∀ j, 0 ≤ nextIn (xs.drop (k + 1)) (hx2.getD j 0) := fun j => (nextIn_bd _ _).1
          have hft : ∀ j, nextIn (xs.drop (k + 1)) (hx2.getD j 0) ≤ (xs.drop (k + 1)).length := fun j => (nextIn_bd _ _).2
          have hfx : ∀ j, idx (xs.drop (k + 1)) (hx2.getD j 0) = -1 ∧ nextIn (xs.drop (k + 1)) (hx2.getD j 0) = (xs.drop (k + 1)).length ∨ 0 ≤ idx (xs.drop (k + 1)) (hx2.getD j 0) ∧ idx (xs.drop (k + 1)) (hx2.getD j 0) < (xs.drop (k + 1)).length ∧ nextIn (xs.drop (k + 1)) (hx2.getD j 0) = idx (xs.drop (k + 1)) (hx2.getD j 0) := by
            intro j
            rcases idx_bd (xs.drop (k + 1)) (hx2.getD j 0) with ⟨h, _⟩ | h
            · exact .inl ⟨h, by rw [nextIn, if_pos (by omega)]⟩
            · exact .inr ⟨h.1, h.2, by rw [nextIn, if_neg (by omega)]⟩
          have Hfx := hid hfx; have Hfn := hid hfn; have Hft := hid hft
          clear hdl hfn hft hfx
          go_loopw [9, 10, 40] (fun vd vl vj wi => ∃ j : Nat, j ≤ N ∧ vj = .int .i64 j ∧ vd = .int .i64 (bestOf (fun j => nextIn (xs.drop (k + 1)) (hx2.getD j 0)) j : Nat) ∧ vl = .int .i64 (latestOf (fun j => nextIn (xs.drop (k + 1)) (hx2.getD j 0)) j) ∧ Hid (∀ i, i < j → nextIn (xs.drop (k + 1)) (hx2.getD i 0) < (xs.drop (k + 1)).length) ∧ w2 = wi) (fun _ _ vj _ => N - (intOf vj).toNat)
          case atStart => exact ⟨0, by omega, rfl, rfl, rfl, hid (fun i hi => by omega), rfl⟩
          case round =>
            obtain ⟨j, hjN, rfl, rfl, rfl, Hlt, rfl⟩ := hrel
            by_cases hltj : j < N
            · obtain ⟨g3, o3, e3, _, _, hc3⟩ := hs3.intAt hN1
              cases e3
              have q1 := hc3 j hltj
              have hx4 := Hfx.out j
              have h0 := Hft.out j
              have hsu := bestOf_succ (fun j => nextIn (xs.drop (k + 1)) (hx2.getD j 0)) j Hfn.out
              have hsl := latestOf_succ (fun j => nextIn (xs.drop (k + 1)) (hx2.getD j 0)) j Hfn.out
              have hlp : -1 ≤ latestOf (fun j => nextIn (xs.drop (k + 1)) (hx2.getD j 0)) j := by
                rw [latestOf]
                split
                · omega
                · have := Hfn.out (bestOf (fun j => nextIn (xs.drop (k + 1)) (hx2.getD j 0)) j); omega
              generalize hy : hx2.getD j 0 = y at q1 hx4 h0 hsu hsl
              have Hy := hid hy
              clear hy hc3
              have hx5 := hx3.dropIf (k + 1) (by omega)
              have hk1 : (k : Int) + 1 ≤ (n : Int) := by omega
              have hk2 : (0 : Int) ≤ (k : Int) + 1 := by omega
              rcases hx4 with ⟨hi, hnx⟩ | ⟨hi0, hi1, hnx⟩
              · have htop : bestOf (fun j => nextIn (xs.drop (k + 1)) (hx2.getD j 0)) N = j := bestOf_top _ N j hltj
                  (fun i _ => by have := Hft.out i; rw [Hy.out, hnx]; exact this) (fun i hij => by have := Hlt.out i hij; rw [Hy.out, hnx]; exact this)
                rw [htop] at Hst
                have Hi := hid hi
                clear hi hnx htop hsu hsl hlp h0
                go_wp2_with (first
                  | (go_at_call 13; refine (index_any _ _ _ _ y (xs.drop (k + 1)) _ hx5).mono ?_; rintro e w' ⟨rfl, rfl⟩; rw [Hi.out])
                  | (go_at_call 14; refine (delete_own w.heap.size gh oh N c2 j hx2 _ o2 hltj (by omega)).mono ?_; rintro e w8 ⟨rfl, o8, g8⟩; have b8 := hb2.grown g8 hs2 (fun q hq => by cases hq; exact hghB)))
                exact ⟨⟨k + 1, by omega, rfl, by rw [Hst.out], by rw [Hst.out]; exact o8, b8⟩, by simp [intOf]; omega⟩
              · rw [hnx] at hsu hsl
                have hlt2 : Hid (∀ i, i < j + 1 → nextIn (xs.drop (k + 1)) (hx2.getD i 0) < (xs.drop (k + 1)).length) := hid (fun i hij => by
                  by_cases hij2 : i = j
                  · rw [hij2, Hy.out, hnx]; exact hi1
                  · exact Hlt.out i (by omega))
                generalize hF : idx (xs.drop (k + 1)) y = f at hi0 hi1 hsu hsl
                have HF := hid hF
                have hf0 : decide (f < 0) = false := decide_eq_false (by omega)
                clear hF hlp h0 hnx
                generalize bestOf (fun j => nextIn (xs.drop (k + 1)) (hx2.getD j 0)) j = d at hsu
                generalize latestOf (fun j => nextIn (xs.drop (k + 1)) (hx2.getD j 0)) j = l at hsu hsl
                cases hgt : decide (l < f)
                · have hng : ¬ f > l := of_decide_eq_false hgt
                  rw [if_neg hng] at hsu hsl
                  have Hsu := hid hsu; have Hsl := hid hsl
                  clear hsu hsl hng
                  go_wp2_with (go_at_call 13; refine (index_any _ _ _ _ y (xs.drop (k + 1)) _ hx5).mono ?_; rintro e w' ⟨rfl, rfl⟩; rw [HF.out])
                  exact ⟨⟨j + 1, by omega, rfl, by rw [Hsu.out], by rw [Hsl.out], hlt2, trivial⟩, by simp [intOf]; omega⟩
                · have hng : f > l := of_decide_eq_true hgt
                  rw [if_pos hng] at hsu hsl
                  have Hsu := hid hsu; have Hsl := hid hsl
                  clear hsu hsl hng
                  go_wp2_with (go_at_call 13; refine (index_any _ _ _ _ y (xs.drop (k + 1)) _ hx5).mono ?_; rintro e w' ⟨rfl, rfl⟩; rw [HF.out])
                  exact ⟨⟨j + 1, by omega, rfl, by rw [Hsu.out], by rw [Hsl.out], hlt2, trivial⟩, by simp [intOf]; omega⟩
            · have hje : j = N := by omega
              subst hje
              have hblt := bestOf_lt (fun j => nextIn (xs.drop (k + 1)) (hx2.getD j 0)) j (by omega)
              generalize bestOf (fun j => nextIn (xs.drop (k + 1)) (hx2.getD j 0)) j = d at Hst hblt
              go_wp2_with (go_at_call 14; refine (delete_own w.heap.size gh oh j c2 d hx2 _ o2 hblt (by omega)).mono ?_; rintro e w8 ⟨rfl, o8, g8⟩; have b8 := hb2.grown g8 hs2 (fun q hq => by cases hq; exact hghB))
              exact ⟨⟨k + 1, by omega, rfl, by rw [Hst.out], by rw [Hst.out]; exact o8, b8⟩, by simp [intOf]; omega⟩
    · have hke : k = n := by omega
      subst hke
      go_wp2
      go_ret
      exact ⟨rfl, hb⟩

theorem implBest_any (a : Option Addr) (n c : Nat) (size : Int) (xs : List Int) (w : World) (hx : Sl Sh.int (fun _ => True) w (.slice a n c) xs) :
    Calls Try.prog 6 #[.slice a n c, .int .i64 size] w fun e w' => e = .returned (.int .i64 (bmOf xs size)) ∧ Below w.heap.size w w' := by
  unfold bmOf
  rw [hx.len]
  cases hf : fitsB n size
  · rw [if_neg (by simp)]
    go_enter Try.func6, Try.ntmps6
    go_wp2_with (go_at_call 11; refine (isCache_any _ _ _ _ _).mono ?_; rintro e w' ⟨rfl, rfl⟩)
    go_ret
    exact ⟨rfl, Below.refl _ _⟩
  · rw [if_pos rfl]
    exact implBest_yes a n c size xs w hx hf
end Go.Proofs.Ytnjbfeejpnfdgab
