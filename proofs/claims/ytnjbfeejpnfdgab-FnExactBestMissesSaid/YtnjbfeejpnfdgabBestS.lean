/- spec.BestMisses; condition: what the slice holds. -/
import Derived.Test.YtnjbfeejpnfdgabBest
import Derived.IntWalk
namespace Go.Proofs.Ytnjbfeejpnfdgab
open Go.RowKit

def bmOf (xs : List Int) (size : Int) : Int := if fitsB xs.length size then (bm xs size xs.length).2 else -1
theorem OwnI.slAny {B : Nat} {w : World} {v : Value} {xs : List Int} (h : OwnI B w v xs) (hn : xs.length ≤ 17592186044416) : Sl Sh.int (fun _ => True) w v xs := (h.sl hn).any
/-- A slice expression [k:], as the walk shows it. -/
theorem OwnI.dropSl {B n c k : Nat} {a : Option Addr} {w : World} {xs : List Int} (h : OwnI B w (.slice a n c) xs) (hn : n ≤ 17592186044416) (h0 : 0 < n) (hk : k ≤ n) :
    Sl Sh.int (fun b => (Value.slice a n c).ownBlock = some b) w (.slice (if c = k then a else Option.map (fun x => { block := x.block, off := x.off + k }) a) (n - k) (c - k)) (xs.drop k) := by
  obtain ⟨g, off, rfl, _, _, hnc, _⟩ := h.at h0
  have hs := h.sl (by rw [h.len]; exact hn)
  by_cases hc : c = k
  · rw [if_pos hc]
    have e1 : n - k = 0 := by omega
    have e2 : xs.drop k = [] := List.drop_of_length_le (by rw [h.len]; omega)
    rw [e1, e2]
    exact Sl.empty _ _ _ _ _
  · rw [if_neg hc]
    have := hs.drop k hk
    simpa [Sh.int] using this

set_option maxHeartbeats 3200000 in
set_option maxRecDepth 100000 in
theorem specBest_yes (a : Option Addr) (n c : Nat) (size : Int) (xs : List Int) (w : World) (hx : Sl Sh.int (fun _ => True) w (.slice a n c) xs) (hf : fitsB n size = true) :
    Calls Try.prog 4 #[.slice a n c, .int .i64 size] w fun e w' => e = .returned (.int .i64 (bm xs size n).2) ∧ Below w.heap.size w w' := by
  obtain ⟨h6, hs0, hs40⟩ := of_decide_eq_true hf
  have hxl := hid hx.len
  go_enter Try.func4, Try.ntmps4
  go_wp2_with (go_at_call 8; refine (l10Fits_any _ _ _ _ _).mono ?_; rintro e w' ⟨rfl, rfl⟩)
  go_loopw [5, 6, 7] (fun q vh i wr => ∃ k : Nat, k ≤ n ∧ i = .int .i64 k ∧ q = .int .i64 (bm xs size k).2 ∧ OwnI w.heap.size wr vh (bm xs size k).1 ∧ Below w.heap.size w wr) (fun _ _ i _ => n - (intOf i).toNat)
  case atStart => exact ⟨0, Nat.zero_le _, rfl, rfl, OwnI.empty w (Nat.le_refl _), (Below.refl _ _).alloc (Nat.le_refl _) _⟩
  case round =>
    obtain ⟨k, hk, rfl, rfl, ho, hb⟩ := hrel
    obtain ⟨wo, rfl⟩ : ∃ wo : World, wo = wr := ⟨_, rfl⟩
    have hbd := bm_bd xs size k
    have hstep : bm xs size (k + 1) = bmStep xs size (bm xs size k) k := rfl
    by_cases hlt : k < n
    · have hxw := hx.below hb
      obtain ⟨ba, oa, ha, _, _, hca⟩ := hxw.intAt (by omega)
      subst ha
      have h2 := hca k hlt
      generalize hxk : xs.getD k 0 = x at h2
      rw [bmStep, hxk] at hstep
      generalize bm xs size k = st at ho hbd hstep
      obtain ⟨h, m⟩ := st
      simp only at ho hbd hstep
      have Hxk := hid hxk
      clear hca hxk
      obtain ⟨ah, ch, rfl, hhc⟩ := ho.shape
      have hs := ho.slAny (by omega)
      have hI := sl_ints hs
      have hbs := hb.size
      by_cases hm : x ∈ h
      · have hmb : h.contains x = true := by simpa using hm
        rw [if_pos hm] at hstep
        have Hst := hid hstep
        clear hstep
        go_wp2_with (go_at_call 9; refine (l6Has_any _ _ _ x h _ hI).mono ?_; rintro e w' ⟨rfl, rfl⟩; rw [hmb])
        exact ⟨⟨k + 1, by omega, rfl, by rw [Hst.out], by rw [Hst.out]; exact ho, hb⟩, by simp [intOf]; omega⟩
      · have hmb : h.contains x = false := by simpa using hm
        rw [if_neg hm] at hstep
        by_cases hle : (h.length : Int) + 1 ≤ size
        · rw [if_pos hle] at hstep
          have Hst := hid hstep
          have hL := hid (show (h ++ [x]).length = h.length + 1 by rw [List.length_append, List.length_singleton])
          have hdec : decide ((h.length : Int) + 1 ≤ size) = true := decide_eq_true hle
          clear hstep
          go_wp2_with (first
            | (go_at_call 9; refine (l6Has_any _ _ _ x h _ hI).mono ?_; rintro e w' ⟨rfl, rfl⟩; rw [hmb])
            | (at_builtin; go_must (refine wpList_app1I _ rfl _ _ rfl w.heap.size _ h rfl wo x rfl ho rfl ?_ ?c1 ?c2); intro v' w2 o2 g2 b2 _; have hb2 := (hb.alloc hbs _).trans b2; obtain ⟨a2, c2, hv2, hc2⟩ := o2.shape; rw [hL.out] at hv2 hc2; subst hv2))
          case c1 => omega
          case c2 => omega
          exact ⟨⟨k + 1, by omega, rfl, by rw [Hst.out], by rw [Hst.out]; exact o2, hb2⟩, by simp [intOf]; omega⟩
        · rw [if_neg hle] at hstep
          have Hst := hid hstep
          have hL := hid (show (h ++ [x]).length = h.length + 1 by rw [List.length_append, List.length_singleton])
          have hdec : decide ((h.length : Int) + 1 ≤ size) = false := decide_eq_false hle
          clear hstep
          go_wp2_with (first
            | (go_at_call 9; refine (l6Has_any _ _ _ x h _ hI).mono ?_; rintro e w' ⟨rfl, rfl⟩; rw [hmb])
            | (at_builtin; go_must (refine wpList_app1I _ rfl _ _ rfl w.heap.size _ h rfl wo x rfl ho rfl ?_ ?d1 ?d2); intro v' w2 o2 g2 b2 _; have hb2 := (hb.alloc hbs _).trans b2; obtain ⟨a2, c2, hv2, hc2⟩ := o2.shape; rw [hL.out] at hv2 hc2; subst hv2))
          case d1 => omega
          case d2 => omega
          have hs2 := hb2.size
          clear g2 b2
          generalize hh : h ++ [x] = hx2 at o2
          have hlen2 : hx2.length = h.length + 1 := by rw [← hh]; exact hL.out
          have Hh := hid hh
          clear hh
          have hx3 := hx.below hb2
          have hs3 := o2.slAny (by omega)
          have hHl := hid hlen2
          generalize hN : h.length + 1 = N at hlen2 o2 hs3
          have hN1 : 0 < N := by omega
          have HN := hid hN
          have hN6 : N ≤ 601 := by omega
          have hNc : N ≤ c2 := by omega
          have hcN : (h.length : Int) + 1 = (N : Int) := by omega
          rw [hcN]
          clear hN hcN
          go_loopw [8, 9] (fun vw vk wi => ∃ j : Nat, 1 ≤ j ∧ j ≤ N ∧ vk = .int .i64 j ∧ vw = .int .i64 (bestOf (fun j => nextIn (xs.drop (k + 1)) (hx2.getD j 0)) j : Nat) ∧ Quiet w2 wi) (fun _ vk _ => N - (intOf vk).toNat)
          case atStart => exact ⟨1, Nat.le_refl _, by omega, rfl, rfl, Quiet.refl _⟩
          case round =>
            obtain ⟨j, hj1, hjN, rfl, rfl, hq⟩ := hrel
            have hblt := bestOf_lt (fun j => nextIn (xs.drop (k + 1)) (hx2.getD j 0)) j (by omega)
            have hsucc : bestOf (fun j => nextIn (xs.drop (k + 1)) (hx2.getD j 0)) (j + 1) = if nextIn (xs.drop (k + 1)) (hx2.getD j 0) > nextIn (xs.drop (k + 1)) (hx2.getD (bestOf (fun j => nextIn (xs.drop (k + 1)) (hx2.getD j 0)) j) 0) then j else bestOf (fun j => nextIn (xs.drop (k + 1)) (hx2.getD j 0)) j := by
              rw [bestOf, if_neg (by omega)]
            by_cases hltj : j < N
            · generalize bestOf (fun j => nextIn (xs.drop (k + 1)) (hx2.getD j 0)) j = d at hblt hsucc
              obtain ⟨g3, o3, ha3, _, _, hc3⟩ := (hs3.quiet hq).intAt hN1
              subst ha3
              have q1 := hc3 j hltj
              have q2 := hc3 d (by omega)
              generalize hx2.getD j 0 = y1 at q1 hsucc
              generalize hx2.getD d 0 = y2 at q2 hsucc
              have hn1 := nextIn_bd (xs.drop (k + 1)) y1
              have hn2 := nextIn_bd (xs.drop (k + 1)) y2
              have hx4 := hx3.quiet hq
              have hdl : (xs.drop (k + 1)).length ≤ n := by rw [List.length_drop, hxl.out]; omega
              have Hs := hid hsucc
              clear hc3 hsucc
              go_wp2_with fail
              go_quiet ((go_at_call 10; exact Calls.of_same (l10Next_any _ _ _ _ (k + 1) _ _ xs _ hx4.drewN (by omega) (by omega))))
              generalize nextIn (xs.drop (k + 1)) y1 = f1 at hn1 Hs
              generalize nextIn (xs.drop (k + 1)) y2 = f2 at hn2 Hs
              by_cases hgt : f1 > f2
              · rw [if_pos hgt] at Hs
                go_wp2
                all_goals first
                  | exact ⟨⟨j + 1, by omega, by omega, rfl, by rw [Hs.out], hq.drewN⟩, by simp [intOf]; omega⟩
                  | (exfalso; omega)
              · rw [if_neg hgt] at Hs
                go_wp2
                all_goals first
                  | exact ⟨⟨j + 1, by omega, by omega, rfl, by rw [Hs.out], hq.drewN⟩, by simp [intOf]; omega⟩
                  | (exfalso; omega)
            · have hje : j = N := by omega
              subst hje
              have hdl : bmDrop xs k (h ++ [x]) = bestOf (fun j => nextIn (xs.drop (k + 1)) (hx2.getD j 0)) j := by rw [Hh.out, bmDrop, hlen2]
              rw [hdl, Hh.out] at Hst
              clear hdl hsucc
              generalize bestOf (fun j => nextIn (xs.drop (k + 1)) (hx2.getD j 0)) j = d at hblt Hst
              have o4 := o2.quiet hq
              obtain ⟨gh, oh, rfl, _⟩ := o4.at (by omega)
              have bq := hb2.trans (hq.below _)
              have hsz := bq.size
              have s1 := (o4.sl (by omega)).take d (by omega)
              have s2 := o4.dropSl (k := d + 1) (by omega) (by omega) (by omega)
              simp only [Option.map_some] at s2
              have hown4 := fun g hg => (o4.lt g hg).2
              have hwx : (wr.alloc (.cells #[] 3)).drew.heap.size = wr.heap.size + 1 := World.size_alloc _ _
              have S1 : Hid (Sl _ _ (wr.alloc (.cells #[] 3)).drew _ _) := hid (s1.alloc _).drew
              have S2 : Hid (Sl _ _ (wr.alloc (.cells #[] 3)).drew _ _) := hid (s2.alloc _).drew
              have E0 : Hid (OwnI wr.heap.size (wr.alloc (.cells #[] 3)).drew (.slice (some ⟨wr.heap.size, 0, none⟩) 0 0) []) := hid (OwnI.empty wr (Nat.le_refl _)).drew
              have HO : Hid (∀ b, (Value.slice (some ⟨gh, oh, none⟩) j c2).ownBlock = some b → b < (wr.alloc (.cells #[] 3)).drew.heap.size → (Value.slice (some ⟨wr.heap.size, 0, none⟩) 0 0).ownBlock ≠ some b) := hid (fun b hb _ e => by have h1 := hown4 b hb; have h2 := Option.some.inj e; simp at h2; omega)
              have HO2 : Hid (∀ b, (Value.slice (some ⟨gh, oh, none⟩) j c2).ownBlock = some b → b < wr.heap.size) := hid hown4
              have HWX := hid hwx
              clear hwx
              have hd1 : (d : Int) ≤ (c2 : Int) := by omega
              have hd2 : (d : Int) + 1 ≤ (j : Int) := by omega
              have hd3 : (0 : Int) ≤ (d : Int) + 1 := by omega
              have hd4 : d ≤ c2 := by omega
              have hd5 : d + 1 ≤ c2 := by omega
              have hd6 : d + 1 ≤ j := by omega
              have hwr : IntKind.i64.wrap ((d : Int) + 1) = (d : Int) + 1 := IntWalk.i64_in _ (by omega)
              have hwn : ((d : Int) + 1).toNat = d + 1 := by omega
              clear s1 s2 hown4 hbd hdec
              go_wp2_with fail
              go_region_law (first
                | (refine step_appSI rfl (.tmp 68) (.tmp 72) rfl wr.heap.size v5 _ (by simp [Act.eval, Act.put]) O5.out _ _ _ _ _ (by simp [Act.eval, Act.put]) S6.out H6.out (by first | omega | (simp; done) | (simp; omega)) S5.out ?_; intro v6 w6 o6 g6 b6 _)
                | (refine step_appSI rfl (.tmp 64) (.tmp 67) rfl wr.heap.size (.slice (some ⟨wr.heap.size, 0, none⟩) 0 0) [] (by simp [Act.eval, Act.put]) E0.out _ _ _ _ _ (by simp [Act.eval, Act.put]) S1.out HO.out (by first | omega | (simp; done) | (simp; omega)) (by rw [HWX.out]; exact Nat.le_succ _) ?_; intro v5 w5 o5 g5 b5 q5; have O5 := hid o5; have S6 := hid (S2.out.grown g5 (fun b hb e => HO.out b hb (by rw [HWX.out]; have := HO2.out b hb; omega) e)); have H6 : Hid (∀ b, (Value.slice (some ⟨gh, oh, none⟩) j c2).ownBlock = some b → b < w5.heap.size → v5.ownBlock ≠ some b) := hid (fun b hb _ e => (q5 b e).elim (fun h => HO.out b hb (by rw [HWX.out]; have := HO2.out b hb; omega) h) (fun h => by have := HO2.out b hb; rw [HWX.out] at h; omega)); have S5 : Hid (wr.heap.size ≤ w5.heap.size) := hid (Nat.le_trans (by rw [HWX.out]; exact Nat.le_succ _) g5.size); clear o5 q5))
              all_goals
                have o7 : OwnI wr.heap.size w6 v6 (hx2.eraseIdx d) := by rw [List.eraseIdx_eq_take_drop_succ]; exact o6
                have b7 := (((bq.alloc hsz (.cells #[] 3)).drew).trans (b5.mono hsz)).trans (b6.mono hsz)
                have O7 := hid (o7.base hsz); have B7 := hid b7
                clear o6 o7 b7 g6 b6 g5 b5 S1 S2 E0 HO HO2 HWX O5 S6 H6 S5 hwr hwn
                go_wp2
                exact ⟨⟨k + 1, by omega, rfl, by rw [Hst.out], by rw [Hst.out]; exact O7, B7⟩, by simp [intOf]; omega⟩
    · have hke : k = n := by omega
      subst hke
      go_wp2
      go_ret
      exact ⟨rfl, hb⟩

theorem specBest_any (a : Option Addr) (n c : Nat) (size : Int) (xs : List Int) (w : World) (hx : Sl Sh.int (fun _ => True) w (.slice a n c) xs) :
    Calls Try.prog 4 #[.slice a n c, .int .i64 size] w fun e w' => e = .returned (.int .i64 (bmOf xs size)) ∧ Below w.heap.size w w' := by
  unfold bmOf
  rw [hx.len]
  cases hf : fitsB n size
  · rw [if_neg (by simp)]
    go_enter Try.func4, Try.ntmps4
    go_wp2_with (go_at_call 8; refine (l10Fits_any _ _ _ _ _).mono ?_; rintro e w' ⟨rfl, rfl⟩)
    go_ret
    exact ⟨rfl, Below.refl _ _⟩
  · rw [if_pos rfl]
    exact specBest_yes a n c size xs w hx hf
end Go.Proofs.Ytnjbfeejpnfdgab
