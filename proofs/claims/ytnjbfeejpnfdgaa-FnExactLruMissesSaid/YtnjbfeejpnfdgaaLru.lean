/- spec.LruMisses and impl.LruMisses count the misses of a cache; condition: what the slice holds. -/
import Derived.Test.YtnjbfeejpnfdgaaStackI
import Derived.Test.YtnjbfeejpnfdgaaLruLaw
import Derived.Test.YtnjbfeejpnfdgaaSlInt
namespace Go.Proofs.Ytnjbfeejpnfdgaa
open Go.RowKit

def fitsB (n : Nat) (size : Int) : Bool := decide (n ≤ 600 ∧ 0 ≤ size ∧ size ≤ 40)
def inB (n lo hi : Int) : Bool := decide (lo ≤ n ∧ n ≤ hi)
set_option maxHeartbeats 400000 in
theorem within_any (n lo hi : Int) (w : World) : Calls Try.prog 44 #[.int .i64 n, .int .i64 lo, .int .i64 hi] w fun e w' => e = .returned (.bool (inB n lo hi)) ∧ w = w' := by
  by_cases h1 : lo ≤ n
  · have h1' : decide (lo ≤ n) = true := by simpa using h1
    by_cases h2 : n ≤ hi
    · have h2' : decide (n ≤ hi) = true := by simpa using h2
      have hf : inB n lo hi = true := by simp [inB, h1, h2]
      rw [hf]
      clear hf
      go_enter Try.func44, Try.ntmps44
      go_wp2
      go_ret
      exact ⟨rfl, rfl⟩
    · have h2' : decide (n ≤ hi) = false := by simpa using h2
      have hf : inB n lo hi = false := by simp [inB, h2]
      rw [hf]
      clear hf
      go_enter Try.func44, Try.ntmps44
      go_wp2
      go_ret
      exact ⟨rfl, rfl⟩
  · have h1' : decide (lo ≤ n) = false := by simpa using h1
    have hf : inB n lo hi = false := by simp [inB, h1]
    rw [hf]
    clear hf
    go_enter Try.func44, Try.ntmps44
    go_wp2
    go_ret
    exact ⟨rfl, rfl⟩
set_option maxHeartbeats 400000 in
theorem isCache_any (a : Option Addr) (n c : Nat) (size : Int) (w : World) : Calls Try.prog 36 #[.slice a n c, .int .i64 size] w fun e w' => e = .returned (.bool (fitsB n size)) ∧ w = w' := by
  by_cases h1 : n ≤ 600
  · have h1' : decide (n ≤ 600) = true := by simpa using h1
    have hf : fitsB n size = inB size 0 40 := by simp [fitsB, inB, h1]
    rw [hf]
    clear hf
    go_enter Try.func36, Try.ntmps36
    go_wp2_with (first
      | (go_at_call 31; refine (isTrace_any _ _ _ _).mono ?_; rintro e w' ⟨rfl, rfl⟩)
      | (go_at_call 44; refine (within_any _ _ _ _).mono ?_; rintro e w' ⟨rfl, rfl⟩))
    go_ret
    exact ⟨rfl, rfl⟩
  · have h1' : decide (n ≤ 600) = false := by simpa using h1
    have hf : fitsB n size = false := by simp [fitsB, h1]
    rw [hf]
    clear hf
    go_enter Try.func36, Try.ntmps36
    go_wp2_with (go_at_call 31; refine (isTrace_any _ _ _ _).mono ?_; rintro e w' ⟨rfl, rfl⟩)
    go_ret
    exact ⟨rfl, rfl⟩
set_option maxHeartbeats 400000 in
theorem l10Fits_any (a : Option Addr) (n c : Nat) (size : Int) (w : World) : Calls Try.prog 35 #[.slice a n c, .int .i64 size] w fun e w' => e = .returned (.bool (fitsB n size)) ∧ w = w' := by
  by_cases h1 : n ≤ 600
  · have h1' : decide ((n : Int) ≤ 600) = true := by simp; omega
    by_cases h2 : 0 ≤ size
    · have h2' : decide (0 ≤ size) = true := by simpa using h2
      have hf : fitsB n size = decide (size ≤ 40) := by simp [fitsB, h1, h2]
      rw [hf]
      clear hf
      go_enter Try.func35, Try.ntmps35
      go_wp2
      go_ret
      exact ⟨rfl, rfl⟩
    · have h2' : decide (0 ≤ size) = false := by simpa using h2
      have hf : fitsB n size = false := by simp [fitsB, h2]
      rw [hf]
      clear hf
      go_enter Try.func35, Try.ntmps35
      go_wp2
      go_ret
      exact ⟨rfl, rfl⟩
  · have h1' : decide ((n : Int) ≤ 600) = false := by simp; omega
    have hf : fitsB n size = false := by simp [fitsB, h1]
    rw [hf]
    clear hf
    go_enter Try.func35, Try.ntmps35
    go_wp2
    go_ret
    exact ⟨rfl, rfl⟩

def lruOf (xs : List Int) (size : Int) : Int := if fitsB xs.length size then misses size (dists xs) else -1

set_option maxHeartbeats 800000 in
theorem specLru_yes (a : Option Addr) (n c : Nat) (size : Int) (xs : List Int) (w : World) (hx : IntsA w a n c xs) (hf : fitsB n size = true) :
    Calls Try.prog 24 #[.slice a n c, .int .i64 size] w fun e w' => e = .returned (.int .i64 (misses size (dists xs))) ∧ Below w.heap.size w w' := by
  have hdl := dists_length xs
  go_enter Try.func24, Try.ntmps24
  go_wp2_with (first
    | (go_at_call 35; refine (l10Fits_any _ _ _ _ _).mono ?_; rintro e w' ⟨rfl, rfl⟩)
    | (go_at_call 13; refine (specStack_any _ _ _ xs _ hx).mono ?_; rintro e w' ⟨⟨v, rfl, o⟩, hb⟩; obtain ⟨a1, c1, rfl⟩ := o.shape2))
  have hI := o.intsA (by omega)
  generalize hds : dists xs = ds at hI hdl
  have Hds := hid hds; clear hds
  go_loopw [5, 7] (fun q i wr => ∃ k : Nat, k ≤ ds.length ∧ i = .int .i64 k ∧ q = .int .i64 (misses size (ds.take k)) ∧ Quiet w' wr) (fun _ i _ => ds.length - (intOf i).toNat)
  case atStart => exact ⟨0, Nat.zero_le _, rfl, rfl, Quiet.refl _⟩
  case round =>
    obtain ⟨k, hk, rfl, rfl, hq⟩ := hrel
    have hm := misses_le size (ds.take k)
    have hl : (ds.take k).length ≤ k := List.length_take_le _ _
    by_cases hlt : k < ds.length
    · obtain ⟨ba, oa, ha, _, hca⟩ := (hI.quiet hq).at (by omega)
      subst ha
      have h1 := hca k hlt
      have hs : ds.take (k + 1) = ds.take k ++ [ds.getD k 0] := take_snoc hlt
      generalize ds.getD k 0 = d at h1 hs
      have hms := misses_snoc size (ds.take k) d
      rw [← hs] at hms
      clear hs hca
      cases hd1 : decide (d < 0)
      · cases hd2 : decide (size ≤ d)
        · have hz : isMiss size d = false := by simp only [isMiss, hd1, hd2]; rfl
          rw [hz] at hms
          have Hms := hid hms; clear hms hz
          go_wp2
          exact ⟨⟨k + 1, by omega, rfl, int_i64 (by rw [Hms.out]; rfl), hq⟩, by simp [intOf]; omega⟩
        · have hz : isMiss size d = true := by simp only [isMiss, hd1, hd2]; rfl
          rw [hz] at hms
          have Hms := hid hms; clear hms hz
          go_wp2
          exact ⟨⟨k + 1, by omega, rfl, int_i64 (by rw [Hms.out]; simp), hq⟩, by simp [intOf]; omega⟩
      · have hz : isMiss size d = true := by simp only [isMiss, hd1]; rfl
        rw [hz] at hms
        have Hms := hid hms; clear hms hz
        go_wp2
        exact ⟨⟨k + 1, by omega, rfl, int_i64 (by rw [Hms.out]; simp), hq⟩, by simp [intOf]; omega⟩
    · have hke : k = ds.length := by omega
      subst hke
      go_wp2
      go_ret
      exact ⟨ret_int (by rw [List.take_length, Hds.out]), hb.trans (hq.below _)⟩
theorem specLru_any (a : Option Addr) (n c : Nat) (size : Int) (xs : List Int) (w : World) (hx : IntsA w a n c xs) :
    Calls Try.prog 24 #[.slice a n c, .int .i64 size] w fun e w' => e = .returned (.int .i64 (lruOf xs size)) ∧ Below w.heap.size w w' := by
  unfold lruOf
  rw [hx.1]
  cases hf : fitsB n size
  · rw [if_neg (by simp)]
    go_enter Try.func24, Try.ntmps24
    go_wp2_with (go_at_call 35; refine (l10Fits_any _ _ _ _ _).mono ?_; rintro e w' ⟨rfl, rfl⟩)
    go_ret
    exact ⟨rfl, Below.refl _ _⟩
  · rw [if_pos rfl]
    exact specLru_yes a n c size xs w hx hf

theorem OwnI.tail {B n c : Nat} {a : Option Addr} {w : World} {ys : List Int} (h : OwnI B w (.slice a (n + 1) c) ys) :
    OwnI B w (.slice (if c = 1 then a else Option.map (fun x => { block := x.block, off := x.off + 1 }) a) n (c - 1)) (ys.drop 1) := by
  obtain ⟨g, off, rfl, _⟩ := h.at (by omega)
  obtain ⟨h1, h2, h3, h4, cur, h5, h6, h7⟩ := h.cells
  by_cases hc : c = 1
  · rw [if_pos hc]
    subst hc
    have hn : n = 0 := by omega
    subst hn
    have e0 : ys.drop 1 = [] := List.drop_of_length_le (by omega)
    exact OwnI.of_cells (by rw [List.length_drop, h1]) h2 (by omega) (by unfold maxLen; omega) h5 (by omega) (by rw [e0]; rfl)
  · rw [if_neg hc]
    refine OwnI.of_cells (by rw [List.length_drop, h1]; omega) h2 (by omega) (by unfold maxLen at h4 ⊢; omega) h5 (by show off + 1 + (c - 1) ≤ cur.size; omega) ?_
    rw [List.map_drop, ← h7, ← List.drop_drop, List.drop_take]
    congr 1
set_option maxHeartbeats 800000 in
theorem implLru_yes (a : Option Addr) (n c : Nat) (size : Int) (xs : List Int) (w : World) (hx : IntsA w a n c xs) (hf : fitsB n size = true) :
    Calls Try.prog 25 #[.slice a n c, .int .i64 size] w fun e w' => e = .returned (.int .i64 (misses size (sds xs n))) ∧ Below w.heap.size w w' := by
  obtain ⟨h6, hs0, hs40⟩ := of_decide_eq_true hf
  obtain ⟨sz, rfl⟩ : ∃ sz : Nat, size = (sz : Int) := ⟨size.toNat, by omega⟩
  go_enter Try.func25, Try.ntmps25
  go_wp2_with (go_at_call 36; refine (isCache_any _ _ _ _ _).mono ?_; rintro e w' ⟨rfl, rfl⟩)
  go_loopw [5, 6, 16] (fun q vh i wr => ∃ k : Nat, k ≤ n ∧ i = .int .i64 k ∧ q = .int .i64 (misses sz (sds xs k)) ∧ OwnI w.heap.size wr vh (lruTop sz (stk (xs.take k))) ∧ Below w.heap.size w wr) (fun _ _ i _ => n - (intOf i).toNat)
  case atStart => exact ⟨0, Nat.zero_le _, rfl, rfl, (by rw [show lruTop sz (stk (xs.take 0)) = [] by simp [lruTop, stk]]; exact OwnI.nil _ _), Below.refl _ _⟩
  case round =>
    obtain ⟨k, hk, rfl, rfl, ho, hb⟩ := hrel
    have hml := misses_le sz (sds xs k)
    rw [sds_length] at hml
    by_cases hlt : k < n
    · obtain ⟨ba, oa, ha, hlb, hca⟩ := hx.at (by omega)
      have h2 : wr.cell? ⟨ba, oa + k, none⟩ = _ := (hb.cell hlb).trans (hca k hlt)
      generalize hxk : xs.getD k 0 = x at h2
      subst ha
      have hst := nodup_stk (xs.take k)
      have hstep := lru_step sz hst x
      have hmi := miss_iff hst sz x
      have hms := misses_snoc sz (sds xs k) (sd xs k)
      have hsd : sd xs k = posIn (stk (xs.take k)) x := by rw [sd, ← hxk]; rfl
      rw [← sds_succ, hsd] at hms
      have hnx : x :: others (stk (xs.take k)) x = stk (xs.take (k + 1)) := by
        rw [take_snoc (by rw [hx.1]; exact hlt), stk_snoc, ← hxk]; rfl
      rw [hnx] at hstep
      have hle : (lruTop sz (stk (xs.take k))).length ≤ sz := by rw [lruTop, List.length_reverse]; exact List.length_take_le _ _
      generalize lruTop sz (stk (xs.take k)) = h at ho hstep hmi hle
      have Hstep := hid hstep; have Hms := hid hms; have Hmi := hid hmi
      clear hca hst hstep hmi hms hsd hnx hxk
      obtain ⟨ah, ch, rfl, hhc⟩ := ho.shape
      have hs := ho.sl (by omega)
      have hbs := hb.size
      by_cases hm : x ∈ h
      · have hix : idx h x = (h.idxOf x : Int) := by rw [idx, if_pos hm]
        have hil : h.idxOf x < h.length := List.idxOf_lt_length_of_mem hm
        have hms2 : misses sz (sds xs (k + 1)) = misses sz (sds xs k) := by rw [Hms.out, Hmi.out]; simp [hm]
        have hst2 : lruTop sz (stk (xs.take (k + 1))) = let h1 := h.eraseIdx (h.idxOf x) ++ [x]; if sz < h1.length then h1.drop 1 else h1 := by rw [← Hstep.out, lruStep, if_pos hm]
        have hel : (h.eraseIdx (h.idxOf x)).length = h.length - 1 := by rw [List.length_eraseIdx, if_pos hil]
        obtain ⟨g, off, rfl, hgB, hgl, _, _⟩ := ho.at (by omega)
        generalize hip : h.idxOf x = p at hix hil hst2 hel
        have hst3 : lruTop sz (stk (xs.take (k + 1))) = h.eraseIdx p ++ [x] := by
          rw [hst2]; simp only [List.length_append, List.length_singleton, hel]; rw [if_neg (by omega)]
        have Hix := hid hix; have Hst := hid hst3; have Hms2 := hid hms2; have Hel := hid hel
        clear hix hst2 hst3 hms2 hel hip
        have hdec : decide ((sz : Int) < (h.length : Int)) = false := by simp; omega
        have HL : Hid ((h.eraseIdx p ++ [x]).length = h.length) := hid (by rw [List.length_append, Hel.out, List.length_singleton]; omega)
        go_wp2_with (first
          | (go_at_call 37; refine (index_any _ _ _ _ x h _ hs).mono ?_; rintro e w' ⟨rfl, rfl⟩; rw [Hix.out])
          | (go_at_call 38; refine (delete_own w.heap.size g off _ ch p h _ ho hil (by omega)).mono ?_; rintro e w1 ⟨rfl, o1, g1⟩; have hb1 := hb.grown g1 hbs (fun j hj => by cases hj; exact hgB); have hbs1 := hb1.size)
          | (at_builtin; go_must (refine wpList_app1I _ rfl _ _ rfl w.heap.size _ (h.eraseIdx p) rfl w1 x rfl o1 rfl ?_ ?c1 ?c2); intro v' w2 o2 g2 b2 _; have hb2 := (hb1.alloc hbs1 _).trans b2; obtain ⟨a2, c2, hv2, _⟩ := o2.shape; rw [HL.out] at hv2; subst hv2))
        case c1 => have := Hel.out; omega
        case c2 => omega
        exact ⟨⟨k + 1, by omega, rfl, int_i64 (by rw [Hms2.out]), by rw [Hst.out]; exact o2, hb2⟩, by simp [intOf]; omega⟩
      · have hix : idx h x = -1 := by rw [idx, if_neg hm]
        have hms2 : misses sz (sds xs (k + 1)) = misses sz (sds xs k) + 1 := by rw [Hms.out, Hmi.out]; simp [hm]
        have hst2 : lruTop sz (stk (xs.take (k + 1))) = let h1 := h ++ [x]; if sz < h1.length then h1.drop 1 else h1 := by rw [← Hstep.out, lruStep, if_neg hm]
        have hL : (h ++ [x]).length = h.length + 1 := by rw [List.length_append, List.length_singleton]
        simp only [hL] at hst2
        have Hix := hid hix; have Hms2 := hid hms2; have HL := hid hL
        clear hix hms2 hL
        by_cases hgt : sz < h.length + 1
        · rw [if_pos hgt] at hst2
          have Hst := hid hst2
          clear hst2
          have hdec : decide ((sz : Int) < (h.length : Int) + 1) = true := by simp; omega
          go_wp2_with (first
            | (go_at_call 37; refine (index_any _ _ _ _ x h _ hs).mono ?_; rintro e w' ⟨rfl, rfl⟩; rw [Hix.out])
            | (at_builtin; go_must (refine wpList_app1I _ rfl _ _ rfl w.heap.size _ h rfl wr x rfl ho rfl ?_ ?d1 ?d2); intro v' w2 o2 g2 b2 _; have hb2 := (hb.alloc hbs _).trans b2; obtain ⟨a2, c2, hv2, hc2⟩ := o2.shape; rw [HL.out] at hv2 hc2; subst hv2))
          case d1 => omega
          case d2 => omega
          exact ⟨⟨k + 1, by omega, rfl, int_i64 (by rw [Hms2.out]; omega), by rw [Hst.out]; exact o2.tail, hb2⟩, by simp [intOf]; omega⟩
        · rw [if_neg hgt] at hst2
          have Hst := hid hst2
          clear hst2
          have hdec : decide ((sz : Int) < (h.length : Int) + 1) = false := by simp; omega
          go_wp2_with (first
            | (go_at_call 37; refine (index_any _ _ _ _ x h _ hs).mono ?_; rintro e w' ⟨rfl, rfl⟩; rw [Hix.out])
            | (at_builtin; go_must (refine wpList_app1I _ rfl _ _ rfl w.heap.size _ h rfl wr x rfl ho rfl ?_ ?f1 ?f2); intro v' w2 o2 g2 b2 _; have hb2 := (hb.alloc hbs _).trans b2; obtain ⟨a2, c2, hv2, hc2⟩ := o2.shape; rw [HL.out] at hv2 hc2; subst hv2))
          case f1 => omega
          case f2 => omega
          exact ⟨⟨k + 1, by omega, rfl, int_i64 (by rw [Hms2.out]; omega), by rw [Hst.out]; exact o2, hb2⟩, by simp [intOf]; omega⟩
    · have hke : k = n := by omega
      subst hke
      go_wp2
      go_ret
      exact ⟨rfl, hb⟩

theorem implLru_any (a : Option Addr) (n c : Nat) (size : Int) (xs : List Int) (w : World) (hx : IntsA w a n c xs) :
    Calls Try.prog 25 #[.slice a n c, .int .i64 size] w fun e w' => e = .returned (.int .i64 (lruOf xs size)) ∧ Below w.heap.size w w' := by
  unfold lruOf
  rw [hx.1]
  cases hf : fitsB n size
  · rw [if_neg (by simp)]
    go_enter Try.func25, Try.ntmps25
    go_wp2_with (go_at_call 36; refine (isCache_any _ _ _ _ _).mono ?_; rintro e w' ⟨rfl, rfl⟩)
    go_ret
    exact ⟨rfl, Below.refl _ _⟩
  · rw [if_pos rfl, dists, if_pos (by rw [hx.1]; exact (of_decide_eq_true hf).1), hx.1]
    exact implLru_yes a n c size xs w hx hf
end Go.Proofs.Ytnjbfeejpnfdgaa
