/- Functions of the library over slices of ints: Index, Delete of one element; condition: what the slices hold. -/
import Derived.Test.YtnjbfeejpnfdgabOwnI
import Derived.Test.YtnjbfeejpnfdgabUniq
import Derived.Deep.RegionLaw
import Derived.Lib.SliceRun
import Derived.Shelf.Abstract
namespace Go.Proofs.Ytnjbfeejpnfdgab
open Go.RowKit

/-- The place of the first element that p holds of, or -1. -/
def findI (p : Int → Bool) (xs : List Int) : Int := if xs.any p then (xs.findIdx p : Int) else -1
theorem findI_none {p : Int → Bool} {xs : List Int} (h : ∀ x ∈ xs, p x = false) : findI p xs = -1 := by
  rw [findI, if_neg]
  rw [List.any_eq_true]
  rintro ⟨x, hx, hp⟩
  rw [h x hx] at hp
  cases hp
theorem findI_hit {p : Int → Bool} {xs : List Int} {k : Nat} (h : ∀ x ∈ xs.take k, p x = false) (hk : k < xs.length) (hp : p (xs.getD k 0) = true) : findI p xs = k := by
  rw [List.getD, List.getElem?_eq_getElem hk] at hp
  simp only [Option.getD_some] at hp
  rw [findI, if_pos (List.any_eq_true.2 ⟨_, List.getElem_mem hk, hp⟩)]
  congr 1
  rw [List.findIdx_eq hk]
  refine ⟨hp, fun j hj => h _ ?_⟩
  rw [List.mem_take_iff_getElem]
  exact ⟨j, by omega, rfl⟩
theorem take_step {p : Int → Bool} {xs : List Int} {k : Nat} (h : ∀ x ∈ xs.take k, p x = false) (hk : k < xs.length) (hp : p (xs.getD k 0) = false) : ∀ x ∈ xs.take (k + 1), p x = false := by
  intro x hx
  rw [List.take_succ_eq_append_getElem hk, List.mem_append, List.mem_singleton] at hx
  rcases hx with hx | rfl
  · exact h x hx
  · rw [List.getD, List.getElem?_eq_getElem hk] at hp
    exact hp


/-- The place of x in xs, or -1. -/
def idx (xs : List Int) (x : Int) : Int := if x ∈ xs then (xs.idxOf x : Int) else -1
theorem idx_take_miss {xs : List Int} {k : Nat} {x : Int} (h : idx (xs.take k) x = -1) (hk : k < xs.length) (hx : (x == xs.getD k 0) = false) : idx (xs.take (k + 1)) x = -1 := by
  have hn : x ∉ xs.take k := fun hm => by rw [idx, if_pos hm] at h; omega
  rw [idx, if_neg]
  rw [List.take_succ_eq_append_getElem hk, List.mem_append, List.mem_singleton]
  rintro (h' | h')
  · exact hn h'
  · rw [List.getD, List.getElem?_eq_getElem hk] at hx
    simp only [Option.getD_some, beq_eq_false_iff_ne] at hx
    exact hx h'
theorem idx_take_hit {xs : List Int} {k : Nat} {x : Int} (h : idx (xs.take k) x = -1) (hk : k < xs.length) (hx : (x == xs.getD k 0) = true) : idx xs x = k := by
  have hn : x ∉ xs.take k := fun hm => by rw [idx, if_pos hm] at h; omega
  rw [List.getD, List.getElem?_eq_getElem hk] at hx
  simp only [Option.getD_some, beq_iff_eq] at hx
  have hm : x ∈ xs := hx ▸ List.getElem_mem hk
  rw [idx, if_pos hm]
  congr 1
  conv => lhs; rw [← List.take_append_drop k xs]
  rw [List.idxOf_append, if_neg hn, List.drop_eq_getElem_cons hk, List.idxOf_cons, hx]
  simp [List.length_take]; omega

set_option maxHeartbeats 400000 in
theorem index_any (P : Nat → Prop) (a : Option Addr) (n c : Nat) (x : Int) (xs : List Int) (w : World) (hx : Sl Sh.int P w (.slice a n c) xs) :
    Calls Try.prog 13 #[.slice a n c, .int .i64 x] w fun e w' => e = .returned (.int .i64 (idx xs x)) ∧ w = w' := by
  have hle := hx.le
  go_enter Try.func13, Try.ntmps13
  go_wp2
  go_loop [8] (fun i => ∃ k : Nat, k ≤ n ∧ i = .int .i64 k ∧ Hid (idx (xs.take k) x = -1)) (fun i => n - (intOf i).toNat)
  case atStart => exact ⟨0, Nat.zero_le _, rfl, hid (by rw [List.take_zero, idx, if_neg (by simp)])⟩
  case round =>
    obtain ⟨k, hk, rfl, ht⟩ := hrel
    by_cases hlt : k < n
    · obtain ⟨ba, oa, ha, _, _, hca⟩ := hx.intAt (by omega)
      subst ha
      have h1 := hca k hlt
      generalize hy : xs.getD k 0 = y at h1
      have Hy := hid hy; clear hy hca
      have hlen := hx.len
      cases he : (x == y)
      · have hm : idx (xs.take (k + 1)) x = -1 := idx_take_miss ht.out (by omega) (by rw [Hy.out]; exact he)
        have Hm := hid hm; clear hm
        have Hlen := hid hlen; clear hlen
        go_wp2
        exact ⟨⟨k + 1, by omega, rfl, Hm⟩, by simp [intOf]; omega⟩
      · have hm : idx xs x = k := idx_take_hit ht.out (by omega) (by rw [Hy.out]; exact he)
        have Hm := hid hm; clear hm
        have Hlen := hid hlen; clear hlen
        go_wp2
        go_ret
        exact ⟨ret_int Hm.out.symm, rfl⟩
    · have : k = n := by omega
      subst this
      go_wp2
      go_ret
      exact ⟨ret_int (by have h := ht.out; rw [List.take_of_length_le (by rw [hx.len]; omega)] at h; exact h.symm), rfl⟩

theorem Try.zeroInt : ∀ w, (zeroValue 3).run Try.prog w = .ok (.int .i64 0) w := fun _ => by kernel_rfl
theorem grownBy_trans {w w' w'' : World} {r : Option Nat} (h : w.grownBy w' r) (h' : w'.grownBy w'' r) : w.grownBy w'' r :=
  ⟨h'.os.trans h.os, h'.tape.trans h.tape, h'.output.trans h.output, Nat.le_trans h.size h'.size, fun k hk hr => (h'.block k (Nat.lt_of_lt_of_le hk h.size) hr).trans (h.block k hk hr)⟩
theorem del_list {L news X R : List Value} {off i n : Nat} (hX : (L.drop off).take n = X) (hl : X.length = n) (hn : news = X.drop (i + 1)) (hi : i < n) (hL : off + n ≤ L.length) :
    ((L.take (off + i) ++ news ++ R).drop off).take (n - 1) = X.take i ++ X.drop (i + 1) := by
  have h1 : (L.take (off + i)).length = off + i := by rw [List.length_take]; omega
  have h2 : ((L.take (off + i)).drop off).length = i := by rw [List.length_drop, h1]; omega
  have h3 : news.length = n - 1 - i := by rw [hn, List.length_drop, hl]; omega
  rw [List.append_assoc, List.drop_append, h1, show off - (off + i) = 0 by omega, List.drop_zero, ← List.append_assoc, List.take_left' (by rw [List.length_append, h2, h3]; omega), hn]
  congr 1
  rw [← hX, List.take_take, Nat.min_eq_left (by omega), List.drop_take, show off + i - off = i by omega]
theorem OwnI.cells {B g off n c : Nat} {xs : List Int} {w : World} (h : OwnI B w (.slice (some ⟨g, off, none⟩) n c) xs) :
    xs.length = n ∧ B ≤ g ∧ n ≤ c ∧ c ≤ maxLen ∧ ∃ cur : Array Value, w.heap[g]? = some (.cells cur 3 (0, 0)) ∧ off + c ≤ cur.size ∧ (cur.toList.drop off).take n = xs.map (Value.int .i64) := by
  have hl := h.len
  obtain ⟨css, h1, h2, h3⟩ := h
  have hf : css.flatten = xs.map (Value.int .i64) := by
    clear h2 hl
    induction css generalizing xs with
    | nil => rw [List.eq_nil_of_length_eq_zero (l := xs) (by simpa using h1.symm)]; rfl
    | cons cs css ih =>
      cases xs with
      | nil => simp at h1
      | cons x xs =>
        have h0 : cs = [.int .i64 x] := h3 0 x cs rfl rfl
        rw [List.flatten_cons, ih (by simpa using h1) (fun i y ds hy hd => h3 (i + 1) y ds hy hd), h0, List.map_cons]; rfl
  rcases h2.2 with ⟨e, _⟩ | ⟨g', off', cap', cur, e, hb, hg, h4, h5, h6, h7⟩
  · cases e
  · simp only [Value.slice.injEq, Option.some.injEq, Addr.mk.injEq] at e
    obtain ⟨⟨rfl, rfl, _⟩, rfl, rfl⟩ := e
    refine ⟨rfl, hb, h4, h5, cur, hg, by simpa [Sh.int] using h6, ?_⟩
    rw [hf] at h7
    simpa [Sh.int] using h7
theorem OwnI.of_cells {B g off n c : Nat} {xs : List Int} {w : World} (hl : xs.length = n) (hB : B ≤ g) (h1 : n ≤ c) (h2 : c ≤ maxLen) {cur : Array Value} (hg : w.heap[g]? = some (.cells cur 3 (0, 0))) (h3 : off + c ≤ cur.size) (h4 : (cur.toList.drop off).take n = xs.map (Value.int .i64)) :
    OwnI B w (.slice (some ⟨g, off, none⟩) n c) xs := by
  have hf : (xs.map fun x => [Value.int .i64 x]).flatten = xs.map (Value.int .i64) := by
    clear hl h4
    induction xs with
    | nil => rfl
    | cons x r ih => rw [List.map_cons, List.flatten_cons, ih]; rfl
  subst hl
  refine ⟨xs.map fun x => [.int .i64 x], by simp, ⟨by rw [hf, List.length_map]; simp [Sh.int], .inr ⟨g, off, c, cur, rfl, hB, hg, h1, h2, by simpa [Sh.int] using h3, by rw [hf]; simpa [Sh.int] using h4⟩⟩, fun i x cs hx hc => ?_⟩
  rw [List.getElem?_map, hx] at hc
  simp only [Option.map_some, Option.some.injEq] at hc
  exact hc.symm

set_option maxHeartbeats 1600000 in
set_option maxRecDepth 100000 in
/-- slices.Delete(s, i, i+1), s the call's own. -/
theorem delete_own (B g off n c i : Nat) (xs : List Int) (w : World) (h : OwnI B w (.slice (some ⟨g, off, none⟩) n c) xs) (hi : i < n) (hn : n ≤ 17592186044416) :
    Calls Try.prog 14 #[.slice (some ⟨g, off, none⟩) n c, .int .i64 i, .int .i64 ((i : Int) + 1)] w fun e w' => e = .returned (.slice (some ⟨g, off, none⟩) (n - 1) c) ∧ OwnI B w' (.slice (some ⟨g, off, none⟩) (n - 1) c) (xs.eraseIdx i) ∧ w.grownBy w' (some g) := by
  obtain ⟨hl, hB, hnc, hcm, cur, hg, hcs, htake⟩ := h.cells
  obtain ⟨i0, hi0, hz0, hz1, hz2⟩ := info_parts Try.infoInt
  unfold maxLen at hcm
  obtain ⟨news, hnews⟩ : ∃ news, news = (xs.map (Value.int .i64)).drop (i + 1) := ⟨_, rfl⟩
  have hlen : news.length = n - (i + 1) := by rw [hnews]; simp [hl]
  have hcelld : ∀ k, k < c → (w.cell? ⟨g, off + k, none⟩).isSome = true := fun k hk => by rw [cell_of_row w g _ cur _ (0, 0) hg, Array.getElem?_eq_getElem (by omega)]; rfl
  have hfz : ∀ k, w.frozen? ⟨g, k, none⟩ = false := fun k => by simp [World.frozen?, hg]
  have hat : ∀ t u, news[t]? = some u → w.cell? ⟨g, off + (i + 1) + t, none⟩ = some u := by
    intro t u hu
    rw [hnews, List.getElem?_drop, ← htake, List.getElem?_take] at hu
    split at hu
    · rw [List.getElem?_drop] at hu
      rw [cell_of_row w g _ cur _ (0, 0) hg, show off + (i + 1) + t = off + (i + 1 + t) by omega]
      simpa using hu
    · cases hu
  obtain ⟨A, hA, hsrc⟩ : ∃ A : Addr, (if c = i + 1 then (some (⟨g, off, none⟩ : Addr)) else some ⟨g, off + (i + 1), none⟩) = some A ∧ Hid (∀ t u, news[t]? = some u → w.drew.cell? (A.add t) = some u) := by
    by_cases hc : c = i + 1
    · refine ⟨⟨g, off, none⟩, by simp [hc], hid fun t u hu => ?_⟩
      have h0 : news.length = 0 := by omega
      rw [List.length_eq_zero_iff.1 h0] at hu
      simp at hu
    · exact ⟨⟨g, off + (i + 1), none⟩, by simp [hc], hid fun t u hu => by rw [Addr.add_lit]; exact hat t u hu⟩
  have s1 : Hid (news.length = (n - (i + 1)) * 1) := hid (by rw [Nat.mul_one]; exact hlen)
  have s2 : Hid (∀ u ∈ news, u.oneCell' = true) := hid (by
    intro u hu
    rw [hnews] at hu
    obtain ⟨x, _, rfl⟩ := List.mem_map.1 (List.mem_of_mem_drop hu)
    rfl)
  have s3 : Hid (∀ t, t < news.length → (w.drew.cell? ⟨g, off + i * 1 + t, none⟩).isSome = true ∧ w.drew.frozen? ⟨g, off + i * 1 + t, none⟩ = false) := hid (by
    intro t ht
    rw [Nat.mul_one, Nat.add_assoc]
    exact ⟨hcelld (i + t) (by omega), hfz _⟩)
  obtain ⟨W1, hW1⟩ : ∃ W1, W1 = w.drew.setCells g (off + i * 1) news := ⟨_, rfl⟩
  obtain ⟨cur1, hg1, hs1, hl1⟩ := heap_setCells g 3 news (off + i * 1) w.drew cur hg (by rw [hlen]; omega)
  rw [← hW1] at hg1
  have hcl : ∀ ty, (Builtin.clear_ #[22] ty #[.slice (some ⟨g, off + (i + (n - (i + 1))), none⟩) (n - (i + (n - (i + 1)))) (c - (i + (n - (i + 1))))]).run Try.prog W1 = .ok (.tuple #[]) (W1.setCells g (off + (i + (n - (i + 1)))) (List.replicate (n - (i + (n - (i + 1)))) (.int .i64 0))) :=
    fun ty => Lib.run_clear_slice W1 _ _ ty _ Try.underlying22 Try.zeroInt rfl rfl g (off + (i + (n - (i + 1)))) _ _ (by omega) (fun t ht => by rw [cell_of_row W1 g _ cur1 _ (0, 0) hg1, Array.getElem?_eq_getElem (by omega)]; rfl) (fun t ht => by simp [World.frozen?, hg1])
  have hW : Hid (W1 = w.drew.setCells g (off + i * 1) news) := hid hW1
  have hic : i ≤ c := by omega
  have hjc : i + 1 ≤ c := by omega
  have Hg1 := hid hg1; have Hs1 := hid hs1; have Hl1 := hid hl1; have Hl := hid hl; have Hlen := hid hlen; have Hn := hid hnews; have Htake := hid htake
  clear hW1 hg1 hs1 hl1 hl hlen hnews htake hat hcelld hfz hg
  have hic' : (i : Int) + 1 ≤ (n : Int) := by omega
  have hne : ((i : Int) == (i : Int) + 1) = false := beq_eq_false_iff_ne.2 (by omega)
  have hi0' : (0 : Int) ≤ (i : Int) + 1 := by omega
  go_enter Try.func14, Try.ntmps14
  go_wp2_with fail
  go_region_law (refine step_append_room rfl (.tmp 22) (.tmp 25) 22 rfl 3 i0 1 Try.underlying22 hi0 hz1 g off i c (by simp [Act.eval, Act.put]) A (n - (i + 1)) (c - (i + 1)) news (by simp [Act.eval, Act.put]) s1.out hsrc.out s2.out (by omega) s3.out ?_; rw [← hW.out])
  go_wp2
  go_ret
  have e1 : i + (n - (i + 1)) = n - 1 := by omega
  have hs1 := Hs1.out
  obtain ⟨cur2, hg2, hs2, hl2⟩ := heap_setCells g 3 (List.replicate (n - (i + (n - (i + 1)))) (.int .i64 0)) (off + (i + (n - (i + 1)))) W1 cur1 Hg1.out (by rw [List.length_replicate]; omega)
  refine ⟨by rw [e1]; rfl, OwnI.of_cells ?_ hB (by omega) (by unfold maxLen; omega) hg2 (by omega) ?_, ?_⟩
  · rw [List.length_eraseIdx, Hl.out, if_pos hi]
  · have hX : (xs.map (Value.int .i64)).length = n := by rw [List.length_map]; exact Hl.out
    have hk := del_list (R := cur.toList.drop (off + i * 1 + news.length)) Htake.out hX Hn.out hi (by rw [Array.length_toList]; omega)
    rw [hl2, Hl1.out, e1, Nat.mul_one]
    rw [Nat.mul_one] at hk
    rw [List.eraseIdx_eq_take_drop_succ, List.map_append, List.map_take, List.map_drop, ← hk]
    generalize hL : cur.toList.take (off + i) ++ news ++ cur.toList.drop (off + i + news.length) = L
    have hLl : L.length = cur.size := by
      rw [← hL, ← Nat.mul_one i, ← Hl1.out, Array.length_toList]; exact hs1
    have hlen1 : (List.take (off + (n - 1) - off) (L.drop off)).length = n - 1 := by rw [List.length_take, List.length_drop, hLl]; omega
    rw [List.append_assoc, List.drop_append, List.take_append, List.drop_take, hlen1, Nat.sub_self, List.take_zero, List.append_nil, List.take_take, show min (n - 1) (off + (n - 1) - off) = n - 1 by omega]
  · refine grownBy_trans (w' := W1) ?_ (setCells_grown g _ _ W1)
    rw [hW.out]
    exact grownBy_trans (w' := w.drew) ⟨rfl, rfl, rfl, Nat.le_refl _, fun _ _ _ => rfl⟩ (setCells_grown g _ _ _)
end Go.Proofs.Ytnjbfeejpnfdgab
