/- The reader spec.l16Rd: open, pick, num; condition: what the reader's block holds. -/
import Derived.Test.YtkhlaphegnldeaaDoorOwnI
import Derived.Laws.BitsAllLaws
namespace Go.Proofs.YtkhlaphegnldeaaDoor
set_option linter.unusedVariables false
set_option linter.unusedSimpArgs false
open Go.RowKit

theorem i64_xor_nat (a b : Nat) (ha : a < 9223372036854775808) (hb : b < 9223372036854775808) : bits .xor .i64 (a : Int) (b : Int) = ((a ^^^ b : Nat) : Int) := by
  have hx : a ^^^ b < 2 ^ 63 := Nat.xor_lt_two_pow (by omega) (by omega)
  show IntKind.i64.wrap ((BitVec.ofInt 64 (a : Int) ^^^ BitVec.ofInt 64 (b : Int)).toNat : Int) = _
  rw [BitVec.toNat_xor, ofInt_u64 a (by omega), ofInt_u64 b (by omega)]
  simp [IntKind.wrap, IntKind.bits, IntKind.signed]
  omega
theorem i64_xor_nonneg (a b : Int) (h1 : 0 ≤ a) (h2 : a < 9223372036854775808) (h3 : 0 ≤ b) (h4 : b < 9223372036854775808) : 0 ≤ bits .xor .i64 a b ∧ bits .xor .i64 a b < 9223372036854775808 := by
  obtain ⟨A, rfl⟩ := Int.eq_ofNat_of_zero_le h1
  obtain ⟨B, rfl⟩ := Int.eq_ofNat_of_zero_le h3
  have hx : A ^^^ B < 2 ^ 63 := Nat.xor_lt_two_pow (by omega) (by omega)
  rw [i64_xor_nat A B (by omega) (by omega)]
  omega

/-- Block g is a reader that has been asked p times; its bytes lie ahead of it. -/
def Rd (w : World) (g p : Nat) : Prop :=
  ∃ a n c bs, w.heap[g]? = some (.cells #[.slice a n c, .int .i64 (p : Int)] 58 (0, 0)) ∧ n ≤ 2000 ∧ Sl Sh.byte (fun b => b < g) w (.slice a n c) bs ∧ ∀ x ∈ bs, 0 ≤ x ∧ x ≤ 255
theorem Rd.lt {w : World} {g p : Nat} (h : Rd w g p) : g < w.heap.size := by
  obtain ⟨_, _, _, _, h, _⟩ := h
  exact (Array.getElem?_eq_some_iff.1 h).1
theorem Rd.frame {w w' : World} {g p : Nat} (h : Rd w g p) (hs : ∀ b, b ≤ g → w'.heap[b]? = w.heap[b]?) : Rd w' g p := by
  obtain ⟨a, n, c, bs, h1, h2, h3, h4⟩ := h
  exact ⟨a, n, c, bs, by rw [hs g (Nat.le_refl _)]; exact h1, h2, h3.frame (fun b hb _ => hs b (Nat.le_of_lt hb)), h4⟩
theorem Rd.below {w w' : World} {g p : Nat} (h : Rd w g p) (hb : Below w.heap.size w w') : Rd w' g p := h.frame fun b hle => hb.block b (Nat.lt_of_le_of_lt hle h.lt)
theorem Rd.alloc {w : World} {g p : Nat} (h : Rd w g p) (o : Obj) : Rd (w.alloc o) g p := h.below ((Below.refl _ _).alloc (Nat.le_refl _) o)
theorem Rd.belowLt {w w' : World} {g p D : Nat} (h : Rd w g p) (hb : Below D w w') (hD : g < D) : Rd w' g p := h.frame fun b hle => hb.block b (Nat.lt_of_le_of_lt hle hD)
/-- What lies behind the reader may change. -/
theorem Rd.grown {w w' : World} {g p : Nat} {r : Option Nat} (h : Rd w g p) (hg : w.grownBy w' r) (hr : ∀ k, r = some k → g < k) : Rd w' g p :=
  h.frame fun b hle => hg.block b (Nat.lt_of_le_of_lt hle h.lt) (fun e => by have := hr b e.symm; omega)
theorem Sl.byteAt {P : Nat → Prop} {w : World} {a : Option Addr} {n c : Nat} {xs : List Int} (h : Sl Sh.byte P w (.slice a n c) xs) (hn : 0 < n) : ∃ b off, a = some ⟨b, off, none⟩ ∧ P b ∧ b < w.heap.size ∧ ∀ i, i < n → w.cell? ⟨b, off + i, none⟩ = some (.int .u8 (xs.getD i 0)) := by
  obtain ⟨b, off, ha, hb, hlt, hc⟩ := h.at hn
  have hl := h.len
  refine ⟨b, off, ha, hb, hlt, fun i hi => ?_⟩
  obtain ⟨cs, hr, hcell⟩ := hc i (xs.getD i 0) (by rw [List.getD, List.getElem?_eq_getElem (by omega)]; rfl)
  have : cs = [.int .u8 (xs.getD i 0)] := hr
  subst this
  have := hcell 0 _ rfl
  simpa [Sh.byte] using this

/-- What pick answers. -/
def Picked (m : Int) (g p : Nat) (w : World) (e : Ending) (w' : World) : Prop :=
  ∃ k : Int, e = .returned (.int .i64 k) ∧ 0 ≤ k ∧ (1 ≤ m → k < m) ∧ (m < 1 → k = 0) ∧ Rd w' g (p + 1) ∧ w.grownBy w' (some g)

theorem Rd.step {w : World} {g p : Nat} (h : Rd w g p) : Rd (w.setCell ⟨g, 1, none⟩ (.int .i64 ((p : Int) + 1))) g (p + 1) ∧ w.grownBy (w.setCell ⟨g, 1, none⟩ (.int .i64 ((p : Int) + 1))) (some g) := by
  obtain ⟨a, n, c, bs, h1, h2, h3, h4⟩ := h
  have hg := setCell_grown w ⟨g, 1, none⟩ (.int .i64 ((p : Int) + 1))
  refine ⟨⟨a, n, c, bs, ?_, h2, h3.grown hg (fun b hb e => by cases e; exact absurd hb (Nat.lt_irrefl _)), h4⟩, hg⟩
  have := heap_setCell_same w g 1 _ _ (.int .i64 ((p : Int) + 1)) h1
  simpa using this
theorem Rd.drewN {w : World} {g p n : Nat} (h : Rd w g p) : Rd (w.drewN n) g p := h.below (belowN (Below.refl _ _))
theorem grown_drewN {w w' : World} {r : Option Nat} {n : Nat} (h : w.grownBy w' r) : w.grownBy (w'.drewN n) r := ⟨h.os, h.tape, h.output, h.size, h.block⟩
theorem mod_bd {x m : Int} (h0 : 0 ≤ x) (hm : 1 ≤ m) : 0 ≤ x.tmod m ∧ x.tmod m < m := by
  rw [Int.tmod_eq_emod_of_nonneg h0]
  exact ⟨Int.emod_nonneg _ (by omega), Int.emod_lt_of_pos _ (by omega)⟩

set_option maxHeartbeats 1600000 in
set_option maxRecDepth 100000 in
theorem pick_any (g p : Nat) (m : Int) (w : World) (h : Rd w g p) (hp : p < 1099511627776) :
    Calls Tryd.prog 17 #[.pointer (some ⟨g, 0, none⟩), .int .i64 m] w (Picked m g p w) := by
  have hst := h.step
  obtain ⟨a, n, c, bs, h1, h2, h3, h4⟩ := h
  have hc0 : w.cell? ⟨g, 0, none⟩ = some (.slice a n c) := cell_of_row w g 0 _ _ _ h1
  have hc1 : w.cell? ⟨g, 1, none⟩ = some (.int .i64 (p : Int)) := cell_of_row w g 1 _ _ _ h1
  have hf1 : w.frozen? ⟨g, 1, none⟩ = false := by simp [World.frozen?, h1]
  have Hst := hid hst; have H4 := hid h4; clear h1 h4 hst
  by_cases hm : m < 1
  · have hm' : decide (m < 1) = true := by simpa using hm
    go_enter Tryd.func17, Tryd.ntmps17
    go_wp2
    go_ret
    exact ⟨0, rfl, Int.le_refl _, fun h => by omega, fun _ => rfl, Hst.out.1, Hst.out.2⟩
  · have hm' : decide (m < 1) = false := by simpa using hm
    by_cases hn : n = 0
    · subst hn
      go_enter Tryd.func17, Tryd.ntmps17
      go_wp2
      go_ret
      exact ⟨0, rfl, Int.le_refl _, fun h => by omega, fun _ => rfl, Hst.out.1, Hst.out.2⟩
    · have hn0 : ((n : Int) == 0) = false := by simp; omega
      obtain ⟨b, off, ha, hb, hlt, hcell⟩ := h3.byteAt (by omega)
      subst ha
      by_cases hpn : p < n
      · have h5 := hcell p hpn
        have h6 := H4.out (bs.getD p 0) (by rw [List.getD, List.getElem?_eq_getElem (by rw [h3.len]; exact hpn)]; exact List.getElem_mem _)
        generalize bs.getD p 0 = x at h5 h6
        have hbg : b ≠ g := by omega
        clear hcell
        go_enter Tryd.func17, Tryd.ntmps17
        go_wp2
        go_ret
        exact ⟨x % m, rfl, Int.emod_nonneg _ (by omega), fun _ => Int.emod_lt_of_pos _ (by omega), fun h => by omega, Hst.out.1, Hst.out.2⟩
      · have hnpos : (0 : Int) < (n : Int) := by omega
        have e1 := Int.emod_nonneg (p : Int) (show (n : Int) ≠ 0 by omega)
        have e2 := Int.emod_lt_of_pos (p : Int) hnpos
        have e3 := Int.emod_nonneg ((p : Int) * 7 + 3) (show (n : Int) ≠ 0 by omega)
        have e4 := Int.emod_lt_of_pos ((p : Int) * 7 + 3) hnpos
        have e5 : 0 ≤ (p : Int) / (n : Int) := Int.ediv_nonneg (by omega) (by omega)
        have e6 : (p : Int) / (n : Int) ≤ (p : Int) := Int.ediv_le_self _ (by omega)
        obtain ⟨i1, hi1⟩ : ∃ i : Nat, (p : Int) % (n : Int) = i := ⟨((p : Int) % (n : Int)).toNat, by omega⟩
        obtain ⟨i2, hi2⟩ : ∃ i : Nat, ((p : Int) * 7 + 3) % (n : Int) = i := ⟨(((p : Int) * 7 + 3) % (n : Int)).toNat, by omega⟩
        obtain ⟨i3, hi3⟩ : ∃ i : Nat, (p : Int) / (n : Int) = i := ⟨((p : Int) / (n : Int)).toNat, by omega⟩
        rw [hi1] at e1 e2
        rw [hi2] at e3 e4
        rw [hi3] at e5 e6
        have q1 := hcell i1 (by omega)
        have q2 := hcell i2 (by omega)
        have h6 := H4.out (bs.getD i1 0) (by rw [List.getD, List.getElem?_eq_getElem (by rw [h3.len]; omega)]; exact List.getElem_mem _)
        have h7 := H4.out (bs.getD i2 0) (by rw [List.getD, List.getElem?_eq_getElem (by rw [h3.len]; omega)]; exact List.getElem_mem _)
        generalize bs.getD i1 0 = x at q1 h6
        generalize bs.getD i2 0 = y at q2 h7
        have hbg : b ≠ g := by omega
        clear hcell
        go_enter Tryd.func17, Tryd.ntmps17
        go_wp2
        go_quiet (fail)
        go_wp2
        go_ret
        have hX : 0 ≤ x * 131 + y * 1117 + (p : Int) * 29 + (i3 : Int) * 53 ∧ x * 131 + y * 1117 + (p : Int) * 29 + (i3 : Int) * 53 < 9223372036854775808 := by omega
        have hx := i64_xor_nonneg _ ((x * 131 + y * 1117 + (p : Int) * 29 + (i3 : Int) * 53) / 64) hX.1 hX.2 (by omega) (by omega)
        have hb := mod_bd hx.1 hm
        exact ⟨_, rfl, hb.1, fun _ => hb.2, fun h => by omega, Hst.out.1.drewN, grown_drewN Hst.out.2⟩

set_option maxHeartbeats 800000 in
theorem l16Open_any (a : Option Addr) (n c : Nat) (bs : List Int) (w : World) (hx : Sl Sh.byte (fun b => b < w.heap.size) w (.slice a n c) bs) (hbs : ∀ x ∈ bs, 0 ≤ x ∧ x ≤ 255) :
    Calls Tryd.prog 15 #[.slice a n c] w fun e w' => e = .returned (.pointer (some ⟨w.heap.size, 0, none⟩)) ∧ Rd w' w.heap.size 0 ∧ Below w.heap.size w w' := by
  have hcap := hx.le.1
  have key : ∀ k (ys : List Int), k ≤ 2000 → Sl Sh.byte (fun b => b < w.heap.size) w (.slice a k c) ys → (∀ x ∈ ys, 0 ≤ x ∧ x ≤ 255) → Rd (w.alloc (.cells #[.slice a k c, .int .i64 0] 58)) w.heap.size 0 := by
    intro k ys hk hs hb
    exact ⟨a, k, c, ys, heap_alloc_new w _, hk, hs.alloc _, hb⟩
  have Key := hid key; clear key
  by_cases hn : 2000 < n
  · have hn' : decide ((2000 : Int) < (n : Int)) = true := by simp; omega
    have hs := hx.take 2000 (by omega)
    have hb : ∀ x ∈ bs.take 2000, 0 ≤ x ∧ x ≤ 255 := fun x hx => hbs x (List.mem_of_mem_take hx)
    have Hb := hid hb; clear hb hbs
    have h1 : (2000 : Int) ≤ (c : Int) := by omega
    have h2 : 2000 ≤ c := by omega
    go_enter Tryd.func15, Tryd.ntmps15
    go_wp2
    go_ret
    exact ⟨rfl, Key.out 2000 _ (by omega) hs Hb.out, (Below.refl _ _).alloc (Nat.le_refl _) _⟩
  · have hn' : decide ((2000 : Int) < (n : Int)) = false := by simp; omega
    have Hb := hid hbs; clear hbs
    go_enter Tryd.func15, Tryd.ntmps15
    go_wp2
    go_ret
    exact ⟨rfl, Key.out n _ (by omega) hx Hb.out, (Below.refl _ _).alloc (Nat.le_refl _) _⟩

/-- What num answers: an element of the list. -/
def Numbered (xs : List Int) (g p : Nat) (w : World) (e : Ending) (w' : World) : Prop :=
  ∃ k : Int, e = .returned (.int .i64 k) ∧ k ∈ xs ∧ Rd w' g (p + 1) ∧ w.grownBy w' (some g)
set_option maxHeartbeats 800000 in
theorem num_any (g p n c b off : Nat) (xs : List Int) (w : World) (h : Rd w g p) (hp : p < 1099511627776) (hn : 0 < n) (hx : Sl Sh.int (fun k => k ≠ g) w (.slice (some ⟨b, off, none⟩) n c) xs) :
    Calls Tryd.prog 23 #[.pointer (some ⟨g, 0, none⟩), .slice (some ⟨b, off, none⟩) n c] w (Numbered xs g p w) := by
  have hle := hx.le
  have hl := hx.len
  go_enter Tryd.func23, Tryd.ntmps23
  go_wp2_with fail
  refine (pick_any g p n w h hp).mono ?_
  rintro e w1 ⟨k, rfl, hk0, hk1, _, hr, hg⟩
  have hk2 := hk1 (by omega)
  obtain ⟨i, rfl⟩ : ∃ i : Nat, k = i := ⟨k.toNat, by omega⟩
  obtain ⟨b', off', e, _, _, hc⟩ := (hx.grown hg (fun k hk e => hk (by cases e; rfl))).intAt hn
  cases e
  have h5 := hc i (by omega)
  have h6 : xs.getD i 0 ∈ xs := by rw [List.getD, List.getElem?_eq_getElem (by omega)]; exact List.getElem_mem _
  generalize xs.getD i 0 = x at h5 h6
  have Hl := hid hl
  clear hc hk1 hl
  go_wp2
  go_ret
  exact ⟨x, rfl, h6, hr, hg⟩

/-- num of a list that has just been written out: an element of the list; from the world ahead of the list on. -/
def NumOf (vs : List Int) (g p : Nat) (w : World) (e : Ending) (w' : World) : Prop :=
  ∃ k : Int, e = .returned (.int .i64 k) ∧ k ∈ vs ∧ Rd w' g (p + 1) ∧ w.grownBy w' (some g)
theorem grown_trans {w w' w'' : World} {r : Option Nat} (h : w.grownBy w' r) (h' : w'.grownBy w'' r) : w.grownBy w'' r :=
  ⟨h'.os.trans h.os, h'.tape.trans h.tape, h'.output.trans h.output, Nat.le_trans h.size h'.size, fun k hk hr => (h'.block k (Nat.lt_of_lt_of_le hk h.size) hr).trans (h.block k hk hr)⟩
theorem num_lit (g p b n : Nat) (vs : List Int) (cells : Array Value) (w : World) (h : Rd w g p) (hp : p < 1099511627776) (hb : b = w.heap.size) (hc : cells = (vs.map (Value.int .i64)).toArray) (hn : n = vs.length) (h0 : 0 < n) (hs : n ≤ 1000) :
    Calls Tryd.prog 23 #[.pointer (some ⟨g, 0, none⟩), .slice (some ⟨b, 0, none⟩) n n] (w.alloc (.cells cells 3)) (NumOf vs g p w) := by
  subst hb hc hn
  have hg := h.lt
  refine (num_any g p _ _ _ _ vs _ (h.alloc _) hp h0 (((OwnI.made (B := w.heap.size) w vs (Nat.le_refl _) (by omega)).sl (by omega)).mono fun b hb _ e => by subst e; have := Option.some.inj hb; simp at this; omega)).mono ?_
  rintro e w' ⟨k, rfl, hk, hr, hgr⟩
  exact ⟨k, rfl, hk, hr, grown_trans (World.grownBy_alloc w _ _) hgr⟩
end Go.Proofs.YtkhlaphegnldeaaDoor
