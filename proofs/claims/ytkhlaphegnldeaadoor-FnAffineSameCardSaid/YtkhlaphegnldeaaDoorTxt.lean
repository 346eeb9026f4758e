/- The text of an affine expression; condition: what the argument holds. -/
import Derived.Test.YtkhlaphegnldeaaDoorAffK
import Derived.Test.YtkhlaphegnldeaaDoorShelf
import Derived.IntWalk
namespace Go.Proofs.YtkhlaphegnldeaaDoor
set_option linter.unusedVariables false
set_option linter.unusedSimpArgs false
open Go.RowKit

/-- A block of one cell that is there, and not frozen. -/
structure Box1 (w : World) (g : Nat) (u : Value) : Prop where
  c0 : w.cell? ⟨g, 0, none⟩ = some u
  f0 : w.frozen? ⟨g, 0, none⟩ = false
  lt : g < w.heap.size
theorem Box1.new (w : World) (u : Value) (T : TypeId) : Box1 (w.alloc (.cells #[u] T)) w.heap.size u := by
  have hn := heap_alloc_new w (.cells #[u] T)
  refine ⟨cell_of_row _ _ 0 _ _ _ hn, ?_, by simp⟩
  unfold World.frozen?; rw [hn]; rfl
theorem Box1.below {w w' : World} {g : Nat} {u : Value} (h : Box1 w g u) (hb : Below w.heap.size w w') : Box1 w' g u :=
  ⟨(hb.cell (p := ⟨g, 0, none⟩) h.lt).trans h.c0, (hb.frozen (p := ⟨g, 0, none⟩) h.lt).trans h.f0, Nat.lt_of_lt_of_le h.lt hb.size⟩
theorem Box1.set {w : World} {g : Nat} {u : Value} (h : Box1 w g u) (v : Value) : Box1 (w.setCell ⟨g, 0, none⟩ v) g v :=
  ⟨World.cell?_setCell_same _ _ _ h.c0, (World.frozen?_setCell _ _ _ _).trans h.f0, by simp; exact h.lt⟩
theorem Box1.quiet {w w' : World} {g : Nat} {u : Value} (h : Box1 w g u) (hq : Quiet w w') : Box1 w' g u := h.below (hq.below _)

/-- The sign of a term behind s. -/
def sgnA (s : ByteArray) (n : Int) : ByteArray := if n < 0 then s ++ ⟨#[45]⟩ else if s.toList.isEmpty then s else s ++ ⟨#[43]⟩
set_option maxHeartbeats 1600000 in
theorem sign_any (n : Int) (b : Nat) (s : ByteArray) (w : World) (h : Box1 w b (.string s)) (hs : s.size ≤ 900) :
    Calls Tryd.prog 40 #[.int .i64 n, .pointer (some ⟨b, 0, none⟩)] w fun e w' => (∃ v, e = .returned v) ∧ Box1 w' b (.string (sgnA s n)) ∧ w.grownBy w' (some b) := by
  have h0 := h.c0; have h1 := h.f0; have h2 := h.lt
  have G := fun (u : Value) => setCell_grown w ⟨b, 0, none⟩ u
  have HS := fun (u : Value) => h.set u
  have Hh := hid h; have HG := hid G; have HHS := hid HS
  clear h G HS
  by_cases hn : n < 0
  · have hd : decide (n < 0) = true := decide_eq_true hn
    have Hn := hid (show sgnA s n = s ++ ⟨#[45]⟩ from if_pos hn)
    go_enter Tryd.func40, Tryd.ntmps40
    go_wp2_with fail
    refine bodyPost_end (results_none rfl _ _ _) rfl ?_
    exact ⟨⟨_, rfl⟩, by rw [Hn.out]; exact HHS.out _, HG.out _⟩
  · have hd : decide (n < 0) = false := decide_eq_false hn
    cases he : s.toList.isEmpty
    · have Hn := hid (show sgnA s n = s ++ ⟨#[43]⟩ by rw [sgnA, if_neg hn, he]; rfl)
      go_enter Tryd.func40, Tryd.ntmps40
      go_wp2_with fail
      refine bodyPost_end (results_none rfl _ _ _) rfl ?_
      exact ⟨⟨_, rfl⟩, by rw [Hn.out]; exact HHS.out _, HG.out _⟩
    · have Hn := hid (show sgnA s n = s by rw [sgnA, if_neg hn, he]; rfl)
      go_enter Tryd.func40, Tryd.ntmps40
      go_wp2_with fail
      refine bodyPost_end (results_none rfl _ _ _) rfl ?_
      exact ⟨⟨_, rfl⟩, by rw [Hn.out]; exact Hh.out, World.grownBy.refl _ _⟩

/-- The text behind one more term. -/
def decA (n : Int) : ByteArray := ⟨(Lib.decDigits n.natAbs).toArray⟩
def termA (s : ByteArray) (c : Int) (j : Nat) : ByteArray :=
  if c = 0 then s else (if 1 < c.natAbs then sgnA s c ++ (decA c ++ ⟨#[42]⟩) else sgnA s c) ++ (⟨#[105, 106, 107, 108]⟩ : ByteArray).extract j (j + 1)
theorem decA_len (m : Nat) (h : m < 100) : (Lib.decDigits m).length ≤ 3 := by
  by_cases h1 : m < 10
  · rw [Lib.decDigits_one h1]; simp
  · rw [Lib.decDigits_two h1 h]; simp
theorem decA_size {n : Int} (h : n.natAbs < 100) : (decA n).size ≤ 3 := by
  have := decA_len _ h
  simpa [decA, ByteArray.size] using this
theorem sgnA_size (s : ByteArray) (n : Int) : (sgnA s n).size ≤ s.size + 1 := by
  unfold sgnA
  split
  · rw [ByteArray.size_append]; exact Nat.le_refl _
  · split
    · omega
    · rw [ByteArray.size_append]; exact Nat.le_refl _
def preA (co : List Int) : Nat → ByteArray
  | 0 => ⟨#[]⟩
  | j + 1 => termA (preA co j) (co.getD j 0) j
def rawA (x : Aff) : ByteArray := if x.2 = 0 then preA x.1 4 else sgnA (preA x.1 4) x.2 ++ decA x.2
def txtA (x : Aff) : ByteArray := if (rawA x).toList.isEmpty then ⟨#[48]⟩ else rawA x
set_option maxHeartbeats 12800000 in
theorem affText_any (P : Nat → Prop) (v : Value) (x : Aff) (w : World) (h : AffR P w v x) (hV : affV x = true) :
    Calls Tryd.prog 22 #[v] w fun e w' => e = .returned (.string (txtA x)) ∧ Below w.heap.size w w' := by
  have hco := affV_getD hV
  have hk := affV_const hV
  have hlen := affV_len hV
  obtain ⟨a, c, rfl, _, _, hs⟩ := h.shape
  obtain ⟨co, k⟩ := x
  simp only at hs hco hk hlen ⊢
  rw [hlen] at hs ⊢
  have hb := ((Below.refl w.heap.size w).alloc (Nat.le_refl _) (.cells #[.slice a 4 c, .int .i64 k] 25)).alloc (by simp) (.cells #[.string ⟨#[]⟩] 9)
  have B0 := (Box2.new w (.slice a 4 c) (.int .i64 k) 25).alloc (.cells #[.string ⟨#[]⟩] 9)
  have B1 := Box1.new (w.alloc (.cells #[.slice a 4 c, .int .i64 k] 25)) (.string ⟨#[]⟩) 9
  rw [World.size_alloc] at B1
  have hs2 := (hs.mono (Q := fun b => b < w.heap.size) fun b _ h => h).below hb
  have Hlen := hid hlen; have Hco := hid hco
  clear h hs hlen hco hV
  go_enter Tryd.func22, Tryd.ntmps22
  go_wp2_with fail
  generalize (w.alloc (.cells #[.slice a 4 c, .int .i64 k] 25)).alloc (.cells #[.string ⟨#[]⟩] 9) = w2 at hb B0 B1 hs2
  have HB0 := hid B0; have HS2 := hid hs2; have Hb := hid hb
  clear B0 hs2 hb
  go_loopw [5, 6, 12] (fun _ _ i wr => ∃ j : Nat, j ≤ 4 ∧ i = .int .i64 j ∧ Box1 wr (w.heap.size + 1) (.string (preA co j)) ∧ (preA co j).size ≤ 100 * j ∧ w2.grownBy wr (some (w.heap.size + 1))) (fun _ _ i _ => 4 - (intOf i).toNat)
  case atStart => exact ⟨0, Nat.zero_le _, rfl, B1, Nat.le_refl _, World.grownBy.refl _ _⟩
  case round =>
    obtain ⟨j, hj, rfl, hB, hsz, hg⟩ := hrel
    by_cases hlt : j < 4
    · obtain ⟨b, off, rfl, hbl, _, hcell⟩ := (HS2.out.grown hg (fun q (hq : q < w.heap.size) e => by have := Option.some.inj e; omega)).intAt (by decide)
      have q1 := hcell j hlt
      have hcb := Hco.out j
      have hpre : preA co (j + 1) = termA (preA co j) (co.getD j 0) j := rfl
      generalize co.getD j 0 = y at q1 hcb hpre
      generalize preA co j = s at hB hpre hsz
      have Hpre := hid hpre
      have HB := hid hB; have Hg := hid hg
      have hj4 : (j : Int) < 4 := by omega
      clear hcell hpre hB hg
      by_cases hy0 : y = 0
      · have hd : (y == 0) = true := by simpa using hy0
        have Ht := hid (show preA co (j + 1) = s by rw [Hpre.out, termA, if_pos hy0])
        clear hy0
        go_wp2_with fail
        exact ⟨⟨j + 1, by omega, rfl, by rw [Ht.out]; exact HB.out, by rw [Ht.out]; omega, Hg.out⟩, by simp [intOf]; omega⟩
      · have hd : (y == 0) = false := by simpa using hy0
        go_wp2_with fail
        refine (sign_any y (w.heap.size + 1) s wr HB.out (by omega)).mono ?_
        rintro e w3 ⟨⟨v3, rfl⟩, B3, g3⟩
        have Hg3 := hid (grownBy_transK Hg.out g3)
        have Hts := (show preA co (j + 1) = (if 1 < y.natAbs then sgnA s y ++ (decA y ++ ⟨#[42]⟩) else sgnA s y) ++ (⟨#[105, 106, 107, 108]⟩ : ByteArray).extract j (j + 1) by rw [Hpre.out, termA, if_neg hy0])
        have hs3 := sgnA_size s y
        have hds := decA_size (n := y) (by omega)
        have hdm0 : decA y = ⟨(Lib.decDigits y.natAbs).toArray⟩ := rfl
        generalize sgnA s y = s3 at B3 Hts hs3
        have hs3' : s3.size ≤ 500 := by omega
        have HB3 := hid B3
        have c3 := B3.c0; have f3 := B3.f0; have l3 := B3.lt
        clear B3 g3 HB Hg q1
        have hmax : max y (-y) = (y.natAbs : Int) := by omega
        have hm9 : y.natAbs ≤ 9 := by omega
        generalize y.natAbs = m at hmax hm9 Hts hdm0
        have kj : IntKind.i64.wrap ((j : Int) + 1) = (j : Int) + 1 := IntWalk.i64_in _ (by omega)
        have kj0 : (0 : Int) ≤ (j : Int) := by omega
        have kj1 : (j : Int) ≤ (j : Int) + 1 := by omega
        have kj2 : (j : Int) + 1 ≤ 4 := by omega
        have kj3 : ((j : Int) + 1).toNat = j + 1 := by omega
        have hdm : decA y = ⟨(Lib.decDigits m).toArray⟩ := hdm0
        have hdl : (⟨(Lib.decDigits m).toArray⟩ : ByteArray).size ≤ 3 := by rw [← hdm]; exact hds
        rw [hdm] at Hts
        generalize hdd : (⟨(Lib.decDigits m).toArray⟩ : ByteArray) = dd at Hts hdl
        have Hdd := hid hdd
        clear hdm hds hdd hdm0
        by_cases hm1 : 1 < m
        · have hd1 : decide ((1 : Int) < (m : Int)) = true := decide_eq_true (by omega)
          have Ht := hid (show preA co (j + 1) = s3 ++ (dd ++ ⟨#[42]⟩) ++ (⟨#[105, 106, 107, 108]⟩ : ByteArray).extract j (j + 1) by rw [Hts, if_pos hm1])
          have hs4 : (s3 ++ (dd ++ ⟨#[42]⟩)).size ≤ s3.size + 4 := by rw [ByteArray.size_append, ByteArray.size_append]; show s3.size + (dd.size + 1) ≤ _; omega
          clear Hts
          go_wp2_with fail
          go_region_with (go_at_call 41; refine (Tryd.strconv_Itoa_small m (by omega) _).mono ?_; rintro e w' ⟨rfl, rfl⟩; rw [Hdd.out])
          all_goals
            generalize s3 ++ (dd ++ ⟨#[42]⟩) = s5 at Ht hs4
            have HB5 := hid ((HB3.out.set (.string s5)))
            have Hg5 := hid (grownBy_transK Hg3.out (setCell_grown w3 ⟨w.heap.size + 1, 0, none⟩ (.string s5)))
            have c5 := HB5.out.c0; have f5 := HB5.out.f0; have l5 := HB5.out.lt
            generalize (w3.setCell ⟨w.heap.size + 1, 0, none⟩ (.string s5)) = w5 at HB5 Hg5 c5 f5 l5
            go_wp2_with fail
            have hs5 : s5.size ≤ 600 := by omega
            rcases (show j = 0 ∨ j = 1 ∨ j = 2 ∨ j = 3 by omega) with rfl | rfl | rfl | rfl
            · have F1 := hid (HB5.out.set (.string (s5 ++ (⟨#[105, 106, 107, 108]⟩ : ByteArray).extract 0 1)))
              have F2 := hid (grownBy_transK Hg5.out (setCell_grown w5 ⟨w.heap.size + 1, 0, none⟩ (.string (s5 ++ (⟨#[105, 106, 107, 108]⟩ : ByteArray).extract 0 1))))
              have F3 := hid (show (s5 ++ (⟨#[105, 106, 107, 108]⟩ : ByteArray).extract 0 1).size ≤ 100 * (0 + 1) by rw [ByteArray.size_append, show ((⟨#[105, 106, 107, 108]⟩ : ByteArray).extract 0 1).size = 1 from by decide]; omega)
              go_region_with (fail)
              all_goals
                go_wp2_with fail
                exact ⟨⟨0 + 1, by omega, rfl, by rw [Ht.out]; exact ⟨F1.out.c0, F1.out.f0, F1.out.lt⟩, by rw [Ht.out]; exact F3.out, ⟨F2.out.os, F2.out.tape, F2.out.output, F2.out.size, F2.out.block⟩⟩, by simp [intOf]⟩
            · have F1 := hid (HB5.out.set (.string (s5 ++ (⟨#[105, 106, 107, 108]⟩ : ByteArray).extract 1 2)))
              have F2 := hid (grownBy_transK Hg5.out (setCell_grown w5 ⟨w.heap.size + 1, 0, none⟩ (.string (s5 ++ (⟨#[105, 106, 107, 108]⟩ : ByteArray).extract 1 2))))
              have F3 := hid (show (s5 ++ (⟨#[105, 106, 107, 108]⟩ : ByteArray).extract 1 2).size ≤ 100 * (1 + 1) by rw [ByteArray.size_append, show ((⟨#[105, 106, 107, 108]⟩ : ByteArray).extract 1 2).size = 1 from by decide]; omega)
              go_region_with (fail)
              all_goals
                go_wp2_with fail
                exact ⟨⟨1 + 1, by omega, rfl, by rw [Ht.out]; exact ⟨F1.out.c0, F1.out.f0, F1.out.lt⟩, by rw [Ht.out]; exact F3.out, ⟨F2.out.os, F2.out.tape, F2.out.output, F2.out.size, F2.out.block⟩⟩, by simp [intOf]⟩
            · have F1 := hid (HB5.out.set (.string (s5 ++ (⟨#[105, 106, 107, 108]⟩ : ByteArray).extract 2 3)))
              have F2 := hid (grownBy_transK Hg5.out (setCell_grown w5 ⟨w.heap.size + 1, 0, none⟩ (.string (s5 ++ (⟨#[105, 106, 107, 108]⟩ : ByteArray).extract 2 3))))
              have F3 := hid (show (s5 ++ (⟨#[105, 106, 107, 108]⟩ : ByteArray).extract 2 3).size ≤ 100 * (2 + 1) by rw [ByteArray.size_append, show ((⟨#[105, 106, 107, 108]⟩ : ByteArray).extract 2 3).size = 1 from by decide]; omega)
              go_region_with (fail)
              all_goals
                go_wp2_with fail
                exact ⟨⟨2 + 1, by omega, rfl, by rw [Ht.out]; exact ⟨F1.out.c0, F1.out.f0, F1.out.lt⟩, by rw [Ht.out]; exact F3.out, ⟨F2.out.os, F2.out.tape, F2.out.output, F2.out.size, F2.out.block⟩⟩, by simp [intOf]⟩
            · have F1 := hid (HB5.out.set (.string (s5 ++ (⟨#[105, 106, 107, 108]⟩ : ByteArray).extract 3 4)))
              have F2 := hid (grownBy_transK Hg5.out (setCell_grown w5 ⟨w.heap.size + 1, 0, none⟩ (.string (s5 ++ (⟨#[105, 106, 107, 108]⟩ : ByteArray).extract 3 4))))
              have F3 := hid (show (s5 ++ (⟨#[105, 106, 107, 108]⟩ : ByteArray).extract 3 4).size ≤ 100 * (3 + 1) by rw [ByteArray.size_append, show ((⟨#[105, 106, 107, 108]⟩ : ByteArray).extract 3 4).size = 1 from by decide]; omega)
              go_region_with (fail)
              all_goals
                go_wp2_with fail
                exact ⟨⟨3 + 1, by omega, rfl, by rw [Ht.out]; exact ⟨F1.out.c0, F1.out.f0, F1.out.lt⟩, by rw [Ht.out]; exact F3.out, ⟨F2.out.os, F2.out.tape, F2.out.output, F2.out.size, F2.out.block⟩⟩, by simp [intOf]⟩
        · have hd1 : decide ((1 : Int) < (m : Int)) = false := decide_eq_false (by omega)
          have Ht := hid (show preA co (j + 1) = s3 ++ (⟨#[105, 106, 107, 108]⟩ : ByteArray).extract j (j + 1) by rw [Hts, if_neg hm1])
          clear Hts
          go_wp2_with fail
          rcases (show j = 0 ∨ j = 1 ∨ j = 2 ∨ j = 3 by omega) with rfl | rfl | rfl | rfl
          · have F1 := hid (HB3.out.set (.string (s3 ++ (⟨#[105, 106, 107, 108]⟩ : ByteArray).extract 0 1)))
            have F2 := hid (grownBy_transK Hg3.out (setCell_grown w3 ⟨w.heap.size + 1, 0, none⟩ (.string (s3 ++ (⟨#[105, 106, 107, 108]⟩ : ByteArray).extract 0 1))))
            have F3 := hid (show (s3 ++ (⟨#[105, 106, 107, 108]⟩ : ByteArray).extract 0 1).size ≤ 100 * (0 + 1) by rw [ByteArray.size_append, show ((⟨#[105, 106, 107, 108]⟩ : ByteArray).extract 0 1).size = 1 from by decide]; omega)
            go_region_with (fail)
            all_goals
              go_wp2_with fail
              exact ⟨⟨0 + 1, by omega, rfl, by rw [Ht.out]; exact ⟨F1.out.c0, F1.out.f0, F1.out.lt⟩, by rw [Ht.out]; exact F3.out, ⟨F2.out.os, F2.out.tape, F2.out.output, F2.out.size, F2.out.block⟩⟩, by simp [intOf]⟩
          · have F1 := hid (HB3.out.set (.string (s3 ++ (⟨#[105, 106, 107, 108]⟩ : ByteArray).extract 1 2)))
            have F2 := hid (grownBy_transK Hg3.out (setCell_grown w3 ⟨w.heap.size + 1, 0, none⟩ (.string (s3 ++ (⟨#[105, 106, 107, 108]⟩ : ByteArray).extract 1 2))))
            have F3 := hid (show (s3 ++ (⟨#[105, 106, 107, 108]⟩ : ByteArray).extract 1 2).size ≤ 100 * (1 + 1) by rw [ByteArray.size_append, show ((⟨#[105, 106, 107, 108]⟩ : ByteArray).extract 1 2).size = 1 from by decide]; omega)
            go_region_with (fail)
            all_goals
              go_wp2_with fail
              exact ⟨⟨1 + 1, by omega, rfl, by rw [Ht.out]; exact ⟨F1.out.c0, F1.out.f0, F1.out.lt⟩, by rw [Ht.out]; exact F3.out, ⟨F2.out.os, F2.out.tape, F2.out.output, F2.out.size, F2.out.block⟩⟩, by simp [intOf]⟩
          · have F1 := hid (HB3.out.set (.string (s3 ++ (⟨#[105, 106, 107, 108]⟩ : ByteArray).extract 2 3)))
            have F2 := hid (grownBy_transK Hg3.out (setCell_grown w3 ⟨w.heap.size + 1, 0, none⟩ (.string (s3 ++ (⟨#[105, 106, 107, 108]⟩ : ByteArray).extract 2 3))))
            have F3 := hid (show (s3 ++ (⟨#[105, 106, 107, 108]⟩ : ByteArray).extract 2 3).size ≤ 100 * (2 + 1) by rw [ByteArray.size_append, show ((⟨#[105, 106, 107, 108]⟩ : ByteArray).extract 2 3).size = 1 from by decide]; omega)
            go_region_with (fail)
            all_goals
              go_wp2_with fail
              exact ⟨⟨2 + 1, by omega, rfl, by rw [Ht.out]; exact ⟨F1.out.c0, F1.out.f0, F1.out.lt⟩, by rw [Ht.out]; exact F3.out, ⟨F2.out.os, F2.out.tape, F2.out.output, F2.out.size, F2.out.block⟩⟩, by simp [intOf]⟩
          · have F1 := hid (HB3.out.set (.string (s3 ++ (⟨#[105, 106, 107, 108]⟩ : ByteArray).extract 3 4)))
            have F2 := hid (grownBy_transK Hg3.out (setCell_grown w3 ⟨w.heap.size + 1, 0, none⟩ (.string (s3 ++ (⟨#[105, 106, 107, 108]⟩ : ByteArray).extract 3 4))))
            have F3 := hid (show (s3 ++ (⟨#[105, 106, 107, 108]⟩ : ByteArray).extract 3 4).size ≤ 100 * (3 + 1) by rw [ByteArray.size_append, show ((⟨#[105, 106, 107, 108]⟩ : ByteArray).extract 3 4).size = 1 from by decide]; omega)
            go_region_with (fail)
            all_goals
              go_wp2_with fail
              exact ⟨⟨3 + 1, by omega, rfl, by rw [Ht.out]; exact ⟨F1.out.c0, F1.out.f0, F1.out.lt⟩, by rw [Ht.out]; exact F3.out, ⟨F2.out.os, F2.out.tape, F2.out.output, F2.out.size, F2.out.block⟩⟩, by simp [intOf]⟩
    · have hje : j = 4 := by omega
      subst hje
      obtain ⟨r0, r1, r2, r3, r4⟩ := HB0.out.grown hg (fun e => by have := Option.some.inj e; omega)
      have Hx := hid (show rawA (co, k) = if k = 0 then preA co 4 else sgnA (preA co 4) k ++ decA k from rfl)
      have Htx := hid (show txtA (co, k) = if (rawA (co, k)).toList.isEmpty then ⟨#[48]⟩ else rawA (co, k) from rfl)
      generalize preA co 4 = s at hB hsz Hx
      have c3 := hB.c0; have f3 := hB.f0; have l3 := hB.lt
      have Hbb := hid (Hb.out.grown hg Hb.out.size (fun q hq => by cases hq; omega))
      have HB := hid hB
      clear hB hg
      by_cases hk0 : k = 0
      · have hd : (k != 0) = false := by simpa using hk0
        have hr := hid (show rawA (co, k) = s by rw [Hx.out, if_pos hk0])
        clear hk0
        cases he : s.toList.isEmpty
        · have Ht := hid (show txtA (co, k) = s by rw [Htx.out, hr.out, he]; rfl)
          go_wp2_with fail
          go_ret
          exact ⟨by rw [Ht.out]; rfl, Hbb.out⟩
        · have Ht := hid (show txtA (co, k) = ⟨#[48]⟩ by rw [Htx.out, hr.out, he]; rfl)
          go_wp2_with fail
          go_ret
          exact ⟨by rw [Ht.out]; rfl, Hbb.out⟩
      · have hd : (k != 0) = true := by simpa using hk0
        have hr := (show rawA (co, k) = sgnA s k ++ decA k by rw [Hx.out, if_neg hk0])
        go_wp2_with fail
        refine (sign_any k (w.heap.size + 1) s wr HB.out (by omega)).mono ?_
        rintro e w3 ⟨⟨v3, rfl⟩, B3, g3⟩
        have hs3 := sgnA_size s k
        have hds := decA_size (n := k) (by omega)
        have hdm0 : decA k = ⟨(Lib.decDigits k.natAbs).toArray⟩ := rfl
        obtain ⟨q0, q1, q2, q3, q4⟩ := (show Box2 wr w.heap.size (.slice a 4 c) (.int .i64 k) from ⟨r0, r1, r2, r3, r4⟩).grown g3 (fun e => by have := Option.some.inj e; omega)
        have Hb3 := hid (Hbb.out.grown g3 Hbb.out.size (fun q hq => by cases hq; omega))
        generalize sgnA s k = s3 at B3 hr hs3
        have hs3' : s3.size ≤ 500 := by omega
        have hmax : max k (-k) = (k.natAbs : Int) := by omega
        have hm9 : k.natAbs ≤ 99 := by omega
        have hm0 : k.natAbs ≠ 0 := by omega
        rw [hdm0] at hr hds
        generalize k.natAbs = m at hmax hm9 hr hds hm0
        have Hne := hid (show (Lib.decDigits m).length ≠ 0 by
          by_cases h1 : m < 10
          · rw [Lib.decDigits_one h1]; simp
          · rw [Lib.decDigits_two h1 (by omega)]; simp)
        have Hne2 := hid (show (s3 ++ (⟨(Lib.decDigits m).toArray⟩ : ByteArray)).toList.isEmpty = false by
          rw [ByteArray.toList_eq, ByteArray.data_append, Array.toList_append]
          have := Hne.out
          cases hl : Lib.decDigits m with
          | nil => rw [hl] at this; exact absurd rfl this
          | cons z zs => simp)
        generalize hdd : (⟨(Lib.decDigits m).toArray⟩ : ByteArray) = dd at hr hds Hne2
        have Hdd := hid hdd
        have c4 := B3.c0; have f4 := B3.f0; have l4 := B3.lt
        have Ht := hid (show txtA (co, k) = s3 ++ dd by rw [Htx.out, hr, Hne2.out]; rfl)
        have hne2 := Hne2.out
        clear hr hdd hdm0 g3 B3 hk0 c3 f3 l3 r0 r1 r2 r3 r4 q0 q2 q3
        have kneg : IntKind.i64.wrap (-k) = -k := IntWalk.i64_in _ (by omega)
        have F := hid (Hb3.out.setCell (p := ⟨w.heap.size + 1, 0, none⟩) (by show _ ≤ w.heap.size + 1; omega) (.string (s3 ++ dd)))
        go_wp2_with fail
        go_region_with (go_at_call 41; refine (Tryd.strconv_Itoa_small m (by omega) _).mono ?_; rintro e w' ⟨rfl, rfl⟩; rw [Hdd.out])
        all_goals
          go_wp2_with fail
          go_ret
          exact ⟨by rw [Ht.out]; rfl, ⟨F.out.os, F.out.tape, F.out.output, F.out.size, F.out.block⟩⟩
def fmtOf (x : Aff) : ByteArray := if affV x then txtA x else ⟨#[]⟩
set_option maxHeartbeats 1600000 in
theorem fmt_any (P : Nat → Prop) (v : Value) (x : Aff) (w : World) (h : AffR P w v x) :
    Calls Tryd.prog 8 #[v] w fun e w' => e = .returned (.string (fmtOf x)) ∧ Below w.heap.size w w' := by
  obtain ⟨a, c, rfl, _, _, hs⟩ := h.shape
  have hb := (Below.refl w.heap.size w).alloc (Nat.le_refl _) (.cells #[.slice a x.1.length c, .int .i64 x.2] 25)
  have h1 := h.below hb
  have B := Box2.new w (.slice a x.1.length c) (.int .i64 x.2) 25
  go_enter Tryd.func8, Tryd.ntmps8
  go_wp2_with fail
  generalize w.alloc (.cells #[.slice a x.1.length c, .int .i64 x.2] 25) = W at hb h1 B
  refine (implAffV_any P _ x W h1).mono ?_
  rintro e w1 ⟨rfl, b1⟩
  have h2 := h1.below b1
  obtain ⟨p0, p1, _, _, p4⟩ := B.below b1
  have hbb := hb.trans (b1.mono hb.size)
  clear h h1 hs B b1 hb
  cases hV : affV x
  · have Hr := hid (show fmtOf x = ⟨#[]⟩ by rw [fmtOf, hV]; rfl)
    clear hV
    go_wp2_with fail
    go_ret
    exact ⟨by rw [Hr.out]; rfl, hbb⟩
  · have Hr := hid (show fmtOf x = txtA x by rw [fmtOf, hV]; rfl)
    have HV := hid hV; clear hV
    go_wp2_with fail
    refine (affText_any P _ x w1 h2 HV.out).mono ?_
    rintro e w2 ⟨rfl, b2⟩
    have hbc := hbb.trans (b2.mono hbb.size)
    clear b2 h2 hbb
    go_wp2_with fail
    go_ret
    exact ⟨by rw [Hr.out]; rfl, hbc⟩
end Go.Proofs.YtkhlaphegnldeaaDoor
