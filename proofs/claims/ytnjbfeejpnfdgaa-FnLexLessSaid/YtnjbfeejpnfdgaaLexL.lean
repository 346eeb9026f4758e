/- spec.DrawLexLess, and the walk of FnLexLess; condition: what the slices of bytes hold. -/
import Derived.Test.YtnjbfeejpnfdgaaLex
import Derived.Test.YtnjbfeejpnfdgaaPlace
namespace Go.Proofs.Ytnjbfeejpnfdgaa
open Go.RowKit

/-- Two lists of at most m numbers, in memory of the call's own. -/
def DrawnTwo (m : Nat) (w : World) (e : Ending) (w' : World) : Prop :=
  ∃ v u xs ys, e = .returned (.tuple #[v, u]) ∧ OwnI w.heap.size w' v xs ∧ OwnI w.heap.size w' u ys ∧ xs.length ≤ m ∧ ys.length ≤ m ∧ Below w.heap.size w w'
theorem OwnI.slP {B : Nat} {P : Nat → Prop} {w : World} {v : Value} {xs : List Int} (h : OwnI B w v xs) (hn : xs.length ≤ 17592186044416) (hP : ∀ b, v.ownBlock = some b → P b) : Sl Sh.int P w v xs := (h.sl hn).mono fun b hb _ => hP b hb
theorem grown_belowAll {w0 w w' : World} {g : Nat} (hb : Below g w0 w) (h : w.grownBy w' (some g)) (hg : g ≤ w.heap.size) : Below g w0 w' := hb.grown h hg (fun k hk => by cases hk; exact Nat.le_refl _)

set_option maxHeartbeats 3200000 in
theorem drawLex_any (a : Option Addr) (n c : Nat) (bs : List Int) (w : World) (hx : Sl Sh.byte (fun b => b < w.heap.size) w (.slice a n c) bs) (hbs : ∀ x ∈ bs, 0 ≤ x ∧ x ≤ 255) :
    Calls Try.prog 26 #[.slice a n c] w (DrawnTwo 6 w) := by
  have Hbs := hid hbs; clear hbs
  go_enter Try.func26, Try.ntmps26
  go_wp2_with fail
  refine (l16Open_any a n c bs w hx Hbs.out).mono ?_
  rintro e w1 ⟨rfl, r1, b1⟩
  have hg1 := r1.lt
  have hb1 := b1.size
  go_wp2_with fail
  refine (l1Place_any w.heap.size 0 w1 r1 (by omega)).mono ?_
  rintro e w2 ⟨v, xs, p2, rfl, o2, hl2, r2, hp2, g2⟩
  have b2 := b1.grown g2 hb1 (fun k hk => by cases hk; exact Nat.le_refl _)
  have hs2 := g2.size
  obtain ⟨a2, c2, rfl, hc2⟩ := o2.shape
  have oe : OwnI w2.heap.size (w2.alloc (.cells #[] 3)) (.slice (some ⟨w2.heap.size, 0, none⟩) 0 0) [] := OwnI.empty w2 (Nat.le_refl _)
  have s2 : Sl Sh.int (fun b => b < w2.heap.size ∧ b ≠ w.heap.size) w2 (.slice a2 xs.length c2) xs := o2.slP (by omega) (fun b hb => ⟨(o2.lt b hb).2, by have := (o2.lt b hb).1; omega⟩)
  clear g2
  go_wp2_with (at_builtin; go_must (refine wpList_appSI _ rfl _ _ rfl w2.heap.size _ [] rfl oe _ _ _ xs (fun b => b < w2.heap.size ∧ b ≠ w.heap.size) rfl (s2.alloc _) ?_ ?_ ?c1 ?c2))
  case c1 => simp; omega
  case c2 => simp
  · intro b hb _ e
    have := Option.some.inj e
    simp at this
    omega
  intro v3 w3 o3 g3 b3 _
  try rw [List.nil_append] at o3
  obtain ⟨a3, c3, rfl, hc3⟩ := o3.shape
  have bb3 : Below w2.heap.size w2 w3 := ((Below.refl _ _).alloc (Nat.le_refl _) _).trans b3
  have b3' := b2.trans (bb3.mono b2.size)
  have r3 := r2.below bb3
  have o2' := o2.below bb3
  have hs3 := bb3.size
  clear g3 b3 oe
  have hlo : Hid (w2.heap.size ≤ w3.heap.size) := hs3
  by_cases hz : ¬ 0 < xs.length
  · have hz' : decide ((0 : Int) < (xs.length : Int)) = false := decide_eq_false (by omega)
    go_wp2_with fail
    refine (pick_any w.heap.size (p2) 4 _ r3 (by omega)).mono ?_
    rintro e w8 ⟨y8, rfl, _, _, _, r8, g8⟩
    have o2_8 := (o2').grown g8 (fun q hq e => by cases hq; have := (o2.lt _ e).1; omega)
    have o3_8 := (o3).grown g8 (fun q hq e => by cases hq; have := (o3.lt _ e).1; omega)
    have b8 := (b3').grown g8 (b3').size (fun k hk => by cases hk; exact Nat.le_refl _)
    clear g8
    cases hy8 : (y8 == 0)
    · go_wp2_with fail
      go_ret2
      exact ⟨_, _, xs, _, rfl, o2_8.base hb1, o3_8.base (by omega), hl2, by first | omega | (simp; omega), b8⟩
    · go_wp2_with fail
      refine (l1Place_any w.heap.size _ w8 r8 (by omega)).mono ?_
      rintro e w9 ⟨v9, zs, p9, rfl, o9, hl9, r9, hp9, g9⟩
      have hs8 := b8.size
      go_wp2_with fail
      go_ret2
      exact ⟨_, _, xs, zs, rfl, (o2_8.grown g9 (fun q hq e => by cases hq; have := (o2.lt _ e).1; omega)).base hb1, o9.base hs8, hl2, hl9, b8.grown g9 hs8 (fun k hk => by cases hk; exact Nat.le_refl _)⟩
  · have hz' : decide ((0 : Int) < (xs.length : Int)) = true := decide_eq_true (by omega)
    go_wp2_with fail
    refine (pick_any w.heap.size p2 2 _ r3 (by omega)).mono ?_
    rintro e w4 ⟨y4, rfl, _, _, _, r4, g4⟩
    have o2_4 := o2'.grown g4 (fun q hq e => by cases hq; have := (o2.lt _ e).1; omega)
    have o3_4 := o3.grown g4 (fun q hq e => by cases hq; have := (o3.lt _ e).1; omega)
    have b4 := b3'.grown g4 b3'.size (fun k hk => by cases hk; exact Nat.le_refl _)
    have hs4 := g4.size
    clear g4
    cases hy4 : (y4 == 0)
    · go_wp2_with fail
      refine (pick_any w.heap.size (p2 + 1) 4 _ r4 (by omega)).mono ?_
      rintro e w8 ⟨y8, rfl, _, _, _, r8, g8⟩
      have o2_8 := (o2_4).grown g8 (fun q hq e => by cases hq; have := (o2.lt _ e).1; omega)
      have o3_8 := (o3_4).grown g8 (fun q hq e => by cases hq; have := (o3.lt _ e).1; omega)
      have b8 := (b4).grown g8 (b4).size (fun k hk => by cases hk; exact Nat.le_refl _)
      clear g8
      cases hy8 : (y8 == 0)
      · go_wp2_with fail
        go_ret2
        exact ⟨_, _, xs, _, rfl, o2_8.base hb1, o3_8.base (by omega), hl2, by first | omega | (simp; omega), b8⟩
      · go_wp2_with fail
        refine (l1Place_any w.heap.size _ w8 r8 (by omega)).mono ?_
        rintro e w9 ⟨v9, zs, p9, rfl, o9, hl9, r9, hp9, g9⟩
        have hs8 := b8.size
        go_wp2_with fail
        go_ret2
        exact ⟨_, _, xs, zs, rfl, (o2_8.grown g9 (fun q hq e => by cases hq; have := (o2.lt _ e).1; omega)).base hb1, o9.base hs8, hl2, hl9, b8.grown g9 hs8 (fun k hk => by cases hk; exact Nat.le_refl _)⟩
    · go_wp2_with fail
      refine (pick_any w.heap.size (p2 + 1) xs.length _ r4 (by omega)).mono ?_
      rintro e w5 ⟨y5, rfl, hy5, hy5', _, r5, g5⟩
      have hy5'' := hy5' (by omega)
      obtain ⟨i5, rfl⟩ : ∃ i : Nat, y5 = i := ⟨y5.toNat, by omega⟩
      have o2_5 := o2_4.grown g5 (fun q hq e => by cases hq; have := (o2.lt _ e).1; omega)
      have o3_5 := o3_4.grown g5 (fun q hq e => by cases hq; have := (o3.lt _ e).1; omega)
      have b5 := b4.grown g5 b4.size (fun k hk => by cases hk; exact Nat.le_refl _)
      have hs5 := g5.size
      clear g5 hy5'
      go_wp2_with fail
      refine (num_lit w.heap.size (p2 + 1 + 1) _ _ [0, 1, 2, -1] _ _ r5 (by omega) rfl rfl rfl (by decide) (by decide)).mono ?_
      rintro e w6 ⟨y6, rfl, _, r6, g6⟩
      have o2_6 := o2_5.grown g6 (fun q hq e => by cases hq; have := (o2.lt _ e).1; omega)
      have o3_6 := o3_5.grown g6 (fun q hq e => by cases hq; have := (o3.lt _ e).1; omega)
      have b6 := b5.grown g6 b5.size (fun k hk => by cases hk; exact Nat.le_refl _)
      have hs6 := g6.size
      clear g6
      obtain ⟨g, off, rfl, hgB, hgl, _, hcell, hfr⟩ := o3_6.at (by omega)
      have hc6 := hcell i5 (by omega)
      have hf6 := hfr (off + i5)
      have o3_7 := o3_6.set i5 y6
      have g7 : w6.grownBy (w6.setCell ⟨g, off + i5, none⟩ (.int .i64 y6)) (some g) := setCell_grown w6 ⟨g, off + i5, none⟩ (.int .i64 y6)
      have o2_7 := o2_6.grown g7 (fun q hq e => by cases hq; have := (o2.lt _ e).2; omega)
      have r7 := r6.grown g7 (fun q hq => by cases hq; show _ < g; omega)
      have b7 := b6.grown g7 b6.size (fun k hk => by cases hk; show _ ≤ g; omega)
      have O3_7 := hid o3_7; have O2_7 := hid o2_7; have R7 := hid r7; have B7 := hid b7
      clear o3_7 o2_7 r7 b7 g7 hcell hfr
      go_wp2_with fail
      refine (pick_any w.heap.size (p2 + 1 + 1 + 1) 4 _ R7.out (by omega)).mono ?_
      rintro e w8 ⟨y8, rfl, _, _, _, r8, g8⟩
      have o2_8 := (O2_7.out).grown g8 (fun q hq e => by cases hq; have := (o2.lt _ e).1; omega)
      have o3_8 := (O3_7.out).grown g8 (fun q hq e => by cases hq; have := (o3.lt _ e).1; omega)
      have b8 := (B7.out).grown g8 (B7.out).size (fun k hk => by cases hk; exact Nat.le_refl _)
      clear g8
      cases hy8 : (y8 == 0)
      · go_wp2_with fail
        go_ret2
        exact ⟨_, _, xs, _, rfl, o2_8.base hb1, o3_8.base (by omega), hl2, by first | omega | (simp; omega), b8⟩
      · go_wp2_with fail
        refine (l1Place_any w.heap.size _ w8 r8 (by omega)).mono ?_
        rintro e w9 ⟨v9, zs, p9, rfl, o9, hl9, r9, hp9, g9⟩
        have hs8 := b8.size
        go_wp2_with fail
        go_ret2
        exact ⟨_, _, xs, zs, rfl, (o2_8.grown g9 (fun q hq e => by cases hq; have := (o2.lt _ e).1; omega)).base hb1, o9.base hs8, hl2, hl9, b8.grown g9 hs8 (fun k hk => by cases hk; exact Nat.le_refl _)⟩

theorem lexB_self (xs : List Int) : lexB xs xs = false := by rw [lexB, cmpL_self]; rfl
theorem lexB_asymm {xs ys : List Int} (h : lexB xs ys = true) : lexB ys xs = false := by
  have := of_decide_eq_true h
  rw [lexB, cmpL_anti xs ys]
  exact decide_eq_false (by omega)
theorem lexB_total {xs ys : List Int} (h1 : lexB xs ys = false) (h2 : lexB ys xs = false) : decide (xs = ys) = true := by
  have h1 := of_decide_eq_false h1
  have h2 := of_decide_eq_false h2
  rw [cmpL_anti xs ys] at h2
  exact decide_eq_true (cmpL_zero xs ys (by omega))
theorem lexB_trans {xs ys zs : List Int} (h1 : lexB xs ys = true) (h2 : lexB ys zs = true) : lexB xs zs = true :=
  decide_eq_true (cmpL_trans xs ys zs (of_decide_eq_true h1) (of_decide_eq_true h2))

set_option maxHeartbeats 3200000 in
theorem lawLex (a0 a1 : Option Addr) (n0 c0 n1 c1 : Nat) (bs cs : List Int) (w : World) (hx0 : n0 ≤ 1048576 → Sl Sh.byte (fun b => b < w.heap.size) w (.slice a0 n0 c0) bs) (hbs : ∀ x ∈ bs, 0 ≤ x ∧ x ≤ 255)
    (hy0 : n1 ≤ 1048576 → Sl Sh.byte (fun b => b < w.heap.size) w (.slice a1 n1 c1) cs) (hcs : ∀ x ∈ cs, 0 ≤ x ∧ x ≤ 255) :
    Calls Try.prog 8 #[.slice a0 n0 c0, .slice a1 n1 c1] w fun e w' => e = .returned (.bool true) ∧ Below w.heap.size w w' := by
  have Hbs := hid hbs; clear hbs
  have Hcs := hid hcs; clear hcs
  by_cases hn : 1048576 < n0
  · have h1 : decide ((1048576 : Int) < (n0 : Int)) = true := by simp; omega
    go_enter Try.func8, Try.ntmps8
    go_wp2_with fail
    go_ret
    exact ⟨rfl, Below.refl _ _⟩
  have h1 : decide ((1048576 : Int) < (n0 : Int)) = false := by simp; omega
  by_cases hn1 : 1048576 < n1
  · have h2 : decide ((1048576 : Int) < (n1 : Int)) = true := by simp; omega
    go_enter Try.func8, Try.ntmps8
    go_wp2_with fail
    go_ret
    exact ⟨rfl, Below.refl _ _⟩
  have h2 : decide ((1048576 : Int) < (n1 : Int)) = false := by simp; omega
  have hx := hx0 (by omega)
  have hy := hy0 (by omega)
  clear hx0 hy0
  go_enter Try.func8, Try.ntmps8
  go_wp2_with fail
  refine (drawLex_any a0 n0 c0 bs w hx Hbs.out).mono ?_
  rintro e w1 ⟨v, u, xs, ys, rfl, ox, oy, hlx, hly, b1⟩
  obtain ⟨av, cv, rfl, hcv⟩ := ox.shape
  obtain ⟨au, cu, rfl, hcu⟩ := oy.shape
  go_wp2_with fail
  refine (drawLex_any a1 n1 c1 cs w1 ((hy.below b1).mono fun b hb _ => Nat.lt_of_lt_of_le hb b1.size) Hcs.out).mono ?_
  rintro e w2 ⟨v', u', zs', zs, rfl, oz', oz, hlz', hlz, b2⟩
  obtain ⟨av', cv', rfl, hcv'⟩ := oz'.shape
  obtain ⟨au', cu', rfl, hcu'⟩ := oz.shape
  have b3 := b1.trans (b2.mono b1.size)
  have sx := (ox.below b2).slP (P := fun _ => True) (by omega) (fun _ _ => trivial)
  have sy := (oy.below b2).slP (P := fun _ => True) (by omega) (fun _ _ => trivial)
  have sz := oz.slP (P := fun _ => True) (by omega) (fun _ _ => trivial)
  have hss := lexB_self xs
  clear ox oy oz oz' hx hy
  cases hA : lexB xs ys
  · cases hB : lexB ys xs
    · have hE := lexB_total hA hB
      go_wp2_with fail
      refine (implLex_any _ _ _ _ _ _ _ _ xs ys _ sx sy).mono ?_
      rintro e w' ⟨rfl, rfl⟩
      go_wp2_with fail
      refine (implLex_any _ _ _ _ _ _ _ _ ys xs _ sy sx).mono ?_
      rintro e w' ⟨rfl, rfl⟩
      go_wp2_with fail
      refine (specLex_any _ _ _ _ _ _ _ _ xs ys _ sx sy).mono ?_
      rintro e w3 ⟨rfl, q3⟩
      have sx3 := sx.quiet q3
      have sy3 := sy.quiet q3
      have sz3 := sz.quiet q3
      have b4 := b3.trans (q3.below _)
      go_wp2_with fail
      refine (lnInts_any _ _ _ _ _ _ _ _ xs ys _ sx3 sy3).mono ?_
      rintro e w4 ⟨rfl, q4⟩
      have sx4 := sx3.quiet q4
      have b5 := b4.trans (q4.below _)
      go_wp2_with fail
      refine (implLex_any _ _ _ _ _ _ _ _ xs xs _ sx4 sx4).mono ?_
      rintro e w' ⟨rfl, rfl⟩
      go_wp2_with fail
      go_ret
      exact ⟨rfl, b5⟩
    · skip
      go_wp2_with fail
      refine (implLex_any _ _ _ _ _ _ _ _ xs ys _ sx sy).mono ?_
      rintro e w' ⟨rfl, rfl⟩
      go_wp2_with fail
      refine (implLex_any _ _ _ _ _ _ _ _ ys xs _ sy sx).mono ?_
      rintro e w' ⟨rfl, rfl⟩
      go_wp2_with fail
      refine (specLex_any _ _ _ _ _ _ _ _ xs ys _ sx sy).mono ?_
      rintro e w3 ⟨rfl, q3⟩
      have sx3 := sx.quiet q3
      have sy3 := sy.quiet q3
      have sz3 := sz.quiet q3
      have b4 := b3.trans (q3.below _)
      go_wp2_with fail
      refine (implLex_any _ _ _ _ _ _ _ _ xs xs _ sx3 sx3).mono ?_
      rintro e w' ⟨rfl, rfl⟩
      go_wp2_with fail
      go_ret
      exact ⟨rfl, b4⟩
  · have hB := lexB_asymm hA
    cases hC : lexB ys zs
    · skip
      go_wp2_with fail
      refine (implLex_any _ _ _ _ _ _ _ _ xs ys _ sx sy).mono ?_
      rintro e w' ⟨rfl, rfl⟩
      go_wp2_with fail
      refine (implLex_any _ _ _ _ _ _ _ _ ys xs _ sy sx).mono ?_
      rintro e w' ⟨rfl, rfl⟩
      go_wp2_with fail
      refine (specLex_any _ _ _ _ _ _ _ _ xs ys _ sx sy).mono ?_
      rintro e w3 ⟨rfl, q3⟩
      have sx3 := sx.quiet q3
      have sy3 := sy.quiet q3
      have sz3 := sz.quiet q3
      have b4 := b3.trans (q3.below _)
      go_wp2_with fail
      refine (implLex_any _ _ _ _ _ _ _ _ xs xs _ sx3 sx3).mono ?_
      rintro e w' ⟨rfl, rfl⟩
      go_wp2_with fail
      refine (implLex_any _ _ _ _ _ _ _ _ ys zs _ sy3 sz3).mono ?_
      rintro e w' ⟨rfl, rfl⟩
      go_wp2_with fail
      go_ret
      exact ⟨rfl, b4⟩
    · have hD := lexB_trans hA hC
      go_wp2_with fail
      refine (implLex_any _ _ _ _ _ _ _ _ xs ys _ sx sy).mono ?_
      rintro e w' ⟨rfl, rfl⟩
      go_wp2_with fail
      refine (implLex_any _ _ _ _ _ _ _ _ ys xs _ sy sx).mono ?_
      rintro e w' ⟨rfl, rfl⟩
      go_wp2_with fail
      refine (specLex_any _ _ _ _ _ _ _ _ xs ys _ sx sy).mono ?_
      rintro e w3 ⟨rfl, q3⟩
      have sx3 := sx.quiet q3
      have sy3 := sy.quiet q3
      have sz3 := sz.quiet q3
      have b4 := b3.trans (q3.below _)
      go_wp2_with fail
      refine (implLex_any _ _ _ _ _ _ _ _ xs xs _ sx3 sx3).mono ?_
      rintro e w' ⟨rfl, rfl⟩
      go_wp2_with fail
      refine (implLex_any _ _ _ _ _ _ _ _ ys zs _ sy3 sz3).mono ?_
      rintro e w' ⟨rfl, rfl⟩
      go_wp2_with fail
      refine (implLex_any _ _ _ _ _ _ _ _ xs zs _ sx3 sz3).mono ?_
      rintro e w' ⟨rfl, rfl⟩
      go_wp2_with fail
      go_ret
      exact ⟨rfl, b4⟩
end Go.Proofs.Ytnjbfeejpnfdgaa
