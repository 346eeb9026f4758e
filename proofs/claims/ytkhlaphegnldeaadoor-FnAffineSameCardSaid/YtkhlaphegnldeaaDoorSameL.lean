/- The walk of FnAffineSame; condition: what the slices of bytes hold. -/
import Derived.Test.YtkhlaphegnldeaaDoorAffY
import Derived.Test.YtkhlaphegnldeaaDoorTxtQ
import Derived.Test.YtkhlaphegnldeaaDoorAffW
import Derived.Test.YtkhlaphegnldeaaDoorAffB
import Derived.Test.YtkhlaphegnldeaaDoorAffE
import Derived.Test.YtkhlaphegnldeaaDoorSame
import Derived.Test.YtkhlaphegnldeaaDoorAffP
namespace Go.Proofs.YtkhlaphegnldeaaDoor
set_option linter.unusedVariables false
set_option linter.unusedSimpArgs false
open Go.RowKit

theorem byteA_inj {a b : ByteArray} (h : a.data.toList = b.data.toList) : a = b := by
  cases a; cases b
  rw [Array.toList_inj] at h
  simp at h
  rw [h]
theorem sameOf_comm (x y : Aff) : sameOf y x = sameOf x y := by
  rw [sameOf_eq, sameOf_eq]; exact decide_eq_decide.2 ⟨fun h => h.symm, fun h => h.symm⟩
set_option maxHeartbeats 12800000 in
theorem lawSame (a : Option Addr) (n c : Nat) (bs : List Int) (w : World) (hx0 : n ≤ 1048576 → Sl Sh.byte (fun b => b < w.heap.size) w (.slice a n c) bs) (hbs : ∀ x ∈ bs, 0 ≤ x ∧ x ≤ 255) :
    Calls Tryd.prog 3 #[.slice a n c] w fun e w' => e = .returned (.bool true) ∧ Below w.heap.size w w' := by
  by_cases hn : 1048576 < n
  · have h1 : decide ((1048576 : Int) < (n : Int)) = true := by simp; omega
    go_enter Tryd.func3, Tryd.ntmps3
    go_wp2_with fail
    go_ret
    exact ⟨rfl, Below.refl _ _⟩
  have h1 : decide ((1048576 : Int) < (n : Int)) = false := by simp; omega
  have hx := hx0 (by omega)
  have Hbs := hid hbs
  clear hx0 hbs
  go_enter Tryd.func3, Tryd.ntmps3
  go_wp2_with fail
  refine (drawSame_any a n c bs w hx Hbs.out).mono ?_
  rintro e w1 ⟨v, u, x, y, rfl, hv, hu, lx, ly, hk⟩
  obtain ⟨ax, cx, rfl, _, _, _⟩ := hv.shape
  obtain ⟨ay, cy, rfl, _, _, _⟩ := hu.shape
  have hal := (((Below.refl w1.heap.size w1).alloc (Nat.le_refl _) (.cells #[(.slice ax x.1.length cx), (.int .i64 x.2)] 25)).alloc (by simp <;> omega) (.cells #[(.slice ay y.1.length cy), (.int .i64 y.2)] 25))
  replace hv := hv.below hal
  replace hu := hu.below hal
  have Ba := ((Box2.new w1 (.slice ax x.1.length cx) (.int .i64 x.2) 25).alloc (.cells #[(.slice ay y.1.length cy), (.int .i64 y.2)] 25))
  have Bb := (Box2.new (w1.alloc (.cells #[(.slice ax x.1.length cx), (.int .i64 x.2)] 25)) (.slice ay y.1.length cy) (.int .i64 y.2) 25)
  rw [World.size_alloc] at Bb
  replace hk := hk.trans (hal.mono hk.size)
  go_wp2_with fail
  generalize ((w1.alloc (.cells #[(.slice ax x.1.length cx), (.int .i64 x.2)] 25)).alloc (.cells #[(.slice ay y.1.length cy), (.int .i64 y.2)] 25)) = W1 at hv hu Ba Bb hal hk
  clear hal
  have Bac0 := Ba.c0; have Bac1 := Ba.c1; have Balt := Ba.lt
  have Bbc0 := Bb.c0; have Bbc1 := Bb.c1; have Bblt := Bb.lt
  refine (implSame_any _ _ _ _ x y _ hv hu).mono ?_
  rintro e W2 ⟨rfl, bb⟩
  replace hv := hv.below bb
  replace hu := hu.below bb
  replace Ba := Ba.below bb
  replace Bb := Bb.below bb
  replace hk := hk.trans (bb.mono hk.size)
  clear bb
  generalize hsm : sameOf x y = sm
  have Hsm := hid hsm; clear hsm
  clear Bac0 Bac1 Balt Bbc0 Bbc1 Bblt
  have Bac0 := Ba.c0; have Bac1 := Ba.c1; have Balt := Ba.lt
  have Bbc0 := Bb.c0; have Bbc1 := Bb.c1; have Bblt := Bb.lt
  go_wp2_with fail
  refine (specSame_any _ _ _ _ x y _ hv hu).mono ?_
  rintro e W3 ⟨rfl, bb⟩
  replace hv := hv.below bb
  replace hu := hu.below bb
  replace Ba := Ba.below bb
  replace Bb := Bb.below bb
  replace hk := hk.trans (bb.mono hk.size)
  clear bb
  rw [Hsm.out]
  clear Bac0 Bac1 Balt Bbc0 Bbc1 Bblt
  have Bac0 := Ba.c0; have Bac1 := Ba.c1; have Balt := Ba.lt
  have Bbc0 := Bb.c0; have Bbc1 := Bb.c1; have Bblt := Bb.lt
  go_wp2_with fail
  refine (implSame_any _ _ _ _ y x _ hu hv).mono ?_
  rintro e W4 ⟨rfl, bb⟩
  replace hv := hv.below bb
  replace hu := hu.below bb
  replace Ba := Ba.below bb
  replace Bb := Bb.below bb
  replace hk := hk.trans (bb.mono hk.size)
  clear bb
  rw [sameOf_comm x y, Hsm.out]
  clear Bac0 Bac1 Balt Bbc0 Bbc1 Bblt
  have Bac0 := Ba.c0; have Bac1 := Ba.c1; have Balt := Ba.lt
  have Bbc0 := Bb.c0; have Bbc1 := Bb.c1; have Bblt := Bb.lt
  go_wp2_with fail
  refine (implSame_any _ _ _ _ x x _ hv hv).mono ?_
  rintro e W5 ⟨rfl, bb⟩
  replace hv := hv.below bb
  replace hu := hu.below bb
  replace Ba := Ba.below bb
  replace Bb := Bb.below bb
  replace hk := hk.trans (bb.mono hk.size)
  clear bb
  rw [(sameOf_iff x x).2 rfl]
  clear Bac0 Bac1 Balt Bbc0 Bbc1 Bblt
  have Bac0 := Ba.c0; have Bac1 := Ba.c1; have Balt := Ba.lt
  have Bbc0 := Bb.c0; have Bbc1 := Bb.c1; have Bblt := Bb.lt
  go_wp2_with fail
  refine (fmt_any _ _ x _ hv).mono ?_
  rintro e W6 ⟨rfl, bb⟩
  replace hv := hv.below bb
  replace hu := hu.below bb
  replace Ba := Ba.below bb
  replace Bb := Bb.below bb
  replace hk := hk.trans (bb.mono hk.size)
  clear bb
  clear Bac0 Bac1 Balt Bbc0 Bbc1 Bblt
  have Bac0 := Ba.c0; have Bac1 := Ba.c1; have Balt := Ba.lt
  have Bbc0 := Bb.c0; have Bbc1 := Bb.c1; have Bblt := Bb.lt
  go_wp2_with fail
  refine (fmt_any _ _ y _ hu).mono ?_
  rintro e W7 ⟨rfl, bb⟩
  replace hv := hv.below bb
  replace hu := hu.below bb
  replace Ba := Ba.below bb
  replace Bb := Bb.below bb
  replace hk := hk.trans (bb.mono hk.size)
  clear bb
  clear Bac0 Bac1 Balt Bbc0 Bbc1 Bblt
  have Bac0 := Ba.c0; have Bac1 := Ba.c1; have Balt := Ba.lt
  have Bbc0 := Bb.c0; have Bbc1 := Bb.c1; have Bblt := Bb.lt
  cases hX : affV x
  · have Hf := hid (show fmtOf x = ⟨#[]⟩ by rw [fmtOf, hX]; rfl)
    rw [Hf.out]
    clear hX
    go_wp2_with fail
    go_ret
    exact ⟨rfl, hk⟩
  · cases hY : affV y
    · have Hf := hid (show fmtOf y = ⟨#[]⟩ by rw [fmtOf, hY]; rfl)
      rw [Hf.out]
      have hne := txt_ne x
      have Hg := hid (show fmtOf x = txtA x by rw [fmtOf, hX]; rfl)
      rw [Hg.out]
      clear hX hY
      generalize txtA x = s at hne
      go_wp2_with fail
      go_ret
      exact ⟨rfl, hk⟩
    · have Hf := hid (show fmtOf x = txtA x by rw [fmtOf, hX]; rfl)
      have Hg := hid (show fmtOf y = txtA y by rw [fmtOf, hY]; rfl)
      rw [Hf.out, Hg.out]
      have hnx := txt_ne x; have hny := txt_ne y
      have hst : decide (txtA x = txtA y) = sm := by rw [← Hsm.out, sameOf_eq]; exact decide_eq_decide.2 ⟨fun h => txt_inj hX hY h, fun h => by rw [h]⟩
      generalize txtA x = s at hnx hst
      generalize txtA y = t at hny hst
      have hst2 : (s.toList == t.toList) = sm := by rw [← hst, Bool.eq_iff_iff, beq_iff_eq, decide_eq_true_eq, ByteArray.toList_eq, ByteArray.toList_eq]; exact ⟨fun h => byteA_inj h, fun h => by rw [h]⟩
      clear hst
      clear hX hY
      go_wp2_with fail
      go_ret
      exact ⟨rfl, hk⟩
end Go.Proofs.YtkhlaphegnldeaaDoor
