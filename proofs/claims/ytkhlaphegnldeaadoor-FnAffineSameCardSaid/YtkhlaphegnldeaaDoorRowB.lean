/- How an argument that is a slice of bytes is read; no condition. -/
import Derived.Test.YtkhlaphegnldeaaDoorRow
import Derived.Test.YtkhlaphegnldeaaDoorRep
namespace Go.Proofs.YtkhlaphegnldeaaDoor
set_option linter.unusedVariables false
set_option linter.unusedSimpArgs false
open Go.RowKit

theorem IsRow.bytes {w : World} {a : Option Addr} {n cap : Nat} {zs : List Int} (h : IsRow .u8 w a n cap zs) (hn : n ≤ 17592186044416) : Sl Sh.byte (fun b => b < w.heap.size) w (.slice a n cap) (zs.take n) := by
  rcases h with ⟨rfl, rfl, rfl, rfl⟩ | ⟨x, rfl, h1, _, h2, h3, _⟩
  · exact Sl.nil _ _ _
  · have hl : (zs.take n).length = n := by rw [List.length_take]; omega
    refine ⟨_, cap, by rw [hl], by rw [hl]; exact h1, by rw [hl]; exact hn, (fun e => by cases e), fun i y hy => ?_⟩
    have hi : i < n := by rw [← hl]; exact (List.getElem?_eq_some_iff.1 hy).1
    have hc := h3 i (by omega)
    obtain ⟨b, off, spot⟩ := x
    have hs : spot = none := by
      have h0 := h3 0 (by omega)
      simpa [Addr.add] using World.cell?_spot h0
    subst hs
    rw [Addr.add_lit] at hc
    rw [List.getElem?_take, if_pos hi] at hy
    rw [List.getD, hy] at hc
    refine ⟨b, off, [.int .u8 y], rfl, World.block_lt_of_cell? _ _ hc, rfl, fun j c hj => ?_⟩
    cases j with
    | succ j => simp at hj
    | zero =>
      simp only [List.getElem?_cons_zero, Option.some.injEq] at hj
      subst hj
      simpa [Sh.byte] using hc
theorem IsRow.bytesBd {w : World} {a : Option Addr} {n cap : Nat} {zs : List Int} (h : IsRow .u8 w a n cap zs) : ∀ x ∈ zs.take n, 0 ≤ x ∧ x ≤ 255 := by
  intro x hx
  have := h.wf x hx
  simp [Lit.wf, IntKind.min, IntKind.max, IntKind.bits, IntKind.signed] at this
  omega
end Go.Proofs.YtkhlaphegnldeaaDoor
