/- The text of a valid affine expression tells the expression; no condition. -/
import Derived.Test.YtkhlaphegnldeaaDoorTxt
import Derived.Test.YtkhlaphegnldeaaDoorTxtP
namespace Go.Proofs.YtkhlaphegnldeaaDoor
set_option linter.unusedVariables false
set_option linter.unusedSimpArgs false
open Go.RowKit

theorem L_sgn (s : ByteArray) (n : Int) : (sgnA s n).data.toList = s.data.toList ++ sg s.data.toList.isEmpty n := by
  unfold sgnA sg
  rw [ByteArray.toList_eq]
  split
  · rw [ByteArray.data_append, Array.toList_append]
  · split
    · simp
    · rw [ByteArray.data_append, Array.toList_append]
theorem L_dec {n : Int} (h : n.natAbs < 100) : (decA n).data.toList = dec1 n.natAbs := by
  rw [decA, dec1_eq h]
theorem L_term {s : ByteArray} {c : Int} {j : Nat} {nm : UInt8} (hj : ((⟨#[105, 106, 107, 108]⟩ : ByteArray).extract j (j + 1)).data.toList = [nm]) (hc : -9 ≤ c ∧ c ≤ 9) (c0 : c ≠ 0) :
    (termA s c j).data.toList = s.data.toList ++ (seg s.data.toList.isEmpty c ++ [nm]) := by
  rw [termA, if_neg c0, ByteArray.data_append, Array.toList_append, hj, seg]
  split
  · rename_i h1
    rw [ByteArray.data_append, Array.toList_append, ByteArray.data_append, Array.toList_append, L_sgn, L_dec (by omega)]
    simp
  · rw [L_sgn]; simp
theorem G_step {s : ByteArray} {c : Int} {j : Nat} {nm : UInt8} (hj : ((⟨#[105, 106, 107, 108]⟩ : ByteArray).extract j (j + 1)).data.toList = [nm]) (hc : -9 ≤ c ∧ c ≤ 9) (l : List (UInt8 × Int)) (k : Int) :
    s.data.toList ++ G ((nm, c) :: l) k s.data.toList.isEmpty = (termA s c j).data.toList ++ G l k (termA s c j).data.toList.isEmpty := by
  by_cases c0 : c = 0
  · rw [G, if_pos c0, termA, if_pos c0]
  · rw [G, if_neg c0, L_term hj hc c0]
    have : (s.data.toList ++ (seg s.data.toList.isEmpty c ++ [nm])).isEmpty = false := by simp
    rw [this]
    simp
theorem raw_G {x : Aff} (h : affV x = true) : (rawA x).data.toList = G (([105, 106, 107, 108] : List UInt8).zip x.1) x.2 true := by
  have hl := list4 (affV_len h)
  have hc := affV_getD h
  have hk := affV_const h
  have e : G (([105, 106, 107, 108] : List UInt8).zip x.1) x.2 true = (⟨#[]⟩ : ByteArray).data.toList ++ G [(105, x.1.getD 0 0), (106, x.1.getD 1 0), (107, x.1.getD 2 0), (108, x.1.getD 3 0)] x.2 (⟨#[]⟩ : ByteArray).data.toList.isEmpty := by
    conv => lhs; rw [hl]
    rfl
  rw [e, G_step (j := 0) (by decide) (hc 0), G_step (j := 1) (by decide) (hc 1), G_step (j := 2) (by decide) (hc 2), G_step (j := 3) (by decide) (hc 3)]
  show (rawA x).data.toList = (preA x.1 4).data.toList ++ G [] x.2 (preA x.1 4).data.toList.isEmpty
  rw [rawA, G]
  split
  · simp
  · rw [ByteArray.data_append, Array.toList_append, L_sgn, L_dec (by omega), kst]; simp
theorem nms_alpha : ∀ n ∈ ([105, 106, 107, 108] : List UInt8), n ∉ alpha := by decide
theorem txt_inj {x y : Aff} (hx : affV x = true) (hy : affV y = true) (h : txtA x = txtA y) : x = y := by
  have gx := raw_G hx
  have gy := raw_G hy
  have key : (rawA x).data.toList = (rawA y).data.toList → x = y := by
    intro e
    rw [gx, gy] at e
    obtain ⟨e1, e2⟩ := G_inj _ x.1 y.1 x.2 y.2 true (by rw [affV_len hx]; rfl) (by rw [affV_len hy]; rfl) (by decide) nms_alpha (affV_coef hx) (affV_coef hy) (affV_const hx) (affV_const hy) e
    exact Prod.ext e1 e2
  have n48 : ∀ z : Aff, affV z = true → rawA z ≠ ⟨#[48]⟩ := by
    intro z hz e
    have gz := raw_G hz
    rw [e] at gz
    exact G_ne48 _ _ _ (fun p hp => nms_alpha _ (List.of_mem_zip hp).1) (affV_const hz) gz.symm
  unfold txtA at h
  rw [ByteArray.toList_eq, ByteArray.toList_eq] at h
  split at h <;> split at h
  · rename_i h1 h2
    exact key (by rw [List.isEmpty_iff.1 h1, List.isEmpty_iff.1 h2])
  · exact absurd h.symm (n48 y hy)
  · exact absurd h (n48 x hx)
  · exact key (by rw [h])
theorem txt_ne (x : Aff) : (txtA x).toList.isEmpty = false := by
  unfold txtA
  split
  · rw [ByteArray.toList_eq]; rfl
  · rename_i h; simpa using h
end Go.Proofs.YtkhlaphegnldeaaDoor
