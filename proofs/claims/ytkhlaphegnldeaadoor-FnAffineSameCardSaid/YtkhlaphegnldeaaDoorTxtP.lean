/- The text of a valid affine expression tells the expression: the plain law; no condition. -/
import Derived.Test.YtkhlaphegnldeaaDoorAffV
import Derived.Lib.ItoaNum
namespace Go.Proofs.YtkhlaphegnldeaaDoor
set_option linter.unusedVariables false
set_option linter.unusedSimpArgs false
open Go.RowKit

def dec1 (m : Nat) : List UInt8 := if m < 10 then [UInt8.ofNat (48 + m)] else [UInt8.ofNat (48 + m / 10), UInt8.ofNat (48 + m % 10)]
theorem dec1_eq {m : Nat} (h : m < 100) : Lib.decDigits m = dec1 m := by
  unfold dec1
  split
  · rename_i h1; exact Lib.decDigits_one h1
  · rename_i h1; exact Lib.decDigits_two h1 h
def sg (b : Bool) (n : Int) : List UInt8 := if n < 0 then [45] else if b then [] else [43]
def seg (b : Bool) (c : Int) : List UInt8 := sg b c ++ (if 1 < c.natAbs then dec1 c.natAbs ++ [42] else [])
def kst (b : Bool) (k : Int) : List UInt8 := sg b k ++ dec1 k.natAbs
def G : List (UInt8 × Int) → Int → Bool → List UInt8
  | [], k, b => if k = 0 then [] else kst b k
  | (nm, c) :: l, k, b => if c = 0 then G l k b else seg b c ++ nm :: G l k false
def alpha : List UInt8 := [42, 43, 45, 48, 49, 50, 51, 52, 53, 54, 55, 56, 57]
def num (l : List UInt8) : Int := l.foldl (fun a d => a * 10 + ((d.toNat : Int) - 48)) 0
def kval : List UInt8 → Int
  | 45 :: r => -(num r)
  | 43 :: r => num r
  | r => num r
theorem seg_fin : ∀ (b : Bool) (i j : Fin 19), i.val ≠ 9 → j.val ≠ 9 → seg b ((i.val : Int) - 9) = seg b ((j.val : Int) - 9) → i = j := by decide +kernel
theorem segA_fin : ∀ (b : Bool) (i : Fin 19), (seg b ((i.val : Int) - 9)).all (fun z => alpha.contains z) = true := by decide +kernel
theorem kst_fin : ∀ (b : Bool) (i : Fin 199), kval (kst b ((i.val : Int) - 99)) = (i.val : Int) - 99 := by decide +kernel
theorem kstA_fin : ∀ (b : Bool) (i : Fin 199), (kst b ((i.val : Int) - 99)).all (fun z => alpha.contains z) = true := by decide +kernel
theorem seg_inj {b : Bool} {c d : Int} (hc : -9 ≤ c ∧ c ≤ 9) (hd : -9 ≤ d ∧ d ≤ 9) (c0 : c ≠ 0) (d0 : d ≠ 0) (h : seg b c = seg b d) : c = d := by
  have e1 : c = (((⟨(c + 9).toNat, by omega⟩ : Fin 19).val : Nat) : Int) - 9 := by show c = ((c + 9).toNat : Int) - 9; omega
  have e2 : d = (((⟨(d + 9).toNat, by omega⟩ : Fin 19).val : Nat) : Int) - 9 := by show d = ((d + 9).toNat : Int) - 9; omega
  rw [e1, e2] at h
  have := seg_fin b _ _ (by show (c + 9).toNat ≠ 9; omega) (by show (d + 9).toNat ≠ 9; omega) h
  have h5 : (c + 9).toNat = (d + 9).toNat := congrArg Fin.val this
  omega
theorem seg_alpha {b : Bool} {c : Int} (hc : -9 ≤ c ∧ c ≤ 9) {z : UInt8} (hz : z ∈ seg b c) : z ∈ alpha := by
  have e1 : c = (((⟨(c + 9).toNat, by omega⟩ : Fin 19).val : Nat) : Int) - 9 := by show c = ((c + 9).toNat : Int) - 9; omega
  have := segA_fin b ⟨(c + 9).toNat, by omega⟩
  rw [← e1, List.all_eq_true] at this
  simpa using this z hz
theorem kst_val {b : Bool} {k : Int} (hk : -99 ≤ k ∧ k ≤ 99) : kval (kst b k) = k := by
  have e1 : k = (((⟨(k + 99).toNat, by omega⟩ : Fin 199).val : Nat) : Int) - 99 := by show k = ((k + 99).toNat : Int) - 99; omega
  have := kst_fin b ⟨(k + 99).toNat, by omega⟩
  rw [← e1] at this
  exact this
theorem kst_alpha {b : Bool} {k : Int} (hk : -99 ≤ k ∧ k ≤ 99) {z : UInt8} (hz : z ∈ kst b k) : z ∈ alpha := by
  have e1 : k = (((⟨(k + 99).toNat, by omega⟩ : Fin 199).val : Nat) : Int) - 99 := by show k = ((k + 99).toNat : Int) - 99; omega
  have := kstA_fin b ⟨(k + 99).toNat, by omega⟩
  rw [← e1, List.all_eq_true] at this
  simpa using this z hz
theorem kst_ne (b : Bool) (k : Int) : kst b k ≠ [] := by
  unfold kst dec1
  split <;> simp
theorem mem_G {z : UInt8} : ∀ (l : List (UInt8 × Int)) (k : Int) (b : Bool), (∀ p ∈ l, -9 ≤ p.2 ∧ p.2 ≤ 9) → (-99 ≤ k ∧ k ≤ 99) → z ∈ G l k b → z ∈ alpha ∨ z ∈ l.map Prod.fst
  | [], k, b, _, hk, h => by
    rw [G] at h
    split at h
    · simp at h
    · exact .inl (kst_alpha hk h)
  | (nm, c) :: l, k, b, hl, hk, h => by
    have hl' := fun p hp => hl p (List.mem_cons_of_mem _ hp)
    rw [G] at h
    split at h
    · rcases mem_G l k b hl' hk h with h1 | h1
      · exact .inl h1
      · exact .inr (List.mem_cons_of_mem _ h1)
    · rw [List.mem_append, List.mem_cons] at h
      rcases h with h1 | h1 | h1
      · exact .inl (seg_alpha (hl _ (List.mem_cons_self ..)) h1)
      · exact .inr (by rw [h1]; exact List.mem_cons_self ..)
      · rcases mem_G l k false hl' hk h1 with h2 | h2
        · exact .inl h2
        · exact .inr (List.mem_cons_of_mem _ h2)
theorem cut_eq {nm : UInt8} : ∀ {p q r s : List UInt8}, nm ∉ p → nm ∉ q → p ++ nm :: r = q ++ nm :: s → p = q ∧ r = s
  | [], [], r, s, _, _, h => by simp at h; exact ⟨rfl, h⟩
  | [], y :: q, r, s, _, hq, h => by simp at h; exact absurd (List.mem_cons.2 (.inl h.1)) hq
  | x :: p, [], r, s, hp, _, h => by simp at h; exact absurd (List.mem_cons.2 (.inl h.1.symm)) hp
  | x :: p, y :: q, r, s, hp, hq, h => by
    simp at h
    obtain ⟨h1, h2⟩ := cut_eq (fun hm => hp (List.mem_cons_of_mem _ hm)) (fun hm => hq (List.mem_cons_of_mem _ hm)) h.2
    exact ⟨by rw [h.1, h1], h2⟩
theorem G_inj : ∀ (nms : List UInt8) (cs ds : List Int) (k k' : Int) (b : Bool), cs.length = nms.length → ds.length = nms.length → nms.Nodup → (∀ n ∈ nms, n ∉ alpha) → (∀ c ∈ cs, -9 ≤ c ∧ c ≤ 9) → (∀ c ∈ ds, -9 ≤ c ∧ c ≤ 9) →
    (-99 ≤ k ∧ k ≤ 99) → (-99 ≤ k' ∧ k' ≤ 99) → G (nms.zip cs) k b = G (nms.zip ds) k' b → cs = ds ∧ k = k'
  | [], cs, ds, k, k', b, h1, h2, _, _, _, _, hk, hk', h => by
    have e1 : cs = [] := List.eq_nil_of_length_eq_zero (by simpa using h1)
    have e2 : ds = [] := List.eq_nil_of_length_eq_zero (by simpa using h2)
    subst e1 e2
    simp only [List.zip_nil_left, G] at h
    refine ⟨rfl, ?_⟩
    split at h <;> split at h
    · omega
    · exact absurd h.symm (kst_ne _ _)
    · exact absurd h (kst_ne _ _)
    · rw [← kst_val (b := b) hk, h, kst_val hk']
  | nm :: nms, cs, ds, k, k', b, h1, h2, hn, ha, hc, hd, hk, hk', h => by
    match cs, ds, h1, h2, hc, hd, h with
    | c :: cs, d :: ds, h1, h2, hc, hd, h =>
      have hcs := fun x hx => hc x (List.mem_cons_of_mem _ hx)
      have hds := fun x hx => hd x (List.mem_cons_of_mem _ hx)
      have hc0 := hc c (List.mem_cons_self ..)
      have hd0 := hd d (List.mem_cons_self ..)
      have l1 : cs.length = nms.length := by simpa using h1
      have l2 : ds.length = nms.length := by simpa using h2
      have hn' := List.nodup_cons.1 hn
      have ha' := fun x hx => ha x (List.mem_cons_of_mem _ hx)
      have hnm := ha nm (List.mem_cons_self ..)
      have zc : ∀ p ∈ nms.zip cs, -9 ≤ p.2 ∧ p.2 ≤ 9 := fun p hp => hcs _ (List.of_mem_zip hp).2
      have zd : ∀ p ∈ nms.zip ds, -9 ≤ p.2 ∧ p.2 ≤ 9 := fun p hp => hds _ (List.of_mem_zip hp).2
      have no : ∀ (es : List Int) (kk : Int) (bb : Bool), es.length = nms.length → (∀ p ∈ nms.zip es, -9 ≤ p.2 ∧ p.2 ≤ 9) → (-99 ≤ kk ∧ kk ≤ 99) → nm ∉ G (nms.zip es) kk bb := fun es kk bb le hz hkk hm => by
        rcases mem_G _ kk bb hz hkk hm with h5 | h5
        · exact hnm h5
        · rw [List.map_fst_zip (by omega)] at h5; exact hn'.1 h5
      simp only [List.zip_cons_cons, G] at h
      by_cases c0 : c = 0 <;> by_cases d0 : d = 0
      · rw [if_pos c0, if_pos d0] at h
        obtain ⟨e1, e2⟩ := G_inj nms cs ds k k' b l1 l2 hn'.2 ha' hcs hds hk hk' h
        exact ⟨by rw [c0, d0, e1], e2⟩
      · rw [if_pos c0, if_neg d0] at h
        exact absurd (by rw [h]; simp) (no cs k b l1 zc hk)
      · rw [if_neg c0, if_pos d0] at h
        exact absurd (by rw [← h]; simp) (no ds k' b l2 zd hk')
      · rw [if_neg c0, if_neg d0] at h
        obtain ⟨e1, e2⟩ := cut_eq (fun hm => hnm (seg_alpha hc0 hm)) (fun hm => hnm (seg_alpha hd0 hm)) h
        obtain ⟨e3, e4⟩ := G_inj nms cs ds k k' false l1 l2 hn'.2 ha' hcs hds hk hk' e2
        exact ⟨by rw [seg_inj hc0 hd0 c0 d0 e1, e3], e4⟩
theorem G_ne48 : ∀ (l : List (UInt8 × Int)) (k : Int) (b : Bool), (∀ p ∈ l, p.1 ∉ alpha) → (-99 ≤ k ∧ k ≤ 99) → G l k b ≠ [48]
  | [], k, b, _, hk, h => by
    rw [G] at h
    split at h
    · simp at h
    · rename_i h0
      have := kst_val (b := b) hk
      rw [h] at this
      exact h0 (by rw [← this]; decide)
  | (nm, c) :: l, k, b, hl, hk, h => by
    rw [G] at h
    split at h
    · exact G_ne48 l k b (fun p hp => hl p (List.mem_cons_of_mem _ hp)) hk h
    · have : nm ∈ ([48] : List UInt8) := by rw [← h]; simp
      have e : nm = 48 := by simpa using this
      exact hl _ (List.mem_cons_self ..) (by show nm ∈ alpha; rw [e]; decide)
end Go.Proofs.YtkhlaphegnldeaaDoor
