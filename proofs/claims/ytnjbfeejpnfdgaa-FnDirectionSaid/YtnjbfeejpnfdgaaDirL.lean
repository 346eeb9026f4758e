/- The walk of FnDirection; condition: what the slice of bytes holds. -/
import Derived.Test.YtnjbfeejpnfdgaaDrawDir
namespace Go.Proofs.Ytnjbfeejpnfdgaa
open Go.RowKit

theorem OwnI.intP {B : Nat} {w : World} {v : Value} {xs : List Int} (h : OwnI B w v xs) (hn : xs.length ≤ 17592186044416) : Sl Sh.int (fun _ => True) w v xs := (h.sl hn).any
theorem carry_snoc (xs : List Int) (y : Int) : carry (xs ++ [y]) = if carry xs < 0 then (if y = 0 then -1 else (xs.length : Int)) else carry xs := by
  have e : (xs ++ [y]).findIdx (fun x => x != 0) = if xs.any (fun x => x != 0) then xs.findIdx (fun x => x != 0) else xs.length + if y = 0 then 1 else 0 := by
    rw [List.findIdx_append]
    by_cases h : xs.any (fun x => x != 0) = true
    · rw [if_pos h, if_pos]
      rw [List.findIdx_lt_length]
      simpa using h
    · rw [if_neg h, if_neg]
      · by_cases hy : y = 0
        · simp [List.findIdx_cons, hy]; omega
        · have : (y != 0) = true := by simpa using hy
          simp [List.findIdx_cons, this, hy]
      · rw [List.findIdx_lt_length]
        simpa using h
  unfold carry findI
  rw [e, List.any_append]
  by_cases h : xs.any (fun x => x != 0) = true
  · simp only [h, Bool.true_or, if_true]
    rw [if_neg (by omega)]
  · have h' : xs.any (fun x => x != 0) = false := by simpa using h
    simp only [h', Bool.false_or, Bool.false_eq_true, if_false]
    by_cases hy : y = 0 <;> simp [hy]
theorem carry_ge (xs : List Int) : carry xs = -1 ∨ 0 ≤ carry xs := by
  unfold carry findI
  split
  · right; omega
  · left; rfl
theorem carry_take {xs : List Int} {k : Nat} (hk : k < xs.length) : carry (xs.take (k + 1)) = if carry (xs.take k) < 0 then (if xs.getD k 0 = 0 then -1 else (k : Int)) else carry (xs.take k) := by
  rw [show xs.take (k + 1) = xs.take k ++ [xs.getD k 0] from take_snoc hk, carry_snoc, List.length_take, Nat.min_eq_left (by omega)]
theorem sgns_at (xs : List Int) (k : Nat) (hk : k < xs.length) : (sgns xs).data.toList[k]? = (sgn (xs.getD k 0)).data.toList[0]? := by
  have key : ∀ (xs : List Int) (s : ByteArray), (xs.foldl (fun s x => s ++ sgn x) s).data.toList = s.data.toList ++ (xs.map (fun x => (sgn x).data.toList)).flatten := by
    intro xs
    induction xs with
    | nil => intro s; simp
    | cons x xs ih => intro s; rw [List.foldl_cons, ih, ByteArray.data_append, Array.toList_append, List.map_cons, List.flatten_cons, List.append_assoc]
  rw [sgns, key]
  show ([] ++ _)[k]? = _
  rw [List.nil_append]
  induction xs generalizing k with
  | nil => simp at hk
  | cons x xs ih =>
    have h1 : (sgn x).data.toList.length = 1 := by rw [Array.length_toList]; exact sgn_size x
    rw [List.map_cons, List.flatten_cons]
    cases k with
    | zero => rw [List.getElem?_append_left (by omega)]; rfl
    | succ k =>
      rw [List.getElem?_append_right (by omega), h1, Nat.add_sub_cancel, ih k (by simpa using hk)]
      rfl
theorem sgns_byte {xs : List Int} {k : Nat} {b : UInt8} (hk : k < xs.length) (hs : k < (sgns xs).size) (h : sgn (xs.getD k 0) = ⟨#[b]⟩) : (sgns xs)[k] = b := by
  have := sgns_at xs k hk
  rw [h, List.getElem?_eq_getElem (by rw [Array.length_toList]; exact hs)] at this
  simp only [List.getElem?_toArray, List.getElem?_cons_zero, Array.getElem_toList, Option.some.injEq] at this
  exact this

set_option maxHeartbeats 3200000 in
theorem lawDir (a : Option Addr) (n c : Nat) (bs : List Int) (w : World) (hx0 : n ≤ 1048576 → Sl Sh.byte (fun b => b < w.heap.size) w (.slice a n c) bs) (hbs : ∀ x ∈ bs, 0 ≤ x ∧ x ≤ 255) :
    Calls Try.prog 6 #[.slice a n c] w fun e w' => e = .returned (.bool true) ∧ Below w.heap.size w w' := by
  by_cases hn : 1048576 < n
  · have h1 : decide ((1048576 : Int) < (n : Int)) = true := by simp; omega
    go_enter Try.func6, Try.ntmps6
    go_wp2_with fail
    go_ret
    exact ⟨rfl, Below.refl _ _⟩
  · have h1 : decide ((1048576 : Int) < (n : Int)) = false := by simp; omega
    have hx := hx0 (by omega)
    clear hx0
    have Hbs := hid hbs; clear hbs
    go_enter Try.func6, Try.ntmps6
    go_wp2_with fail
    refine (drawDir_any a n c bs w hx Hbs.out).mono ?_
    rintro e w1 ⟨v, xs, rfl, o, hl, b⟩
    obtain ⟨a1, c1, rfl, hc1⟩ := o.shape
    have hs := o.intP (by omega)
    by_cases h4 : 4 < xs.length
    · have h2 : decide ((4 : Int) < (xs.length : Int)) = true := by simp; omega
      go_wp2_with (first
        | (go_at_call 20; refine (implDir_any _ _ _ _ xs _ hs).mono ?_; rintro e w' ⟨rfl, rfl⟩)
        | (go_at_call 22; refine (specDir_any _ _ _ _ xs _ hs).mono ?_; rintro e w' ⟨rfl, rfl⟩)
        | (go_at_call 21; refine (implCarry_any _ _ _ _ xs _ hs).mono ?_; rintro e w' ⟨rfl, rfl⟩)
        | (go_at_call 23; refine (specCarry_any _ _ _ _ xs _ hs).mono ?_; rintro e w' ⟨rfl, rfl⟩))
      go_ret
      exact ⟨rfl, b⟩
    · have h2 : decide ((4 : Int) < (xs.length : Int)) = false := by simp; omega
      have hdir : dirOf xs = sgns xs := if_pos (by omega)
      have Hdir := hid hdir; clear hdir
      go_wp2_with (first
        | (go_at_call 20; refine (implDir_any _ _ _ _ xs _ hs).mono ?_; rintro e w' ⟨rfl, rfl⟩)
        | (go_at_call 22; refine (specDir_any _ _ _ _ xs _ hs).mono ?_; rintro e w' ⟨rfl, rfl⟩)
        | (go_at_call 21; refine (implCarry_any _ _ _ _ xs _ hs).mono ?_; rintro e w' ⟨rfl, rfl⟩)
        | (go_at_call 23; refine (specCarry_any _ _ _ _ xs _ hs).mono ?_; rintro e w' ⟨rfl, rfl⟩))
      rw [Hdir.out]
      go_loopw [6, 7] (fun vf vi wr => ∃ k : Nat, k ≤ xs.length ∧ vi = .int .i64 k ∧ vf = .int .i64 (carry (xs.take k)) ∧ Quiet w1 wr) (fun _ vi _ => xs.length - (intOf vi).toNat)
      case atStart => exact ⟨0, Nat.zero_le _, rfl, rfl, Quiet.refl _⟩
      case round =>
        obtain ⟨k, hk, rfl, rfl, hq⟩ := hrel
        by_cases hlt : k < xs.length
        · have hss := sgns_size xs
          have hks : k < (sgns xs).size := by omega
          have hct := carry_take hlt
          have hcg := carry_ge (xs.take k)
          obtain ⟨ba, oa, ha, _, _, hca⟩ := (hs.quiet hq).intAt (by omega)
          subst ha
          have hc0 := hca k hlt
          have hby : ∀ b : UInt8, sgn (xs.getD k 0) = ⟨#[b]⟩ → (sgns xs)[k] = b := fun b h => sgns_byte hlt hks h
          generalize xs.getD k 0 = y at hc0 hct hby
          generalize carry (xs.take k) = f at hct hcg
          generalize sgns xs = s at hss hks hby
          have Hct := hid hct
          clear hct hca
          rcases sgn_cases y with ⟨g1, e⟩ | ⟨g1, g2, e⟩ | ⟨g1, g2, e⟩
          · have hb := hby 60 e
            have hb' : (s[k]).toNat = 60 := by rw [hb]; rfl
            have hy : y ≠ 0 := by have := of_decide_eq_true g1; omega
            have g2 : decide (y < 0) = false := by have := of_decide_eq_true g1; simp; omega
            clear hby e hb
            rcases hcg with rfl | hf
            · go_wp2
              go_quiet (fail)
              go_wp2
              exact ⟨⟨k + 1, by omega, rfl, int_i64 (by rw [Hct.out, if_pos (by omega), if_neg hy]), hq.drewN⟩, by simp [intOf]; omega⟩
            · have hf' : decide (f < 0) = false := by simp; omega
              go_wp2
              go_quiet (fail)
              go_wp2
              exact ⟨⟨k + 1, by omega, rfl, int_i64 (by rw [Hct.out, if_neg (by omega)]), hq.drewN⟩, by simp [intOf]; omega⟩
          · have hb := hby 62 e
            have hb' : (s[k]).toNat = 62 := by rw [hb]; rfl
            have hy : y ≠ 0 := by have := of_decide_eq_true g2; omega
            clear hby e hb
            rcases hcg with rfl | hf
            · go_wp2
              go_quiet (fail)
              go_wp2
              exact ⟨⟨k + 1, by omega, rfl, int_i64 (by rw [Hct.out, if_pos (by omega), if_neg hy]), hq.drewN⟩, by simp [intOf]; omega⟩
            · have hf' : decide (f < 0) = false := by simp; omega
              go_wp2
              go_quiet (fail)
              go_wp2
              exact ⟨⟨k + 1, by omega, rfl, int_i64 (by rw [Hct.out, if_neg (by omega)]), hq.drewN⟩, by simp [intOf]; omega⟩
          · have hb := hby 61 e
            have hb' : (s[k]).toNat = 61 := by rw [hb]; rfl
            have hy : y = 0 := by have := of_decide_eq_false g1; have := of_decide_eq_false g2; omega
            have hy := hid hy
            clear hby e hb
            rcases hcg with rfl | hf
            · go_wp2
              go_quiet (fail)
              go_wp2
              exact ⟨⟨k + 1, by omega, rfl, int_i64 (by rw [Hct.out, if_pos (by omega), if_pos hy.out]), hq.drewN⟩, by simp [intOf]; omega⟩
            · have hf' : decide (f < 0) = false := by simp; omega
              go_wp2
              go_quiet (fail)
              go_wp2
              exact ⟨⟨k + 1, by omega, rfl, int_i64 (by rw [Hct.out, if_neg (by omega)]), hq.drewN⟩, by simp [intOf]; omega⟩
        · have hke : k = xs.length := by omega
          subst hke
          have hss := sgns_size xs
          have hcc : carry (xs.take xs.length) = carry xs := by rw [List.take_length]
          generalize carry (xs.take xs.length) = f at hcc
          subst hcc
          go_wp2
          go_ret
          exact ⟨rfl, b.trans (hq.below _)⟩
end Go.Proofs.Ytnjbfeejpnfdgaa
