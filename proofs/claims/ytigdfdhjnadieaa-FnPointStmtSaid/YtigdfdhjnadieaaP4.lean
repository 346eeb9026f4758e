/- Part 4 of 5 of the proof: laws on memory and data, then what the functions compute, in the order in which they build on each other; conditions: those that each theorem names. -/
import Derived.Laws.MakeOwn
import Derived.Test.YtigdfdhjnadieaaP3

/- Statements: draws; condition: bytes. -/
namespace Go.Proofs.Ytigdfdhjnadieaa
set_option linter.unusedVariables false
set_option linter.unusedSimpArgs false
open Go.RowKit

def dSs (l : List ByteArray) : D := .list 1 (l.map fun s => [dS s])
def ofV (bs : List Int) (p : Nat) (xs : List ByteArray) : ByteArray := xs.getD (pickV bs p xs.length).toNat ByteArray.empty
theorem ofV_at {bs : List Int} (h : Bytes bs) {p : Nat} (hp : p ≤ 1099511627776) {xs : List ByteArray} (hx : 0 < xs.length) : pickV bs p xs.length = ((pickV bs p xs.length).toNat : Int) ∧ xs[(pickV bs p xs.length).toNat]? = some (ofV bs p xs) := by
  have h1 := pickV_bd h hp (xs.length : Nat)
  have h2 := h1.2 (by omega)
  have h3 : (pickV bs p xs.length).toNat < xs.length := by omega
  exact ⟨by omega, by rw [ofV, List.getD, List.getElem?_eq_getElem h3]; rfl⟩
set_option maxRecDepth 100000 in
set_option maxHeartbeats 1600000 in
theorem of_fn {bs : List Int} (hb : Bytes bs) {p : Nat} (hp : p ≤ 1099511627776) (xs : List ByteArray) (hx : 0 < xs.length) : Fn Try.prog 106 (hbR bs p) [vR, vD (dSs xs)] (.o (st1 (ofV bs p xs))) (hbR bs (p + 1)) := by
  refine Fn.of_code Try.func106 rfl rfl (hbR_HB _ _) rfl rfl (hbR_HB _ _) rfl (hbR_num _ _ _) ?_
  refine ACode.seq ?_
  refine ACode.region ?_
  refine .cons (.asg rfl rfl) ?_
  refine .nil ?_
  refine ks_n ?_
  refine ACode.seq ?_
  refine ACode.region ?_
  refine .cons (.mv rfl rfl) ?_
  refine .cons (.mv rfl rfl) ?_
  refine .cons (.mv rfl rfl) ?_
  refine .cons (.ln 9 1 16 rfl rfl rfl) ?_
  refine .cons (.cR [.tmp 6, .tmp 8] 0 rfl rfl rfl rfl (pick_fn hb hp (xs.length : Nat)) rfl ⟨rfl, trivial⟩) ?_
  refine .cons (.xL 9 1 16 (i := (pickV bs p (xs.length : Nat)).toNat) rfl rfl rfl rfl (ofV_at hb hp hx).1 (map_at (ofV_at hb hp hx).2)) ?_
  refine .cons (.l1 1 rfl rfl) ?_
  refine .cons (.asg rfl rfl) ?_
  refine .nil ?_
  refine ks_n ?_
  refine ACode.ret ?_
  refine kf_ret rfl ?_ (hbR_box rfl)
  rfl

/-- A drawn subscript. -/
def elemX (bs : List Int) (d : Nat) (p : Nat) : Aff × Nat :=
  if 0 < d then (if 0 < pickV bs (p + 1) 5 then (cmbA (varA (pickV bs (p + 1 + 1) (d : Nat)).toNat) (numV bs (p + 1 + 1 + 1) [1, 1, 1, 2, -1]) (cA (numV bs (p + 1 + 1 + 1 + 1) [0, 1, 0, 0, 2])) 1, p + 1 + 1 + 1 + 1 + 1) else (cA (numV bs p [0, 1, 0, 2]), p + 1 + 1))
  else (cA (numV bs p [0, 1, 0, 2]), p + 1)
def elemN (bs : List Int) (p : Nat) : Nat := if sEq (ofV bs p [⟨#[65]⟩, ⟨#[66]⟩, ⟨#[65]⟩, ⟨#[67]⟩]) ⟨#[66]⟩ = true then 2 else 1
def elemL (bs : List Int) (d : Nat) : Nat → List Aff → Nat → List Aff × Nat
  | 0, l, p => (l, p)
  | n + 1, l, p => elemL bs d n (l ++ [(elemX bs d p).1]) (elemX bs d p).2
def elemD (bs : List Int) (d p : Nat) : Acc × Nat := ((ofV bs p [⟨#[65]⟩, ⟨#[66]⟩, ⟨#[65]⟩, ⟨#[67]⟩], (elemL bs d (elemN bs p) [] (p + 1)).1), (elemL bs d (elemN bs p) [] (p + 1)).2)
theorem elemX_p (bs : List Int) (d p : Nat) : p ≤ (elemX bs d p).2 ∧ (elemX bs d p).2 ≤ p + 5 ∧ (elemX bs d p).1.1.length = 4 := by
  unfold elemX
  split
  · split
    · exact ⟨by dsimp only; omega, by dsimp only; omega, by simp [cmbA, cmbTo]⟩
    · exact ⟨by dsimp only; omega, by dsimp only; omega, rfl⟩
  · exact ⟨by dsimp only; omega, by dsimp only; omega, rfl⟩
theorem elemL_p (bs : List Int) (d : Nat) : ∀ (n : Nat) (l : List Aff) (p : Nat), (∀ x ∈ l, x.1.length = 4) → p ≤ (elemL bs d n l p).2 ∧ (elemL bs d n l p).2 ≤ p + 5 * n ∧ (elemL bs d n l p).1.length = l.length + n ∧ ∀ x ∈ (elemL bs d n l p).1, x.1.length = 4
  | 0, l, p, h => ⟨Nat.le_refl _, Nat.le_refl _, rfl, h⟩
  | n + 1, l, p, h => by
    obtain ⟨h1, h2, h3⟩ := elemX_p bs d p
    obtain ⟨q1, q2, q3, q4⟩ := elemL_p bs d n (l ++ [(elemX bs d p).1]) (elemX bs d p).2 (fun x hx => by
      rcases List.mem_append.1 hx with hx | hx
      · exact h x hx
      · rw [List.mem_singleton.1 hx]; exact h3)
    rw [elemL]
    exact ⟨by omega, by omega, by rw [q3]; simp; omega, q4⟩
theorem elemD_p (bs : List Int) (d p : Nat) : p ≤ (elemD bs d p).2 ∧ (elemD bs d p).2 ≤ p + 11 ∧ 0 < (elemD bs d p).1.2.length ∧ (elemD bs d p).1.2.length ≤ 2 ∧ ∀ x ∈ (elemD bs d p).1.2, x.1.length = 4 := by
  have h : elemN bs p = 1 ∨ elemN bs p = 2 := by unfold elemN; split <;> simp
  obtain ⟨q1, q2, q3, q4⟩ := elemL_p bs d (elemN bs p) [] (p + 1) (by simp)
  rw [List.length_nil] at q3
  exact ⟨by show p ≤ (elemL _ _ _ _ _).2; omega, by show (elemL _ _ _ _ _).2 ≤ _; omega, by show 0 < (elemL _ _ _ _ _).1.length; omega, by show (elemL _ _ _ _ _).1.length ≤ 2; omega, q4⟩

set_option maxRecDepth 100000 in
set_option maxHeartbeats 1600000 in
theorem l3Elem_fn {bs : List Int} (hb : Bytes bs) {p : Nat} (hp : p ≤ 90000000) (d : Nat) (hd : d ≤ 4) : Fn Try.prog 109 (hbR bs p) [vR, nat1 (d : Nat)] (.o (ad (rC (elemD bs d p).1))) (hbR bs (elemD bs d p).2) := by
  have hN : 1 ≤ elemN bs p ∧ elemN bs p ≤ 2 := by unfold elemN; split <;> simp
  refine Fn.of_code Try.func109 rfl rfl (hbR_HB _ _) rfl rfl (hbR_HB _ _) rfl (hbR_num _ _ _) ?_
  refine ACode.seq ?_
  refine ACode.region ?_
  refine .cons (.al 104 [.string ByteArray.empty, .slice none 0 0] rfl rfl rfl) ?_
  refine .nil ?_
  refine ks_n ?_
  refine ACode.seq ?_
  refine ACode.region ?_
  refine .cons (.mv rfl rfl) ?_
  refine .cons (.li 9 0 3 [.const (.string ⟨#[65]⟩), .const (.string ⟨#[66]⟩), .const (.string ⟨#[65]⟩), .const (.string ⟨#[67]⟩)] rfl rfl rfl rfl rfl rfl) ?_
  refine .cons (.cR [.tmp 10, .tmp 11] 0 rfl rfl rfl rfl (of_fn hb (by omega) [⟨#[65]⟩, ⟨#[66]⟩, ⟨#[65]⟩, ⟨#[67]⟩] (by simp)) rfl ⟨rfl, trivial⟩) ?_
  refine .cons (.bu [(0, .tmp 12)] [(0, 1), (1, 1)] [.string ByteArray.empty, .slice none 0 0] rfl rfl rfl rfl rfl) ?_
  refine .cons (.al 105 [.string ByteArray.empty, .slice none 0 0] rfl rfl rfl) ?_
  refine .cons (.sT 2 true rfl rfl rfl rfl rfl rfl rfl) ?_
  refine .nil ?_
  refine ks_n ?_
  refine ACode.seq ?_
  refine ACode.region ?_
  refine .cons (.asg rfl rfl) ?_
  refine .nil ?_
  refine ks_n ?_
  refine ACode.seq ?_
  refine ACode.cut [(.t 0, .v (.o (.c (.box 0 2 0 0)))), (.t 1, .v (.o (nat1 (d : Nat)))), (.t 4, .v (.o (.c (.box 830 2 0 0)))), (.t 5, .v (.o (.c (.box 831 2 0 0)))), (.t 6, .v (.o (nat1 (elemN bs p : Nat)))), (.b 0, .b 113 2 (dR ([rRd bs (p + 1)]))), (.u 0, .u), (.b 830, .b 25 2 [[.d (dS ByteArray.empty), .d (.val (.slice none 0 0))]]), (.u 830, .u), (.b 831, .b 25 2 [[.d (dS (ofV bs p [⟨#[65]⟩, ⟨#[66]⟩, ⟨#[65]⟩, ⟨#[67]⟩])), .d (.val (.slice none 0 0))]]), (.u 831, .u)] ?_ ?_
  · skip
    refine ACode.seq ?_
    refine ACode.region ?_
    refine .cons (.fB 0 0 false rfl rfl rfl) ?_
    refine .cons (.b1 1 rfl rfl rfl rfl rfl rfl) ?_
    refine .cons (St1.eqS rfl rfl rfl) ?_
    refine .nil ?_
    refine ks_n ?_
    refine ACode.condT rfl (fun h16 => ?_) (fun h16 => ?_)
    · try simp only [List.length_map, decide_eq_true_eq, decide_eq_false_iff_not, Bool.not_eq_true', Bool.not_eq_false', Bool.not_eq_true, Bool.not_eq_false] at h16
      refine ACode.region ?_
      refine .cons (.asg rfl rfl) ?_
      refine .nil ?_
      exact kc_n (Wk.keep [(0, 0), (830, 104), (831, 105)] rfl rfl ⟨ks rfl (.c .bx), ks rfl .dt, ks rfl (.c .bx), ks rfl (.c .bx), ks rfl (.dt (vI (by rw [elemN]; first | (rw [if_pos h16]; rfl) | (rw [h16]; rfl)))), kb 0 rfl (.dt rfl), kb 104 rfl (.cons (.cons .dt (.cons .dt Ctos.nil)) .nil), kb 105 rfl (.cons (.cons .dt (.cons .dt Ctos.nil)) .nil), trivial⟩)
    · try simp only [List.length_map, decide_eq_true_eq, decide_eq_false_iff_not, Bool.not_eq_true', Bool.not_eq_false', Bool.not_eq_true, Bool.not_eq_false] at h16
      refine ACode.skip ?_
      exact kc_n (Wk.keep [(0, 0), (830, 104), (831, 105)] rfl rfl ⟨ks rfl (.c .bx), ks rfl .dt, ks rfl (.c .bx), ks rfl (.c .bx), ks rfl (.dt (vI (by rw [elemN]; first | (rw [if_pos h16]; rfl) | (rw [h16]; rfl)))), kb 0 rfl (.dt rfl), kb 104 rfl (.cons (.cons .dt (.cons .dt Ctos.nil)) .nil), kb 105 rfl (.cons (.cons .dt (.cons .dt Ctos.nil)) .nil), trivial⟩)
  refine ks_n ?_
  refine ACode.seq ?_
  refine ACode.seq ?_
  refine ACode.region ?_
  refine .cons (.asg rfl rfl) ?_
  refine .nil ?_
  refine ks_n ?_
  refine ACode.block ?_
  refine .loopK (fun m σ => (∃ (n q : Nat), m = n + 0 ∧ (n = elemN bs p) ∧ (1 ≤ n) ∧ (q = p + 1) ∧ (elemL bs d n [] q = elemL bs d (elemN bs p) [] (p + 1)) ∧ σ = [(.t 0, .v (.o (.c (.box 0 2 0 0)))), (.t 1, .v (.o (nat1 (d : Nat)))), (.t 4, .v (.o (.c (.box 110 2 0 0)))), (.t 5, .v (.o (.c (.box 111 2 0 0)))), (.t 6, .v (.o (nat1 (elemN bs p : Nat)))), (.t 7, .v (.o (nat1 ((elemN bs p : Nat) - (n : Nat))))), (.b 0, .b 113 2 (dR ([rRd bs q]))), (.u 0, .u), (.b 110, .b 25 2 [[.d (dS ByteArray.empty), .d (.val (.slice none 0 0))]]), (.u 110, .u), (.b 111, .b 25 2 [[.d (dS (ofV bs p [⟨#[65]⟩, ⟨#[66]⟩, ⟨#[65]⟩, ⟨#[67]⟩])), .d (.val (.slice none 0 0))]]), (.u 111, .u)]) ∨ (∃ (n q : Nat) (xs : List Aff), m = n + 0 ∧ (0 < xs.length) ∧ (xs.length + n = elemN bs p) ∧ (q ≤ p + 1 + 5 * (elemN bs p - n)) ∧ (elemL bs d n xs q = elemL bs d (elemN bs p) [] (p + 1)) ∧ (∀ x ∈ xs, x.1.length = 4) ∧ σ = [(.t 0, .v (.o (.c (.box 0 2 0 0)))), (.t 1, .v (.o (nat1 (d : Nat)))), (.t 4, .v (.o (.c (.box 110 2 0 0)))), (.t 5, .v (.o (.c (.box 111 2 0 0)))), (.t 6, .v (.o (nat1 (elemN bs p : Nat)))), (.t 7, .v (.o (nat1 ((elemN bs p : Nat) - (n : Nat))))), (.b 0, .b 113 2 (dR ([rRd bs q]))), (.u 0, .u), (.b 110, .b 25 2 [[.d (dS ByteArray.empty), .d (.val (.slice none 0 0))]]), (.u 110, .u), (.b 112, .b 28 2 (dR (xs.map rA))), (.u 112, .u), (.b 111, .b 25 2 [[.d (dS (ofV bs p [⟨#[65]⟩, ⟨#[66]⟩, ⟨#[65]⟩, ⟨#[67]⟩])), .own 112 2 (xs.length)]]), (.u 111, .u)])) [(0, 0), (110, 830), (111, 831)] (.inl ⟨elemN bs p, p + 1, rfl, rfl, hN.1, rfl, rfl, rfl⟩) ⟨ks rfl (.c .bx), ks rfl .dt, ks rfl (.c .bx), ks rfl (.c .bx), ks rfl .dt, ks rfl .dt, kb 0 rfl (.dt rfl), kb 830 rfl (.cons (.cons .dt (.cons .dt Ctos.nil)) .nil), kb 831 rfl (.cons (.cons .dt (.cons .dt Ctos.nil)) .nil), trivial⟩ ?_
  rintro m σ (⟨n, q, hm0, hnn, hn1, hq, hE, rfl⟩ | ⟨n, q, xs, hm0, hxl, hn1, hq, hE, hx4, rfl⟩)
  · skip
    refine ACode.seq ?_
    refine ACode.seq ?_
    refine ACode.region ?_
    refine .cons (.mv rfl rfl) ?_
    refine .cons (.mv rfl rfl) ?_
    refine .cons (.ls rfl rfl rfl) ?_
    refine .nil ?_
    refine ks_n ?_
    refine .cD rfl (fun h19 => ?_) (fun h19 => ?_)
    · skip
      have hXp := elemX_p bs d q
      refine ACode.skip ?_
      refine ks_n ?_
      refine ACode.seq ?_
      refine ACode.block ?_
      refine ACode.seq ?_
      refine ACode.region ?_
      refine .cons (.mv rfl rfl) ?_
      refine .cons (.li 3 0 3 [.const (.int .i64 (0)), .const (.int .i64 (1)), .const (.int .i64 (0)), .const (.int .i64 (2))] rfl rfl rfl rfl rfl rfl) ?_
      refine .cons (.cR [.tmp 22, .tmp 23] 0 rfl rfl rfl rfl (num_fn hb (by omega) [0, 1, 0, 2] (by simp)) rfl ⟨rfl, trivial⟩) ?_
      refine .cons (.cP [.tmp 24] rfl rfl rfl rfl (l1Const_fn _) rfl) ?_
      refine .cons (.al 108 [.slice none 0 0, .int .i64 0] rfl rfl rfl) ?_
      refine .cons (.sT 2 true rfl rfl rfl rfl rfl rfl rfl) ?_
      refine .nil ?_
      refine ks_n ?_
      refine ACode.seq ?_
      refine ACode.cut [(.t 0, .v (.o (.c (.box 0 2 0 0)))), (.t 1, .v (.o (nat1 (d : Nat)))), (.t 4, .v (.o (.c (.box 890 2 0 0)))), (.t 5, .v (.o (.c (.box 891 2 0 0)))), (.t 6, .v (.o (nat1 (elemN bs p : Nat)))), (.t 7, .v (.o (nat1 ((elemN bs p : Nat) - (n : Nat))))), (.t 8, .v (.o (.c (.box 892 2 0 0)))), (.b 0, .b 113 2 (dR ([rRd bs (elemX bs d q).2]))), (.u 0, .u), (.b 890, .b 25 2 [[.d (dS ByteArray.empty), .d (.val (.slice none 0 0))]]), (.u 890, .u), (.b 891, .b 25 2 [[.d (dS (ofV bs p [⟨#[65]⟩, ⟨#[66]⟩, ⟨#[65]⟩, ⟨#[67]⟩])), .d (.val (.slice none 0 0))]]), (.u 891, .u), (.b 892, .b 28 2 [[.d (dIs (elemX bs d q).1.1), .d (dI (elemX bs d q).1.2)]]), (.u 892, .u)] ?_ ?_
      · skip
        refine ACode.seq ?_
        refine ACode.region ?_
        refine .cons (.mv rfl rfl) ?_
        refine .cons (.gt rfl rfl rfl) ?_
        refine .cons (.mv rfl rfl) ?_
        refine .cD 28 rfl (fun g28 => ?_) (fun g28 => ?_)
        · skip
          refine .cons (.gT rfl rfl rfl (.mv rfl rfl)) ?_
          refine .cons (.gT rfl rfl rfl (.cR [.tmp 29, .const (.int .i64 (5))] 0 rfl rfl rfl rfl (pick_fn hb (by omega) 5) rfl ⟨rfl, trivial⟩)) ?_
          refine .cons (.gT rfl rfl rfl (.gt rfl rfl rfl)) ?_
          refine .cons (.pT rfl rfl rfl) ?_
          refine .nil ?_
          refine ks_n ?_
          refine ACode.condT rfl (fun h32 => ?_) (fun h32 => ?_)
          · try simp only [List.length_map, decide_eq_true_eq, decide_eq_false_iff_not, Bool.not_eq_true', Bool.not_eq_false', Bool.not_eq_true, Bool.not_eq_false] at h32
            have hv := pickV_bd hb (p := q + 1 + 1) (by omega) (d : Nat)
            have hv2 := hv.2 (by omega)
            have hv : 0 ≤ pickV bs (q + 1 + 1) (d : Nat) ∧ pickV bs (q + 1 + 1) (d : Nat) < 4 := by omega
            have hm1 := numV_mem hb (p := q + 1 + 1 + 1) (by omega) (xs := [1, 1, 1, 2, -1]) (by simp)
            have hm2 := numV_mem hb (p := q + 1 + 1 + 1 + 1) (by omega) (xs := [0, 1, 0, 0, 2]) (by simp)
            simp only [List.mem_cons, List.not_mem_nil, or_false] at hm1 hm2
            have hk1 : -1000 ≤ numV bs (q + 1 + 1 + 1) [1, 1, 1, 2, -1] ∧ numV bs (q + 1 + 1 + 1) [1, 1, 1, 2, -1] ≤ 1000 := by omega
            have hk2 : -1000 ≤ numV bs (q + 1 + 1 + 1 + 1) [0, 1, 0, 0, 2] ∧ numV bs (q + 1 + 1 + 1 + 1) [0, 1, 0, 0, 2] ≤ 1000 := by omega
            refine ACode.seq ?_
            refine ACode.region ?_
            refine .cons (.mv rfl rfl) ?_
            refine .cons (.mv rfl rfl) ?_
            refine .cons (.cR [.tmp 33, .tmp 34] 0 rfl rfl rfl rfl (pick_fn hb (by omega) _) rfl ⟨rfl, trivial⟩) ?_
            refine .cons (.asg rfl rfl) ?_
            refine .nil ?_
            refine ks_n ?_
            refine ACode.region ?_
            refine .cons (.mv rfl rfl) ?_
            refine .cons (.cP [.tmp 36] rfl rfl rfl rfl (l1Var_fn _ hv) rfl) ?_
            refine .cons (.mv rfl rfl) ?_
            refine .cons (.li 3 0 4 [.const (.int .i64 (1)), .const (.int .i64 (1)), .const (.int .i64 (1)), .const (.int .i64 (2)), .const (.int .i64 (-1))] rfl rfl rfl rfl rfl rfl) ?_
            refine .cons (.cR [.tmp 38, .tmp 39] 0 rfl rfl rfl rfl (num_fn hb (by omega) [1, 1, 1, 2, -1] (by simp)) rfl ⟨rfl, trivial⟩) ?_
            refine .cons (.mv rfl rfl) ?_
            refine .cons (.li 3 0 4 [.const (.int .i64 (0)), .const (.int .i64 (1)), .const (.int .i64 (0)), .const (.int .i64 (0)), .const (.int .i64 (2))] rfl rfl rfl rfl rfl rfl) ?_
            refine .cons (.cR [.tmp 41, .tmp 42] 0 rfl rfl rfl rfl (num_fn hb (by omega) [0, 1, 0, 0, 2] (by simp)) rfl ⟨rfl, trivial⟩) ?_
            refine .cons (.cP [.tmp 43] rfl rfl rfl rfl (l1Const_fn _) rfl) ?_
            refine .cons (.cP [.tmp 37, .tmp 40, .tmp 44, .const (.int .i64 (1))] rfl rfl rfl rfl (l1Combine_fn _ _ _ 1 hk1 (by omega) (varA_sm _).1 rfl (varA_sm _).2.1 (by simp [cA]; omega) (varA_sm _).2.2 (cA_sm (by omega)).2.2) rfl) ?_
            refine .cons (.sT 2 true rfl rfl rfl rfl rfl rfl rfl) ?_
            refine .nil ?_
            have hX : elemX bs d q = elemX bs d q := rfl
            conv at hX => rhs; unfold elemX
            first | rw [if_pos (show 0 < d by omega), if_pos (by assumption)] at hX | rw [if_pos (show 0 < d by omega), if_neg (by assumption)] at hX | rw [if_neg (show ¬ 0 < d by omega)] at hX
            exact kc_n (Wk.keep [(0, 0), (890, 110), (891, 111), (892, 108)] rfl rfl ⟨ks rfl (.c .bx), ks rfl .dt, ks rfl (.c .bx), ks rfl (.c .bx), ks rfl .dt, ks rfl .dt, ks rfl (.c .bx), kb 0 rfl (.dt rfl (by rw [hX]; try rfl)), kb 110 rfl (.cons (.cons .dt (.cons .dt Ctos.nil)) .nil), kb 111 rfl (.cons (.cons .dt (.cons .dt Ctos.nil)) .nil), kb 108 rfl (.cons (.cons (.dt (by rw [hX]; try rfl)) (.cons (.dt (by rw [hX]; try rfl)) Ctos.nil)) .nil), trivial⟩)
          · try simp only [List.length_map, decide_eq_true_eq, decide_eq_false_iff_not, Bool.not_eq_true', Bool.not_eq_false', Bool.not_eq_true, Bool.not_eq_false] at h32
            refine ACode.skip ?_
            have hX : elemX bs d q = elemX bs d q := rfl
            conv at hX => rhs; unfold elemX
            first | rw [if_pos (show 0 < d by omega), if_pos (by assumption)] at hX | rw [if_pos (show 0 < d by omega), if_neg (by assumption)] at hX | rw [if_neg (show ¬ 0 < d by omega)] at hX
            exact kc_n (Wk.keep [(0, 0), (890, 110), (891, 111), (892, 108)] rfl rfl ⟨ks rfl (.c .bx), ks rfl .dt, ks rfl (.c .bx), ks rfl (.c .bx), ks rfl .dt, ks rfl .dt, ks rfl (.c .bx), kb 0 rfl (.dt rfl (by rw [hX]; try rfl)), kb 110 rfl (.cons (.cons .dt (.cons .dt Ctos.nil)) .nil), kb 111 rfl (.cons (.cons .dt (.cons .dt Ctos.nil)) .nil), kb 108 rfl (.cons (.cons (.dt (by rw [hX]; try rfl)) (.cons (.dt (by rw [hX]; try rfl)) Ctos.nil)) .nil), trivial⟩)
        · skip
          refine .cons (.gF rfl rfl rfl) ?_
          refine .cons (.gF rfl rfl rfl) ?_
          refine .cons (.gF rfl rfl rfl) ?_
          refine .cons (.pF rfl rfl rfl) ?_
          refine .nil ?_
          refine ks_n ?_
          refine ACode.condT rfl (fun h => by first | (cases h; done) | (simp [*] at h; done) | (exfalso; simp_all; done)) (fun _ => ?_)
          refine ACode.skip ?_
          have hX : elemX bs d q = elemX bs d q := rfl
          conv at hX => rhs; unfold elemX
          first | rw [if_pos (show 0 < d by omega), if_pos (by assumption)] at hX | rw [if_pos (show 0 < d by omega), if_neg (by assumption)] at hX | rw [if_neg (show ¬ 0 < d by omega)] at hX
          exact kc_n (Wk.keep [(0, 0), (890, 110), (891, 111), (892, 108)] rfl rfl ⟨ks rfl (.c .bx), ks rfl .dt, ks rfl (.c .bx), ks rfl (.c .bx), ks rfl .dt, ks rfl .dt, ks rfl (.c .bx), kb 0 rfl (.dt rfl (by rw [hX]; try rfl)), kb 110 rfl (.cons (.cons .dt (.cons .dt Ctos.nil)) .nil), kb 111 rfl (.cons (.cons .dt (.cons .dt Ctos.nil)) .nil), kb 108 rfl (.cons (.cons (.dt (by rw [hX]; try rfl)) (.cons (.dt (by rw [hX]; try rfl)) Ctos.nil)) .nil), trivial⟩)
      refine ks_n ?_
      refine ACode.region ?_
      refine .cons (.fB 1 0 false rfl rfl rfl) ?_
      refine .cons (.b1 1 rfl rfl rfl rfl rfl rfl) ?_
      refine .cons (.bN 2 rfl rfl rfl rfl rfl rfl) ?_
      refine .cons (.li 28 1 0 [.tmp 48] rfl rfl rfl rfl rfl rfl) ?_
      refine .cons (St1.appN (k' := 150) (e := 28) (sz := 1) (by' := 32) rfl rfl rfl rfl rfl (by kernel_rfl) rfl rfl rfl (by simp) (by simp [dR] <;> omega) rfl rfl) ?_
      refine .cons (.fB 1 0 false rfl rfl rfl) ?_
      refine .cons (.sT 1 false rfl rfl rfl rfl rfl rfl rfl) ?_
      refine .nil ?_
      refine kb_n ?_
      refine ks_n ?_
      refine ACode.region ?_
      refine .cons (.mv rfl rfl) ?_
      refine .cons (.pl rfl rfl rfl) ?_
      refine .cons (.asg rfl rfl) ?_
      refine .nil ?_
      refine kl_k [(0, 0), (110, 890), (111, 891), (112, 150)] (.inr ⟨n - 1, (elemX bs d q).2, [(elemX bs d q).1], rfl, by simp, by simp; omega, by omega, by rw [← hE, show elemL bs d n [] q = elemL bs d (n - 1 + 1) [] q by rw [Nat.sub_add_cancel (by omega)], elemL] <;> first | rfl | simp, by intro x hx; rw [List.mem_singleton.1 hx]; exact hXp.2.2, rfl⟩) ⟨ks rfl (.c .bx), ks rfl .dt, ks rfl (.c .bx), ks rfl (.c .bx), ks rfl .dt, ks rfl .dt, kb 0 rfl (.dt rfl), kb 890 rfl (.cons (.cons .dt (.cons .dt Ctos.nil)) .nil), kb 150 rfl (.dt rfl (by first | (rw [dR_app]; simp; done) | (simp [dR]; done) | (rw [dR_app]; simp; rfl) | (simp [dR]; rfl))), kb 891 rfl (.cons (.cons .dt (.cons .ow Ctos.nil)) .nil), trivial⟩
    · skip
      omega
  · skip
    refine ACode.seq ?_
    refine ACode.seq ?_
    refine ACode.region ?_
    refine .cons (.mv rfl rfl) ?_
    refine .cons (.mv rfl rfl) ?_
    refine .cons (.ls rfl rfl rfl) ?_
    refine .nil ?_
    refine ks_n ?_
    refine .cD rfl (fun h19 => ?_) (fun h19 => ?_)
    · skip
      have hXp := elemX_p bs d q
      refine ACode.skip ?_
      refine ks_n ?_
      refine ACode.seq ?_
      refine ACode.block ?_
      refine ACode.seq ?_
      refine ACode.region ?_
      refine .cons (.mv rfl rfl) ?_
      refine .cons (.li 3 0 3 [.const (.int .i64 (0)), .const (.int .i64 (1)), .const (.int .i64 (0)), .const (.int .i64 (2))] rfl rfl rfl rfl rfl rfl) ?_
      refine .cons (.cR [.tmp 22, .tmp 23] 0 rfl rfl rfl rfl (num_fn hb (by omega) [0, 1, 0, 2] (by simp)) rfl ⟨rfl, trivial⟩) ?_
      refine .cons (.cP [.tmp 24] rfl rfl rfl rfl (l1Const_fn _) rfl) ?_
      refine .cons (.al 108 [.slice none 0 0, .int .i64 0] rfl rfl rfl) ?_
      refine .cons (.sT 2 true rfl rfl rfl rfl rfl rfl rfl) ?_
      refine .nil ?_
      refine ks_n ?_
      refine ACode.seq ?_
      refine ACode.cut [(.t 0, .v (.o (.c (.box 0 2 0 0)))), (.t 1, .v (.o (nat1 (d : Nat)))), (.t 4, .v (.o (.c (.box 890 2 0 0)))), (.t 5, .v (.o (.c (.box 891 2 0 0)))), (.t 6, .v (.o (nat1 (elemN bs p : Nat)))), (.t 7, .v (.o (nat1 ((elemN bs p : Nat) - (n : Nat))))), (.t 8, .v (.o (.c (.box 893 2 0 0)))), (.b 0, .b 113 2 (dR ([rRd bs (elemX bs d q).2]))), (.u 0, .u), (.b 890, .b 25 2 [[.d (dS ByteArray.empty), .d (.val (.slice none 0 0))]]), (.u 890, .u), (.b 892, .b 28 2 (dR (xs.map rA))), (.u 892, .u), (.b 891, .b 25 2 [[.d (dS (ofV bs p [⟨#[65]⟩, ⟨#[66]⟩, ⟨#[65]⟩, ⟨#[67]⟩])), .own 892 2 (xs.length)]]), (.u 891, .u), (.b 893, .b 28 2 [[.d (dIs (elemX bs d q).1.1), .d (dI (elemX bs d q).1.2)]]), (.u 893, .u)] ?_ ?_
      · skip
        refine ACode.seq ?_
        refine ACode.region ?_
        refine .cons (.mv rfl rfl) ?_
        refine .cons (.gt rfl rfl rfl) ?_
        refine .cons (.mv rfl rfl) ?_
        refine .cD 28 rfl (fun g28 => ?_) (fun g28 => ?_)
        · skip
          refine .cons (.gT rfl rfl rfl (.mv rfl rfl)) ?_
          refine .cons (.gT rfl rfl rfl (.cR [.tmp 29, .const (.int .i64 (5))] 0 rfl rfl rfl rfl (pick_fn hb (by omega) 5) rfl ⟨rfl, trivial⟩)) ?_
          refine .cons (.gT rfl rfl rfl (.gt rfl rfl rfl)) ?_
          refine .cons (.pT rfl rfl rfl) ?_
          refine .nil ?_
          refine ks_n ?_
          refine ACode.condT rfl (fun h32 => ?_) (fun h32 => ?_)
          · try simp only [List.length_map, decide_eq_true_eq, decide_eq_false_iff_not, Bool.not_eq_true', Bool.not_eq_false', Bool.not_eq_true, Bool.not_eq_false] at h32
            have hv := pickV_bd hb (p := q + 1 + 1) (by omega) (d : Nat)
            have hv2 := hv.2 (by omega)
            have hv : 0 ≤ pickV bs (q + 1 + 1) (d : Nat) ∧ pickV bs (q + 1 + 1) (d : Nat) < 4 := by omega
            have hm1 := numV_mem hb (p := q + 1 + 1 + 1) (by omega) (xs := [1, 1, 1, 2, -1]) (by simp)
            have hm2 := numV_mem hb (p := q + 1 + 1 + 1 + 1) (by omega) (xs := [0, 1, 0, 0, 2]) (by simp)
            simp only [List.mem_cons, List.not_mem_nil, or_false] at hm1 hm2
            have hk1 : -1000 ≤ numV bs (q + 1 + 1 + 1) [1, 1, 1, 2, -1] ∧ numV bs (q + 1 + 1 + 1) [1, 1, 1, 2, -1] ≤ 1000 := by omega
            have hk2 : -1000 ≤ numV bs (q + 1 + 1 + 1 + 1) [0, 1, 0, 0, 2] ∧ numV bs (q + 1 + 1 + 1 + 1) [0, 1, 0, 0, 2] ≤ 1000 := by omega
            refine ACode.seq ?_
            refine ACode.region ?_
            refine .cons (.mv rfl rfl) ?_
            refine .cons (.mv rfl rfl) ?_
            refine .cons (.cR [.tmp 33, .tmp 34] 0 rfl rfl rfl rfl (pick_fn hb (by omega) _) rfl ⟨rfl, trivial⟩) ?_
            refine .cons (.asg rfl rfl) ?_
            refine .nil ?_
            refine ks_n ?_
            refine ACode.region ?_
            refine .cons (.mv rfl rfl) ?_
            refine .cons (.cP [.tmp 36] rfl rfl rfl rfl (l1Var_fn _ hv) rfl) ?_
            refine .cons (.mv rfl rfl) ?_
            refine .cons (.li 3 0 4 [.const (.int .i64 (1)), .const (.int .i64 (1)), .const (.int .i64 (1)), .const (.int .i64 (2)), .const (.int .i64 (-1))] rfl rfl rfl rfl rfl rfl) ?_
            refine .cons (.cR [.tmp 38, .tmp 39] 0 rfl rfl rfl rfl (num_fn hb (by omega) [1, 1, 1, 2, -1] (by simp)) rfl ⟨rfl, trivial⟩) ?_
            refine .cons (.mv rfl rfl) ?_
            refine .cons (.li 3 0 4 [.const (.int .i64 (0)), .const (.int .i64 (1)), .const (.int .i64 (0)), .const (.int .i64 (0)), .const (.int .i64 (2))] rfl rfl rfl rfl rfl rfl) ?_
            refine .cons (.cR [.tmp 41, .tmp 42] 0 rfl rfl rfl rfl (num_fn hb (by omega) [0, 1, 0, 0, 2] (by simp)) rfl ⟨rfl, trivial⟩) ?_
            refine .cons (.cP [.tmp 43] rfl rfl rfl rfl (l1Const_fn _) rfl) ?_
            refine .cons (.cP [.tmp 37, .tmp 40, .tmp 44, .const (.int .i64 (1))] rfl rfl rfl rfl (l1Combine_fn _ _ _ 1 hk1 (by omega) (varA_sm _).1 rfl (varA_sm _).2.1 (by simp [cA]; omega) (varA_sm _).2.2 (cA_sm (by omega)).2.2) rfl) ?_
            refine .cons (.sT 2 true rfl rfl rfl rfl rfl rfl rfl) ?_
            refine .nil ?_
            have hX : elemX bs d q = elemX bs d q := rfl
            conv at hX => rhs; unfold elemX
            first | rw [if_pos (show 0 < d by omega), if_pos (by assumption)] at hX | rw [if_pos (show 0 < d by omega), if_neg (by assumption)] at hX | rw [if_neg (show ¬ 0 < d by omega)] at hX
            exact kc_n (Wk.keep [(0, 0), (890, 110), (891, 111), (892, 112), (893, 108)] rfl rfl ⟨ks rfl (.c .bx), ks rfl .dt, ks rfl (.c .bx), ks rfl (.c .bx), ks rfl .dt, ks rfl .dt, ks rfl (.c .bx), kb 0 rfl (.dt rfl (by rw [hX]; try rfl)), kb 110 rfl (.cons (.cons .dt (.cons .dt Ctos.nil)) .nil), kb 112 rfl (.dt rfl (by first | (rw [dR_app]; simp; done) | (simp [dR]; done) | (rw [dR_app]; simp; rfl) | (simp [dR]; rfl))), kb 111 rfl (.cons (.cons .dt (.cons .ow Ctos.nil)) .nil), kb 108 rfl (.cons (.cons (.dt (by rw [hX]; try rfl)) (.cons (.dt (by rw [hX]; try rfl)) Ctos.nil)) .nil), trivial⟩)
          · try simp only [List.length_map, decide_eq_true_eq, decide_eq_false_iff_not, Bool.not_eq_true', Bool.not_eq_false', Bool.not_eq_true, Bool.not_eq_false] at h32
            refine ACode.skip ?_
            have hX : elemX bs d q = elemX bs d q := rfl
            conv at hX => rhs; unfold elemX
            first | rw [if_pos (show 0 < d by omega), if_pos (by assumption)] at hX | rw [if_pos (show 0 < d by omega), if_neg (by assumption)] at hX | rw [if_neg (show ¬ 0 < d by omega)] at hX
            exact kc_n (Wk.keep [(0, 0), (890, 110), (891, 111), (892, 112), (893, 108)] rfl rfl ⟨ks rfl (.c .bx), ks rfl .dt, ks rfl (.c .bx), ks rfl (.c .bx), ks rfl .dt, ks rfl .dt, ks rfl (.c .bx), kb 0 rfl (.dt rfl (by rw [hX]; try rfl)), kb 110 rfl (.cons (.cons .dt (.cons .dt Ctos.nil)) .nil), kb 112 rfl (.dt rfl (by first | (rw [dR_app]; simp; done) | (simp [dR]; done) | (rw [dR_app]; simp; rfl) | (simp [dR]; rfl))), kb 111 rfl (.cons (.cons .dt (.cons .ow Ctos.nil)) .nil), kb 108 rfl (.cons (.cons (.dt (by rw [hX]; try rfl)) (.cons (.dt (by rw [hX]; try rfl)) Ctos.nil)) .nil), trivial⟩)
        · skip
          refine .cons (.gF rfl rfl rfl) ?_
          refine .cons (.gF rfl rfl rfl) ?_
          refine .cons (.gF rfl rfl rfl) ?_
          refine .cons (.pF rfl rfl rfl) ?_
          refine .nil ?_
          refine ks_n ?_
          refine ACode.condT rfl (fun h => by first | (cases h; done) | (simp [*] at h; done) | (exfalso; simp_all; done)) (fun _ => ?_)
          refine ACode.skip ?_
          have hX : elemX bs d q = elemX bs d q := rfl
          conv at hX => rhs; unfold elemX
          first | rw [if_pos (show 0 < d by omega), if_pos (by assumption)] at hX | rw [if_pos (show 0 < d by omega), if_neg (by assumption)] at hX | rw [if_neg (show ¬ 0 < d by omega)] at hX
          exact kc_n (Wk.keep [(0, 0), (890, 110), (891, 111), (892, 112), (893, 108)] rfl rfl ⟨ks rfl (.c .bx), ks rfl .dt, ks rfl (.c .bx), ks rfl (.c .bx), ks rfl .dt, ks rfl .dt, ks rfl (.c .bx), kb 0 rfl (.dt rfl (by rw [hX]; try rfl)), kb 110 rfl (.cons (.cons .dt (.cons .dt Ctos.nil)) .nil), kb 112 rfl (.dt rfl (by first | (rw [dR_app]; simp; done) | (simp [dR]; done) | (rw [dR_app]; simp; rfl) | (simp [dR]; rfl))), kb 111 rfl (.cons (.cons .dt (.cons .ow Ctos.nil)) .nil), kb 108 rfl (.cons (.cons (.dt (by rw [hX]; try rfl)) (.cons (.dt (by rw [hX]; try rfl)) Ctos.nil)) .nil), trivial⟩)
      refine ks_n ?_
      refine ACode.region ?_
      refine .cons (.fB 1 0 false rfl rfl rfl) ?_
      refine .cons (.b1 1 rfl rfl rfl rfl rfl rfl) ?_
      refine .cons (.bN 2 rfl rfl rfl rfl rfl rfl) ?_
      refine .cons (.li 28 1 0 [.tmp 48] rfl rfl rfl rfl rfl rfl) ?_
      refine .cons (St1.appB (k' := 150) (e := 28) (sz := 1) (by' := 32) rfl rfl rfl rfl rfl (by kernel_rfl) rfl rfl rfl rfl (by simp [dR]) (by simp [dR] <;> omega) rfl rfl rfl) ?_
      refine .cons (.fB 1 0 false rfl rfl rfl) ?_
      refine .cons (.sT 1 false rfl rfl rfl rfl rfl rfl rfl) ?_
      refine .nil ?_
      refine kb_n ?_
      refine ks_n ?_
      refine ACode.region ?_
      refine .cons (.mv rfl rfl) ?_
      refine .cons (.pl rfl rfl rfl) ?_
      refine .cons (.asg rfl rfl) ?_
      refine .nil ?_
      refine kl_k [(0, 0), (110, 890), (111, 891), (112, 150)] (.inr ⟨n - 1, (elemX bs d q).2, xs ++ [(elemX bs d q).1], rfl, by simp, by simp; omega, by omega, by rw [← hE, show elemL bs d n xs q = elemL bs d (n - 1 + 1) xs q by rw [Nat.sub_add_cancel (by omega)], elemL] <;> first | rfl | simp, by intro x hx; rcases List.mem_append.1 hx with hx | hx; exact hx4 x hx; rw [List.mem_singleton.1 hx]; exact hXp.2.2, rfl⟩) ⟨ks rfl (.c .bx), ks rfl .dt, ks rfl (.c .bx), ks rfl (.c .bx), ks rfl .dt, ks rfl .dt, kb 0 rfl (.dt rfl), kb 890 rfl (.cons (.cons .dt (.cons .dt Ctos.nil)) .nil), kb 150 rfl (.dt rfl (by first | (rw [dR_app]; simp; done) | (simp [dR]; done) | (rw [dR_app]; simp; rfl) | (simp [dR]; rfl))), kb 891 rfl (.cons (.cons .dt (.cons .ow Ctos.nil)) .nil), trivial⟩
    · skip
      obtain rfl : n = 0 := by omega
      rw [elemL] at hE
      have hr : elemD bs d p = ((ofV bs p [⟨#[65]⟩, ⟨#[66]⟩, ⟨#[65]⟩, ⟨#[67]⟩], xs), q) := by rw [elemD, ← hE]
      rw [hr]
      refine ACode.exit ?_
      refine ks_e ?_
      refine kl_e ?_
      refine kb_hit ?_
      refine ks_n ?_
      refine ACode.seq ?_
      refine ACode.region ?_
      refine .cons (.bN 2 rfl rfl rfl rfl rfl rfl) ?_
      refine .cons (.sT 2 true rfl rfl rfl rfl rfl rfl rfl) ?_
      refine .nil ?_
      refine ks_n ?_
      refine ACode.ret ?_
      refine kf_wret [(.t 4, .v (.o (.c (.box 100 2 0 0)))), (.b 0, .b 113 2 (dR ([rRd bs q]))), (.u 0, .u), (.b 100, .b 25 2 [[.d (dS (ofV bs p [⟨#[65]⟩, ⟨#[66]⟩, ⟨#[65]⟩, ⟨#[67]⟩])), .d (dAs xs)]]), (.u 100, .u)] (Wk.keep [(0, 0), (100, 110)] rfl rfl ⟨ks rfl (.c .bx), kb 0 rfl (.dt rfl), kb 110 rfl (.cons (.cons .dt (.cons (.fz rfl rfl (by simp) (by omega)) Ctos.nil)) .nil), trivial⟩) rfl ?_ (hbR_box rfl)
      rfl

def zA0 : Aff := ([], 0)
def zC0 : Acc := (ByteArray.empty, [])
def leafD (bs : List Int) (d p : Nat) : Ex × Nat :=
  if pickV bs p 4 = 0 then (.mk 1 (numV bs (p + 1) [1, 2, 0, 99, 3]) zA0 zC0 [], p + 1 + 1)
  else if pickV bs p 4 = 1 then (.mk 2 0 (drD bs (p + 1) d).1 zC0 [], (drD bs (p + 1) d).2)
  else (.mk 3 0 zA0 (elemD bs d (p + 1)).1 [], (elemD bs d (p + 1)).2)
def kidG (f : Nat → Ex × Nat) : Nat → List Ex → Nat → List Ex × Nat
  | 0, l, p => (l, p)
  | n + 1, l, p => kidG f n (l ++ [(f p).1]) (f p).2
def nodeG (bs : List Int) (leaf : Nat → Ex × Nat) (m : Int) (ops : List Int) (f : Nat → Ex × Nat) (p : Nat) : Ex × Nat :=
  if pickV bs p m = 0 then leaf (p + 1) else (.mk (numV bs (p + 1) ops) 0 zA0 zC0 (kidG f 2 [] (p + 1 + 1)).1, (kidG f 2 [] (p + 1 + 1)).2)
def valG (bs : List Int) (leaf : Nat → Ex × Nat) (m : Int) (ops : List Int) : Nat → Nat → Ex × Nat
  | 0, p => leaf p
  | 1, p => leaf p
  | L + 2, p => nodeG bs leaf m ops (fun q => valG bs leaf m ops (L + 1) q) p
/-- Steps and sizes of draws are bounded. -/
def Bnd (f : Nat → Ex × Nat) (N : Nat) : Prop := ∀ p, p ≤ (f p).2 ∧ (f p).2 ≤ p + N ∧ szE (f p).1 ≤ N
theorem szC_elem {a : Acc} (h1 : a.1.size ≤ 2) (h : a.2.length ≤ 2) (h4 : ∀ x ∈ a.2, x.1.length = 4) : szC a ≤ 12 := by
  rw [szC, szAs]
  match hh : a.2, h with
  | [], _ => simp; try omega
  | [x], _ => have := h4 x (by rw [hh]; simp); simp [this]; try omega
  | [x, y], _ => have := h4 x (by rw [hh]; simp); have := h4 y (by rw [hh]; simp); simp [*]; try omega
theorem ofV_size (bs : List Int) (p : Nat) (xs : List ByteArray) (h : ∀ s ∈ xs, s.size ≤ 2) : (ofV bs p xs).size ≤ 2 := by
  rw [ofV, List.getD]
  cases hq : xs[(pickV bs p xs.length).toNat]? with
  | none => exact Nat.zero_le _
  | some s => exact h s (List.mem_of_getElem? hq)
theorem elemD_sz (bs : List Int) (d p : Nat) : szC (elemD bs d p).1 ≤ 12 := by
  obtain ⟨_, _, _, h2, h3⟩ := elemD_p bs d p
  exact szC_elem (ofV_size _ _ _ (by decide)) h2 h3
theorem szE_mk (k n : Int) (i : Aff) (r : Acc) (l : List Ex) : szE (.mk k n i r l) = i.1.length + szC r + l.length + szEs l := by rw [szE]
theorem drD_len (bs : List Int) (p d : Nat) : (drD bs p d).1.1.length = 4 ∧ (drD bs p d).2 = p + 1 + d := by
  obtain ⟨h1, h2⟩ := drE_len bs d 0 [0, 0, 0, 0] (p + 1)
  exact ⟨h1, h2⟩
theorem leafD_bd (bs : List Int) {d : Nat} (hd : d ≤ 4) : Bnd (leafD bs d) 14 := fun p => by
  unfold leafD
  obtain ⟨a1, a2⟩ := drD_len bs (p + 1) d
  obtain ⟨b1, b2, _⟩ := elemD_p bs d (p + 1)
  have b3 := elemD_sz bs d (p + 1)
  split
  · exact ⟨by dsimp only; omega, by dsimp only; omega, by dsimp only; rw [szE_mk]; decide⟩
  · split
    · exact ⟨by dsimp only; omega, by dsimp only; omega, by dsimp only; rw [szE_mk, a1]; decide⟩
    · exact ⟨by dsimp only; omega, by dsimp only; omega, by dsimp only; rw [szE_mk]; show 0 + szC _ + 0 + szEs [] ≤ 14; rw [szEs]; omega⟩
theorem kidG_bd {f : Nat → Ex × Nat} {N : Nat} (hf : Bnd f N) : ∀ (n : Nat) (l : List Ex) (p : Nat), p ≤ (kidG f n l p).2 ∧ (kidG f n l p).2 ≤ p + N * n ∧ (kidG f n l p).1.length = l.length + n ∧ szEs (kidG f n l p).1 ≤ szEs l + N * n
  | 0, l, p => ⟨Nat.le_refl _, Nat.le_refl _, rfl, Nat.le_refl _⟩
  | n + 1, l, p => by
    obtain ⟨h1, h2, h3⟩ := hf p
    obtain ⟨q1, q2, q3, q4⟩ := kidG_bd hf n (l ++ [(f p).1]) (f p).2
    have key : ∀ (a : List Ex) (x : Ex), szEs (a ++ [x]) = szEs a + szE x := by
      intro a x
      induction a with
      | nil => simp [szEs]
      | cons y a ih => rw [List.cons_append, szEs, szEs, ih]; omega
    rw [key] at q4
    rw [kidG, Nat.mul_add, Nat.mul_one]
    exact ⟨by omega, by omega, by rw [q3]; simp; omega, by omega⟩
theorem nodeG_bd {bs : List Int} {leaf : Nat → Ex × Nat} {m : Int} {ops : List Int} {f : Nat → Ex × Nat} {N : Nat} (hN : 14 ≤ N) (hl : Bnd leaf 14) (hf : Bnd f N) : Bnd (nodeG bs leaf m ops f) (2 * N + 2) := fun p => by
  unfold nodeG
  obtain ⟨h1, h2, h3⟩ := hl (p + 1)
  obtain ⟨q1, q2, q3, q4⟩ := kidG_bd hf 2 [] (p + 1 + 1)
  have e0 : szEs [] = 0 := by rw [szEs]
  rw [e0] at q4
  rw [List.length_nil] at q3
  split
  · exact ⟨by omega, by omega, by omega⟩
  · refine ⟨by dsimp only; omega, by dsimp only; omega, ?_⟩
    dsimp only
    rw [szE_mk, q3]
    show 0 + 0 + (0 + 2) + szEs _ ≤ _
    omega
theorem valG_bd {bs : List Int} {leaf : Nat → Ex × Nat} {m : Int} {ops : List Int} (hl : Bnd leaf 14) : ∀ L : Nat, Bnd (valG bs leaf m ops L) (16 * 2 ^ L - 2)
  | 0 => fun p => hl p
  | 1 => fun p => by obtain ⟨h1, h2, h3⟩ := hl p; exact ⟨h1, by show (leaf p).2 ≤ _; omega, by show szE (leaf p).1 ≤ _; omega⟩
  | L + 2 => fun p => by
    have hp : 1 ≤ 2 ^ L := Nat.one_le_two_pow
    have ih := valG_bd (bs := bs) (m := m) (ops := ops) hl (L + 1)
    have h := nodeG_bd (bs := bs) (m := m) (ops := ops) (N := 16 * 2 ^ (L + 1) - 2) (by rw [Nat.pow_succ]; omega) hl ih p
    simp only [Nat.pow_succ] at h ⊢
    obtain ⟨h1, h2, h3⟩ := h
    exact ⟨h1, Nat.le_trans h2 (by omega), Nat.le_trans h3 (by omega)⟩

set_option maxRecDepth 100000 in
set_option maxHeartbeats 1600000 in
theorem l3Value_small {bs : List Int} (hb : Bytes bs) {p : Nat} (hp : p ≤ 80000000) (d : Nat) (hd : d ≤ 4) (lv : Int) (hlv : lv < 2) : Fn Try.prog 110 (hbR bs p) [vR, nat1 (d : Nat), nat1 lv] (.o (ad (rX (leafD bs d p).1))) (hbR bs (leafD bs d p).2) := by
  refine Fn.of_code Try.func110 rfl rfl (hbR_HB _ _) rfl rfl (hbR_HB _ _) rfl (hbR_num _ _ _) ?_
  refine ACode.seq ?_
  refine ACode.region ?_
  refine .cons (.al 106 [.int .i64 0, .int .i64 0, .slice none 0 0, .int .i64 0, .string ByteArray.empty, .slice none 0 0, .slice none 0 0] rfl rfl rfl) ?_
  refine .nil ?_
  refine ks_n ?_
  refine ACode.seq ?_
  refine ACode.seq ?_
  refine ACode.region ?_
  refine .cons (.mv rfl rfl) ?_
  refine .cons (.ls rfl rfl rfl) ?_
  refine .cons (.mv rfl rfl) ?_
  refine .cD 11 rfl (fun g11 => ?_) (fun g11 => ?_)
  · skip
    refine .cons (.gF rfl rfl rfl) ?_
    refine .cons (.gF rfl rfl rfl) ?_
    refine .cons (.gF rfl rfl rfl) ?_
    refine .cons (.pT rfl rfl rfl) ?_
    refine .nil ?_
    refine ks_n ?_
    refine ACode.condT rfl (fun _ => ?_) (fun h => by first | (cases h; done) | (simp [*] at h; done) | (exfalso; simp_all; done))
    refine ACode.seq ?_
    refine ACode.seq ?_
    obtain ⟨r, hr⟩ : ∃ r, r = leafD bs d p := ⟨_, rfl⟩
    rw [← hr]
    have hR := hr
    unfold leafD at hR
    refine ACode.region ?_
    refine .cons (.mv rfl rfl) ?_
    refine .cons (.cR [.tmp 16, .const (.int .i64 (4))] 0 rfl rfl rfl rfl (pick_fn hb (by omega) 4) rfl ⟨rfl, trivial⟩) ?_
    refine .nil ?_
    refine ks_n ?_
    refine ACode.block ?_
    refine ACode.seq ?_
    refine ACode.region ?_
    refine .cons (.eq rfl rfl rfl) ?_
    refine .cons (.asg rfl rfl) ?_
    refine .nil ?_
    refine ks_n ?_
    refine .cD rfl (fun h18 => ?_) (fun h18 => ?_)
    · skip
      refine ACode.seq ?_
      refine ACode.region ?_
      refine .cons (.mv rfl rfl) ?_
      refine .cons (.li 3 0 4 [.const (.int .i64 (1)), .const (.int .i64 (2)), .const (.int .i64 (0)), .const (.int .i64 (99)), .const (.int .i64 (3))] rfl rfl rfl rfl rfl rfl) ?_
      refine .cons (.cR [.tmp 20, .tmp 21] 0 rfl rfl rfl rfl (num_fn hb (by omega) [1, 2, 0, 99, 3] (by simp)) rfl ⟨rfl, trivial⟩) ?_
      refine .cons (.bu [(0, .const (.int .i64 (1))), (1, .tmp 22)] [(0, 1), (1, 1), (2, 2), (4, 2), (6, 1)] [.int .i64 0, .int .i64 0, .slice none 0 0, .int .i64 0, .string ByteArray.empty, .slice none 0 0, .slice none 0 0] rfl rfl rfl rfl rfl) ?_
      refine .cons (.sT 7 true rfl rfl rfl rfl rfl rfl rfl) ?_
      refine .nil ?_
      refine ks_n ?_
      refine ACode.ret ?_
      refine kb_r ?_
      refine ks_r ?_
      refine ks_r ?_
      first | rw [if_pos (by assumption)] at hR | rw [if_neg (by assumption), if_pos (by assumption)] at hR | rw [if_neg (by assumption), if_neg (by assumption)] at hR
      refine kf_wret [(.t 6, .v (.o (.c (.box 100 7 0 0)))), (.b 0, .b 113 2 (dR ([rRd bs r.2]))), (.u 0, .u), (.b 100, .b 31 7 [[.d (dI r.1.k), .d (dI r.1.n), .d (dIs r.1.i.1), .d (dI r.1.i.2), .d (dS r.1.r.1), .d (dAs r.1.r.2), .d (dEs r.1.ks)]]), (.u 100, .u)] (Wk.keep [(0, 0), (100, 106)] rfl rfl ⟨ks rfl (.c .bx), kb 0 rfl (.dt rfl (by first | rfl | (rw [hR]; done) | (rw [hR]; rfl))), kb 106 rfl (.cons (.cons (.dt (by first | rfl | (rw [hR]; done) | (rw [hR]; rfl))) (.cons (.dt (by first | rfl | (rw [hR]; done) | (rw [hR]; rfl))) (.cons (Cto.nilE 1 (by first | rfl | (rw [hR]; done) | (rw [hR]; rfl))) (.cons (.dt (by first | rfl | (rw [hR]; done) | (rw [hR]; rfl))) (.cons (.dt (by first | rfl | (rw [hR]; done) | (rw [hR]; rfl))) (.cons (Cto.nilE 2 (by first | rfl | (rw [hR]; done) | (rw [hR]; rfl))) (.cons (Cto.nilE 7 (by first | rfl | (rw [hR]; done) | (rw [hR]; rfl))) Ctos.nil))))))) .nil), trivial⟩) rfl ?_ (hbR_box rfl)
      rfl
    · skip
      refine ACode.seq ?_
      refine ACode.region ?_
      refine .cons (.eq rfl rfl rfl) ?_
      refine .cons (.asg rfl rfl) ?_
      refine .nil ?_
      refine ks_n ?_
      refine .cD rfl (fun h24 => ?_) (fun h24 => ?_)
      · skip
        refine ACode.seq ?_
        refine ACode.region ?_
        refine .cons (.mv rfl rfl) ?_
        refine .cons (.mv rfl rfl) ?_
        refine .cons (.cR [.tmp 26, .tmp 27] 0 rfl rfl rfl rfl (l1Draw_fn hb (by omega) d hd) rfl ⟨rfl, trivial⟩) ?_
        refine .cons (.bu [(0, .const (.int .i64 (2))), (2, .tmp 28)] [(0, 1), (1, 1), (2, 2), (4, 2), (6, 1)] [.int .i64 0, .int .i64 0, .slice none 0 0, .int .i64 0, .string ByteArray.empty, .slice none 0 0, .slice none 0 0] rfl rfl rfl rfl rfl) ?_
        refine .cons (.sT 7 true rfl rfl rfl rfl rfl rfl rfl) ?_
        refine .nil ?_
        refine ks_n ?_
        refine ACode.ret ?_
        refine kb_r ?_
        refine ks_r ?_
        refine ks_r ?_
        first | rw [if_pos (by assumption)] at hR | rw [if_neg (by assumption), if_pos (by assumption)] at hR | rw [if_neg (by assumption), if_neg (by assumption)] at hR
        refine kf_wret [(.t 6, .v (.o (.c (.box 100 7 0 0)))), (.b 0, .b 113 2 (dR ([rRd bs r.2]))), (.u 0, .u), (.b 100, .b 31 7 [[.d (dI r.1.k), .d (dI r.1.n), .d (dIs r.1.i.1), .d (dI r.1.i.2), .d (dS r.1.r.1), .d (dAs r.1.r.2), .d (dEs r.1.ks)]]), (.u 100, .u)] (Wk.keep [(0, 0), (100, 106)] rfl rfl ⟨ks rfl (.c .bx), kb 0 rfl (.dt rfl (by first | rfl | (rw [hR]; done) | (rw [hR]; rfl))), kb 106 rfl (.cons (.cons (.dt (by first | rfl | (rw [hR]; done) | (rw [hR]; rfl))) (.cons (.dt (by first | rfl | (rw [hR]; done) | (rw [hR]; rfl))) (.cons (.dt (by first | rfl | (rw [hR]; done) | (rw [hR]; rfl))) (.cons (.dt (by first | rfl | (rw [hR]; done) | (rw [hR]; rfl))) (.cons (.dt (by first | rfl | (rw [hR]; done) | (rw [hR]; rfl))) (.cons (Cto.nilE 2 (by first | rfl | (rw [hR]; done) | (rw [hR]; rfl))) (.cons (Cto.nilE 7 (by first | rfl | (rw [hR]; done) | (rw [hR]; rfl))) Ctos.nil))))))) .nil), trivial⟩) rfl ?_ (hbR_box rfl)
        rfl
      · skip
        refine ACode.skip ?_
        refine kb_n ?_
        refine ks_n ?_
        refine ACode.seq ?_
        refine ACode.region ?_
        refine .cons (.mv rfl rfl) ?_
        refine .cons (.mv rfl rfl) ?_
        refine .cons (.cR [.tmp 30, .tmp 31] 0 rfl rfl rfl rfl (l3Elem_fn hb (by omega) d hd) rfl ⟨rfl, trivial⟩) ?_
        refine .cons (.bu [(0, .const (.int .i64 (3))), (3, .tmp 32)] [(0, 1), (1, 1), (2, 2), (4, 2), (6, 1)] [.int .i64 0, .int .i64 0, .slice none 0 0, .int .i64 0, .string ByteArray.empty, .slice none 0 0, .slice none 0 0] rfl rfl rfl rfl rfl) ?_
        refine .cons (.sT 7 true rfl rfl rfl rfl rfl rfl rfl) ?_
        refine .nil ?_
        refine ks_n ?_
        refine ACode.ret ?_
        refine ks_r ?_
        first | rw [if_pos (by assumption)] at hR | rw [if_neg (by assumption), if_pos (by assumption)] at hR | rw [if_neg (by assumption), if_neg (by assumption)] at hR
        refine kf_wret [(.t 6, .v (.o (.c (.box 100 7 0 0)))), (.b 0, .b 113 2 (dR ([rRd bs r.2]))), (.u 0, .u), (.b 100, .b 31 7 [[.d (dI r.1.k), .d (dI r.1.n), .d (dIs r.1.i.1), .d (dI r.1.i.2), .d (dS r.1.r.1), .d (dAs r.1.r.2), .d (dEs r.1.ks)]]), (.u 100, .u)] (Wk.keep [(0, 0), (100, 106)] rfl rfl ⟨ks rfl (.c .bx), kb 0 rfl (.dt rfl (by first | rfl | (rw [hR]; done) | (rw [hR]; rfl))), kb 106 rfl (.cons (.cons (.dt (by first | rfl | (rw [hR]; done) | (rw [hR]; rfl))) (.cons (.dt (by first | rfl | (rw [hR]; done) | (rw [hR]; rfl))) (.cons (Cto.nilE 1 (by first | rfl | (rw [hR]; done) | (rw [hR]; rfl))) (.cons (.dt (by first | rfl | (rw [hR]; done) | (rw [hR]; rfl))) (.cons (.dt (by first | rfl | (rw [hR]; done) | (rw [hR]; rfl))) (.cons (.dt (by first | rfl | (rw [hR]; done) | (rw [hR]; rfl))) (.cons (Cto.nilE 7 (by first | rfl | (rw [hR]; done) | (rw [hR]; rfl))) Ctos.nil))))))) .nil), trivial⟩) rfl ?_ (hbR_box rfl)
        rfl
  · skip
    exact absurd hlv g11

set_option maxRecDepth 100000 in
set_option maxHeartbeats 1600000 in
theorem l3Value_big {bs : List Int} (hb : Bytes bs) {p : Nat} (d : Nat) (hd : d ≤ 4) (lv : Int) (hlv : ¬ lv < 2) (hlv2 : lv ≤ 100) {f : Nat → Ex × Nat} {N : Nat} (hf : Bnd f N) (hp : p + 2 * N + 4 ≤ 70000000) (ih : ∀ q, q + N + 2 ≤ 70000000 → Fn Try.prog 110 (hbR bs q) [vR, nat1 (d : Nat), nat1 (lv - 1)] (.o (ad (rX (f q).1))) (hbR bs (f q).2)) : Fn Try.prog 110 (hbR bs p) [vR, nat1 (d : Nat), nat1 lv] (.o (ad (rX (nodeG bs (leafD bs d) 4 [4, 6, 5, 4] f p).1))) (hbR bs (nodeG bs (leafD bs d) 4 [4, 6, 5, 4] f p).2) := by
  refine Fn.of_code Try.func110 rfl rfl (hbR_HB _ _) rfl rfl (hbR_HB _ _) rfl (hbR_num _ _ _) ?_
  refine ACode.seq ?_
  refine ACode.region ?_
  refine .cons (.al 106 [.int .i64 0, .int .i64 0, .slice none 0 0, .int .i64 0, .string ByteArray.empty, .slice none 0 0, .slice none 0 0] rfl rfl rfl) ?_
  refine .nil ?_
  refine ks_n ?_
  refine ACode.seq ?_
  refine ACode.seq ?_
  refine ACode.region ?_
  refine .cons (.mv rfl rfl) ?_
  refine .cons (.ls rfl rfl rfl) ?_
  refine .cons (.mv rfl rfl) ?_
  refine .cD 11 rfl (fun g11 => ?_) (fun g11 => ?_)
  · skip
    exact absurd g11 hlv
  · skip
    refine .cons (.gT rfl rfl rfl (.mv rfl rfl)) ?_
    refine .cons (.gT rfl rfl rfl (.cR [.tmp 12, .const (.int .i64 (4))] 0 rfl rfl rfl rfl (pick_fn hb (by omega) 4) rfl ⟨rfl, trivial⟩)) ?_
    refine .cons (.gT rfl rfl rfl (.eq rfl rfl rfl)) ?_
    refine .cons (.pF rfl rfl rfl) ?_
    refine .nil ?_
    refine ks_n ?_
    refine ACode.condT rfl (fun h15 => ?_) (fun h15 => ?_)
    · try simp only [List.length_map, decide_eq_true_eq, decide_eq_false_iff_not, Bool.not_eq_true', Bool.not_eq_false', Bool.not_eq_true, Bool.not_eq_false] at h15
      refine ACode.seq ?_
      refine ACode.seq ?_
      obtain ⟨r, hr⟩ : ∃ r, r = nodeG bs (leafD bs d) 4 [4, 6, 5, 4] f p := ⟨_, rfl⟩
      rw [← hr]
      have hR := hr
      unfold nodeG at hR
      rw [if_pos h15] at hR
      unfold leafD at hR
      refine ACode.region ?_
      refine .cons (.mv rfl rfl) ?_
      refine .cons (.cR [.tmp 16, .const (.int .i64 (4))] 0 rfl rfl rfl rfl (pick_fn hb (by omega) 4) rfl ⟨rfl, trivial⟩) ?_
      refine .nil ?_
      refine ks_n ?_
      refine ACode.block ?_
      refine ACode.seq ?_
      refine ACode.region ?_
      refine .cons (.eq rfl rfl rfl) ?_
      refine .cons (.asg rfl rfl) ?_
      refine .nil ?_
      refine ks_n ?_
      refine .cD rfl (fun h18 => ?_) (fun h18 => ?_)
      · skip
        refine ACode.seq ?_
        refine ACode.region ?_
        refine .cons (.mv rfl rfl) ?_
        refine .cons (.li 3 0 4 [.const (.int .i64 (1)), .const (.int .i64 (2)), .const (.int .i64 (0)), .const (.int .i64 (99)), .const (.int .i64 (3))] rfl rfl rfl rfl rfl rfl) ?_
        refine .cons (.cR [.tmp 20, .tmp 21] 0 rfl rfl rfl rfl (num_fn hb (by omega) [1, 2, 0, 99, 3] (by simp)) rfl ⟨rfl, trivial⟩) ?_
        refine .cons (.bu [(0, .const (.int .i64 (1))), (1, .tmp 22)] [(0, 1), (1, 1), (2, 2), (4, 2), (6, 1)] [.int .i64 0, .int .i64 0, .slice none 0 0, .int .i64 0, .string ByteArray.empty, .slice none 0 0, .slice none 0 0] rfl rfl rfl rfl rfl) ?_
        refine .cons (.sT 7 true rfl rfl rfl rfl rfl rfl rfl) ?_
        refine .nil ?_
        refine ks_n ?_
        refine ACode.ret ?_
        refine kb_r ?_
        refine ks_r ?_
        refine ks_r ?_
        first | rw [if_pos (by assumption)] at hR | rw [if_neg (by assumption), if_pos (by assumption)] at hR | rw [if_neg (by assumption), if_neg (by assumption)] at hR | skip
        refine kf_wret [(.t 6, .v (.o (.c (.box 100 7 0 0)))), (.b 0, .b 113 2 (dR ([rRd bs r.2]))), (.u 0, .u), (.b 100, .b 31 7 [[.d (dI r.1.k), .d (dI r.1.n), .d (dIs r.1.i.1), .d (dI r.1.i.2), .d (dS r.1.r.1), .d (dAs r.1.r.2), .d (dEs r.1.ks)]]), (.u 100, .u)] (Wk.keep [(0, 0), (100, 106)] rfl rfl ⟨ks rfl (.c .bx), kb 0 rfl (.dt rfl (by first | rfl | (rw [hR]; done) | (rw [hR]; rfl))), kb 106 rfl (.cons (.cons (.dt (by first | rfl | (rw [hR]; done) | (rw [hR]; rfl))) (.cons (.dt (by first | rfl | (rw [hR]; done) | (rw [hR]; rfl))) (.cons (Cto.nilE 1 (by first | rfl | (rw [hR]; done) | (rw [hR]; rfl))) (.cons (.dt (by first | rfl | (rw [hR]; done) | (rw [hR]; rfl))) (.cons (.dt (by first | rfl | (rw [hR]; done) | (rw [hR]; rfl))) (.cons (Cto.nilE 2 (by first | rfl | (rw [hR]; done) | (rw [hR]; rfl))) (.cons (Cto.nilE 7 (by first | rfl | (rw [hR]; done) | (rw [hR]; rfl))) Ctos.nil))))))) .nil), trivial⟩) rfl ?_ (hbR_box rfl)
        rfl
      · skip
        refine ACode.seq ?_
        refine ACode.region ?_
        refine .cons (.eq rfl rfl rfl) ?_
        refine .cons (.asg rfl rfl) ?_
        refine .nil ?_
        refine ks_n ?_
        refine .cD rfl (fun h24 => ?_) (fun h24 => ?_)
        · skip
          refine ACode.seq ?_
          refine ACode.region ?_
          refine .cons (.mv rfl rfl) ?_
          refine .cons (.mv rfl rfl) ?_
          refine .cons (.cR [.tmp 26, .tmp 27] 0 rfl rfl rfl rfl (l1Draw_fn hb (by omega) d hd) rfl ⟨rfl, trivial⟩) ?_
          refine .cons (.bu [(0, .const (.int .i64 (2))), (2, .tmp 28)] [(0, 1), (1, 1), (2, 2), (4, 2), (6, 1)] [.int .i64 0, .int .i64 0, .slice none 0 0, .int .i64 0, .string ByteArray.empty, .slice none 0 0, .slice none 0 0] rfl rfl rfl rfl rfl) ?_
          refine .cons (.sT 7 true rfl rfl rfl rfl rfl rfl rfl) ?_
          refine .nil ?_
          refine ks_n ?_
          refine ACode.ret ?_
          refine kb_r ?_
          refine ks_r ?_
          refine ks_r ?_
          first | rw [if_pos (by assumption)] at hR | rw [if_neg (by assumption), if_pos (by assumption)] at hR | rw [if_neg (by assumption), if_neg (by assumption)] at hR | skip
          refine kf_wret [(.t 6, .v (.o (.c (.box 100 7 0 0)))), (.b 0, .b 113 2 (dR ([rRd bs r.2]))), (.u 0, .u), (.b 100, .b 31 7 [[.d (dI r.1.k), .d (dI r.1.n), .d (dIs r.1.i.1), .d (dI r.1.i.2), .d (dS r.1.r.1), .d (dAs r.1.r.2), .d (dEs r.1.ks)]]), (.u 100, .u)] (Wk.keep [(0, 0), (100, 106)] rfl rfl ⟨ks rfl (.c .bx), kb 0 rfl (.dt rfl (by first | rfl | (rw [hR]; done) | (rw [hR]; rfl))), kb 106 rfl (.cons (.cons (.dt (by first | rfl | (rw [hR]; done) | (rw [hR]; rfl))) (.cons (.dt (by first | rfl | (rw [hR]; done) | (rw [hR]; rfl))) (.cons (.dt (by first | rfl | (rw [hR]; done) | (rw [hR]; rfl))) (.cons (.dt (by first | rfl | (rw [hR]; done) | (rw [hR]; rfl))) (.cons (.dt (by first | rfl | (rw [hR]; done) | (rw [hR]; rfl))) (.cons (Cto.nilE 2 (by first | rfl | (rw [hR]; done) | (rw [hR]; rfl))) (.cons (Cto.nilE 7 (by first | rfl | (rw [hR]; done) | (rw [hR]; rfl))) Ctos.nil))))))) .nil), trivial⟩) rfl ?_ (hbR_box rfl)
          rfl
        · skip
          refine ACode.skip ?_
          refine kb_n ?_
          refine ks_n ?_
          refine ACode.seq ?_
          refine ACode.region ?_
          refine .cons (.mv rfl rfl) ?_
          refine .cons (.mv rfl rfl) ?_
          refine .cons (.cR [.tmp 30, .tmp 31] 0 rfl rfl rfl rfl (l3Elem_fn hb (by omega) d hd) rfl ⟨rfl, trivial⟩) ?_
          refine .cons (.bu [(0, .const (.int .i64 (3))), (3, .tmp 32)] [(0, 1), (1, 1), (2, 2), (4, 2), (6, 1)] [.int .i64 0, .int .i64 0, .slice none 0 0, .int .i64 0, .string ByteArray.empty, .slice none 0 0, .slice none 0 0] rfl rfl rfl rfl rfl) ?_
          refine .cons (.sT 7 true rfl rfl rfl rfl rfl rfl rfl) ?_
          refine .nil ?_
          refine ks_n ?_
          refine ACode.ret ?_
          refine ks_r ?_
          first | rw [if_pos (by assumption)] at hR | rw [if_neg (by assumption), if_pos (by assumption)] at hR | rw [if_neg (by assumption), if_neg (by assumption)] at hR | skip
          refine kf_wret [(.t 6, .v (.o (.c (.box 100 7 0 0)))), (.b 0, .b 113 2 (dR ([rRd bs r.2]))), (.u 0, .u), (.b 100, .b 31 7 [[.d (dI r.1.k), .d (dI r.1.n), .d (dIs r.1.i.1), .d (dI r.1.i.2), .d (dS r.1.r.1), .d (dAs r.1.r.2), .d (dEs r.1.ks)]]), (.u 100, .u)] (Wk.keep [(0, 0), (100, 106)] rfl rfl ⟨ks rfl (.c .bx), kb 0 rfl (.dt rfl (by first | rfl | (rw [hR]; done) | (rw [hR]; rfl))), kb 106 rfl (.cons (.cons (.dt (by first | rfl | (rw [hR]; done) | (rw [hR]; rfl))) (.cons (.dt (by first | rfl | (rw [hR]; done) | (rw [hR]; rfl))) (.cons (Cto.nilE 1 (by first | rfl | (rw [hR]; done) | (rw [hR]; rfl))) (.cons (.dt (by first | rfl | (rw [hR]; done) | (rw [hR]; rfl))) (.cons (.dt (by first | rfl | (rw [hR]; done) | (rw [hR]; rfl))) (.cons (.dt (by first | rfl | (rw [hR]; done) | (rw [hR]; rfl))) (.cons (Cto.nilE 7 (by first | rfl | (rw [hR]; done) | (rw [hR]; rfl))) Ctos.nil))))))) .nil), trivial⟩) rfl ?_ (hbR_box rfl)
          rfl
    · try simp only [List.length_map, decide_eq_true_eq, decide_eq_false_iff_not, Bool.not_eq_true', Bool.not_eq_false', Bool.not_eq_true, Bool.not_eq_false] at h15
      refine ACode.skip ?_
      refine ks_n ?_
      refine ACode.seq ?_
      obtain ⟨r, hr⟩ : ∃ r, r = nodeG bs (leafD bs d) 4 [4, 6, 5, 4] f p := ⟨_, rfl⟩
      rw [← hr]
      have hR := hr
      unfold nodeG at hR
      rw [if_neg h15] at hR
      refine ACode.region ?_
      refine .cons (.mv rfl rfl) ?_
      refine .cons (.li 3 0 3 [.const (.int .i64 (4)), .const (.int .i64 (6)), .const (.int .i64 (5)), .const (.int .i64 (4))] rfl rfl rfl rfl rfl rfl) ?_
      refine .cons (.cR [.tmp 34, .tmp 35] 0 rfl rfl rfl rfl (num_fn hb (by omega) [4, 6, 5, 4] (by simp)) rfl ⟨rfl, trivial⟩) ?_
      refine .cons (.bu [(0, .tmp 36)] [(0, 1), (1, 1), (2, 2), (4, 2), (6, 1)] [.int .i64 0, .int .i64 0, .slice none 0 0, .int .i64 0, .string ByteArray.empty, .slice none 0 0, .slice none 0 0] rfl rfl rfl rfl rfl) ?_
      refine .cons (.al 107 [.int .i64 0, .int .i64 0, .slice none 0 0, .int .i64 0, .string ByteArray.empty, .slice none 0 0, .slice none 0 0] rfl rfl rfl) ?_
      refine .cons (.sT 7 true rfl rfl rfl rfl rfl rfl rfl) ?_
      refine .nil ?_
      refine ks_n ?_
      refine ACode.seq ?_
      refine ACode.seq ?_
      refine ACode.region ?_
      refine .cons (.asg rfl rfl) ?_
      refine .nil ?_
      refine ks_n ?_
      refine ACode.block ?_
      refine .loopK (fun m σ => (∃ (n q : Nat), m = n + 0 ∧ (n = 2) ∧ (q = p + 1 + 1) ∧ (kidG f n [] q = kidG f 2 [] (p + 1 + 1)) ∧ σ = [(.t 0, .v (.o (.c (.box 0 2 0 0)))), (.t 1, .v (.o (nat1 (d : Nat)))), (.t 2, .v (.o (nat1 lv))), (.t 6, .v (.o (.c (.box 110 7 0 0)))), (.t 7, .v (.o (.c (.box 111 7 0 0)))), (.t 8, .v (.o (nat1 (2 - (n : Nat))))), (.b 0, .b 113 2 (dR ([rRd bs q]))), (.u 0, .u), (.b 110, .b 31 7 [[.d (dI 0), .d (dI 0), .d (.val (.slice none 0 0)), .d (dI 0), .d (dS ByteArray.empty), .d (.val (.slice none 0 0)), .d (.val (.slice none 0 0))]]), (.u 110, .u), (.b 111, .b 31 7 [[.d (dI (numV bs (p + 1) [4, 6, 5, 4])), .d (dI 0), .d (.val (.slice none 0 0)), .d (dI 0), .d (dS ByteArray.empty), .d (.val (.slice none 0 0)), .d (.val (.slice none 0 0))]]), (.u 111, .u)]) ∨ (∃ (n q : Nat) (l : List Ex), m = n + 0 ∧ (0 < l.length) ∧ (l.length + n = 2) ∧ (q ≤ p + 2 + 2 * N ∧ (n = 1 → q ≤ p + 2 + N)) ∧ (kidG f n l q = kidG f 2 [] (p + 1 + 1)) ∧ σ = [(.t 0, .v (.o (.c (.box 0 2 0 0)))), (.t 1, .v (.o (nat1 (d : Nat)))), (.t 2, .v (.o (nat1 lv))), (.t 6, .v (.o (.c (.box 110 7 0 0)))), (.t 7, .v (.o (.c (.box 111 7 0 0)))), (.t 8, .v (.o (nat1 (2 - (n : Nat))))), (.b 0, .b 113 2 (dR ([rRd bs q]))), (.u 0, .u), (.b 110, .b 31 7 [[.d (dI 0), .d (dI 0), .d (.val (.slice none 0 0)), .d (dI 0), .d (dS ByteArray.empty), .d (.val (.slice none 0 0)), .d (.val (.slice none 0 0))]]), (.u 110, .u), (.b 112, .b 31 7 (dR (l.map rE))), (.u 112, .u), (.b 111, .b 31 7 [[.d (dI (numV bs (p + 1) [4, 6, 5, 4])), .d (dI 0), .d (.val (.slice none 0 0)), .d (dI 0), .d (dS ByteArray.empty), .d (.val (.slice none 0 0)), .own 112 7 (l.length)]]), (.u 111, .u)])) [(0, 0), (110, 106), (111, 107)] (.inl ⟨2, p + 1 + 1, rfl, rfl, rfl, rfl, rfl⟩) ⟨ks rfl (.c .bx), ks rfl .dt, ks rfl .dt, ks rfl (.c .bx), ks rfl (.c .bx), ks rfl .dt, kb 0 rfl (.dt rfl), kb 106 rfl (.cons (.cons .dt (.cons .dt (.cons .dt (.cons .dt (.cons .dt (.cons .dt (.cons .dt Ctos.nil))))))) .nil), kb 107 rfl (.cons (.cons .dt (.cons .dt (.cons .dt (.cons .dt (.cons .dt (.cons .dt (.cons .dt Ctos.nil))))))) .nil), trivial⟩ ?_
      rintro m σ (⟨n, q, hm0, hn, hq, hE, rfl⟩ | ⟨n, q, l, hm0, hl0, hln, hq, hE, rfl⟩)
      · skip
        refine ACode.seq ?_
        refine ACode.seq ?_
        refine ACode.region ?_
        refine .cons (.mv rfl rfl) ?_
        refine .cons (.ls rfl rfl rfl) ?_
        refine .nil ?_
        refine ks_n ?_
        refine .cD rfl (fun h39 => ?_) (fun h39 => ?_)
        · skip
          obtain ⟨f1, f2, f3⟩ := hf q
          refine ACode.skip ?_
          refine ks_n ?_
          refine ACode.seq ?_
          refine ACode.block ?_
          refine ACode.drawK (by kernel_rfl) (by kernel_rfl) ?_
          refine .cons (.fB 6 0 false rfl rfl rfl) ?_
          refine .cons (.b1 1 rfl rfl rfl rfl rfl rfl) ?_
          refine .cons (.mv rfl rfl) ?_
          refine .cons (.mv rfl rfl) ?_
          refine .cons (.mv rfl rfl) ?_
          refine .cons (.sb rfl rfl rfl) ?_
          refine .cons (.cR [.tmp 44, .tmp 45, .tmp 47] 0 rfl rfl rfl rfl (ih q (by omega)) rfl ⟨rfl, trivial⟩) ?_
          refine .cons (.li 31 6 0 [.tmp 48] rfl rfl rfl rfl rfl rfl) ?_
          refine .cons (St1.appN (k' := 150) (e := 31) (sz := 6) (by' := 112) rfl rfl rfl rfl rfl (by kernel_rfl) rfl rfl rfl (by simp) (by simp [dR] <;> omega) rfl rfl) ?_
          refine .cons (.fB 6 0 false rfl rfl rfl) ?_
          refine .cons (.sT 1 false rfl rfl rfl rfl rfl rfl rfl) ?_
          refine .nil ⟨by kernel_rfl, ?_⟩
          refine kb_n ?_
          refine ks_n ?_
          refine ACode.region ?_
          refine .cons (.mv rfl rfl) ?_
          refine .cons (.pl rfl rfl rfl) ?_
          refine .cons (.asg rfl rfl) ?_
          refine .nil ?_
          refine kl_k [(0, 0), (110, 110), (111, 111), (112, 150)] (.inr ⟨n - 1, (f q).2, [(f q).1], rfl, by simp, by simp; omega, by omega, by rw [← hE, show kidG f n [] q = kidG f (n - 1 + 1) [] q by rw [Nat.sub_add_cancel (by omega)], kidG] <;> first | rfl | simp, rfl⟩) ⟨ks rfl (.c .bx), ks rfl .dt, ks rfl .dt, ks rfl (.c .bx), ks rfl (.c .bx), ks rfl .dt, kb 0 rfl (.dt rfl), kb 110 rfl (.cons (.cons .dt (.cons .dt (.cons .dt (.cons .dt (.cons .dt (.cons .dt (.cons .dt Ctos.nil))))))) .nil), kb 150 rfl (.dt rfl (by first | (rw [← rE_one, dR_app, ← List.map_append]; done) | (rw [← rE_one]; simp [dR]; done) | (simp [dR, rE_eq]; done) | (simp [dR, rE_eq]; rfl))), kb 111 rfl (.cons (.cons .dt (.cons .dt (.cons .dt (.cons .dt (.cons .dt (.cons .dt (.cons .ow Ctos.nil))))))) .nil), trivial⟩
        · skip
          omega
      · skip
        refine ACode.seq ?_
        refine ACode.seq ?_
        refine ACode.region ?_
        refine .cons (.mv rfl rfl) ?_
        refine .cons (.ls rfl rfl rfl) ?_
        refine .nil ?_
        refine ks_n ?_
        refine .cD rfl (fun h39 => ?_) (fun h39 => ?_)
        · skip
          obtain ⟨f1, f2, f3⟩ := hf q
          refine ACode.skip ?_
          refine ks_n ?_
          refine ACode.seq ?_
          refine ACode.block ?_
          refine ACode.drawK (by kernel_rfl) (by kernel_rfl) ?_
          refine .cons (.fB 6 0 false rfl rfl rfl) ?_
          refine .cons (.b1 1 rfl rfl rfl rfl rfl rfl) ?_
          refine .cons (.mv rfl rfl) ?_
          refine .cons (.mv rfl rfl) ?_
          refine .cons (.mv rfl rfl) ?_
          refine .cons (.sb rfl rfl rfl) ?_
          refine .cons (.cR [.tmp 44, .tmp 45, .tmp 47] 0 rfl rfl rfl rfl (ih q (by omega)) rfl ⟨rfl, trivial⟩) ?_
          refine .cons (.li 31 6 0 [.tmp 48] rfl rfl rfl rfl rfl rfl) ?_
          refine .cons (St1.appB (k' := 150) (e := 31) (sz := 6) (by' := 112) rfl rfl rfl rfl rfl (by kernel_rfl) rfl rfl rfl rfl (by simp [dR]) (by simp [dR] <;> omega) rfl rfl rfl) ?_
          refine .cons (.fB 6 0 false rfl rfl rfl) ?_
          refine .cons (.sT 1 false rfl rfl rfl rfl rfl rfl rfl) ?_
          refine .nil ⟨by kernel_rfl, ?_⟩
          refine kb_n ?_
          refine ks_n ?_
          refine ACode.region ?_
          refine .cons (.mv rfl rfl) ?_
          refine .cons (.pl rfl rfl rfl) ?_
          refine .cons (.asg rfl rfl) ?_
          refine .nil ?_
          refine kl_k [(0, 0), (110, 110), (111, 111), (112, 150)] (.inr ⟨n - 1, (f q).2, l ++ [(f q).1], rfl, by simp, by simp; omega, by omega, by rw [← hE, show kidG f n l q = kidG f (n - 1 + 1) l q by rw [Nat.sub_add_cancel (by omega)], kidG] <;> first | rfl | simp, rfl⟩) ⟨ks rfl (.c .bx), ks rfl .dt, ks rfl .dt, ks rfl (.c .bx), ks rfl (.c .bx), ks rfl .dt, kb 0 rfl (.dt rfl), kb 110 rfl (.cons (.cons .dt (.cons .dt (.cons .dt (.cons .dt (.cons .dt (.cons .dt (.cons .dt Ctos.nil))))))) .nil), kb 150 rfl (.dt rfl (by first | (rw [← rE_one, dR_app, ← List.map_append]; done) | (rw [← rE_one]; simp [dR]; done) | (simp [dR, rE_eq]; done) | (simp [dR, rE_eq]; rfl))), kb 111 rfl (.cons (.cons .dt (.cons .dt (.cons .dt (.cons .dt (.cons .dt (.cons .dt (.cons .ow Ctos.nil))))))) .nil), trivial⟩
        · skip
          obtain rfl : n = 0 := by omega
          rw [kidG] at hE
          rw [← hE] at hR
          refine ACode.exit ?_
          refine ks_e ?_
          refine kl_e ?_
          refine kb_hit ?_
          refine ks_n ?_
          refine ACode.seq ?_
          refine ACode.region ?_
          refine .cons (.bN 7 rfl rfl rfl rfl rfl rfl) ?_
          refine .cons (.sT 7 true rfl rfl rfl rfl rfl rfl rfl) ?_
          refine .nil ?_
          refine ks_n ?_
          refine ACode.ret ?_
          first | rw [if_pos (by assumption)] at hR | rw [if_neg (by assumption), if_pos (by assumption)] at hR | rw [if_neg (by assumption), if_neg (by assumption)] at hR | skip
          refine kf_wret [(.t 6, .v (.o (.c (.box 100 7 0 0)))), (.b 0, .b 113 2 (dR ([rRd bs r.2]))), (.u 0, .u), (.b 100, .b 31 7 [[.d (dI r.1.k), .d (dI r.1.n), .d (dIs r.1.i.1), .d (dI r.1.i.2), .d (dS r.1.r.1), .d (dAs r.1.r.2), .d (dEs r.1.ks)]]), (.u 100, .u)] (Wk.keep [(0, 0), (100, 110)] rfl rfl ⟨ks rfl (.c .bx), kb 0 rfl (.dt rfl (by first | rfl | (rw [hR]; done) | (rw [hR]; rfl))), kb 110 rfl (.cons (.cons (.dt (by first | rfl | (rw [hR]; done) | (rw [hR]; rfl))) (.cons (.dt (by first | rfl | (rw [hR]; done) | (rw [hR]; rfl))) (.cons (Cto.nilE 1 (by first | rfl | (rw [hR]; done) | (rw [hR]; rfl))) (.cons (.dt (by first | rfl | (rw [hR]; done) | (rw [hR]; rfl))) (.cons (.dt (by first | rfl | (rw [hR]; done) | (rw [hR]; rfl))) (.cons (Cto.nilE 2 (by first | rfl | (rw [hR]; done) | (rw [hR]; rfl))) (.cons (.fz rfl (by first | rfl | (rw [hR]; done) | (rw [hR]; rfl)) (by rw [hR, List.length_map]; try rfl) (by omega)) Ctos.nil))))))) .nil), trivial⟩) rfl ?_ (hbR_box rfl)
          rfl

theorem l3Value_fn {bs : List Int} (hb : Bytes bs) (d : Nat) (hd : d ≤ 4) : ∀ (L : Nat) (lv : Int) (p : Nat), lv = (L : Int) → L ≤ 10 → p + 16 * 2 ^ L ≤ 70000000 → Fn Try.prog 110 (hbR bs p) [vR, nat1 (d : Nat), nat1 lv] (.o (ad (rX (valG bs (leafD bs d) 4 [4, 6, 5, 4] L p).1))) (hbR bs (valG bs (leafD bs d) 4 [4, 6, 5, 4] L p).2)
  | 0, lv, p, hl, hL, hp => l3Value_small hb (by omega) d hd lv (by omega)
  | 1, lv, p, hl, hL, hp => l3Value_small hb (by omega) d hd lv (by omega)
  | L + 2, lv, p, hl, hL, hp => l3Value_big hb d hd lv (by omega) (by omega) (valG_bd (bs := bs) (m := 4) (ops := [4, 6, 5, 4]) (leafD_bd bs hd) (L + 1)) (by have : 1 ≤ 2 ^ L := Nat.one_le_two_pow; simp only [Nat.pow_succ] at hp ⊢; omega) fun q hq => l3Value_fn hb d hd (L + 1) (lv - 1) q (by omega) (by omega) (by have : 1 ≤ 2 ^ L := Nat.one_le_two_pow; simp only [Nat.pow_succ] at hp hq ⊢; omega)

def dfltS : Stm := ((⟨#[65]⟩, [zA]), .mk 1 1 zA0 zC0 [])
theorem sz_dflt : szS dfltS = 6 := by decide
/-- A drawn statement. -/
def drawS (bs : List Int) (d : Nat) (lvs : List Int) (val : Nat → Nat → Ex × Nat) (dflt : Nat → Stm × Nat) (p : Nat) : Stm × Nat :=
  let a := elemD bs d p
  let e := val (numV bs a.2 lvs).toNat (a.2 + 1)
  if stmtV (d : Nat) (a.1, e.1) = true then ((a.1, e.1), e.2) else dflt e.2
def stmD (bs : List Int) (d p : Nat) : Stm × Nat := drawS bs d [2, 3, 1, 2] (fun L q => valG bs (leafD bs d) 4 [4, 6, 5, 4] L q) (fun q => (dfltS, q)) p
theorem lv_bd {bs : List Int} (hb : Bytes bs) {q : Nat} (hq : q ≤ 1099511627776) {xs : List Int} (hx : 0 < xs.length) (h4 : ∀ x ∈ xs, 1 ≤ x ∧ x ≤ 4) : ∃ L : Nat, (numV bs q xs).toNat = L ∧ numV bs q xs = (L : Int) ∧ L ≤ 4 := by
  have := h4 _ (numV_mem hb hq hx)
  exact ⟨_, rfl, by omega, by omega⟩
theorem szS_mk {a : Acc} {e : Ex} {m n : Nat} (h1 : szC a ≤ m) (h2 : szE e ≤ n) : szS (a, e) ≤ m + n := Nat.add_le_add h1 h2
theorem drawS_bd {bs : List Int} (hb : Bytes bs) {d : Nat} {lvs : List Int} {val : Nat → Nat → Ex × Nat} {dflt : Nat → Stm × Nat} {N : Nat} (hx : 0 < lvs.length) (h4 : ∀ x ∈ lvs, 1 ≤ x ∧ x ≤ 4) (hv : ∀ L : Nat, L ≤ 4 → Bnd (val L) 254) (hd : ∀ q, q ≤ (dflt q).2 ∧ (dflt q).2 ≤ q + N ∧ szS (dflt q).1 ≤ 266 ∧ 0 < (dflt q).1.1.2.length) (p : Nat) (hp : p ≤ 1000000000) :
    p ≤ (drawS bs d lvs val dflt p).2 ∧ (drawS bs d lvs val dflt p).2 ≤ p + 266 + N ∧ szS (drawS bs d lvs val dflt p).1 ≤ 266 ∧ 0 < (drawS bs d lvs val dflt p).1.1.2.length := by
  obtain ⟨a1, a2, a3, a4, a5⟩ := elemD_p bs d p
  have a6 := elemD_sz bs d p
  obtain ⟨L, hL, _, hL4⟩ := lv_bd hb (q := (elemD bs d p).2) (by omega) hx h4
  obtain ⟨b1, b2, b3⟩ := hv L hL4 ((elemD bs d p).2 + 1)
  obtain ⟨c1, c2, c3, c4⟩ := hd (val L ((elemD bs d p).2 + 1)).2
  have h9 := szS_mk a6 b3
  unfold drawS
  simp only [hL]
  split
  · exact ⟨by dsimp only; omega, by dsimp only; omega, by dsimp only; omega, a3⟩
  · exact ⟨by omega, by omega, c3, c4⟩
theorem val254 {bs : List Int} {leaf : Nat → Ex × Nat} {m : Int} {ops : List Int} (hl : Bnd leaf 14) (L : Nat) (hL : L ≤ 4) : Bnd (valG bs leaf m ops L) 254 := fun p => by
  obtain ⟨h1, h2, h3⟩ := valG_bd (bs := bs) (m := m) (ops := ops) hl L p
  have : 2 ^ L ≤ 2 ^ 4 := Nat.pow_le_pow_right (by omega) hL
  exact ⟨h1, by omega, by omega⟩
theorem stmD_bd {bs : List Int} (hb : Bytes bs) {d : Nat} (hd : d ≤ 4) (p : Nat) (hp : p ≤ 1000000000) : p ≤ (stmD bs d p).2 ∧ (stmD bs d p).2 ≤ p + 266 ∧ szS (stmD bs d p).1 ≤ 266 ∧ 0 < (stmD bs d p).1.1.2.length :=
  drawS_bd (N := 0) hb (by decide) (by decide) (fun L hL => val254 (leafD_bd bs hd) L hL) (fun q => ⟨Nat.le_refl _, Nat.le_refl _, by rw [sz_dflt]; omega, by show 0 < [zA].length; decide⟩) p hp

set_option maxRecDepth 100000 in
set_option maxHeartbeats 1600000 in
theorem l3Stmt_fn {bs : List Int} (hb : Bytes bs) {p : Nat} (hp : p ≤ 60000000) (d : Nat) (hd : d ≤ 4) : Fn Try.prog 50 (hbR bs p) [vR, nat1 (d : Nat)] (.o (ad (rS (stmD bs d p).1))) (hbR bs (stmD bs d p).2) := by
  obtain ⟨a1, a2, a3, a4, a5⟩ := elemD_p bs d p
  have a6 := elemD_sz bs d p
  obtain ⟨L, hL1, hL, hL4⟩ := lv_bd hb (q := (elemD bs d p).2) (by omega) (xs := [2, 3, 1, 2]) (by decide) (by decide)
  have h16 : 2 ^ L ≤ 2 ^ 4 := Nat.pow_le_pow_right (by omega) hL4
  obtain ⟨b1, b2, b3⟩ := val254 (bs := bs) (m := 4) (ops := [4, 6, 5, 4]) (leafD_bd bs hd) L hL4 ((elemD bs d p).2 + 1)
  have h9 := szS_mk a6 b3
  have hR : stmD bs d p = if stmtV (d : Nat) ((elemD bs d p).1, (valG bs (leafD bs d) 4 [4, 6, 5, 4] L ((elemD bs d p).2 + 1)).1) = true then (((elemD bs d p).1, (valG bs (leafD bs d) 4 [4, 6, 5, 4] L ((elemD bs d p).2 + 1)).1), (valG bs (leafD bs d) 4 [4, 6, 5, 4] L ((elemD bs d p).2 + 1)).2) else (dfltS, (valG bs (leafD bs d) 4 [4, 6, 5, 4] L ((elemD bs d p).2 + 1)).2) := by rw [stmD, drawS]; simp only [hL1]
  refine Fn.of_code Try.func50 rfl rfl (hbR_HB _ _) rfl rfl (hbR_HB _ _) rfl (hbR_num _ _ _) ?_
  refine ACode.seq ?_
  refine ACode.region ?_
  refine .cons (.al 104 [.string ByteArray.empty, .slice none 0 0, .int .i64 0, .int .i64 0, .slice none 0 0, .int .i64 0, .string ByteArray.empty, .slice none 0 0, .slice none 0 0] rfl rfl rfl) ?_
  refine .nil ?_
  refine ks_n ?_
  refine ACode.seq ?_
  refine ACode.region ?_
  refine .cons (.mv rfl rfl) ?_
  refine .cons (.mv rfl rfl) ?_
  refine .cons (.cR [.tmp 6, .tmp 7] 0 rfl rfl rfl rfl (l3Elem_fn hb (by omega) d hd) rfl ⟨rfl, trivial⟩) ?_
  refine .cons (.mv rfl rfl) ?_
  refine .cons (.mv rfl rfl) ?_
  refine .cons (.mv rfl rfl) ?_
  refine .cons (.li 3 0 3 [.const (.int .i64 (2)), .const (.int .i64 (3)), .const (.int .i64 (1)), .const (.int .i64 (2))] rfl rfl rfl rfl rfl rfl) ?_
  refine .cons (.cR [.tmp 11, .tmp 12] 0 rfl rfl rfl rfl (num_fn hb (by omega) [2, 3, 1, 2] (by simp)) rfl ⟨rfl, trivial⟩) ?_
  refine .cons (.cR [.tmp 9, .tmp 10, .tmp 13] 0 rfl rfl rfl rfl (l3Value_fn hb d hd L _ _ hL (by omega) (by omega)) rfl ⟨rfl, trivial⟩) ?_
  refine .cons (.bu [(0, .tmp 8), (1, .tmp 14)] [(0, 2), (2, 7)] [.string ByteArray.empty, .slice none 0 0, .int .i64 0, .int .i64 0, .slice none 0 0, .int .i64 0, .string ByteArray.empty, .slice none 0 0, .slice none 0 0] rfl rfl rfl rfl rfl) ?_
  refine .cons (.al 105 [.string ByteArray.empty, .slice none 0 0, .int .i64 0, .int .i64 0, .slice none 0 0, .int .i64 0, .string ByteArray.empty, .slice none 0 0, .slice none 0 0] rfl rfl rfl) ?_
  refine .cons (.sT 9 true rfl rfl rfl rfl rfl rfl rfl) ?_
  refine .nil ?_
  refine ks_n ?_
  refine ACode.seq ?_
  refine ACode.seq ?_
  refine ACode.region ?_
  refine .cons (.bN 9 rfl rfl rfl rfl rfl rfl) ?_
  refine .cons (.mv rfl rfl) ?_
  refine .cons (.cP [.tmp 16, .tmp 17] rfl rfl rfl rfl (specStmtV_fn (d : Nat) ((elemD bs d p).1, (valG bs (leafD bs d) 4 [4, 6, 5, 4] L ((elemD bs d p).2 + 1)).1) (by omega)) rfl) ?_
  refine .nil ?_
  refine ks_n ?_
  refine ACode.condT rfl (fun h18 => ?_) (fun h18 => ?_)
  · try simp only [List.length_map, decide_eq_true_eq, decide_eq_false_iff_not, Bool.not_eq_true', Bool.not_eq_false', Bool.not_eq_true, Bool.not_eq_false] at h18
    refine ACode.seq ?_
    rw [if_pos h18] at hR
    rw [hR]
    refine ACode.region ?_
    refine .cons (.bN 9 rfl rfl rfl rfl rfl rfl) ?_
    refine .cons (.sT 9 true rfl rfl rfl rfl rfl rfl rfl) ?_
    refine .nil ?_
    refine ks_n ?_
    refine ACode.ret ?_
    refine ks_r ?_
    refine kf_ret rfl ?_ (hbR_box rfl)
    rfl
  · try simp only [List.length_map, decide_eq_true_eq, decide_eq_false_iff_not, Bool.not_eq_true', Bool.not_eq_false', Bool.not_eq_true, Bool.not_eq_false] at h18
    refine ACode.skip ?_
    refine ks_n ?_
    refine ACode.seq ?_
    rw [if_neg (by rw [h18]; decide)] at hR
    rw [hR]
    refine ACode.region ?_
    refine .cons (.cP [] rfl rfl rfl rfl (l1Zero_fn) rfl) ?_
    refine .cons (.li 28 1 0 [.tmp 20] rfl rfl rfl rfl rfl rfl) ?_
    refine .cons (.bu [(0, .const (.string ⟨#[65]⟩)), (1, .tmp 21)] [(0, 1), (1, 1)] [.string ByteArray.empty, .slice none 0 0] rfl rfl rfl rfl rfl) ?_
    refine .cons (.bu [(0, .const (.int .i64 (1))), (1, .const (.int .i64 (1)))] [(0, 1), (1, 1), (2, 2), (4, 2), (6, 1)] [.int .i64 0, .int .i64 0, .slice none 0 0, .int .i64 0, .string ByteArray.empty, .slice none 0 0, .slice none 0 0] rfl rfl rfl rfl rfl) ?_
    refine .cons (.bu [(0, .tmp 22), (1, .tmp 23)] [(0, 2), (2, 7)] [.string ByteArray.empty, .slice none 0 0, .int .i64 0, .int .i64 0, .slice none 0 0, .int .i64 0, .string ByteArray.empty, .slice none 0 0, .slice none 0 0] rfl rfl rfl rfl rfl) ?_
    refine .cons (.sT 9 true rfl rfl rfl rfl rfl rfl rfl) ?_
    refine .nil ?_
    refine ks_n ?_
    refine ACode.ret ?_
    refine kf_wret [(.t 4, .v (.o (.c (.box 100 9 0 0)))), (.b 0, .b 113 2 (dR ([rRd bs (valG bs (leafD bs d) 4 [4, 6, 5, 4] L ((elemD bs d p).2 + 1)).2]))), (.u 0, .u), (.b 100, .b 33 9 [[.d (dS ⟨#[65]⟩), .d (dAs [zA]), .d (dI 1), .d (dI 1), .d (dIs []), .d (dI 0), .d (dS ByteArray.empty), .d (dAs []), .d (dEs [])]]), (.u 100, .u)] (Wk.keep [(0, 0), (100, 104)] rfl rfl ⟨ks rfl (.c .bx), kb 0 rfl (.dt rfl), kb 104 rfl (.cons (.cons .dt (.cons .dt (.cons .dt (.cons .dt (.cons (Cto.nil _) (.cons .dt (.cons .dt (.cons (Cto.nil _) (.cons (Cto.nil _) Ctos.nil))))))))) .nil), trivial⟩) rfl ?_ (hbR_box rfl)
    rfl

end Go.Proofs.Ytigdfdhjnadieaa

/- Statements: mutated draws; condition: bytes. -/
namespace Go.Proofs.Ytigdfdhjnadieaa
set_option linter.unusedVariables false
set_option linter.unusedSimpArgs false
open Go.RowKit

theorem two_box {σ : St} {k1 k2 : Nat} {e1 e2 : TypeId} {s1 s2 : Nat} {r1 r2 : List (List C)} (h1 : lk σ (.b k1) = .b e1 s1 r1) (h2 : lk σ (.b k2) = .b e2 s2 r2) : ∀ k e sz rows, lk [(.b k1, .b e1 s1 r1), (.u k1, .u), (.b k2, .b e2 s2 r2), (.u k2, .u)] (.b k) = .b e sz rows → lk σ (.b k) = .b e sz rows := fun k e sz rows h => by
  by_cases hk : k = k1
  · subst hk; rw [lk_same] at h; rw [h1]; exact h
  · rw [lk_other _ _ _ _ (by simpa using fun e => hk e.symm), lk_other _ _ _ _ (by simp)] at h
    exact one_box h2 k e sz rows h
theorem two_num {σ : St} {k1 k2 : Nat} {e1 e2 : TypeId} {s1 s2 : Nat} {r1 r2 : List (List C)} (hk : (Nat.ble 100 k1 && Nat.ble 100 k2) = true) : ∀ k, k < 100 → Al (lk [(.b k1, .b e1 s1 r1), (.u k1, .u), (.b k2, .b e2 s2 r2), (.u k2, .u)]) k → Al (lk σ) k := fun k h ⟨e, sz, rows, h1⟩ => by
  rw [Bool.and_eq_true] at hk
  have a1 := Nat.le_of_ble_eq_true hk.1
  rw [lk_other _ _ _ _ (by simp; omega), lk_other _ _ _ _ (by simp)] at h1
  exact one_num hk.2 k h ⟨e, sz, rows, h1⟩
theorem outS_two {inv : Inv} {k1 k2 : Nat} {e1 e2 : TypeId} {s1 s2 : Nat} {r1 r2 : List (List D)} : outS inv [(.b k1, .b e1 s1 (dR r1)), (.u k1, .u), (.b k2, .b e2 s2 (dR r2)), (.u k2, .u)] = [(.b (asc inv k1), .b e1 s1 (dR r1)), (.u (asc inv k1), .u), (.b (asc inv k2), .b e2 s2 (dR r2)), (.u (asc inv k2), .u)] := by simp [outS, renR_dR]

set_option maxRecDepth 100000 in
set_option maxHeartbeats 1600000 in
theorem l3CopyAcc_own (a : Acc) (h0 : 0 < a.2.length) (ha : a.2.length ≤ 1073741824) (hq : ∀ x ∈ a.2, x.1.length ≤ 1073741824) : Fn Try.prog 104 [] [ad (rC a)] (.o (.agg [.d (dS a.1), .own 101 2 a.2.length])) [(.b 101, .b 28 2 (dR (a.2.map rA))), (.u 101, .u)] := by
  refine Fn.of_code Try.func104 rfl rfl HB.nil rfl rfl HB.nil.data rfl (one_num rfl) ?_
  refine ACode.seq ?_
  refine ACode.region ?_
  refine .cons (St1.boxP rfl rfl rfl rfl rfl rfl) ?_
  refine .cons (.al 102 [.string ByteArray.empty, .slice none 0 0] rfl rfl rfl) ?_
  refine .nil ?_
  refine ks_n ?_
  refine ACode.seq ?_
  refine ACode.region ?_
  refine .cons (.fP 0 0 false rfl rfl) ?_
  refine .cons (.l1 1 rfl rfl) ?_
  refine .cons (.bu [(0, .tmp 6)] [(0, 1), (1, 1)] [.string ByteArray.empty, .slice none 0 0] rfl rfl rfl rfl rfl) ?_
  refine .cons (.al 103 [.string ByteArray.empty, .slice none 0 0] rfl rfl rfl) ?_
  refine .cons (.sT 2 true rfl rfl rfl rfl rfl rfl rfl) ?_
  refine .nil ?_
  refine ks_n ?_
  refine ACode.seq ?_
  refine ACode.seq ?_
  refine ACode.region ?_
  refine .cons (.asg rfl rfl) ?_
  refine .nil ?_
  refine ks_n ?_
  refine ACode.block ?_
  refine .loopK (fun m σ => (∃ i : Nat, m = a.2.length - i ∧ (i = 0) ∧ σ = [(.t 1, .v (.o (.c (.ptr (rC a))))), (.t 2, .v (.o (.c (.box 110 2 0 0)))), (.t 3, .v (.o (.c (.box 111 2 0 0)))), (.t 4, .v (.o (nat1 (i : Nat)))), (.b 110, .b 25 2 [[.d (dS ByteArray.empty), .d (.val (.slice none 0 0))]]), (.u 110, .u), (.b 111, .b 25 2 [[.d (dS a.1), .d (.val (.slice none 0 0))]]), (.u 111, .u)]) ∨ (∃ i : Nat, m = a.2.length - i ∧ (1 ≤ i) ∧ (i ≤ a.2.length) ∧ σ = [(.t 1, .v (.o (.c (.ptr (rC a))))), (.t 2, .v (.o (.c (.box 110 2 0 0)))), (.t 3, .v (.o (.c (.box 111 2 0 0)))), (.t 4, .v (.o (nat1 (i : Nat)))), (.b 110, .b 25 2 [[.d (dS ByteArray.empty), .d (.val (.slice none 0 0))]]), (.u 110, .u), (.b 112, .b 28 2 (dR ((a.2.take i).map rA))), (.u 112, .u), (.b 111, .b 25 2 [[.d (dS a.1), .own 112 2 (i)]]), (.u 111, .u)])) [(110, 102), (111, 103)] (.inl ⟨0, rfl, rfl, rfl⟩) ⟨ks rfl .dt, ks rfl (.c .bx), ks rfl (.c .bx), ks rfl .dt, kb 102 rfl (.cons (.cons .dt (.cons .dt Ctos.nil)) .nil), kb 103 rfl (.cons (.cons .dt (.cons .dt Ctos.nil)) .nil), trivial⟩ ?_
  rintro m σ (⟨i, hm0, rfl, rfl⟩ | ⟨i, hm0, hi1, hi2, rfl⟩)
  · skip
    refine ACode.seq ?_
    refine ACode.seq ?_
    refine ACode.region ?_
    refine .cons (.mv rfl rfl) ?_
    refine .cons (.fP 1 0 false rfl rfl) ?_
    refine .cons (.l1 1 rfl rfl) ?_
    refine .cons (.ln 28 2 32 rfl rfl rfl) ?_
    refine .cons (.ls rfl rfl rfl) ?_
    refine .nil ?_
    refine ks_n ?_
    refine .cD rfl (fun h12 => ?_) (fun h12 => ?_)
    · skip
      obtain ⟨x, hx1⟩ : ∃ x, a.2[0]? = some x := ⟨_, List.getElem?_eq_getElem (by omega)⟩
      refine ACode.skip ?_
      refine ks_n ?_
      refine ACode.seq ?_
      refine ACode.block ?_
      refine ACode.drawK (by kernel_rfl) (by kernel_rfl) ?_
      refine .cons (.fB 1 0 false rfl rfl rfl) ?_
      refine .cons (.b1 1 rfl rfl rfl rfl rfl rfl) ?_
      refine .cons (.fP 1 0 false rfl rfl) ?_
      refine .cons (.l1 1 rfl rfl) ?_
      refine .cons (.mv rfl rfl) ?_
      refine .cons (.xL 28 2 32 rfl rfl rfl rfl rfl) ?_
      refine .cons (.lN 2 rfl rfl rfl) ?_
      refine .cons (.cP [.tmp 21] rfl rfl rfl rfl (l3CopyAff_fn (hq x (List.mem_of_getElem? hx1))) rfl) ?_
      refine .cons (.li 28 1 0 [.tmp 22] rfl rfl rfl rfl rfl rfl) ?_
      refine .cons (St1.appN (k' := 124) (e := 28) (sz := 1) (by' := 32) rfl rfl rfl rfl rfl (by kernel_rfl) rfl rfl rfl (by simp) (by first | (simp [dR]; done) | (simp [dR]; omega)) rfl rfl) ?_
      refine .cons (.fB 1 0 false rfl rfl rfl) ?_
      refine .cons (.sT 1 false rfl rfl rfl rfl rfl rfl rfl) ?_
      refine .nil ⟨by kernel_rfl, ?_⟩
      refine kb_n ?_
      refine ks_n ?_
      refine ACode.region ?_
      refine .cons (.mv rfl rfl) ?_
      refine .cons (.pl rfl rfl rfl) ?_
      refine .cons (.asg rfl rfl) ?_
      refine .nil ?_
      refine kl_k [(110, 110), (111, 111), (112, 124)] (.inr ⟨1, rfl, by omega, by omega, rfl⟩) ⟨ks rfl .dt, ks rfl (.c .bx), ks rfl (.c .bx), ks rfl .dt, kb 110 rfl (.cons (.cons .dt (.cons .dt Ctos.nil)) .nil), kb 124 rfl (.dt rfl (by first | exact dR_take (rA) hx1 | exact dR_take1 (rA) hx1 | rfl | (simp [dR]; done))), kb 111 rfl (.cons (.cons .dt (.cons .ow Ctos.nil)) .nil), trivial⟩
    · skip
      omega
  · skip
    refine ACode.seq ?_
    refine ACode.seq ?_
    refine ACode.region ?_
    refine .cons (.mv rfl rfl) ?_
    refine .cons (.fP 1 0 false rfl rfl) ?_
    refine .cons (.l1 1 rfl rfl) ?_
    refine .cons (.ln 28 2 32 rfl rfl rfl) ?_
    refine .cons (.ls rfl rfl rfl) ?_
    refine .nil ?_
    refine ks_n ?_
    refine .cD rfl (fun h12 => ?_) (fun h12 => ?_)
    · skip
      obtain ⟨x, hx1⟩ : ∃ x, a.2[i]? = some x := ⟨_, List.getElem?_eq_getElem (by omega)⟩
      refine ACode.skip ?_
      refine ks_n ?_
      refine ACode.seq ?_
      refine ACode.block ?_
      refine ACode.drawK (by kernel_rfl) (by kernel_rfl) ?_
      refine .cons (.fB 1 0 false rfl rfl rfl) ?_
      refine .cons (.b1 1 rfl rfl rfl rfl rfl rfl) ?_
      refine .cons (.fP 1 0 false rfl rfl) ?_
      refine .cons (.l1 1 rfl rfl) ?_
      refine .cons (.mv rfl rfl) ?_
      refine .cons (.xL 28 2 32 rfl rfl rfl rfl rfl) ?_
      refine .cons (.lN 2 rfl rfl rfl) ?_
      refine .cons (.cP [.tmp 21] rfl rfl rfl rfl (l3CopyAff_fn (hq x (List.mem_of_getElem? hx1))) rfl) ?_
      refine .cons (.li 28 1 0 [.tmp 22] rfl rfl rfl rfl rfl rfl) ?_
      refine .cons (St1.appB (k' := 124) (e := 28) (sz := 1) (by' := 32) rfl rfl rfl rfl rfl (by kernel_rfl) rfl rfl rfl rfl (by first | (simp [dR]; done) | (simp [dR]; omega)) (by first | (simp [dR]; done) | (simp [dR]; omega)) rfl rfl rfl) ?_
      refine .cons (.fB 1 0 false rfl rfl rfl) ?_
      refine .cons (.sT 1 false rfl rfl rfl rfl rfl rfl rfl) ?_
      refine .nil ⟨by kernel_rfl, ?_⟩
      refine kb_n ?_
      refine ks_n ?_
      refine ACode.region ?_
      refine .cons (.mv rfl rfl) ?_
      refine .cons (.pl rfl rfl rfl) ?_
      refine .cons (.asg rfl rfl) ?_
      refine .nil ?_
      refine kl_k [(110, 110), (111, 111), (112, 124)] (.inr ⟨i + 1, rfl, by omega, by omega, rfl⟩) ⟨ks rfl .dt, ks rfl (.c .bx), ks rfl (.c .bx), ks rfl .dt, kb 110 rfl (.cons (.cons .dt (.cons .dt Ctos.nil)) .nil), kb 124 rfl (.dt rfl (by first | exact dR_take (rA) hx1 | exact dR_take1 (rA) hx1 | rfl | (simp [dR]; done))), kb 111 rfl (.cons (.cons .dt (.cons .ow Ctos.nil)) .nil), trivial⟩
    · skip
      obtain rfl : i = a.2.length := by omega
      refine ACode.exit ?_
      refine ks_e ?_
      refine kl_e ?_
      refine kb_hit ?_
      refine ks_n ?_
      refine ACode.seq ?_
      refine ACode.region ?_
      refine .cons (.bN 2 rfl rfl rfl rfl rfl rfl) ?_
      refine .cons (.sT 2 true rfl rfl rfl rfl rfl rfl rfl) ?_
      refine .nil ?_
      refine ks_n ?_
      refine ACode.ret ?_
      refine kf_wret [(.t 2, .v (.o (.c (.box 100 2 0 0)))), (.b 101, .b 28 2 (dR (a.2.map rA))), (.u 101, .u), (.b 100, .b 25 2 [[.d (dS a.1), .own 101 2 (a.2.length)]]), (.u 100, .u)] (Wk.keep [(100, 110), (101, 112)] rfl rfl ⟨ks rfl (.c .bx), kb 112 rfl (.dt rfl (by rw [List.take_length])), kb 110 rfl (.cons (.cons .dt (.cons .ow Ctos.nil)) .nil), trivial⟩) rfl ?_ (one_box rfl)
      rfl

set_option maxRecDepth 100000 in
set_option maxHeartbeats 1600000 in
theorem l3CopyEx_own (e : Ex) (hi : e.i.1.length ≤ 1073741824) (hr : e.r.2.length ≤ 1073741824) (hq : ∀ x ∈ e.r.2, x.1.length ≤ 1073741824) (hk : e.ks.length ≤ 1073741824) (hz : ∀ x ∈ e.ks, szE x ≤ 1073741824) (h0 : 0 < e.ks.length) : Fn Try.prog 142 [] [ad (rX e)] (.o (.agg [.d (dI e.k), .d (dI e.n), .d (dIs e.i.1), .d (dI e.i.2), .d (dS e.r.1), .d (dAs e.r.2), .own 101 7 e.ks.length])) [(.b 101, .b 31 7 (dR (e.ks.map rE))), (.u 101, .u)] := by
  refine Fn.of_code Try.func142 rfl rfl HB.nil rfl rfl HB.nil.data rfl (one_num rfl) ?_
  refine ACode.seq ?_
  refine ACode.region ?_
  refine .cons (St1.boxP rfl rfl rfl rfl rfl rfl) ?_
  refine .cons (.al 102 [.int .i64 0, .int .i64 0, .slice none 0 0, .int .i64 0, .string ByteArray.empty, .slice none 0 0, .slice none 0 0] rfl rfl rfl) ?_
  refine .nil ?_
  refine ks_n ?_
  refine ACode.seq ?_
  refine ACode.drawK (by kernel_rfl) (by kernel_rfl) ?_
  refine .cons (.fP 0 0 false rfl rfl) ?_
  refine .cons (.l1 1 rfl rfl) ?_
  refine .cons (.fP 1 0 false rfl rfl) ?_
  refine .cons (.l1 1 rfl rfl) ?_
  refine .cons (.fP 2 1 true rfl rfl) ?_
  refine .cons (.lN 2 rfl rfl rfl) ?_
  refine .cons (.cP [.tmp 10] rfl rfl rfl rfl (l3CopyAff_fn hi) rfl) ?_
  refine .cons (.fP 4 1 true rfl rfl) ?_
  refine .cons (.lN 2 rfl rfl rfl) ?_
  refine .cons (.cP [.tmp 13] rfl rfl rfl rfl (l3CopyAcc_fn e.r hr hq) rfl) ?_
  refine .cons (.bu [(0, .tmp 6), (1, .tmp 8), (2, .tmp 11), (3, .tmp 14)] [(0, 1), (1, 1), (2, 2), (4, 2), (6, 1)] [.int .i64 0, .int .i64 0, .slice none 0 0, .int .i64 0, .string ByteArray.empty, .slice none 0 0, .slice none 0 0] rfl rfl rfl rfl rfl) ?_
  refine .cons (.al 103 [.int .i64 0, .int .i64 0, .slice none 0 0, .int .i64 0, .string ByteArray.empty, .slice none 0 0, .slice none 0 0] rfl rfl rfl) ?_
  refine .cons (.sT 7 true rfl rfl rfl rfl rfl rfl rfl) ?_
  refine .nil ⟨by kernel_rfl, ?_⟩
  refine ks_n ?_
  refine ACode.seq ?_
  refine ACode.seq ?_
  refine ACode.region ?_
  refine .cons (.asg rfl rfl) ?_
  refine .nil ?_
  refine ks_n ?_
  refine ACode.block ?_
  refine .loopK (fun m σ => (∃ i : Nat, m = e.ks.length - i ∧ (i = 0) ∧ σ = [(.t 1, .v (.o (.c (.ptr (rX e))))), (.t 2, .v (.o (.c (.box 110 7 0 0)))), (.t 3, .v (.o (.c (.box 111 7 0 0)))), (.t 4, .v (.o (nat1 (i : Nat)))), (.b 110, .b 31 7 [[.d (dI 0), .d (dI 0), .d (.val (.slice none 0 0)), .d (dI 0), .d (dS ByteArray.empty), .d (.val (.slice none 0 0)), .d (.val (.slice none 0 0))]]), (.u 110, .u), (.b 111, .b 31 7 [[.d (dI e.k), .d (dI e.n), .d (dIs e.i.1), .d (dI e.i.2), .d (dS e.r.1), .d (dAs e.r.2), .d (.val (.slice none 0 0))]]), (.u 111, .u)]) ∨ (∃ i : Nat, m = e.ks.length - i ∧ (1 ≤ i) ∧ (i ≤ e.ks.length) ∧ σ = [(.t 1, .v (.o (.c (.ptr (rX e))))), (.t 2, .v (.o (.c (.box 110 7 0 0)))), (.t 3, .v (.o (.c (.box 111 7 0 0)))), (.t 4, .v (.o (nat1 (i : Nat)))), (.b 110, .b 31 7 [[.d (dI 0), .d (dI 0), .d (.val (.slice none 0 0)), .d (dI 0), .d (dS ByteArray.empty), .d (.val (.slice none 0 0)), .d (.val (.slice none 0 0))]]), (.u 110, .u), (.b 112, .b 31 7 (dR ((e.ks.take i).map fun x => rX x))), (.u 112, .u), (.b 111, .b 31 7 [[.d (dI e.k), .d (dI e.n), .d (dIs e.i.1), .d (dI e.i.2), .d (dS e.r.1), .d (dAs e.r.2), .own 112 7 (i)]]), (.u 111, .u)])) [(110, 102), (111, 103)] (.inl ⟨0, rfl, rfl, rfl⟩) ⟨ks rfl .dt, ks rfl (.c .bx), ks rfl (.c .bx), ks rfl .dt, kb 102 rfl (.cons (.cons .dt (.cons .dt (.cons .dt (.cons .dt (.cons .dt (.cons .dt (.cons .dt Ctos.nil))))))) .nil), kb 103 rfl (.cons (.cons .dt (.cons .dt (.cons .dt (.cons .dt (.cons .dt (.cons .dt (.cons .dt Ctos.nil))))))) .nil), trivial⟩ ?_
  rintro m σ (⟨i, hm0, rfl, rfl⟩ | ⟨i, hm0, hi1, hi2, rfl⟩)
  · skip
    refine ACode.seq ?_
    refine ACode.seq ?_
    refine ACode.region ?_
    refine .cons (.mv rfl rfl) ?_
    refine .cons (.fP 6 0 false rfl rfl) ?_
    refine .cons (.l1 1 rfl rfl) ?_
    refine .cons (.ln 31 7 112 rfl rfl rfl) ?_
    refine .cons (.ls rfl rfl rfl) ?_
    refine .nil ?_
    refine ks_n ?_
    refine .cD rfl (fun h20 => ?_) (fun h20 => ?_)
    · skip
      obtain ⟨x, hx1⟩ : ∃ x, e.ks[0]? = some x := ⟨_, List.getElem?_eq_getElem (by omega)⟩
      refine ACode.skip ?_
      refine ks_n ?_
      refine ACode.seq ?_
      refine ACode.block ?_
      refine ACode.drawK (by kernel_rfl) (by kernel_rfl) ?_
      refine .cons (.fB 6 0 false rfl rfl rfl) ?_
      refine .cons (.b1 1 rfl rfl rfl rfl rfl rfl) ?_
      refine .cons (.fP 6 0 false rfl rfl) ?_
      refine .cons (.l1 1 rfl rfl) ?_
      refine .cons (.mv rfl rfl) ?_
      refine .cons (.xL 31 7 112 rfl rfl rfl rfl rfl (rE_at hx1)) ?_
      refine .cons (.lN 7 rfl rfl rfl) ?_
      refine .cons (.cP [.tmp 29] rfl rfl rfl rfl (l3CopyEx_fn x (hz x (List.mem_of_getElem? hx1))) rfl) ?_
      refine .cons (.li 31 6 0 [.tmp 30] rfl rfl rfl rfl rfl rfl) ?_
      refine .cons (St1.appN (k' := 132) (e := 31) (sz := 6) (by' := 112) rfl rfl rfl rfl rfl (by kernel_rfl) rfl rfl rfl (by simp) (by first | (simp [dR]; done) | (simp [dR]; omega)) rfl rfl) ?_
      refine .cons (.fB 6 0 false rfl rfl rfl) ?_
      refine .cons (.sT 1 false rfl rfl rfl rfl rfl rfl rfl) ?_
      refine .nil ⟨by kernel_rfl, ?_⟩
      refine kb_n ?_
      refine ks_n ?_
      refine ACode.region ?_
      refine .cons (.mv rfl rfl) ?_
      refine .cons (.pl rfl rfl rfl) ?_
      refine .cons (.asg rfl rfl) ?_
      refine .nil ?_
      refine kl_k [(110, 110), (111, 111), (112, 132)] (.inr ⟨1, rfl, by omega, by omega, rfl⟩) ⟨ks rfl .dt, ks rfl (.c .bx), ks rfl (.c .bx), ks rfl .dt, kb 110 rfl (.cons (.cons .dt (.cons .dt (.cons .dt (.cons .dt (.cons .dt (.cons .dt (.cons .dt Ctos.nil))))))) .nil), kb 132 rfl (.dt rfl (by first | exact dR_take (fun x => rX x) hx1 | exact dR_take1 (fun x => rX x) hx1 | rfl | (simp [dR]; done))), kb 111 rfl (.cons (.cons .dt (.cons .dt (.cons .dt (.cons .dt (.cons .dt (.cons .dt (.cons .ow Ctos.nil))))))) .nil), trivial⟩
    · skip
      omega
  · skip
    refine ACode.seq ?_
    refine ACode.seq ?_
    refine ACode.region ?_
    refine .cons (.mv rfl rfl) ?_
    refine .cons (.fP 6 0 false rfl rfl) ?_
    refine .cons (.l1 1 rfl rfl) ?_
    refine .cons (.ln 31 7 112 rfl rfl rfl) ?_
    refine .cons (.ls rfl rfl rfl) ?_
    refine .nil ?_
    refine ks_n ?_
    refine .cD rfl (fun h20 => ?_) (fun h20 => ?_)
    · skip
      obtain ⟨x, hx1⟩ : ∃ x, e.ks[i]? = some x := ⟨_, List.getElem?_eq_getElem (by omega)⟩
      refine ACode.skip ?_
      refine ks_n ?_
      refine ACode.seq ?_
      refine ACode.block ?_
      refine ACode.drawK (by kernel_rfl) (by kernel_rfl) ?_
      refine .cons (.fB 6 0 false rfl rfl rfl) ?_
      refine .cons (.b1 1 rfl rfl rfl rfl rfl rfl) ?_
      refine .cons (.fP 6 0 false rfl rfl) ?_
      refine .cons (.l1 1 rfl rfl) ?_
      refine .cons (.mv rfl rfl) ?_
      refine .cons (.xL 31 7 112 rfl rfl rfl rfl rfl (rE_at hx1)) ?_
      refine .cons (.lN 7 rfl rfl rfl) ?_
      refine .cons (.cP [.tmp 29] rfl rfl rfl rfl (l3CopyEx_fn x (hz x (List.mem_of_getElem? hx1))) rfl) ?_
      refine .cons (.li 31 6 0 [.tmp 30] rfl rfl rfl rfl rfl rfl) ?_
      refine .cons (St1.appB (k' := 132) (e := 31) (sz := 6) (by' := 112) rfl rfl rfl rfl rfl (by kernel_rfl) rfl rfl rfl rfl (by first | (simp [dR]; done) | (simp [dR]; omega)) (by first | (simp [dR]; done) | (simp [dR]; omega)) rfl rfl rfl) ?_
      refine .cons (.fB 6 0 false rfl rfl rfl) ?_
      refine .cons (.sT 1 false rfl rfl rfl rfl rfl rfl rfl) ?_
      refine .nil ⟨by kernel_rfl, ?_⟩
      refine kb_n ?_
      refine ks_n ?_
      refine ACode.region ?_
      refine .cons (.mv rfl rfl) ?_
      refine .cons (.pl rfl rfl rfl) ?_
      refine .cons (.asg rfl rfl) ?_
      refine .nil ?_
      refine kl_k [(110, 110), (111, 111), (112, 132)] (.inr ⟨i + 1, rfl, by omega, by omega, rfl⟩) ⟨ks rfl .dt, ks rfl (.c .bx), ks rfl (.c .bx), ks rfl .dt, kb 110 rfl (.cons (.cons .dt (.cons .dt (.cons .dt (.cons .dt (.cons .dt (.cons .dt (.cons .dt Ctos.nil))))))) .nil), kb 132 rfl (.dt rfl (by first | exact dR_take (fun x => rX x) hx1 | exact dR_take1 (fun x => rX x) hx1 | rfl | (simp [dR]; done))), kb 111 rfl (.cons (.cons .dt (.cons .dt (.cons .dt (.cons .dt (.cons .dt (.cons .dt (.cons .ow Ctos.nil))))))) .nil), trivial⟩
    · skip
      obtain rfl : i = e.ks.length := by omega
      refine ACode.exit ?_
      refine ks_e ?_
      refine kl_e ?_
      refine kb_hit ?_
      refine ks_n ?_
      refine ACode.seq ?_
      refine ACode.region ?_
      refine .cons (.bN 7 rfl rfl rfl rfl rfl rfl) ?_
      refine .cons (.sT 7 true rfl rfl rfl rfl rfl rfl rfl) ?_
      refine .nil ?_
      refine ks_n ?_
      refine ACode.ret ?_
      refine kf_wret [(.t 2, .v (.o (.c (.box 100 7 0 0)))), (.b 101, .b 31 7 (dR (e.ks.map rE))), (.u 101, .u), (.b 100, .b 31 7 [[.d (dI e.k), .d (dI e.n), .d (dIs e.i.1), .d (dI e.i.2), .d (dS e.r.1), .d (dAs e.r.2), .own 101 7 (e.ks.length)]]), (.u 100, .u)] (Wk.keep [(100, 110), (101, 112)] rfl rfl ⟨ks rfl (.c .bx), kb 112 rfl (.dt rfl (by first | exact (dR_ex id _).trans (by rw [List.map_id]) | (rw [List.take_length]; done))), kb 110 rfl (.cons (.cons .dt (.cons .dt (.cons .dt (.cons .dt (.cons .dt (.cons .dt (.cons .ow Ctos.nil))))))) .nil), trivial⟩) rfl ?_ (one_box rfl)
      rfl

set_option maxRecDepth 100000 in
set_option maxHeartbeats 1600000 in
theorem l3CopyEx_nil (e : Ex) (hi : e.i.1.length ≤ 1073741824) (hr : e.r.2.length ≤ 1073741824) (hq : ∀ x ∈ e.r.2, x.1.length ≤ 1073741824) (hk : e.ks.length ≤ 1073741824) (hz : ∀ x ∈ e.ks, szE x ≤ 1073741824) (h0 : e.ks.length = 0) : Fn Try.prog 142 [] [ad (rX e)] (.o (.agg [.d (dI e.k), .d (dI e.n), .d (dIs e.i.1), .d (dI e.i.2), .d (dS e.r.1), .d (dAs e.r.2), .d (.val (.slice none 0 0))])) [] := by
  refine Fn.code0 Try.func142 rfl rfl rfl rfl ?_
  refine ACode.seq ?_
  refine ACode.region ?_
  refine .cons (St1.boxP rfl rfl rfl rfl rfl rfl) ?_
  refine .cons (.al 102 [.int .i64 0, .int .i64 0, .slice none 0 0, .int .i64 0, .string ByteArray.empty, .slice none 0 0, .slice none 0 0] rfl rfl rfl) ?_
  refine .nil ?_
  refine ks_n ?_
  refine ACode.seq ?_
  refine ACode.drawK (by kernel_rfl) (by kernel_rfl) ?_
  refine .cons (.fP 0 0 false rfl rfl) ?_
  refine .cons (.l1 1 rfl rfl) ?_
  refine .cons (.fP 1 0 false rfl rfl) ?_
  refine .cons (.l1 1 rfl rfl) ?_
  refine .cons (.fP 2 1 true rfl rfl) ?_
  refine .cons (.lN 2 rfl rfl rfl) ?_
  refine .cons (.cP [.tmp 10] rfl rfl rfl rfl (l3CopyAff_fn hi) rfl) ?_
  refine .cons (.fP 4 1 true rfl rfl) ?_
  refine .cons (.lN 2 rfl rfl rfl) ?_
  refine .cons (.cP [.tmp 13] rfl rfl rfl rfl (l3CopyAcc_fn e.r hr hq) rfl) ?_
  refine .cons (.bu [(0, .tmp 6), (1, .tmp 8), (2, .tmp 11), (3, .tmp 14)] [(0, 1), (1, 1), (2, 2), (4, 2), (6, 1)] [.int .i64 0, .int .i64 0, .slice none 0 0, .int .i64 0, .string ByteArray.empty, .slice none 0 0, .slice none 0 0] rfl rfl rfl rfl rfl) ?_
  refine .cons (.al 103 [.int .i64 0, .int .i64 0, .slice none 0 0, .int .i64 0, .string ByteArray.empty, .slice none 0 0, .slice none 0 0] rfl rfl rfl) ?_
  refine .cons (.sT 7 true rfl rfl rfl rfl rfl rfl rfl) ?_
  refine .nil ⟨by kernel_rfl, ?_⟩
  refine ks_n ?_
  refine ACode.seq ?_
  refine ACode.seq ?_
  refine ACode.region ?_
  refine .cons (.asg rfl rfl) ?_
  refine .nil ?_
  refine ks_n ?_
  refine ACode.block ?_
  refine .loopK (fun m σ => (∃ i : Nat, m = e.ks.length - i ∧ (i = 0) ∧ σ = [(.t 1, .v (.o (.c (.ptr (rX e))))), (.t 2, .v (.o (.c (.box 110 7 0 0)))), (.t 3, .v (.o (.c (.box 111 7 0 0)))), (.t 4, .v (.o (nat1 (i : Nat)))), (.b 110, .b 31 7 [[.d (dI 0), .d (dI 0), .d (.val (.slice none 0 0)), .d (dI 0), .d (dS ByteArray.empty), .d (.val (.slice none 0 0)), .d (.val (.slice none 0 0))]]), (.u 110, .u), (.b 111, .b 31 7 [[.d (dI e.k), .d (dI e.n), .d (dIs e.i.1), .d (dI e.i.2), .d (dS e.r.1), .d (dAs e.r.2), .d (.val (.slice none 0 0))]]), (.u 111, .u)]) ∨ (∃ i : Nat, m = e.ks.length - i ∧ (1 ≤ i) ∧ (i ≤ e.ks.length) ∧ σ = [(.t 1, .v (.o (.c (.ptr (rX e))))), (.t 2, .v (.o (.c (.box 110 7 0 0)))), (.t 3, .v (.o (.c (.box 111 7 0 0)))), (.t 4, .v (.o (nat1 (i : Nat)))), (.b 110, .b 31 7 [[.d (dI 0), .d (dI 0), .d (.val (.slice none 0 0)), .d (dI 0), .d (dS ByteArray.empty), .d (.val (.slice none 0 0)), .d (.val (.slice none 0 0))]]), (.u 110, .u), (.b 112, .b 31 7 (dR ((e.ks.take i).map fun x => rX x))), (.u 112, .u), (.b 111, .b 31 7 [[.d (dI e.k), .d (dI e.n), .d (dIs e.i.1), .d (dI e.i.2), .d (dS e.r.1), .d (dAs e.r.2), .own 112 7 (i)]]), (.u 111, .u)])) [(110, 102), (111, 103)] (.inl ⟨0, rfl, rfl, rfl⟩) ⟨ks rfl .dt, ks rfl (.c .bx), ks rfl (.c .bx), ks rfl .dt, kb 102 rfl (.cons (.cons .dt (.cons .dt (.cons .dt (.cons .dt (.cons .dt (.cons .dt (.cons .dt Ctos.nil))))))) .nil), kb 103 rfl (.cons (.cons .dt (.cons .dt (.cons .dt (.cons .dt (.cons .dt (.cons .dt (.cons .dt Ctos.nil))))))) .nil), trivial⟩ ?_
  rintro m σ (⟨i, hm0, rfl, rfl⟩ | ⟨i, hm0, hi1, hi2, rfl⟩)
  · skip
    refine ACode.seq ?_
    refine ACode.seq ?_
    refine ACode.region ?_
    refine .cons (.mv rfl rfl) ?_
    refine .cons (.fP 6 0 false rfl rfl) ?_
    refine .cons (.l1 1 rfl rfl) ?_
    refine .cons (.ln 31 7 112 rfl rfl rfl) ?_
    refine .cons (.ls rfl rfl rfl) ?_
    refine .nil ?_
    refine ks_n ?_
    refine .cD rfl (fun h20 => ?_) (fun h20 => ?_)
    · skip
      omega
    · skip
      have hn : e.ks = [] := List.eq_nil_of_length_eq_zero (by omega)
      refine ACode.exit ?_
      refine ks_e ?_
      refine kl_e ?_
      refine kb_hit ?_
      refine ks_n ?_
      refine ACode.seq ?_
      refine ACode.region ?_
      refine .cons (.bN 7 rfl rfl rfl rfl rfl rfl) ?_
      refine .cons (.sT 7 true rfl rfl rfl rfl rfl rfl rfl) ?_
      refine .nil ?_
      refine ks_n ?_
      refine ACode.ret ?_
      refine kf_wret [(.t 2, .v (.o (.c (.box 100 7 0 0)))), (.b 100, .b 31 7 [[.d (dI e.k), .d (dI e.n), .d (dIs e.i.1), .d (dI e.i.2), .d (dS e.r.1), .d (dAs e.r.2), .d (.val (.slice none 0 0))]]), (.u 100, .u)] (Wk.keep [(100, 110)] rfl rfl ⟨ks rfl (.c .bx), kb 110 rfl (.cons (.cons .dt (.cons .dt (.cons .dt (.cons .dt (.cons .dt (.cons .dt (.cons .dt Ctos.nil))))))) .nil), trivial⟩) rfl ?_ nobox
      rfl
  · skip
    refine ACode.seq ?_
    refine ACode.seq ?_
    refine ACode.region ?_
    refine .cons (.mv rfl rfl) ?_
    refine .cons (.fP 6 0 false rfl rfl) ?_
    refine .cons (.l1 1 rfl rfl) ?_
    refine .cons (.ln 31 7 112 rfl rfl rfl) ?_
    refine .cons (.ls rfl rfl rfl) ?_
    refine .nil ?_
    refine ks_n ?_
    refine .cD rfl (fun h20 => ?_) (fun h20 => ?_)
    · skip
      omega
    · skip
      omega

set_option maxRecDepth 100000 in
set_option maxHeartbeats 1600000 in
theorem l3Copy_nil (s : Stm) (hs : szS s ≤ 1073741824) (h1 : 0 < s.1.2.length) (h0 : s.2.ks.length = 0) : Fn Try.prog 94 [] [ad (rS s)] (.o (.agg [.d (dS s.1.1), .own 101 2 s.1.2.length, .d (dI s.2.k), .d (dI s.2.n), .d (dIs s.2.i.1), .d (dI s.2.i.2), .d (dS s.2.r.1), .d (dAs s.2.r.2), .d (.val (.slice none 0 0))])) [(.b 101, .b 28 2 (dR (s.1.2.map rA))), (.u 101, .u)] := by
  have hs3 := hs
  rw [szS, szC] at hs
  have hl := szAs_len s.1.2
  have hE := szE_eq s.2
  have hC : szC s.2.r = s.2.r.1.size + szAs s.2.r.2 := rfl
  have hl2 := szAs_len s.2.r.2
  refine Fn.of_code Try.func94 rfl rfl HB.nil rfl rfl HB.nil.data rfl (one_num rfl) ?_
  refine ACode.seq ?_
  refine ACode.region ?_
  refine .cons (St1.boxP rfl rfl rfl rfl rfl rfl) ?_
  refine .cons (.al 102 [.string ByteArray.empty, .slice none 0 0, .int .i64 0, .int .i64 0, .slice none 0 0, .int .i64 0, .string ByteArray.empty, .slice none 0 0, .slice none 0 0] rfl rfl rfl) ?_
  refine .nil ?_
  refine ks_n ?_
  refine ACode.seq ?_
  refine ACode.drawK (by kernel_rfl) (by kernel_rfl) ?_
  refine .cons (.fP 0 1 true rfl rfl) ?_
  refine .cons (.lN 2 rfl rfl rfl) ?_
  refine .cons (.cO [.tmp 4] [(101, 605)] rfl rfl rfl rfl (l3CopyAcc_own s.1 h1 (by omega) (fun x hx => by have := szAs_mem hx; omega)) rfl trivial flatS.nil (flatS.nil.cons rfl) HB.nil.data outS_one) ?_
  refine .cons (.fP 2 6 true rfl rfl) ?_
  refine .cons (.lN 7 rfl rfl rfl) ?_
  refine .cons (.cP [.tmp 7] rfl rfl rfl rfl (l3CopyEx_nil s.2 (by omega) (by omega) (fun x hx => by have := szAs_mem hx; omega) (by omega) (fun x hx => by have := szEs_mem hx; omega) h0) rfl) ?_
  refine .cons (.bu [(0, .tmp 5), (1, .tmp 8)] [(0, 2), (2, 7)] [.string ByteArray.empty, .slice none 0 0, .int .i64 0, .int .i64 0, .slice none 0 0, .int .i64 0, .string ByteArray.empty, .slice none 0 0, .slice none 0 0] rfl rfl rfl rfl rfl) ?_
  refine .cons (.sT 9 true rfl rfl rfl rfl rfl rfl rfl) ?_
  refine .nil ⟨by kernel_rfl, ?_⟩
  refine ks_n ?_
  refine ACode.ret ?_
  refine kf_wret [(.t 2, .v (.o (.c (.box 100 9 0 0)))), (.b 101, .b 28 2 (dR (s.1.2.map rA))), (.u 101, .u), (.b 100, .b 33 9 [[.d (dS s.1.1), .own 101 2 (s.1.2.length), .d (dI s.2.k), .d (dI s.2.n), .d (dIs s.2.i.1), .d (dI s.2.i.2), .d (dS s.2.r.1), .d (dAs s.2.r.2), .d (.val (.slice none 0 0))]]), (.u 100, .u)] (Wk.keep [(100, 102), (101, 605)] rfl rfl ⟨ks rfl (.c .bx), kb 605 rfl (.dt rfl), kb 102 rfl (.cons (.cons .dt (.cons .ow (.cons .dt (.cons .dt (.cons .dt (.cons .dt (.cons .dt (.cons .dt (.cons .dt Ctos.nil))))))))) .nil), trivial⟩) rfl ?_ (one_box rfl)
  rfl

set_option maxRecDepth 100000 in
set_option maxHeartbeats 1600000 in
theorem l3Copy_own (s : Stm) (hs : szS s ≤ 1073741824) (h1 : 0 < s.1.2.length) (h0 : 0 < s.2.ks.length) : Fn Try.prog 94 [] [ad (rS s)] (.o (.agg [.d (dS s.1.1), .own 101 2 s.1.2.length, .d (dI s.2.k), .d (dI s.2.n), .d (dIs s.2.i.1), .d (dI s.2.i.2), .d (dS s.2.r.1), .d (dAs s.2.r.2), .own 102 7 s.2.ks.length])) [(.b 101, .b 28 2 (dR (s.1.2.map rA))), (.u 101, .u), (.b 102, .b 31 7 (dR (s.2.ks.map rE))), (.u 102, .u)] := by
  have hs3 := hs
  rw [szS, szC] at hs
  have hl := szAs_len s.1.2
  have hE := szE_eq s.2
  have hC : szC s.2.r = s.2.r.1.size + szAs s.2.r.2 := rfl
  have hl2 := szAs_len s.2.r.2
  refine Fn.of_code Try.func94 rfl rfl HB.nil rfl rfl (HB.nil.data).data rfl (two_num rfl) ?_
  refine ACode.seq ?_
  refine ACode.region ?_
  refine .cons (St1.boxP rfl rfl rfl rfl rfl rfl) ?_
  refine .cons (.al 102 [.string ByteArray.empty, .slice none 0 0, .int .i64 0, .int .i64 0, .slice none 0 0, .int .i64 0, .string ByteArray.empty, .slice none 0 0, .slice none 0 0] rfl rfl rfl) ?_
  refine .nil ?_
  refine ks_n ?_
  refine ACode.seq ?_
  refine ACode.drawK (by kernel_rfl) (by kernel_rfl) ?_
  refine .cons (.fP 0 1 true rfl rfl) ?_
  refine .cons (.lN 2 rfl rfl rfl) ?_
  refine .cons (.cO [.tmp 4] [(101, 605)] rfl rfl rfl rfl (l3CopyAcc_own s.1 h1 (by omega) (fun x hx => by have := szAs_mem hx; omega)) rfl trivial flatS.nil (flatS.nil.cons rfl) HB.nil.data outS_one) ?_
  refine .cons (.fP 2 6 true rfl rfl) ?_
  refine .cons (.lN 7 rfl rfl rfl) ?_
  refine .cons (.cO [.tmp 7] [(101, 708)] rfl rfl rfl rfl (l3CopyEx_own s.2 (by omega) (by omega) (fun x hx => by have := szAs_mem hx; omega) (by omega) (fun x hx => by have := szEs_mem hx; omega) h0) rfl trivial flatS.nil (flatS.nil.cons rfl) HB.nil.data outS_one) ?_
  refine .cons (.bu [(0, .tmp 5), (1, .tmp 8)] [(0, 2), (2, 7)] [.string ByteArray.empty, .slice none 0 0, .int .i64 0, .int .i64 0, .slice none 0 0, .int .i64 0, .string ByteArray.empty, .slice none 0 0, .slice none 0 0] rfl rfl rfl rfl rfl) ?_
  refine .cons (.sT 9 true rfl rfl rfl rfl rfl rfl rfl) ?_
  refine .nil ⟨by kernel_rfl, ?_⟩
  refine ks_n ?_
  refine ACode.ret ?_
  refine kf_wret [(.t 2, .v (.o (.c (.box 100 9 0 0)))), (.b 101, .b 28 2 (dR (s.1.2.map rA))), (.u 101, .u), (.b 102, .b 31 7 (dR (s.2.ks.map rE))), (.u 102, .u), (.b 100, .b 33 9 [[.d (dS s.1.1), .own 101 2 (s.1.2.length), .d (dI s.2.k), .d (dI s.2.n), .d (dIs s.2.i.1), .d (dI s.2.i.2), .d (dS s.2.r.1), .d (dAs s.2.r.2), .own 102 7 (s.2.ks.length)]]), (.u 100, .u)] (Wk.keep [(100, 102), (101, 605), (102, 708)] rfl rfl ⟨ks rfl (.c .bx), kb 605 rfl (.dt rfl), kb 708 rfl (.dt rfl), kb 102 rfl (.cons (.cons .dt (.cons .ow (.cons .dt (.cons .dt (.cons .dt (.cons .dt (.cons .dt (.cons .dt (.cons .ow Ctos.nil))))))))) .nil), trivial⟩) rfl ?_ (two_box rfl rfl)
  rfl

def setK (e : Ex) (k : Int) : Ex := .mk k e.n e.i e.r e.ks
def setN (e : Ex) (n : Int) : Ex := .mk e.k n e.i e.r e.ks
def addK (e : Ex) (x : Ex) : Ex := .mk e.k e.n e.i e.r (e.ks ++ [x])
/-- A statement, sometimes made invalid. -/
def mutD (bs : List Int) (p : Nat) (s : Stm) : Stm × Nat :=
  if pickV bs p 40 = 0 then (((ofV bs (p + 1) [⟨#[69]⟩, ByteArray.empty, ⟨#[65, 66]⟩, ⟨#[97]⟩], s.1.2), s.2), p + 1 + 1)
  else if pickV bs p 40 = 1 then (((s.1.1, s.1.2 ++ [varA 3, zA]), s.2), p + 1)
  else if pickV bs p 40 = 2 then ((s.1, setK s.2 (numV bs (p + 1) [0, 7, 1, 4, 2])), p + 1 + 1)
  else if pickV bs p 40 = 3 then ((s.1, setN s.2 (numV bs (p + 1) [100, -1, 1])), p + 1 + 1)
  else if pickV bs p 40 = 4 then ((s.1, addK s.2 (.mk 1 0 zA0 zC0 [])), p + 1)
  else (s, p + 1)

set_option maxRecDepth 100000 in
set_option maxHeartbeats 1600000 in
theorem mut_nil {bs : List Int} (hb : Bytes bs) {p : Nat} (hp : p ≤ 100000000) (s : Stm) (hs : szS s ≤ 1073741824) (h1 : 0 < s.1.2.length) (h0 : s.2.ks.length = 0) : Fn Try.prog 49 (hbR bs p) [vR, ad (rS s)] (.o (ad (rS (mutD bs p s).1))) (hbR bs (mutD bs p s).2) := by
  have hsz := hs
  rw [szS, szC] at hsz
  have hl := szAs_len s.1.2
  have hE := szE_eq s.2
  obtain ⟨r, hr⟩ : ∃ r, r = mutD bs p s := ⟨_, rfl⟩
  rw [← hr]
  have hR := hr
  unfold mutD at hR
  refine Fn.of_code Try.func49 rfl rfl (hbR_HB _ _) rfl rfl (hbR_HB _ _) rfl (hbR_num _ _ _) ?_
  refine ACode.seq ?_
  refine ACode.region ?_
  refine .cons (St1.boxP rfl rfl rfl rfl rfl rfl) ?_
  refine .cons (.al 104 [.string ByteArray.empty, .slice none 0 0, .int .i64 0, .int .i64 0, .slice none 0 0, .int .i64 0, .string ByteArray.empty, .slice none 0 0, .slice none 0 0] rfl rfl rfl) ?_
  refine .nil ?_
  refine ks_n ?_
  refine ACode.seq ?_
  refine ACode.region ?_
  refine .cons (.lN 9 rfl rfl rfl) ?_
  refine .cons (.cO [.tmp 6] [(101, 107)] rfl rfl rfl rfl (l3Copy_nil s hs h1 h0) rfl trivial flatS.nil (flatS.nil.cons rfl) HB.nil.data outS_one) ?_
  refine .cons (.al 105 [.string ByteArray.empty, .slice none 0 0, .int .i64 0, .int .i64 0, .slice none 0 0, .int .i64 0, .string ByteArray.empty, .slice none 0 0, .slice none 0 0] rfl rfl rfl) ?_
  refine .cons (.sT 9 true rfl rfl rfl rfl rfl rfl rfl) ?_
  refine .nil ?_
  refine ks_n ?_
  refine ACode.seq ?_
  refine ACode.seq ?_
  refine ACode.region ?_
  refine .cons (.mv rfl rfl) ?_
  refine .cons (.cR [.tmp 8, .const (.int .i64 (40))] 0 rfl rfl rfl rfl (pick_fn hb (by omega) 40) rfl ⟨rfl, trivial⟩) ?_
  refine .nil ?_
  refine ks_n ?_
  refine ACode.block ?_
  refine ACode.seq ?_
  refine ACode.region ?_
  refine .cons (.eq rfl rfl rfl) ?_
  refine .cons (.asg rfl rfl) ?_
  refine .nil ?_
  refine ks_n ?_
  refine .cD rfl (fun h10 => ?_) (fun h10 => ?_)
  · skip
    refine ACode.region ?_
    refine .cons (.mv rfl rfl) ?_
    refine .cons (.li 9 0 3 [.const (.string ⟨#[69]⟩), .const (.string ⟨#[]⟩), .const (.string ⟨#[65, 66]⟩), .const (.string ⟨#[97]⟩)] rfl rfl rfl rfl rfl rfl) ?_
    refine .cons (.cR [.tmp 12, .tmp 13] 0 rfl rfl rfl rfl (of_fn hb (by omega) [⟨#[69]⟩, ByteArray.empty, ⟨#[65, 66]⟩, ⟨#[97]⟩] (by simp)) rfl ⟨rfl, trivial⟩) ?_
    refine .cons (.fB 0 1 true rfl rfl rfl) ?_
    refine .cons (.fB 0 0 false rfl rfl rfl) ?_
    refine .cons (.sT 1 false rfl rfl rfl rfl rfl rfl rfl) ?_
    refine .nil ?_
    refine kb_n ?_
    refine ks_n ?_
    refine ACode.seq ?_
    refine ACode.region ?_
    refine .cons (.bN 9 rfl rfl rfl rfl rfl rfl) ?_
    refine .cons (.sT 9 true rfl rfl rfl rfl rfl rfl rfl) ?_
    refine .nil ?_
    refine ks_n ?_
    refine ACode.ret ?_
    first | rw [if_pos h10] at hR | rw [if_neg h10, if_pos h17] at hR | rw [if_neg h10, if_neg h17, if_pos h28] at hR | rw [if_neg h10, if_neg h17, if_neg h28, if_pos h35] at hR | rw [if_neg h10, if_neg h17, if_neg h28, if_neg h35, if_pos h42] at hR | rw [if_neg h10, if_neg h17, if_neg h28, if_neg h35, if_neg h42] at hR
    refine kf_wret [(.t 4, .v (.o (.c (.box 100 9 0 0)))), (.b 0, .b 113 2 (dR ([rRd bs r.2]))), (.u 0, .u), (.b 100, .b 33 9 [[.d (dS r.1.1.1), .d (dAs r.1.1.2), .d (dI r.1.2.k), .d (dI r.1.2.n), .d (dIs r.1.2.i.1), .d (dI r.1.2.i.2), .d (dS r.1.2.r.1), .d (dAs r.1.2.r.2), .d (dEs r.1.2.ks)]]), (.u 100, .u)] (Wk.keep [(0, 0), (100, 104)] rfl rfl ⟨ks rfl (.c .bx), kb 0 rfl (.dt rfl (by first | rfl | (rw [hR]; done) | (rw [hR]; rfl))), kb 104 rfl (.cons (.cons (.dt (by first | rfl | (rw [hR]; done) | (rw [hR]; rfl))) (.cons (.fz rfl (by first | (rw [hR]; exact (dR_app _ [rA (varA 3), rA zA]).trans (by rw [List.map_append]; rfl)) | (rw [hR]; show _ = dR ((s.2.ks ++ [_]).map rE); rw [List.map_append, rE_one, ← dR_app]; rfl) | (rw [hR]; show _ = dR ((s.2.ks ++ [_]).map rE); rw [List.eq_nil_of_length_eq_zero h0, List.nil_append, rE_one]; rfl) | (rw [hR]; done) | (rw [hR]; rfl) | (rw [hR]; simp [dR]; done) | (rw [hR]; simp [dR]; rfl) | (rw [hR]; rw [dR_app]; simp; done) | (rw [hR]; simp [setK, setN]; rfl)) (by first | (rw [hR]; show _ = ((s.2.ks ++ [_]).map rE).length; rw [List.length_map, List.length_append]; first | rfl | (rw [h0]; rfl)) | (rw [hR]; rfl) | (rw [hR]; simp; done) | (rw [hR]; simp; rfl) | (rw [hR]; simp [setK, setN, addK, Ex.ks]; done)) (by first | omega | (simp; done) | (simp; omega))) (.cons (.dt (by first | rfl | (rw [hR]; done) | (rw [hR]; rfl))) (.cons (.dt (by first | rfl | (rw [hR]; done) | (rw [hR]; rfl))) (.cons (.dt (by first | rfl | (rw [hR]; done) | (rw [hR]; rfl))) (.cons (.dt (by first | rfl | (rw [hR]; done) | (rw [hR]; rfl))) (.cons (.dt (by first | rfl | (rw [hR]; done) | (rw [hR]; rfl))) (.cons (.dt (by first | rfl | (rw [hR]; done) | (rw [hR]; rfl))) (.cons (Cto.nilE 7 (by first | (rw [hR]; done) | (rw [hR]; rfl) | (rw [hR]; show dEs s.2.ks = _; rw [List.eq_nil_of_length_eq_zero h0]; rfl))) Ctos.nil))))))))) .nil), trivial⟩) rfl ?_ (hbR_box rfl)
    rfl
  · skip
    refine ACode.seq ?_
    refine ACode.region ?_
    refine .cons (.eq rfl rfl rfl) ?_
    refine .cons (.asg rfl rfl) ?_
    refine .nil ?_
    refine ks_n ?_
    refine .cD rfl (fun h17 => ?_) (fun h17 => ?_)
    · skip
      refine ACode.drawK (by kernel_rfl) (by kernel_rfl) ?_
      refine .cons (.fB 0 1 true rfl rfl rfl) ?_
      refine .cons (.fB 1 0 false rfl rfl rfl) ?_
      refine .cons (.b1 1 rfl rfl rfl rfl rfl rfl) ?_
      refine .cons (.cP [.const (.int .i64 (3))] rfl rfl rfl rfl (l1Var_fn 3 (by omega)) rfl) ?_
      refine .cons (.cP [] rfl rfl rfl rfl (l1Zero_fn) rfl) ?_
      refine .cons (.li 28 1 1 [.tmp 22, .tmp 23] rfl rfl rfl rfl rfl rfl) ?_
      refine .cons (St1.appB (k' := 125) (e := 28) (sz := 1) (by' := 32) rfl rfl rfl rfl rfl (by kernel_rfl) rfl rfl rfl rfl (by simp [dR]) (by simp [dR]; omega) rfl rfl rfl) ?_
      refine .cons (.fB 0 1 true rfl rfl rfl) ?_
      refine .cons (.fB 1 0 false rfl rfl rfl) ?_
      refine .cons (.sT 1 false rfl rfl rfl rfl rfl rfl rfl) ?_
      refine .nil ⟨by kernel_rfl, ?_⟩
      refine kb_n ?_
      refine ks_n ?_
      refine ACode.seq ?_
      refine ACode.region ?_
      refine .cons (.bN 9 rfl rfl rfl rfl rfl rfl) ?_
      refine .cons (.sT 9 true rfl rfl rfl rfl rfl rfl rfl) ?_
      refine .nil ?_
      refine ks_n ?_
      refine ACode.ret ?_
      first | rw [if_pos h10] at hR | rw [if_neg h10, if_pos h17] at hR | rw [if_neg h10, if_neg h17, if_pos h28] at hR | rw [if_neg h10, if_neg h17, if_neg h28, if_pos h35] at hR | rw [if_neg h10, if_neg h17, if_neg h28, if_neg h35, if_pos h42] at hR | rw [if_neg h10, if_neg h17, if_neg h28, if_neg h35, if_neg h42] at hR
      refine kf_wret [(.t 4, .v (.o (.c (.box 100 9 0 0)))), (.b 0, .b 113 2 (dR ([rRd bs r.2]))), (.u 0, .u), (.b 100, .b 33 9 [[.d (dS r.1.1.1), .d (dAs r.1.1.2), .d (dI r.1.2.k), .d (dI r.1.2.n), .d (dIs r.1.2.i.1), .d (dI r.1.2.i.2), .d (dS r.1.2.r.1), .d (dAs r.1.2.r.2), .d (dEs r.1.2.ks)]]), (.u 100, .u)] (Wk.keep [(0, 0), (100, 104)] rfl rfl ⟨ks rfl (.c .bx), kb 0 rfl (.dt rfl (by first | rfl | (rw [hR]; done) | (rw [hR]; rfl))), kb 104 rfl (.cons (.cons (.dt (by first | rfl | (rw [hR]; done) | (rw [hR]; rfl))) (.cons (.fz rfl (by first | (rw [hR]; exact (dR_app _ [rA (varA 3), rA zA]).trans (by rw [List.map_append]; rfl)) | (rw [hR]; show _ = dR ((s.2.ks ++ [_]).map rE); rw [List.map_append, rE_one, ← dR_app]; rfl) | (rw [hR]; show _ = dR ((s.2.ks ++ [_]).map rE); rw [List.eq_nil_of_length_eq_zero h0, List.nil_append, rE_one]; rfl) | (rw [hR]; done) | (rw [hR]; rfl) | (rw [hR]; simp [dR]; done) | (rw [hR]; simp [dR]; rfl) | (rw [hR]; rw [dR_app]; simp; done) | (rw [hR]; simp [setK, setN]; rfl)) (by first | (rw [hR]; show _ = ((s.2.ks ++ [_]).map rE).length; rw [List.length_map, List.length_append]; first | rfl | (rw [h0]; rfl)) | (rw [hR]; rfl) | (rw [hR]; simp; done) | (rw [hR]; simp; rfl) | (rw [hR]; simp [setK, setN, addK, Ex.ks]; done)) (by first | omega | (simp; done) | (simp; omega))) (.cons (.dt (by first | rfl | (rw [hR]; done) | (rw [hR]; rfl))) (.cons (.dt (by first | rfl | (rw [hR]; done) | (rw [hR]; rfl))) (.cons (.dt (by first | rfl | (rw [hR]; done) | (rw [hR]; rfl))) (.cons (.dt (by first | rfl | (rw [hR]; done) | (rw [hR]; rfl))) (.cons (.dt (by first | rfl | (rw [hR]; done) | (rw [hR]; rfl))) (.cons (.dt (by first | rfl | (rw [hR]; done) | (rw [hR]; rfl))) (.cons (Cto.nilE 7 (by first | (rw [hR]; done) | (rw [hR]; rfl) | (rw [hR]; show dEs s.2.ks = _; rw [List.eq_nil_of_length_eq_zero h0]; rfl))) Ctos.nil))))))))) .nil), trivial⟩) rfl ?_ (hbR_box rfl)
      rfl
    · skip
      refine ACode.seq ?_
      refine ACode.region ?_
      refine .cons (.eq rfl rfl rfl) ?_
      refine .cons (.asg rfl rfl) ?_
      refine .nil ?_
      refine ks_n ?_
      refine .cD rfl (fun h28 => ?_) (fun h28 => ?_)
      · skip
        refine ACode.region ?_
        refine .cons (.mv rfl rfl) ?_
        refine .cons (.li 3 0 4 [.const (.int .i64 (0)), .const (.int .i64 (7)), .const (.int .i64 (1)), .const (.int .i64 (4)), .const (.int .i64 (2))] rfl rfl rfl rfl rfl rfl) ?_
        refine .cons (.cR [.tmp 30, .tmp 31] 0 rfl rfl rfl rfl (num_fn hb (by omega) [0, 7, 1, 4, 2] (by simp)) rfl ⟨rfl, trivial⟩) ?_
        refine .cons (.fB 2 6 true rfl rfl rfl) ?_
        refine .cons (.fB 0 0 false rfl rfl rfl) ?_
        refine .cons (.sT 1 false rfl rfl rfl rfl rfl rfl rfl) ?_
        refine .nil ?_
        refine kb_n ?_
        refine ks_n ?_
        refine ACode.seq ?_
        refine ACode.region ?_
        refine .cons (.bN 9 rfl rfl rfl rfl rfl rfl) ?_
        refine .cons (.sT 9 true rfl rfl rfl rfl rfl rfl rfl) ?_
        refine .nil ?_
        refine ks_n ?_
        refine ACode.ret ?_
        first | rw [if_pos h10] at hR | rw [if_neg h10, if_pos h17] at hR | rw [if_neg h10, if_neg h17, if_pos h28] at hR | rw [if_neg h10, if_neg h17, if_neg h28, if_pos h35] at hR | rw [if_neg h10, if_neg h17, if_neg h28, if_neg h35, if_pos h42] at hR | rw [if_neg h10, if_neg h17, if_neg h28, if_neg h35, if_neg h42] at hR
        refine kf_wret [(.t 4, .v (.o (.c (.box 100 9 0 0)))), (.b 0, .b 113 2 (dR ([rRd bs r.2]))), (.u 0, .u), (.b 100, .b 33 9 [[.d (dS r.1.1.1), .d (dAs r.1.1.2), .d (dI r.1.2.k), .d (dI r.1.2.n), .d (dIs r.1.2.i.1), .d (dI r.1.2.i.2), .d (dS r.1.2.r.1), .d (dAs r.1.2.r.2), .d (dEs r.1.2.ks)]]), (.u 100, .u)] (Wk.keep [(0, 0), (100, 104)] rfl rfl ⟨ks rfl (.c .bx), kb 0 rfl (.dt rfl (by first | rfl | (rw [hR]; done) | (rw [hR]; rfl))), kb 104 rfl (.cons (.cons (.dt (by first | rfl | (rw [hR]; done) | (rw [hR]; rfl))) (.cons (.fz rfl (by first | (rw [hR]; exact (dR_app _ [rA (varA 3), rA zA]).trans (by rw [List.map_append]; rfl)) | (rw [hR]; show _ = dR ((s.2.ks ++ [_]).map rE); rw [List.map_append, rE_one, ← dR_app]; rfl) | (rw [hR]; show _ = dR ((s.2.ks ++ [_]).map rE); rw [List.eq_nil_of_length_eq_zero h0, List.nil_append, rE_one]; rfl) | (rw [hR]; done) | (rw [hR]; rfl) | (rw [hR]; simp [dR]; done) | (rw [hR]; simp [dR]; rfl) | (rw [hR]; rw [dR_app]; simp; done) | (rw [hR]; simp [setK, setN]; rfl)) (by first | (rw [hR]; show _ = ((s.2.ks ++ [_]).map rE).length; rw [List.length_map, List.length_append]; first | rfl | (rw [h0]; rfl)) | (rw [hR]; rfl) | (rw [hR]; simp; done) | (rw [hR]; simp; rfl) | (rw [hR]; simp [setK, setN, addK, Ex.ks]; done)) (by first | omega | (simp; done) | (simp; omega))) (.cons (.dt (by first | rfl | (rw [hR]; done) | (rw [hR]; rfl))) (.cons (.dt (by first | rfl | (rw [hR]; done) | (rw [hR]; rfl))) (.cons (.dt (by first | rfl | (rw [hR]; done) | (rw [hR]; rfl))) (.cons (.dt (by first | rfl | (rw [hR]; done) | (rw [hR]; rfl))) (.cons (.dt (by first | rfl | (rw [hR]; done) | (rw [hR]; rfl))) (.cons (.dt (by first | rfl | (rw [hR]; done) | (rw [hR]; rfl))) (.cons (Cto.nilE 7 (by first | (rw [hR]; done) | (rw [hR]; rfl) | (rw [hR]; show dEs s.2.ks = _; rw [List.eq_nil_of_length_eq_zero h0]; rfl))) Ctos.nil))))))))) .nil), trivial⟩) rfl ?_ (hbR_box rfl)
        rfl
      · skip
        refine ACode.seq ?_
        refine ACode.region ?_
        refine .cons (.eq rfl rfl rfl) ?_
        refine .cons (.asg rfl rfl) ?_
        refine .nil ?_
        refine ks_n ?_
        refine .cD rfl (fun h35 => ?_) (fun h35 => ?_)
        · skip
          refine ACode.region ?_
          refine .cons (.mv rfl rfl) ?_
          refine .cons (.li 3 0 2 [.const (.int .i64 (100)), .const (.int .i64 (-1)), .const (.int .i64 (1))] rfl rfl rfl rfl rfl rfl) ?_
          refine .cons (.cR [.tmp 37, .tmp 38] 0 rfl rfl rfl rfl (num_fn hb (by omega) [100, -1, 1] (by simp)) rfl ⟨rfl, trivial⟩) ?_
          refine .cons (.fB 2 6 true rfl rfl rfl) ?_
          refine .cons (.fB 1 0 false rfl rfl rfl) ?_
          refine .cons (.sT 1 false rfl rfl rfl rfl rfl rfl rfl) ?_
          refine .nil ?_
          refine kb_n ?_
          refine ks_n ?_
          refine ACode.seq ?_
          refine ACode.region ?_
          refine .cons (.bN 9 rfl rfl rfl rfl rfl rfl) ?_
          refine .cons (.sT 9 true rfl rfl rfl rfl rfl rfl rfl) ?_
          refine .nil ?_
          refine ks_n ?_
          refine ACode.ret ?_
          first | rw [if_pos h10] at hR | rw [if_neg h10, if_pos h17] at hR | rw [if_neg h10, if_neg h17, if_pos h28] at hR | rw [if_neg h10, if_neg h17, if_neg h28, if_pos h35] at hR | rw [if_neg h10, if_neg h17, if_neg h28, if_neg h35, if_pos h42] at hR | rw [if_neg h10, if_neg h17, if_neg h28, if_neg h35, if_neg h42] at hR
          refine kf_wret [(.t 4, .v (.o (.c (.box 100 9 0 0)))), (.b 0, .b 113 2 (dR ([rRd bs r.2]))), (.u 0, .u), (.b 100, .b 33 9 [[.d (dS r.1.1.1), .d (dAs r.1.1.2), .d (dI r.1.2.k), .d (dI r.1.2.n), .d (dIs r.1.2.i.1), .d (dI r.1.2.i.2), .d (dS r.1.2.r.1), .d (dAs r.1.2.r.2), .d (dEs r.1.2.ks)]]), (.u 100, .u)] (Wk.keep [(0, 0), (100, 104)] rfl rfl ⟨ks rfl (.c .bx), kb 0 rfl (.dt rfl (by first | rfl | (rw [hR]; done) | (rw [hR]; rfl))), kb 104 rfl (.cons (.cons (.dt (by first | rfl | (rw [hR]; done) | (rw [hR]; rfl))) (.cons (.fz rfl (by first | (rw [hR]; exact (dR_app _ [rA (varA 3), rA zA]).trans (by rw [List.map_append]; rfl)) | (rw [hR]; show _ = dR ((s.2.ks ++ [_]).map rE); rw [List.map_append, rE_one, ← dR_app]; rfl) | (rw [hR]; show _ = dR ((s.2.ks ++ [_]).map rE); rw [List.eq_nil_of_length_eq_zero h0, List.nil_append, rE_one]; rfl) | (rw [hR]; done) | (rw [hR]; rfl) | (rw [hR]; simp [dR]; done) | (rw [hR]; simp [dR]; rfl) | (rw [hR]; rw [dR_app]; simp; done) | (rw [hR]; simp [setK, setN]; rfl)) (by first | (rw [hR]; show _ = ((s.2.ks ++ [_]).map rE).length; rw [List.length_map, List.length_append]; first | rfl | (rw [h0]; rfl)) | (rw [hR]; rfl) | (rw [hR]; simp; done) | (rw [hR]; simp; rfl) | (rw [hR]; simp [setK, setN, addK, Ex.ks]; done)) (by first | omega | (simp; done) | (simp; omega))) (.cons (.dt (by first | rfl | (rw [hR]; done) | (rw [hR]; rfl))) (.cons (.dt (by first | rfl | (rw [hR]; done) | (rw [hR]; rfl))) (.cons (.dt (by first | rfl | (rw [hR]; done) | (rw [hR]; rfl))) (.cons (.dt (by first | rfl | (rw [hR]; done) | (rw [hR]; rfl))) (.cons (.dt (by first | rfl | (rw [hR]; done) | (rw [hR]; rfl))) (.cons (.dt (by first | rfl | (rw [hR]; done) | (rw [hR]; rfl))) (.cons (Cto.nilE 7 (by first | (rw [hR]; done) | (rw [hR]; rfl) | (rw [hR]; show dEs s.2.ks = _; rw [List.eq_nil_of_length_eq_zero h0]; rfl))) Ctos.nil))))))))) .nil), trivial⟩) rfl ?_ (hbR_box rfl)
          rfl
        · skip
          refine ACode.seq ?_
          refine ACode.region ?_
          refine .cons (.eq rfl rfl rfl) ?_
          refine .cons (.asg rfl rfl) ?_
          refine .nil ?_
          refine ks_n ?_
          refine .cD rfl (fun h42 => ?_) (fun h42 => ?_)
          · skip
            refine ACode.region ?_
            refine .cons (.fB 2 6 true rfl rfl rfl) ?_
            refine .cons (.fB 6 0 false rfl rfl rfl) ?_
            refine .cons (.b1 1 rfl rfl rfl rfl rfl rfl) ?_
            refine .cons (.buZ [(0, .const (.int .i64 (1)))] [(0, 1), (1, 1), (2, 2), (4, 2), (6, 1)] [.int .i64 0, .int .i64 0, .slice none 0 0, .int .i64 0, .string ByteArray.empty, .slice none 0 0, .slice none 0 0] [dI 0, dI 0, .list 1 [], dI 0, dS ByteArray.empty, .list 2 [], .list 7 []] rfl rfl (.val rfl (.val rfl (.list _ (.val rfl (.val rfl (.list _ (.list _ ZR.nil))))))) rfl rfl) ?_
            refine .cons (.li 31 6 0 [.tmp 47] rfl rfl rfl rfl rfl rfl) ?_
            refine .cons (St1.appN (k' := 149) (e := 31) (sz := 6) (by' := 112) rfl rfl rfl rfl rfl (by kernel_rfl) rfl rfl rfl (by simp) (by simp) rfl rfl) ?_
            refine .cons (.fB 2 6 true rfl rfl rfl) ?_
            refine .cons (.fB 6 0 false rfl rfl rfl) ?_
            refine .cons (.sT 1 false rfl rfl rfl rfl rfl rfl rfl) ?_
            refine .nil ?_
            refine kb_n ?_
            refine ks_n ?_
            refine ACode.seq ?_
            refine ACode.region ?_
            refine .cons (.bN 9 rfl rfl rfl rfl rfl rfl) ?_
            refine .cons (.sT 9 true rfl rfl rfl rfl rfl rfl rfl) ?_
            refine .nil ?_
            refine ks_n ?_
            refine ACode.ret ?_
            first | rw [if_pos h10] at hR | rw [if_neg h10, if_pos h17] at hR | rw [if_neg h10, if_neg h17, if_pos h28] at hR | rw [if_neg h10, if_neg h17, if_neg h28, if_pos h35] at hR | rw [if_neg h10, if_neg h17, if_neg h28, if_neg h35, if_pos h42] at hR | rw [if_neg h10, if_neg h17, if_neg h28, if_neg h35, if_neg h42] at hR
            refine kf_wret [(.t 4, .v (.o (.c (.box 100 9 0 0)))), (.b 0, .b 113 2 (dR ([rRd bs r.2]))), (.u 0, .u), (.b 100, .b 33 9 [[.d (dS r.1.1.1), .d (dAs r.1.1.2), .d (dI r.1.2.k), .d (dI r.1.2.n), .d (dIs r.1.2.i.1), .d (dI r.1.2.i.2), .d (dS r.1.2.r.1), .d (dAs r.1.2.r.2), .d (dEs r.1.2.ks)]]), (.u 100, .u)] (Wk.keep [(0, 0), (100, 104)] rfl rfl ⟨ks rfl (.c .bx), kb 0 rfl (.dt rfl (by first | rfl | (rw [hR]; done) | (rw [hR]; rfl))), kb 104 rfl (.cons (.cons (.dt (by first | rfl | (rw [hR]; done) | (rw [hR]; rfl))) (.cons (.fz rfl (by first | (rw [hR]; exact (dR_app _ [rA (varA 3), rA zA]).trans (by rw [List.map_append]; rfl)) | (rw [hR]; show _ = dR ((s.2.ks ++ [_]).map rE); rw [List.map_append, rE_one, ← dR_app]; rfl) | (rw [hR]; show _ = dR ((s.2.ks ++ [_]).map rE); rw [List.eq_nil_of_length_eq_zero h0, List.nil_append, rE_one]; rfl) | (rw [hR]; done) | (rw [hR]; rfl) | (rw [hR]; simp [dR]; done) | (rw [hR]; simp [dR]; rfl) | (rw [hR]; rw [dR_app]; simp; done) | (rw [hR]; simp [setK, setN]; rfl)) (by first | (rw [hR]; show _ = ((s.2.ks ++ [_]).map rE).length; rw [List.length_map, List.length_append]; first | rfl | (rw [h0]; rfl)) | (rw [hR]; rfl) | (rw [hR]; simp; done) | (rw [hR]; simp; rfl) | (rw [hR]; simp [setK, setN, addK, Ex.ks]; done)) (by first | omega | (simp; done) | (simp; omega))) (.cons (.dt (by first | rfl | (rw [hR]; done) | (rw [hR]; rfl))) (.cons (.dt (by first | rfl | (rw [hR]; done) | (rw [hR]; rfl))) (.cons (.dt (by first | rfl | (rw [hR]; done) | (rw [hR]; rfl))) (.cons (.dt (by first | rfl | (rw [hR]; done) | (rw [hR]; rfl))) (.cons (.dt (by first | rfl | (rw [hR]; done) | (rw [hR]; rfl))) (.cons (.dt (by first | rfl | (rw [hR]; done) | (rw [hR]; rfl))) (.cons (.fz rfl (by first | (rw [hR]; exact (dR_app _ [rA (varA 3), rA zA]).trans (by rw [List.map_append]; rfl)) | (rw [hR]; show _ = dR ((s.2.ks ++ [_]).map rE); rw [List.map_append, rE_one, ← dR_app]; rfl) | (rw [hR]; show _ = dR ((s.2.ks ++ [_]).map rE); rw [List.eq_nil_of_length_eq_zero h0, List.nil_append, rE_one]; rfl) | (rw [hR]; done) | (rw [hR]; rfl) | (rw [hR]; simp [dR]; done) | (rw [hR]; simp [dR]; rfl) | (rw [hR]; rw [dR_app]; simp; done) | (rw [hR]; simp [setK, setN]; rfl)) (by first | (rw [hR]; show _ = ((s.2.ks ++ [_]).map rE).length; rw [List.length_map, List.length_append]; first | rfl | (rw [h0]; rfl)) | (rw [hR]; rfl) | (rw [hR]; simp; done) | (rw [hR]; simp; rfl) | (rw [hR]; simp [setK, setN, addK, Ex.ks]; done)) (by first | omega | (simp; done) | (simp; omega))) Ctos.nil))))))))) .nil), trivial⟩) rfl ?_ (hbR_box rfl)
            rfl
          · skip
            refine ACode.skip ?_
            refine kb_n ?_
            refine ks_n ?_
            refine ACode.seq ?_
            refine ACode.region ?_
            refine .cons (.bN 9 rfl rfl rfl rfl rfl rfl) ?_
            refine .cons (.sT 9 true rfl rfl rfl rfl rfl rfl rfl) ?_
            refine .nil ?_
            refine ks_n ?_
            refine ACode.ret ?_
            first | rw [if_pos h10] at hR | rw [if_neg h10, if_pos h17] at hR | rw [if_neg h10, if_neg h17, if_pos h28] at hR | rw [if_neg h10, if_neg h17, if_neg h28, if_pos h35] at hR | rw [if_neg h10, if_neg h17, if_neg h28, if_neg h35, if_pos h42] at hR | rw [if_neg h10, if_neg h17, if_neg h28, if_neg h35, if_neg h42] at hR
            refine kf_wret [(.t 4, .v (.o (.c (.box 100 9 0 0)))), (.b 0, .b 113 2 (dR ([rRd bs r.2]))), (.u 0, .u), (.b 100, .b 33 9 [[.d (dS r.1.1.1), .d (dAs r.1.1.2), .d (dI r.1.2.k), .d (dI r.1.2.n), .d (dIs r.1.2.i.1), .d (dI r.1.2.i.2), .d (dS r.1.2.r.1), .d (dAs r.1.2.r.2), .d (dEs r.1.2.ks)]]), (.u 100, .u)] (Wk.keep [(0, 0), (100, 104)] rfl rfl ⟨ks rfl (.c .bx), kb 0 rfl (.dt rfl (by first | rfl | (rw [hR]; done) | (rw [hR]; rfl))), kb 104 rfl (.cons (.cons (.dt (by first | rfl | (rw [hR]; done) | (rw [hR]; rfl))) (.cons (.fz rfl (by first | (rw [hR]; exact (dR_app _ [rA (varA 3), rA zA]).trans (by rw [List.map_append]; rfl)) | (rw [hR]; show _ = dR ((s.2.ks ++ [_]).map rE); rw [List.map_append, rE_one, ← dR_app]; rfl) | (rw [hR]; show _ = dR ((s.2.ks ++ [_]).map rE); rw [List.eq_nil_of_length_eq_zero h0, List.nil_append, rE_one]; rfl) | (rw [hR]; done) | (rw [hR]; rfl) | (rw [hR]; simp [dR]; done) | (rw [hR]; simp [dR]; rfl) | (rw [hR]; rw [dR_app]; simp; done) | (rw [hR]; simp [setK, setN]; rfl)) (by first | (rw [hR]; show _ = ((s.2.ks ++ [_]).map rE).length; rw [List.length_map, List.length_append]; first | rfl | (rw [h0]; rfl)) | (rw [hR]; rfl) | (rw [hR]; simp; done) | (rw [hR]; simp; rfl) | (rw [hR]; simp [setK, setN, addK, Ex.ks]; done)) (by first | omega | (simp; done) | (simp; omega))) (.cons (.dt (by first | rfl | (rw [hR]; done) | (rw [hR]; rfl))) (.cons (.dt (by first | rfl | (rw [hR]; done) | (rw [hR]; rfl))) (.cons (.dt (by first | rfl | (rw [hR]; done) | (rw [hR]; rfl))) (.cons (.dt (by first | rfl | (rw [hR]; done) | (rw [hR]; rfl))) (.cons (.dt (by first | rfl | (rw [hR]; done) | (rw [hR]; rfl))) (.cons (.dt (by first | rfl | (rw [hR]; done) | (rw [hR]; rfl))) (.cons (Cto.nilE 7 (by first | (rw [hR]; done) | (rw [hR]; rfl) | (rw [hR]; show dEs s.2.ks = _; rw [List.eq_nil_of_length_eq_zero h0]; rfl))) Ctos.nil))))))))) .nil), trivial⟩) rfl ?_ (hbR_box rfl)
            rfl

set_option maxRecDepth 100000 in
set_option maxHeartbeats 1600000 in
theorem mut_own {bs : List Int} (hb : Bytes bs) {p : Nat} (hp : p ≤ 100000000) (s : Stm) (hs : szS s ≤ 1073741824) (h1 : 0 < s.1.2.length) (h0 : 0 < s.2.ks.length) : Fn Try.prog 49 (hbR bs p) [vR, ad (rS s)] (.o (ad (rS (mutD bs p s).1))) (hbR bs (mutD bs p s).2) := by
  have hsz := hs
  rw [szS, szC] at hsz
  have hl := szAs_len s.1.2
  have hE := szE_eq s.2
  obtain ⟨r, hr⟩ : ∃ r, r = mutD bs p s := ⟨_, rfl⟩
  rw [← hr]
  have hR := hr
  unfold mutD at hR
  refine Fn.of_code Try.func49 rfl rfl (hbR_HB _ _) rfl rfl (hbR_HB _ _) rfl (hbR_num _ _ _) ?_
  refine ACode.seq ?_
  refine ACode.region ?_
  refine .cons (St1.boxP rfl rfl rfl rfl rfl rfl) ?_
  refine .cons (.al 104 [.string ByteArray.empty, .slice none 0 0, .int .i64 0, .int .i64 0, .slice none 0 0, .int .i64 0, .string ByteArray.empty, .slice none 0 0, .slice none 0 0] rfl rfl rfl) ?_
  refine .nil ?_
  refine ks_n ?_
  refine ACode.seq ?_
  refine ACode.region ?_
  refine .cons (.lN 9 rfl rfl rfl) ?_
  refine .cons (.cO [.tmp 6] [(101, 107), (102, 607)] rfl rfl rfl rfl (l3Copy_own s hs h1 h0) rfl trivial flatS.nil ((flatS.nil.cons rfl).cons rfl) (HB.nil.data).data outS_two) ?_
  refine .cons (.al 105 [.string ByteArray.empty, .slice none 0 0, .int .i64 0, .int .i64 0, .slice none 0 0, .int .i64 0, .string ByteArray.empty, .slice none 0 0, .slice none 0 0] rfl rfl rfl) ?_
  refine .cons (.sT 9 true rfl rfl rfl rfl rfl rfl rfl) ?_
  refine .nil ?_
  refine ks_n ?_
  refine ACode.seq ?_
  refine ACode.seq ?_
  refine ACode.region ?_
  refine .cons (.mv rfl rfl) ?_
  refine .cons (.cR [.tmp 8, .const (.int .i64 (40))] 0 rfl rfl rfl rfl (pick_fn hb (by omega) 40) rfl ⟨rfl, trivial⟩) ?_
  refine .nil ?_
  refine ks_n ?_
  refine ACode.block ?_
  refine ACode.seq ?_
  refine ACode.region ?_
  refine .cons (.eq rfl rfl rfl) ?_
  refine .cons (.asg rfl rfl) ?_
  refine .nil ?_
  refine ks_n ?_
  refine .cD rfl (fun h10 => ?_) (fun h10 => ?_)
  · skip
    refine ACode.region ?_
    refine .cons (.mv rfl rfl) ?_
    refine .cons (.li 9 0 3 [.const (.string ⟨#[69]⟩), .const (.string ⟨#[]⟩), .const (.string ⟨#[65, 66]⟩), .const (.string ⟨#[97]⟩)] rfl rfl rfl rfl rfl rfl) ?_
    refine .cons (.cR [.tmp 12, .tmp 13] 0 rfl rfl rfl rfl (of_fn hb (by omega) [⟨#[69]⟩, ByteArray.empty, ⟨#[65, 66]⟩, ⟨#[97]⟩] (by simp)) rfl ⟨rfl, trivial⟩) ?_
    refine .cons (.fB 0 1 true rfl rfl rfl) ?_
    refine .cons (.fB 0 0 false rfl rfl rfl) ?_
    refine .cons (.sT 1 false rfl rfl rfl rfl rfl rfl rfl) ?_
    refine .nil ?_
    refine kb_n ?_
    refine ks_n ?_
    refine ACode.seq ?_
    refine ACode.region ?_
    refine .cons (.bN 9 rfl rfl rfl rfl rfl rfl) ?_
    refine .cons (.sT 9 true rfl rfl rfl rfl rfl rfl rfl) ?_
    refine .nil ?_
    refine ks_n ?_
    refine ACode.ret ?_
    first | rw [if_pos h10] at hR | rw [if_neg h10, if_pos h17] at hR | rw [if_neg h10, if_neg h17, if_pos h28] at hR | rw [if_neg h10, if_neg h17, if_neg h28, if_pos h35] at hR | rw [if_neg h10, if_neg h17, if_neg h28, if_neg h35, if_pos h42] at hR | rw [if_neg h10, if_neg h17, if_neg h28, if_neg h35, if_neg h42] at hR
    refine kf_wret [(.t 4, .v (.o (.c (.box 100 9 0 0)))), (.b 0, .b 113 2 (dR ([rRd bs r.2]))), (.u 0, .u), (.b 100, .b 33 9 [[.d (dS r.1.1.1), .d (dAs r.1.1.2), .d (dI r.1.2.k), .d (dI r.1.2.n), .d (dIs r.1.2.i.1), .d (dI r.1.2.i.2), .d (dS r.1.2.r.1), .d (dAs r.1.2.r.2), .d (dEs r.1.2.ks)]]), (.u 100, .u)] (Wk.keep [(0, 0), (100, 104)] rfl rfl ⟨ks rfl (.c .bx), kb 0 rfl (.dt rfl (by first | rfl | (rw [hR]; done) | (rw [hR]; rfl))), kb 104 rfl (.cons (.cons (.dt (by first | rfl | (rw [hR]; done) | (rw [hR]; rfl))) (.cons (.fz rfl (by first | (rw [hR]; exact (dR_app _ [rA (varA 3), rA zA]).trans (by rw [List.map_append]; rfl)) | (rw [hR]; show _ = dR ((s.2.ks ++ [_]).map rE); rw [List.map_append, rE_one, ← dR_app]; rfl) | (rw [hR]; show _ = dR ((s.2.ks ++ [_]).map rE); rw [List.eq_nil_of_length_eq_zero h0, List.nil_append, rE_one]; rfl) | (rw [hR]; done) | (rw [hR]; rfl) | (rw [hR]; simp [dR]; done) | (rw [hR]; simp [dR]; rfl) | (rw [hR]; rw [dR_app]; simp; done) | (rw [hR]; simp [setK, setN]; rfl)) (by first | (rw [hR]; show _ = ((s.2.ks ++ [_]).map rE).length; rw [List.length_map, List.length_append]; first | rfl | (rw [h0]; rfl)) | (rw [hR]; rfl) | (rw [hR]; simp; done) | (rw [hR]; simp; rfl) | (rw [hR]; simp [setK, setN, addK, Ex.ks]; done)) (by first | omega | (simp; done) | (simp; omega))) (.cons (.dt (by first | rfl | (rw [hR]; done) | (rw [hR]; rfl))) (.cons (.dt (by first | rfl | (rw [hR]; done) | (rw [hR]; rfl))) (.cons (.dt (by first | rfl | (rw [hR]; done) | (rw [hR]; rfl))) (.cons (.dt (by first | rfl | (rw [hR]; done) | (rw [hR]; rfl))) (.cons (.dt (by first | rfl | (rw [hR]; done) | (rw [hR]; rfl))) (.cons (.dt (by first | rfl | (rw [hR]; done) | (rw [hR]; rfl))) (.cons (.fz rfl (by first | (rw [hR]; exact (dR_app _ [rA (varA 3), rA zA]).trans (by rw [List.map_append]; rfl)) | (rw [hR]; show _ = dR ((s.2.ks ++ [_]).map rE); rw [List.map_append, rE_one, ← dR_app]; rfl) | (rw [hR]; show _ = dR ((s.2.ks ++ [_]).map rE); rw [List.eq_nil_of_length_eq_zero h0, List.nil_append, rE_one]; rfl) | (rw [hR]; done) | (rw [hR]; rfl) | (rw [hR]; simp [dR]; done) | (rw [hR]; simp [dR]; rfl) | (rw [hR]; rw [dR_app]; simp; done) | (rw [hR]; simp [setK, setN]; rfl)) (by first | (rw [hR]; show _ = ((s.2.ks ++ [_]).map rE).length; rw [List.length_map, List.length_append]; first | rfl | (rw [h0]; rfl)) | (rw [hR]; rfl) | (rw [hR]; simp; done) | (rw [hR]; simp; rfl) | (rw [hR]; simp [setK, setN, addK, Ex.ks]; done)) (by first | omega | (simp; done) | (simp; omega))) Ctos.nil))))))))) .nil), trivial⟩) rfl ?_ (hbR_box rfl)
    rfl
  · skip
    refine ACode.seq ?_
    refine ACode.region ?_
    refine .cons (.eq rfl rfl rfl) ?_
    refine .cons (.asg rfl rfl) ?_
    refine .nil ?_
    refine ks_n ?_
    refine .cD rfl (fun h17 => ?_) (fun h17 => ?_)
    · skip
      refine ACode.drawK (by kernel_rfl) (by kernel_rfl) ?_
      refine .cons (.fB 0 1 true rfl rfl rfl) ?_
      refine .cons (.fB 1 0 false rfl rfl rfl) ?_
      refine .cons (.b1 1 rfl rfl rfl rfl rfl rfl) ?_
      refine .cons (.cP [.const (.int .i64 (3))] rfl rfl rfl rfl (l1Var_fn 3 (by omega)) rfl) ?_
      refine .cons (.cP [] rfl rfl rfl rfl (l1Zero_fn) rfl) ?_
      refine .cons (.li 28 1 1 [.tmp 22, .tmp 23] rfl rfl rfl rfl rfl rfl) ?_
      refine .cons (St1.appB (k' := 125) (e := 28) (sz := 1) (by' := 32) rfl rfl rfl rfl rfl (by kernel_rfl) rfl rfl rfl rfl (by simp [dR]) (by simp [dR]; omega) rfl rfl rfl) ?_
      refine .cons (.fB 0 1 true rfl rfl rfl) ?_
      refine .cons (.fB 1 0 false rfl rfl rfl) ?_
      refine .cons (.sT 1 false rfl rfl rfl rfl rfl rfl rfl) ?_
      refine .nil ⟨by kernel_rfl, ?_⟩
      refine kb_n ?_
      refine ks_n ?_
      refine ACode.seq ?_
      refine ACode.region ?_
      refine .cons (.bN 9 rfl rfl rfl rfl rfl rfl) ?_
      refine .cons (.sT 9 true rfl rfl rfl rfl rfl rfl rfl) ?_
      refine .nil ?_
      refine ks_n ?_
      refine ACode.ret ?_
      first | rw [if_pos h10] at hR | rw [if_neg h10, if_pos h17] at hR | rw [if_neg h10, if_neg h17, if_pos h28] at hR | rw [if_neg h10, if_neg h17, if_neg h28, if_pos h35] at hR | rw [if_neg h10, if_neg h17, if_neg h28, if_neg h35, if_pos h42] at hR | rw [if_neg h10, if_neg h17, if_neg h28, if_neg h35, if_neg h42] at hR
      refine kf_wret [(.t 4, .v (.o (.c (.box 100 9 0 0)))), (.b 0, .b 113 2 (dR ([rRd bs r.2]))), (.u 0, .u), (.b 100, .b 33 9 [[.d (dS r.1.1.1), .d (dAs r.1.1.2), .d (dI r.1.2.k), .d (dI r.1.2.n), .d (dIs r.1.2.i.1), .d (dI r.1.2.i.2), .d (dS r.1.2.r.1), .d (dAs r.1.2.r.2), .d (dEs r.1.2.ks)]]), (.u 100, .u)] (Wk.keep [(0, 0), (100, 104)] rfl rfl ⟨ks rfl (.c .bx), kb 0 rfl (.dt rfl (by first | rfl | (rw [hR]; done) | (rw [hR]; rfl))), kb 104 rfl (.cons (.cons (.dt (by first | rfl | (rw [hR]; done) | (rw [hR]; rfl))) (.cons (.fz rfl (by first | (rw [hR]; exact (dR_app _ [rA (varA 3), rA zA]).trans (by rw [List.map_append]; rfl)) | (rw [hR]; show _ = dR ((s.2.ks ++ [_]).map rE); rw [List.map_append, rE_one, ← dR_app]; rfl) | (rw [hR]; show _ = dR ((s.2.ks ++ [_]).map rE); rw [List.eq_nil_of_length_eq_zero h0, List.nil_append, rE_one]; rfl) | (rw [hR]; done) | (rw [hR]; rfl) | (rw [hR]; simp [dR]; done) | (rw [hR]; simp [dR]; rfl) | (rw [hR]; rw [dR_app]; simp; done) | (rw [hR]; simp [setK, setN]; rfl)) (by first | (rw [hR]; show _ = ((s.2.ks ++ [_]).map rE).length; rw [List.length_map, List.length_append]; first | rfl | (rw [h0]; rfl)) | (rw [hR]; rfl) | (rw [hR]; simp; done) | (rw [hR]; simp; rfl) | (rw [hR]; simp [setK, setN, addK, Ex.ks]; done)) (by first | omega | (simp; done) | (simp; omega))) (.cons (.dt (by first | rfl | (rw [hR]; done) | (rw [hR]; rfl))) (.cons (.dt (by first | rfl | (rw [hR]; done) | (rw [hR]; rfl))) (.cons (.dt (by first | rfl | (rw [hR]; done) | (rw [hR]; rfl))) (.cons (.dt (by first | rfl | (rw [hR]; done) | (rw [hR]; rfl))) (.cons (.dt (by first | rfl | (rw [hR]; done) | (rw [hR]; rfl))) (.cons (.dt (by first | rfl | (rw [hR]; done) | (rw [hR]; rfl))) (.cons (.fz rfl (by first | (rw [hR]; exact (dR_app _ [rA (varA 3), rA zA]).trans (by rw [List.map_append]; rfl)) | (rw [hR]; show _ = dR ((s.2.ks ++ [_]).map rE); rw [List.map_append, rE_one, ← dR_app]; rfl) | (rw [hR]; show _ = dR ((s.2.ks ++ [_]).map rE); rw [List.eq_nil_of_length_eq_zero h0, List.nil_append, rE_one]; rfl) | (rw [hR]; done) | (rw [hR]; rfl) | (rw [hR]; simp [dR]; done) | (rw [hR]; simp [dR]; rfl) | (rw [hR]; rw [dR_app]; simp; done) | (rw [hR]; simp [setK, setN]; rfl)) (by first | (rw [hR]; show _ = ((s.2.ks ++ [_]).map rE).length; rw [List.length_map, List.length_append]; first | rfl | (rw [h0]; rfl)) | (rw [hR]; rfl) | (rw [hR]; simp; done) | (rw [hR]; simp; rfl) | (rw [hR]; simp [setK, setN, addK, Ex.ks]; done)) (by first | omega | (simp; done) | (simp; omega))) Ctos.nil))))))))) .nil), trivial⟩) rfl ?_ (hbR_box rfl)
      rfl
    · skip
      refine ACode.seq ?_
      refine ACode.region ?_
      refine .cons (.eq rfl rfl rfl) ?_
      refine .cons (.asg rfl rfl) ?_
      refine .nil ?_
      refine ks_n ?_
      refine .cD rfl (fun h28 => ?_) (fun h28 => ?_)
      · skip
        refine ACode.region ?_
        refine .cons (.mv rfl rfl) ?_
        refine .cons (.li 3 0 4 [.const (.int .i64 (0)), .const (.int .i64 (7)), .const (.int .i64 (1)), .const (.int .i64 (4)), .const (.int .i64 (2))] rfl rfl rfl rfl rfl rfl) ?_
        refine .cons (.cR [.tmp 30, .tmp 31] 0 rfl rfl rfl rfl (num_fn hb (by omega) [0, 7, 1, 4, 2] (by simp)) rfl ⟨rfl, trivial⟩) ?_
        refine .cons (.fB 2 6 true rfl rfl rfl) ?_
        refine .cons (.fB 0 0 false rfl rfl rfl) ?_
        refine .cons (.sT 1 false rfl rfl rfl rfl rfl rfl rfl) ?_
        refine .nil ?_
        refine kb_n ?_
        refine ks_n ?_
        refine ACode.seq ?_
        refine ACode.region ?_
        refine .cons (.bN 9 rfl rfl rfl rfl rfl rfl) ?_
        refine .cons (.sT 9 true rfl rfl rfl rfl rfl rfl rfl) ?_
        refine .nil ?_
        refine ks_n ?_
        refine ACode.ret ?_
        first | rw [if_pos h10] at hR | rw [if_neg h10, if_pos h17] at hR | rw [if_neg h10, if_neg h17, if_pos h28] at hR | rw [if_neg h10, if_neg h17, if_neg h28, if_pos h35] at hR | rw [if_neg h10, if_neg h17, if_neg h28, if_neg h35, if_pos h42] at hR | rw [if_neg h10, if_neg h17, if_neg h28, if_neg h35, if_neg h42] at hR
        refine kf_wret [(.t 4, .v (.o (.c (.box 100 9 0 0)))), (.b 0, .b 113 2 (dR ([rRd bs r.2]))), (.u 0, .u), (.b 100, .b 33 9 [[.d (dS r.1.1.1), .d (dAs r.1.1.2), .d (dI r.1.2.k), .d (dI r.1.2.n), .d (dIs r.1.2.i.1), .d (dI r.1.2.i.2), .d (dS r.1.2.r.1), .d (dAs r.1.2.r.2), .d (dEs r.1.2.ks)]]), (.u 100, .u)] (Wk.keep [(0, 0), (100, 104)] rfl rfl ⟨ks rfl (.c .bx), kb 0 rfl (.dt rfl (by first | rfl | (rw [hR]; done) | (rw [hR]; rfl))), kb 104 rfl (.cons (.cons (.dt (by first | rfl | (rw [hR]; done) | (rw [hR]; rfl))) (.cons (.fz rfl (by first | (rw [hR]; exact (dR_app _ [rA (varA 3), rA zA]).trans (by rw [List.map_append]; rfl)) | (rw [hR]; show _ = dR ((s.2.ks ++ [_]).map rE); rw [List.map_append, rE_one, ← dR_app]; rfl) | (rw [hR]; show _ = dR ((s.2.ks ++ [_]).map rE); rw [List.eq_nil_of_length_eq_zero h0, List.nil_append, rE_one]; rfl) | (rw [hR]; done) | (rw [hR]; rfl) | (rw [hR]; simp [dR]; done) | (rw [hR]; simp [dR]; rfl) | (rw [hR]; rw [dR_app]; simp; done) | (rw [hR]; simp [setK, setN]; rfl)) (by first | (rw [hR]; show _ = ((s.2.ks ++ [_]).map rE).length; rw [List.length_map, List.length_append]; first | rfl | (rw [h0]; rfl)) | (rw [hR]; rfl) | (rw [hR]; simp; done) | (rw [hR]; simp; rfl) | (rw [hR]; simp [setK, setN, addK, Ex.ks]; done)) (by first | omega | (simp; done) | (simp; omega))) (.cons (.dt (by first | rfl | (rw [hR]; done) | (rw [hR]; rfl))) (.cons (.dt (by first | rfl | (rw [hR]; done) | (rw [hR]; rfl))) (.cons (.dt (by first | rfl | (rw [hR]; done) | (rw [hR]; rfl))) (.cons (.dt (by first | rfl | (rw [hR]; done) | (rw [hR]; rfl))) (.cons (.dt (by first | rfl | (rw [hR]; done) | (rw [hR]; rfl))) (.cons (.dt (by first | rfl | (rw [hR]; done) | (rw [hR]; rfl))) (.cons (.fz rfl (by first | (rw [hR]; exact (dR_app _ [rA (varA 3), rA zA]).trans (by rw [List.map_append]; rfl)) | (rw [hR]; show _ = dR ((s.2.ks ++ [_]).map rE); rw [List.map_append, rE_one, ← dR_app]; rfl) | (rw [hR]; show _ = dR ((s.2.ks ++ [_]).map rE); rw [List.eq_nil_of_length_eq_zero h0, List.nil_append, rE_one]; rfl) | (rw [hR]; done) | (rw [hR]; rfl) | (rw [hR]; simp [dR]; done) | (rw [hR]; simp [dR]; rfl) | (rw [hR]; rw [dR_app]; simp; done) | (rw [hR]; simp [setK, setN]; rfl)) (by first | (rw [hR]; show _ = ((s.2.ks ++ [_]).map rE).length; rw [List.length_map, List.length_append]; first | rfl | (rw [h0]; rfl)) | (rw [hR]; rfl) | (rw [hR]; simp; done) | (rw [hR]; simp; rfl) | (rw [hR]; simp [setK, setN, addK, Ex.ks]; done)) (by first | omega | (simp; done) | (simp; omega))) Ctos.nil))))))))) .nil), trivial⟩) rfl ?_ (hbR_box rfl)
        rfl
      · skip
        refine ACode.seq ?_
        refine ACode.region ?_
        refine .cons (.eq rfl rfl rfl) ?_
        refine .cons (.asg rfl rfl) ?_
        refine .nil ?_
        refine ks_n ?_
        refine .cD rfl (fun h35 => ?_) (fun h35 => ?_)
        · skip
          refine ACode.region ?_
          refine .cons (.mv rfl rfl) ?_
          refine .cons (.li 3 0 2 [.const (.int .i64 (100)), .const (.int .i64 (-1)), .const (.int .i64 (1))] rfl rfl rfl rfl rfl rfl) ?_
          refine .cons (.cR [.tmp 37, .tmp 38] 0 rfl rfl rfl rfl (num_fn hb (by omega) [100, -1, 1] (by simp)) rfl ⟨rfl, trivial⟩) ?_
          refine .cons (.fB 2 6 true rfl rfl rfl) ?_
          refine .cons (.fB 1 0 false rfl rfl rfl) ?_
          refine .cons (.sT 1 false rfl rfl rfl rfl rfl rfl rfl) ?_
          refine .nil ?_
          refine kb_n ?_
          refine ks_n ?_
          refine ACode.seq ?_
          refine ACode.region ?_
          refine .cons (.bN 9 rfl rfl rfl rfl rfl rfl) ?_
          refine .cons (.sT 9 true rfl rfl rfl rfl rfl rfl rfl) ?_
          refine .nil ?_
          refine ks_n ?_
          refine ACode.ret ?_
          first | rw [if_pos h10] at hR | rw [if_neg h10, if_pos h17] at hR | rw [if_neg h10, if_neg h17, if_pos h28] at hR | rw [if_neg h10, if_neg h17, if_neg h28, if_pos h35] at hR | rw [if_neg h10, if_neg h17, if_neg h28, if_neg h35, if_pos h42] at hR | rw [if_neg h10, if_neg h17, if_neg h28, if_neg h35, if_neg h42] at hR
          refine kf_wret [(.t 4, .v (.o (.c (.box 100 9 0 0)))), (.b 0, .b 113 2 (dR ([rRd bs r.2]))), (.u 0, .u), (.b 100, .b 33 9 [[.d (dS r.1.1.1), .d (dAs r.1.1.2), .d (dI r.1.2.k), .d (dI r.1.2.n), .d (dIs r.1.2.i.1), .d (dI r.1.2.i.2), .d (dS r.1.2.r.1), .d (dAs r.1.2.r.2), .d (dEs r.1.2.ks)]]), (.u 100, .u)] (Wk.keep [(0, 0), (100, 104)] rfl rfl ⟨ks rfl (.c .bx), kb 0 rfl (.dt rfl (by first | rfl | (rw [hR]; done) | (rw [hR]; rfl))), kb 104 rfl (.cons (.cons (.dt (by first | rfl | (rw [hR]; done) | (rw [hR]; rfl))) (.cons (.fz rfl (by first | (rw [hR]; exact (dR_app _ [rA (varA 3), rA zA]).trans (by rw [List.map_append]; rfl)) | (rw [hR]; show _ = dR ((s.2.ks ++ [_]).map rE); rw [List.map_append, rE_one, ← dR_app]; rfl) | (rw [hR]; show _ = dR ((s.2.ks ++ [_]).map rE); rw [List.eq_nil_of_length_eq_zero h0, List.nil_append, rE_one]; rfl) | (rw [hR]; done) | (rw [hR]; rfl) | (rw [hR]; simp [dR]; done) | (rw [hR]; simp [dR]; rfl) | (rw [hR]; rw [dR_app]; simp; done) | (rw [hR]; simp [setK, setN]; rfl)) (by first | (rw [hR]; show _ = ((s.2.ks ++ [_]).map rE).length; rw [List.length_map, List.length_append]; first | rfl | (rw [h0]; rfl)) | (rw [hR]; rfl) | (rw [hR]; simp; done) | (rw [hR]; simp; rfl) | (rw [hR]; simp [setK, setN, addK, Ex.ks]; done)) (by first | omega | (simp; done) | (simp; omega))) (.cons (.dt (by first | rfl | (rw [hR]; done) | (rw [hR]; rfl))) (.cons (.dt (by first | rfl | (rw [hR]; done) | (rw [hR]; rfl))) (.cons (.dt (by first | rfl | (rw [hR]; done) | (rw [hR]; rfl))) (.cons (.dt (by first | rfl | (rw [hR]; done) | (rw [hR]; rfl))) (.cons (.dt (by first | rfl | (rw [hR]; done) | (rw [hR]; rfl))) (.cons (.dt (by first | rfl | (rw [hR]; done) | (rw [hR]; rfl))) (.cons (.fz rfl (by first | (rw [hR]; exact (dR_app _ [rA (varA 3), rA zA]).trans (by rw [List.map_append]; rfl)) | (rw [hR]; show _ = dR ((s.2.ks ++ [_]).map rE); rw [List.map_append, rE_one, ← dR_app]; rfl) | (rw [hR]; show _ = dR ((s.2.ks ++ [_]).map rE); rw [List.eq_nil_of_length_eq_zero h0, List.nil_append, rE_one]; rfl) | (rw [hR]; done) | (rw [hR]; rfl) | (rw [hR]; simp [dR]; done) | (rw [hR]; simp [dR]; rfl) | (rw [hR]; rw [dR_app]; simp; done) | (rw [hR]; simp [setK, setN]; rfl)) (by first | (rw [hR]; show _ = ((s.2.ks ++ [_]).map rE).length; rw [List.length_map, List.length_append]; first | rfl | (rw [h0]; rfl)) | (rw [hR]; rfl) | (rw [hR]; simp; done) | (rw [hR]; simp; rfl) | (rw [hR]; simp [setK, setN, addK, Ex.ks]; done)) (by first | omega | (simp; done) | (simp; omega))) Ctos.nil))))))))) .nil), trivial⟩) rfl ?_ (hbR_box rfl)
          rfl
        · skip
          refine ACode.seq ?_
          refine ACode.region ?_
          refine .cons (.eq rfl rfl rfl) ?_
          refine .cons (.asg rfl rfl) ?_
          refine .nil ?_
          refine ks_n ?_
          refine .cD rfl (fun h42 => ?_) (fun h42 => ?_)
          · skip
            refine ACode.region ?_
            refine .cons (.fB 2 6 true rfl rfl rfl) ?_
            refine .cons (.fB 6 0 false rfl rfl rfl) ?_
            refine .cons (.b1 1 rfl rfl rfl rfl rfl rfl) ?_
            refine .cons (.buZ [(0, .const (.int .i64 (1)))] [(0, 1), (1, 1), (2, 2), (4, 2), (6, 1)] [.int .i64 0, .int .i64 0, .slice none 0 0, .int .i64 0, .string ByteArray.empty, .slice none 0 0, .slice none 0 0] [dI 0, dI 0, .list 1 [], dI 0, dS ByteArray.empty, .list 2 [], .list 7 []] rfl rfl (.val rfl (.val rfl (.list _ (.val rfl (.val rfl (.list _ (.list _ ZR.nil))))))) rfl rfl) ?_
            refine .cons (.li 31 6 0 [.tmp 47] rfl rfl rfl rfl rfl rfl) ?_
            refine .cons (St1.appB (k' := 149) (e := 31) (sz := 6) (by' := 112) rfl rfl rfl rfl rfl (by kernel_rfl) rfl rfl rfl rfl (by simp [dR]) (by simp [dR]; omega) rfl rfl rfl) ?_
            refine .cons (.fB 2 6 true rfl rfl rfl) ?_
            refine .cons (.fB 6 0 false rfl rfl rfl) ?_
            refine .cons (.sT 1 false rfl rfl rfl rfl rfl rfl rfl) ?_
            refine .nil ?_
            refine kb_n ?_
            refine ks_n ?_
            refine ACode.seq ?_
            refine ACode.region ?_
            refine .cons (.bN 9 rfl rfl rfl rfl rfl rfl) ?_
            refine .cons (.sT 9 true rfl rfl rfl rfl rfl rfl rfl) ?_
            refine .nil ?_
            refine ks_n ?_
            refine ACode.ret ?_
            first | rw [if_pos h10] at hR | rw [if_neg h10, if_pos h17] at hR | rw [if_neg h10, if_neg h17, if_pos h28] at hR | rw [if_neg h10, if_neg h17, if_neg h28, if_pos h35] at hR | rw [if_neg h10, if_neg h17, if_neg h28, if_neg h35, if_pos h42] at hR | rw [if_neg h10, if_neg h17, if_neg h28, if_neg h35, if_neg h42] at hR
            refine kf_wret [(.t 4, .v (.o (.c (.box 100 9 0 0)))), (.b 0, .b 113 2 (dR ([rRd bs r.2]))), (.u 0, .u), (.b 100, .b 33 9 [[.d (dS r.1.1.1), .d (dAs r.1.1.2), .d (dI r.1.2.k), .d (dI r.1.2.n), .d (dIs r.1.2.i.1), .d (dI r.1.2.i.2), .d (dS r.1.2.r.1), .d (dAs r.1.2.r.2), .d (dEs r.1.2.ks)]]), (.u 100, .u)] (Wk.keep [(0, 0), (100, 104)] rfl rfl ⟨ks rfl (.c .bx), kb 0 rfl (.dt rfl (by first | rfl | (rw [hR]; done) | (rw [hR]; rfl))), kb 104 rfl (.cons (.cons (.dt (by first | rfl | (rw [hR]; done) | (rw [hR]; rfl))) (.cons (.fz rfl (by first | (rw [hR]; exact (dR_app _ [rA (varA 3), rA zA]).trans (by rw [List.map_append]; rfl)) | (rw [hR]; show _ = dR ((s.2.ks ++ [_]).map rE); rw [List.map_append, rE_one, ← dR_app]; rfl) | (rw [hR]; show _ = dR ((s.2.ks ++ [_]).map rE); rw [List.eq_nil_of_length_eq_zero h0, List.nil_append, rE_one]; rfl) | (rw [hR]; done) | (rw [hR]; rfl) | (rw [hR]; simp [dR]; done) | (rw [hR]; simp [dR]; rfl) | (rw [hR]; rw [dR_app]; simp; done) | (rw [hR]; simp [setK, setN]; rfl)) (by first | (rw [hR]; show _ = ((s.2.ks ++ [_]).map rE).length; rw [List.length_map, List.length_append]; first | rfl | (rw [h0]; rfl)) | (rw [hR]; rfl) | (rw [hR]; simp; done) | (rw [hR]; simp; rfl) | (rw [hR]; simp [setK, setN, addK, Ex.ks]; done)) (by first | omega | (simp; done) | (simp; omega))) (.cons (.dt (by first | rfl | (rw [hR]; done) | (rw [hR]; rfl))) (.cons (.dt (by first | rfl | (rw [hR]; done) | (rw [hR]; rfl))) (.cons (.dt (by first | rfl | (rw [hR]; done) | (rw [hR]; rfl))) (.cons (.dt (by first | rfl | (rw [hR]; done) | (rw [hR]; rfl))) (.cons (.dt (by first | rfl | (rw [hR]; done) | (rw [hR]; rfl))) (.cons (.dt (by first | rfl | (rw [hR]; done) | (rw [hR]; rfl))) (.cons (.fz rfl (by first | (rw [hR]; exact (dR_app _ [rA (varA 3), rA zA]).trans (by rw [List.map_append]; rfl)) | (rw [hR]; show _ = dR ((s.2.ks ++ [_]).map rE); rw [List.map_append, rE_one, ← dR_app]; rfl) | (rw [hR]; show _ = dR ((s.2.ks ++ [_]).map rE); rw [List.eq_nil_of_length_eq_zero h0, List.nil_append, rE_one]; rfl) | (rw [hR]; done) | (rw [hR]; rfl) | (rw [hR]; simp [dR]; done) | (rw [hR]; simp [dR]; rfl) | (rw [hR]; rw [dR_app]; simp; done) | (rw [hR]; simp [setK, setN]; rfl)) (by first | (rw [hR]; show _ = ((s.2.ks ++ [_]).map rE).length; rw [List.length_map, List.length_append]; first | rfl | (rw [h0]; rfl)) | (rw [hR]; rfl) | (rw [hR]; simp; done) | (rw [hR]; simp; rfl) | (rw [hR]; simp [setK, setN, addK, Ex.ks]; done)) (by first | omega | (simp; done) | (simp; omega))) Ctos.nil))))))))) .nil), trivial⟩) rfl ?_ (hbR_box rfl)
            rfl
          · skip
            refine ACode.skip ?_
            refine kb_n ?_
            refine ks_n ?_
            refine ACode.seq ?_
            refine ACode.region ?_
            refine .cons (.bN 9 rfl rfl rfl rfl rfl rfl) ?_
            refine .cons (.sT 9 true rfl rfl rfl rfl rfl rfl rfl) ?_
            refine .nil ?_
            refine ks_n ?_
            refine ACode.ret ?_
            first | rw [if_pos h10] at hR | rw [if_neg h10, if_pos h17] at hR | rw [if_neg h10, if_neg h17, if_pos h28] at hR | rw [if_neg h10, if_neg h17, if_neg h28, if_pos h35] at hR | rw [if_neg h10, if_neg h17, if_neg h28, if_neg h35, if_pos h42] at hR | rw [if_neg h10, if_neg h17, if_neg h28, if_neg h35, if_neg h42] at hR
            refine kf_wret [(.t 4, .v (.o (.c (.box 100 9 0 0)))), (.b 0, .b 113 2 (dR ([rRd bs r.2]))), (.u 0, .u), (.b 100, .b 33 9 [[.d (dS r.1.1.1), .d (dAs r.1.1.2), .d (dI r.1.2.k), .d (dI r.1.2.n), .d (dIs r.1.2.i.1), .d (dI r.1.2.i.2), .d (dS r.1.2.r.1), .d (dAs r.1.2.r.2), .d (dEs r.1.2.ks)]]), (.u 100, .u)] (Wk.keep [(0, 0), (100, 104)] rfl rfl ⟨ks rfl (.c .bx), kb 0 rfl (.dt rfl (by first | rfl | (rw [hR]; done) | (rw [hR]; rfl))), kb 104 rfl (.cons (.cons (.dt (by first | rfl | (rw [hR]; done) | (rw [hR]; rfl))) (.cons (.fz rfl (by first | (rw [hR]; exact (dR_app _ [rA (varA 3), rA zA]).trans (by rw [List.map_append]; rfl)) | (rw [hR]; show _ = dR ((s.2.ks ++ [_]).map rE); rw [List.map_append, rE_one, ← dR_app]; rfl) | (rw [hR]; show _ = dR ((s.2.ks ++ [_]).map rE); rw [List.eq_nil_of_length_eq_zero h0, List.nil_append, rE_one]; rfl) | (rw [hR]; done) | (rw [hR]; rfl) | (rw [hR]; simp [dR]; done) | (rw [hR]; simp [dR]; rfl) | (rw [hR]; rw [dR_app]; simp; done) | (rw [hR]; simp [setK, setN]; rfl)) (by first | (rw [hR]; show _ = ((s.2.ks ++ [_]).map rE).length; rw [List.length_map, List.length_append]; first | rfl | (rw [h0]; rfl)) | (rw [hR]; rfl) | (rw [hR]; simp; done) | (rw [hR]; simp; rfl) | (rw [hR]; simp [setK, setN, addK, Ex.ks]; done)) (by first | omega | (simp; done) | (simp; omega))) (.cons (.dt (by first | rfl | (rw [hR]; done) | (rw [hR]; rfl))) (.cons (.dt (by first | rfl | (rw [hR]; done) | (rw [hR]; rfl))) (.cons (.dt (by first | rfl | (rw [hR]; done) | (rw [hR]; rfl))) (.cons (.dt (by first | rfl | (rw [hR]; done) | (rw [hR]; rfl))) (.cons (.dt (by first | rfl | (rw [hR]; done) | (rw [hR]; rfl))) (.cons (.dt (by first | rfl | (rw [hR]; done) | (rw [hR]; rfl))) (.cons (.fz rfl (by first | (rw [hR]; exact (dR_app _ [rA (varA 3), rA zA]).trans (by rw [List.map_append]; rfl)) | (rw [hR]; show _ = dR ((s.2.ks ++ [_]).map rE); rw [List.map_append, rE_one, ← dR_app]; rfl) | (rw [hR]; show _ = dR ((s.2.ks ++ [_]).map rE); rw [List.eq_nil_of_length_eq_zero h0, List.nil_append, rE_one]; rfl) | (rw [hR]; done) | (rw [hR]; rfl) | (rw [hR]; simp [dR]; done) | (rw [hR]; simp [dR]; rfl) | (rw [hR]; rw [dR_app]; simp; done) | (rw [hR]; simp [setK, setN]; rfl)) (by first | (rw [hR]; show _ = ((s.2.ks ++ [_]).map rE).length; rw [List.length_map, List.length_append]; first | rfl | (rw [h0]; rfl)) | (rw [hR]; rfl) | (rw [hR]; simp; done) | (rw [hR]; simp; rfl) | (rw [hR]; simp [setK, setN, addK, Ex.ks]; done)) (by first | omega | (simp; done) | (simp; omega))) Ctos.nil))))))))) .nil), trivial⟩) rfl ?_ (hbR_box rfl)
            rfl

theorem l3Mutate_fn {bs : List Int} (hb : Bytes bs) {p : Nat} (hp : p ≤ 100000000) (s : Stm) (hs : szS s ≤ 1073741824) (h1 : 0 < s.1.2.length) : Fn Try.prog 49 (hbR bs p) [vR, ad (rS s)] (.o (ad (rS (mutD bs p s).1))) (hbR bs (mutD bs p s).2) := by
  by_cases h : s.2.ks.length = 0
  · exact mut_nil hb hp s hs h1 h
  · exact mut_own hb hp s hs h1 (by omega)

end Go.Proofs.Ytigdfdhjnadieaa

/- Statements: draws of the arguments of laws; condition: bytes. -/
namespace Go.Proofs.Ytigdfdhjnadieaa
set_option linter.unusedVariables false
set_option linter.unusedSimpArgs false
open Go.RowKit

theorem szA_mut (bs : List Int) (p : Nat) (s : Stm) : p ≤ (mutD bs p s).2 ∧ (mutD bs p s).2 ≤ p + 2 ∧ szS (mutD bs p s).1 ≤ szS s + 20 ∧ s.1.2.length ≤ (mutD bs p s).1.1.2.length := by
  have hE := szE_eq s.2
  have key : ∀ (a : List Ex) (x : Ex), szEs (a ++ [x]) = szEs a + szE x := by
    intro a x
    induction a with
    | nil => simp [szEs]
    | cons y a ih => rw [List.cons_append, szEs, szEs, ih]; omega
  unfold mutD
  split
  · refine ⟨by dsimp only; omega, by dsimp only; omega, ?_, Nat.le_refl _⟩
    have h := ofV_size bs (p + 1) [⟨#[69]⟩, ByteArray.empty, ⟨#[65, 66]⟩, ⟨#[97]⟩] (by decide)
    simp only [szS, szC]; omega
  · split
    · refine ⟨by dsimp only; omega, by dsimp only; omega, ?_, by simp⟩
      simp only [szS, szC, szAs, List.length_append, List.map_append, List.sum_append, List.length_cons, List.length_nil, List.map_cons, List.map_nil, List.sum_cons, List.sum_nil, varA, zA, List.length_set]; omega
    · split
      · refine ⟨by dsimp only; omega, by dsimp only; omega, ?_, Nat.le_refl _⟩
        simp only [szS, setK, szE_mk]; omega
      · split
        · refine ⟨by dsimp only; omega, by dsimp only; omega, ?_, Nat.le_refl _⟩
          simp only [szS, setN, szE_mk]; omega
        · split
          · refine ⟨by dsimp only; omega, by dsimp only; omega, ?_, Nat.le_refl _⟩
            have h0 : szC zC0 = 0 := by decide
            have h1 : zA0.1.length = 0 := rfl
            simp only [szS, addK, szE_mk, key, List.length_append, List.length_cons, List.length_nil, szEs, h0, h1]
            omega
          · exact ⟨by dsimp only; omega, by dsimp only; omega, by dsimp only; omega, Nat.le_refl _⟩
/-- A drawn statement with what the laws need of it. -/
theorem stm_ok {bs : List Int} (hb : Bytes bs) {d : Nat} (hd : d ≤ 4) {p : Nat} (hp : p ≤ 50000000) : ∃ (s : Stm) (q : Nat), p ≤ q ∧ q ≤ p + 300 ∧ szS s ≤ 300 ∧ 0 < s.1.2.length ∧ Fn Try.prog 50 (hbR bs p) [vR, nat1 (d : Nat)] (.o (ad (rS s))) (hbR bs q) := by
  obtain ⟨h1, h2, h3, h4⟩ := stmD_bd hb hd p (by omega)
  exact ⟨_, _, h1, by omega, by omega, h4, l3Stmt_fn hb (by omega) d hd⟩
theorem mut_ok {bs : List Int} (hb : Bytes bs) {p : Nat} (hp : p ≤ 100000000) {s : Stm} {m : Nat} (hs : szS s ≤ m) (hm : m ≤ 1000000) (h1 : 0 < s.1.2.length) : ∃ (t : Stm) (q : Nat), p ≤ q ∧ q ≤ p + 2 ∧ szS t ≤ m + 20 ∧ 0 < t.1.2.length ∧ Fn Try.prog 49 (hbR bs p) [vR, ad (rS s)] (.o (ad (rS t))) (hbR bs q) := by
  obtain ⟨a1, a2, a3, a4⟩ := szA_mut bs p s
  exact ⟨_, _, a1, a2, by omega, by omega, l3Mutate_fn hb hp s (by omega) h1⟩
set_option maxRecDepth 100000 in
set_option maxHeartbeats 1600000 in
theorem drawPt_core {bs : List Int} (hb : Bytes (bs.take 2000)) {s t : Stm} {q q2 : Nat} (hF : Fn Try.prog 50 (hbR (bs.take 2000) 0) [vR, nat1 2] (.o (ad (rS s))) (hbR (bs.take 2000) q)) (hM : Fn Try.prog 49 (hbR (bs.take 2000) q) [vR, ad (rS s)] (.o (ad (rS t))) (hbR (bs.take 2000) q2)) (hq : q2 ≤ 1000000) : Fn Try.prog 36 [] [vD (dYs bs)] (.tup [ad (rS t), vD (dIs (if pickV (bs.take 2000) (q2 + 1 + 1) 12 = 0 then [numV (bs.take 2000) q2 [0, 1, 2, 3, -1, 99], numV (bs.take 2000) (q2 + 1) [0, 1, 2, 4, 100]].take 1 else [numV (bs.take 2000) q2 [0, 1, 2, 3, -1, 99], numV (bs.take 2000) (q2 + 1) [0, 1, 2, 4, 100]]))]) [] := by
  refine Fn.code0 Try.func36 rfl rfl rfl rfl ?_
  refine ACode.seq ?_
  refine ACode.region ?_
  refine .cons (.al 102 [.string ByteArray.empty, .slice none 0 0, .int .i64 0, .int .i64 0, .slice none 0 0, .int .i64 0, .string ByteArray.empty, .slice none 0 0, .slice none 0 0] rfl rfl rfl) ?_
  refine .cons (.asg rfl rfl) ?_
  refine .nil ?_
  refine ks_n ?_
  refine ACode.seq ?_
  refine ACode.region ?_
  refine .cons (.mv rfl rfl) ?_
  refine .cons (.cO [.tmp 7] [(100, 108)] rfl rfl rfl rfl (l16Open_fn bs) rfl trivial flatS.nil (flatS.nil.cons rfl) HB.nil.data outS_one) ?_
  refine .cons (.asg rfl rfl) ?_
  refine .nil ?_
  refine ks_n ?_
  refine ACode.seq ?_
  refine ACode.region ?_
  refine .cons (.mv rfl rfl) ?_
  refine .cons (.mv rfl rfl) ?_
  refine .cons (.cR [.tmp 10, .const (.int .i64 (2))] 108 rfl rfl rfl rfl (hF) rfl ⟨rfl, trivial⟩) ?_
  refine .cons (.cR [.tmp 9, .tmp 11] 108 rfl rfl rfl rfl (hM) rfl ⟨rfl, trivial⟩) ?_
  refine .cons (.al 105 [.string ByteArray.empty, .slice none 0 0, .int .i64 0, .int .i64 0, .slice none 0 0, .int .i64 0, .string ByteArray.empty, .slice none 0 0, .slice none 0 0] rfl rfl rfl) ?_
  refine .cons (.sT 9 true rfl rfl rfl rfl rfl rfl rfl) ?_
  refine .nil ?_
  refine ks_n ?_
  refine ACode.seq ?_
  refine ACode.region ?_
  refine .cons (.mv rfl rfl) ?_
  refine .cons (.li 3 0 5 [.const (.int .i64 (0)), .const (.int .i64 (1)), .const (.int .i64 (2)), .const (.int .i64 (3)), .const (.int .i64 (-1)), .const (.int .i64 (99))] rfl rfl rfl rfl rfl rfl) ?_
  refine .cons (.cR [.tmp 13, .tmp 14] 108 rfl rfl rfl rfl (num_fn hb (by omega) [0, 1, 2, 3, -1, 99] (by simp)) rfl ⟨rfl, trivial⟩) ?_
  refine .cons (.mv rfl rfl) ?_
  refine .cons (.li 3 0 4 [.const (.int .i64 (0)), .const (.int .i64 (1)), .const (.int .i64 (2)), .const (.int .i64 (4)), .const (.int .i64 (100))] rfl rfl rfl rfl rfl rfl) ?_
  refine .cons (.cR [.tmp 16, .tmp 17] 108 rfl rfl rfl rfl (num_fn hb (by omega) [0, 1, 2, 4, 100] (by simp)) rfl ⟨rfl, trivial⟩) ?_
  refine .cons (.li 3 0 1 [.tmp 15, .tmp 18] rfl rfl rfl rfl rfl rfl) ?_
  refine .cons (.asg rfl rfl) ?_
  refine .nil ?_
  refine ks_n ?_
  refine ACode.seq ?_
  refine ACode.seq ?_
  refine ACode.region ?_
  refine .cons (.mv rfl rfl) ?_
  refine .cons (.cR [.tmp 20, .const (.int .i64 (12))] 108 rfl rfl rfl rfl (pick_fn hb (by omega) 12) rfl ⟨rfl, trivial⟩) ?_
  refine .cons (.eq rfl rfl rfl) ?_
  refine .nil ?_
  refine ks_n ?_
  refine .cD rfl (fun h22 => ?_) (fun h22 => ?_)
  · skip
    refine ACode.seq ?_
    refine ACode.drawK (by kernel_rfl) (by kernel_rfl) ?_
    refine .cons (.bN 9 rfl rfl rfl rfl rfl rfl) ?_
    refine .cons (.mv rfl rfl) ?_
    refine .cons (St1.sliceTo (e := 3) (sz := 1) (by' := 8) (k := 1) rfl rfl rfl rfl (by kernel_rfl) rfl rfl rfl (by first | rfl | omega) (Nat.succ_le_succ (Nat.zero_le _))) ?_
    refine .cons (.sT 9 true rfl rfl rfl rfl rfl rfl rfl) ?_
    refine .cons (.asg rfl rfl) ?_
    refine .nil ⟨by kernel_rfl, ?_⟩
    refine ks_n ?_
    refine ACode.ret ?_
    refine ks_r ?_
    refine kf_ret rfl ?_ nobox
    rw [if_pos h22]; rfl
  · skip
    refine ACode.skip ?_
    refine ks_n ?_
    refine ACode.seq ?_
    refine ACode.region ?_
    refine .cons (.bN 9 rfl rfl rfl rfl rfl rfl) ?_
    refine .cons (.mv rfl rfl) ?_
    refine .cons (.sT 9 true rfl rfl rfl rfl rfl rfl rfl) ?_
    refine .cons (.asg rfl rfl) ?_
    refine .nil ?_
    refine ks_n ?_
    refine ACode.ret ?_
    refine kf_ret rfl ?_ nobox
    rw [if_neg h22]; rfl

theorem drawPt_fn {bs : List Int} (hb : Bytes (bs.take 2000)) : ∃ (t : Stm) (x : List Int), szS t ≤ 400 ∧ 0 < t.1.2.length ∧ x.length ≤ 2 ∧ (∀ n ∈ x, -1 ≤ n ∧ n ≤ 100) ∧ Fn Try.prog 36 [] [vD (dYs bs)] (.tup [ad (rS t), vD (dIs x)]) [] := by
  obtain ⟨s, q, h1, h2, h3, h4, hF⟩ := stm_ok hb (d := 2) (by omega) (p := 0) (by omega)
  obtain ⟨t, q2, g1, g2, g3, g4, hM⟩ := mut_ok hb (p := q) (by omega) h3 (by omega) h4
  have hm := numV_mem hb (p := q2) (by omega) (xs := [0, 1, 2, 3, -1, 99]) (by simp)
  have hm2 := numV_mem hb (p := q2 + 1) (by omega) (xs := [0, 1, 2, 4, 100]) (by simp)
  simp only [List.mem_cons, List.not_mem_nil, or_false] at hm hm2
  refine ⟨t, _, by omega, g4, ?_, ?_, drawPt_core hb hF hM (by omega)⟩
  · split <;> simp
  · intro n hn
    have : n = numV (bs.take 2000) q2 [0, 1, 2, 3, -1, 99] ∨ n = numV (bs.take 2000) (q2 + 1) [0, 1, 2, 4, 100] := by
      split at hn
      · simp at hn; exact .inl hn
      · simpa using hn
    rcases this with rfl | rfl <;> omega

end Go.Proofs.Ytigdfdhjnadieaa

/- Replacements over wider numbers; condition: small lists. -/
namespace Go.Proofs.Ytigdfdhjnadieaa
set_option linter.unusedVariables false
set_option linter.unusedSimpArgs false
open Go.RowKit

/-- An affine expression of middling numbers. -/
def affW (x : Aff) : Prop := x.1.length = 4 ∧ (∀ i, -99 ≤ x.1.getD i 0 ∧ x.1.getD i 0 ≤ 99) ∧ -1000000 ≤ x.2 ∧ x.2 ≤ 1000000
theorem affW_1000 {x : Aff} (h : affW x) : x.1.length = 4 ∧ (-1000000 ≤ x.2 ∧ x.2 ≤ 1000000) ∧ ∀ i, -1000 ≤ x.1.getD i 0 ∧ x.1.getD i 0 ≤ 1000 := ⟨h.1, h.2.2, fun i => by have := h.2.1 i; omega⟩
theorem affW_set {x : Aff} (h : affW x) (v : Nat) : affW (x.1.set v 0, x.2) := by
  refine ⟨by rw [List.length_set]; exact h.1, fun i => ?_, h.2.2⟩
  have := h.2.1 i
  show -99 ≤ (x.1.set v 0).getD i 0 ∧ (x.1.set v 0).getD i 0 ≤ 99
  rw [List.getD_eq_getElem?_getD, List.getElem?_set]
  split
  · split <;> simp
  · rw [← List.getD_eq_getElem?_getD]; exact this
theorem mulbW {x y : Int} (hx : -1000 ≤ x ∧ x ≤ 1000) (hy : -1000000 ≤ y ∧ y ≤ 1000000) : -1000000000 ≤ x * y ∧ x * y ≤ 1000000000 := by
  have h1 : 0 ≤ (1000 - x) * (1000000 + y) := Int.mul_nonneg (by omega) (by omega)
  have h2 : 0 ≤ (1000 + x) * (1000000 - y) := Int.mul_nonneg (by omega) (by omega)
  have h3 : 0 ≤ (1000 - x) * (1000000 - y) := Int.mul_nonneg (by omega) (by omega)
  have h4 : 0 ≤ (1000 + x) * (1000000 + y) := Int.mul_nonneg (by omega) (by omega)
  simp only [Int.sub_mul, Int.add_mul, Int.mul_sub, Int.mul_add] at h1 h2 h3 h4
  omega

set_option maxRecDepth 100000 in
set_option maxHeartbeats 1600000 in
theorem l1CombineW_fn (a b : Aff) (x y : Int) (hx : -1000 ≤ x ∧ x ≤ 1000) (hy : -1000 ≤ y ∧ y ≤ 1000) (ha : a.1.length = 4) (hb : b.1.length = 4) (ha2 : -1000000 ≤ a.2 ∧ a.2 ≤ 1000000) (hb2 : -1000 ≤ b.2 ∧ b.2 ≤ 1000) (hac : ∀ i, -1000 ≤ a.1.getD i 0 ∧ a.1.getD i 0 ≤ 1000) (hbc : ∀ i, -1000 ≤ b.1.getD i 0 ∧ b.1.getD i 0 ≤ 1000) : Fn Try.prog 149 [] [ad (rA a), nat1 x, ad (rA b), nat1 y] (.o (ad (rA (cmbA a x b y)))) [] := by
  have hm1 := mulbW hx ha2
  have hm2 := mulb hy hb2
  refine Fn.code0 Try.func149 rfl rfl rfl rfl ?_
  refine ACode.seq ?_
  refine ACode.region ?_
  refine .cons (St1.boxP rfl rfl rfl rfl rfl rfl) ?_
  refine .cons (St1.boxP rfl rfl rfl rfl rfl rfl) ?_
  refine .cons (.al 108 [.slice none 0 0, .int .i64 0] rfl rfl rfl) ?_
  refine .nil ?_
  refine ks_n ?_
  refine ACode.seq ?_
  refine ACode.region ?_
  refine .cons (.mv rfl rfl) ?_
  refine .cons (.fP 1 0 false rfl rfl) ?_
  refine .cons (.l1 1 rfl rfl) ?_
  refine .cons (.ml rfl rfl rfl) ?_
  refine .cons (.mv rfl rfl) ?_
  refine .cons (.fP 1 0 false rfl rfl) ?_
  refine .cons (.l1 1 rfl rfl) ?_
  refine .cons (.ml rfl rfl rfl) ?_
  refine .cons (.pl rfl rfl rfl) ?_
  refine .cons (.bu [(1, .tmp 19)] [(0, 1), (1, 1)] [.slice none 0 0, .int .i64 0] rfl rfl rfl rfl rfl) ?_
  refine .cons (.al 109 [.slice none 0 0, .int .i64 0] rfl rfl rfl) ?_
  refine .cons (.sT 2 true rfl rfl rfl rfl rfl rfl rfl) ?_
  refine .nil ?_
  refine ks_n ?_
  refine ACode.seq ?_
  refine ACode.seq ?_
  refine ACode.region ?_
  refine .cons (.asg rfl rfl) ?_
  refine .nil ?_
  refine ks_n ?_
  refine ACode.block ?_
  refine .loopK (fun m σ => (∃ i : Nat, m = 4 - i ∧ (i = 0) ∧ σ = [(.t 1, .v (.o (nat1 x))), (.t 3, .v (.o (nat1 y))), (.t 4, .v (.o (.c (.ptr (rA a))))), (.t 6, .v (.o (.c (.ptr (rA b))))), (.t 8, .v (.o (.c (.box 110 2 0 0)))), (.t 9, .v (.o (.c (.box 111 2 0 0)))), (.t 10, .v (.o (nat1 (i : Nat)))), (.b 110, .b 28 2 [[.d (.val (.slice none 0 0)), .d (dI 0)]]), (.u 110, .u), (.b 111, .b 28 2 [[.d (.val (.slice none 0 0)), .d (dI (x * a.2 + y * b.2))]]), (.u 111, .u)]) ∨ (∃ i : Nat, m = 4 - i ∧ (1 ≤ i) ∧ (i ≤ 4) ∧ σ = [(.t 1, .v (.o (nat1 x))), (.t 3, .v (.o (nat1 y))), (.t 4, .v (.o (.c (.ptr (rA a))))), (.t 6, .v (.o (.c (.ptr (rA b))))), (.t 8, .v (.o (.c (.box 110 2 0 0)))), (.t 9, .v (.o (.c (.box 111 2 0 0)))), (.t 10, .v (.o (nat1 (i : Nat)))), (.b 110, .b 28 2 [[.d (.val (.slice none 0 0)), .d (dI 0)]]), (.u 110, .u), (.b 112, .b 3 1 (dR ((cmbTo a.1 x b.1 y i).map rI))), (.u 112, .u), (.b 111, .b 28 2 [[.own 112 1 (i), .d (dI (x * a.2 + y * b.2))]]), (.u 111, .u)])) [(110, 108), (111, 109)] (.inl ⟨0, rfl, rfl, rfl⟩) ⟨ks rfl .dt, ks rfl .dt, ks rfl .dt, ks rfl .dt, ks rfl (.c .bx), ks rfl (.c .bx), ks rfl .dt, kb 108 rfl (.cons (.cons .dt (.cons .dt Ctos.nil)) .nil), kb 109 rfl (.cons (.cons .dt (.cons .dt Ctos.nil)) .nil), trivial⟩ ?_
  rintro m σ (⟨i, hm0, rfl, rfl⟩ | ⟨i, hm0, hi1, hi4, rfl⟩)
  · skip
    have hm3 := mulb hx (hac 0)
    have hm4 := mulb hy (hbc 0)
    refine ACode.seq ?_
    refine ACode.seq ?_
    refine ACode.region ?_
    refine .cons (.mv rfl rfl) ?_
    refine .cons (.ls rfl rfl rfl) ?_
    refine .nil ?_
    refine ks_n ?_
    refine .cD rfl (fun h22 => ?_) (fun h22 => ?_)
    · skip
      refine ACode.skip ?_
      refine ks_n ?_
      refine ACode.seq ?_
      refine ACode.block ?_
      refine ACode.drawK (by kernel_rfl) (by kernel_rfl) ?_
      refine .cons (.fB 0 0 false rfl rfl rfl) ?_
      refine .cons (.b1 1 rfl rfl rfl rfl rfl rfl) ?_
      refine .cons (.mv rfl rfl) ?_
      refine .cons (.fP 0 0 false rfl rfl) ?_
      refine .cons (.l1 1 rfl rfl) ?_
      refine .cons (.mv rfl rfl) ?_
      refine .cons (.xL 3 1 8 rfl rfl rfl rfl rfl (map_at (getD_at (by rw [ha]; omega)))) ?_
      refine .cons (.l1 1 rfl rfl) ?_
      refine .cons (.ml rfl rfl rfl) ?_
      refine .cons (.mv rfl rfl) ?_
      refine .cons (.fP 0 0 false rfl rfl) ?_
      refine .cons (.l1 1 rfl rfl) ?_
      refine .cons (.mv rfl rfl) ?_
      refine .cons (.xL 3 1 8 rfl rfl rfl rfl rfl (map_at (getD_at (by rw [hb]; omega)))) ?_
      refine .cons (.l1 1 rfl rfl) ?_
      refine .cons (.ml rfl rfl rfl) ?_
      refine .cons (.pl rfl rfl rfl) ?_
      refine .cons (.li 3 0 0 [.tmp 41] rfl rfl rfl rfl rfl rfl) ?_
      refine .cons (St1.appN (k' := 143) (e := 3) (sz := 0) (by' := 8) rfl rfl rfl rfl rfl (by kernel_rfl) rfl rfl rfl (by simp) (by simp [dR, cmbTo] <;> omega) rfl rfl) ?_
      refine .cons (.fB 0 0 false rfl rfl rfl) ?_
      refine .cons (.sT 1 false rfl rfl rfl rfl rfl rfl rfl) ?_
      refine .nil ⟨by kernel_rfl, ?_⟩
      refine kb_n ?_
      refine ks_n ?_
      refine ACode.region ?_
      refine .cons (.mv rfl rfl) ?_
      refine .cons (.pl rfl rfl rfl) ?_
      refine .cons (.asg rfl rfl) ?_
      refine .nil ?_
      refine kl_k [(110, 110), (111, 111), (112, 143)] (.inr ⟨1, rfl, by omega, by omega, rfl⟩) ⟨ks rfl .dt, ks rfl .dt, ks rfl .dt, ks rfl .dt, ks rfl (.c .bx), ks rfl (.c .bx), ks rfl .dt, kb 110 rfl (.cons (.cons .dt (.cons .dt Ctos.nil)) .nil), kb 143 rfl (.dt rfl (by first | (rw [dR_app]; simp [cmbTo, List.range_succ]; done) | (simp [dR, cmbTo, List.range_succ]; done) | (simp [dR, cmbTo, List.range_succ]; rfl))), kb 111 rfl (.cons (.cons .ow (.cons .dt Ctos.nil)) .nil), trivial⟩
    · skip
      simp at h22
  · skip
    have hm3 := mulb hx (hac i)
    have hm4 := mulb hy (hbc i)
    refine ACode.seq ?_
    refine ACode.seq ?_
    refine ACode.region ?_
    refine .cons (.mv rfl rfl) ?_
    refine .cons (.ls rfl rfl rfl) ?_
    refine .nil ?_
    refine ks_n ?_
    refine .cD rfl (fun h22 => ?_) (fun h22 => ?_)
    · skip
      refine ACode.skip ?_
      refine ks_n ?_
      refine ACode.seq ?_
      refine ACode.block ?_
      refine ACode.drawK (by kernel_rfl) (by kernel_rfl) ?_
      refine .cons (.fB 0 0 false rfl rfl rfl) ?_
      refine .cons (.b1 1 rfl rfl rfl rfl rfl rfl) ?_
      refine .cons (.mv rfl rfl) ?_
      refine .cons (.fP 0 0 false rfl rfl) ?_
      refine .cons (.l1 1 rfl rfl) ?_
      refine .cons (.mv rfl rfl) ?_
      refine .cons (.xL 3 1 8 rfl rfl rfl rfl rfl (map_at (getD_at (by rw [ha]; omega)))) ?_
      refine .cons (.l1 1 rfl rfl) ?_
      refine .cons (.ml rfl rfl rfl) ?_
      refine .cons (.mv rfl rfl) ?_
      refine .cons (.fP 0 0 false rfl rfl) ?_
      refine .cons (.l1 1 rfl rfl) ?_
      refine .cons (.mv rfl rfl) ?_
      refine .cons (.xL 3 1 8 rfl rfl rfl rfl rfl (map_at (getD_at (by rw [hb]; omega)))) ?_
      refine .cons (.l1 1 rfl rfl) ?_
      refine .cons (.ml rfl rfl rfl) ?_
      refine .cons (.pl rfl rfl rfl) ?_
      refine .cons (.li 3 0 0 [.tmp 41] rfl rfl rfl rfl rfl rfl) ?_
      refine .cons (St1.appB (k' := 143) (e := 3) (sz := 0) (by' := 8) rfl rfl rfl rfl rfl (by kernel_rfl) rfl rfl rfl rfl (by simp [dR, cmbTo]) (by simp [dR, cmbTo] <;> omega) rfl rfl rfl) ?_
      refine .cons (.fB 0 0 false rfl rfl rfl) ?_
      refine .cons (.sT 1 false rfl rfl rfl rfl rfl rfl rfl) ?_
      refine .nil ⟨by kernel_rfl, ?_⟩
      refine kb_n ?_
      refine ks_n ?_
      refine ACode.region ?_
      refine .cons (.mv rfl rfl) ?_
      refine .cons (.pl rfl rfl rfl) ?_
      refine .cons (.asg rfl rfl) ?_
      refine .nil ?_
      refine kl_k [(110, 110), (111, 111), (112, 143)] (.inr ⟨i + 1, rfl, by omega, by omega, rfl⟩) ⟨ks rfl .dt, ks rfl .dt, ks rfl .dt, ks rfl .dt, ks rfl (.c .bx), ks rfl (.c .bx), ks rfl .dt, kb 110 rfl (.cons (.cons .dt (.cons .dt Ctos.nil)) .nil), kb 143 rfl (.dt rfl (by first | (rw [dR_app]; simp [cmbTo, List.range_succ]; done) | (simp [dR, cmbTo, List.range_succ]; done) | (simp [dR, cmbTo, List.range_succ]; rfl))), kb 111 rfl (.cons (.cons .ow (.cons .dt Ctos.nil)) .nil), trivial⟩
    · skip
      obtain rfl : i = 4 := by omega
      refine ACode.exit ?_
      refine ks_e ?_
      refine kl_e ?_
      refine kb_hit ?_
      refine ks_n ?_
      refine ACode.seq ?_
      refine ACode.region ?_
      refine .cons (.bN 2 rfl rfl rfl rfl rfl rfl) ?_
      refine .cons (.sT 2 true rfl rfl rfl rfl rfl rfl rfl) ?_
      refine .nil ?_
      refine ks_n ?_
      refine ACode.ret ?_
      refine kf_wret [(.t 8, .v (.o (.c (.box 100 2 0 0)))), (.b 100, .b 28 2 [[.d (dIs (cmbTo a.1 x b.1 y 4)), .d (dI (x * a.2 + y * b.2))]]), (.u 100, .u)] (Wk.keep [(100, 110)] rfl rfl ⟨ks rfl (.c .bx), kb 110 rfl (.cons (.cons (.fz rfl rfl (by simp [cmbTo])) (.cons .dt Ctos.nil)) .nil), trivial⟩) rfl ?_ nobox
      rfl

set_option maxRecDepth 100000 in
set_option maxHeartbeats 1600000 in
theorem l1SubstW_fn {x y : Aff} {j : Int} (hx : affW x) (hy : affM y) (hj : 0 ≤ j ∧ j < 4) : Fn Try.prog 158 [] [ad (rA x), nat1 j, ad (rA y)] (.o (ad (rA (affSubst x j.toNat y)))) [] := by
  obtain ⟨v, rfl⟩ : ∃ v : Nat, (v : Int) = j := ⟨j.toNat, by omega⟩
  obtain ⟨a1, a2, a3⟩ := affW_1000 hx
  have hx0 := affW_set hx v
  obtain ⟨b1, b2, b3⟩ := affW_1000 hx0
  obtain ⟨c1, c2, c3⟩ := affM_1000 hy
  refine Fn.code0 Try.func158 rfl rfl rfl rfl ?_
  refine ACode.seq ?_
  refine ACode.region ?_
  refine .cons (St1.boxP rfl rfl rfl rfl rfl rfl) ?_
  refine .cons (St1.boxP rfl rfl rfl rfl rfl rfl) ?_
  refine .cons (.al 106 [.slice none 0 0, .int .i64 0] rfl rfl rfl) ?_
  refine .nil ?_
  refine ks_n ?_
  refine ACode.seq ?_
  refine ACode.drawK (by kernel_rfl) (by kernel_rfl) ?_
  refine .cons (St1.lit0 (k' := 108) (e := 3) (sz := 1) (b := true) rfl rfl rfl rfl (by kernel_rfl) rfl rfl) ?_
  refine .cons (.fP 0 0 false rfl rfl) ?_
  refine .cons (.l1 1 rfl rfl) ?_
  refine .cons (St1.appB (k' := 111) (e := 3) (sz := 0) (by' := 8) rfl rfl rfl rfl rfl (by kernel_rfl) rfl rfl rfl rfl rfl (by simp; omega) rfl rfl rfl) ?_
  refine .cons (.fP 1 0 false rfl rfl) ?_
  refine .cons (.l1 1 rfl rfl) ?_
  refine .cons (.bu [(0, .tmp 11), (1, .tmp 13)] [(0, 1), (1, 1)] [.slice none 0 0, .int .i64 0] rfl rfl rfl rfl rfl) ?_
  refine .cons (.al 107 [.slice none 0 0, .int .i64 0] rfl rfl rfl) ?_
  refine .cons (.sT 2 true rfl rfl rfl rfl rfl rfl rfl) ?_
  refine .nil ⟨by kernel_rfl, ?_⟩
  refine ks_n ?_
  refine ACode.seq ?_
  refine ACode.region ?_
  refine .cons (.fB 0 0 false rfl rfl rfl) ?_
  refine .cons (.b1 1 rfl rfl rfl rfl rfl rfl) ?_
  refine .cons (.mv rfl rfl) ?_
  refine .cons (.xB 3 1 8 rfl rfl rfl rfl rfl rfl (by simp; omega)) ?_
  refine .cons (.sT 1 false rfl rfl rfl rfl (dR_at (map_at (getD_at (by omega)))) rfl rfl) ?_
  refine .nil ?_
  refine ks_n ?_
  refine ACode.seq ?_
  refine .keep [(.t 1, .v (.o (nat1 (v : Nat)))), (.t 3, .v (.o (.c (.ptr (rA x))))), (.t 5, .v (.o (.c (.ptr (rA y))))), (.t 6, .v (.o (.c (.box 730 2 0 0)))), (.t 7, .v (.o (.c (.box 731 2 0 0)))), (.b 730, .b 28 2 [[.d (.val (.slice none 0 0)), .d (dI 0)]]), (.u 730, .u), (.b 731, .b 28 2 [[.d (dIs (x.1.set v 0)), .d (dI x.2)]]), (.u 731, .u)] [(730, 106), (731, 107)] ⟨ks rfl .dt, ks rfl .dt, ks rfl .dt, ks rfl (.c .bx), ks rfl (.c .bx), kb 106 rfl (.cons (.cons .dt (.cons .dt Ctos.nil)) .nil), kb 107 rfl (.cons (.cons (.fz rfl (dR_setI _ _ _ _) (by simp) (by simp; omega)) (.cons .dt Ctos.nil)) .nil), trivial⟩ ?_
  refine ACode.drawK (by kernel_rfl) (by kernel_rfl) ?_
  refine .cons (.bN 2 rfl rfl rfl rfl rfl rfl) ?_
  refine .cons (.lN 2 rfl rfl rfl) ?_
  refine .cons (.fP 0 0 false rfl rfl) ?_
  refine .cons (.l1 1 rfl rfl) ?_
  refine .cons (.mv rfl rfl) ?_
  refine .cons (.xL 3 1 8 rfl rfl rfl rfl rfl (map_at (getD_at (by omega)))) ?_
  refine .cons (.l1 1 rfl rfl) ?_
  refine .cons (.cP [.tmp 19, .const (.int .i64 (1)), .tmp 20, .tmp 25] rfl rfl rfl rfl (l1CombineW_fn (x.1.set v 0, x.2) y 1 (x.1.getD v 0) (by omega) (a3 v) b1 c1 b2 c2 b3 c3) rfl) ?_
  refine .cons (.sT 2 true rfl rfl rfl rfl rfl rfl rfl) ?_
  refine .nil ⟨by kernel_rfl, ?_⟩
  refine ks_n ?_
  refine ACode.ret ?_
  refine kf_ret rfl ?_ nobox
  rw [Int.toNat_natCast, ← cmb_subst]; rfl

set_option maxRecDepth 100000 in
set_option maxHeartbeats 1600000 in
theorem l3SubAccW_fn (a : Acc) (ha : a.2.length ≤ 1073741824) {y : Aff} (hy : affM y) {j : Int} (hj : 0 ≤ j ∧ j < 4) (hm : ∀ x ∈ a.2, affW x) : Fn Try.prog 135 [] [ad (rC a), nat1 j, ad (rA y)] (.o (ad (rC (mapC (fun b => affSubst b j.toNat y) a)))) [] := by
  refine Fn.code0 Try.func135 rfl rfl rfl rfl ?_
  refine ACode.seq ?_
  refine ACode.region ?_
  refine .cons (St1.boxP rfl rfl rfl rfl rfl rfl) ?_
  refine .cons (St1.boxP rfl rfl rfl rfl rfl rfl) ?_
  refine .cons (.al 106 [.string ByteArray.empty, .slice none 0 0] rfl rfl rfl) ?_
  refine .nil ?_
  refine ks_n ?_
  refine ACode.seq ?_
  refine ACode.region ?_
  refine .cons (.fP 0 0 false rfl rfl) ?_
  refine .cons (.l1 1 rfl rfl) ?_
  refine .cons (.bu [(0, .tmp 10)] [(0, 1), (1, 1)] [.string ByteArray.empty, .slice none 0 0] rfl rfl rfl rfl rfl) ?_
  refine .cons (.al 107 [.string ByteArray.empty, .slice none 0 0] rfl rfl rfl) ?_
  refine .cons (.sT 2 true rfl rfl rfl rfl rfl rfl rfl) ?_
  refine .nil ?_
  refine ks_n ?_
  refine ACode.seq ?_
  refine ACode.seq ?_
  refine ACode.region ?_
  refine .cons (.asg rfl rfl) ?_
  refine .nil ?_
  refine ks_n ?_
  refine ACode.block ?_
  refine .loopK (fun m σ => (∃ i : Nat, m = a.2.length - i ∧ (i = 0) ∧ σ = [(.t 1, .v (.o (nat1 j))), (.t 3, .v (.o (.c (.ptr (rC a))))), (.t 5, .v (.o (.c (.ptr (rA y))))), (.t 6, .v (.o (.c (.box 110 2 0 0)))), (.t 7, .v (.o (.c (.box 111 2 0 0)))), (.t 8, .v (.o (nat1 (i : Nat)))), (.b 110, .b 25 2 [[.d (dS ByteArray.empty), .d (.val (.slice none 0 0))]]), (.u 110, .u), (.b 111, .b 25 2 [[.d (dS a.1), .d (.val (.slice none 0 0))]]), (.u 111, .u)]) ∨ (∃ i : Nat, m = a.2.length - i ∧ (1 ≤ i) ∧ (i ≤ a.2.length) ∧ σ = [(.t 1, .v (.o (nat1 j))), (.t 3, .v (.o (.c (.ptr (rC a))))), (.t 5, .v (.o (.c (.ptr (rA y))))), (.t 6, .v (.o (.c (.box 110 2 0 0)))), (.t 7, .v (.o (.c (.box 111 2 0 0)))), (.t 8, .v (.o (nat1 (i : Nat)))), (.b 110, .b 25 2 [[.d (dS ByteArray.empty), .d (.val (.slice none 0 0))]]), (.u 110, .u), (.b 112, .b 28 2 (dR ((a.2.take i).map fun x => rA (affSubst x j.toNat y)))), (.u 112, .u), (.b 111, .b 25 2 [[.d (dS a.1), .own 112 2 (i)]]), (.u 111, .u)])) [(110, 106), (111, 107)] (.inl ⟨0, rfl, rfl, rfl⟩) ⟨ks rfl .dt, ks rfl .dt, ks rfl .dt, ks rfl (.c .bx), ks rfl (.c .bx), ks rfl .dt, kb 106 rfl (.cons (.cons .dt (.cons .dt Ctos.nil)) .nil), kb 107 rfl (.cons (.cons .dt (.cons .dt Ctos.nil)) .nil), trivial⟩ ?_
  rintro m σ (⟨i, hm0, rfl, rfl⟩ | ⟨i, hm0, hi1, hi2, rfl⟩)
  · skip
    refine ACode.seq ?_
    refine ACode.seq ?_
    refine ACode.region ?_
    refine .cons (.mv rfl rfl) ?_
    refine .cons (.fP 1 0 false rfl rfl) ?_
    refine .cons (.l1 1 rfl rfl) ?_
    refine .cons (.ln 28 2 32 rfl rfl rfl) ?_
    refine .cons (.ls rfl rfl rfl) ?_
    refine .nil ?_
    refine ks_n ?_
    refine .cD rfl (fun h16 => ?_) (fun h16 => ?_)
    · skip
      obtain ⟨x, hx1⟩ : ∃ x, a.2[0]? = some x := ⟨_, List.getElem?_eq_getElem (by omega)⟩
      refine ACode.skip ?_
      refine ks_n ?_
      refine ACode.seq ?_
      refine ACode.block ?_
      refine ACode.drawK (by kernel_rfl) (by kernel_rfl) ?_
      refine .cons (.fB 1 0 false rfl rfl rfl) ?_
      refine .cons (.b1 1 rfl rfl rfl rfl rfl rfl) ?_
      refine .cons (.fP 1 0 false rfl rfl) ?_
      refine .cons (.l1 1 rfl rfl) ?_
      refine .cons (.mv rfl rfl) ?_
      refine .cons (.xL 28 2 32 rfl rfl rfl rfl rfl) ?_
      refine .cons (.lN 2 rfl rfl rfl) ?_
      refine .cons (.mv rfl rfl) ?_
      refine .cons (.lN 2 rfl rfl rfl) ?_
      refine .cons (.cP [.tmp 25, .tmp 26, .tmp 27] rfl rfl rfl rfl (l1SubstW_fn (hm x (List.mem_of_getElem? hx1)) hy hj) rfl) ?_
      refine .cons (.li 28 1 0 [.tmp 28] rfl rfl rfl rfl rfl rfl) ?_
      refine .cons (St1.appN (k' := 130) (e := 28) (sz := 1) (by' := 32) rfl rfl rfl rfl rfl (by kernel_rfl) rfl rfl rfl (by simp) (by first | (simp [dR]; done) | (simp [dR]; omega)) rfl rfl) ?_
      refine .cons (.fB 1 0 false rfl rfl rfl) ?_
      refine .cons (.sT 1 false rfl rfl rfl rfl rfl rfl rfl) ?_
      refine .nil ⟨by kernel_rfl, ?_⟩
      refine kb_n ?_
      refine ks_n ?_
      refine ACode.region ?_
      refine .cons (.mv rfl rfl) ?_
      refine .cons (.pl rfl rfl rfl) ?_
      refine .cons (.asg rfl rfl) ?_
      refine .nil ?_
      refine kl_k [(110, 110), (111, 111), (112, 130)] (.inr ⟨1, rfl, by omega, by omega, rfl⟩) ⟨ks rfl .dt, ks rfl .dt, ks rfl .dt, ks rfl (.c .bx), ks rfl (.c .bx), ks rfl .dt, kb 110 rfl (.cons (.cons .dt (.cons .dt Ctos.nil)) .nil), kb 130 rfl (.dt rfl (by first | exact dR_take (fun x => rA (affSubst x j.toNat y)) hx1 | exact dR_take1 (fun x => rA (affSubst x j.toNat y)) hx1 | rfl | (simp [dR]; done))), kb 111 rfl (.cons (.cons .dt (.cons .ow Ctos.nil)) .nil), trivial⟩
    · skip
      have hn : a.2 = [] := List.eq_nil_of_length_eq_zero (by omega)
      refine ACode.exit ?_
      refine ks_e ?_
      refine kl_e ?_
      refine kb_hit ?_
      refine ks_n ?_
      refine ACode.seq ?_
      refine ACode.region ?_
      refine .cons (.bN 2 rfl rfl rfl rfl rfl rfl) ?_
      refine .cons (.sT 2 true rfl rfl rfl rfl rfl rfl rfl) ?_
      refine .nil ?_
      refine ks_n ?_
      refine ACode.ret ?_
      refine kf_wret [(.t 6, .v (.o (.c (.box 100 2 0 0)))), (.b 100, .b 25 2 [[.d (dS a.1), .d (dAs (a.2.map (fun b => affSubst b j.toNat y)))]]), (.u 100, .u)] (Wk.keep [(100, 110)] rfl rfl ⟨ks rfl (.c .bx), kb 110 rfl (.cons (.cons .dt (.cons (Cto.nilE 2 (by rw [hn]; rfl)) Ctos.nil)) .nil), trivial⟩) rfl ?_ nobox
      rfl
  · skip
    refine ACode.seq ?_
    refine ACode.seq ?_
    refine ACode.region ?_
    refine .cons (.mv rfl rfl) ?_
    refine .cons (.fP 1 0 false rfl rfl) ?_
    refine .cons (.l1 1 rfl rfl) ?_
    refine .cons (.ln 28 2 32 rfl rfl rfl) ?_
    refine .cons (.ls rfl rfl rfl) ?_
    refine .nil ?_
    refine ks_n ?_
    refine .cD rfl (fun h16 => ?_) (fun h16 => ?_)
    · skip
      obtain ⟨x, hx1⟩ : ∃ x, a.2[i]? = some x := ⟨_, List.getElem?_eq_getElem (by omega)⟩
      refine ACode.skip ?_
      refine ks_n ?_
      refine ACode.seq ?_
      refine ACode.block ?_
      refine ACode.drawK (by kernel_rfl) (by kernel_rfl) ?_
      refine .cons (.fB 1 0 false rfl rfl rfl) ?_
      refine .cons (.b1 1 rfl rfl rfl rfl rfl rfl) ?_
      refine .cons (.fP 1 0 false rfl rfl) ?_
      refine .cons (.l1 1 rfl rfl) ?_
      refine .cons (.mv rfl rfl) ?_
      refine .cons (.xL 28 2 32 rfl rfl rfl rfl rfl) ?_
      refine .cons (.lN 2 rfl rfl rfl) ?_
      refine .cons (.mv rfl rfl) ?_
      refine .cons (.lN 2 rfl rfl rfl) ?_
      refine .cons (.cP [.tmp 25, .tmp 26, .tmp 27] rfl rfl rfl rfl (l1SubstW_fn (hm x (List.mem_of_getElem? hx1)) hy hj) rfl) ?_
      refine .cons (.li 28 1 0 [.tmp 28] rfl rfl rfl rfl rfl rfl) ?_
      refine .cons (St1.appB (k' := 130) (e := 28) (sz := 1) (by' := 32) rfl rfl rfl rfl rfl (by kernel_rfl) rfl rfl rfl rfl (by first | (simp [dR]; done) | (simp [dR]; omega)) (by first | (simp [dR]; done) | (simp [dR]; omega)) rfl rfl rfl) ?_
      refine .cons (.fB 1 0 false rfl rfl rfl) ?_
      refine .cons (.sT 1 false rfl rfl rfl rfl rfl rfl rfl) ?_
      refine .nil ⟨by kernel_rfl, ?_⟩
      refine kb_n ?_
      refine ks_n ?_
      refine ACode.region ?_
      refine .cons (.mv rfl rfl) ?_
      refine .cons (.pl rfl rfl rfl) ?_
      refine .cons (.asg rfl rfl) ?_
      refine .nil ?_
      refine kl_k [(110, 110), (111, 111), (112, 130)] (.inr ⟨i + 1, rfl, by omega, by omega, rfl⟩) ⟨ks rfl .dt, ks rfl .dt, ks rfl .dt, ks rfl (.c .bx), ks rfl (.c .bx), ks rfl .dt, kb 110 rfl (.cons (.cons .dt (.cons .dt Ctos.nil)) .nil), kb 130 rfl (.dt rfl (by first | exact dR_take (fun x => rA (affSubst x j.toNat y)) hx1 | exact dR_take1 (fun x => rA (affSubst x j.toNat y)) hx1 | rfl | (simp [dR]; done))), kb 111 rfl (.cons (.cons .dt (.cons .ow Ctos.nil)) .nil), trivial⟩
    · skip
      obtain rfl : i = a.2.length := by omega
      refine ACode.exit ?_
      refine ks_e ?_
      refine kl_e ?_
      refine kb_hit ?_
      refine ks_n ?_
      refine ACode.seq ?_
      refine ACode.region ?_
      refine .cons (.bN 2 rfl rfl rfl rfl rfl rfl) ?_
      refine .cons (.sT 2 true rfl rfl rfl rfl rfl rfl rfl) ?_
      refine .nil ?_
      refine ks_n ?_
      refine ACode.ret ?_
      refine kf_wret [(.t 6, .v (.o (.c (.box 100 2 0 0)))), (.b 100, .b 25 2 [[.d (dS a.1), .d (dAs (a.2.map (fun b => affSubst b j.toNat y)))]]), (.u 100, .u)] (Wk.keep [(100, 110)] rfl rfl ⟨ks rfl (.c .bx), kb 110 rfl (.cons (.cons .dt (.cons (.fz rfl (by first | rfl | exact dR_af _ _ | (rw [List.take_length]; done)) (by first | rfl | (simp; done) | (simp; omega)) (by omega)) Ctos.nil)) .nil), trivial⟩) rfl ?_ nobox
      rfl

set_option maxRecDepth 100000 in
set_option maxHeartbeats 1600000 in
theorem l3SubExW_one (e : Ex) (hr : e.r.2.length ≤ 1073741824) (hk : e.ks.length ≤ 1073741824) {y : Aff} (hy : affM y) {j : Int} (hj : 0 ≤ j ∧ j < 4) (hm : ∀ x ∈ affsE e, affW x) (ih : ∀ x ∈ e.ks, Fn Try.prog 136 [] [ad (rX x), nat1 j, ad (rA y)] (.o (ad (rX (mapE (fun b => affSubst b j.toNat y) x)))) []) : Fn Try.prog 136 [] [ad (rX e), nat1 j, ad (rA y)] (.o (ad (rX (mapE (fun b => affSubst b j.toNat y) e)))) [] := by
  refine Fn.code0 Try.func136 rfl rfl rfl rfl ?_
  refine ACode.seq ?_
  refine ACode.region ?_
  refine .cons (St1.boxP rfl rfl rfl rfl rfl rfl) ?_
  refine .cons (St1.boxP rfl rfl rfl rfl rfl rfl) ?_
  refine .cons (.al 106 [.int .i64 0, .int .i64 0, .slice none 0 0, .int .i64 0, .string ByteArray.empty, .slice none 0 0, .slice none 0 0] rfl rfl rfl) ?_
  refine .nil ?_
  refine ks_n ?_
  refine ACode.seq ?_
  refine ACode.region ?_
  refine .cons (.fP 0 0 false rfl rfl) ?_
  refine .cons (.l1 1 rfl rfl) ?_
  refine .cons (.fP 1 0 false rfl rfl) ?_
  refine .cons (.l1 1 rfl rfl) ?_
  refine .cons (.bu [(0, .tmp 10), (1, .tmp 12)] [(0, 1), (1, 1), (2, 2), (4, 2), (6, 1)] [.int .i64 0, .int .i64 0, .slice none 0 0, .int .i64 0, .string ByteArray.empty, .slice none 0 0, .slice none 0 0] rfl rfl rfl rfl rfl) ?_
  refine .cons (.al 107 [.int .i64 0, .int .i64 0, .slice none 0 0, .int .i64 0, .string ByteArray.empty, .slice none 0 0, .slice none 0 0] rfl rfl rfl) ?_
  refine .cons (.sT 7 true rfl rfl rfl rfl rfl rfl rfl) ?_
  refine .nil ?_
  refine ks_n ?_
  refine ACode.seq ?_
  refine ACode.cut [(.t 1, .v (.o (nat1 j))), (.t 3, .v (.o (.c (.ptr (rX e))))), (.t 5, .v (.o (.c (.ptr (rA y))))), (.t 6, .v (.o (.c (.box 810 7 0 0)))), (.t 7, .v (.o (.c (.box 811 7 0 0)))), (.b 810, .b 31 7 [[.d (dI 0), .d (dI 0), .d (.val (.slice none 0 0)), .d (dI 0), .d (dS ByteArray.empty), .d (.val (.slice none 0 0)), .d (.val (.slice none 0 0))]]), (.u 810, .u), (.b 811, .b 31 7 [[.d (dI e.k), .d (dI e.n), .d (dIs (if e.k = 2 then (fun b => affSubst b j.toNat y) e.i else ([], 0)).1), .d (dI (if e.k = 2 then (fun b => affSubst b j.toNat y) e.i else ([], 0)).2), .d (dS ByteArray.empty), .d (.val (.slice none 0 0)), .d (.val (.slice none 0 0))]]), (.u 811, .u)] ?_ ?_
  · skip
    refine ACode.seq ?_
    refine ACode.region ?_
    refine .cons (.fP 0 0 false rfl rfl) ?_
    refine .cons (.l1 1 rfl rfl) ?_
    refine .cons (.eq rfl rfl rfl) ?_
    refine .nil ?_
    refine ks_n ?_
    refine .cD rfl (fun h16 => ?_) (fun h16 => ?_)
    · skip
      refine ACode.region ?_
      refine .cons (.fP 2 1 true rfl rfl) ?_
      refine .cons (.lN 2 rfl rfl rfl) ?_
      refine .cons (.mv rfl rfl) ?_
      refine .cons (.lN 2 rfl rfl rfl) ?_
      refine .cons (.cP [.tmp 18, .tmp 19, .tmp 20] rfl rfl rfl rfl (l1SubstW_fn (hm _ (affsE_i h16)) hy hj) rfl) ?_
      refine .cons (.fB 2 1 true rfl rfl rfl) ?_
      refine .cons (.sT 2 true rfl rfl rfl rfl rfl rfl rfl) ?_
      refine .nil ?_
      exact kc_n (Wk.keep [(810, 106), (811, 107)] rfl rfl ⟨ks rfl .dt, ks rfl .dt, ks rfl .dt, ks rfl (.c .bx), ks rfl (.c .bx), kb 106 rfl (.cons (.cons .dt (.cons .dt (.cons .dt (.cons .dt (.cons .dt (.cons .dt (.cons .dt Ctos.nil))))))) .nil), kb 107 rfl (.cons (.cons .dt (.cons .dt (.cons (.dt (by first | rfl | (simp [*]; done) | (simp [*]; rfl))) (.cons (.dt (by first | rfl | (simp [*]; done) | (simp [*]; rfl))) (.cons .dt (.cons .dt (.cons .dt Ctos.nil))))))) .nil), trivial⟩)
    · skip
      refine ACode.skip ?_
      exact kc_n (Wk.keep [(810, 106), (811, 107)] rfl rfl ⟨ks rfl .dt, ks rfl .dt, ks rfl .dt, ks rfl (.c .bx), ks rfl (.c .bx), kb 106 rfl (.cons (.cons .dt (.cons .dt (.cons .dt (.cons .dt (.cons .dt (.cons .dt (.cons .dt Ctos.nil))))))) .nil), kb 107 rfl (.cons (.cons .dt (.cons .dt (.cons (Cto.nilE 1 (by rw [if_neg (show ¬ e.k = 2 by omega)]; rfl)) (.cons (.dt (by first | rfl | (simp [*]; done) | (simp [*]; rfl))) (.cons .dt (.cons .dt (.cons .dt Ctos.nil))))))) .nil), trivial⟩)
  refine ks_n ?_
  refine ACode.seq ?_
  refine ACode.cut [(.t 1, .v (.o (nat1 j))), (.t 3, .v (.o (.c (.ptr (rX e))))), (.t 5, .v (.o (.c (.ptr (rA y))))), (.t 6, .v (.o (.c (.box 820 7 0 0)))), (.t 7, .v (.o (.c (.box 821 7 0 0)))), (.b 820, .b 31 7 [[.d (dI 0), .d (dI 0), .d (.val (.slice none 0 0)), .d (dI 0), .d (dS ByteArray.empty), .d (.val (.slice none 0 0)), .d (.val (.slice none 0 0))]]), (.u 820, .u), (.b 821, .b 31 7 [[.d (dI e.k), .d (dI e.n), .d (dIs (if e.k = 2 then (fun b => affSubst b j.toNat y) e.i else ([], 0)).1), .d (dI (if e.k = 2 then (fun b => affSubst b j.toNat y) e.i else ([], 0)).2), .d (dS (if e.k = 3 then mapC (fun b => affSubst b j.toNat y) e.r else (ByteArray.empty, [])).1), .d (dAs (if e.k = 3 then mapC (fun b => affSubst b j.toNat y) e.r else (ByteArray.empty, [])).2), .d (.val (.slice none 0 0))]]), (.u 821, .u)] ?_ ?_
  · skip
    refine ACode.seq ?_
    refine ACode.region ?_
    refine .cons (.fP 0 0 false rfl rfl) ?_
    refine .cons (.l1 1 rfl rfl) ?_
    refine .cons (.eq rfl rfl rfl) ?_
    refine .nil ?_
    refine ks_n ?_
    refine .cD rfl (fun h25 => ?_) (fun h25 => ?_)
    · skip
      refine ACode.region ?_
      refine .cons (.fP 4 1 true rfl rfl) ?_
      refine .cons (.lN 2 rfl rfl rfl) ?_
      refine .cons (.mv rfl rfl) ?_
      refine .cons (.lN 2 rfl rfl rfl) ?_
      refine .cons (.cP [.tmp 27, .tmp 28, .tmp 29] rfl rfl rfl rfl (l3SubAccW_fn e.r hr hy hj (fun x hx => hm x (affsE_r h25 hx))) rfl) ?_
      refine .cons (.fB 4 1 true rfl rfl rfl) ?_
      refine .cons (.sT 2 true rfl rfl rfl rfl rfl rfl rfl) ?_
      refine .nil ?_
      exact kc_n (Wk.keep [(820, 810), (821, 811)] rfl rfl ⟨ks rfl .dt, ks rfl .dt, ks rfl .dt, ks rfl (.c .bx), ks rfl (.c .bx), kb 810 rfl (.cons (.cons .dt (.cons .dt (.cons .dt (.cons .dt (.cons .dt (.cons .dt (.cons .dt Ctos.nil))))))) .nil), kb 811 rfl (.cons (.cons .dt (.cons .dt (.cons (.dt (by first | rfl | (simp [*]; done) | (simp [*]; rfl))) (.cons (.dt (by first | rfl | (simp [*]; done) | (simp [*]; rfl))) (.cons (.dt (by first | rfl | (simp [*]; done) | (simp [*]; rfl))) (.cons (.dt (by first | rfl | (simp [*]; done) | (simp [*]; rfl))) (.cons .dt Ctos.nil))))))) .nil), trivial⟩)
    · skip
      refine ACode.skip ?_
      exact kc_n (Wk.keep [(820, 810), (821, 811)] rfl rfl ⟨ks rfl .dt, ks rfl .dt, ks rfl .dt, ks rfl (.c .bx), ks rfl (.c .bx), kb 810 rfl (.cons (.cons .dt (.cons .dt (.cons .dt (.cons .dt (.cons .dt (.cons .dt (.cons .dt Ctos.nil))))))) .nil), kb 811 rfl (.cons (.cons .dt (.cons .dt (.cons (.dt (by first | rfl | (simp [*]; done) | (simp [*]; rfl))) (.cons (.dt (by first | rfl | (simp [*]; done) | (simp [*]; rfl))) (.cons (.dt (by first | rfl | (simp [*]; done) | (simp [*]; rfl))) (.cons (Cto.nilE 2 (by rw [if_neg (show ¬ e.k = 3 by omega)]; rfl)) (.cons .dt Ctos.nil))))))) .nil), trivial⟩)
  refine ks_n ?_
  refine ACode.seq ?_
  refine ACode.seq ?_
  refine ACode.region ?_
  refine .cons (.asg rfl rfl) ?_
  refine .nil ?_
  refine ks_n ?_
  refine ACode.block ?_
  refine .loopK (fun m σ => (∃ i : Nat, m = e.ks.length - i ∧ (i = 0) ∧ σ = [(.t 1, .v (.o (nat1 j))), (.t 3, .v (.o (.c (.ptr (rX e))))), (.t 5, .v (.o (.c (.ptr (rA y))))), (.t 6, .v (.o (.c (.box 110 7 0 0)))), (.t 7, .v (.o (.c (.box 111 7 0 0)))), (.t 8, .v (.o (nat1 (i : Nat)))), (.b 110, .b 31 7 [[.d (dI 0), .d (dI 0), .d (.val (.slice none 0 0)), .d (dI 0), .d (dS ByteArray.empty), .d (.val (.slice none 0 0)), .d (.val (.slice none 0 0))]]), (.u 110, .u), (.b 111, .b 31 7 [[.d (dI e.k), .d (dI e.n), .d (dIs (if e.k = 2 then (fun b => affSubst b j.toNat y) e.i else ([], 0)).1), .d (dI (if e.k = 2 then (fun b => affSubst b j.toNat y) e.i else ([], 0)).2), .d (dS (if e.k = 3 then mapC (fun b => affSubst b j.toNat y) e.r else (ByteArray.empty, [])).1), .d (dAs (if e.k = 3 then mapC (fun b => affSubst b j.toNat y) e.r else (ByteArray.empty, [])).2), .d (.val (.slice none 0 0))]]), (.u 111, .u)]) ∨ (∃ i : Nat, m = e.ks.length - i ∧ (1 ≤ i) ∧ (i ≤ e.ks.length) ∧ σ = [(.t 1, .v (.o (nat1 j))), (.t 3, .v (.o (.c (.ptr (rX e))))), (.t 5, .v (.o (.c (.ptr (rA y))))), (.t 6, .v (.o (.c (.box 110 7 0 0)))), (.t 7, .v (.o (.c (.box 111 7 0 0)))), (.t 8, .v (.o (nat1 (i : Nat)))), (.b 110, .b 31 7 [[.d (dI 0), .d (dI 0), .d (.val (.slice none 0 0)), .d (dI 0), .d (dS ByteArray.empty), .d (.val (.slice none 0 0)), .d (.val (.slice none 0 0))]]), (.u 110, .u), (.b 112, .b 31 7 (dR ((e.ks.take i).map fun x => rX (mapE (fun b => affSubst b j.toNat y) x)))), (.u 112, .u), (.b 111, .b 31 7 [[.d (dI e.k), .d (dI e.n), .d (dIs (if e.k = 2 then (fun b => affSubst b j.toNat y) e.i else ([], 0)).1), .d (dI (if e.k = 2 then (fun b => affSubst b j.toNat y) e.i else ([], 0)).2), .d (dS (if e.k = 3 then mapC (fun b => affSubst b j.toNat y) e.r else (ByteArray.empty, [])).1), .d (dAs (if e.k = 3 then mapC (fun b => affSubst b j.toNat y) e.r else (ByteArray.empty, [])).2), .own 112 7 (i)]]), (.u 111, .u)])) [(110, 820), (111, 821)] (.inl ⟨0, rfl, rfl, rfl⟩) ⟨ks rfl .dt, ks rfl .dt, ks rfl .dt, ks rfl (.c .bx), ks rfl (.c .bx), ks rfl .dt, kb 820 rfl (.cons (.cons .dt (.cons .dt (.cons .dt (.cons .dt (.cons .dt (.cons .dt (.cons .dt Ctos.nil))))))) .nil), kb 821 rfl (.cons (.cons .dt (.cons .dt (.cons (.dt (by first | rfl | (simp [*]; done) | (simp [*]; rfl))) (.cons (.dt (by first | rfl | (simp [*]; done) | (simp [*]; rfl))) (.cons (.dt (by first | rfl | (simp [*]; done) | (simp [*]; rfl))) (.cons (.dt (by first | rfl | (simp [*]; done) | (simp [*]; rfl))) (.cons .dt Ctos.nil))))))) .nil), trivial⟩ ?_
  rintro m σ (⟨i, hm0, rfl, rfl⟩ | ⟨i, hm0, hi1, hi2, rfl⟩)
  · skip
    refine ACode.seq ?_
    refine ACode.seq ?_
    refine ACode.region ?_
    refine .cons (.mv rfl rfl) ?_
    refine .cons (.fP 6 0 false rfl rfl) ?_
    refine .cons (.l1 1 rfl rfl) ?_
    refine .cons (.ln 31 7 112 rfl rfl rfl) ?_
    refine .cons (.ls rfl rfl rfl) ?_
    refine .nil ?_
    refine ks_n ?_
    refine .cD rfl (fun h36 => ?_) (fun h36 => ?_)
    · skip
      obtain ⟨x, hx1⟩ : ∃ x, e.ks[0]? = some x := ⟨_, List.getElem?_eq_getElem (by omega)⟩
      refine ACode.skip ?_
      refine ks_n ?_
      refine ACode.seq ?_
      refine ACode.block ?_
      refine ACode.drawK (by kernel_rfl) (by kernel_rfl) ?_
      refine .cons (.fB 6 0 false rfl rfl rfl) ?_
      refine .cons (.b1 1 rfl rfl rfl rfl rfl rfl) ?_
      refine .cons (.fP 6 0 false rfl rfl) ?_
      refine .cons (.l1 1 rfl rfl) ?_
      refine .cons (.mv rfl rfl) ?_
      refine .cons (.xL 31 7 112 rfl rfl rfl rfl rfl (rE_at hx1)) ?_
      refine .cons (.lN 7 rfl rfl rfl) ?_
      refine .cons (.mv rfl rfl) ?_
      refine .cons (.lN 2 rfl rfl rfl) ?_
      refine .cons (.cP [.tmp 45, .tmp 46, .tmp 47] rfl rfl rfl rfl (ih x (List.mem_of_getElem? hx1)) rfl) ?_
      refine .cons (.li 31 6 0 [.tmp 48] rfl rfl rfl rfl rfl rfl) ?_
      refine .cons (St1.appN (k' := 150) (e := 31) (sz := 6) (by' := 112) rfl rfl rfl rfl rfl (by kernel_rfl) rfl rfl rfl (by simp) (by first | (simp [dR]; done) | (simp [dR]; omega)) rfl rfl) ?_
      refine .cons (.fB 6 0 false rfl rfl rfl) ?_
      refine .cons (.sT 1 false rfl rfl rfl rfl rfl rfl rfl) ?_
      refine .nil ⟨by kernel_rfl, ?_⟩
      refine kb_n ?_
      refine ks_n ?_
      refine ACode.region ?_
      refine .cons (.mv rfl rfl) ?_
      refine .cons (.pl rfl rfl rfl) ?_
      refine .cons (.asg rfl rfl) ?_
      refine .nil ?_
      refine kl_k [(110, 110), (111, 111), (112, 150)] (.inr ⟨1, rfl, by omega, by omega, rfl⟩) ⟨ks rfl .dt, ks rfl .dt, ks rfl .dt, ks rfl (.c .bx), ks rfl (.c .bx), ks rfl .dt, kb 110 rfl (.cons (.cons .dt (.cons .dt (.cons .dt (.cons .dt (.cons .dt (.cons .dt (.cons .dt Ctos.nil))))))) .nil), kb 150 rfl (.dt rfl (by first | exact dR_take (fun x => rX (mapE (fun b => affSubst b j.toNat y) x)) hx1 | exact dR_take1 (fun x => rX (mapE (fun b => affSubst b j.toNat y) x)) hx1 | rfl | (simp [dR]; done))), kb 111 rfl (.cons (.cons .dt (.cons .dt (.cons (.dt (by first | rfl | (simp [*]; done) | (simp [*]; rfl))) (.cons (.dt (by first | rfl | (simp [*]; done) | (simp [*]; rfl))) (.cons (.dt (by first | rfl | (simp [*]; done) | (simp [*]; rfl))) (.cons (.dt (by first | rfl | (simp [*]; done) | (simp [*]; rfl))) (.cons .ow Ctos.nil))))))) .nil), trivial⟩
    · skip
      have hn : e.ks = [] := List.eq_nil_of_length_eq_zero (by omega)
      refine ACode.exit ?_
      refine ks_e ?_
      refine kl_e ?_
      refine kb_hit ?_
      refine ks_n ?_
      refine ACode.seq ?_
      refine ACode.region ?_
      refine .cons (.bN 7 rfl rfl rfl rfl rfl rfl) ?_
      refine .cons (.sT 7 true rfl rfl rfl rfl rfl rfl rfl) ?_
      refine .nil ?_
      refine ks_n ?_
      refine ACode.ret ?_
      refine kf_wret [(.t 6, .v (.o (.c (.box 100 7 0 0)))), (.b 100, .b 31 7 [[.d (dI e.k), .d (dI e.n), .d (dIs (if e.k = 2 then (fun b => affSubst b j.toNat y) e.i else ([], 0)).1), .d (dI (if e.k = 2 then (fun b => affSubst b j.toNat y) e.i else ([], 0)).2), .d (dS (if e.k = 3 then mapC (fun b => affSubst b j.toNat y) e.r else (ByteArray.empty, [])).1), .d (dAs (if e.k = 3 then mapC (fun b => affSubst b j.toNat y) e.r else (ByteArray.empty, [])).2), .d (dEs (e.ks.map (mapE (fun b => affSubst b j.toNat y))))]]), (.u 100, .u)] (Wk.keep [(100, 110)] rfl rfl ⟨ks rfl (.c .bx), kb 110 rfl (.cons (.cons .dt (.cons .dt (.cons (.dt (by first | rfl | (simp [*]; done) | (simp [*]; rfl))) (.cons (.dt (by first | rfl | (simp [*]; done) | (simp [*]; rfl))) (.cons (.dt (by first | rfl | (simp [*]; done) | (simp [*]; rfl))) (.cons (.dt (by first | rfl | (simp [*]; done) | (simp [*]; rfl))) (.cons (Cto.nilE 7 (by rw [hn]; rfl)) Ctos.nil))))))) .nil), trivial⟩) rfl ?_ nobox
      rw [rX_map]; rfl
  · skip
    refine ACode.seq ?_
    refine ACode.seq ?_
    refine ACode.region ?_
    refine .cons (.mv rfl rfl) ?_
    refine .cons (.fP 6 0 false rfl rfl) ?_
    refine .cons (.l1 1 rfl rfl) ?_
    refine .cons (.ln 31 7 112 rfl rfl rfl) ?_
    refine .cons (.ls rfl rfl rfl) ?_
    refine .nil ?_
    refine ks_n ?_
    refine .cD rfl (fun h36 => ?_) (fun h36 => ?_)
    · skip
      obtain ⟨x, hx1⟩ : ∃ x, e.ks[i]? = some x := ⟨_, List.getElem?_eq_getElem (by omega)⟩
      refine ACode.skip ?_
      refine ks_n ?_
      refine ACode.seq ?_
      refine ACode.block ?_
      refine ACode.drawK (by kernel_rfl) (by kernel_rfl) ?_
      refine .cons (.fB 6 0 false rfl rfl rfl) ?_
      refine .cons (.b1 1 rfl rfl rfl rfl rfl rfl) ?_
      refine .cons (.fP 6 0 false rfl rfl) ?_
      refine .cons (.l1 1 rfl rfl) ?_
      refine .cons (.mv rfl rfl) ?_
      refine .cons (.xL 31 7 112 rfl rfl rfl rfl rfl (rE_at hx1)) ?_
      refine .cons (.lN 7 rfl rfl rfl) ?_
      refine .cons (.mv rfl rfl) ?_
      refine .cons (.lN 2 rfl rfl rfl) ?_
      refine .cons (.cP [.tmp 45, .tmp 46, .tmp 47] rfl rfl rfl rfl (ih x (List.mem_of_getElem? hx1)) rfl) ?_
      refine .cons (.li 31 6 0 [.tmp 48] rfl rfl rfl rfl rfl rfl) ?_
      refine .cons (St1.appB (k' := 150) (e := 31) (sz := 6) (by' := 112) rfl rfl rfl rfl rfl (by kernel_rfl) rfl rfl rfl rfl (by first | (simp [dR]; done) | (simp [dR]; omega)) (by first | (simp [dR]; done) | (simp [dR]; omega)) rfl rfl rfl) ?_
      refine .cons (.fB 6 0 false rfl rfl rfl) ?_
      refine .cons (.sT 1 false rfl rfl rfl rfl rfl rfl rfl) ?_
      refine .nil ⟨by kernel_rfl, ?_⟩
      refine kb_n ?_
      refine ks_n ?_
      refine ACode.region ?_
      refine .cons (.mv rfl rfl) ?_
      refine .cons (.pl rfl rfl rfl) ?_
      refine .cons (.asg rfl rfl) ?_
      refine .nil ?_
      refine kl_k [(110, 110), (111, 111), (112, 150)] (.inr ⟨i + 1, rfl, by omega, by omega, rfl⟩) ⟨ks rfl .dt, ks rfl .dt, ks rfl .dt, ks rfl (.c .bx), ks rfl (.c .bx), ks rfl .dt, kb 110 rfl (.cons (.cons .dt (.cons .dt (.cons .dt (.cons .dt (.cons .dt (.cons .dt (.cons .dt Ctos.nil))))))) .nil), kb 150 rfl (.dt rfl (by first | exact dR_take (fun x => rX (mapE (fun b => affSubst b j.toNat y) x)) hx1 | exact dR_take1 (fun x => rX (mapE (fun b => affSubst b j.toNat y) x)) hx1 | rfl | (simp [dR]; done))), kb 111 rfl (.cons (.cons .dt (.cons .dt (.cons (.dt (by first | rfl | (simp [*]; done) | (simp [*]; rfl))) (.cons (.dt (by first | rfl | (simp [*]; done) | (simp [*]; rfl))) (.cons (.dt (by first | rfl | (simp [*]; done) | (simp [*]; rfl))) (.cons (.dt (by first | rfl | (simp [*]; done) | (simp [*]; rfl))) (.cons .ow Ctos.nil))))))) .nil), trivial⟩
    · skip
      obtain rfl : i = e.ks.length := by omega
      refine ACode.exit ?_
      refine ks_e ?_
      refine kl_e ?_
      refine kb_hit ?_
      refine ks_n ?_
      refine ACode.seq ?_
      refine ACode.region ?_
      refine .cons (.bN 7 rfl rfl rfl rfl rfl rfl) ?_
      refine .cons (.sT 7 true rfl rfl rfl rfl rfl rfl rfl) ?_
      refine .nil ?_
      refine ks_n ?_
      refine ACode.ret ?_
      refine kf_wret [(.t 6, .v (.o (.c (.box 100 7 0 0)))), (.b 100, .b 31 7 [[.d (dI e.k), .d (dI e.n), .d (dIs (if e.k = 2 then (fun b => affSubst b j.toNat y) e.i else ([], 0)).1), .d (dI (if e.k = 2 then (fun b => affSubst b j.toNat y) e.i else ([], 0)).2), .d (dS (if e.k = 3 then mapC (fun b => affSubst b j.toNat y) e.r else (ByteArray.empty, [])).1), .d (dAs (if e.k = 3 then mapC (fun b => affSubst b j.toNat y) e.r else (ByteArray.empty, [])).2), .d (dEs (e.ks.map (mapE (fun b => affSubst b j.toNat y))))]]), (.u 100, .u)] (Wk.keep [(100, 110)] rfl rfl ⟨ks rfl (.c .bx), kb 110 rfl (.cons (.cons .dt (.cons .dt (.cons (.dt (by first | rfl | (simp [*]; done) | (simp [*]; rfl))) (.cons (.dt (by first | rfl | (simp [*]; done) | (simp [*]; rfl))) (.cons (.dt (by first | rfl | (simp [*]; done) | (simp [*]; rfl))) (.cons (.dt (by first | rfl | (simp [*]; done) | (simp [*]; rfl))) (.cons (.fz rfl (by first | rfl | exact dR_ex _ _ | (rw [List.take_length]; done)) (by first | rfl | (simp; done) | (simp; omega)) (by omega)) Ctos.nil))))))) .nil), trivial⟩) rfl ?_ nobox
      rw [rX_map]; rfl

theorem l3SubExW_fn {y : Aff} (hy : affM y) {j : Int} (hj : 0 ≤ j ∧ j < 4) : ∀ e : Ex, szE e ≤ 1073741824 → (∀ x ∈ affsE e, affW x) → Fn Try.prog 136 [] [ad (rX e), nat1 j, ad (rA y)] (.o (ad (rX (mapE (fun b => affSubst b j.toNat y) e)))) [] := by
  intro e
  induction e using Ex.rec' with
  | h e ih =>
    intro hs hm
    rw [szE_eq, szC] at hs
    have := szAs_len e.r.2
    exact l3SubExW_one e (by omega) (by omega) hy hj hm fun x hx => ih x hx (by have := szEs_mem hx; omega) fun a ha => hm a (affsE_k hx ha)

set_option maxRecDepth 100000 in
set_option maxHeartbeats 1600000 in
theorem l3SubstW_fn (s : Stm) (hs : szS s ≤ 1073741824) {y : Aff} (hy : affM y) {j : Int} (hj : 0 ≤ j ∧ j < 4) (hm : ∀ x ∈ affsS s, affW x) : Fn Try.prog 83 [] [ad (rS s), nat1 j, ad (rA y)] (.o (ad (rS (mapS (fun b => affSubst b j.toNat y) s)))) [] := by
  rw [szS, szC] at hs
  have := szAs_len s.1.2
  refine Fn.code0 Try.func83 rfl rfl rfl rfl ?_
  refine ACode.seq ?_
  refine ACode.region ?_
  refine .cons (St1.boxP rfl rfl rfl rfl rfl rfl) ?_
  refine .cons (St1.boxP rfl rfl rfl rfl rfl rfl) ?_
  refine .cons (.al 106 [.string ByteArray.empty, .slice none 0 0, .int .i64 0, .int .i64 0, .slice none 0 0, .int .i64 0, .string ByteArray.empty, .slice none 0 0, .slice none 0 0] rfl rfl rfl) ?_
  refine .nil ?_
  refine ks_n ?_
  refine ACode.seq ?_
  refine ACode.drawK (by kernel_rfl) (by kernel_rfl) ?_
  refine .cons (.fP 0 1 true rfl rfl) ?_
  refine .cons (.lN 2 rfl rfl rfl) ?_
  refine .cons (.mv rfl rfl) ?_
  refine .cons (.lN 2 rfl rfl rfl) ?_
  refine .cons (.cP [.tmp 8, .tmp 9, .tmp 10] rfl rfl rfl rfl (l3SubAccW_fn s.1 (by omega) hy hj (fun x hx => hm x (List.mem_append_left _ hx))) rfl) ?_
  refine .cons (.fP 2 6 true rfl rfl) ?_
  refine .cons (.lN 7 rfl rfl rfl) ?_
  refine .cons (.mv rfl rfl) ?_
  refine .cons (.lN 2 rfl rfl rfl) ?_
  refine .cons (.cP [.tmp 13, .tmp 14, .tmp 15] rfl rfl rfl rfl (l3SubExW_fn hy hj s.2 (by omega) (fun x hx => hm x (List.mem_append_right _ hx))) rfl) ?_
  refine .cons (.bu [(0, .tmp 11), (1, .tmp 16)] [(0, 2), (2, 7)] [.string ByteArray.empty, .slice none 0 0, .int .i64 0, .int .i64 0, .slice none 0 0, .int .i64 0, .string ByteArray.empty, .slice none 0 0, .slice none 0 0] rfl rfl rfl rfl rfl) ?_
  refine .cons (.sT 9 true rfl rfl rfl rfl rfl rfl rfl) ?_
  refine .nil ⟨by kernel_rfl, ?_⟩
  refine ks_n ?_
  refine ACode.ret ?_
  refine kf_ret rfl ?_ nobox
  rfl

end Go.Proofs.Ytigdfdhjnadieaa

/- Depth of statements; condition: small lists. -/
namespace Go.Proofs.Ytigdfdhjnadieaa
set_option linter.unusedVariables false
set_option linter.unusedSimpArgs false
open Go.RowKit

theorem fold_take {α : Type} {c : Int → α → Int} {n : Int} {l : List α} {i : Nat} {x : α} (h : l[i]? = some x) : (l.take (i + 1)).foldl c n = c ((l.take i).foldl c n) x := by
  rw [List.take_add_one, h, List.foldl_append]; rfl
theorem fold_row {α : Type} {c : Int → α → Int} {n : Int} {l : List α} {i : Nat} {x : α} (h : l[i]? = some x) : dR [rI (c ((l.take i).foldl c n) x)] = dR [rI ((l.take (i + 1)).foldl c n)] := by rw [fold_take h]
theorem fold_row1 {α : Type} {c : Int → α → Int} {n : Int} {l : List α} {x : α} (h : l[0]? = some x) : dR [rI (c n x)] = dR [rI ((l.take 1).foldl c n)] := by
  have := fold_take (c := c) (n := n) h
  rw [this]; rfl

set_option maxRecDepth 100000 in
set_option maxHeartbeats 1600000 in
theorem depth1_fn (x : Aff) (n : Int) : Fn Try.prog 61 (hbI n) [ad (rA x), .c (.box 0 1 0 0)] (.o (ad (rA x))) (hbI (max n (affDepth x : Nat))) := by
  refine Fn.of_code Try.func61 rfl rfl (hbI_HB _) rfl rfl (hbI_HB _) rfl (hbI_num _ _) ?_
  refine ACode.seq ?_
  refine ACode.region ?_
  refine .cons (St1.boxP rfl rfl rfl rfl rfl rfl) ?_
  refine .cons (.al 103 [.slice none 0 0, .int .i64 0] rfl rfl rfl) ?_
  refine .nil ?_
  refine ks_n ?_
  refine ACode.seq ?_
  refine ACode.drawK (by kernel_rfl) (by kernel_rfl) ?_
  refine .cons (.b1 1 rfl rfl rfl rfl rfl rfl) ?_
  refine .cons (.lN 2 rfl rfl rfl) ?_
  refine .cons (.cP [.tmp 5] rfl rfl rfl rfl (depth_fn x) rfl) ?_
  refine .cons (St1.max2 rfl rfl rfl rfl rfl rfl) ?_
  refine .cons (.sT 1 false rfl rfl rfl rfl rfl rfl rfl) ?_
  refine .nil ⟨by kernel_rfl, ?_⟩
  refine ks_n ?_
  refine ACode.seq ?_
  refine ACode.region ?_
  refine .cons (.lN 2 rfl rfl rfl) ?_
  refine .cons (.sT 2 true rfl rfl rfl rfl rfl rfl rfl) ?_
  refine .nil ?_
  refine ks_n ?_
  refine ACode.ret ?_
  refine kf_ret rfl ?_ (hbI_box rfl)
  rfl

set_option maxRecDepth 100000 in
set_option maxHeartbeats 1600000 in
theorem accMapB_fn {f : FuncId} (hc : callable Try.prog f = true) (g : Aff → Aff) (c : Int → Aff → Int) (n : Int) (a : Acc) (ha : a.2.length ≤ 1073741824) (hg : ∀ x ∈ a.2, ∀ n, Fn Try.prog f (hbI n) [ad (rA x), .c (.box 0 1 0 0)] (.o (ad (rA (g x)))) (hbI (c n x))) : Fn Try.prog 120 (hbI n) [ad (rC a), .c (.fb f 0 1)] (.o (ad (rC (mapC g a)))) (hbI (a.2.foldl c n)) := by
  refine Fn.of_code Try.func120 rfl rfl (hbI_HB _) rfl rfl (hbI_HB _) rfl (hbI_num _ _) ?_
  refine ACode.seq ?_
  refine ACode.region ?_
  refine .cons (St1.boxP rfl rfl rfl rfl rfl rfl) ?_
  refine .cons (.al 104 [.string ByteArray.empty, .slice none 0 0] rfl rfl rfl) ?_
  refine .nil ?_
  refine ks_n ?_
  refine ACode.seq ?_
  refine ACode.region ?_
  refine .cons (.fP 0 0 false rfl rfl) ?_
  refine .cons (.l1 1 rfl rfl) ?_
  refine .cons (.bu [(0, .tmp 9)] [(0, 1), (1, 1)] [.string ByteArray.empty, .slice none 0 0] rfl rfl rfl rfl rfl) ?_
  refine .cons (.al 105 [.string ByteArray.empty, .slice none 0 0] rfl rfl rfl) ?_
  refine .cons (.sT 2 true rfl rfl rfl rfl rfl rfl rfl) ?_
  refine .nil ?_
  refine ks_n ?_
  refine ACode.seq ?_
  refine ACode.seq ?_
  refine ACode.region ?_
  refine .cons (.fP 1 0 false rfl rfl) ?_
  refine .cons (.l1 1 rfl rfl) ?_
  refine .cons (.ln 28 2 32 rfl rfl rfl) ?_
  refine .cons (.mv rfl rfl) ?_
  refine .nil ?_
  refine ks_n ?_
  refine ACode.block ?_
  refine .loopK (fun m σ => (∃ i : Nat, m = a.2.length - i ∧ (i = 0) ∧ σ = [(.t 1, .v (.o (.c (.fb f 0 1)))), (.t 2, .v (.o (.c (.ptr (rC a))))), (.t 4, .v (.o (.c (.box 110 2 0 0)))), (.t 5, .v (.o (.c (.box 111 2 0 0)))), (.t 12, .v (.o (vD (dAs a.2)))), (.t 13, .v (.o (nat1 (a.2.length : Nat)))), (.t 14, .v (.o (nat1 (i : Nat)))), (.b 0, .b 3 1 (dR ([rI (n)]))), (.u 0, .u), (.b 110, .b 25 2 [[.d (dS ByteArray.empty), .d (.val (.slice none 0 0))]]), (.u 110, .u), (.b 111, .b 25 2 [[.d (dS a.1), .d (.val (.slice none 0 0))]]), (.u 111, .u)]) ∨ (∃ i : Nat, m = a.2.length - i ∧ (1 ≤ i) ∧ (i ≤ a.2.length) ∧ σ = [(.t 1, .v (.o (.c (.fb f 0 1)))), (.t 2, .v (.o (.c (.ptr (rC a))))), (.t 4, .v (.o (.c (.box 110 2 0 0)))), (.t 5, .v (.o (.c (.box 111 2 0 0)))), (.t 12, .v (.o (vD (dAs a.2)))), (.t 13, .v (.o (nat1 (a.2.length : Nat)))), (.t 14, .v (.o (nat1 (i : Nat)))), (.b 0, .b 3 1 (dR ([rI ((a.2.take i).foldl c n)]))), (.u 0, .u), (.b 110, .b 25 2 [[.d (dS ByteArray.empty), .d (.val (.slice none 0 0))]]), (.u 110, .u), (.b 112, .b 28 2 (dR ((a.2.take i).map fun x => rA (g x)))), (.u 112, .u), (.b 111, .b 25 2 [[.d (dS a.1), .own 112 2 (i)]]), (.u 111, .u)])) [(0, 0), (110, 104), (111, 105)] (.inl ⟨0, rfl, rfl, rfl⟩) ⟨ks rfl (.c (.fb _ _ _ _ (by first | decide | simp))), ks rfl .dt, ks rfl (.c .bx), ks rfl (.c .bx), ks rfl .dt, ks rfl .dt, ks rfl .dt, kb 0 rfl (.dt rfl), kb 104 rfl (.cons (.cons .dt (.cons .dt Ctos.nil)) .nil), kb 105 rfl (.cons (.cons .dt (.cons .dt Ctos.nil)) .nil), trivial⟩ ?_
  rintro m σ (⟨i, hm0, rfl, rfl⟩ | ⟨i, hm0, hi1, hi2, rfl⟩)
  · skip
    refine ACode.seq ?_
    refine ACode.region ?_
    refine .cons (.ls rfl rfl rfl) ?_
    refine .nil ?_
    refine ks_n ?_
    refine ACode.seq ?_
    refine .cD rfl (fun h15 => ?_) (fun h15 => ?_)
    · skip
      obtain ⟨x, hx1⟩ : ∃ x, a.2[0]? = some x := ⟨_, List.getElem?_eq_getElem (by omega)⟩
      refine ACode.skip ?_
      refine ks_n ?_
      refine ACode.seq ?_
      refine ACode.block ?_
      refine ACode.seq ?_
      refine ACode.region ?_
      refine .cons (.xL 28 2 32 rfl rfl rfl rfl rfl) ?_
      refine .cons (.lN 2 rfl rfl rfl) ?_
      refine .cons (.al 107 [.slice none 0 0, .int .i64 0] rfl rfl rfl) ?_
      refine .cons (.sT 2 true rfl rfl rfl rfl rfl rfl rfl) ?_
      refine .nil ?_
      refine ks_n ?_
      refine ACode.drawK (by kernel_rfl) (by kernel_rfl) ?_
      refine .cons (.fB 1 0 false rfl rfl rfl) ?_
      refine .cons (.b1 1 rfl rfl rfl rfl rfl rfl) ?_
      refine .cons (.mv rfl rfl) ?_
      refine .cons (.bN 2 rfl rfl rfl rfl rfl rfl) ?_
      refine .cons (.cX [.tmp 21] [(0, 0)] rfl rfl rfl rfl rfl (hg x (List.mem_of_getElem? hx1) _) rfl ⟨rfl, trivial⟩ (hbI_flat _) (hbI_flat _) (hbI_HB _) outS_one (hcall := hc)) ?_
      refine .cons (.li 28 1 0 [.tmp 22] rfl rfl rfl rfl rfl rfl) ?_
      refine .cons (St1.appN (k' := 124) (e := 28) (sz := 1) (by' := 32) rfl rfl rfl rfl rfl (by kernel_rfl) rfl rfl rfl (by simp) (by first | (simp [dR]; done) | (simp [dR]; omega)) rfl rfl) ?_
      refine .cons (.fB 1 0 false rfl rfl rfl) ?_
      refine .cons (.sT 1 false rfl rfl rfl rfl rfl rfl rfl) ?_
      refine .nil ⟨by kernel_rfl, ?_⟩
      refine kb_n ?_
      refine ks_n ?_
      refine ACode.region ?_
      refine .cons (.pl rfl rfl rfl) ?_
      refine .cons (.mv rfl rfl) ?_
      refine .nil ?_
      refine kl_k [(0, 0), (110, 110), (111, 111), (112, 124)] (.inr ⟨1, rfl, by omega, by omega, rfl⟩) ⟨ks rfl (.c (.fb _ _ _ _ (by first | decide | simp))), ks rfl .dt, ks rfl (.c .bx), ks rfl (.c .bx), ks rfl .dt, ks rfl .dt, ks rfl .dt, kb 0 rfl (.dt rfl (by first | exact fold_row hx1 | exact fold_row1 hx1 | rfl | (simp; done))), kb 110 rfl (.cons (.cons .dt (.cons .dt Ctos.nil)) .nil), kb 124 rfl (.dt rfl (by first | exact dR_take (fun x => rA (g x)) hx1 | exact dR_take1 (fun x => rA (g x)) hx1 | rfl | (simp [dR]; done))), kb 111 rfl (.cons (.cons .dt (.cons .ow Ctos.nil)) .nil), trivial⟩
    · skip
      have hn : a.2 = [] := List.eq_nil_of_length_eq_zero (by omega)
      refine ACode.exit ?_
      refine ks_e ?_
      refine kl_e ?_
      refine kb_hit ?_
      refine ks_n ?_
      refine ACode.seq ?_
      refine ACode.region ?_
      refine .cons (.bN 2 rfl rfl rfl rfl rfl rfl) ?_
      refine .cons (.sT 2 true rfl rfl rfl rfl rfl rfl rfl) ?_
      refine .nil ?_
      refine ks_n ?_
      refine ACode.ret ?_
      refine kf_wret [(.t 4, .v (.o (.c (.box 100 2 0 0)))), (.b 0, .b 3 1 (dR ([rI (a.2.foldl c n)]))), (.u 0, .u), (.b 100, .b 25 2 [[.d (dS a.1), .d (dAs (a.2.map g))]]), (.u 100, .u)] (Wk.keep [(0, 0), (100, 110)] rfl rfl ⟨ks rfl (.c .bx), kb 0 rfl (.dt rfl (by first | rfl | (rw [hn]; rfl) | (rw [List.take_length]; done))), kb 110 rfl (.cons (.cons .dt (.cons (Cto.nilE 2 (by rw [hn]; rfl)) Ctos.nil)) .nil), trivial⟩) rfl ?_ (hbI_box rfl)
      rfl
  · skip
    refine ACode.seq ?_
    refine ACode.region ?_
    refine .cons (.ls rfl rfl rfl) ?_
    refine .nil ?_
    refine ks_n ?_
    refine ACode.seq ?_
    refine .cD rfl (fun h15 => ?_) (fun h15 => ?_)
    · skip
      obtain ⟨x, hx1⟩ : ∃ x, a.2[i]? = some x := ⟨_, List.getElem?_eq_getElem (by omega)⟩
      refine ACode.skip ?_
      refine ks_n ?_
      refine ACode.seq ?_
      refine ACode.block ?_
      refine ACode.seq ?_
      refine ACode.region ?_
      refine .cons (.xL 28 2 32 rfl rfl rfl rfl rfl) ?_
      refine .cons (.lN 2 rfl rfl rfl) ?_
      refine .cons (.al 107 [.slice none 0 0, .int .i64 0] rfl rfl rfl) ?_
      refine .cons (.sT 2 true rfl rfl rfl rfl rfl rfl rfl) ?_
      refine .nil ?_
      refine ks_n ?_
      refine ACode.drawK (by kernel_rfl) (by kernel_rfl) ?_
      refine .cons (.fB 1 0 false rfl rfl rfl) ?_
      refine .cons (.b1 1 rfl rfl rfl rfl rfl rfl) ?_
      refine .cons (.mv rfl rfl) ?_
      refine .cons (.bN 2 rfl rfl rfl rfl rfl rfl) ?_
      refine .cons (.cX [.tmp 21] [(0, 0)] rfl rfl rfl rfl rfl (hg x (List.mem_of_getElem? hx1) _) rfl ⟨rfl, trivial⟩ (hbI_flat _) (hbI_flat _) (hbI_HB _) outS_one (hcall := hc)) ?_
      refine .cons (.li 28 1 0 [.tmp 22] rfl rfl rfl rfl rfl rfl) ?_
      refine .cons (St1.appB (k' := 124) (e := 28) (sz := 1) (by' := 32) rfl rfl rfl rfl rfl (by kernel_rfl) rfl rfl rfl rfl (by first | (simp [dR]; done) | (simp [dR]; omega)) (by first | (simp [dR]; done) | (simp [dR]; omega)) rfl rfl rfl) ?_
      refine .cons (.fB 1 0 false rfl rfl rfl) ?_
      refine .cons (.sT 1 false rfl rfl rfl rfl rfl rfl rfl) ?_
      refine .nil ⟨by kernel_rfl, ?_⟩
      refine kb_n ?_
      refine ks_n ?_
      refine ACode.region ?_
      refine .cons (.pl rfl rfl rfl) ?_
      refine .cons (.mv rfl rfl) ?_
      refine .nil ?_
      refine kl_k [(0, 0), (110, 110), (111, 111), (112, 124)] (.inr ⟨i + 1, rfl, by omega, by omega, rfl⟩) ⟨ks rfl (.c (.fb _ _ _ _ (by first | decide | simp))), ks rfl .dt, ks rfl (.c .bx), ks rfl (.c .bx), ks rfl .dt, ks rfl .dt, ks rfl .dt, kb 0 rfl (.dt rfl (by first | exact fold_row hx1 | exact fold_row1 hx1 | rfl | (simp; done))), kb 110 rfl (.cons (.cons .dt (.cons .dt Ctos.nil)) .nil), kb 124 rfl (.dt rfl (by first | exact dR_take (fun x => rA (g x)) hx1 | exact dR_take1 (fun x => rA (g x)) hx1 | rfl | (simp [dR]; done))), kb 111 rfl (.cons (.cons .dt (.cons .ow Ctos.nil)) .nil), trivial⟩
    · skip
      obtain rfl : i = a.2.length := by omega
      refine ACode.exit ?_
      refine ks_e ?_
      refine kl_e ?_
      refine kb_hit ?_
      refine ks_n ?_
      refine ACode.seq ?_
      refine ACode.region ?_
      refine .cons (.bN 2 rfl rfl rfl rfl rfl rfl) ?_
      refine .cons (.sT 2 true rfl rfl rfl rfl rfl rfl rfl) ?_
      refine .nil ?_
      refine ks_n ?_
      refine ACode.ret ?_
      refine kf_wret [(.t 4, .v (.o (.c (.box 100 2 0 0)))), (.b 0, .b 3 1 (dR ([rI (a.2.foldl c n)]))), (.u 0, .u), (.b 100, .b 25 2 [[.d (dS a.1), .d (dAs (a.2.map g))]]), (.u 100, .u)] (Wk.keep [(0, 0), (100, 110)] rfl rfl ⟨ks rfl (.c .bx), kb 0 rfl (.dt rfl (by first | rfl | (rw [hn]; rfl) | (rw [List.take_length]; done))), kb 110 rfl (.cons (.cons .dt (.cons (.fz rfl (by first | rfl | exact dR_af _ _ | (rw [List.take_length]; done)) (by first | rfl | (simp; done) | (simp; omega)) (by omega)) Ctos.nil)) .nil), trivial⟩) rfl ?_ (hbI_box rfl)
      rfl

def own0 (e : Ex) : List Aff := (if e.k = 2 then [e.i] else []) ++ (if e.k = 3 then e.r.2 else [])
theorem own0_i {c : Int → Aff → Int} {n : Int} {e : Ex} (h : e.k = 2) : (own0 e).foldl c n = c n e.i := by rw [own0, if_pos h, if_neg (by omega)]; rfl
theorem own0_r {c : Int → Aff → Int} {n : Int} {e : Ex} (h : e.k = 3) : (own0 e).foldl c n = e.r.2.foldl c n := by rw [own0, if_neg (by omega), if_pos h]; rfl
theorem own0_n {c : Int → Aff → Int} {n : Int} {e : Ex} (h : ¬ e.k = 2) (h3 : ¬ e.k = 3) : (own0 e).foldl c n = n := by rw [own0, if_neg h, if_neg h3]; rfl
theorem affsE_fold {c : Int → Aff → Int} {n : Int} (e : Ex) : (affsE e).foldl c n = (affsEs e.ks).foldl c ((own0 e).foldl c n) := by rw [affsE_eq, ← List.append_assoc, List.foldl_append]; rfl
theorem affsEs_take {l : List Ex} {i : Nat} {x : Ex} (h : l[i]? = some x) : affsEs (l.take (i + 1)) = affsEs (l.take i) ++ affsE x := by
  rw [List.take_add_one, h]
  generalize l.take i = m
  induction m with
  | nil => simp [affsEs]
  | cons y m ih => rw [List.cons_append, affsEs, affsEs, ih, List.append_assoc]
theorem kid_row {c : Int → Aff → Int} {m : Int} {l : List Ex} {i : Nat} {x : Ex} (h : l[i]? = some x) : dR [rI ((affsE x).foldl c ((affsEs (l.take i)).foldl c m))] = dR [rI ((affsEs (l.take (i + 1))).foldl c m)] := by rw [affsEs_take h, List.foldl_append]
theorem kid_row1 {c : Int → Aff → Int} {m : Int} {l : List Ex} {x : Ex} (h : l[0]? = some x) : dR [rI ((affsE x).foldl c m)] = dR [rI ((affsEs (l.take 1)).foldl c m)] := by
  rw [affsEs_take h, List.foldl_append]; rfl

set_option maxRecDepth 100000 in
set_option maxHeartbeats 1600000 in
theorem exprMapB_one {f : FuncId} (hc : callable Try.prog f = true) (g : Aff → Aff) (c : Int → Aff → Int) (n : Int) (e : Ex) (hr : e.r.2.length ≤ 1073741824) (hk : e.ks.length ≤ 1073741824) (hg : ∀ x ∈ affsE e, ∀ n, Fn Try.prog f (hbI n) [ad (rA x), .c (.box 0 1 0 0)] (.o (ad (rA (g x)))) (hbI (c n x))) (ih : ∀ x ∈ e.ks, ∀ n, Fn Try.prog 121 (hbI n) [ad (rX x), .c (.fb f 0 1)] (.o (ad (rX (mapE g x)))) (hbI ((affsE x).foldl c n))) : Fn Try.prog 121 (hbI n) [ad (rX e), .c (.fb f 0 1)] (.o (ad (rX (mapE g e)))) (hbI ((affsE e).foldl c n)) := by
  refine Fn.of_code Try.func121 rfl rfl (hbI_HB _) rfl rfl (hbI_HB _) rfl (hbI_num _ _) ?_
  refine ACode.seq ?_
  refine ACode.region ?_
  refine .cons (St1.boxP rfl rfl rfl rfl rfl rfl) ?_
  refine .cons (.al 104 [.int .i64 0, .int .i64 0, .slice none 0 0, .int .i64 0, .string ByteArray.empty, .slice none 0 0, .slice none 0 0] rfl rfl rfl) ?_
  refine .nil ?_
  refine ks_n ?_
  refine ACode.seq ?_
  refine ACode.region ?_
  refine .cons (.fP 0 0 false rfl rfl) ?_
  refine .cons (.l1 1 rfl rfl) ?_
  refine .cons (.fP 1 0 false rfl rfl) ?_
  refine .cons (.l1 1 rfl rfl) ?_
  refine .cons (.bu [(0, .tmp 9), (1, .tmp 11)] [(0, 1), (1, 1), (2, 2), (4, 2), (6, 1)] [.int .i64 0, .int .i64 0, .slice none 0 0, .int .i64 0, .string ByteArray.empty, .slice none 0 0, .slice none 0 0] rfl rfl rfl rfl rfl) ?_
  refine .cons (.al 105 [.int .i64 0, .int .i64 0, .slice none 0 0, .int .i64 0, .string ByteArray.empty, .slice none 0 0, .slice none 0 0] rfl rfl rfl) ?_
  refine .cons (.sT 7 true rfl rfl rfl rfl rfl rfl rfl) ?_
  refine .nil ?_
  refine ks_n ?_
  refine ACode.seq ?_
  refine ACode.cut [(.t 1, .v (.o (.c (.fb f 0 1)))), (.t 2, .v (.o (.c (.ptr (rX e))))), (.t 4, .v (.o (.c (.box 810 7 0 0)))), (.t 5, .v (.o (.c (.box 811 7 0 0)))), (.b 0, .b 3 1 (dR ([rI ((own0 e).foldl c n)]))), (.u 0, .u), (.b 810, .b 31 7 [[.d (dI 0), .d (dI 0), .d (.val (.slice none 0 0)), .d (dI 0), .d (dS ByteArray.empty), .d (.val (.slice none 0 0)), .d (.val (.slice none 0 0))]]), (.u 810, .u), (.b 811, .b 31 7 [[.d (dI e.k), .d (dI e.n), .d (dIs (if e.k = 2 then g e.i else ([], 0)).1), .d (dI (if e.k = 2 then g e.i else ([], 0)).2), .d (dS (if e.k = 3 then mapC g e.r else (ByteArray.empty, [])).1), .d (dAs (if e.k = 3 then mapC g e.r else (ByteArray.empty, [])).2), .d (.val (.slice none 0 0))]]), (.u 811, .u)] ?_ ?_
  · skip
    refine ACode.seq ?_
    refine ACode.region ?_
    refine .cons (.fP 0 0 false rfl rfl) ?_
    refine .cons (.l1 1 rfl rfl) ?_
    refine .nil ?_
    refine ks_n ?_
    refine ACode.block ?_
    refine ACode.seq ?_
    refine ACode.region ?_
    refine .cons (.eq rfl rfl rfl) ?_
    refine .cons (.asg rfl rfl) ?_
    refine .nil ?_
    refine ks_n ?_
    refine .cD rfl (fun h15 => ?_) (fun h15 => ?_)
    · skip
      refine ACode.region ?_
      refine .cons (.mv rfl rfl) ?_
      refine .cons (.fP 2 1 true rfl rfl) ?_
      refine .cons (.lN 2 rfl rfl rfl) ?_
      refine .cons (.cX [.tmp 19] [(0, 0)] rfl rfl rfl rfl rfl (hg _ (affsE_i h15) _) rfl ⟨rfl, trivial⟩ (hbI_flat _) (hbI_flat _) (hbI_HB _) outS_one (hcall := hc)) ?_
      refine .cons (.fB 2 1 true rfl rfl rfl) ?_
      refine .cons (.sT 2 true rfl rfl rfl rfl rfl rfl rfl) ?_
      refine .nil ?_
      refine kb_n ?_
      exact kc_n (Wk.keep [(0, 0), (810, 104), (811, 105)] rfl rfl ⟨ks rfl (.c (.fb _ _ _ _ (by first | decide | simp))), ks rfl .dt, ks rfl (.c .bx), ks rfl (.c .bx), kb 0 rfl (.dt rfl (by first | rw [own0_i (by omega)] | rw [own0_r (by omega)] | rw [own0_n (by omega) (by omega)])), kb 104 rfl (.cons (.cons .dt (.cons .dt (.cons .dt (.cons .dt (.cons .dt (.cons .dt (.cons .dt Ctos.nil))))))) .nil), kb 105 rfl (.cons (.cons .dt (.cons .dt (.cons (.dt (by first | rfl | (simp [*]; done) | (simp [*]; rfl))) (.cons (.dt (by first | rfl | (simp [*]; done) | (simp [*]; rfl))) (.cons (.dt (by first | rfl | (simp [*]; done) | (simp [*]; rfl))) (.cons (Cto.nilE 2 (by rw [if_neg (show ¬ e.k = 3 by omega)]; rfl)) (.cons .dt Ctos.nil))))))) .nil), trivial⟩)
    · skip
      refine ACode.seq ?_
      refine ACode.region ?_
      refine .cons (.eq rfl rfl rfl) ?_
      refine .cons (.asg rfl rfl) ?_
      refine .nil ?_
      refine ks_n ?_
      refine .cD rfl (fun h22 => ?_) (fun h22 => ?_)
      · skip
        refine ACode.region ?_
        refine .cons (.fP 4 1 true rfl rfl) ?_
        refine .cons (.lN 2 rfl rfl rfl) ?_
        refine .cons (.mv rfl rfl) ?_
        refine .cons (.cO [.tmp 25, .tmp 26] [(0, 0)] rfl rfl rfl rfl (accMapB_fn hc g c n e.r hr (fun x hx => hg x (affsE_r h22 hx))) rfl ⟨rfl, trivial⟩ (hbI_flat _) (hbI_flat _) (hbI_HB _) outS_one) ?_
        refine .cons (.fB 4 1 true rfl rfl rfl) ?_
        refine .cons (.sT 2 true rfl rfl rfl rfl rfl rfl rfl) ?_
        refine .nil ?_
        refine kb_n ?_
        exact kc_n (Wk.keep [(0, 0), (810, 104), (811, 105)] rfl rfl ⟨ks rfl (.c (.fb _ _ _ _ (by first | decide | simp))), ks rfl .dt, ks rfl (.c .bx), ks rfl (.c .bx), kb 0 rfl (.dt rfl (by first | rw [own0_i (by omega)] | rw [own0_r (by omega)] | rw [own0_n (by omega) (by omega)])), kb 104 rfl (.cons (.cons .dt (.cons .dt (.cons .dt (.cons .dt (.cons .dt (.cons .dt (.cons .dt Ctos.nil))))))) .nil), kb 105 rfl (.cons (.cons .dt (.cons .dt (.cons (Cto.nilE 1 (by rw [if_neg (show ¬ e.k = 2 by omega)]; rfl)) (.cons (.dt (by first | rfl | (simp [*]; done) | (simp [*]; rfl))) (.cons (.dt (by first | rfl | (simp [*]; done) | (simp [*]; rfl))) (.cons (.dt (by first | rfl | (simp [*]; done) | (simp [*]; rfl))) (.cons .dt Ctos.nil))))))) .nil), trivial⟩)
      · skip
        refine ACode.skip ?_
        refine kb_n ?_
        exact kc_n (Wk.keep [(0, 0), (810, 104), (811, 105)] rfl rfl ⟨ks rfl (.c (.fb _ _ _ _ (by first | decide | simp))), ks rfl .dt, ks rfl (.c .bx), ks rfl (.c .bx), kb 0 rfl (.dt rfl (by first | rw [own0_i (by omega)] | rw [own0_r (by omega)] | rw [own0_n (by omega) (by omega)])), kb 104 rfl (.cons (.cons .dt (.cons .dt (.cons .dt (.cons .dt (.cons .dt (.cons .dt (.cons .dt Ctos.nil))))))) .nil), kb 105 rfl (.cons (.cons .dt (.cons .dt (.cons (Cto.nilE 1 (by rw [if_neg (show ¬ e.k = 2 by omega)]; rfl)) (.cons (.dt (by first | rfl | (simp [*]; done) | (simp [*]; rfl))) (.cons (.dt (by first | rfl | (simp [*]; done) | (simp [*]; rfl))) (.cons (Cto.nilE 2 (by rw [if_neg (show ¬ e.k = 3 by omega)]; rfl)) (.cons .dt Ctos.nil))))))) .nil), trivial⟩)
  refine ks_n ?_
  refine ACode.seq ?_
  refine ACode.seq ?_
  refine ACode.region ?_
  refine .cons (.fP 6 0 false rfl rfl) ?_
  refine .cons (.l1 1 rfl rfl) ?_
  refine .cons (.ln 31 7 112 rfl rfl rfl) ?_
  refine .cons (.mv rfl rfl) ?_
  refine .nil ?_
  refine ks_n ?_
  refine ACode.block ?_
  refine .loopK (fun m σ => (∃ i : Nat, m = e.ks.length - i ∧ (i = 0) ∧ σ = [(.t 1, .v (.o (.c (.fb f 0 1)))), (.t 2, .v (.o (.c (.ptr (rX e))))), (.t 4, .v (.o (.c (.box 110 7 0 0)))), (.t 5, .v (.o (.c (.box 111 7 0 0)))), (.t 30, .v (.o (vD (dEs e.ks)))), (.t 31, .v (.o (nat1 (e.ks.length : Nat)))), (.t 32, .v (.o (nat1 (i : Nat)))), (.b 0, .b 3 1 (dR ([rI ((own0 e).foldl c n)]))), (.u 0, .u), (.b 110, .b 31 7 [[.d (dI 0), .d (dI 0), .d (.val (.slice none 0 0)), .d (dI 0), .d (dS ByteArray.empty), .d (.val (.slice none 0 0)), .d (.val (.slice none 0 0))]]), (.u 110, .u), (.b 111, .b 31 7 [[.d (dI e.k), .d (dI e.n), .d (dIs (if e.k = 2 then g e.i else ([], 0)).1), .d (dI (if e.k = 2 then g e.i else ([], 0)).2), .d (dS (if e.k = 3 then mapC g e.r else (ByteArray.empty, [])).1), .d (dAs (if e.k = 3 then mapC g e.r else (ByteArray.empty, [])).2), .d (.val (.slice none 0 0))]]), (.u 111, .u)]) ∨ (∃ i : Nat, m = e.ks.length - i ∧ (1 ≤ i) ∧ (i ≤ e.ks.length) ∧ σ = [(.t 1, .v (.o (.c (.fb f 0 1)))), (.t 2, .v (.o (.c (.ptr (rX e))))), (.t 4, .v (.o (.c (.box 110 7 0 0)))), (.t 5, .v (.o (.c (.box 111 7 0 0)))), (.t 30, .v (.o (vD (dEs e.ks)))), (.t 31, .v (.o (nat1 (e.ks.length : Nat)))), (.t 32, .v (.o (nat1 (i : Nat)))), (.b 0, .b 3 1 (dR ([rI ((affsEs (e.ks.take i)).foldl c ((own0 e).foldl c n))]))), (.u 0, .u), (.b 110, .b 31 7 [[.d (dI 0), .d (dI 0), .d (.val (.slice none 0 0)), .d (dI 0), .d (dS ByteArray.empty), .d (.val (.slice none 0 0)), .d (.val (.slice none 0 0))]]), (.u 110, .u), (.b 112, .b 31 7 (dR ((e.ks.take i).map fun x => rX (mapE g x)))), (.u 112, .u), (.b 111, .b 31 7 [[.d (dI e.k), .d (dI e.n), .d (dIs (if e.k = 2 then g e.i else ([], 0)).1), .d (dI (if e.k = 2 then g e.i else ([], 0)).2), .d (dS (if e.k = 3 then mapC g e.r else (ByteArray.empty, [])).1), .d (dAs (if e.k = 3 then mapC g e.r else (ByteArray.empty, [])).2), .own 112 7 (i)]]), (.u 111, .u)])) [(0, 0), (110, 810), (111, 811)] (.inl ⟨0, rfl, rfl, rfl⟩) ⟨ks rfl (.c (.fb _ _ _ _ (by first | decide | simp))), ks rfl .dt, ks rfl (.c .bx), ks rfl (.c .bx), ks rfl .dt, ks rfl .dt, ks rfl .dt, kb 0 rfl (.dt rfl), kb 810 rfl (.cons (.cons .dt (.cons .dt (.cons .dt (.cons .dt (.cons .dt (.cons .dt (.cons .dt Ctos.nil))))))) .nil), kb 811 rfl (.cons (.cons .dt (.cons .dt (.cons (.dt (by first | rfl | (simp [*]; done) | (simp [*]; rfl))) (.cons (.dt (by first | rfl | (simp [*]; done) | (simp [*]; rfl))) (.cons (.dt (by first | rfl | (simp [*]; done) | (simp [*]; rfl))) (.cons (.dt (by first | rfl | (simp [*]; done) | (simp [*]; rfl))) (.cons .dt Ctos.nil))))))) .nil), trivial⟩ ?_
  rintro m σ (⟨i, hm0, rfl, rfl⟩ | ⟨i, hm0, hi1, hi2, rfl⟩)
  · skip
    refine ACode.seq ?_
    refine ACode.region ?_
    refine .cons (.ls rfl rfl rfl) ?_
    refine .nil ?_
    refine ks_n ?_
    refine ACode.seq ?_
    refine .cD rfl (fun h33 => ?_) (fun h33 => ?_)
    · skip
      obtain ⟨x, hx1⟩ : ∃ x, e.ks[0]? = some x := ⟨_, List.getElem?_eq_getElem (by omega)⟩
      refine ACode.skip ?_
      refine ks_n ?_
      refine ACode.seq ?_
      refine ACode.block ?_
      refine ACode.seq ?_
      refine ACode.region ?_
      refine .cons (.xL 31 7 112 rfl rfl rfl rfl rfl (rE_at hx1)) ?_
      refine .cons (.lN 7 rfl rfl rfl) ?_
      refine .cons (.al 107 [.int .i64 0, .int .i64 0, .slice none 0 0, .int .i64 0, .string ByteArray.empty, .slice none 0 0, .slice none 0 0] rfl rfl rfl) ?_
      refine .cons (.sT 7 true rfl rfl rfl rfl rfl rfl rfl) ?_
      refine .nil ?_
      refine ks_n ?_
      refine ACode.drawK (by kernel_rfl) (by kernel_rfl) ?_
      refine .cons (.fB 6 0 false rfl rfl rfl) ?_
      refine .cons (.b1 1 rfl rfl rfl rfl rfl rfl) ?_
      refine .cons (.bN 7 rfl rfl rfl rfl rfl rfl) ?_
      refine .cons (.mv rfl rfl) ?_
      refine .cons (.cO [.tmp 38, .tmp 39] [(0, 0)] rfl rfl rfl rfl (ih x (List.mem_of_getElem? hx1) _) rfl ⟨rfl, trivial⟩ (hbI_flat _) (hbI_flat _) (hbI_HB _) outS_one) ?_
      refine .cons (.li 31 6 0 [.tmp 40] rfl rfl rfl rfl rfl rfl) ?_
      refine .cons (St1.appN (k' := 142) (e := 31) (sz := 6) (by' := 112) rfl rfl rfl rfl rfl (by kernel_rfl) rfl rfl rfl (by simp) (by first | (simp [dR]; done) | (simp [dR]; omega)) rfl rfl) ?_
      refine .cons (.fB 6 0 false rfl rfl rfl) ?_
      refine .cons (.sT 1 false rfl rfl rfl rfl rfl rfl rfl) ?_
      refine .nil ⟨by kernel_rfl, ?_⟩
      refine kb_n ?_
      refine ks_n ?_
      refine ACode.region ?_
      refine .cons (.pl rfl rfl rfl) ?_
      refine .cons (.mv rfl rfl) ?_
      refine .nil ?_
      refine kl_k [(0, 0), (110, 110), (111, 111), (112, 142)] (.inr ⟨1, rfl, by omega, by omega, rfl⟩) ⟨ks rfl (.c (.fb _ _ _ _ (by first | decide | simp))), ks rfl .dt, ks rfl (.c .bx), ks rfl (.c .bx), ks rfl .dt, ks rfl .dt, ks rfl .dt, kb 0 rfl (.dt rfl (by first | exact kid_row hx1 | exact kid_row1 hx1 | rfl | (simp; done))), kb 110 rfl (.cons (.cons .dt (.cons .dt (.cons .dt (.cons .dt (.cons .dt (.cons .dt (.cons .dt Ctos.nil))))))) .nil), kb 142 rfl (.dt rfl (by first | exact dR_take (fun x => rX (mapE g x)) hx1 | exact dR_take1 (fun x => rX (mapE g x)) hx1 | rfl | (simp [dR]; done))), kb 111 rfl (.cons (.cons .dt (.cons .dt (.cons (.dt (by first | rfl | (simp [*]; done) | (simp [*]; rfl))) (.cons (.dt (by first | rfl | (simp [*]; done) | (simp [*]; rfl))) (.cons (.dt (by first | rfl | (simp [*]; done) | (simp [*]; rfl))) (.cons (.dt (by first | rfl | (simp [*]; done) | (simp [*]; rfl))) (.cons .ow Ctos.nil))))))) .nil), trivial⟩
    · skip
      have hn : e.ks = [] := List.eq_nil_of_length_eq_zero (by omega)
      refine ACode.exit ?_
      refine ks_e ?_
      refine kl_e ?_
      refine kb_hit ?_
      refine ks_n ?_
      refine ACode.seq ?_
      refine ACode.region ?_
      refine .cons (.bN 7 rfl rfl rfl rfl rfl rfl) ?_
      refine .cons (.sT 7 true rfl rfl rfl rfl rfl rfl rfl) ?_
      refine .nil ?_
      refine ks_n ?_
      refine ACode.ret ?_
      refine kf_wret [(.t 4, .v (.o (.c (.box 100 7 0 0)))), (.b 0, .b 3 1 (dR ([rI ((affsE e).foldl c n)]))), (.u 0, .u), (.b 100, .b 31 7 [[.d (dI e.k), .d (dI e.n), .d (dIs (if e.k = 2 then g e.i else ([], 0)).1), .d (dI (if e.k = 2 then g e.i else ([], 0)).2), .d (dS (if e.k = 3 then mapC g e.r else (ByteArray.empty, [])).1), .d (dAs (if e.k = 3 then mapC g e.r else (ByteArray.empty, [])).2), .d (dEs (e.ks.map (mapE g)))]]), (.u 100, .u)] (Wk.keep [(0, 0), (100, 110)] rfl rfl ⟨ks rfl (.c .bx), kb 0 rfl (.dt rfl (by rw [affsE_fold]; first | rfl | (rw [hn]; rfl) | (rw [List.take_length]; done))), kb 110 rfl (.cons (.cons .dt (.cons .dt (.cons (.dt (by first | rfl | (simp [*]; done) | (simp [*]; rfl))) (.cons (.dt (by first | rfl | (simp [*]; done) | (simp [*]; rfl))) (.cons (.dt (by first | rfl | (simp [*]; done) | (simp [*]; rfl))) (.cons (.dt (by first | rfl | (simp [*]; done) | (simp [*]; rfl))) (.cons (Cto.nilE 7 (by rw [hn]; rfl)) Ctos.nil))))))) .nil), trivial⟩) rfl ?_ (hbI_box rfl)
      rw [rX_map]; rfl
  · skip
    refine ACode.seq ?_
    refine ACode.region ?_
    refine .cons (.ls rfl rfl rfl) ?_
    refine .nil ?_
    refine ks_n ?_
    refine ACode.seq ?_
    refine .cD rfl (fun h33 => ?_) (fun h33 => ?_)
    · skip
      obtain ⟨x, hx1⟩ : ∃ x, e.ks[i]? = some x := ⟨_, List.getElem?_eq_getElem (by omega)⟩
      refine ACode.skip ?_
      refine ks_n ?_
      refine ACode.seq ?_
      refine ACode.block ?_
      refine ACode.seq ?_
      refine ACode.region ?_
      refine .cons (.xL 31 7 112 rfl rfl rfl rfl rfl (rE_at hx1)) ?_
      refine .cons (.lN 7 rfl rfl rfl) ?_
      refine .cons (.al 107 [.int .i64 0, .int .i64 0, .slice none 0 0, .int .i64 0, .string ByteArray.empty, .slice none 0 0, .slice none 0 0] rfl rfl rfl) ?_
      refine .cons (.sT 7 true rfl rfl rfl rfl rfl rfl rfl) ?_
      refine .nil ?_
      refine ks_n ?_
      refine ACode.drawK (by kernel_rfl) (by kernel_rfl) ?_
      refine .cons (.fB 6 0 false rfl rfl rfl) ?_
      refine .cons (.b1 1 rfl rfl rfl rfl rfl rfl) ?_
      refine .cons (.bN 7 rfl rfl rfl rfl rfl rfl) ?_
      refine .cons (.mv rfl rfl) ?_
      refine .cons (.cO [.tmp 38, .tmp 39] [(0, 0)] rfl rfl rfl rfl (ih x (List.mem_of_getElem? hx1) _) rfl ⟨rfl, trivial⟩ (hbI_flat _) (hbI_flat _) (hbI_HB _) outS_one) ?_
      refine .cons (.li 31 6 0 [.tmp 40] rfl rfl rfl rfl rfl rfl) ?_
      refine .cons (St1.appB (k' := 142) (e := 31) (sz := 6) (by' := 112) rfl rfl rfl rfl rfl (by kernel_rfl) rfl rfl rfl rfl (by first | (simp [dR]; done) | (simp [dR]; omega)) (by first | (simp [dR]; done) | (simp [dR]; omega)) rfl rfl rfl) ?_
      refine .cons (.fB 6 0 false rfl rfl rfl) ?_
      refine .cons (.sT 1 false rfl rfl rfl rfl rfl rfl rfl) ?_
      refine .nil ⟨by kernel_rfl, ?_⟩
      refine kb_n ?_
      refine ks_n ?_
      refine ACode.region ?_
      refine .cons (.pl rfl rfl rfl) ?_
      refine .cons (.mv rfl rfl) ?_
      refine .nil ?_
      refine kl_k [(0, 0), (110, 110), (111, 111), (112, 142)] (.inr ⟨i + 1, rfl, by omega, by omega, rfl⟩) ⟨ks rfl (.c (.fb _ _ _ _ (by first | decide | simp))), ks rfl .dt, ks rfl (.c .bx), ks rfl (.c .bx), ks rfl .dt, ks rfl .dt, ks rfl .dt, kb 0 rfl (.dt rfl (by first | exact kid_row hx1 | exact kid_row1 hx1 | rfl | (simp; done))), kb 110 rfl (.cons (.cons .dt (.cons .dt (.cons .dt (.cons .dt (.cons .dt (.cons .dt (.cons .dt Ctos.nil))))))) .nil), kb 142 rfl (.dt rfl (by first | exact dR_take (fun x => rX (mapE g x)) hx1 | exact dR_take1 (fun x => rX (mapE g x)) hx1 | rfl | (simp [dR]; done))), kb 111 rfl (.cons (.cons .dt (.cons .dt (.cons (.dt (by first | rfl | (simp [*]; done) | (simp [*]; rfl))) (.cons (.dt (by first | rfl | (simp [*]; done) | (simp [*]; rfl))) (.cons (.dt (by first | rfl | (simp [*]; done) | (simp [*]; rfl))) (.cons (.dt (by first | rfl | (simp [*]; done) | (simp [*]; rfl))) (.cons .ow Ctos.nil))))))) .nil), trivial⟩
    · skip
      obtain rfl : i = e.ks.length := by omega
      refine ACode.exit ?_
      refine ks_e ?_
      refine kl_e ?_
      refine kb_hit ?_
      refine ks_n ?_
      refine ACode.seq ?_
      refine ACode.region ?_
      refine .cons (.bN 7 rfl rfl rfl rfl rfl rfl) ?_
      refine .cons (.sT 7 true rfl rfl rfl rfl rfl rfl rfl) ?_
      refine .nil ?_
      refine ks_n ?_
      refine ACode.ret ?_
      refine kf_wret [(.t 4, .v (.o (.c (.box 100 7 0 0)))), (.b 0, .b 3 1 (dR ([rI ((affsE e).foldl c n)]))), (.u 0, .u), (.b 100, .b 31 7 [[.d (dI e.k), .d (dI e.n), .d (dIs (if e.k = 2 then g e.i else ([], 0)).1), .d (dI (if e.k = 2 then g e.i else ([], 0)).2), .d (dS (if e.k = 3 then mapC g e.r else (ByteArray.empty, [])).1), .d (dAs (if e.k = 3 then mapC g e.r else (ByteArray.empty, [])).2), .d (dEs (e.ks.map (mapE g)))]]), (.u 100, .u)] (Wk.keep [(0, 0), (100, 110)] rfl rfl ⟨ks rfl (.c .bx), kb 0 rfl (.dt rfl (by rw [affsE_fold]; first | rfl | (rw [hn]; rfl) | (rw [List.take_length]; done))), kb 110 rfl (.cons (.cons .dt (.cons .dt (.cons (.dt (by first | rfl | (simp [*]; done) | (simp [*]; rfl))) (.cons (.dt (by first | rfl | (simp [*]; done) | (simp [*]; rfl))) (.cons (.dt (by first | rfl | (simp [*]; done) | (simp [*]; rfl))) (.cons (.dt (by first | rfl | (simp [*]; done) | (simp [*]; rfl))) (.cons (.fz rfl (by first | rfl | exact dR_ex _ _ | (rw [List.take_length]; done)) (by first | rfl | (simp; done) | (simp; omega)) (by omega)) Ctos.nil))))))) .nil), trivial⟩) rfl ?_ (hbI_box rfl)
      rw [rX_map]; rfl

theorem exprMapB_fn {f : FuncId} (hc : callable Try.prog f = true) (g : Aff → Aff) (c : Int → Aff → Int) : ∀ (e : Ex) (n : Int), szE e ≤ 1073741824 → (∀ x ∈ affsE e, ∀ n, Fn Try.prog f (hbI n) [ad (rA x), .c (.box 0 1 0 0)] (.o (ad (rA (g x)))) (hbI (c n x))) → Fn Try.prog 121 (hbI n) [ad (rX e), .c (.fb f 0 1)] (.o (ad (rX (mapE g e)))) (hbI ((affsE e).foldl c n)) := by
  intro e
  induction e using Ex.rec' with
  | h e ih =>
    intro n hs hg
    rw [szE_eq, szC] at hs
    have := szAs_len e.r.2
    exact exprMapB_one hc g c n e (by omega) (by omega) hg fun x hx n => ih x hx n (by have := szEs_mem hx; omega) fun a ha => hg a (affsE_k hx ha)

set_option maxRecDepth 100000 in
set_option maxHeartbeats 1600000 in
theorem stmtMapB_fn {f : FuncId} (hc : callable Try.prog f = true) (g : Aff → Aff) (c : Int → Aff → Int) (n : Int) (s : Stm) (hs : szS s ≤ 1073741824) (hg : ∀ x ∈ affsS s, ∀ n, Fn Try.prog f (hbI n) [ad (rA x), .c (.box 0 1 0 0)] (.o (ad (rA (g x)))) (hbI (c n x))) : Fn Try.prog 60 (hbI n) [ad (rS s), .c (.fb f 0 1)] (.o (ad (rS (mapS g s)))) (hbI ((affsS s).foldl c n)) := by
  have h1 : s.1.2.length ≤ 1073741824 := by rw [szS, szC] at hs; have := szAs_len s.1.2; omega
  have h2 : szE s.2 ≤ 1073741824 := by rw [szS] at hs; omega
  refine Fn.of_code Try.func60 rfl rfl (hbI_HB _) rfl rfl (hbI_HB _) rfl (hbI_num _ _) ?_
  refine ACode.seq ?_
  refine ACode.region ?_
  refine .cons (St1.boxP rfl rfl rfl rfl rfl rfl) ?_
  refine .cons (.al 104 [.string ByteArray.empty, .slice none 0 0, .int .i64 0, .int .i64 0, .slice none 0 0, .int .i64 0, .string ByteArray.empty, .slice none 0 0, .slice none 0 0] rfl rfl rfl) ?_
  refine .nil ?_
  refine ks_n ?_
  refine ACode.seq ?_
  refine ACode.drawK (by kernel_rfl) (by kernel_rfl) ?_
  refine .cons (.fP 0 1 true rfl rfl) ?_
  refine .cons (.lN 2 rfl rfl rfl) ?_
  refine .cons (.mv rfl rfl) ?_
  refine .cons (.cO [.tmp 6, .tmp 7] [(0, 0)] rfl rfl rfl rfl (accMapB_fn hc g c n s.1 h1 (fun x hx => hg x (by rw [affsS]; exact List.mem_append_left _ hx))) rfl ⟨rfl, trivial⟩ (hbI_flat _) (hbI_flat _) (hbI_HB _) outS_one) ?_
  refine .cons (.fP 2 6 true rfl rfl) ?_
  refine .cons (.lN 7 rfl rfl rfl) ?_
  refine .cons (.mv rfl rfl) ?_
  refine .cons (.cO [.tmp 10, .tmp 11] [(0, 0)] rfl rfl rfl rfl (exprMapB_fn hc g c s.2 _ h2 (fun x hx => hg x (by rw [affsS]; exact List.mem_append_right _ hx))) rfl ⟨rfl, trivial⟩ (hbI_flat _) (hbI_flat _) (hbI_HB _) outS_one) ?_
  refine .cons (.bu [(0, .tmp 8), (1, .tmp 12)] [(0, 2), (2, 7)] [.string ByteArray.empty, .slice none 0 0, .int .i64 0, .int .i64 0, .slice none 0 0, .int .i64 0, .string ByteArray.empty, .slice none 0 0, .slice none 0 0] rfl rfl rfl rfl rfl) ?_
  refine .cons (.sT 9 true rfl rfl rfl rfl rfl rfl rfl) ?_
  refine .nil ⟨by kernel_rfl, ?_⟩
  refine ks_n ?_
  refine ACode.ret ?_
  refine kf_ret rfl ?_ (hbI_box (by rw [affsS, List.foldl_append]; rfl))
  rfl

def depC (n : Int) (x : Aff) : Int := max n (affDepth x : Nat)
/-- The depth of a statement. -/
def depS (s : Stm) : Int := if stmtV 4 s = true then (affsS s).foldl depC 0 else 0

set_option maxRecDepth 100000 in
set_option maxHeartbeats 1600000 in
theorem implDepth_fn (s : Stm) (hs : szS s ≤ 1073741824) : Fn Try.prog 18 [] [ad (rS s)] (.o (nat1 (depS s))) [] := by
  refine Fn.code0 Try.func18 rfl rfl rfl rfl ?_
  refine ACode.seq ?_
  refine ACode.region ?_
  refine .cons (St1.boxP rfl rfl rfl rfl rfl rfl) ?_
  refine .cons (.asg rfl rfl) ?_
  refine .nil ?_
  refine ks_n ?_
  refine ACode.seq ?_
  refine ACode.seq ?_
  refine ACode.region ?_
  refine .cons (.lN 9 rfl rfl rfl) ?_
  refine .cons (.cP [.tmp 4] rfl rfl rfl rfl (isStmt_fn s (by omega)) rfl) ?_
  refine .cons (.nt rfl rfl) ?_
  refine .nil ?_
  refine ks_n ?_
  refine ACode.condT rfl (fun h6 => ?_) (fun h6 => ?_)
  · try simp only [List.length_map, decide_eq_true_eq, decide_eq_false_iff_not, Bool.not_eq_true', Bool.not_eq_false', Bool.not_eq_true, Bool.not_eq_false] at h6
    refine ACode.seq ?_
    refine ACode.region ?_
    refine .cons (.asg rfl rfl) ?_
    refine .nil ?_
    refine ks_n ?_
    refine ACode.ret ?_
    refine ks_r ?_
    refine kf_wret [(.t 2, .v (.o (nat1 (depS s))))] (Wk.keep [] rfl rfl ⟨ks rfl (.dt (by rw [depS, h6]; rfl)), trivial⟩) rfl ?_ nobox
    rfl
  · try simp only [List.length_map, decide_eq_true_eq, decide_eq_false_iff_not, Bool.not_eq_true', Bool.not_eq_false', Bool.not_eq_true, Bool.not_eq_false] at h6
    refine ACode.skip ?_
    refine ks_n ?_
    refine ACode.seq ?_
    refine ACode.region ?_
    refine .cons (.al 103 [.int .i64 0] rfl rfl rfl) ?_
    refine .cons (.sT 1 false rfl rfl rfl rfl rfl rfl rfl) ?_
    refine .nil ?_
    refine ks_n ?_
    refine ACode.seq ?_
    refine ACode.region ?_
    refine .cons (.lN 9 rfl rfl rfl) ?_
    refine .cons (St1.makeFuncB rfl rfl rfl rfl rfl rfl rfl) ?_
    refine .cons (.cO [.tmp 7, .tmp 8] [(0, 103)] rfl rfl rfl rfl (stmtMapB_fn (f := 61) (by kernel_rfl) id depC 0 s hs (fun x _ n => depth1_fn x n)) rfl ⟨rfl, trivial⟩ (hbI_flat _) (hbI_flat _) (hbI_HB _) outS_one) ?_
    refine .nil ?_
    refine ks_n ?_
    refine ACode.seq ?_
    refine ACode.region ?_
    refine .cons (.b1 1 rfl rfl rfl rfl rfl rfl) ?_
    refine .cons (.asg rfl rfl) ?_
    refine .nil ?_
    refine ks_n ?_
    refine ACode.ret ?_
    refine kf_wret [(.t 2, .v (.o (nat1 (depS s))))] (Wk.keep [] rfl rfl ⟨ks rfl (.dt (by rw [depS, h6]; rfl)), trivial⟩) rfl ?_ nobox
    rfl

end Go.Proofs.Ytigdfdhjnadieaa

/- Plain laws of statements: maps over their affine parts; no condition. -/
namespace Go.Proofs.Ytigdfdhjnadieaa
set_option linter.unusedVariables false
set_option linter.unusedSimpArgs false
open Go.RowKit

theorem mapE_congr' {f g : Aff → Aff} : ∀ e : Ex, (∀ x ∈ affsE e, f x = g x) → mapE f e = mapE g e := by
  refine Ex.rec' fun e ih h => ?_
  rw [mapE_eq, mapE_eq]
  congr 1
  · split
    · next h2 => exact h _ (affsE_i h2)
    · rfl
  · split
    · next h2 => rw [mapC, mapC]; exact Prod.ext rfl (List.map_congr_left fun x hx => h x (affsE_r h2 hx))
    · rfl
  · exact List.map_congr_left fun x hx => ih x hx fun y hy => h y (affsE_k hx hy)
theorem mapE_congr {f g : Aff → Aff} {e : Ex} (h : ∀ x ∈ affsE e, f x = g x) : mapE f e = mapE g e := mapE_congr' e h
theorem mapS_congr {f g : Aff → Aff} {s : Stm} (h : ∀ x ∈ affsS s, f x = g x) : mapS f s = mapS g s := by
  rw [mapS, mapS, mapE_congr (fun x hx => h x (by rw [affsS]; simp [hx]))]
  rw [mapC, mapC]
  exact Prod.ext (Prod.ext rfl (List.map_congr_left fun x hx => h x (by rw [affsS]; simp [hx]))) rfl
theorem mapC_comp (f g : Aff → Aff) (a : Acc) : mapC g (mapC f a) = mapC (fun x => g (f x)) a := by
  simp [mapC, Function.comp_def]
theorem mapE_comp (f g : Aff → Aff) : ∀ e : Ex, mapE g (mapE f e) = mapE (fun x => g (f x)) e := by
  refine Ex.rec' fun e ih => ?_
  obtain ⟨k, n, i, r, ks⟩ := e
  simp only [mapE, mapEs_map, List.map_map]
  congr 1
  · split <;> rfl
  · split
    · exact mapC_comp f g r
    · rfl
  · exact List.map_congr_left fun x hx => ih x hx
theorem mapS_comp (f g : Aff → Aff) (s : Stm) : mapS g (mapS f s) = mapS (fun x => g (f x)) s := by
  rw [mapS, mapS, mapS, mapC_comp, mapE_comp]
theorem rdE_map (g : Aff → Aff) : ∀ e : Ex, rdE (mapE g e) = (rdE e).map (mapC g) := by
  refine Ex.rec' fun e ih => ?_
  obtain ⟨k, n, i, r, ks⟩ := e
  simp only [mapE, mapEs_map, rdE, List.map_append]
  replace ih : ∀ x ∈ ks, rdE (mapE g x) = (rdE x).map (mapC g) := ih
  congr 1
  · split <;> simp
  · induction ks with
    | nil => rfl
    | cons y l ihl =>
      rw [List.map_cons, rdEs, rdEs, List.map_append, ih y (by simp), ihl fun x hx => ih x (by simp [hx])]
theorem rdE_aff {a : Acc} : ∀ e : Ex, a ∈ rdE e → ∀ x ∈ a.2, x ∈ affsE e := by
  refine Ex.rec' fun e ih h x hx => ?_
  rw [rdE_eq] at h
  rcases List.mem_append.1 h with h | h
  · split at h
    · next h3 => rw [List.mem_singleton] at h; subst h; exact affsE_r h3 hx
    · cases h
  · have : ∀ l : List Ex, a ∈ rdEs l → ∃ y ∈ l, a ∈ rdE y := by
      intro l
      induction l with
      | nil => intro h; cases h
      | cons y l ihl =>
        intro h
        rw [rdEs] at h
        rcases List.mem_append.1 h with h | h
        · exact ⟨y, by simp, h⟩
        · obtain ⟨z, h1, h2⟩ := ihl h; exact ⟨z, by simp [h1], h2⟩
    obtain ⟨y, hy, hay⟩ := this _ h
    exact affsE_k hy (ih y hy hay x hx)
theorem subst_const (x : Aff) (v : Nat) (m : Int) (h : x.1.length = 4) : affSubst x v ([0, 0, 0, 0], m) = (x.1.set v 0, x.2 + x.1.getD v 0 * m) := by
  obtain ⟨l, n⟩ := x
  match l, h with
  | [a, b, c, d], _ =>
    match v with
    | 0 => simp [affSubst, affSum]
    | 1 => simp [affSubst, affSum]
    | 2 => simp [affSubst, affSum]
    | 3 => simp [affSubst, affSum]
    | v + 4 => simp [affSubst, affSum]
theorem rdS_len (s : Stm) : (rdS s).length ≤ 12 := by
  rw [rdS]
  split
  · next h => exact Nat.le_trans (rdE_len _) (stmtV_ex h).2.2.1
  · exact Nat.zero_le _
theorem rdE_sz {a : Acc} : ∀ e : Ex, a ∈ rdE e → szC a ≤ szE e := by
  refine Ex.rec' fun e ih h => ?_
  have he := szE_eq e
  rw [rdE_eq] at h
  rcases List.mem_append.1 h with h | h
  · split at h
    · rw [List.mem_singleton] at h; subst h; omega
    · cases h
  · have : ∀ l : List Ex, a ∈ rdEs l → ∃ y ∈ l, a ∈ rdE y := by
      intro l
      induction l with
      | nil => intro h; cases h
      | cons y l ihl =>
        intro h
        rw [rdEs] at h
        rcases List.mem_append.1 h with h | h
        · exact ⟨y, by simp, h⟩
        · obtain ⟨z, h1, h2⟩ := ihl h; exact ⟨z, by simp [h1], h2⟩
    obtain ⟨y, hy, hay⟩ := this _ h
    have := ih y hy hay
    have := szEs_mem hy
    omega
theorem rdS_sz {s : Stm} {a : Acc} (h : a ∈ rdS s) : a.2.length ≤ szS s := by
  rw [rdS] at h
  split at h
  · have := rdE_sz _ h
    have h2 := szAs_len a.2
    rw [szC] at this
    rw [szS]; omega
  · cases h
theorem sameS_self (s : Stm) : sameS s s = true := sameS_iff.2 rfl
theorem stm_len {d : Int} {s : Stm} (h : stmtV d s = true) : ∀ x ∈ affsS s, x.1.length = 4 := fun x hx => affV_len (stmtV_aff h x hx).1
theorem affs_map {g : Aff → Aff} : ∀ {e : Ex}, ∀ a ∈ affsE (mapE g e), ∃ b ∈ affsE e, a = g b := by
  intro e
  induction e using Ex.rec' with
  | h e ih =>
    intro a ha
    rw [mapE_eq, affsE] at ha
    rcases List.mem_append.1 ha with ha | ha
    · split at ha
      · next hk => rw [List.mem_singleton] at ha; exact ⟨e.i, affsE_i hk, by simpa [hk] using ha⟩
      · cases ha
    · rcases List.mem_append.1 ha with ha | ha
      · split at ha
        · next hk =>
          have ha : a ∈ (mapC g e.r).2 := by simpa [hk] using ha
          rw [mapC] at ha
          obtain ⟨b, hb, rfl⟩ := List.mem_map.1 ha
          exact ⟨b, affsE_r hk hb, rfl⟩
        · cases ha
      · obtain ⟨y, hy, hay⟩ := affsEs_of ha
        obtain ⟨z, hz, rfl⟩ := List.mem_map.1 hy
        obtain ⟨b, hb, e⟩ := ih z hz a hay
        exact ⟨b, affsE_k hz hb, e⟩
theorem affsS_map {g : Aff → Aff} {s : Stm} : ∀ a ∈ affsS (mapS g s), ∃ b ∈ affsS s, a = g b := by
  intro a ha
  rw [affsS, mapS] at ha
  rcases List.mem_append.1 ha with ha | ha
  · obtain ⟨b, hb, rfl⟩ := List.mem_map.1 ha
    exact ⟨b, by rw [affsS]; simp [hb], rfl⟩
  · obtain ⟨b, hb, e⟩ := affs_map a ha
    exact ⟨b, by rw [affsS]; simp [hb], e⟩
end Go.Proofs.Ytigdfdhjnadieaa

/- Plain laws of statements: depth and validity; no condition. -/
namespace Go.Proofs.Ytigdfdhjnadieaa
set_option linter.unusedVariables false
set_option linter.unusedSimpArgs false
open Go.RowKit

theorem depC_le {l : List Aff} : ∀ {n m : Int}, (l.foldl depC n ≤ m ↔ n ≤ m ∧ ∀ x ∈ l, (affDepth x : Int) ≤ m) := by
  induction l with
  | nil => intro n m; simp
  | cons y l ih =>
    intro n m
    rw [List.foldl_cons, ih, depC]
    constructor
    · rintro ⟨h1, h2⟩
      refine ⟨by omega, fun x hx => ?_⟩
      rcases List.mem_cons.1 hx with rfl | hx
      · omega
      · exact h2 x hx
    · rintro ⟨h1, h2⟩
      have := h2 y (by simp)
      exact ⟨by omega, fun x hx => h2 x (by simp [hx])⟩
theorem depC_ge {l : List Aff} : ∀ {n : Int}, n ≤ l.foldl depC n := fun {n} => ((depC_le (l := l) (n := n) (m := l.foldl depC n)).1 (Int.le_refl _)).1
theorem accV_dep {d D : Nat} {a : Acc} (h : accV D a = true) : accV d a = true ↔ ∀ x ∈ a.2, affDepth x ≤ d := by
  simp only [accV, sideV, bndV, Bool.and_eq_true, List.all_eq_true, decide_eq_true_eq] at *
  exact ⟨fun h2 x hx => (h2.2.1.1 x hx).2, fun h2 => ⟨h.1, ⟨⟨fun x hx => ⟨(h.2.1.1 x hx).1, h2 x hx⟩, h.2.1.2⟩, h.2.2⟩⟩⟩
theorem fldV_dep {d D : Nat} {k n : Int} {i : Aff} {r : Acc} (h : fldV D k n i r = true) : fldV d k n i r = true ↔ ((k = 2 → affDepth i ≤ d) ∧ (k = 3 → ∀ x ∈ r.2, affDepth x ≤ d)) := by
  unfold fldV at *
  split at h
  · next h1 => rw [if_pos h1, h]; exact iff_of_true rfl ⟨fun h2 => by omega, fun h2 => by omega⟩
  · next h1 =>
    rw [if_neg h1]
    split at h
    · next h2 =>
      rw [if_pos h2]
      simp only [Bool.and_eq_true, decide_eq_true_eq] at h ⊢
      exact ⟨fun h3 => ⟨fun _ => h3.1.2.2, fun h4 => by omega⟩, fun h3 => ⟨⟨h.1.1, h.1.2.1, h3.1 h2⟩, h.2⟩⟩
    · next h2 =>
      rw [if_neg h2]
      split at h
      · next h3 =>
        rw [if_pos h3]
        simp only [Bool.and_eq_true] at h ⊢
        exact ⟨fun h4 => ⟨fun h5 => absurd h5 h2, fun _ => (accV_dep h.2).1 h4.2⟩, fun h4 => ⟨h.1, (accV_dep h.2).2 (h4.2 h3)⟩⟩
      · next h3 => rw [if_neg h3, h]; exact iff_of_true rfl ⟨fun h4 => absurd h4 h2, fun h4 => absurd h4 h3⟩
theorem exV_dep {d D : Nat} : ∀ {L : Nat} {e : Ex}, exV D L e = true → (exV d L e = true ↔ ∀ x ∈ affsE e, affDepth x ≤ d)
  | 0, e, h => by cases h
  | L + 1, e, h => by
    rw [exV, Bool.and_eq_true, Bool.and_eq_true, List.all_eq_true] at h
    rw [exV, Bool.and_eq_true, Bool.and_eq_true, List.all_eq_true, fldV_dep h.1.2, affsE_eq]
    constructor
    · rintro ⟨⟨_, h1, h2⟩, h3⟩ x hx
      rcases List.mem_append.1 hx with hx | hx
      · split at hx
        · next hk => rw [List.mem_singleton] at hx; subst hx; exact h1 hk
        · cases hx
      · rcases List.mem_append.1 hx with hx | hx
        · split at hx
          · next hk => exact h2 hk x hx
          · cases hx
        · obtain ⟨y, hy, hxy⟩ := affsEs_of hx
          exact (exV_dep (h.2 y hy)).1 (h3 y hy) x hxy
    · intro h1
      refine ⟨⟨h.1.1, fun hk => h1 _ (by rw [if_pos hk]; simp), fun hk x hx => h1 _ (by rw [if_pos hk]; simp [hx])⟩, fun y hy => (exV_dep (h.2 y hy)).2 fun x hx => h1 x ?_⟩
      exact List.mem_append_right _ (List.mem_append_right _ (affsEs_mem hy x hx))
theorem stmtV_dep {s : Stm} {D n : Int} (hv : stmtV D s = true) (hn : 0 ≤ n ∧ n ≤ 4) : stmtV n s = true ↔ (affsS s).foldl depC 0 ≤ n := by
  obtain ⟨h1, h2, h3, h4, h5⟩ := stmtV_ex hv
  rw [stmtV_s hn, Bool.and_eq_true, Bool.and_eq_true, decide_eq_true_eq, accV_dep h2, exV_dep h1, depC_le]
  constructor
  · rintro ⟨⟨a, b⟩, _⟩
    refine ⟨hn.1, fun x hx => ?_⟩
    rw [affsS] at hx
    rcases List.mem_append.1 hx with hx | hx
    · have := a x hx; omega
    · have := b x hx; omega
  · rintro ⟨_, a⟩
    refine ⟨⟨fun x hx => ?_, fun x hx => ?_⟩, h3⟩
    · have := a x (by rw [affsS]; simp [hx]); omega
    · have := a x (by rw [affsS]; simp [hx]); omega
theorem stmtV_up {s : Stm} {d : Int} (h : stmtV d s = true) : stmtV 4 s = true := by
  have h5 := (stmtV_ex h).2.2.2
  have := (stmtV_dep h h5).1 h
  exact (stmtV_dep h (by omega)).2 (by omega)
theorem depS_eq {s : Stm} (h : stmtV 4 s = true) : depS s = (affsS s).foldl depC 0 := if_pos h
theorem depS_bd {s : Stm} : 0 ≤ depS s ∧ depS s ≤ 4 := by
  rw [depS]
  split
  · next h => exact ⟨depC_ge, (stmtV_dep h (by omega)).1 h⟩
  · omega
theorem stmtV_iff {s : Stm} (h : stmtV 4 s = true) {n : Int} (hn : 0 ≤ n ∧ n ≤ 4) : stmtV n s = true ↔ depS s ≤ n := by rw [depS_eq h]; exact stmtV_dep h hn
end Go.Proofs.Ytigdfdhjnadieaa

/- Plain laws of statements: at a point; no condition. -/
namespace Go.Proofs.Ytigdfdhjnadieaa
set_option linter.unusedVariables false
set_option linter.unusedSimpArgs false
open Go.RowKit

/-- Constants in place of the first variables. -/
def sbT (p : List Int) : Nat → Aff → Aff
  | 0, x => x
  | i + 1, x => affSubst (sbT p i x) i ([0, 0, 0, 0], p.getD i 0)
def zTo (co : List Int) (i : Nat) : List Int := [if 0 < i then 0 else co.getD 0 0, if 1 < i then 0 else co.getD 1 0, if 2 < i then 0 else co.getD 2 0, if 3 < i then 0 else co.getD 3 0]
theorem sbT_form {p : List Int} {x : Aff} (h : x.1.length = 4) : ∀ i, i ≤ 4 → sbT p i x = (zTo x.1 i, x.2 + evalTo x.1 p i)
  | 0, _ => by
    rw [sbT, evalTo]
    obtain ⟨l, n⟩ := x
    match l, h with
    | [a, b, c, d], _ => simp [zTo]
  | i + 1, hi => by
    rw [sbT, sbT_form h i (by omega), subst_const _ _ _ (by rfl), evalTo]
    obtain ⟨l, n⟩ := x
    match l, h with
    | [a, b, c, d], _ =>
      match i, hi with
      | 0, _ => simp [zTo]; omega
      | 1, _ => simp [zTo]; omega
      | 2, _ => simp [zTo]; omega
      | 3, _ => simp [zTo]; omega
theorem mul99 {x y : Int} (hx : -9 ≤ x ∧ x ≤ 9) (hy : -99 ≤ y ∧ y ≤ 99) : -1000 ≤ x * y ∧ x * y ≤ 1000 := by
  have h1 : 0 ≤ (9 - x) * (99 + y) := Int.mul_nonneg (by omega) (by omega)
  have h2 : 0 ≤ (9 + x) * (99 - y) := Int.mul_nonneg (by omega) (by omega)
  have h3 : 0 ≤ (9 - x) * (99 - y) := Int.mul_nonneg (by omega) (by omega)
  have h4 : 0 ≤ (9 + x) * (99 + y) := Int.mul_nonneg (by omega) (by omega)
  simp only [Int.sub_mul, Int.add_mul, Int.mul_sub, Int.mul_add] at h1 h2 h3 h4
  omega
theorem evalTo_b99 {p : List Int} {x : Aff} (h : affV x = true) : ∀ i, (∀ k, k < i → -99 ≤ p.getD k 0 ∧ p.getD k 0 ≤ 99) → -1000 * (i : Int) ≤ evalTo x.1 p i ∧ evalTo x.1 p i ≤ 1000 * i
  | 0, _ => by rw [evalTo]; omega
  | i + 1, hp => by
    rw [evalTo]
    have h1 := evalTo_b99 h i fun k hk => hp k (by omega)
    have h2 := mul99 (affV_getD h i) (hp i (by omega))
    omega
theorem sbT_W {p : List Int} {x : Aff} (h : affV x = true) {i : Nat} (hi : i ≤ 4) (hp : ∀ k, k < i → -99 ≤ p.getD k 0 ∧ p.getD k 0 ≤ 99) : affW (sbT p i x) := by
  have hl := affV_len h
  rw [sbT_form hl i hi]
  have h1 := evalTo_b99 h i hp
  have h2 := affV_const h
  refine ⟨rfl, fun k => ?_, by show -1000000 ≤ x.2 + evalTo x.1 p i; omega, by show x.2 + evalTo x.1 p i ≤ 1000000; omega⟩
  have g0 := affV_getD h 0
  have g1 := affV_getD h 1
  have g2 := affV_getD h 2
  have g3 := affV_getD h 3
  match k with
  | 0 => show -99 ≤ (if 0 < i then 0 else x.1.getD 0 0) ∧ (if 0 < i then 0 else x.1.getD 0 0) ≤ 99; split <;> omega
  | 1 => show -99 ≤ (if 1 < i then 0 else x.1.getD 1 0) ∧ (if 1 < i then 0 else x.1.getD 1 0) ≤ 99; split <;> omega
  | 2 => show -99 ≤ (if 2 < i then 0 else x.1.getD 2 0) ∧ (if 2 < i then 0 else x.1.getD 2 0) ≤ 99; split <;> omega
  | 3 => show -99 ≤ (if 3 < i then 0 else x.1.getD 3 0) ∧ (if 3 < i then 0 else x.1.getD 3 0) ≤ 99; split <;> omega
  | k + 4 => simp [zTo]
theorem dep_zero {x : Aff} (h : x.1.length = 4) {n : Nat} (hd : affDepth x ≤ n) : zTo x.1 n = [0, 0, 0, 0] := by
  obtain ⟨l, m⟩ := x
  match l, h with
  | [a, b, c, d], _ =>
    simp only [affDepth, List.length_cons, List.length_nil, depthTo] at hd
    simp [zTo] at *
    refine ⟨?_, ?_, ?_, ?_⟩ <;> intro hn <;> (revert hd; split <;> (try split) <;> (try split) <;> (try split) <;> intro hd <;> first | assumption | omega)
/-- A statement with constants for all its variables. -/
def ptG (p : List Int) (x : Aff) : Aff := ([0, 0, 0, 0], affEval x p)
theorem sbT_all {p : List Int} {x : Aff} (h : x.1.length = 4) (hp : p.length ≤ 4) (hd : affDepth x ≤ p.length) : sbT p p.length x = ptG p x := by
  rw [sbT_form h _ hp, dep_zero h hd, ptG, affEval]
theorem sb_next (s : Stm) (p : List Int) (i : Nat) : mapS (fun b => affSubst b i ([0, 0, 0, 0], p.getD i 0)) (mapS (sbT p i) s) = mapS (sbT p (i + 1)) s := mapS_comp _ _ s
theorem sb_all {s : Stm} {p : List Int} (hv : stmtV (p.length : Nat) s = true) : mapS (sbT p p.length) s = mapS (ptG p) s := by
  have h4 := (stmtV_ex hv).2.2.2
  exact mapS_congr fun x hx => sbT_all (stm_len hv x hx) (by omega) (stmtV_aff hv x hx).2
theorem sb_zero {s : Stm} {p : List Int} {d : Int} (hv : stmtV d s = true) : mapS (sbT p 0) s = s := by
  have : mapS (sbT p 0) s = mapS id s := mapS_congr fun x _ => rfl
  rw [this, mapS_id hv]
def ptT (s : Stm) (p : List Int) : Stm × Bool := if (stmtV (p.length : Nat) s && p.all fun n => inB n (-99) 99) = true then chkS 0 (mapS (ptG p) s) else (zS, false)
theorem ptT_no {s : Stm} {p : List Int} (h : (stmtV (p.length : Nat) s && p.all fun n => inB n (-99) 99) = false) : ptT s p = (zS, false) := by rw [ptT, h]; rfl
theorem ptT_yes {s : Stm} {p : List Int} (h : stmtV (p.length : Nat) s = true) (h2 : (p.all fun n => inB n (-99) 99) = true) : ptT s p = chkS 0 (mapS (ptG p) s) := by rw [ptT, h, h2]; rfl
theorem small99 {p : List Int} (h : (p.all fun n => inB n (-99) 99) = true) : Small p := fun n hn => by
  have := List.all_eq_true.1 h n hn
  simp [inB] at this
  omega
theorem ptT_ok {s : Stm} {p : List Int} (h : (ptT s p).2 = true) : stmtV (p.length : Nat) s = true ∧ (p.all fun n => inB n (-99) 99) = true ∧ stmtV 0 (mapS (ptG p) s) = true ∧ (ptT s p).1 = mapS (ptG p) s := by
  rw [ptT] at h ⊢
  split at h
  · next hc =>
    rw [if_pos hc]
    rw [chkS] at h ⊢
    split at h
    · next h2 =>
      rw [if_pos h2]
      simp only [Bool.and_eq_true] at hc
      exact ⟨hc.1, hc.2, h2, rfl⟩
    · cases h
  · cases h
theorem ptS_sz {s : Stm} {p : List Int} {d : Int} (hv : stmtV d s = true) : szS (mapS (ptG p) s) ≤ szS s :=
  szS_map fun x hx => by rw [stm_len hv x hx]; exact Nat.le_refl 4
theorem sbS_sz {s : Stm} {p : List Int} {d : Int} {i : Nat} (hi : i ≤ 4) (hv : stmtV d s = true) : szS (mapS (sbT p i) s) ≤ szS s :=
  szS_map fun x hx => by have hl := stm_len hv x hx; rw [sbT_form hl i hi, hl]; exact Nat.le_refl 4
theorem ptT_sz {s : Stm} {p : List Int} {m : Nat} (h : szS s ≤ m) : szS (ptT s p).1 ≤ m := by
  by_cases h2 : (ptT s p).2 = true
  · obtain ⟨h3, _, _, e⟩ := ptT_ok h2
    rw [e]; exact Nat.le_trans (ptS_sz h3) h
  · have : (ptT s p).1 = zS := by
      rw [ptT] at h2 ⊢
      split
      · next hc =>
        rw [if_pos hc, chkS] at h2
        rw [chkS]
        split
        · next h3 => rw [if_pos h3] at h2; exact absurd rfl h2
        · rfl
      · rfl
    rw [this]; exact Nat.zero_le _
theorem sbS_W {s : Stm} {p : List Int} {d : Int} {i : Nat} (hi : i ≤ 4) (hv : stmtV d s = true) (hp : ∀ k, k < i → -99 ≤ p.getD k 0 ∧ p.getD k 0 ≤ 99) : ∀ x ∈ affsS (mapS (sbT p i) s), affW x := fun x hx => by
  obtain ⟨b, hb, rfl⟩ := affsS_map x hx
  exact sbT_W (stmtV_aff hv b hb).1 hi hp
end Go.Proofs.Ytigdfdhjnadieaa

/- make of slices, over abstract states; rows filled one by one; condition: what the operands hold. -/
namespace Go.Proofs.Ytigdfdhjnadieaa
set_option linter.unusedVariables false
set_option linter.unusedSimpArgs false
open Go.RowKit

def tyMk (P : Program) (t : TypeId) : Option (TypeId × Nat × Nat × List Value) :=
  match P.underlying t with
  | some (.slice e) => (P.info? e).bind fun i => i.zero.map fun z => (e, i.size, i.bytes, z.cells.toList)
  | _ => none
theorem tyMk_out {P : Program} {t e : TypeId} {sz by' : Nat} {zs : List Value} (h : tyMk P t = some (e, sz, by', zs)) : P.underlying t = some (.slice e) ∧ ∃ i z, P.info? e = some i ∧ i.zero = some z ∧ i.size = sz ∧ i.bytes = by' ∧ z.cells.toList = zs := by
  unfold tyMk at h
  cases hu : P.underlying t with
  | none => simp [hu] at h
  | some d =>
    cases d <;> simp only [hu, reduceCtorEq] at h
    case slice e' =>
      cases hi : P.info? e' with
      | none => rw [hi] at h; cases h
      | some i =>
        cases hz : i.zero with
        | none => rw [hi] at h; simp [hz] at h
        | some z =>
          rw [hi] at h
          simp only [Option.bind_some, hz, Option.map_some, Option.some.injEq, Prod.mk.injEq] at h
          obtain ⟨rfl, h1, h2, h3⟩ := h
          exact ⟨rfl, i, z, hi, hz, h1, h2, h3⟩
theorem made_at {z : Value} {n i j sz : Nat} {u : Value} (hs : z.cells.toList.length = sz) (hi : i < n) (hu : z.cells.toList[j]? = some u) : (madeCells z.cells (n * sz))[i * sz + j]? = some u := by
  have hj : j < sz := by rw [← hs]; exact (List.getElem?_eq_some_iff.1 hu).1
  have hlt : i * sz + j < n * sz := by
    have := Nat.mul_le_mul_right sz (show i + 1 ≤ n by omega)
    rw [Nat.add_mul] at this; omega
  have hz : z.cells.size = sz := by rw [← hs, Array.length_toList]
  have hm : (i * sz + j) % sz = j := by rw [Nat.add_comm, Nat.add_mul_mod_self_right, Nat.mod_eq_of_lt hj]
  rw [Array.getElem?_toList] at hu
  simp [madeCells, hlt, hz, hm, Array.getElem!_eq_getD, hu, Array.getD_eq_getD_getElem?]
section
variable {P : Program} {n : Nat} {ops : Array Oper} {o : Oper} {σ : St} {d : Nat}
theorem St1.mk (k' : Nat) (e : TypeId) (sz by' : Nat) (zs : List Value) {t : TypeId} {x y : Operand} {m : Nat} (h4 : (o.op, o.guard, o.dst, Nat.blt d n) = (Op.makeSlice t x y, none, some d, true)) (hx : ev σ x = some (.o (nat1 (m : Nat)))) (hy : ev σ y = some (.o (nat1 (m : Nat)))) (hm : m ≤ 1073741824) (hz : (Nat.beq zs.length sz && zs.all (·.oneCell') && Nat.ble by' 65536) = true)
    (hf : (lk σ (.u k'), Nat.ble 100 k') = (.no, true)) (ht : tyMk P t = some (e, sz, by', zs) := by kernel_rfl) :
    St1 P n ops o σ (.u k' :: (rd x ++ rd y)) [.t d, .u k', .b k', .b k'] ((.t d, .v (.o (.c (.own k' sz m)))) :: (.u k', .u) :: (.b k', .b e sz (dR (List.replicate m (zs.map D.val)))) :: (.b k', .no) :: σ) := by
  simp only [Prod.mk.injEq] at h4 hf
  obtain ⟨ho, hg, hd, hn⟩ := h4
  simp only [Bool.and_eq_true] at hz
  have hzl : zs.length = sz := Nat.eq_of_beq_eq_true hz.1.1
  have hz1 : ∀ u ∈ zs, u.oneCell' = true := fun u hu => List.all_eq_true.1 hz.1.2 u hu
  have hby := Nat.le_of_ble_eq_true hz.2
  have hrow : ∀ {i : Nat} {r : List C}, (dR (List.replicate m (zs.map D.val)))[i]? = some r → i < m ∧ r = zs.map fun u => C.d (.val u) := fun {i r} h => by
    rw [dR, List.map_replicate, List.map_map] at h
    have hi : i < m := by have := (List.getElem?_eq_some_iff.1 h).1; simpa using this
    rw [List.getElem?_replicate, if_pos hi] at h
    exact ⟨hi, (Option.some.inj h).symm⟩
  refine St1.place hg hd hn hf.1 hf.2 (okk_self hf.2) rfl fun E bx τ a w hR hs => ?_
  obtain ⟨hu, i, z, hi, hzz, hs1, hs2, hs3⟩ := tyMk_out ht
  have hbm : i.bytes * m ≤ 281474976710656 := by
    have := Nat.mul_le_mul (show i.bytes ≤ 65536 by omega) hm; omega
  have hb' : (i.bytes : Int) * (m : Int) ≤ 281474976710656 := by
    have h : ((i.bytes * m : Nat) : Int) ≤ 281474976710656 := by omega
    rwa [Int.natCast_mul] at h
  have hr := run_make (P := P) w t e i z hu hi hzz .i64 .i64 (m : Int) (m : Int) (by omega) (Int.le_refl _) hb' (by omega)
  simp only [Int.toNat_natCast, hs1] at hr
  have hsz : (madeCells z.cells (m * sz)).size = m * sz := size_madeCells _ _
  refine ⟨.slice (some ⟨w.heap.size, 0, none⟩) m m, w.alloc (.cells (madeCells z.cells (m * sz)) e), w.heap.size, w.heap.size, madeCells z.cells (m * sz), ?_, .inr (Nat.le_refl _), World.grownBy_alloc w _ _, .inl rfl, heap_alloc_new w _, ?_, fun i r hi => ?_, fun i r j c hi hj => ?_, fun r hr' c hc l hl => ?_, fun bx' al B w2 hbx => ⟨rfl, fun _ => ⟨m, by rw [hbx], Nat.le_refl _, by unfold maxLen; omega, by rw [hbx, hsz]⟩⟩⟩
  · simp only [execOp, ho, ev_val hx (rd_l hR) hs, ev_val hy (rd_r hR) hs, Sem.run_bind, hr]; rfl
  · rw [hsz, dR, List.length_map, List.length_replicate]; exact Nat.le_refl _
  · rw [(hrow hi).2, List.length_map, hzl]
  · obtain ⟨h1, rfl⟩ := hrow hi
    rw [List.getElem?_map] at hj
    cases hq : zs[j]? with
    | none => rw [hq] at hj; cases hj
    | some u =>
      rw [hq] at hj; cases hj
      exact ⟨u, made_at (by rw [hs3, hzl]) h1 (by rw [hs3]; exact hq), .val _ (hz1 u (List.mem_of_getElem? hq))⟩
  · obtain ⟨i, hi⟩ := List.mem_iff_getElem?.1 hr'
    obtain ⟨_, rfl⟩ := hrow hi
    obtain ⟨u, _, rfl⟩ := List.mem_map.1 hc
    cases hl
end
end Go.Proofs.Ytigdfdhjnadieaa
