/- Part 6 of 6 of the proof: laws on memory and data, then what the functions compute, in the order in which they build on each other; conditions: those that each theorem names. -/
import Derived.Test.YtcbfklmoeofoiaaGreatP5

namespace Go.Proofs.YtcbfklmoeofoiaaGreat
set_option linter.unusedVariables false
set_option linter.unusedSimpArgs false
open Go.RowKit
def accA : Acc := (⟨#[65]⟩, [([0, 0, 0, 0], 0)])
def gQ (e : Ex) : Prg := ([(⟨#[65]⟩, [6]), (⟨#[66]⟩, [6, 6]), (⟨#[67]⟩, [6])], [([], [(accA, e)])])
def memL (g : Prg) (n : Nat) : List Int := (List.range (ccN g)).map fun (j : Nat) => ((j : Int) + (n : Nat)).tmod 1000
theorem memL_len {g : Prg} {n : Nat} : (memL g n).length = ccN g := by simp [memL]
theorem memL_at {g : Prg} {n i : Nat} (h : i < (memL g n).length) : (memL g n)[i]? = some (((i : Int) + (n : Nat)).tmod 1000) := by
  rw [memL_len] at h
  rw [memL, List.getElem?_map, List.getElem?_range h]; rfl
theorem gQ_sz {e : Ex} (h : szE e ≤ 400) : szG (gQ e) ≤ 1000 := by
  have h1 : szC accA = 6 := rfl
  have h2 : szS (accA, e) = szC accA + szE e := rfl
  simp [szG, szO, szR, szPt, szLs, gQ, h2, h1]
  have : (ByteArray.mk #[65]).size = 1 := rfl
  have : (ByteArray.mk #[66]).size = 1 := rfl
  have : (ByteArray.mk #[67]).size = 1 := rfl
  omega
theorem ccN_bd (g : Prg) : ccN g ≤ 144 := by
  unfold ccN
  split
  · rename_i h; exact totN_bd (prgS_iff.1 (prgV_s h).1).1
  · omega
theorem q_all {e : Ex} {m : List Int} (h : memV (gQ e) m = true) : ∃ k c q, InsOk (gQ e) (0, 0, []) k c q ∧ inV q.1 [] = true ∧ smN q.1 := by
  obtain ⟨hV, _, _⟩ := memV_at h
  have hS := (prgV_s hV).1
  have hq := (prgS_iff.1 hS).2.2 ([], [(accA, e)]) (by simp [gQ])
  have hok := (prtV_iff.1 hq).1
  have hnp : npR [] = [[]] := by rw [npR, if_pos hok]; first | rfl | simp [ptsG]
  have hmem : ((0, 0, []) : Ins) ∈ insG 0 (gQ e).2 := by
    rw [gQ, insG, insG, insP]
    show _ ∈ insT 0 1 (npR []) ++ []
    rw [hnp]
    simp [insT, rowI]
  obtain ⟨k, c, q, hI⟩ := ins_at hS hmem
  have hk : k = 0 := by have := hI.e1; simp at this; omega
  subst hk
  have hqe : q = ([], [(accA, e)]) := by have := hI.hq; simp [gQ] at this; exact this.symm
  subst hqe
  exact ⟨0, c, _, hI, ins_in hI.pt hI.ip (by simp), ⟨by simp, fun l hl => by cases hl⟩⟩
theorem cst_val {s : Stm} (h : (cstT s).2 = true) : 0 ≤ (cstT s).1 ∧ (cstT s).1 ≤ 99 ∧ ∀ g m p, memOk m → valE g m p s.2 = (cstT s).1 := by
  unfold cstT at h ⊢
  split at h
  · rename_i hc
    rw [if_pos hc]
    rw [Bool.and_eq_true, decide_eq_true_eq] at hc
    obtain ⟨hv, hk⟩ := hc
    have hx := (stmtV_ex hv).1
    have hf := fold_ok hx
    have hn : inB (foldE s.2).n 0 99 = true := by rcases exV_kind hf with ⟨_, h⟩ | ⟨h, _⟩ | ⟨h, _⟩ | h <;> first | exact h | omega
    have := of_decide_eq_true hn
    exact ⟨by show 0 ≤ (foldE s.2).n; omega, by show (foldE s.2).n ≤ 99; omega, fun g m p hm => by rw [← fold_val hm hx, valE_num hk]⟩
  · cases h
theorem memL_ok {g : Prg} {n : Nat} : memOk (memL g n) := by
  intro v hv
  obtain ⟨j, _, rfl⟩ := List.mem_map.1 hv
  have h1 := tmod_bd ((j : Int) + (n : Nat))
  have h2 := Int.tmod_nonneg 1000 (show 0 ≤ (j : Int) + (n : Nat) by omega)
  omega

set_option maxRecDepth 100000 in
set_option maxHeartbeats 1600000 in
theorem drawSC_fn {bs : List Int} {s : Stm} (hD : Fn Tryz.prog 9 [] [vD (dYs bs)] (.o (ad (rS s))) []) : Fn Tryz.prog 4 [] [vD (dYs bs)] (.o (ad (rS s))) [] := by
 refine Fn.code0 Tryz.func4 rfl rfl rfl rfl ?_
 refine ACode.seq ?_
 refine ACode.region ?_
 refine .cons (.al 102 [.string ByteArray.empty, .slice none 0 0, .int .i64 0, .int .i64 0, .slice none 0 0, .int .i64 0, .string ByteArray.empty, .slice none 0 0, .slice none 0 0] rfl rfl rfl) ?_
 refine .nil ?_
 refine ks_n ?_
 refine ACode.seq ?_
 refine ACode.region ?_
 refine .cons (.mv rfl rfl) ?_
 refine .cons (.cP [.tmp 3] rfl rfl rfl rfl (hD) rfl) ?_
 refine .cons (.sT 9 true rfl rfl rfl rfl rfl rfl rfl) ?_
 refine .nil ?_
 refine ks_n ?_
 refine ACode.ret ?_
 refine kf_ret rfl ?_ nobox
 rfl

set_option maxRecDepth 100000 in
set_option maxHeartbeats 1600000 in
theorem stmtConst_no {bs bs2 : List Int} (hl : bs.length ≤ 1048576) (hl2 : bs2.length ≤ 1048576) {s : Stm} (hs : szS s ≤ 400) (hD : Fn Tryz.prog 4 [] [vD (dYs bs)] (.o (ad (rS s))) []) (hM : memV (gQ s.2) (memL (gQ s.2) bs2.length) = false) : Fn Tryz.prog 3 [] [vD (dYs bs), vD (dYs bs2)] (.o (bo1 true)) [] := by
 have hse : szE s.2 ≤ 400 := by have e : szS s = szC s.1 + szE s.2 := rfl; omega
 have hgs := gQ_sz hse
 have hml := memL_len (g := (gQ s.2)) (n := bs2.length)
 have hcb := ccN_bd (gQ s.2)
 have hCC : Fn Tryz.prog 7 [] [ad (rG (gQ s.2))] (.o (nat1 ((memL (gQ s.2) bs2.length).length : Nat))) [] := by rw [hml]; exact implCC_fn (by omega)
 refine Fn.code0 Tryz.func3 rfl rfl rfl rfl ?_
 refine ACode.seq ?_
 refine ACode.region ?_
 refine .cons (.asg rfl rfl) ?_
 refine .nil ?_
 refine ks_n ?_
 refine ACode.seq ?_
 refine ACode.seq ?_
 refine ACode.region ?_
 refine .cons (.mv rfl rfl) ?_
 refine .cons (.ln 5 1 1 rfl rfl rfl) ?_
 refine .cons (.gt rfl rfl rfl) ?_
 refine .cons (.mv rfl rfl) ?_
 refine .cD 19 rfl (fun g19 => ?_) (fun g19 => ?_)
 ·skip
  omega
 ·skip
  refine .cons (.gT rfl rfl rfl (.mv rfl rfl)) ?_
  refine .cons (.gT rfl rfl rfl (.ln 5 1 1 rfl rfl rfl)) ?_
  refine .cons (.gT rfl rfl rfl (.gt rfl rfl rfl)) ?_
  refine .cons (.pF rfl rfl rfl) ?_
  refine .nil ?_
  refine ks_n ?_
  refine ACode.condT rfl (fun h23 => ?_) (fun h23 => ?_)
  ·try simp only [zs1, zs2, zs3, zs4, zs5, zs6, zs7] at h23
   exfalso; first | omega | simp_all
  ·try simp only [zs1, zs2, zs3, zs4, zs5, zs6, zs7] at h23
   refine ACode.skip ?_
   refine ks_n ?_
   refine ACode.seq ?_
   refine ACode.region ?_
   refine .cons (.mv rfl rfl) ?_
   refine .cons (.cP [.tmp 24] rfl rfl rfl rfl (hD) rfl) ?_
   refine .cons (.al 105 [.string ByteArray.empty, .slice none 0 0, .int .i64 0, .int .i64 0, .slice none 0 0, .int .i64 0, .string ByteArray.empty, .slice none 0 0, .slice none 0 0] rfl rfl rfl) ?_
   refine .cons (.sT 9 true rfl rfl rfl rfl rfl rfl rfl) ?_
   refine .nil ?_
   refine ks_n ?_
   refine ACode.seq ?_
   refine ACode.region ?_
   refine .cons (.bN 9 rfl rfl rfl rfl rfl rfl) ?_
   refine .cons (.cP [.tmp 27] rfl rfl rfl rfl (implConst_fn s (by omega)) rfl) ?_
   refine .cons (.mv rfl rfl) ?_
   refine .cons (.ex rfl rfl rfl) ?_
   refine .cons (.ex rfl rfl rfl) ?_
   refine .cons (.asg rfl rfl) ?_
   refine .cons (.asg rfl rfl) ?_
   refine .nil ?_
   refine ks_n ?_
   refine ACode.seq ?_
   refine ACode.region ?_
   refine .cons (.bN 9 rfl rfl rfl rfl rfl rfl) ?_
   refine .cons (.cP [.tmp 32] rfl rfl rfl rfl (specConst_fn s (by omega)) rfl) ?_
   refine .cons (.mv rfl rfl) ?_
   refine .cons (.ex rfl rfl rfl) ?_
   refine .cons (.ex rfl rfl rfl) ?_
   refine .cons (.asg rfl rfl) ?_
   refine .cons (.asg rfl rfl) ?_
   refine .nil ?_
   refine ks_n ?_
   refine ACode.seq ?_
   refine ACode.seq ?_
   refine ACode.region ?_
   refine .cons (.mv rfl rfl) ?_
   refine .cons (.mv rfl rfl) ?_
   refine .cons (St1.neqB rfl rfl rfl rfl (by kernel_rfl) rfl rfl) ?_
   refine .cons (.mv rfl rfl) ?_
   refine AOps.cases 39 _ rfl (fun g39 => ?_) (fun g39 => ?_)
   ·try simp only [zs1, zs2, zs3, zs4, zs5, zs6, zs7] at g39
    refine .cons (.gF rfl rfl rfl) ?_
    refine .cons (.gF rfl rfl rfl) ?_
    refine .cons (.gF rfl rfl rfl) ?_
    refine .cons (.pT rfl rfl rfl) ?_
    refine .cons (.mv rfl rfl) ?_
    refine .cons (.gF rfl rfl rfl) ?_
    refine .cons (.gF rfl rfl rfl) ?_
    refine .cons (.pT rfl rfl rfl) ?_
    refine .nil ?_
    refine ks_n ?_
    refine ACode.condT rfl (fun _ => ?_) (fun h => by first | (cases h; done) | (simp [*] at h; done) | (exfalso; simp_all; done))
    refine ACode.seq ?_
    refine ACode.region ?_
    refine .cons (.mv rfl rfl) ?_
    refine .cons (.mv rfl rfl) ?_
    refine .cons (St1.eqlB rfl rfl rfl rfl (by kernel_rfl) rfl rfl) ?_
    refine .cons (.mv rfl rfl) ?_
    refine AOps.cases 51 _ rfl (fun g51 => ?_) (fun g51 => ?_)
    ·try simp only [zs1, zs2, zs3, zs4, zs5, zs6, zs7] at g51
     refine .cons (.gT rfl rfl rfl (.mv rfl rfl)) ?_
     refine .cons (.gT rfl rfl rfl (.mv rfl rfl)) ?_
     refine .cons (.gT rfl rfl rfl (.eq rfl rfl rfl)) ?_
     refine .cons (.pT rfl rfl rfl) ?_
     refine .cons (.asg rfl rfl) ?_
     refine .nil ?_
     refine ks_n ?_
     refine ACode.ret ?_
     refine ks_r ?_
     refine kf_ret rfl ?_ nobox
     first | rfl | (exfalso; omega) | (exact leafB (by simp_all; done)) | (exact leafB (by simp_all; omega)) | (exact leafB (by rw [hst, hval]; simp; done)) | (exact leafB (by rw [hst, hval]; simp_all; done)) | grind
    ·try simp only [zs1, zs2, zs3, zs4, zs5, zs6, zs7] at g51
     refine .cons (.gF rfl rfl rfl) ?_
     refine .cons (.gF rfl rfl rfl) ?_
     refine .cons (.gF rfl rfl rfl) ?_
     refine .cons (.pF rfl rfl rfl) ?_
     refine .cons (.asg rfl rfl) ?_
     refine .nil ?_
     refine ks_n ?_
     refine ACode.ret ?_
     refine ks_r ?_
     refine kf_ret rfl ?_ nobox
     first | rfl | (exfalso; omega) | (exact leafB (by simp_all; done)) | (exact leafB (by simp_all; omega)) | (exact leafB (by rw [hst, hval]; simp; done)) | (exact leafB (by rw [hst, hval]; simp_all; done)) | grind
   ·try simp only [zs1, zs2, zs3, zs4, zs5, zs6, zs7] at g39
    refine .cons (.gT rfl rfl rfl (.mv rfl rfl)) ?_
    refine .cons (.gT rfl rfl rfl (.mv rfl rfl)) ?_
    refine .cons (.gT rfl rfl rfl (.ne rfl rfl rfl)) ?_
    refine .cons (.pF rfl rfl rfl) ?_
    refine .cons (.mv rfl rfl) ?_
    refine AOps.cases 44 _ rfl (fun g44 => ?_) (fun g44 => ?_)
    ·try simp only [zs1, zs2, zs3, zs4, zs5, zs6, zs7] at g44
     refine .cons (.gF rfl rfl rfl) ?_
     refine .cons (.gF rfl rfl rfl) ?_
     refine .cons (.pT rfl rfl rfl) ?_
     refine .nil ?_
     refine ks_n ?_
     refine ACode.condT rfl (fun _ => ?_) (fun h => by first | (cases h; done) | (simp [*] at h; done) | (exfalso; simp_all; done))
     refine ACode.seq ?_
     refine ACode.region ?_
     refine .cons (.mv rfl rfl) ?_
     refine .cons (.mv rfl rfl) ?_
     refine .cons (St1.eqlB rfl rfl rfl rfl (by kernel_rfl) rfl rfl) ?_
     refine .cons (.mv rfl rfl) ?_
     refine AOps.cases 51 _ rfl (fun g51 => ?_) (fun g51 => ?_)
     ·try simp only [zs1, zs2, zs3, zs4, zs5, zs6, zs7] at g51
      refine .cons (.gT rfl rfl rfl (.mv rfl rfl)) ?_
      refine .cons (.gT rfl rfl rfl (.mv rfl rfl)) ?_
      refine .cons (.gT rfl rfl rfl (.eq rfl rfl rfl)) ?_
      refine .cons (.pT rfl rfl rfl) ?_
      refine .cons (.asg rfl rfl) ?_
      refine .nil ?_
      refine ks_n ?_
      refine ACode.ret ?_
      refine ks_r ?_
      refine kf_ret rfl ?_ nobox
      first | rfl | (exfalso; omega) | (exact leafB (by simp_all; done)) | (exact leafB (by simp_all; omega)) | (exact leafB (by rw [hst, hval]; simp; done)) | (exact leafB (by rw [hst, hval]; simp_all; done)) | grind
     ·try simp only [zs1, zs2, zs3, zs4, zs5, zs6, zs7] at g51
      refine .cons (.gF rfl rfl rfl) ?_
      refine .cons (.gF rfl rfl rfl) ?_
      refine .cons (.gF rfl rfl rfl) ?_
      refine .cons (.pF rfl rfl rfl) ?_
      refine .cons (.asg rfl rfl) ?_
      refine .nil ?_
      refine ks_n ?_
      refine ACode.ret ?_
      refine ks_r ?_
      refine kf_ret rfl ?_ nobox
      first | rfl | (exfalso; omega) | (exact leafB (by simp_all; done)) | (exact leafB (by simp_all; omega)) | (exact leafB (by rw [hst, hval]; simp; done)) | (exact leafB (by rw [hst, hval]; simp_all; done)) | grind
    ·try simp only [zs1, zs2, zs3, zs4, zs5, zs6, zs7] at g44
     refine .cons (.gT rfl rfl rfl (.mv rfl rfl)) ?_
     refine .cons (.gT rfl rfl rfl (.nt rfl rfl)) ?_
     refine .cons (.pF rfl rfl rfl) ?_
     refine .nil ?_
     refine ks_n ?_
     refine ACode.condT rfl (fun h47 => ?_) (fun h47 => ?_)
     ·try simp only [zs1, zs2, zs3, zs4, zs5, zs6, zs7] at h47
      refine ACode.seq ?_
      refine ACode.region ?_
      refine .cons (.mv rfl rfl) ?_
      refine .cons (.mv rfl rfl) ?_
      refine .cons (St1.eqlB rfl rfl rfl rfl (by kernel_rfl) rfl rfl) ?_
      refine .cons (.mv rfl rfl) ?_
      refine AOps.cases 51 _ rfl (fun g51 => ?_) (fun g51 => ?_)
      ·try simp only [zs1, zs2, zs3, zs4, zs5, zs6, zs7] at g51
       refine .cons (.gT rfl rfl rfl (.mv rfl rfl)) ?_
       refine .cons (.gT rfl rfl rfl (.mv rfl rfl)) ?_
       refine .cons (.gT rfl rfl rfl (.eq rfl rfl rfl)) ?_
       refine .cons (.pT rfl rfl rfl) ?_
       refine .cons (.asg rfl rfl) ?_
       refine .nil ?_
       refine ks_n ?_
       refine ACode.ret ?_
       refine ks_r ?_
       refine kf_ret rfl ?_ nobox
       first | rfl | (exfalso; omega) | (exact leafB (by simp_all; done)) | (exact leafB (by simp_all; omega)) | (exact leafB (by rw [hst, hval]; simp; done)) | (exact leafB (by rw [hst, hval]; simp_all; done)) | grind
      ·try simp only [zs1, zs2, zs3, zs4, zs5, zs6, zs7] at g51
       refine .cons (.gF rfl rfl rfl) ?_
       refine .cons (.gF rfl rfl rfl) ?_
       refine .cons (.gF rfl rfl rfl) ?_
       refine .cons (.pF rfl rfl rfl) ?_
       refine .cons (.asg rfl rfl) ?_
       refine .nil ?_
       refine ks_n ?_
       refine ACode.ret ?_
       refine ks_r ?_
       refine kf_ret rfl ?_ nobox
       first | rfl | (exfalso; omega) | (exact leafB (by simp_all; done)) | (exact leafB (by simp_all; omega)) | (exact leafB (by rw [hst, hval]; simp; done)) | (exact leafB (by rw [hst, hval]; simp_all; done)) | grind
     ·try simp only [zs1, zs2, zs3, zs4, zs5, zs6, zs7] at h47
      have hok : (cstT s).2 = true := by first | assumption | simp_all
      obtain ⟨hn0, hn9, hvv⟩ := cst_val hok
      have hval := hvv (gQ s.2) (memL (gQ s.2) bs2.length) [] memL_ok
      refine ACode.skip ?_
      refine ks_n ?_
      refine ACode.seq ?_
      refine ACode.region ?_
      refine .cons (.li 3 0 3 [.const (.int .i64 (0)), .const (.int .i64 (0)), .const (.int .i64 (0)), .const (.int .i64 (0))] rfl rfl rfl rfl rfl rfl) ?_
      refine .cons (.bu [(0, .tmp 56)] [(0, 1), (1, 1)] [.slice none 0 0, .int .i64 0] rfl rfl rfl rfl rfl) ?_
      refine .cons (.li 28 1 0 [.tmp 57] rfl rfl rfl rfl rfl rfl) ?_
      refine .cons (.bu [(0, .const (.string ⟨#[65]⟩)), (1, .tmp 58)] [(0, 1), (1, 1)] [.string ByteArray.empty, .slice none 0 0] rfl rfl rfl rfl rfl) ?_
      refine .cons (.fB 2 6 true rfl rfl rfl) ?_
      refine .cons (.bN 7 rfl rfl rfl rfl rfl rfl) ?_
      refine .cons (.bu [(0, .tmp 59), (1, .tmp 61)] [(0, 2), (2, 7)] [.string ByteArray.empty, .slice none 0 0, .int .i64 0, .int .i64 0, .slice none 0 0, .int .i64 0, .string ByteArray.empty, .slice none 0 0, .slice none 0 0] rfl rfl rfl rfl rfl) ?_
      refine .cons (.al 110 [.string ByteArray.empty, .slice none 0 0, .int .i64 0, .int .i64 0, .slice none 0 0, .int .i64 0, .string ByteArray.empty, .slice none 0 0, .slice none 0 0] rfl rfl rfl) ?_
      refine .cons (.sT 9 true rfl rfl rfl rfl (by first | rfl | exact fill_at (by omega)) rfl rfl) ?_
      refine .nil ?_
      refine ks_n ?_
      refine ACode.seq ?_
      refine ACode.region ?_
      refine .cons (.li 3 0 0 [.const (.int .i64 (6))] rfl rfl rfl rfl rfl rfl) ?_
      refine .cons (.bu [(0, .const (.string ⟨#[65]⟩)), (1, .tmp 63)] [(0, 1), (1, 1)] [.string ByteArray.empty, .slice none 0 0] rfl rfl rfl rfl rfl) ?_
      refine .cons (.li 3 0 1 [.const (.int .i64 (6)), .const (.int .i64 (6))] rfl rfl rfl rfl rfl rfl) ?_
      refine .cons (.bu [(0, .const (.string ⟨#[66]⟩)), (1, .tmp 65)] [(0, 1), (1, 1)] [.string ByteArray.empty, .slice none 0 0] rfl rfl rfl rfl rfl) ?_
      refine .cons (.li 3 0 0 [.const (.int .i64 (6))] rfl rfl rfl rfl rfl rfl) ?_
      refine .cons (.bu [(0, .const (.string ⟨#[67]⟩)), (1, .tmp 67)] [(0, 1), (1, 1)] [.string ByteArray.empty, .slice none 0 0] rfl rfl rfl rfl rfl) ?_
      refine .cons (.li 38 1 2 [.tmp 64, .tmp 66, .tmp 68] rfl rfl rfl rfl rfl rfl) ?_
      refine .cons (.bN 9 rfl rfl rfl rfl rfl rfl) ?_
      refine .cons (.li 33 8 0 [.tmp 70] rfl rfl rfl rfl rfl rfl) ?_
      refine .cons (.buZ [(1, .tmp 71)] [(0, 1), (1, 1)] [.slice none 0 0, .slice none 0 0] [.list 2 [], .list 9 []] rfl rfl (.list _ (.list _ ZR.nil)) rfl rfl) ?_
      refine .cons (.li 43 1 0 [.tmp 72] rfl rfl rfl rfl rfl rfl) ?_
      refine .cons (.bu [(0, .tmp 69), (1, .tmp 73)] [(0, 1), (1, 1)] [.slice none 0 0, .slice none 0 0] rfl rfl rfl rfl rfl) ?_
      refine .cons (.al 111 [.slice none 0 0, .slice none 0 0] rfl rfl rfl) ?_
      refine .cons (.sT 2 true rfl rfl rfl rfl rfl rfl rfl) ?_
      refine .nil ?_
      refine ks_n ?_
      refine ACode.seq ?_
      refine ACode.region ?_
      refine .cons (.bN 2 rfl rfl rfl rfl rfl rfl) ?_
      refine .cons (.cP [.tmp 75] rfl rfl rfl rfl (hCC) rfl) ?_
      refine .cons (.mk 177 3 1 8 [.int .i64 0] rfl rfl rfl (by omega) rfl rfl) ?_
      refine .cons (.asg rfl rfl) ?_
      refine .nil ?_
      refine ks_n ?_
      refine ACode.seq ?_
      refine ACode.seq ?_
      refine ACode.region ?_
      refine .cons (.asg rfl rfl) ?_
      refine .nil ?_
      refine ks_n ?_
      refine ACode.block ?_
      refine .loopK (fun m σ => (∃ i : Nat, m = (memL (gQ s.2) bs2.length).length - i ∧ (i ≤ (memL (gQ s.2) bs2.length).length) ∧ (True) ∧ σ = [(.t 1, .v (.o (vD (dYs bs2)))), (.t 6, .v (.o (nat1 (cstT s).1))), (.t 11, .v (.o (.c (.ptr (rG (gQ s.2)))))), (.t 12, .v (.o (.c (.own 110 1 ((memL (gQ s.2) bs2.length).length))))), (.t 13, .v (.o (nat1 (i : Nat)))), (.b 110, .b 3 1 (dR (((memL (gQ s.2) bs2.length).take i).map rI ++ List.replicate ((memL (gQ s.2) bs2.length).length - i) [dI 0]))), (.u 110, .u)])) [(110, 177)] ⟨0, rfl, by omega, trivial, rfl⟩ ⟨ks rfl .dt, ks rfl .dt, ks rfl (.c (.frzP _ _ _ _ _ _ _ _ rfl (show _ = dR [rG (gQ s.2)] from rfl) rfl rfl rfl)), ks rfl (.c .ow), ks rfl .dt, kb 177 rfl (.dt rfl (by first | exact fill_new rI (memL (gQ s.2) bs2.length) | exact fill_set rI hx1 rfl)), trivial⟩ ?_
      rintro m σ ⟨i, hm0, hi, hF, rfl⟩
      refine ACode.seq ?_
      refine ACode.seq ?_
      refine ACode.region ?_
      refine .cons (.mv rfl rfl) ?_
      refine .cons (.mv rfl rfl) ?_
      refine .cons (.lB 3 1 8 rfl rfl rfl rfl) ?_
      refine .cons (.ls rfl rfl rfl) ?_
      refine .nil ?_
      refine ks_n ?_
      refine .cD rfl (fun h81 => ?_) (fun h81 => ?_)
      ·skip
       have hx1 := memL_at (g := (gQ s.2)) (n := bs2.length) (i := i) (by omega)
       refine ACode.skip ?_
       refine ks_n ?_
       refine ACode.seq ?_
       refine ACode.block ?_
       refine ACode.region ?_
       refine .cons (.mv rfl rfl) ?_
       refine .cons (.mv rfl rfl) ?_
       refine .cons (.mv rfl rfl) ?_
       refine .cons (.mv rfl rfl) ?_
       refine .cons (.ln 5 1 1 rfl rfl rfl) ?_
       refine .cons (.pl rfl rfl rfl) ?_
       refine .cons (St1.rem rfl rfl rfl rfl rfl rfl (by omega)) ?_
       refine .cons (.xB 3 1 8 rfl rfl rfl rfl rfl rfl (by omega)) ?_
       refine .cons (.sT 1 false rfl rfl rfl rfl (by first | rfl | exact fill_at (by omega)) rfl rfl) ?_
       refine .nil ?_
       refine kb_n ?_
       refine ks_n ?_
       refine ACode.region ?_
       refine .cons (.mv rfl rfl) ?_
       refine .cons (.pl rfl rfl rfl) ?_
       refine .cons (.asg rfl rfl) ?_
       refine .nil ?_
       refine kl_k [(110, 110)] ⟨i + 1, rfl, by omega, trivial, rfl⟩ ⟨ks rfl .dt, ks rfl .dt, ks rfl .dt, ks rfl (.c .ow), ks rfl .dt, kb 110 rfl (.dt rfl (by first | exact fill_new rI (memL (gQ s.2) bs2.length) | exact fill_set rI hx1 rfl)), trivial⟩
      ·skip
       obtain rfl : i = (memL (gQ s.2) bs2.length).length := by omega
       refine ACode.exit ?_
       refine ks_e ?_
       refine kl_e ?_
       refine kb_hit ?_
       refine ks_n ?_
       refine ACode.seq ?_
       refine .keep [(.t 6, .v (.o (nat1 (cstT s).1))), (.t 11, .v (.o (.c (.ptr (rG (gQ s.2)))))), (.t 12, .v (.o (vD (dIs (memL (gQ s.2) bs2.length)))))] [] ⟨ks rfl .dt, ks rfl .dt, ks rfl (.c (.fz rfl (fill_end rI (memL (gQ s.2) bs2.length)) (by simp) (by omega))), trivial⟩ ?_
       refine ACode.region ?_
       refine .cons (.lN 2 rfl rfl rfl) ?_
       refine .cons (.mv rfl rfl) ?_
       refine .cons (.buZ [] [(0, 1), (1, 1), (2, 1)] [.int .i64 0, .int .i64 0, .slice none 0 0] [dI 0, dI 0, .list 1 []] rfl rfl (.val rfl (.val rfl (.list _ ZR.nil))) rfl rfl) ?_
       refine .cons (.cP [.tmp 93, .tmp 94, .tmp 95] rfl rfl rfl rfl (implIV_no (by omega) (memL (gQ s.2) bs2.length) (by omega) (0, 0, []) hM) rfl) ?_
       refine .cons (.mv rfl rfl) ?_
       refine .cons (.ex rfl rfl rfl) ?_
       refine .cons (.ex rfl rfl rfl) ?_
       refine .cons (.asg rfl rfl) ?_
       refine .cons (.asg rfl rfl) ?_
       refine .nil ?_
       refine ks_n ?_
       refine ACode.seq ?_
       refine ACode.region ?_
       refine .cons (.mv rfl rfl) ?_
       refine .cons (.ge rfl rfl rfl) ?_
       refine .cons (.mv rfl rfl) ?_
       refine .cD 101 rfl (fun g101 => ?_) (fun g101 => ?_)
       ·skip
        refine .cons (.gT rfl rfl rfl (.mv rfl rfl)) ?_
        refine .cons (.gT rfl rfl rfl (.le rfl rfl rfl)) ?_
        refine .cons (.pT rfl rfl rfl) ?_
        refine .cons (.mv rfl rfl) ?_
        refine AOps.cases 105 _ rfl (fun g105 => ?_) (fun g105 => ?_)
        ·try simp only [zs1, zs2, zs3, zs4, zs5, zs6, zs7] at g105
         refine .cons (.gT rfl rfl rfl (.mv rfl rfl)) ?_
         refine .cons (.gT rfl rfl rfl (.nt rfl rfl)) ?_
         refine .cons (.gT rfl rfl rfl (.mv rfl rfl)) ?_
         refine AOps.cases 108 _ rfl (fun g108 => ?_) (fun g108 => ?_)
         ·try simp only [zs1, zs2, zs3, zs4, zs5, zs6, zs7] at g108
          refine .cons (.gF rfl rfl rfl) ?_
          refine .cons (.gF rfl rfl rfl) ?_
          refine .cons (.gF rfl rfl rfl) ?_
          refine .cons (.gT rfl rfl rfl (.pT rfl rfl rfl)) ?_
          refine .cons (.pT rfl rfl rfl) ?_
          refine .cons (.asg rfl rfl) ?_
          refine .nil ?_
          refine ks_n ?_
          refine ACode.ret ?_
          refine kf_ret rfl ?_ nobox
          first | rfl | (exfalso; omega) | (exact leafB (by simp_all; done)) | (exact leafB (by simp_all; omega)) | (exact leafB (by rw [hst, hval]; simp; done)) | (exact leafB (by rw [hst, hval]; simp_all; done)) | grind
         ·try simp only [zs1, zs2, zs3, zs4, zs5, zs6, zs7] at g108
          refine .cons (.gT rfl rfl rfl (.mv rfl rfl)) ?_
          refine .cons (.gT rfl rfl rfl (.mv rfl rfl)) ?_
          refine .cons (.gT rfl rfl rfl (.eq rfl rfl rfl)) ?_
          refine .cons (.gT rfl rfl rfl (.pF rfl rfl rfl)) ?_
          refine .cons (.pT rfl rfl rfl) ?_
          refine .cons (.asg rfl rfl) ?_
          refine .nil ?_
          refine ks_n ?_
          refine ACode.ret ?_
          refine kf_ret rfl ?_ nobox
          first | rfl | (exfalso; omega) | (exact leafB (by simp_all; done)) | (exact leafB (by simp_all; omega)) | (exact leafB (by rw [hst, hval]; simp; done)) | (exact leafB (by rw [hst, hval]; simp_all; done)) | grind
        ·try simp only [zs1, zs2, zs3, zs4, zs5, zs6, zs7] at g105
         refine .cons (.gF rfl rfl rfl) ?_
         refine .cons (.gF rfl rfl rfl) ?_
         refine .cons (.gF rfl rfl rfl) ?_
         refine .cons (.gU rfl rfl) ?_
         refine .cons (.gU rfl rfl) ?_
         refine .cons (.gU rfl rfl) ?_
         refine .cons (.gF rfl rfl rfl) ?_
         refine .cons (.pF rfl rfl rfl) ?_
         refine .cons (.asg rfl rfl) ?_
         refine .nil ?_
         refine ks_n ?_
         refine ACode.ret ?_
         refine kf_ret rfl ?_ nobox
         first | rfl | (exfalso; omega) | (exact leafB (by simp_all; done)) | (exact leafB (by simp_all; omega)) | (exact leafB (by rw [hst, hval]; simp; done)) | (exact leafB (by rw [hst, hval]; simp_all; done)) | grind
       ·skip
        refine .cons (.gF rfl rfl rfl) ?_
        refine .cons (.gF rfl rfl rfl) ?_
        refine .cons (.pF rfl rfl rfl) ?_
        refine .cons (.mv rfl rfl) ?_
        refine .cons (.gF rfl rfl rfl) ?_
        refine .cons (.gF rfl rfl rfl) ?_
        refine .cons (.gF rfl rfl rfl) ?_
        refine .cons (.gU rfl rfl) ?_
        refine .cons (.gU rfl rfl) ?_
        refine .cons (.gU rfl rfl) ?_
        refine .cons (.gF rfl rfl rfl) ?_
        refine .cons (.pF rfl rfl rfl) ?_
        refine .cons (.asg rfl rfl) ?_
        refine .nil ?_
        refine ks_n ?_
        refine ACode.ret ?_
        refine kf_ret rfl ?_ nobox
        first | rfl | (exfalso; omega) | (exact leafB (by simp_all; done)) | (exact leafB (by simp_all; omega)) | (exact leafB (by rw [hst, hval]; simp; done)) | (exact leafB (by rw [hst, hval]; simp_all; done)) | grind

set_option maxRecDepth 100000 in
set_option maxHeartbeats 1600000 in
theorem stmtConst_yes {bs bs2 : List Int} (hl : bs.length ≤ 1048576) (hl2 : bs2.length ≤ 1048576) {s : Stm} (hs : szS s ≤ 400) (hD : Fn Tryz.prog 4 [] [vD (dYs bs)] (.o (ad (rS s))) []) (hM : memV (gQ s.2) (memL (gQ s.2) bs2.length) = true) : Fn Tryz.prog 3 [] [vD (dYs bs), vD (dYs bs2)] (.o (bo1 true)) [] := by
 have hse : szE s.2 ≤ 400 := by have e : szS s = szC s.1 + szE s.2 := rfl; omega
 have hgs := gQ_sz hse
 have hml := memL_len (g := (gQ s.2)) (n := bs2.length)
 have hcb := ccN_bd (gQ s.2)
 have hCC : Fn Tryz.prog 7 [] [ad (rG (gQ s.2))] (.o (nat1 ((memL (gQ s.2) bs2.length).length : Nat))) [] := by rw [hml]; exact implCC_fn (by omega)
 obtain ⟨k0, c0, q0, hI, hin, hsm⟩ := q_all hM
 have hst : (stI (gQ s.2) (0, 0, [])).2 = s.2 := rfl
 refine Fn.code0 Tryz.func3 rfl rfl rfl rfl ?_
 refine ACode.seq ?_
 refine ACode.region ?_
 refine .cons (.asg rfl rfl) ?_
 refine .nil ?_
 refine ks_n ?_
 refine ACode.seq ?_
 refine ACode.seq ?_
 refine ACode.region ?_
 refine .cons (.mv rfl rfl) ?_
 refine .cons (.ln 5 1 1 rfl rfl rfl) ?_
 refine .cons (.gt rfl rfl rfl) ?_
 refine .cons (.mv rfl rfl) ?_
 refine .cD 19 rfl (fun g19 => ?_) (fun g19 => ?_)
 ·skip
  omega
 ·skip
  refine .cons (.gT rfl rfl rfl (.mv rfl rfl)) ?_
  refine .cons (.gT rfl rfl rfl (.ln 5 1 1 rfl rfl rfl)) ?_
  refine .cons (.gT rfl rfl rfl (.gt rfl rfl rfl)) ?_
  refine .cons (.pF rfl rfl rfl) ?_
  refine .nil ?_
  refine ks_n ?_
  refine ACode.condT rfl (fun h23 => ?_) (fun h23 => ?_)
  ·try simp only [zs1, zs2, zs3, zs4, zs5, zs6, zs7] at h23
   exfalso; first | omega | simp_all
  ·try simp only [zs1, zs2, zs3, zs4, zs5, zs6, zs7] at h23
   refine ACode.skip ?_
   refine ks_n ?_
   refine ACode.seq ?_
   refine ACode.region ?_
   refine .cons (.mv rfl rfl) ?_
   refine .cons (.cP [.tmp 24] rfl rfl rfl rfl (hD) rfl) ?_
   refine .cons (.al 105 [.string ByteArray.empty, .slice none 0 0, .int .i64 0, .int .i64 0, .slice none 0 0, .int .i64 0, .string ByteArray.empty, .slice none 0 0, .slice none 0 0] rfl rfl rfl) ?_
   refine .cons (.sT 9 true rfl rfl rfl rfl rfl rfl rfl) ?_
   refine .nil ?_
   refine ks_n ?_
   refine ACode.seq ?_
   refine ACode.region ?_
   refine .cons (.bN 9 rfl rfl rfl rfl rfl rfl) ?_
   refine .cons (.cP [.tmp 27] rfl rfl rfl rfl (implConst_fn s (by omega)) rfl) ?_
   refine .cons (.mv rfl rfl) ?_
   refine .cons (.ex rfl rfl rfl) ?_
   refine .cons (.ex rfl rfl rfl) ?_
   refine .cons (.asg rfl rfl) ?_
   refine .cons (.asg rfl rfl) ?_
   refine .nil ?_
   refine ks_n ?_
   refine ACode.seq ?_
   refine ACode.region ?_
   refine .cons (.bN 9 rfl rfl rfl rfl rfl rfl) ?_
   refine .cons (.cP [.tmp 32] rfl rfl rfl rfl (specConst_fn s (by omega)) rfl) ?_
   refine .cons (.mv rfl rfl) ?_
   refine .cons (.ex rfl rfl rfl) ?_
   refine .cons (.ex rfl rfl rfl) ?_
   refine .cons (.asg rfl rfl) ?_
   refine .cons (.asg rfl rfl) ?_
   refine .nil ?_
   refine ks_n ?_
   refine ACode.seq ?_
   refine ACode.seq ?_
   refine ACode.region ?_
   refine .cons (.mv rfl rfl) ?_
   refine .cons (.mv rfl rfl) ?_
   refine .cons (St1.neqB rfl rfl rfl rfl (by kernel_rfl) rfl rfl) ?_
   refine .cons (.mv rfl rfl) ?_
   refine AOps.cases 39 _ rfl (fun g39 => ?_) (fun g39 => ?_)
   ·try simp only [zs1, zs2, zs3, zs4, zs5, zs6, zs7] at g39
    refine .cons (.gF rfl rfl rfl) ?_
    refine .cons (.gF rfl rfl rfl) ?_
    refine .cons (.gF rfl rfl rfl) ?_
    refine .cons (.pT rfl rfl rfl) ?_
    refine .cons (.mv rfl rfl) ?_
    refine .cons (.gF rfl rfl rfl) ?_
    refine .cons (.gF rfl rfl rfl) ?_
    refine .cons (.pT rfl rfl rfl) ?_
    refine .nil ?_
    refine ks_n ?_
    refine ACode.condT rfl (fun _ => ?_) (fun h => by first | (cases h; done) | (simp [*] at h; done) | (exfalso; simp_all; done))
    refine ACode.seq ?_
    refine ACode.region ?_
    refine .cons (.mv rfl rfl) ?_
    refine .cons (.mv rfl rfl) ?_
    refine .cons (St1.eqlB rfl rfl rfl rfl (by kernel_rfl) rfl rfl) ?_
    refine .cons (.mv rfl rfl) ?_
    refine AOps.cases 51 _ rfl (fun g51 => ?_) (fun g51 => ?_)
    ·try simp only [zs1, zs2, zs3, zs4, zs5, zs6, zs7] at g51
     refine .cons (.gT rfl rfl rfl (.mv rfl rfl)) ?_
     refine .cons (.gT rfl rfl rfl (.mv rfl rfl)) ?_
     refine .cons (.gT rfl rfl rfl (.eq rfl rfl rfl)) ?_
     refine .cons (.pT rfl rfl rfl) ?_
     refine .cons (.asg rfl rfl) ?_
     refine .nil ?_
     refine ks_n ?_
     refine ACode.ret ?_
     refine ks_r ?_
     refine kf_ret rfl ?_ nobox
     first | rfl | (exfalso; omega) | (exact leafB (by simp_all; done)) | (exact leafB (by simp_all; omega)) | (exact leafB (by rw [hst, hval]; simp; done)) | (exact leafB (by rw [hst, hval]; simp_all; done)) | grind
    ·try simp only [zs1, zs2, zs3, zs4, zs5, zs6, zs7] at g51
     refine .cons (.gF rfl rfl rfl) ?_
     refine .cons (.gF rfl rfl rfl) ?_
     refine .cons (.gF rfl rfl rfl) ?_
     refine .cons (.pF rfl rfl rfl) ?_
     refine .cons (.asg rfl rfl) ?_
     refine .nil ?_
     refine ks_n ?_
     refine ACode.ret ?_
     refine ks_r ?_
     refine kf_ret rfl ?_ nobox
     first | rfl | (exfalso; omega) | (exact leafB (by simp_all; done)) | (exact leafB (by simp_all; omega)) | (exact leafB (by rw [hst, hval]; simp; done)) | (exact leafB (by rw [hst, hval]; simp_all; done)) | grind
   ·try simp only [zs1, zs2, zs3, zs4, zs5, zs6, zs7] at g39
    refine .cons (.gT rfl rfl rfl (.mv rfl rfl)) ?_
    refine .cons (.gT rfl rfl rfl (.mv rfl rfl)) ?_
    refine .cons (.gT rfl rfl rfl (.ne rfl rfl rfl)) ?_
    refine .cons (.pF rfl rfl rfl) ?_
    refine .cons (.mv rfl rfl) ?_
    refine AOps.cases 44 _ rfl (fun g44 => ?_) (fun g44 => ?_)
    ·try simp only [zs1, zs2, zs3, zs4, zs5, zs6, zs7] at g44
     refine .cons (.gF rfl rfl rfl) ?_
     refine .cons (.gF rfl rfl rfl) ?_
     refine .cons (.pT rfl rfl rfl) ?_
     refine .nil ?_
     refine ks_n ?_
     refine ACode.condT rfl (fun _ => ?_) (fun h => by first | (cases h; done) | (simp [*] at h; done) | (exfalso; simp_all; done))
     refine ACode.seq ?_
     refine ACode.region ?_
     refine .cons (.mv rfl rfl) ?_
     refine .cons (.mv rfl rfl) ?_
     refine .cons (St1.eqlB rfl rfl rfl rfl (by kernel_rfl) rfl rfl) ?_
     refine .cons (.mv rfl rfl) ?_
     refine AOps.cases 51 _ rfl (fun g51 => ?_) (fun g51 => ?_)
     ·try simp only [zs1, zs2, zs3, zs4, zs5, zs6, zs7] at g51
      refine .cons (.gT rfl rfl rfl (.mv rfl rfl)) ?_
      refine .cons (.gT rfl rfl rfl (.mv rfl rfl)) ?_
      refine .cons (.gT rfl rfl rfl (.eq rfl rfl rfl)) ?_
      refine .cons (.pT rfl rfl rfl) ?_
      refine .cons (.asg rfl rfl) ?_
      refine .nil ?_
      refine ks_n ?_
      refine ACode.ret ?_
      refine ks_r ?_
      refine kf_ret rfl ?_ nobox
      first | rfl | (exfalso; omega) | (exact leafB (by simp_all; done)) | (exact leafB (by simp_all; omega)) | (exact leafB (by rw [hst, hval]; simp; done)) | (exact leafB (by rw [hst, hval]; simp_all; done)) | grind
     ·try simp only [zs1, zs2, zs3, zs4, zs5, zs6, zs7] at g51
      refine .cons (.gF rfl rfl rfl) ?_
      refine .cons (.gF rfl rfl rfl) ?_
      refine .cons (.gF rfl rfl rfl) ?_
      refine .cons (.pF rfl rfl rfl) ?_
      refine .cons (.asg rfl rfl) ?_
      refine .nil ?_
      refine ks_n ?_
      refine ACode.ret ?_
      refine ks_r ?_
      refine kf_ret rfl ?_ nobox
      first | rfl | (exfalso; omega) | (exact leafB (by simp_all; done)) | (exact leafB (by simp_all; omega)) | (exact leafB (by rw [hst, hval]; simp; done)) | (exact leafB (by rw [hst, hval]; simp_all; done)) | grind
    ·try simp only [zs1, zs2, zs3, zs4, zs5, zs6, zs7] at g44
     refine .cons (.gT rfl rfl rfl (.mv rfl rfl)) ?_
     refine .cons (.gT rfl rfl rfl (.nt rfl rfl)) ?_
     refine .cons (.pF rfl rfl rfl) ?_
     refine .nil ?_
     refine ks_n ?_
     refine ACode.condT rfl (fun h47 => ?_) (fun h47 => ?_)
     ·try simp only [zs1, zs2, zs3, zs4, zs5, zs6, zs7] at h47
      refine ACode.seq ?_
      refine ACode.region ?_
      refine .cons (.mv rfl rfl) ?_
      refine .cons (.mv rfl rfl) ?_
      refine .cons (St1.eqlB rfl rfl rfl rfl (by kernel_rfl) rfl rfl) ?_
      refine .cons (.mv rfl rfl) ?_
      refine AOps.cases 51 _ rfl (fun g51 => ?_) (fun g51 => ?_)
      ·try simp only [zs1, zs2, zs3, zs4, zs5, zs6, zs7] at g51
       refine .cons (.gT rfl rfl rfl (.mv rfl rfl)) ?_
       refine .cons (.gT rfl rfl rfl (.mv rfl rfl)) ?_
       refine .cons (.gT rfl rfl rfl (.eq rfl rfl rfl)) ?_
       refine .cons (.pT rfl rfl rfl) ?_
       refine .cons (.asg rfl rfl) ?_
       refine .nil ?_
       refine ks_n ?_
       refine ACode.ret ?_
       refine ks_r ?_
       refine kf_ret rfl ?_ nobox
       first | rfl | (exfalso; omega) | (exact leafB (by simp_all; done)) | (exact leafB (by simp_all; omega)) | (exact leafB (by rw [hst, hval]; simp; done)) | (exact leafB (by rw [hst, hval]; simp_all; done)) | grind
      ·try simp only [zs1, zs2, zs3, zs4, zs5, zs6, zs7] at g51
       refine .cons (.gF rfl rfl rfl) ?_
       refine .cons (.gF rfl rfl rfl) ?_
       refine .cons (.gF rfl rfl rfl) ?_
       refine .cons (.pF rfl rfl rfl) ?_
       refine .cons (.asg rfl rfl) ?_
       refine .nil ?_
       refine ks_n ?_
       refine ACode.ret ?_
       refine ks_r ?_
       refine kf_ret rfl ?_ nobox
       first | rfl | (exfalso; omega) | (exact leafB (by simp_all; done)) | (exact leafB (by simp_all; omega)) | (exact leafB (by rw [hst, hval]; simp; done)) | (exact leafB (by rw [hst, hval]; simp_all; done)) | grind
     ·try simp only [zs1, zs2, zs3, zs4, zs5, zs6, zs7] at h47
      have hok : (cstT s).2 = true := by first | assumption | simp_all
      obtain ⟨hn0, hn9, hvv⟩ := cst_val hok
      have hval := hvv (gQ s.2) (memL (gQ s.2) bs2.length) [] memL_ok
      refine ACode.skip ?_
      refine ks_n ?_
      refine ACode.seq ?_
      refine ACode.region ?_
      refine .cons (.li 3 0 3 [.const (.int .i64 (0)), .const (.int .i64 (0)), .const (.int .i64 (0)), .const (.int .i64 (0))] rfl rfl rfl rfl rfl rfl) ?_
      refine .cons (.bu [(0, .tmp 56)] [(0, 1), (1, 1)] [.slice none 0 0, .int .i64 0] rfl rfl rfl rfl rfl) ?_
      refine .cons (.li 28 1 0 [.tmp 57] rfl rfl rfl rfl rfl rfl) ?_
      refine .cons (.bu [(0, .const (.string ⟨#[65]⟩)), (1, .tmp 58)] [(0, 1), (1, 1)] [.string ByteArray.empty, .slice none 0 0] rfl rfl rfl rfl rfl) ?_
      refine .cons (.fB 2 6 true rfl rfl rfl) ?_
      refine .cons (.bN 7 rfl rfl rfl rfl rfl rfl) ?_
      refine .cons (.bu [(0, .tmp 59), (1, .tmp 61)] [(0, 2), (2, 7)] [.string ByteArray.empty, .slice none 0 0, .int .i64 0, .int .i64 0, .slice none 0 0, .int .i64 0, .string ByteArray.empty, .slice none 0 0, .slice none 0 0] rfl rfl rfl rfl rfl) ?_
      refine .cons (.al 110 [.string ByteArray.empty, .slice none 0 0, .int .i64 0, .int .i64 0, .slice none 0 0, .int .i64 0, .string ByteArray.empty, .slice none 0 0, .slice none 0 0] rfl rfl rfl) ?_
      refine .cons (.sT 9 true rfl rfl rfl rfl (by first | rfl | exact fill_at (by omega)) rfl rfl) ?_
      refine .nil ?_
      refine ks_n ?_
      refine ACode.seq ?_
      refine ACode.region ?_
      refine .cons (.li 3 0 0 [.const (.int .i64 (6))] rfl rfl rfl rfl rfl rfl) ?_
      refine .cons (.bu [(0, .const (.string ⟨#[65]⟩)), (1, .tmp 63)] [(0, 1), (1, 1)] [.string ByteArray.empty, .slice none 0 0] rfl rfl rfl rfl rfl) ?_
      refine .cons (.li 3 0 1 [.const (.int .i64 (6)), .const (.int .i64 (6))] rfl rfl rfl rfl rfl rfl) ?_
      refine .cons (.bu [(0, .const (.string ⟨#[66]⟩)), (1, .tmp 65)] [(0, 1), (1, 1)] [.string ByteArray.empty, .slice none 0 0] rfl rfl rfl rfl rfl) ?_
      refine .cons (.li 3 0 0 [.const (.int .i64 (6))] rfl rfl rfl rfl rfl rfl) ?_
      refine .cons (.bu [(0, .const (.string ⟨#[67]⟩)), (1, .tmp 67)] [(0, 1), (1, 1)] [.string ByteArray.empty, .slice none 0 0] rfl rfl rfl rfl rfl) ?_
      refine .cons (.li 38 1 2 [.tmp 64, .tmp 66, .tmp 68] rfl rfl rfl rfl rfl rfl) ?_
      refine .cons (.bN 9 rfl rfl rfl rfl rfl rfl) ?_
      refine .cons (.li 33 8 0 [.tmp 70] rfl rfl rfl rfl rfl rfl) ?_
      refine .cons (.buZ [(1, .tmp 71)] [(0, 1), (1, 1)] [.slice none 0 0, .slice none 0 0] [.list 2 [], .list 9 []] rfl rfl (.list _ (.list _ ZR.nil)) rfl rfl) ?_
      refine .cons (.li 43 1 0 [.tmp 72] rfl rfl rfl rfl rfl rfl) ?_
      refine .cons (.bu [(0, .tmp 69), (1, .tmp 73)] [(0, 1), (1, 1)] [.slice none 0 0, .slice none 0 0] rfl rfl rfl rfl rfl) ?_
      refine .cons (.al 111 [.slice none 0 0, .slice none 0 0] rfl rfl rfl) ?_
      refine .cons (.sT 2 true rfl rfl rfl rfl rfl rfl rfl) ?_
      refine .nil ?_
      refine ks_n ?_
      refine ACode.seq ?_
      refine ACode.region ?_
      refine .cons (.bN 2 rfl rfl rfl rfl rfl rfl) ?_
      refine .cons (.cP [.tmp 75] rfl rfl rfl rfl (hCC) rfl) ?_
      refine .cons (.mk 177 3 1 8 [.int .i64 0] rfl rfl rfl (by omega) rfl rfl) ?_
      refine .cons (.asg rfl rfl) ?_
      refine .nil ?_
      refine ks_n ?_
      refine ACode.seq ?_
      refine ACode.seq ?_
      refine ACode.region ?_
      refine .cons (.asg rfl rfl) ?_
      refine .nil ?_
      refine ks_n ?_
      refine ACode.block ?_
      refine .loopK (fun m σ => (∃ i : Nat, m = (memL (gQ s.2) bs2.length).length - i ∧ (i ≤ (memL (gQ s.2) bs2.length).length) ∧ (True) ∧ σ = [(.t 1, .v (.o (vD (dYs bs2)))), (.t 6, .v (.o (nat1 (cstT s).1))), (.t 11, .v (.o (.c (.ptr (rG (gQ s.2)))))), (.t 12, .v (.o (.c (.own 110 1 ((memL (gQ s.2) bs2.length).length))))), (.t 13, .v (.o (nat1 (i : Nat)))), (.b 110, .b 3 1 (dR (((memL (gQ s.2) bs2.length).take i).map rI ++ List.replicate ((memL (gQ s.2) bs2.length).length - i) [dI 0]))), (.u 110, .u)])) [(110, 177)] ⟨0, rfl, by omega, trivial, rfl⟩ ⟨ks rfl .dt, ks rfl .dt, ks rfl (.c (.frzP _ _ _ _ _ _ _ _ rfl (show _ = dR [rG (gQ s.2)] from rfl) rfl rfl rfl)), ks rfl (.c .ow), ks rfl .dt, kb 177 rfl (.dt rfl (by first | exact fill_new rI (memL (gQ s.2) bs2.length) | exact fill_set rI hx1 rfl)), trivial⟩ ?_
      rintro m σ ⟨i, hm0, hi, hF, rfl⟩
      refine ACode.seq ?_
      refine ACode.seq ?_
      refine ACode.region ?_
      refine .cons (.mv rfl rfl) ?_
      refine .cons (.mv rfl rfl) ?_
      refine .cons (.lB 3 1 8 rfl rfl rfl rfl) ?_
      refine .cons (.ls rfl rfl rfl) ?_
      refine .nil ?_
      refine ks_n ?_
      refine .cD rfl (fun h81 => ?_) (fun h81 => ?_)
      ·skip
       have hx1 := memL_at (g := (gQ s.2)) (n := bs2.length) (i := i) (by omega)
       refine ACode.skip ?_
       refine ks_n ?_
       refine ACode.seq ?_
       refine ACode.block ?_
       refine ACode.region ?_
       refine .cons (.mv rfl rfl) ?_
       refine .cons (.mv rfl rfl) ?_
       refine .cons (.mv rfl rfl) ?_
       refine .cons (.mv rfl rfl) ?_
       refine .cons (.ln 5 1 1 rfl rfl rfl) ?_
       refine .cons (.pl rfl rfl rfl) ?_
       refine .cons (St1.rem rfl rfl rfl rfl rfl rfl (by omega)) ?_
       refine .cons (.xB 3 1 8 rfl rfl rfl rfl rfl rfl (by omega)) ?_
       refine .cons (.sT 1 false rfl rfl rfl rfl (by first | rfl | exact fill_at (by omega)) rfl rfl) ?_
       refine .nil ?_
       refine kb_n ?_
       refine ks_n ?_
       refine ACode.region ?_
       refine .cons (.mv rfl rfl) ?_
       refine .cons (.pl rfl rfl rfl) ?_
       refine .cons (.asg rfl rfl) ?_
       refine .nil ?_
       refine kl_k [(110, 110)] ⟨i + 1, rfl, by omega, trivial, rfl⟩ ⟨ks rfl .dt, ks rfl .dt, ks rfl .dt, ks rfl (.c .ow), ks rfl .dt, kb 110 rfl (.dt rfl (by first | exact fill_new rI (memL (gQ s.2) bs2.length) | exact fill_set rI hx1 rfl)), trivial⟩
      ·skip
       obtain rfl : i = (memL (gQ s.2) bs2.length).length := by omega
       refine ACode.exit ?_
       refine ks_e ?_
       refine kl_e ?_
       refine kb_hit ?_
       refine ks_n ?_
       refine ACode.seq ?_
       refine .keep [(.t 6, .v (.o (nat1 (cstT s).1))), (.t 11, .v (.o (.c (.ptr (rG (gQ s.2)))))), (.t 12, .v (.o (vD (dIs (memL (gQ s.2) bs2.length)))))] [] ⟨ks rfl .dt, ks rfl .dt, ks rfl (.c (.fz rfl (fill_end rI (memL (gQ s.2) bs2.length)) (by simp) (by omega))), trivial⟩ ?_
       refine ACode.region ?_
       refine .cons (.lN 2 rfl rfl rfl) ?_
       refine .cons (.mv rfl rfl) ?_
       refine .cons (.buZ [] [(0, 1), (1, 1), (2, 1)] [.int .i64 0, .int .i64 0, .slice none 0 0] [dI 0, dI 0, .list 1 []] rfl rfl (.val rfl (.val rfl (.list _ ZR.nil))) rfl rfl) ?_
       refine .cons (.cP [.tmp 93, .tmp 94, .tmp 95] rfl rfl rfl rfl (implIV_yes (by omega) (memL (gQ s.2) bs2.length) (by omega) (0, 0, []) hM hI hin hsm) rfl) ?_
       refine .cons (.mv rfl rfl) ?_
       refine .cons (.ex rfl rfl rfl) ?_
       refine .cons (.ex rfl rfl rfl) ?_
       refine .cons (.asg rfl rfl) ?_
       refine .cons (.asg rfl rfl) ?_
       refine .nil ?_
       refine ks_n ?_
       refine ACode.seq ?_
       refine ACode.region ?_
       refine .cons (.mv rfl rfl) ?_
       refine .cons (.ge rfl rfl rfl) ?_
       refine .cons (.mv rfl rfl) ?_
       refine .cD 101 rfl (fun g101 => ?_) (fun g101 => ?_)
       ·skip
        refine .cons (.gT rfl rfl rfl (.mv rfl rfl)) ?_
        refine .cons (.gT rfl rfl rfl (.le rfl rfl rfl)) ?_
        refine .cons (.pT rfl rfl rfl) ?_
        refine .cons (.mv rfl rfl) ?_
        refine AOps.cases 105 _ rfl (fun g105 => ?_) (fun g105 => ?_)
        ·try simp only [zs1, zs2, zs3, zs4, zs5, zs6, zs7] at g105
         refine .cons (.gT rfl rfl rfl (.mv rfl rfl)) ?_
         refine .cons (.gT rfl rfl rfl (.nt rfl rfl)) ?_
         refine .cons (.gT rfl rfl rfl (.mv rfl rfl)) ?_
         refine AOps.cases 108 _ rfl (fun g108 => ?_) (fun g108 => ?_)
         ·try simp only [zs1, zs2, zs3, zs4, zs5, zs6, zs7] at g108
          refine .cons (.gF rfl rfl rfl) ?_
          refine .cons (.gF rfl rfl rfl) ?_
          refine .cons (.gF rfl rfl rfl) ?_
          refine .cons (.gT rfl rfl rfl (.pT rfl rfl rfl)) ?_
          refine .cons (.pT rfl rfl rfl) ?_
          refine .cons (.asg rfl rfl) ?_
          refine .nil ?_
          refine ks_n ?_
          refine ACode.ret ?_
          refine kf_ret rfl ?_ nobox
          first | rfl | (exfalso; omega) | (exact leafB (by simp_all; done)) | (exact leafB (by simp_all; omega)) | (exact leafB (by rw [hst, hval]; simp; done)) | (exact leafB (by rw [hst, hval]; simp_all; done)) | grind
         ·try simp only [zs1, zs2, zs3, zs4, zs5, zs6, zs7] at g108
          refine .cons (.gT rfl rfl rfl (.mv rfl rfl)) ?_
          refine .cons (.gT rfl rfl rfl (.mv rfl rfl)) ?_
          refine .cons (.gT rfl rfl rfl (.eq rfl rfl rfl)) ?_
          refine .cons (.gT rfl rfl rfl (.pF rfl rfl rfl)) ?_
          refine .cons (.pT rfl rfl rfl) ?_
          refine .cons (.asg rfl rfl) ?_
          refine .nil ?_
          refine ks_n ?_
          refine ACode.ret ?_
          refine kf_ret rfl ?_ nobox
          first | rfl | (exfalso; omega) | (exact leafB (by simp_all; done)) | (exact leafB (by simp_all; omega)) | (exact leafB (by rw [hst, hval]; simp; done)) | (exact leafB (by rw [hst, hval]; simp_all; done)) | grind
        ·try simp only [zs1, zs2, zs3, zs4, zs5, zs6, zs7] at g105
         refine .cons (.gF rfl rfl rfl) ?_
         refine .cons (.gF rfl rfl rfl) ?_
         refine .cons (.gF rfl rfl rfl) ?_
         refine .cons (.gU rfl rfl) ?_
         refine .cons (.gU rfl rfl) ?_
         refine .cons (.gU rfl rfl) ?_
         refine .cons (.gF rfl rfl rfl) ?_
         refine .cons (.pF rfl rfl rfl) ?_
         refine .cons (.asg rfl rfl) ?_
         refine .nil ?_
         refine ks_n ?_
         refine ACode.ret ?_
         refine kf_ret rfl ?_ nobox
         first | rfl | (exfalso; omega) | (exact leafB (by simp_all; done)) | (exact leafB (by simp_all; omega)) | (exact leafB (by rw [hst, hval]; simp; done)) | (exact leafB (by rw [hst, hval]; simp_all; done)) | grind
       ·skip
        refine .cons (.gF rfl rfl rfl) ?_
        refine .cons (.gF rfl rfl rfl) ?_
        refine .cons (.pF rfl rfl rfl) ?_
        refine .cons (.mv rfl rfl) ?_
        refine .cons (.gF rfl rfl rfl) ?_
        refine .cons (.gF rfl rfl rfl) ?_
        refine .cons (.gF rfl rfl rfl) ?_
        refine .cons (.gU rfl rfl) ?_
        refine .cons (.gU rfl rfl) ?_
        refine .cons (.gU rfl rfl) ?_
        refine .cons (.gF rfl rfl rfl) ?_
        refine .cons (.pF rfl rfl rfl) ?_
        refine .cons (.asg rfl rfl) ?_
        refine .nil ?_
        refine ks_n ?_
        refine ACode.ret ?_
        refine kf_ret rfl ?_ nobox
        first | rfl | (exfalso; omega) | (exact leafB (by simp_all; done)) | (exact leafB (by simp_all; omega)) | (exact leafB (by rw [hst, hval]; simp; done)) | (exact leafB (by rw [hst, hval]; simp_all; done)) | grind

set_option maxRecDepth 100000 in
set_option maxHeartbeats 1600000 in
theorem stmtConst_big (a : Option Addr) (n c : Nat) (a2 : Option Addr) (n2 c2 : Nat) (hn : 1048576 < n ∨ 1048576 < n2) : Fn Tryz.prog 3 [] [vX a n c, vX a2 n2 c2] (.o (bo1 true)) [] := by
 refine Fn.code0 Tryz.func3 rfl rfl rfl rfl ?_
 refine ACode.seq ?_
 refine ACode.region ?_
 refine .cons (.asg rfl rfl) ?_
 refine .nil ?_
 refine ks_n ?_
 refine ACode.seq ?_
 refine ACode.seq ?_
 refine ACode.region ?_
 refine .cons (.mv rfl rfl) ?_
 refine .cons (St1.lenN (e := 5) (m := 1) (by' := 1) rfl rfl rfl rfl rfl (by kernel_rfl) rfl) ?_
 refine .cons (.gt rfl rfl rfl) ?_
 refine .cons (.mv rfl rfl) ?_
 refine .cD 19 rfl (fun g19 => ?_) (fun g19 => ?_)
 ·skip
  refine .cons (.gF rfl rfl rfl) ?_
  refine .cons (.gF rfl rfl rfl) ?_
  refine .cons (.gF rfl rfl rfl) ?_
  refine .cons (.pT rfl rfl rfl) ?_
  refine .nil ?_
  refine ks_n ?_
  refine ACode.condT rfl (fun _ => ?_) (fun h => by first | (cases h; done) | (simp [*] at h; done) | (exfalso; simp_all; done))
  refine ACode.seq ?_
  refine ACode.region ?_
  refine .cons (.asg rfl rfl) ?_
  refine .nil ?_
  refine ks_n ?_
  refine ACode.ret ?_
  refine ks_r ?_
  refine kf_ret rfl ?_ nobox
  rfl
 ·skip
  refine .cons (.gT rfl rfl rfl (.mv rfl rfl)) ?_
  refine .cons (.gT rfl rfl rfl (St1.lenN (e := 5) (m := 1) (by' := 1) rfl rfl rfl rfl rfl (by kernel_rfl) rfl)) ?_
  refine .cons (.gT rfl rfl rfl (.gt rfl rfl rfl)) ?_
  refine .cons (.pF rfl rfl rfl) ?_
  refine .nil ?_
  refine ks_n ?_
  refine ACode.condT rfl (fun h23 => ?_) (fun h23 => ?_)
  ·try simp only [zs1, zs2, zs3, zs4, zs5, zs6, zs7] at h23
   refine ACode.seq ?_
   refine ACode.region ?_
   refine .cons (.asg rfl rfl) ?_
   refine .nil ?_
   refine ks_n ?_
   refine ACode.ret ?_
   refine ks_r ?_
   refine kf_ret rfl ?_ nobox
   rfl
  ·try simp only [zs1, zs2, zs3, zs4, zs5, zs6, zs7] at h23
   omega

theorem lawStmtConst (a : Option Addr) (n c : Nat) (bs : List Int) (a2 : Option Addr) (n2 c2 : Nat) (bs2 : List Int) (w : World) (hx : n ≤ 1048576 → Sl Sh.byte (fun b => b < w.heap.size) w (.slice a n c) bs) (hbs : ∀ x ∈ bs, 0 ≤ x ∧ x ≤ 255) (hx2 : n2 ≤ 1048576 → Sl Sh.byte (fun b => b < w.heap.size) w (.slice a2 n2 c2) bs2) (hbs2 : ∀ x ∈ bs2, 0 ≤ x ∧ x ≤ 255) : Truth Tryz.prog 3 #[.slice a n c, .slice a2 n2 c2] w :=
  law2 ⟨hx, hbs⟩ ⟨hx2, hbs2⟩ (fun h => stmtConst_big a n c a2 n2 c2 h) (fun hl hl2 hb hb2 => by
    obtain ⟨s, h1, _, h3⟩ := drawFo_fn hb
    cases hM : memV (gQ s.2) (memL (gQ s.2) bs2.length) with
    | true => exact stmtConst_yes hl hl2 h1 (drawSC_fn h3) hM
    | false => exact stmtConst_no hl hl2 h1 (drawSC_fn h3) hM)
end Go.Proofs.YtcbfklmoeofoiaaGreat
