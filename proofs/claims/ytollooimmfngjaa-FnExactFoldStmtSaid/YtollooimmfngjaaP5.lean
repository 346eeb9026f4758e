/- Part 5 of 5 of the proof: laws on memory and data, then what the functions compute, in the order in which they build on each other; conditions: those that each theorem names. -/
import Derived.Test.YtollooimmfngjaaP4
set_option maxRecDepth 100000
set_option maxHeartbeats 1600000

namespace Go.Proofs.Ytollooimmfngjaa
set_option linter.unusedVariables false
set_option linter.unusedSimpArgs false
open Go.RowKit
set_option maxHeartbeats 12800000 in
theorem lawXfold {s r : Stm} {b : Bool} (ho : okS s) (qs : szS s ≤ 1048576 → Fn Try.prog 15 [] [ad (rS s)] (.tup [ad (rS r), bo1 b]) []) (qi : szS s ≤ 1048576 → FnT Try.prog 16 [ad (rS s)] none' (.strB (rS r) b)) (hr : szS s ≤ 1048576 → szS r ≤ 1048576)
    {w : World} {us : List Value} (d : Drs (fun b => b < w.heap.size) w (rS s) us) : Truth Try.prog 4 #[.agg us.toArray] w := by
  obtain ⟨u0, l0, rfl, hl0⟩ := len_cons d.1
  obtain ⟨u1, l1, rfl, hl1⟩ := len_cons hl0
  obtain ⟨u2, l2, rfl, hl2⟩ := len_cons hl1
  obtain ⟨u3, l3, rfl, hl3⟩ := len_cons hl2
  obtain ⟨u4, l4, rfl, hl4⟩ := len_cons hl3
  obtain ⟨u5, l5, rfl, hl5⟩ := len_cons hl4
  obtain ⟨u6, l6, rfl, hl6⟩ := len_cons hl5
  obtain ⟨u7, l7, rfl, hl7⟩ := len_cons hl6
  obtain ⟨u8, l8, rfl, hl8⟩ := len_cons hl7
  obtain rfl := len_zero hl8; clear hl0 hl1 hl2 hl3 hl4 hl5 hl6 hl7 hl8
  have HB := hid (Bxs.add (w := w) (l := []) (fun b hb => by cases hb) [u0, u1, u2, u3, u4, u5, u6, u7, u8] 32)
  have HL := hid (show Below w.heap.size w (w.alloc (.cells [u0, u1, u2, u3, u4, u5, u6, u7, u8].toArray 32)) from (Below.refl _ _).alloc (Nat.le_refl _) _)
  have HD := hid d; clear d
  have hz := szStm_fn (l := 1048576) ho (by omega)
  by_cases hs : szS s ≤ 1048576
  case neg =>
    rw [subZ_no (by omega)] at hz
    have HZ := hid hz; clear hz qs qi ho hr
    go_enter Try.func4, Try.ntmps4
    go_wp2_with fail
    refine (HZ.out.callsI (vs := [_, _]) (vals2_mk (HD.out.fwd HL.out).v (Dr.val (.int .i64 1048576) rfl))).mono ?_
    rintro e wA ⟨rfl, bA⟩
    have HLA := hid (HL.out.trans (bA.mono HL.out.size)); clear bA
    go_wp2_with fail
    go_ret
    exact ⟨rfl, HLA.out⟩
  rw [subZ_yes (by omega)] at hz
  have qs := hid (qs hs); have qi := hid (qi hs); have hr0 := hr hs; have HR := hid hr0
  have hcp := hid (copyStm hs); have heq := hid (eqStm_fn r r (by omega)); have hes := hid (eqStm_fn s s (by omega))
  have w1 := wgt_stm s; have w2 := wgt_stm r; have w3 := wgtV_le (rS s); have w4 := wgtV_le (rS r)
  have WS := hid (show wgtV (rS s) ≤ 10485760 by omega); have WR := hid (show wgtV (rS r) ≤ 10485760 by omega)
  have hhd := hid (heldS_fn r (by omega) (by omega))
  have HZ := hid hz
  have hz0 : (0 : Int) ≤ 1048576 - (szS s : Nat) := by omega
  obtain ⟨z, hz1⟩ : ∃ z : Int, z = 1048576 - (szS s : Nat) := ⟨_, rfl⟩
  rw [← hz1] at HZ hz0
  obtain ⟨kS, hkS⟩ : ∃ k : Nat, k = wgtV (rS s) := ⟨_, rfl⟩
  obtain ⟨kR, hkR⟩ : ∃ k : Nat, k = wgtV (rS r) := ⟨_, rfl⟩
  have mks := hid (markStm_k s); have mku := hid (markStm_u r)
  have EK := hid hkS; have ER := hid hkR
  rw [← hkR] at hhd
  clear hz1 hz ho hr hs hr0 w1 w2 w3 w4 hkS hkR
  go_enter Try.func4, Try.ntmps4
  go_wp2_with fail
  refine (HZ.out.callsI (vs := [_, _]) (vals2_mk (HD.out.fwd HL.out).v (Dr.val (.int .i64 1048576) rfl))).mono ?_
  rintro e wA ⟨rfl, bA⟩
  have HBA := hid (HB.out.fwd bA)
  have HLA := hid (HL.out.trans (bA.mono HL.out.size))
  clear bA
  have u0' := HBA.out.c 0 rfl 0 rfl
  have u1' := HBA.out.c 0 rfl 1 rfl
  have u2' := HBA.out.c 0 rfl 2 rfl
  have u3' := HBA.out.c 0 rfl 3 rfl
  have u4' := HBA.out.c 0 rfl 4 rfl
  have u5' := HBA.out.c 0 rfl 5 rfl
  have u6' := HBA.out.c 0 rfl 6 rfl
  have u7' := HBA.out.c 0 rfl 7 rfl
  have u8' := HBA.out.c 0 rfl 8 rfl
  go_wp2_with fail
  clear u0' u1' u2' u3' u4' u5' u6' u7' u8'
  refine (hcp.out _ _ [u0, u1, u2, u3, u4, u5, u6, u7, u8] rfl (HD.out.fwd HLA.out).2).mono ?_
  rintro e wB ⟨vs, rfl, bwB, hv⟩
  obtain ⟨v0, l0, rfl, hl0⟩ := len_cons hv.1
  obtain ⟨v1, l1, rfl, hl1⟩ := len_cons hl0
  obtain ⟨v2, l2, rfl, hl2⟩ := len_cons hl1
  obtain ⟨v3, l3, rfl, hl3⟩ := len_cons hl2
  obtain ⟨v4, l4, rfl, hl4⟩ := len_cons hl3
  obtain ⟨v5, l5, rfl, hl5⟩ := len_cons hl4
  obtain ⟨v6, l6, rfl, hl6⟩ := len_cons hl5
  obtain ⟨v7, l7, rfl, hl7⟩ := len_cons hl6
  obtain ⟨v8, l8, rfl, hl8⟩ := len_cons hl7
  obtain rfl := len_zero hl8; clear hl0 hl1 hl2 hl3 hl4 hl5 hl6 hl7 hl8
  have NB := hid hv; clear hv
  have HBB := hid (HBA.out.fwd bwB)
  have HLB := hid (HLA.out.trans (bwB.mono HLA.out.size))
  clear bwB
  go_wp2_with fail
  refine (qs.out.callsS (vs := [_]) (B := fun _ => True) (vals1_mk NB.out.drs.v)).mono ?_
  rintro e wC ⟨ys, rfl, bC, hy⟩
  clear NB
  obtain ⟨y0, l0, rfl, hl0⟩ := len_cons hy.1
  obtain ⟨y1, l1, rfl, hl1⟩ := len_cons hl0
  obtain ⟨y2, l2, rfl, hl2⟩ := len_cons hl1
  obtain ⟨y3, l3, rfl, hl3⟩ := len_cons hl2
  obtain ⟨y4, l4, rfl, hl4⟩ := len_cons hl3
  obtain ⟨y5, l5, rfl, hl5⟩ := len_cons hl4
  obtain ⟨y6, l6, rfl, hl6⟩ := len_cons hl5
  obtain ⟨y7, l7, rfl, hl7⟩ := len_cons hl6
  obtain ⟨y8, l8, rfl, hl8⟩ := len_cons hl7
  obtain rfl := len_zero hl8; clear hl0 hl1 hl2 hl3 hl4 hl5 hl6 hl7 hl8
  have HBC := hid (HBB.out.fwd bC)
  have HLC := hid (HLB.out.trans (bC.mono HLB.out.size))
  have DWC := hid hy; clear hy bC
  have s0 := fun a m w => run_store Try.prog w a y0 m (DWC.out.2 0 _ _ rfl rfl).one
  have s1 := fun a m w => run_store Try.prog w a y1 m (DWC.out.2 1 _ _ rfl rfl).one
  have s2 := fun a m w => run_store Try.prog w a y2 m (DWC.out.2 2 _ _ rfl rfl).one
  have s3 := fun a m w => run_store Try.prog w a y3 m (DWC.out.2 3 _ _ rfl rfl).one
  have s4 := fun a m w => run_store Try.prog w a y4 m (DWC.out.2 4 _ _ rfl rfl).one
  have s5 := fun a m w => run_store Try.prog w a y5 m (DWC.out.2 5 _ _ rfl rfl).one
  have s6 := fun a m w => run_store Try.prog w a y6 m (DWC.out.2 6 _ _ rfl rfl).one
  have s7 := fun a m w => run_store Try.prog w a y7 m (DWC.out.2 7 _ _ rfl rfl).one
  have s8 := fun a m w => run_store Try.prog w a y8 m (DWC.out.2 8 _ _ rfl rfl).one
  have ALc := hid (show Below wC.heap.size wC (wC.alloc (.cells [y0, y1, y2, y3, y4, y5, y6, y7, y8].toArray 42)) from (Below.refl _ _).alloc (Nat.le_refl _) _)
  have HBc := hid (HBC.out.add [y0, y1, y2, y3, y4, y5, y6, y7, y8] 42)
  have HLc := hid (HLC.out.trans (ALc.out.mono HLC.out.size))
  have DWc := hid (DWC.out.fwd ALc.out)
  have u0' := HBc.out.c 1 rfl 0 rfl
  have u1' := HBc.out.c 1 rfl 1 rfl
  have u2' := HBc.out.c 1 rfl 2 rfl
  have u3' := HBc.out.c 1 rfl 3 rfl
  have u4' := HBc.out.c 1 rfl 4 rfl
  have u5' := HBc.out.c 1 rfl 5 rfl
  have u6' := HBc.out.c 1 rfl 6 rfl
  have u7' := HBc.out.c 1 rfl 7 rfl
  have u8' := HBc.out.c 1 rfl 8 rfl
  go_wp2_with fail
  clear s0 s1 s2 s3 s4 s5 s6 s7 s8
  clear u0' u1' u2' u3' u4' u5' u6' u7' u8'
  refine (hcp.out _ _ [u0, u1, u2, u3, u4, u5, u6, u7, u8] rfl (HD.out.fwd HLc.out).2).mono ?_
  rintro e wD ⟨vs, rfl, bwD, hv⟩
  obtain ⟨x0, l0, rfl, hl0⟩ := len_cons hv.1
  obtain ⟨x1, l1, rfl, hl1⟩ := len_cons hl0
  obtain ⟨x2, l2, rfl, hl2⟩ := len_cons hl1
  obtain ⟨x3, l3, rfl, hl3⟩ := len_cons hl2
  obtain ⟨x4, l4, rfl, hl4⟩ := len_cons hl3
  obtain ⟨x5, l5, rfl, hl5⟩ := len_cons hl4
  obtain ⟨x6, l6, rfl, hl6⟩ := len_cons hl5
  obtain ⟨x7, l7, rfl, hl7⟩ := len_cons hl6
  obtain ⟨x8, l8, rfl, hl8⟩ := len_cons hl7
  obtain rfl := len_zero hl8; clear hl0 hl1 hl2 hl3 hl4 hl5 hl6 hl7 hl8
  have NX := hid hv; clear hv
  have HBD := hid (HBc.out.fwd bwD)
  have HLD := hid (HLc.out.trans (bwD.mono HLc.out.size))
  have DWD := hid (DWc.out.fwd bwD)
  have DXD := hid (NX.out.k (S := fun c => (wC.alloc (.cells [y0, y1, y2, y3, y4, y5, y6, y7, y8].toArray 42)).heap.size ≤ c ∧ c < wD.heap.size) fun c h1 h2 => ⟨h1, h2⟩); have SZD := hid bwD.size; clear bwD
  have NXD := hid NX.out.drs
  have s0 := fun a m w => run_store Try.prog w a x0 m (NXD.out.2 0 _ _ rfl rfl).one
  have s1 := fun a m w => run_store Try.prog w a x1 m (NXD.out.2 1 _ _ rfl rfl).one
  have s2 := fun a m w => run_store Try.prog w a x2 m (NXD.out.2 2 _ _ rfl rfl).one
  have s3 := fun a m w => run_store Try.prog w a x3 m (NXD.out.2 3 _ _ rfl rfl).one
  have s4 := fun a m w => run_store Try.prog w a x4 m (NXD.out.2 4 _ _ rfl rfl).one
  have s5 := fun a m w => run_store Try.prog w a x5 m (NXD.out.2 5 _ _ rfl rfl).one
  have s6 := fun a m w => run_store Try.prog w a x6 m (NXD.out.2 6 _ _ rfl rfl).one
  have s7 := fun a m w => run_store Try.prog w a x7 m (NXD.out.2 7 _ _ rfl rfl).one
  have s8 := fun a m w => run_store Try.prog w a x8 m (NXD.out.2 8 _ _ rfl rfl).one
  have ALd := hid (show Below wD.heap.size wD (wD.alloc (.cells [x0, x1, x2, x3, x4, x5, x6, x7, x8].toArray 42)) from (Below.refl _ _).alloc (Nat.le_refl _) _)
  have HBd := hid (HBD.out.add [x0, x1, x2, x3, x4, x5, x6, x7, x8] 42)
  have HLd := hid (HLD.out.trans (ALd.out.mono HLD.out.size))
  have DWd := hid (DWD.out.fwd ALd.out)
  have DXd := hid (DXD.out.mark (marked_of ALd.out _))
  have NXd := hid (NXD.out.fwd ALd.out)
  go_wp2_with fail
  clear s0 s1 s2 s3 s4 s5 s6 s7 s8
  refine (FnT.callsS qi.out (rS_plain r) (rS_nsl r) (vs := [_]) (vals1_mk NXd.out.v)).mono ?_
  rintro e wE ⟨gs, SG, rfl, bwE, hSG, hg⟩
  obtain ⟨g0, l0, rfl, hl0⟩ := len_cons hg.1
  obtain ⟨g1, l1, rfl, hl1⟩ := len_cons hl0
  obtain ⟨g2, l2, rfl, hl2⟩ := len_cons hl1
  obtain ⟨g3, l3, rfl, hl3⟩ := len_cons hl2
  obtain ⟨g4, l4, rfl, hl4⟩ := len_cons hl3
  obtain ⟨g5, l5, rfl, hl5⟩ := len_cons hl4
  obtain ⟨g6, l6, rfl, hl6⟩ := len_cons hl5
  obtain ⟨g7, l7, rfl, hl7⟩ := len_cons hl6
  obtain ⟨g8, l8, rfl, hl8⟩ := len_cons hl7
  obtain rfl := len_zero hl8; clear hl0 hl1 hl2 hl3 hl4 hl5 hl6 hl7 hl8
  have HBE := hid (HBd.out.fwd bwE)
  have HLE := hid (HLd.out.trans (bwE.mono HLd.out.size))
  have DWE := hid (DWd.out.fwd bwE)
  have DXE := hid (DXd.out.mark (marked_of bwE _))
  have NXE := hid (NXd.out.fwd bwE)
  have DGE := hid hg; have HSG := hid hSG; have SZE := hid bwE.size; clear hg hSG bwE
  have s0 := fun a m w => run_store Try.prog w a g0 m (DGE.out.drs.2 0 _ _ rfl rfl).one
  have s1 := fun a m w => run_store Try.prog w a g1 m (DGE.out.drs.2 1 _ _ rfl rfl).one
  have s2 := fun a m w => run_store Try.prog w a g2 m (DGE.out.drs.2 2 _ _ rfl rfl).one
  have s3 := fun a m w => run_store Try.prog w a g3 m (DGE.out.drs.2 3 _ _ rfl rfl).one
  have s4 := fun a m w => run_store Try.prog w a g4 m (DGE.out.drs.2 4 _ _ rfl rfl).one
  have s5 := fun a m w => run_store Try.prog w a g5 m (DGE.out.drs.2 5 _ _ rfl rfl).one
  have s6 := fun a m w => run_store Try.prog w a g6 m (DGE.out.drs.2 6 _ _ rfl rfl).one
  have s7 := fun a m w => run_store Try.prog w a g7 m (DGE.out.drs.2 7 _ _ rfl rfl).one
  have s8 := fun a m w => run_store Try.prog w a g8 m (DGE.out.drs.2 8 _ _ rfl rfl).one
  have ALe := hid (show Below wE.heap.size wE (wE.alloc (.cells [g0, g1, g2, g3, g4, g5, g6, g7, g8].toArray 42)) from (Below.refl _ _).alloc (Nat.le_refl _) _)
  have HBe := hid (HBE.out.add [g0, g1, g2, g3, g4, g5, g6, g7, g8] 42)
  have HLe := hid (HLE.out.trans (ALe.out.mono HLE.out.size))
  have DWe := hid (DWE.out.fwd ALe.out)
  have DXe := hid (DXE.out.mark (marked_of ALe.out _))
  have NXe := hid (NXE.out.fwd ALe.out)
  have DGe := hid (DGE.out.fwd ALe.out)
  have y0' := HBe.out.c 2 rfl 0 rfl
  have y1' := HBe.out.c 2 rfl 1 rfl
  have y2' := HBe.out.c 2 rfl 2 rfl
  have y3' := HBe.out.c 2 rfl 3 rfl
  have y4' := HBe.out.c 2 rfl 4 rfl
  have y5' := HBe.out.c 2 rfl 5 rfl
  have y6' := HBe.out.c 2 rfl 6 rfl
  have y7' := HBe.out.c 2 rfl 7 rfl
  have y8' := HBe.out.c 2 rfl 8 rfl
  go_wp2_with fail
  clear s0 s1 s2 s3 s4 s5 s6 s7 s8
  clear y0' y1' y2' y3' y4' y5' y6' y7' y8'
  refine (heq.out.callsB (vs := [_, _]) (B := fun _ => True) (vals2_mk DGe.out.drs.v (DWe.out.mono fun _ _ _ => trivial).v)).mono ?_
  rintro e wF ⟨rfl, bwF⟩
  rw [show sameS r r = true from sameS_iff.2 rfl]
  have HBF := hid (HBe.out.fwd bwF)
  have HLF := hid (HLe.out.trans (bwF.mono HLe.out.size))
  have DWF := hid (DWe.out.fwd bwF)
  have DXF := hid (DXe.out.mark (marked_of bwF _))
  have NXF := hid (NXe.out.fwd bwF)
  have DGF := hid (DGe.out.fwd bwF)
  clear bwF
  have u0' := HBF.out.c 3 rfl 0 rfl
  have u1' := HBF.out.c 3 rfl 1 rfl
  have u2' := HBF.out.c 3 rfl 2 rfl
  have u3' := HBF.out.c 3 rfl 3 rfl
  have u4' := HBF.out.c 3 rfl 4 rfl
  have u5' := HBF.out.c 3 rfl 5 rfl
  have u6' := HBF.out.c 3 rfl 6 rfl
  have u7' := HBF.out.c 3 rfl 7 rfl
  have u8' := HBF.out.c 3 rfl 8 rfl
  have x0' := HBF.out.c 1 rfl 0 rfl
  have x1' := HBF.out.c 1 rfl 1 rfl
  have x2' := HBF.out.c 1 rfl 2 rfl
  have x3' := HBF.out.c 1 rfl 3 rfl
  have x4' := HBF.out.c 1 rfl 4 rfl
  have x5' := HBF.out.c 1 rfl 5 rfl
  have x6' := HBF.out.c 1 rfl 6 rfl
  have x7' := HBF.out.c 1 rfl 7 rfl
  have x8' := HBF.out.c 1 rfl 8 rfl
  go_wp2_with fail
  go_region_held3 (fun wq => wq.cell? ⟨w.heap.size, 0, none⟩ = some u0 ∧ wq.cell? ⟨w.heap.size, 1, none⟩ = some u1 ∧ wq.cell? ⟨w.heap.size, 2, none⟩ = some u2 ∧ wq.cell? ⟨w.heap.size, 3, none⟩ = some u3 ∧ wq.cell? ⟨w.heap.size, 4, none⟩ = some u4 ∧ wq.cell? ⟨w.heap.size, 5, none⟩ = some u5 ∧ wq.cell? ⟨w.heap.size, 6, none⟩ = some u6 ∧ wq.cell? ⟨w.heap.size, 7, none⟩ = some u7 ∧ wq.cell? ⟨w.heap.size, 8, none⟩ = some u8 ∧ wq.cell? ⟨wD.heap.size, 0, none⟩ = some x0 ∧ wq.cell? ⟨wD.heap.size, 1, none⟩ = some x1 ∧ wq.cell? ⟨wD.heap.size, 2, none⟩ = some x2 ∧ wq.cell? ⟨wD.heap.size, 3, none⟩ = some x3 ∧ wq.cell? ⟨wD.heap.size, 4, none⟩ = some x4 ∧ wq.cell? ⟨wD.heap.size, 5, none⟩ = some x5 ∧ wq.cell? ⟨wD.heap.size, 6, none⟩ = some x6 ∧ wq.cell? ⟨wD.heap.size, 7, none⟩ = some x7 ∧ wq.cell? ⟨wD.heap.size, 8, none⟩ = some x8)
    ((repeat' apply And.intro) <;> first | assumption | go_keep)
    (first
    | (go_at_call 7
       refine (hcp.out _ _ [u0, u1, u2, u3, u4, u5, u6, u7, u8] rfl (HD.out.fwd (HLF.out.drew)).2).mono ?_
       rintro e wG ⟨vs, rfl, bG, hv⟩
       obtain ⟨z0, l0, rfl, hl0⟩ := len_cons hv.1
       obtain ⟨z1, l1, rfl, hl1⟩ := len_cons hl0
       obtain ⟨z2, l2, rfl, hl2⟩ := len_cons hl1
       obtain ⟨z3, l3, rfl, hl3⟩ := len_cons hl2
       obtain ⟨z4, l4, rfl, hl4⟩ := len_cons hl3
       obtain ⟨z5, l5, rfl, hl5⟩ := len_cons hl4
       obtain ⟨z6, l6, rfl, hl6⟩ := len_cons hl5
       obtain ⟨z7, l7, rfl, hl7⟩ := len_cons hl6
       obtain ⟨z8, l8, rfl, hl8⟩ := len_cons hl7
       obtain rfl := len_zero hl8
       have NG := hid hv
       have HFG := hid (show Below wF.heap.size wF wG from (Below.refl _ _).drew.trans bG)
       clear hv bG hl0 hl1 hl2 hl3 hl4 hl5 hl6 hl7 hl8
       have u0' := (HBF.out.fwd HFG.out).c 3 rfl 0 rfl
       have u1' := (HBF.out.fwd HFG.out).c 3 rfl 1 rfl
       have u2' := (HBF.out.fwd HFG.out).c 3 rfl 2 rfl
       have u3' := (HBF.out.fwd HFG.out).c 3 rfl 3 rfl
       have u4' := (HBF.out.fwd HFG.out).c 3 rfl 4 rfl
       have u5' := (HBF.out.fwd HFG.out).c 3 rfl 5 rfl
       have u6' := (HBF.out.fwd HFG.out).c 3 rfl 6 rfl
       have u7' := (HBF.out.fwd HFG.out).c 3 rfl 7 rfl
       have u8' := (HBF.out.fwd HFG.out).c 3 rfl 8 rfl
       have x0' := (HBF.out.fwd HFG.out).c 1 rfl 0 rfl
       have x1' := (HBF.out.fwd HFG.out).c 1 rfl 1 rfl
       have x2' := (HBF.out.fwd HFG.out).c 1 rfl 2 rfl
       have x3' := (HBF.out.fwd HFG.out).c 1 rfl 3 rfl
       have x4' := (HBF.out.fwd HFG.out).c 1 rfl 4 rfl
       have x5' := (HBF.out.fwd HFG.out).c 1 rfl 5 rfl
       have x6' := (HBF.out.fwd HFG.out).c 1 rfl 6 rfl
       have x7' := (HBF.out.fwd HFG.out).c 1 rfl 7 rfl
       have x8' := (HBF.out.fwd HFG.out).c 1 rfl 8 rfl)
    | (go_at_call 10
       refine (hes.out.callsB (vs := [_, _]) (B := fun _ => True) (vals2_mk (NXF.out.fwd HFG.out).v NG.out.drs.v)).mono ?_
       rintro e wH ⟨rfl, bH⟩
       rw [show sameS s s = true from sameS_iff.2 rfl]
       have HFH := hid (HFG.out.trans (bH.mono HFG.out.size))
       clear bH
       have u0' := (HBF.out.fwd HFH.out).c 3 rfl 0 rfl
       have u1' := (HBF.out.fwd HFH.out).c 3 rfl 1 rfl
       have u2' := (HBF.out.fwd HFH.out).c 3 rfl 2 rfl
       have u3' := (HBF.out.fwd HFH.out).c 3 rfl 3 rfl
       have u4' := (HBF.out.fwd HFH.out).c 3 rfl 4 rfl
       have u5' := (HBF.out.fwd HFH.out).c 3 rfl 5 rfl
       have u6' := (HBF.out.fwd HFH.out).c 3 rfl 6 rfl
       have u7' := (HBF.out.fwd HFH.out).c 3 rfl 7 rfl
       have u8' := (HBF.out.fwd HFH.out).c 3 rfl 8 rfl
       have x0' := (HBF.out.fwd HFH.out).c 1 rfl 0 rfl
       have x1' := (HBF.out.fwd HFH.out).c 1 rfl 1 rfl
       have x2' := (HBF.out.fwd HFH.out).c 1 rfl 2 rfl
       have x3' := (HBF.out.fwd HFH.out).c 1 rfl 3 rfl
       have x4' := (HBF.out.fwd HFH.out).c 1 rfl 4 rfl
       have x5' := (HBF.out.fwd HFH.out).c 1 rfl 5 rfl
       have x6' := (HBF.out.fwd HFH.out).c 1 rfl 6 rfl
       have x7' := (HBF.out.fwd HFH.out).c 1 rfl 7 rfl
       have x8' := (HBF.out.fwd HFH.out).c 1 rfl 8 rfl))

  have HBH := hid (HBF.out.fwd HFH.out)
  have HLH := hid (HLF.out.trans (HFH.out.mono HLF.out.size))
  have DWH := hid (DWF.out.fwd HFH.out)
  have DXH := hid (DXF.out.mark (marked_of HFH.out _))
  have NXH := hid (NXF.out.fwd HFH.out)
  have DGH := hid (DGF.out.fwd HFH.out)
  clear NG HFG HFH
  go_wp2_with fail
  clear u0' u1' u2' u3' u4' u5' u6' u7' u8' x0' x1' x2' x3' x4' x5' x6' x7' x8'
  have zH : wD.heap.size ≤ wH.heap.size := Nat.le_of_lt (HBH.out.lt (b := (wD.heap.size, _, _)) (List.mem_of_getElem? (i := 1) rfl))
  refine (mks.out _ _ [x0, x1, x2, x3, x4, x5, x6, x7, x8] 1 DXH.out (fun c h => Nat.lt_of_lt_of_le h.2 zH) (by omega) (by have := WS.out; have := EK.out; omega)).mono ?_
  rw [← EK.out]
  rintro e wI ⟨rfl, mI⟩
  have e1 := SZE.out; have e2 := HLC.out.size; have e3 : (wC.alloc (.cells [y0, y1, y2, y3, y4, y5, y6, y7, y8].toArray 42)).heap.size = wC.heap.size + 1 := by simp
  have e4 : (wD.alloc (.cells [x0, x1, x2, x3, x4, x5, x6, x7, x8].toArray 42)).heap.size = wD.heap.size + 1 := by simp
  have e8 := SZD.out; rw [e3] at e8
  have e5 := HBC.out.lt (b := (w.heap.size, _, _)) (List.mem_of_getElem? (i := 0) rfl)
  have e6 := HLH.out.size
  have e7 := HBH.out.lt (b := (wE.heap.size, _, _)) (List.mem_of_getElem? (i := 0) rfl)
  have SZS := hid (And.intro e1 (And.intro e2 (And.intro e3 (And.intro e4 e5))))
  dsimp only at e5 e7
  have HBI := hid (HBH.out.mark mI (fun c hc h => by
    have h1 := h.1; have h2 := h.2
    rw [e3] at h1; rw [e4] at e1
    simp only [List.mem_cons, List.not_mem_nil, or_false] at hc
    rcases hc with rfl | rfl | rfl | rfl <;> dsimp only at h1 h2 <;> omega))
  have bI := mI.below (n := wC.heap.size) (fun c h => by have h1 := h.1; rw [e3] at h1; omega) (by omega)
  have HLI := hid (HLH.out.trans (bI.mono (by omega))); have DWI := hid (DWH.out.lo bI)
  have DGI := hid (DGH.out.frame fun c hc hl => mI.old c hl fun h => by have h1 := (HSG.out c hc).1; have h2 := h.2; rw [e4] at h1; omega)
  clear mI bI e6 e7 zH
  have h2 : decide ((1 : Int) + (kS : Nat) < 0) = false := by simp; omega
  have g0' := HBI.out.c 0 rfl 0 rfl
  have g1' := HBI.out.c 0 rfl 1 rfl
  have g2' := HBI.out.c 0 rfl 2 rfl
  have g3' := HBI.out.c 0 rfl 3 rfl
  have g4' := HBI.out.c 0 rfl 4 rfl
  have g5' := HBI.out.c 0 rfl 5 rfl
  have g6' := HBI.out.c 0 rfl 6 rfl
  have g7' := HBI.out.c 0 rfl 7 rfl
  have g8' := HBI.out.c 0 rfl 8 rfl
  have y0' := HBI.out.c 2 rfl 0 rfl
  have y1' := HBI.out.c 2 rfl 1 rfl
  have y2' := HBI.out.c 2 rfl 2 rfl
  have y3' := HBI.out.c 2 rfl 3 rfl
  have y4' := HBI.out.c 2 rfl 4 rfl
  have y5' := HBI.out.c 2 rfl 5 rfl
  have y6' := HBI.out.c 2 rfl 6 rfl
  have y7' := HBI.out.c 2 rfl 7 rfl
  have y8' := HBI.out.c 2 rfl 8 rfl
  go_wp2_with fail
  clear h2
  clear g0' g1' g2' g3' g4' g5' g6' g7' g8' y0' y1' y2' y3' y4' y5' y6' y7' y8'
  refine (heq.out.callsB (vs := [_, _]) (B := fun _ => True) (vals2_mk DGI.out.drs.v (DWI.out.mono fun _ _ _ => trivial).v)).mono ?_
  rintro e wJ ⟨rfl, bwJ⟩
  rw [show sameS r r = true from sameS_iff.2 rfl]
  have HBJ := hid (HBI.out.fwd bwJ)
  have HLJ := hid (HLI.out.trans (bwJ.mono HLI.out.size))
  have DWJ := hid (DWI.out.fwd bwJ)
  have DGJ := hid (DGI.out.fwd bwJ)
  clear bwJ
  have g0' := HBJ.out.c 0 rfl 0 rfl
  have g1' := HBJ.out.c 0 rfl 1 rfl
  have g2' := HBJ.out.c 0 rfl 2 rfl
  have g3' := HBJ.out.c 0 rfl 3 rfl
  have g4' := HBJ.out.c 0 rfl 4 rfl
  have g5' := HBJ.out.c 0 rfl 5 rfl
  have g6' := HBJ.out.c 0 rfl 6 rfl
  have g7' := HBJ.out.c 0 rfl 7 rfl
  have g8' := HBJ.out.c 0 rfl 8 rfl
  go_wp2_with fail
  clear g0' g1' g2' g3' g4' g5' g6' g7' g8'
  have e7 := HBJ.out.lt (b := (wE.heap.size, _, _)) (List.mem_of_getElem? (i := 0) rfl)
  dsimp only at e7
  refine (mku.out SG _ [g0, g1, g2, g3, g4, g5, g6, g7, g8] 1 DGJ.out (fun c h => Nat.lt_trans (HSG.out c h).2 e7) (by omega) (by have := WR.out; have := ER.out; omega)).mono ?_
  rw [← ER.out]
  rintro e wK ⟨rfl, mK, gK⟩
  have HBK := hid (HBJ.out.mark mK (fun c hc h => by
    have h1 := (HSG.out _ h).1; have h2 := (HSG.out _ h).2
    rw [e4] at h1 e1
    simp only [List.mem_cons, List.not_mem_nil, or_false] at hc
    rcases hc with rfl | rfl | rfl | rfl <;> dsimp only at h1 h2 <;> omega))
  have bK := mK.below (n := wC.heap.size) (fun c h => by have h1 := (HSG.out _ h).1; rw [e4] at h1; omega) (by omega)
  have HLK := hid (HLJ.out.trans (bK.mono (by omega))); have DWK := hid (DWJ.out.lo bK); have DGK := hid gK; clear mK bK gK e7
  have g0' := HBK.out.c 0 rfl 0 rfl
  have g1' := HBK.out.c 0 rfl 1 rfl
  have g2' := HBK.out.c 0 rfl 2 rfl
  have g3' := HBK.out.c 0 rfl 3 rfl
  have g4' := HBK.out.c 0 rfl 4 rfl
  have g5' := HBK.out.c 0 rfl 5 rfl
  have g6' := HBK.out.c 0 rfl 6 rfl
  have g7' := HBK.out.c 0 rfl 7 rfl
  have g8' := HBK.out.c 0 rfl 8 rfl
  go_wp2_with fail
  clear g0' g1' g2' g3' g4' g5' g6' g7' g8'
  refine (hhd.out.callsI (vs := [_, _]) (B := fun _ => True) (vals2_mk DGK.out.drs.v (Dr.val (.int .i64 1) rfl))).mono ?_
  rintro e wL ⟨rfl, bwL⟩
  have HBL := hid (HBK.out.fwd bwL)
  have HLL := hid (HLK.out.trans (bwL.mono HLK.out.size))
  have DWL := hid (DWK.out.fwd bwL)
  have DGL := hid (DGK.out.fwd bwL)
  clear bwL
  have h3 : decide ((1 : Int) + (kR : Nat) < 0) = false := by simp; omega
  have u0' := HBL.out.c 3 rfl 0 rfl
  have u1' := HBL.out.c 3 rfl 1 rfl
  have u2' := HBL.out.c 3 rfl 2 rfl
  have u3' := HBL.out.c 3 rfl 3 rfl
  have u4' := HBL.out.c 3 rfl 4 rfl
  have u5' := HBL.out.c 3 rfl 5 rfl
  have u6' := HBL.out.c 3 rfl 6 rfl
  have u7' := HBL.out.c 3 rfl 7 rfl
  have u8' := HBL.out.c 3 rfl 8 rfl
  go_wp2_with fail
  clear u0' u1' u2' u3' u4' u5' u6' u7' u8'
  refine (hcp.out _ _ [u0, u1, u2, u3, u4, u5, u6, u7, u8] rfl (HD.out.fwd HLL.out).2).mono ?_
  rintro e wM ⟨vs, rfl, bwM, hv⟩
  obtain ⟨m0, l0, rfl, hl0⟩ := len_cons hv.1
  obtain ⟨m1, l1, rfl, hl1⟩ := len_cons hl0
  obtain ⟨m2, l2, rfl, hl2⟩ := len_cons hl1
  obtain ⟨m3, l3, rfl, hl3⟩ := len_cons hl2
  obtain ⟨m4, l4, rfl, hl4⟩ := len_cons hl3
  obtain ⟨m5, l5, rfl, hl5⟩ := len_cons hl4
  obtain ⟨m6, l6, rfl, hl6⟩ := len_cons hl5
  obtain ⟨m7, l7, rfl, hl7⟩ := len_cons hl6
  obtain ⟨m8, l8, rfl, hl8⟩ := len_cons hl7
  obtain rfl := len_zero hl8; clear hl0 hl1 hl2 hl3 hl4 hl5 hl6 hl7 hl8
  have NM := hid hv; clear hv
  have HBM := hid (HBL.out.fwd bwM)
  have HLM := hid (HLL.out.trans (bwM.mono HLL.out.size))
  have DWM := hid (DWL.out.fwd bwM)
  have DGM := hid (DGL.out.fwd bwM)
  clear bwM
  go_wp2_with fail
  refine (FnT.callsS qi.out (rS_plain r) (rS_nsl r) (vs := [_]) (vals1_mk NM.out.drs.v)).mono ?_
  rintro e wN ⟨gs, SH, rfl, bwN, hSH, hg⟩
  obtain ⟨h0, l0, rfl, hl0⟩ := len_cons hg.1
  obtain ⟨h1, l1, rfl, hl1⟩ := len_cons hl0
  obtain ⟨h2, l2, rfl, hl2⟩ := len_cons hl1
  obtain ⟨h3, l3, rfl, hl3⟩ := len_cons hl2
  obtain ⟨h4, l4, rfl, hl4⟩ := len_cons hl3
  obtain ⟨h5, l5, rfl, hl5⟩ := len_cons hl4
  obtain ⟨h6, l6, rfl, hl6⟩ := len_cons hl5
  obtain ⟨h7, l7, rfl, hl7⟩ := len_cons hl6
  obtain ⟨h8, l8, rfl, hl8⟩ := len_cons hl7
  obtain rfl := len_zero hl8; clear hl0 hl1 hl2 hl3 hl4 hl5 hl6 hl7 hl8
  have HBN := hid (HBM.out.fwd bwN)
  have HLN := hid (HLM.out.trans (bwN.mono HLM.out.size))
  have DWN := hid (DWM.out.fwd bwN)
  have DGN := hid (DGM.out.fwd bwN)
  have DHN := hid hg; clear hg hSH bwN NM
  have s0 := fun a m w => run_store Try.prog w a h0 m (DHN.out.drs.2 0 _ _ rfl rfl).one
  have s1 := fun a m w => run_store Try.prog w a h1 m (DHN.out.drs.2 1 _ _ rfl rfl).one
  have s2 := fun a m w => run_store Try.prog w a h2 m (DHN.out.drs.2 2 _ _ rfl rfl).one
  have s3 := fun a m w => run_store Try.prog w a h3 m (DHN.out.drs.2 3 _ _ rfl rfl).one
  have s4 := fun a m w => run_store Try.prog w a h4 m (DHN.out.drs.2 4 _ _ rfl rfl).one
  have s5 := fun a m w => run_store Try.prog w a h5 m (DHN.out.drs.2 5 _ _ rfl rfl).one
  have s6 := fun a m w => run_store Try.prog w a h6 m (DHN.out.drs.2 6 _ _ rfl rfl).one
  have s7 := fun a m w => run_store Try.prog w a h7 m (DHN.out.drs.2 7 _ _ rfl rfl).one
  have s8 := fun a m w => run_store Try.prog w a h8 m (DHN.out.drs.2 8 _ _ rfl rfl).one
  have ALn := hid (show Below wN.heap.size wN (wN.alloc (.cells [h0, h1, h2, h3, h4, h5, h6, h7, h8].toArray 42)) from (Below.refl _ _).alloc (Nat.le_refl _) _)
  have HBn := hid (HBN.out.add [h0, h1, h2, h3, h4, h5, h6, h7, h8] 42)
  have HLn := hid (HLN.out.trans (ALn.out.mono HLN.out.size))
  have DWn := hid (DWN.out.fwd ALn.out)
  have DGn := hid (DGN.out.fwd ALn.out)
  have DHn := hid (DHN.out.fwd ALn.out)
  have y0' := HBn.out.c 3 rfl 0 rfl
  have y1' := HBn.out.c 3 rfl 1 rfl
  have y2' := HBn.out.c 3 rfl 2 rfl
  have y3' := HBn.out.c 3 rfl 3 rfl
  have y4' := HBn.out.c 3 rfl 4 rfl
  have y5' := HBn.out.c 3 rfl 5 rfl
  have y6' := HBn.out.c 3 rfl 6 rfl
  have y7' := HBn.out.c 3 rfl 7 rfl
  have y8' := HBn.out.c 3 rfl 8 rfl
  go_wp2_with fail
  clear s0 s1 s2 s3 s4 s5 s6 s7 s8
  clear y0' y1' y2' y3' y4' y5' y6' y7' y8'
  refine (heq.out.callsB (vs := [_, _]) (B := fun _ => True) (vals2_mk DHn.out.drs.v (DWn.out.mono fun _ _ _ => trivial).v)).mono ?_
  rintro e wO ⟨rfl, bwO⟩
  rw [show sameS r r = true from sameS_iff.2 rfl]
  have HBO := hid (HBn.out.fwd bwO)
  have HLO := hid (HLn.out.trans (bwO.mono HLn.out.size))
  have DWO := hid (DWn.out.fwd bwO)
  have DGO := hid (DGn.out.fwd bwO)
  have DHO := hid (DHn.out.fwd bwO)
  clear bwO
  have g0' := HBO.out.c 1 rfl 0 rfl
  have g1' := HBO.out.c 1 rfl 1 rfl
  have g2' := HBO.out.c 1 rfl 2 rfl
  have g3' := HBO.out.c 1 rfl 3 rfl
  have g4' := HBO.out.c 1 rfl 4 rfl
  have g5' := HBO.out.c 1 rfl 5 rfl
  have g6' := HBO.out.c 1 rfl 6 rfl
  have g7' := HBO.out.c 1 rfl 7 rfl
  have g8' := HBO.out.c 1 rfl 8 rfl
  go_wp2_with fail
  clear g0' g1' g2' g3' g4' g5' g6' g7' g8'
  refine (hhd.out.callsI (vs := [_, _]) (B := fun _ => True) (vals2_mk DGO.out.drs.v (Dr.val (.int .i64 1) rfl))).mono ?_
  rintro e wP ⟨rfl, bwP⟩
  have HBP := hid (HBO.out.fwd bwP)
  have HLP := hid (HLO.out.trans (bwP.mono HLO.out.size))
  have DWP := hid (DWO.out.fwd bwP)
  have DGP := hid (DGO.out.fwd bwP)
  have DHP := hid (DHO.out.fwd bwP)
  clear bwP
  go_wp2_with fail
  go_ret
  exact ⟨rfl, HLP.out⟩
theorem lawEfold {s : Stm} (ho : okS s) {w : World} {v : Value} (e0 : V1r bx0 al0 (fun b => b < w.heap.size) w (ad (rS s)) v) : Truth Try.prog 4 #[v] w := by
  obtain ⟨us, rfl, d⟩ := e0_drs e0
  exact lawXfold ho (fun hs => specFold_fn s (by omega)) (fun hs => FoldStmt_T s (by omega)) (fun hs => foldT_sz hs) d
end Go.Proofs.Ytollooimmfngjaa
