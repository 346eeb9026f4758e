/- Part 4 of 4 of the proof: laws on memory and data, then what the functions compute, in the order in which they build on each other; conditions: those that each theorem names. -/
import Derived.Test.YtfgljkblopojgaaGreatDoorP3
set_option maxRecDepth 100000
set_option maxHeartbeats 1600000

namespace Go.Proofs.YtfgljkblopojgaaGreatDoor
set_option linter.unusedVariables false
set_option linter.unusedSimpArgs false
open Go.RowKit
theorem l3SameEx_one (x y:Ex) (hr:x.r.2.length≤1099511627776) (hk:x.ks.length≤1099511627776) (ih:∀a∈x.ks,∀b,Fn Tryz.prog 19 [] [ad (rX a),ad (rX b)] (.o (bo1 (sameE a b))) []):Fn Tryz.prog 19 [] [ad (rX x),ad (rX y)] (.o (bo1 (sameE x y))) []:=by
 refine Fn.code0 Tryz.func19 rfl rfl rfl rfl ?_
 refine .r<|.c .bp<|.c .bp<|.c .a<|.nn<|.seq<|.r<|.c (.fP 0 0 false)<|.c (.l1 1)<|.c (.fP 0 0 false)<|.c (.l1 1)<|.c .ne<|.c .m ?_
 refine .cND 11 rfl (fun g11=>?_) (fun g11=>?_)
 ·skip
  refine .c .f<|.c .f<|.c .f<|.c .f<|.c .f<|.c .pT<|.c .m<|.c .f<|.c .f<|.c .f<|.c .f<|.c .f<|.c .f<|.c .f<|.c .pT<|.c .m<|.c .f<|.c .f<|.c .f<|.c .f<|.c .f<|.c .f<|.c .pT<|.c .m<|.c .f<|.c .f<|.c .f<|.c .f<|.c .f<|.c .f<|.c .pT<|.nn ?_
  refine .k1 ?_
  refine .r<|.c .a<|.nn<|.ret<|ks_r ?_
  refine kf_ret rfl ?_ nobox
  exact leafB (by rw[sameE_eq,←eqF_sameE];first|(simp_all;done)|(rw[eqF_len (by omega)];simp))
 ·skip
  refine .c (.g (.fP 1 0 false))<|.c (.g (.l1 1))<|.c (.g (.fP 1 0 false))<|.c (.g (.l1 1))<|.c (.g .ne)<|.c .pF<|.c .m ?_
  refine AOps.cases 18 _ rfl (fun g18=>?_) (fun g18=>?_)
  ·try simp only[zs]at g18
   refine .c .f<|.c .f<|.c .f<|.c .f<|.c .f<|.c .f<|.c .f<|.c .pT<|.c .m<|.c .f<|.c .f<|.c .f<|.c .f<|.c .f<|.c .f<|.c .pT<|.c .m<|.c .f<|.c .f<|.c .f<|.c .f<|.c .f<|.c .f<|.c .pT<|.nn ?_
   refine .k1 ?_
   refine .r<|.c .a<|.nn<|.ret<|ks_r ?_
   refine kf_ret rfl ?_ nobox
   exact leafB (by rw[sameE_eq,←eqF_sameE];first|(simp_all;done)|(rw[eqF_len (by omega)];simp))
  ·try simp only[zs]at g18
   refine .c (.g (.fP 6 0 false))<|.c (.g (.l1 1))<|.c (.g (.ln 31 7 112))<|.c (.g (.fP 6 0 false))<|.c (.g (.l1 1))<|.c (.g (.ln 31 7 112))<|.c (.g .ne)<|.c .pF<|.c .m ?_
   refine AOps.cases 27 _ rfl (fun g27=>?_) (fun g27=>?_)
   ·try simp only[zs]at g27
    refine .c .f<|.c .f<|.c .f<|.c .f<|.c .f<|.c .f<|.c .pT<|.c .m<|.c .f<|.c .f<|.c .f<|.c .f<|.c .f<|.c .f<|.c .pT<|.nn ?_
    refine .k1 ?_
    refine .r<|.c .a<|.nn<|.ret<|ks_r ?_
    refine kf_ret rfl ?_ nobox
    exact leafB (by rw[sameE_eq,←eqF_sameE];first|(simp_all;done)|(rw[eqF_len (by omega)];simp))
   ·try simp only[zs]at g27
    refine .c (.g (.fP 2 1 true))<|.c (.g (.lN 2))<|.c (.g (.fP 2 1 true))<|.c (.g (.lN 2)) ?_
    refine .c (.gT rfl rfl rfl (.cP [.tmp 29,.tmp 31] rfl rfl rfl rfl (specSame_fn _ _) rfl)) ?_
    refine .c (.g .nt)<|.c .pF<|.c .m ?_
    refine AOps.cases 35 _ rfl (fun g35=>?_) (fun g35=>?_)
    ·try simp only[zs]at g35
     refine .c .f<|.c .f<|.c .f<|.c .f<|.c .f<|.c .f<|.c .pT<|.nn ?_
     refine .k1 ?_
     refine .r<|.c .a<|.nn<|.ret<|ks_r ?_
     refine kf_ret rfl ?_ nobox
     exact leafB (by rw[sameE_eq,←eqF_sameE];first|(simp_all;done)|(rw[eqF_len (by omega)];simp))
    ·try simp only[zs]at g35
     refine .c (.g (.fP 4 1 true))<|.c (.g (.lN 2))<|.c (.g (.fP 4 1 true))<|.c (.g (.lN 2)) ?_
     refine .c (.gT rfl rfl rfl (.cP [.tmp 37,.tmp 39] rfl rfl rfl rfl (l3SameAcc_fn _ _ hr) rfl)) ?_
     refine .c (.g .nt)<|.c .pF<|.nn ?_
     refine ACode.condT rfl (fun h42=>?_) (fun h42=>?_)
     ·try simp only[zs]at h42
      refine .r<|.c .a<|.nn<|.ret<|ks_r ?_
      refine kf_ret rfl ?_ nobox
      exact leafB (by rw[sameE_eq,←eqF_sameE];first|(simp_all;done)|(rw[eqF_len (by omega)];simp))
     ·try simp only[zs]at h42
      refine .skip<|ks_n<|.seq<|.r<|.c .a<|.nn<|.block ?_
      refine .loopK (fun m σ=>(∃i:Nat,m=x.ks.length -i∧(i≤x.ks.length)∧(eqF sameE x.ks y.ks=eqF sameE (x.ks.drop i) (y.ks.drop i))∧σ=[eP 2 (rX x),eP 3 (rX y),eN 5 (i:Nat)])) [] ⟨0,rfl,by omega,by simp,rfl⟩ ⟨kd,kd,kd,trivial⟩ ?_
      rintro m σ ⟨i,hm0,hi,hF,rfl⟩
      refine .seq<|.r<|.c .m<|.c (.fP 6 0 false)<|.c (.l1 1)<|.c (.ln 31 7 112)<|.c .ls<|.nn ?_
      refine .cD rfl (fun h47=>?_) (fun h47=>?_)
      ·skip
       obtain⟨a,hx1⟩:∃x_,x.ks[i]?=some x_:=⟨_,List.getElem?_eq_getElem (by omega)⟩
       obtain⟨b,hy1⟩:∃x_,y.ks[i]?=some x_:=⟨_,List.getElem?_eq_getElem (by omega)⟩
       refine .skip<|ks_n<|.seq<|.block<|.seq ?_
       refine ACode.drawK (by kernel_rfl) (by kernel_rfl) ?_
       refine .c (.fP 6 0 false)<|.c (.l1 1)<|.c .m ?_
       refine .c (.xL 31 7 112 rfl rfl rfl rfl rfl (rE_at hx1)) ?_
       refine .c (.lN 7)<|.c (.fP 6 0 false)<|.c (.l1 1)<|.c .m ?_
       refine .c (.xL 31 7 112 rfl rfl rfl rfl rfl (rE_at hy1)) ?_
       refine .c (.lN 7) ?_
       refine .c (.cP [.tmp 54,.tmp 59] rfl rfl rfl rfl (ih a (List.mem_of_getElem? hx1) b) rfl) ?_
       refine .c .nt ?_
       refine .nil ⟨by kernel_rfl,?_⟩
       refine ks_n ?_
       refine ACode.condT rfl (fun h61=>?_) (fun h61=>?_)
       ·try simp only[zs]at h61
        have g:sameE a b=false:=by first|exact h61|simpa using h61
        refine .r<|.c .a<|.nn<|.ret<|kb_r<|ks_r<|kl_r<|kb_r<|ks_r ?_
        refine kf_ret rfl ?_ nobox
        exact leafB (by rw[sameE_eq,←eqF_sameE,hF,eqF_drop hx1 hy1,g];simp)
       ·try simp only[zs]at h61
        have g:sameE a b=true:=by first|exact h61|simpa using h61
        refine .skip<|kb_n<|ks_n<|.region<|.c .m<|.c .pl<|.c .a<|.nil ?_
        refine kl_k [] ⟨i+1,rfl,by omega,by rw[hF,eqF_drop hx1 hy1,g,Bool.true_and],rfl⟩ ⟨kd,kd,kd,trivial⟩
      ·skip
       refine .exit<|ks_e<|kl_e<|kb_hit<|ks_n<|.r<|.c .a<|.nn<|.ret ?_
       refine kf_ret rfl ?_ nobox
       exact leafB (by rw[sameE_eq,←eqF_sameE,hF,show i=x.ks.length by omega,eqF_end (by omega)];simp_all)
theorem l3SameEx_fn:∀x y:Ex,szE x≤1099511627776→Fn Tryz.prog 19 [] [ad (rX x),ad (rX y)] (.o (bo1 (sameE x y))) []:=by
  intro x
  induction x using Ex.rec' with
  |h x ih=>exact fun y hs=>l3SameEx_one x y (szE_parts hs).2.1 (szE_parts hs).2.2.1 fun a ha b=>ih a ha b ((szE_parts hs).2.2.2 a ha)
theorem specStmtSame_fn (s t:Stm) (hs:szS s≤1099511627776):Fn Tryz.prog 7 [] [ad (rS s),ad (rS t)] (.o (bo1 (sameS s t))) []:=by
  refine Fn.code0 Tryz.func7 rfl rfl rfl rfl ?_
  refine .r<|.c .bp<|.c .bp<|.c .a<|.r<|.c (.fP 0 1 true)<|.c (.lN 2)<|.c (.fP 0 1 true)<|.c (.lN 2) ?_
  refine .c (.cP [.tmp 6,.tmp 8] rfl rfl rfl rfl (l3SameAcc_fn _ _ (szS_parts hs).1) rfl) ?_
  refine .c .m ?_
  refine AOps.cases 10 _ rfl (fun g10=>?_) (fun g10=>?_)
  · try simp only[zs]at g10
    refine .c (.g (.fP 2 6 true))<|.c (.g (.lN 7))<|.c (.g (.fP 2 6 true))<|.c (.g (.lN 7)) ?_
    refine .c (.gT rfl rfl rfl (.cP [.tmp 12,.tmp 14] rfl rfl rfl rfl (l3SameEx_fn _ _ (szS_parts hs).2) rfl)) ?_
    refine .c .pT<|.c .a<|.nn<|.ret ?_
    refine kf_ret rfl ?_ nobox
    exact leafB (by rw[sameS,g10];rfl)
  · try simp only[zs]at g10
    refine .c .f<|.c .f<|.c .f<|.c .f<|.c .f<|.c .pF<|.c .a<|.nn<|.ret ?_
    refine kf_ret rfl ?_ nobox
    exact leafB (by rw[sameS,g10];rfl)
theorem drawSS_a {bs:List Int} (hb:Bytes (bs.take 2000)) {s t:Stm} {q q2:Nat} (hF:Fn Tryz.prog 13 (hbR (bs.take 2000) 0) [vR,nat1 2] (.o (ad (rS s))) (hbR (bs.take 2000) q)) (hG:Fn Tryz.prog 13 (hbR (bs.take 2000) (q+1)) [vR,nat1 2] (.o (ad (rS t))) (hbR (bs.take 2000) q2)) (hq:q≤1000000) (hp:pickV (bs.take 2000) q 2=0):Fn Tryz.prog 5 [] [vD (dYs bs)] (.tup [ad (rS s),ad (rS t)]) []:=by
 refine Fn.code0 Tryz.func5 rfl rfl rfl rfl ?_
 refine .r<|.c (.al 102 [.string ByteArray.empty,.slice none 0 0,.int .i64 0,.int .i64 0,.slice none 0 0,.int .i64 0,.string ByteArray.empty,.slice none 0 0,.slice none 0 0])<|.c (.al 103 [.string ByteArray.empty,.slice none 0 0,.int .i64 0,.int .i64 0,.slice none 0 0,.int .i64 0,.string ByteArray.empty,.slice none 0 0,.slice none 0 0])<|.r<|.c .m ?_
 refine .c (.cO [.tmp 6] [(100,107)] rfl rfl rfl rfl (l16Open_fn bs) rfl trivial flatS.nil (flatS.nil.cons rfl) HB.nil.data outS_one) ?_
 refine .c .a<|.r<|.c .m ?_
 refine .c (.cR [.tmp 8,.const (.int .i64 (2))] 107 rfl rfl rfl rfl (hF) rfl ⟨rfl,trivial⟩) ?_
 refine .c (.al 105 [.string ByteArray.empty,.slice none 0 0,.int .i64 0,.int .i64 0,.slice none 0 0,.int .i64 0,.string ByteArray.empty,.slice none 0 0,.slice none 0 0])<|.c (.sT 9 true)<|.nn<|.seq<|.r<|.c .m ?_
 refine .c (.cR [.tmp 10,.const (.int .i64 (2))] 107 rfl rfl rfl rfl (pick_fn hb (by omega) 2) rfl ⟨rfl,trivial⟩) ?_
 refine .c .eq<|.nn ?_
 refine .cD rfl (fun h12=>?_) (fun h12=>?_)
 ·skip
  refine .seq ?_
  refine ACode.drawK (by kernel_rfl) (by kernel_rfl) ?_
  refine .c (.bN 9)<|.c .m ?_
  refine .c (.cR [.tmp 14,.const (.int .i64 (2))] 107 rfl rfl rfl rfl (hG) rfl ⟨rfl,trivial⟩) ?_
  refine .c (.sT 9 true)<|.c (.sT 9 true) ?_
  refine .nil ⟨by kernel_rfl,?_⟩
  refine ks_n<|.ret<|ks_r ?_
  refine kf_ret rfl ?_ nobox
  rfl
 ·skip
  exact absurd hp h12
theorem drawSS_b {bs:List Int} (hb:Bytes (bs.take 2000)) {s t1 t2 t:Stm} {q q2 q3 q4:Nat} (hF:Fn Tryz.prog 13 (hbR (bs.take 2000) 0) [vR,nat1 2] (.o (ad (rS s))) (hbR (bs.take 2000) q)) (hM:Fn Tryz.prog 15 (hbR (bs.take 2000) (q+1)) [vR,ad (rS s)] (.o (ad (rS t1))) (hbR (bs.take 2000) q2)) (hM2:Fn Tryz.prog 15 (hbR (bs.take 2000) q2) [vR,ad (rS t1)] (.o (ad (rS t2))) (hbR (bs.take 2000) q3)) (hM3:Fn Tryz.prog 15 (hbR (bs.take 2000) q3) [vR,ad (rS t2)] (.o (ad (rS t))) (hbR (bs.take 2000) q4)) (hq:q≤1000000) (hp:¬pickV (bs.take 2000) q 2=0):Fn Tryz.prog 5 [] [vD (dYs bs)] (.tup [ad (rS s),ad (rS t)]) []:=by
 refine Fn.code0 Tryz.func5 rfl rfl rfl rfl ?_
 refine .r<|.c (.al 102 [.string ByteArray.empty,.slice none 0 0,.int .i64 0,.int .i64 0,.slice none 0 0,.int .i64 0,.string ByteArray.empty,.slice none 0 0,.slice none 0 0])<|.c (.al 103 [.string ByteArray.empty,.slice none 0 0,.int .i64 0,.int .i64 0,.slice none 0 0,.int .i64 0,.string ByteArray.empty,.slice none 0 0,.slice none 0 0])<|.r<|.c .m ?_
 refine .c (.cO [.tmp 6] [(100,107)] rfl rfl rfl rfl (l16Open_fn bs) rfl trivial flatS.nil (flatS.nil.cons rfl) HB.nil.data outS_one) ?_
 refine .c .a<|.r<|.c .m ?_
 refine .c (.cR [.tmp 8,.const (.int .i64 (2))] 107 rfl rfl rfl rfl (hF) rfl ⟨rfl,trivial⟩) ?_
 refine .c (.al 105 [.string ByteArray.empty,.slice none 0 0,.int .i64 0,.int .i64 0,.slice none 0 0,.int .i64 0,.string ByteArray.empty,.slice none 0 0,.slice none 0 0])<|.c (.sT 9 true)<|.nn<|.seq<|.r<|.c .m ?_
 refine .c (.cR [.tmp 10,.const (.int .i64 (2))] 107 rfl rfl rfl rfl (pick_fn hb (by omega) 2) rfl ⟨rfl,trivial⟩) ?_
 refine .c .eq<|.nn ?_
 refine .cD rfl (fun h12=>?_) (fun h12=>?_)
 ·skip
  exact absurd h12 hp
 ·skip
  refine .skip<|ks_n<|.seq ?_
  refine ACode.drawK (by kernel_rfl) (by kernel_rfl) ?_
  refine .c (.bN 9)<|.c .m<|.c .m<|.c .m<|.c (.bN 9) ?_
  refine .c (.cR [.tmp 19,.tmp 20] 107 rfl rfl rfl rfl (hM) rfl ⟨rfl,trivial⟩) ?_
  refine .c (.cR [.tmp 18,.tmp 21] 107 rfl rfl rfl rfl (hM2) rfl ⟨rfl,trivial⟩) ?_
  refine .c (.cR [.tmp 17,.tmp 22] 107 rfl rfl rfl rfl (hM3) rfl ⟨rfl,trivial⟩) ?_
  refine .c (.sT 9 true)<|.c (.sT 9 true) ?_
  refine .nil ⟨by kernel_rfl,?_⟩
  refine ks_n<|.ret ?_
  refine kf_ret rfl ?_ nobox
  rfl
theorem drawSS_fn {bs:List Int} (hb:Bytes (bs.take 2000)):∃s t:Stm,szS s≤400∧szS t≤400∧Fn Tryz.prog 5 [] [vD (dYs bs)] (.tup [ad (rS s),ad (rS t)]) []:=by
  obtain⟨s,q,h1,h2,h3,h4,hF⟩:=stm_ok hb (d:=2) (by omega) (p:=0) (by omega)
  by_cases hp:pickV (bs.take 2000) q 2=0
  · obtain⟨t,q2,g1,g2,g3,g4,hG⟩:=stm_ok hb (d:=2) (by omega) (p:=q+1) (by omega)
    exact⟨s,t,by omega,by omega,drawSS_a hb hF hG (by omega) hp⟩
  · obtain⟨t1,q2,g1,g2,g3,g4,hM⟩:=mut_ok hb (p:=q+1) (by omega) h3 (by omega) h4
    obtain⟨t2,q3,k1,k2,k3,k4,hM2⟩:=mut_ok hb (p:=q2) (by omega) g3 (by omega) g4
    obtain⟨t,q4,m1,m2,m3,m4,hM3⟩:=mut_ok hb (p:=q3) (by omega) k3 (by omega) k4
    exact⟨s,t,by omega,by omega,drawSS_b hb hF hM hM2 hM3 (by omega) hp⟩
theorem sameS_comm (s t:Stm):sameS s t=sameS t s:=by
  rw[Bool.eq_iff_iff,sameS_iff,sameS_iff];exact eq_comm
theorem fmt_same {s t:Stm} (h1:fmtQ s≠⟨#[]⟩) (h2:fmtQ t≠⟨#[]⟩):sameS s t=sEq (fmtQ s) (fmtQ t):=by
  have key:∀ {x:Stm},fmtQ x≠⟨#[]⟩→stmtV 4 x=true∧fmtQ x=stQ x:=fun {x} h=>by
    unfold fmtQ at h ⊢
    split at h
    ·rename_i hv;exact⟨hv,if_pos hv⟩
    ·exact absurd rfl h
  obtain⟨v1,e1⟩:=key h1
  obtain⟨v2,e2⟩:=key h2
  rw[Bool.eq_iff_iff,sameS_iff,sEq_iff]
  exact⟨fun h=>by rw[h],fun h=>st_inj v1 v2 (by rw[←e1,←e2];exact h)⟩
theorem stmtSame_core {bs:List Int} (hl:bs.length≤1048576) {s t:Stm} (hs:szS s≤400) (ht:szS t≤400) (hD:Fn Tryz.prog 5 [] [vD (dYs bs)] (.tup [ad (rS s),ad (rS t)]) [])  :Fn Tryz.prog 3 [] [vD (dYs bs)] (.o (bo1 true)) []:=by
 have hcm:=sameS_comm t s
 have hrf:=sameZ s
 refine Fn.code0 Tryz.func3 rfl rfl rfl rfl ?_
 refine .r<|.c .a<|.nn<|.seq<|.r<|.c .m<|.c (.ln 5 1 1)<|.c .gt<|.nn ?_
 refine .cD rfl (fun h10=>?_) (fun h10=>?_)
 ·skip
  omega
 ·skip
  refine .skip<|ks_n<|.r<|.c .m ?_
  refine .c (.cP [.tmp 12] rfl rfl rfl rfl (hD) rfl) ?_
  refine .c .m<|.c .ex<|.c .ex<|.c (.al 103 [.string ByteArray.empty,.slice none 0 0,.int .i64 0,.int .i64 0,.slice none 0 0,.int .i64 0,.string ByteArray.empty,.slice none 0 0,.slice none 0 0])<|.c (.al 104 [.string ByteArray.empty,.slice none 0 0,.int .i64 0,.int .i64 0,.slice none 0 0,.int .i64 0,.string ByteArray.empty,.slice none 0 0,.slice none 0 0])<|.c (.sT 9 true)<|.c (.sT 9 true)<|.r<|.c (.bN 9)<|.c (.bN 9) ?_
  refine .c (.cP [.tmp 16,.tmp 17] rfl rfl rfl rfl (implStmtSame_fn s t (by omega)) rfl) ?_
  refine .c .a<|.nn<|.seq<|.r<|.c .m<|.c (.bN 9)<|.c (.bN 9) ?_
  refine .c (.cP [.tmp 20,.tmp 21] rfl rfl rfl rfl (specStmtSame_fn s t (by omega)) rfl) ?_
  refine .c (St1.neqB rfl rfl rfl rfl (by kernel_rfl) rfl rfl) ?_
  refine .c .m ?_
  refine AOps.cases 24 _ rfl (fun g24=>?_) (fun g24=>?_)
  ·try simp only[zs]at g24
   refine .c .f<|.c .f<|.c .f<|.c .f<|.c .f<|.c .pT<|.c .m<|.c .f<|.c .f<|.c .f<|.c .f<|.c .pT<|.nn ?_
   refine .k1 ?_
   refine .r<|.c .a<|.nn<|.ret<|ks_r ?_
   refine kf_ret rfl ?_ nobox
   first|rfl|(rw[hfs];exact leafB (by simp))|exact leafB (by simp_all)|grind
  ·try simp only[zs]at g24
   refine .c (.g .m)<|.c (.g (.bN 9))<|.c (.g (.bN 9)) ?_
   refine .c (.gT rfl rfl rfl (.cP [.tmp 26,.tmp 27] rfl rfl rfl rfl (implStmtSame_fn t s (by omega)) rfl)) ?_
   refine .c (.gT rfl rfl rfl (St1.neqB rfl rfl rfl rfl (by kernel_rfl) rfl rfl)) ?_
   refine .c .pF<|.c .m ?_
   refine AOps.cases 31 _ rfl (fun g31=>?_) (fun g31=>?_)
   ·try simp only[zs]at g31
    refine .c .f<|.c .f<|.c .f<|.c .f<|.c .pT<|.nn ?_
    refine .k1 ?_
    refine .r<|.c .a<|.nn<|.ret<|ks_r ?_
    refine kf_ret rfl ?_ nobox
    first|rfl|(rw[hfs];exact leafB (by simp))|exact leafB (by simp_all)|grind
   ·try simp only[zs]at g31
    refine .c (.g (.bN 9))<|.c (.g (.bN 9)) ?_
    refine .c (.gT rfl rfl rfl (.cP [.tmp 32,.tmp 33] rfl rfl rfl rfl (implStmtSame_fn s s (by omega)) rfl)) ?_
    refine .c (.g .nt)<|.c .pF<|.nn ?_
    refine ACode.condT rfl (fun h36=>?_) (fun h36=>?_)
    ·try simp only[zs]at h36
     exfalso;simp_all
    ·try simp only[zs]at h36
     refine .skip<|ks_n<|.r<|.c (.bN 9) ?_
     refine .c (.cP [.tmp 37] rfl rfl rfl rfl (fmtQ_fn (s:=s) (by omega)) rfl) ?_
     refine .c .a<|.r<|.c (.bN 9) ?_
     refine .c (.cP [.tmp 39] rfl rfl rfl rfl (fmtQ_fn (s:=t) (by omega)) rfl) ?_
     refine .c .a<|.r<|.c .m ?_
     refine .c (St1.eqS rfl rfl rfl)<|.c .m ?_
     refine AOps.cases 43 _ rfl (fun g43=>?_) (fun g43=>?_)
     ·try simp only[zs]at g43
      refine .c .f<|.c .f<|.c .pT<|.c .m<|.c .f<|.c .f<|.c .f<|.c .f<|.c .f<|.c .pT<|.c .a<|.nn<|.ret ?_
      refine kf_ret rfl ?_ nobox
      first|rfl|(rw[hfs];exact leafB (by simp))|exact leafB (by simp_all)|grind
     ·try simp only[zs]at g43
      refine .c (.g .m) ?_
      refine .c (.gT rfl rfl rfl (St1.eqS rfl rfl rfl))<|.c .pF<|.c .m ?_
      refine AOps.cases 47 _ rfl (fun g47=>?_) (fun g47=>?_)
      ·try simp only[zs]at g47
       refine .c .f<|.c .f<|.c .f<|.c .f<|.c .f<|.c .pT<|.c .a<|.nn<|.ret ?_
       refine kf_ret rfl ?_ nobox
       first|rfl|(rw[hfs];exact leafB (by simp))|exact leafB (by simp_all)|grind
      ·try simp only[zs]at g47
       have hn1:fmtQ s≠⟨#[]⟩:=fun e=>by first|(rw[sEq_iff.2 e]at g43;cases g43;done)|(rw[sEq_iff.2 e]at g47;cases g47)
       have hn2:fmtQ t≠⟨#[]⟩:=fun e=>by first|(rw[sEq_iff.2 e]at g47;cases g47;done)|(rw[sEq_iff.2 e]at g43;cases g43)
       have hfs:=fmt_same hn1 hn2
       refine .c (.g .m)<|.c (.g .m)<|.c (.g .m) ?_
       refine .c (.gT rfl rfl rfl (St1.eqS rfl rfl rfl))<|.c (.gT rfl rfl rfl (St1.eqlB rfl rfl rfl rfl (by kernel_rfl) rfl rfl)) ?_
       refine .c .pF<|.c .a<|.nn<|.ret ?_
       refine kf_ret rfl ?_ nobox
       first|rfl|(rw[hfs];exact leafB (by simp))|exact leafB (by simp_all)|grind
theorem stmtSame_big (a:Option Addr) (n c:Nat) (hn:1048576<n):Fn Tryz.prog 3 [] [vX a n c] (.o (bo1 true)) []:=by
  refine Fn.code0 Tryz.func3 rfl rfl rfl rfl ?_
  refine .r<|.c .a<|.nn<|.seq<|.r<|.c .m ?_
  refine .c (St1.lenN (e:=5) (m:=1) (by':=1) rfl rfl rfl rfl rfl (by kernel_rfl) rfl) ?_
  refine .c .gt<|.nn ?_
  refine .cD rfl (fun h10=>?_) (fun h10=>?_)
  · skip
    refine .r<|.c .a<|.nn<|.ret<|ks_r ?_
    refine kf_ret rfl ?_ nobox
    rfl
  · skip
    omega
theorem lawStmtSame (a:Option Addr) (n c:Nat) (bs:List Int) (w:World) (hx:n≤1048576→Sl Sh.byte (fun b=>b<w.heap.size) w (.slice a n c) bs) (hbs:∀x∈bs,0≤x∧x≤255):Truth Tryz.prog 3 #[.slice a n c] w:=
  law1 ⟨hx,hbs⟩ (fun h=>stmtSame_big a n c h) (fun hl hb=>by
    obtain⟨s,t,h1,h2,h3⟩:=drawSS_fn hb
    exact stmtSame_core hl h1 h2 h3)
end Go.Proofs.YtfgljkblopojgaaGreatDoor
