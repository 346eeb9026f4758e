/- Part 6 of 7 of the proof: laws on memory and data, then what the functions compute, in the order in which they build on each other; conditions: those that each theorem names. -/
import Derived.Test.YtollooimmfngjaaGreatP5
set_option maxRecDepth 100000
set_option maxHeartbeats 1600000

namespace Go.Proofs.YtollooimmfngjaaGreat
set_option linter.unusedVariables false
set_option linter.unusedSimpArgs false
open Go.RowKit
theorem all_of {α:Type} {l:List α} {p:α→Bool} (h:∀(j:Nat) x,l[j]?=some x→p x=true):l.all p=true:=by
  rw[List.all_eq_true]
  intro x hx
  obtain⟨j,hj⟩:=List.mem_iff_getElem?.1 hx
  exact h j x hj
theorem instances_fn {g:Prg} (hs:szG g≤1073741824):Fn Tryz.prog 25 [] [ad (rG g)] (.tup [vD (dNs (insV g)),bo1 (prgV g)]) []:=by
 have h1:=szO_len (f:=szR) g.1
 have h2:=szO_len (f:=szPt) g.2
 have hsz:szG g=szO szR g.1+szO szPt g.2:=rfl
 refine Fn.code0 Tryz.func25 rfl rfl rfl rfl ?_
 refine .r<|.c .bp<|.c .a<|.c .a<|.nn<|.seq<|.r<|.c (.fP 0 0 false)<|.c (.l1 1) ?_
 refine .c (.cP [.tmp 14] rfl rfl rfl rfl (arraysOk_fn g.1 (by omega) (fun x hx=>by have:=szO_mem (f:=szR) hx;have e:szR x=x.1.size+x.2.length:=rfl;omega)) rfl) ?_
 refine .c .nt<|.c .m ?_
 refine AOps.cases 17 _ rfl (fun g17=>?_) (fun g17=>?_)
 ·try simp only[zs]at g17
  refine .c .f<|.c .f<|.c .f<|.c .f<|.c .pT<|.nn ?_
  refine .k1 ?_
  refine .seq ?_
  obtain⟨hO,hN⟩:=prgV_f (g:=g) (by first|exact prgS_f2 (show ¬g.2.length≤4 by omega)|exact prgS_f1 (by assumption))
  refine .region<|.c .a<|.c .a<|.nn<|.ret<|ks_r ?_
  refine kf_wret [eD 2 (dNs (insV g)),eT 3 (prgV g)] (Wk.keep [] rfl rfl ⟨ks rfl (.c (Cto.nilE 3 (by first|(rw[hN];rfl)|(rw[hN,hEz];rfl)))),ks rfl (.dt (by first|exact congrArg (fun b=>V.o (bo1 b)) hO.symm|exact congrArg (fun b=>V.o (bo1 b)) (by rw[hO,hEz,decide_eq_decide];simp)|exact congrArg (fun b=>V.o (bo1 b)) (by rw[hO,hEz,decide_eq_decide];omega))),trivial⟩) rfl ?_ nobox
  rfl
 ·try simp only[zs]at g17
  refine .c (.g (.fP 1 0 false))<|.c (.g (.l1 1))<|.c (.g (.ln 80 2 48))<|.c (.g .gt)<|.c .pF<|.nn ?_
  refine ACode.condT rfl (fun h22=>?_) (fun h22=>?_)
  ·try simp only[zs]at h22
   refine .seq ?_
   obtain⟨hO,hN⟩:=prgV_f (g:=g) (by first|exact prgS_f2 (show ¬g.2.length≤4 by omega)|exact prgS_f1 (by assumption))
   refine .region<|.c .a<|.c .a<|.nn<|.ret<|ks_r ?_
   refine kf_wret [eD 2 (dNs (insV g)),eT 3 (prgV g)] (Wk.keep [] rfl rfl ⟨ks rfl (.c (Cto.nilE 3 (by first|(rw[hN];rfl)|(rw[hN,hEz];rfl)))),ks rfl (.dt (by first|exact congrArg (fun b=>V.o (bo1 b)) hO.symm|exact congrArg (fun b=>V.o (bo1 b)) (by rw[hO,hEz,decide_eq_decide];simp)|exact congrArg (fun b=>V.o (bo1 b)) (by rw[hO,hEz,decide_eq_decide];omega))),trivial⟩) rfl ?_ nobox
   rfl
  ·try simp only[zs]at h22
   have hA:arrsV g.1=true:=by first|assumption|simp_all
   have h4:g.2.length≤4:=by omega
   refine .skip<|ks_n<|.r<|.c .a<|.nn<|.seq<|.r<|.c (.fP 1 0 false)<|.c (.l1 1)<|.c (.ln 80 2 48)<|.c .m<|.nn<|.block ?_
   refine .loopK (fun m σ=>(∃k:Nat,m=g.2.length -k∧(k≤g.2.length)∧(∀j q,j<k→g.2[j]?=some q→prtV g.1 q=true)∧(insG 0 (g.2.take k)=[])∧σ=[eP 1 (rG g),(.t 4,.v (.o (.c (nl)))),eD 24 (dPts g.2),eN 25 (g.2.length:Nat),eN 26 (k:Nat)])∨(∃(k:Nat) (o:List Ins),m=g.2.length -k∧(k≤g.2.length)∧(∀j q,j<k→g.2[j]?=some q→prtV g.1 q=true)∧(insG 0 (g.2.take k)=o)∧(o.length≤480 *k)∧σ=[eP 1 (rG g),(.t 4,.v (.o (.c (.own 110 3 (o.length))))),eD 24 (dPts g.2),eN 25 (g.2.length:Nat),eN 26 (k:Nat),(.b 110,.b 56 3 (dR (o.map rN))),eU 110])) [] (.inl ⟨0,rfl,by omega,fun j q hj _=>absurd hj (by omega),rfl,rfl⟩) ⟨kd,kd,kd,kd,kd,trivial⟩ ?_
   rintro m σ (⟨k,hm0,hk,hF,hE,rfl⟩|⟨k,o,hm0,hk,hF,hE,ho,rfl⟩)
   ·skip
    refine .r<|.c .ls<|.nn<|.seq ?_
    refine .cD rfl (fun h27=>?_) (fun h27=>?_)
    ·skip
     obtain⟨q,hq1⟩:∃x_,g.2[k]?=some x_:=⟨_,List.getElem?_eq_getElem (by omega)⟩
     have hqm:=List.mem_of_getElem? hq1
     have hqs:=szO_mem (f:=szPt) hqm
     have hqe:szPt q=szLs q.1+szO szS q.2:=rfl
     have hbg:=sz_bg (ns:=q.1) (by omega)
     have hql:=szO_len (f:=szS) q.2
     refine .skip<|ks_n<|.seq<|.block<|.r<|.c .m<|.c (.xL 80 2 48) ?_
     refine .c (.lN 2)<|.c (.al 106 [.slice none 0 0,.slice none 0 0])<|.c .a<|.c (.sT 2 true)<|.nn<|.seq ?_
     refine .keep [eP 1 (rG g),(.t 4,.v (.o (.c (nl)))),eN 5 (k:Nat),eP 6 (rP q),eD 24 (dPts g.2),eN 25 (g.2.length:Nat),eN 26 (k:Nat)] [] ⟨kd,kd,kd,ks rfl (.c (.frzP _ _ _ _ _ _ _ _ rfl (show _=dR [rP q]from rfl) rfl rfl rfl)),kd,kd,kd,trivial⟩ ?_
     refine .region<|.c (.fP 0 0 false)<|.c (.l1 1) ?_
     refine .c (.cP [.tmp 33] rfl rfl rfl rfl (implNestPts_B q.1 hbg) rfl) ?_
     refine .c .m<|.c .ex<|.c .ex<|.c .a<|.c .a<|.nn<|.seq<|.r<|.c .m<|.c .nt<|.c .m ?_
     refine AOps.cases 39 _ rfl (fun g39=>?_) (fun g39=>?_)
     ·try simp only[zs]at g39
      refine .c .f<|.c .f<|.c .f<|.c .f<|.c .f<|.c .pT<|.c .m<|.c .f<|.c .f<|.c .f<|.c .f<|.c .pT<|.nn ?_
      refine .k1 ?_
      refine .seq ?_
      have hbad:prtV g.1 q=false:=by first|exact prtV_f1 (by assumption)|exact prtV_f2 (fun h=>by simp_all [inB];omega)|(obtain⟨s,hs,hs2⟩:=List.any_eq_true.1 (by assumption);exact prtV_f3 hs (by simpa using hs2))
      obtain⟨hO,hN⟩:=prgV_f (g:=g) (prgS_f3 hqm hbad)
      refine .region<|.c .a<|.c .a<|.nn<|.ret<|ks_r<|kb_r<|ks_r<|kl_r<|kb_r<|ks_r ?_
      refine kf_wret [eD 2 (dNs (insV g)),eT 3 (prgV g)] (Wk.keep [] rfl rfl ⟨ks rfl (.c (Cto.nilE 3 (by first|(rw[hN];rfl)|(rw[hN,hEz];rfl)))),ks rfl (.dt (by first|exact congrArg (fun b=>V.o (bo1 b)) hO.symm|exact congrArg (fun b=>V.o (bo1 b)) (by rw[hO,hEz,decide_eq_decide];simp)|exact congrArg (fun b=>V.o (bo1 b)) (by rw[hO,hEz,decide_eq_decide];omega))),trivial⟩) rfl ?_ nobox
      rfl
     ·try simp only[zs]at g39
      refine .c (.g (.fP 1 0 false))<|.c (.g (.l1 1))<|.c (.g (.ln 66 9 152)) ?_
      refine .c (.gT rfl rfl rfl (.cP [.tmp 42,.const (.int .i64 (1)),.const (.int .i64 (4))] rfl rfl rfl rfl (within_fn _ 1 4) rfl)) ?_
      refine .c (.g .nt)<|.c .pF<|.c .m ?_
      refine AOps.cases 46 _ rfl (fun g46=>?_) (fun g46=>?_)
      ·try simp only[zs]at g46
       refine .c .f<|.c .f<|.c .f<|.c .f<|.c .pT<|.nn ?_
       refine .k1 ?_
       refine .seq ?_
       have hbad:prtV g.1 q=false:=by first|exact prtV_f1 (by assumption)|exact prtV_f2 (fun h=>by simp_all [inB];omega)|(obtain⟨s,hs,hs2⟩:=List.any_eq_true.1 (by assumption);exact prtV_f3 hs (by simpa using hs2))
       obtain⟨hO,hN⟩:=prgV_f (g:=g) (prgS_f3 hqm hbad)
       refine .region<|.c .a<|.c .a<|.nn<|.ret<|ks_r<|kb_r<|ks_r<|kl_r<|kb_r<|ks_r ?_
       refine kf_wret [eD 2 (dNs (insV g)),eT 3 (prgV g)] (Wk.keep [] rfl rfl ⟨ks rfl (.c (Cto.nilE 3 (by first|(rw[hN];rfl)|(rw[hN,hEz];rfl)))),ks rfl (.dt (by first|exact congrArg (fun b=>V.o (bo1 b)) hO.symm|exact congrArg (fun b=>V.o (bo1 b)) (by rw[hO,hEz,decide_eq_decide];simp)|exact congrArg (fun b=>V.o (bo1 b)) (by rw[hO,hEz,decide_eq_decide];omega))),trivial⟩) rfl ?_ nobox
       rfl
      ·try simp only[zs]at g46
       refine .c (.g (.fP 1 0 false))<|.c (.g (.l1 1)) ?_
       refine .c (.gT rfl rfl rfl (St1.makeFunc (xs:=[.tmp 6]) rfl rfl rfl rfl rfl rfl rfl))<|.c (.gT rfl rfl rfl (.cP [.tmp 48,.tmp 49] rfl rfl rfl rfl (cnt_stm (f:=63) (cap:=[rP q]) (by kernel_rfl) (fun s=> !stmtV (q.1.length:Nat) s) q.2 (by omega) (fun s hs=>ins1_fn (by have:=szO_mem (f:=szS) hs;omega))) rfl)) ?_
       refine .c .pF<|.nn ?_
       refine ACode.condT rfl (fun h51=>?_) (fun h51=>?_)
       ·try simp only[zs]at h51
        refine .seq ?_
        have hbad:prtV g.1 q=false:=by first|exact prtV_f1 (by assumption)|exact prtV_f2 (fun h=>by simp_all [inB];omega)|(obtain⟨s,hs,hs2⟩:=List.any_eq_true.1 (by assumption);exact prtV_f3 hs (by simpa using hs2))
        obtain⟨hO,hN⟩:=prgV_f (g:=g) (prgS_f3 hqm hbad)
        refine .region<|.c .a<|.c .a<|.nn<|.ret<|ks_r<|kb_r<|ks_r<|kl_r<|kb_r<|ks_r ?_
        refine kf_wret [eD 2 (dNs (insV g)),eT 3 (prgV g)] (Wk.keep [] rfl rfl ⟨ks rfl (.c (Cto.nilE 3 (by first|(rw[hN];rfl)|(rw[hN,hEz];rfl)))),ks rfl (.dt (by first|exact congrArg (fun b=>V.o (bo1 b)) hO.symm|exact congrArg (fun b=>V.o (bo1 b)) (by rw[hO,hEz,decide_eq_decide];simp)|exact congrArg (fun b=>V.o (bo1 b)) (by rw[hO,hEz,decide_eq_decide];omega))),trivial⟩) rfl ?_ nobox
        rfl
       ·try simp only[zs]at h51
        have hv1:okP q.1=true:=by first|assumption|simp_all
        have hv2:1≤q.2.length∧q.2.length≤4:=by simp_all [inB];omega
        have hv3:∀s∈q.2,stmtV (q.1.length:Nat) s=true:=by simp_all
        refine .skip<|ks_n<|.r<|.c .m<|.c (.ln 43 1 24)<|.c .m<|.nn<|.block ?_
        refine .loopK (fun m σ=>(∃i:Nat,m=(npR q.1).length -i∧(i=0)∧σ=[eP 1 (rG g),(.t 4,.v (.o (.c (nl)))),eN 5 (k:Nat),eP 6 (rP q),eD 24 (dPts g.2),eN 25 (g.2.length:Nat),eN 26 (k:Nat),eD 52 (dPs (npR q.1)),eN 53 ((npR q.1).length:Nat),eN 54 (i:Nat)])∨(∃(i:Nat) (o2:List Ins),m=(npR q.1).length -i∧(i≤(npR q.1).length)∧(∀j p,j<i→(npR q.1)[j]?=some p→ptG' g.1 q.2 p=true)∧([]++insT k q.2.length ((npR q.1).take i)=o2)∧(o2.length≤480 *k+4 *i)∧σ=[eP 1 (rG g),(.t 4,.v (.o (.c (.own 120 3 (o2.length))))),eN 5 (k:Nat),eP 6 (rP q),eD 24 (dPts g.2),eN 25 (g.2.length:Nat),eN 26 (k:Nat),eD 52 (dPs (npR q.1)),eN 53 ((npR q.1).length:Nat),eN 54 (i:Nat),(.b 120,.b 56 3 (dR (o2.map rN))),eU 120])) [] (.inl ⟨0,rfl,rfl,rfl⟩) ⟨kd,kd,kd,kd,kd,kd,kd,kd,kd,kd,trivial⟩ ?_
        rintro m σ (⟨i,hm0,rfl,rfl⟩|⟨i,o2,hm0,hi,hG,hEo,ho2,rfl⟩)
        ·skip
         refine .r<|.c .ls<|.nn<|.seq ?_
         refine .cD rfl (fun h55=>?_) (fun h55=>?_)
         ·skip
          obtain⟨p,hp1⟩:∃x_,(npR q.1)[0]?=some x_:=⟨_,List.getElem?_eq_getElem (by omega)⟩
          have hpm:=List.mem_of_getElem? hp1
          have hpt:=npR_pt hpm
          have hnl:=npR_len q.1
          refine .skip<|ks_n<|.seq<|.block<|.r<|.c (.xL 43 1 24) ?_
          refine .c (.l1 1)<|.c .a<|.nn<|.seq<|.r<|.c .m ?_
          refine .c (.cP [.tmp 58] rfl rfl rfl rfl (isPoint_fn _) rfl) ?_
          refine .c .nt<|.nn ?_
          refine ACode.condT rfl (fun h60=>?_) (fun h60=>?_)
          ·try simp only[zs]at h60
           refine .seq ?_
           obtain⟨hO,hN⟩:=prgV_f (g:=g) (prgS_f3 hqm (prtV_f4 hpm (by assumption)))
           refine .region<|.c .a<|.c .a<|.nn<|.ret<|ks_r<|kb_r<|ks_r<|kl_r<|kb_r<|kb_r<|ks_r<|kl_r<|kb_r<|ks_r ?_
           refine kf_wret [eD 2 (dNs (insV g)),eT 3 (prgV g)] (Wk.keep [] rfl rfl ⟨ks rfl (.c (Cto.nilE 3 (by first|(rw[hN];rfl)|(rw[hN,hEz];rfl)))),ks rfl (.dt (by first|exact congrArg (fun b=>V.o (bo1 b)) hO.symm|exact congrArg (fun b=>V.o (bo1 b)) (by rw[hO,hEz,decide_eq_decide];simp)|exact congrArg (fun b=>V.o (bo1 b)) (by rw[hO,hEz,decide_eq_decide];omega))),trivial⟩) rfl ?_ nobox
           rfl
          ·try simp only[zs]at h60
           refine .skip<|ks_n<|.r<|.c (.fP 1 0 false)<|.c (.l1 1)<|.c (.ln 66 9 152)<|.c .m<|.nn<|.block ?_
           refine .loopK (fun m σ=>(∃j:Nat,m=q.2.length -j∧(j=0)∧σ=[eP 1 (rG g),(.t 4,.v (.o (.c (nl)))),eN 5 (k:Nat),eP 6 (rP q),eD 10 (dIs p),eD 24 (dPts g.2),eN 25 (g.2.length:Nat),eN 26 (k:Nat),eD 52 (dPs (npR q.1)),eN 53 ((npR q.1).length:Nat),eN 54 (0:Nat),eD 62 (dMs q.2),eN 63 (q.2.length:Nat),eN 64 (j:Nat)])∨(∃(j:Nat) (o3:List Ins),m=q.2.length -j∧(j≤q.2.length)∧(∀t s,t<j→q.2[t]?=some s→stmG g.1 s p=true)∧([]++rowI k j p=o3)∧(o3.length≤480 *k+4 *0+j)∧σ=[eP 1 (rG g),(.t 4,.v (.o (.c (.own 130 3 (o3.length))))),eN 5 (k:Nat),eP 6 (rP q),eD 10 (dIs p),eD 24 (dPts g.2),eN 25 (g.2.length:Nat),eN 26 (k:Nat),eD 52 (dPs (npR q.1)),eN 53 ((npR q.1).length:Nat),eN 54 (0:Nat),eD 62 (dMs q.2),eN 63 (q.2.length:Nat),eN 64 (j:Nat),(.b 130,.b 56 3 (dR (o3.map rN))),eU 130])) [] (.inl ⟨0,rfl,rfl,rfl⟩) ⟨kd,kd,kd,kd,kd,kd,kd,kd,kd,kd,kd,kd,kd,kd,trivial⟩ ?_
           rintro m σ (⟨j,hm0,rfl,rfl⟩|⟨j,o3,hm0,hj,hH,hEp,ho3,rfl⟩)
           ·skip
            refine .r<|.c .ls<|.nn<|.seq ?_
            refine .cD rfl (fun h65=>?_) (fun h65=>?_)
            ·skip
             obtain⟨s,hs1⟩:∃x_,q.2[0]?=some x_:=⟨_,List.getElem?_eq_getElem (by omega)⟩
             have hsm:=List.mem_of_getElem? hs1
             have hsv:=hv3 s hsm
             refine .skip<|ks_n<|.seq<|.block<|.r<|.c .m<|.c (.xL 66 9 152) ?_
             refine .c (.lN 9)<|.c (.al 112 [.string ByteArray.empty,.slice none 0 0,.int .i64 0,.int .i64 0,.slice none 0 0,.int .i64 0,.string ByteArray.empty,.slice none 0 0,.slice none 0 0])<|.c .a<|.c (.sT 9 true)<|.nn<|.seq<|.r<|.c (.lN 2)<|.c (.bN 9)<|.c .m ?_
             refine .c (.cP [.tmp 69,.tmp 70,.tmp 71] rfl rfl rfl rfl (sok_fn hA hsv hpt.1 hpt.2) rfl) ?_
             refine .c .nt<|.nn ?_
             refine ACode.condT rfl (fun h73=>?_) (fun h73=>?_)
             ·try simp only[zs]at h73
              refine .seq ?_
              obtain⟨hO,hN⟩:=prgV_f (g:=g) (prgS_f3 hqm (prtV_f5 hpm hsm (by assumption)))
              refine .region<|.c .a<|.c .a<|.nn<|.ret<|ks_r<|kb_r<|ks_r<|kl_r<|kb_r<|kb_r<|ks_r<|kl_r<|kb_r<|kb_r<|ks_r<|kl_r<|kb_r<|ks_r ?_
              refine kf_wret [eD 2 (dNs (insV g)),eT 3 (prgV g)] (Wk.keep [] rfl rfl ⟨ks rfl (.c (Cto.nilE 3 (by first|(rw[hN];rfl)|(rw[hN,hEz];rfl)))),ks rfl (.dt (by first|exact congrArg (fun b=>V.o (bo1 b)) hO.symm|exact congrArg (fun b=>V.o (bo1 b)) (by rw[hO,hEz,decide_eq_decide];simp)|exact congrArg (fun b=>V.o (bo1 b)) (by rw[hO,hEz,decide_eq_decide];omega))),trivial⟩) rfl ?_ nobox
              rfl
             ·try simp only[zs]at h73
              have hST:stmG g.1 s p=true:=by assumption
              refine .skip<|ks_n<|.region<|.c .m<|.c .m<|.c .m<|.c .m ?_
              refine .c (.cP [.tmp 77] rfl rfl rfl rfl (cloneInts_fn p (by omega)) rfl) ?_
              refine .c (.bu [(0,.tmp 75),(1,.tmp 76),(2,.tmp 78)] [(0,1),(1,1),(2,1)] [.int .i64 0,.int .i64 0,.slice none 0 0])<|.c (.li 56 2 0 [.tmp 79]) ?_
              refine .c (St1.appN (k':=181) (e:=56) (sz:=2) (by':=40) rfl rfl rfl rfl rfl (by kernel_rfl) rfl rfl rfl (by simp) (by first|(simp[dR];done)|(simp[dR];omega)) rfl rfl) ?_
              refine .c .a<|.nil<|kb_n<|ks_n<|.region<|.c .pl<|.c .m<|.nil ?_
              refine kl_k [(130,181)] (.inr ⟨1,[((k:Int),((0:Nat):Int),p)],rfl,by omega,fun t s' ht hs'=>(Nat.lt_succ_iff_lt_or_eq.1 ht).elim (fun h=>absurd h (by omega)) (fun h=>by subst h;rw[hs1]at hs';cases hs';exact hST),rfl,by simp,rfl⟩) ⟨kd,kW,kd,kd,kd,kd,kd,kd,kd,kd,kd,kd,kd,kd,kb 181 rfl (.dt rfl (by first|rfl|(simp[dR,rN,dI];done))),trivial⟩
            ·skip
             exfalso;omega
           ·skip
            refine .r<|.c .ls<|.nn<|.seq ?_
            refine .cD rfl (fun h65=>?_) (fun h65=>?_)
            ·skip
             obtain⟨s,hs1⟩:∃x_,q.2[j]?=some x_:=⟨_,List.getElem?_eq_getElem (by omega)⟩
             have hsm:=List.mem_of_getElem? hs1
             have hsv:=hv3 s hsm
             refine .skip<|ks_n<|.seq<|.block<|.r<|.c .m<|.c (.xL 66 9 152) ?_
             refine .c (.lN 9)<|.c (.al 112 [.string ByteArray.empty,.slice none 0 0,.int .i64 0,.int .i64 0,.slice none 0 0,.int .i64 0,.string ByteArray.empty,.slice none 0 0,.slice none 0 0])<|.c .a<|.c (.sT 9 true)<|.nn<|.seq<|.r<|.c (.lN 2)<|.c (.bN 9)<|.c .m ?_
             refine .c (.cP [.tmp 69,.tmp 70,.tmp 71] rfl rfl rfl rfl (sok_fn hA hsv hpt.1 hpt.2) rfl) ?_
             refine .c .nt<|.nn ?_
             refine ACode.condT rfl (fun h73=>?_) (fun h73=>?_)
             ·try simp only[zs]at h73
              refine .seq ?_
              obtain⟨hO,hN⟩:=prgV_f (g:=g) (prgS_f3 hqm (prtV_f5 hpm hsm (by assumption)))
              refine .region<|.c .a<|.c .a<|.nn<|.ret<|ks_r<|kb_r<|ks_r<|kl_r<|kb_r<|kb_r<|ks_r<|kl_r<|kb_r<|kb_r<|ks_r<|kl_r<|kb_r<|ks_r ?_
              refine kf_wret [eD 2 (dNs (insV g)),eT 3 (prgV g)] (Wk.keep [] rfl rfl ⟨ks rfl (.c (Cto.nilE 3 (by first|(rw[hN];rfl)|(rw[hN,hEz];rfl)))),ks rfl (.dt (by first|exact congrArg (fun b=>V.o (bo1 b)) hO.symm|exact congrArg (fun b=>V.o (bo1 b)) (by rw[hO,hEz,decide_eq_decide];simp)|exact congrArg (fun b=>V.o (bo1 b)) (by rw[hO,hEz,decide_eq_decide];omega))),trivial⟩) rfl ?_ nobox
              rfl
             ·try simp only[zs]at h73
              have hST:stmG g.1 s p=true:=by assumption
              refine .skip<|ks_n<|.region<|.c .m<|.c .m<|.c .m<|.c .m ?_
              refine .c (.cP [.tmp 77] rfl rfl rfl rfl (cloneInts_fn p (by omega)) rfl) ?_
              refine .c (.bu [(0,.tmp 75),(1,.tmp 76),(2,.tmp 78)] [(0,1),(1,1),(2,1)] [.int .i64 0,.int .i64 0,.slice none 0 0])<|.c (.li 56 2 0 [.tmp 79]) ?_
              refine .c (St1.appB (k':=181) (e:=56) (sz:=2) (by':=40) rfl rfl rfl rfl rfl (by kernel_rfl) rfl rfl rfl rfl (by first|(simp[dR];done)|(simp[dR];omega)) (by first|(simp[dR];done)|(simp[dR];omega)) rfl rfl rfl) ?_
              refine .c .a<|.nil<|kb_n<|ks_n<|.region<|.c .pl<|.c .m<|.nil ?_
              refine kl_k [(130,181)] (.inr ⟨j+1,o3++[((k:Int),((j:Nat):Int),p)],rfl,by omega,fun t s' ht hs'=>(Nat.lt_succ_iff_lt_or_eq.1 ht).elim (fun h=>hH t s' h hs') (fun h=>by subst h;rw[hs1]at hs';cases hs';exact hST),by rw[rowI_snoc,←List.append_assoc,hEp],by rw[List.length_append,List.length_singleton];omega,rfl⟩) ⟨kd,kW,kd,kd,kd,kd,kd,kd,kd,kd,kd,kd,kd,kd,kb 181 rfl (.dt rfl (by first|rfl|(simp[dR,rN,dI];done))),trivial⟩
            ·skip
             obtain rfl:j=q.2.length:=by omega
             have hPT:ptG' g.1 q.2 p=true:=by rw[ptG',show isPt p=true by assumption,Bool.true_and];exact all_of fun j s h=>hH j s (List.getElem?_eq_some_iff.1 h).1 h
             refine .exit<|ks_e<|kl_e<|kb_hit<|kb_n<|ks_n<|.region<|.c .pl<|.c .m<|.nil ?_
             refine kl_k [(120,130)] (.inr ⟨1,o3,rfl,by omega,fun j p' hj hp'=>(Nat.lt_succ_iff_lt_or_eq.1 hj).elim (fun h=>absurd h (by omega)) (fun h=>by subst h;rw[hp1]at hp';cases hp';exact hPT),by rw[insT_take hp1];exact hEp,by omega,rfl⟩) ⟨kd,kW,kd,kd,kd,kd,kd,kd,kd,kd,kb 130 rfl (.dt rfl (by first|rfl|(simp[dR,rN,dI];done))),trivial⟩
         ·skip
          have hn0:npR q.1=[]:=List.eq_nil_of_length_eq_zero (by omega)
          have hPV:prtV g.1 q=true:=by rw[prtV_eq hv1 hv2 (List.all_eq_true.2 hv3),hn0];rfl
          refine .exit<|ks_e<|kl_e<|kb_hit<|kb_n<|ks_n<|.region<|.c .pl<|.c .m<|.nil ?_
          refine kl_k [] (.inl ⟨k+1,rfl,by omega,fun j q' hj hq'=>(Nat.lt_succ_iff_lt_or_eq.1 hj).elim (fun h=>hF j q' h hq') (fun h=>by subst h;rw[hq1]at hq';cases hq';exact hPV),by rw[insG_take hq1,hE,insP,hn0];rfl,rfl⟩) ⟨kd,kd,kd,kd,kd,trivial⟩
        ·skip
         refine .r<|.c .ls<|.nn<|.seq ?_
         refine .cD rfl (fun h55=>?_) (fun h55=>?_)
         ·skip
          obtain⟨p,hp1⟩:∃x_,(npR q.1)[i]?=some x_:=⟨_,List.getElem?_eq_getElem (by omega)⟩
          have hpm:=List.mem_of_getElem? hp1
          have hpt:=npR_pt hpm
          have hnl:=npR_len q.1
          refine .skip<|ks_n<|.seq<|.block<|.r<|.c (.xL 43 1 24) ?_
          refine .c (.l1 1)<|.c .a<|.nn<|.seq<|.r<|.c .m ?_
          refine .c (.cP [.tmp 58] rfl rfl rfl rfl (isPoint_fn _) rfl) ?_
          refine .c .nt<|.nn ?_
          refine ACode.condT rfl (fun h60=>?_) (fun h60=>?_)
          ·try simp only[zs]at h60
           refine .seq ?_
           obtain⟨hO,hN⟩:=prgV_f (g:=g) (prgS_f3 hqm (prtV_f4 hpm (by assumption)))
           refine .region<|.c .a<|.c .a<|.nn<|.ret<|ks_r<|kb_r<|ks_r<|kl_r<|kb_r<|kb_r<|ks_r<|kl_r<|kb_r<|ks_r ?_
           refine kf_wret [eD 2 (dNs (insV g)),eT 3 (prgV g)] (Wk.keep [] rfl rfl ⟨ks rfl (.c (Cto.nilE 3 (by first|(rw[hN];rfl)|(rw[hN,hEz];rfl)))),ks rfl (.dt (by first|exact congrArg (fun b=>V.o (bo1 b)) hO.symm|exact congrArg (fun b=>V.o (bo1 b)) (by rw[hO,hEz,decide_eq_decide];simp)|exact congrArg (fun b=>V.o (bo1 b)) (by rw[hO,hEz,decide_eq_decide];omega))),trivial⟩) rfl ?_ nobox
           rfl
          ·try simp only[zs]at h60
           refine .skip<|ks_n<|.r<|.c (.fP 1 0 false)<|.c (.l1 1)<|.c (.ln 66 9 152)<|.c .m<|.nn<|.block ?_
           refine .loopK (fun m σ=>(∃(j:Nat) (o3:List Ins),m=q.2.length -j∧(j≤q.2.length)∧(∀t s,t<j→q.2[t]?=some s→stmG g.1 s p=true)∧(o2++rowI k j p=o3)∧(o3.length≤480 *k+4 *i+j)∧σ=[eP 1 (rG g),(.t 4,.v (.o (.c (.own 130 3 (o3.length))))),eN 5 (k:Nat),eP 6 (rP q),eD 10 (dIs p),eD 24 (dPts g.2),eN 25 (g.2.length:Nat),eN 26 (k:Nat),eD 52 (dPs (npR q.1)),eN 53 ((npR q.1).length:Nat),eN 54 (i:Nat),eD 62 (dMs q.2),eN 63 (q.2.length:Nat),eN 64 (j:Nat),(.b 130,.b 56 3 (dR (o3.map rN))),eU 130])) [(130,120)] ⟨0,o2,rfl,by omega,fun t s ht _=>absurd ht (by omega),by simp[rowI_zero],by omega,rfl⟩ ⟨kd,kW,kd,kd,kd,kd,kd,kd,kd,kd,kd,kd,kd,kd,kb 120 rfl (.dt rfl (by first|rfl|(simp[dR,rN,dI];done))),trivial⟩ ?_
           rintro m σ ⟨j,o3,hm0,hj,hH,hEp,ho3,rfl⟩
           refine .r<|.c .ls<|.nn<|.seq ?_
           refine .cD rfl (fun h65=>?_) (fun h65=>?_)
           ·skip
            obtain⟨s,hs1⟩:∃x_,q.2[j]?=some x_:=⟨_,List.getElem?_eq_getElem (by omega)⟩
            have hsm:=List.mem_of_getElem? hs1
            have hsv:=hv3 s hsm
            refine .skip<|ks_n<|.seq<|.block<|.r<|.c .m<|.c (.xL 66 9 152) ?_
            refine .c (.lN 9)<|.c (.al 112 [.string ByteArray.empty,.slice none 0 0,.int .i64 0,.int .i64 0,.slice none 0 0,.int .i64 0,.string ByteArray.empty,.slice none 0 0,.slice none 0 0])<|.c .a<|.c (.sT 9 true)<|.nn<|.seq<|.r<|.c (.lN 2)<|.c (.bN 9)<|.c .m ?_
            refine .c (.cP [.tmp 69,.tmp 70,.tmp 71] rfl rfl rfl rfl (sok_fn hA hsv hpt.1 hpt.2) rfl) ?_
            refine .c .nt<|.nn ?_
            refine ACode.condT rfl (fun h73=>?_) (fun h73=>?_)
            ·try simp only[zs]at h73
             refine .seq ?_
             obtain⟨hO,hN⟩:=prgV_f (g:=g) (prgS_f3 hqm (prtV_f5 hpm hsm (by assumption)))
             refine .region<|.c .a<|.c .a<|.nn<|.ret<|ks_r<|kb_r<|ks_r<|kl_r<|kb_r<|kb_r<|ks_r<|kl_r<|kb_r<|kb_r<|ks_r<|kl_r<|kb_r<|ks_r ?_
             refine kf_wret [eD 2 (dNs (insV g)),eT 3 (prgV g)] (Wk.keep [] rfl rfl ⟨ks rfl (.c (Cto.nilE 3 (by first|(rw[hN];rfl)|(rw[hN,hEz];rfl)))),ks rfl (.dt (by first|exact congrArg (fun b=>V.o (bo1 b)) hO.symm|exact congrArg (fun b=>V.o (bo1 b)) (by rw[hO,hEz,decide_eq_decide];simp)|exact congrArg (fun b=>V.o (bo1 b)) (by rw[hO,hEz,decide_eq_decide];omega))),trivial⟩) rfl ?_ nobox
             rfl
            ·try simp only[zs]at h73
             have hST:stmG g.1 s p=true:=by assumption
             refine .skip<|ks_n<|.region<|.c .m<|.c .m<|.c .m<|.c .m ?_
             refine .c (.cP [.tmp 77] rfl rfl rfl rfl (cloneInts_fn p (by omega)) rfl) ?_
             refine .c (.bu [(0,.tmp 75),(1,.tmp 76),(2,.tmp 78)] [(0,1),(1,1),(2,1)] [.int .i64 0,.int .i64 0,.slice none 0 0])<|.c (.li 56 2 0 [.tmp 79]) ?_
             refine .c (St1.appB (k':=181) (e:=56) (sz:=2) (by':=40) rfl rfl rfl rfl rfl (by kernel_rfl) rfl rfl rfl rfl (by first|(simp[dR];done)|(simp[dR];omega)) (by first|(simp[dR];done)|(simp[dR];omega)) rfl rfl rfl) ?_
             refine .c .a<|.nil<|kb_n<|ks_n<|.region<|.c .pl<|.c .m<|.nil ?_
             refine kl_k [(130,181)] ⟨j+1,o3++[((k:Int),((j:Nat):Int),p)],rfl,by omega,fun t s' ht hs'=>(Nat.lt_succ_iff_lt_or_eq.1 ht).elim (fun h=>hH t s' h hs') (fun h=>by subst h;rw[hs1]at hs';cases hs';exact hST),by rw[rowI_snoc,←List.append_assoc,hEp],by rw[List.length_append,List.length_singleton];omega,rfl⟩ ⟨kd,kW,kd,kd,kd,kd,kd,kd,kd,kd,kd,kd,kd,kd,kb 181 rfl (.dt rfl (by first|rfl|(simp[dR,rN,dI];done))),trivial⟩
           ·skip
            obtain rfl:j=q.2.length:=by omega
            have hPT:ptG' g.1 q.2 p=true:=by rw[ptG',show isPt p=true by assumption,Bool.true_and];exact all_of fun j s h=>hH j s (List.getElem?_eq_some_iff.1 h).1 h
            refine .exit<|ks_e<|kl_e<|kb_hit<|kb_n<|ks_n<|.region<|.c .pl<|.c .m<|.nil ?_
            refine kl_k [(120,130)] (.inr ⟨i+1,o3,rfl,by omega,fun j p' hj hp'=>(Nat.lt_succ_iff_lt_or_eq.1 hj).elim (fun h=>hG j p' h hp') (fun h=>by subst h;rw[hp1]at hp';cases hp';exact hPT),by rw[insT_take hp1,←List.append_assoc,hEo];exact hEp,by omega,rfl⟩) ⟨kd,kW,kd,kd,kd,kd,kd,kd,kd,kd,kb 130 rfl (.dt rfl (by first|rfl|(simp[dR,rN,dI];done))),trivial⟩
         ·skip
          obtain rfl:i=(npR q.1).length:=by omega
          rw[List.take_length]at hEo
          have hPV:prtV g.1 q=true:=by rw[prtV_eq hv1 hv2 (List.all_eq_true.2 hv3)];exact all_of fun j p h=>hG j p (List.getElem?_eq_some_iff.1 h).1 h
          have hnl:=npR_len q.1
          refine .exit<|ks_e<|kl_e<|kb_hit<|kb_n<|ks_n<|.region<|.c .pl<|.c .m<|.nil ?_
          refine kl_k [(110,120)] (.inr ⟨k+1,o2,rfl,by omega,fun j q' hj hq'=>(Nat.lt_succ_iff_lt_or_eq.1 hj).elim (fun h=>hF j q' h hq') (fun h=>by subst h;rw[hq1]at hq';cases hq';exact hPV),by rw[insG_take hq1,hE];exact hEo,by omega,rfl⟩) ⟨kd,kW,kd,kd,kd,kb 120 rfl (.dt rfl (by first|rfl|(simp[dR,rN,dI];done))),trivial⟩
    ·skip
     obtain rfl:k=g.2.length:=by omega
     rw[List.take_length]at hE
     have hEz:=hE
     obtain⟨hO,hN⟩:=prgV_t (prgS_eq hA h4 hF)
     refine .exit<|ks_e<|kl_e<|kb_hit<|ks_n<|.r<|.c .m<|.c .m ?_
     refine .c (St1.lenN (e:=56) (m:=3) (by':=40) rfl rfl rfl rfl rfl (by kernel_rfl) rfl) ?_
     refine .c .le<|.c .a<|.c .a<|.nn<|.ret ?_
     refine kf_wret [eD 2 (dNs (insV g)),eT 3 (prgV g)] (Wk.keep [] rfl rfl ⟨ks rfl (.c (Cto.nilE 3 (by first|(rw[hN];rfl)|(rw[hN,hEz];rfl)))),ks rfl (.dt (by first|exact congrArg (fun b=>V.o (bo1 b)) hO.symm|exact congrArg (fun b=>V.o (bo1 b)) (by rw[hO,hEz,decide_eq_decide];simp)|exact congrArg (fun b=>V.o (bo1 b)) (by rw[hO,hEz,decide_eq_decide];omega))),trivial⟩) rfl ?_ nobox
     rfl
   ·skip
    refine .r<|.c .ls<|.nn<|.seq ?_
    refine .cD rfl (fun h27=>?_) (fun h27=>?_)
    ·skip
     obtain⟨q,hq1⟩:∃x_,g.2[k]?=some x_:=⟨_,List.getElem?_eq_getElem (by omega)⟩
     have hqm:=List.mem_of_getElem? hq1
     have hqs:=szO_mem (f:=szPt) hqm
     have hqe:szPt q=szLs q.1+szO szS q.2:=rfl
     have hbg:=sz_bg (ns:=q.1) (by omega)
     have hql:=szO_len (f:=szS) q.2
     refine .skip<|ks_n<|.seq<|.block<|.r<|.c .m<|.c (.xL 80 2 48) ?_
     refine .c (.lN 2)<|.c (.al 106 [.slice none 0 0,.slice none 0 0])<|.c .a<|.c (.sT 2 true)<|.nn<|.seq ?_
     refine .keep [eP 1 (rG g),(.t 4,.v (.o (.c (.own 770 3 (o.length))))),eN 5 (k:Nat),eP 6 (rP q),eD 24 (dPts g.2),eN 25 (g.2.length:Nat),eN 26 (k:Nat),(.b 770,.b 56 3 (dR (o.map rN))),eU 770] [(770,110)] ⟨kd,kW,kd,ks rfl (.c (.frzP _ _ _ _ _ _ _ _ rfl (show _=dR [rP q]from rfl) rfl rfl rfl)),kd,kd,kd,kb 110 rfl (.dt rfl (by first|rfl|(simp[dR,rN,dI];done))),trivial⟩ ?_
     refine .region<|.c (.fP 0 0 false)<|.c (.l1 1) ?_
     refine .c (.cP [.tmp 33] rfl rfl rfl rfl (implNestPts_B q.1 hbg) rfl) ?_
     refine .c .m<|.c .ex<|.c .ex<|.c .a<|.c .a<|.nn<|.seq<|.r<|.c .m<|.c .nt<|.c .m ?_
     refine AOps.cases 39 _ rfl (fun g39=>?_) (fun g39=>?_)
     ·try simp only[zs]at g39
      refine .c .f<|.c .f<|.c .f<|.c .f<|.c .f<|.c .pT<|.c .m<|.c .f<|.c .f<|.c .f<|.c .f<|.c .pT<|.nn ?_
      refine .k1 ?_
      refine .seq ?_
      have hbad:prtV g.1 q=false:=by first|exact prtV_f1 (by assumption)|exact prtV_f2 (fun h=>by simp_all [inB];omega)|(obtain⟨s,hs,hs2⟩:=List.any_eq_true.1 (by assumption);exact prtV_f3 hs (by simpa using hs2))
      obtain⟨hO,hN⟩:=prgV_f (g:=g) (prgS_f3 hqm hbad)
      refine .region<|.c .a<|.c .a<|.nn<|.ret<|ks_r<|kb_r<|ks_r<|kl_r<|kb_r<|ks_r ?_
      refine kf_wret [eD 2 (dNs (insV g)),eT 3 (prgV g)] (Wk.keep [] rfl rfl ⟨ks rfl (.c (Cto.nilE 3 (by first|(rw[hN];rfl)|(rw[hN,hEz];rfl)))),ks rfl (.dt (by first|exact congrArg (fun b=>V.o (bo1 b)) hO.symm|exact congrArg (fun b=>V.o (bo1 b)) (by rw[hO,hEz,decide_eq_decide];simp)|exact congrArg (fun b=>V.o (bo1 b)) (by rw[hO,hEz,decide_eq_decide];omega))),trivial⟩) rfl ?_ nobox
      rfl
     ·try simp only[zs]at g39
      refine .c (.g (.fP 1 0 false))<|.c (.g (.l1 1))<|.c (.g (.ln 66 9 152)) ?_
      refine .c (.gT rfl rfl rfl (.cP [.tmp 42,.const (.int .i64 (1)),.const (.int .i64 (4))] rfl rfl rfl rfl (within_fn _ 1 4) rfl)) ?_
      refine .c (.g .nt)<|.c .pF<|.c .m ?_
      refine AOps.cases 46 _ rfl (fun g46=>?_) (fun g46=>?_)
      ·try simp only[zs]at g46
       refine .c .f<|.c .f<|.c .f<|.c .f<|.c .pT<|.nn ?_
       refine .k1 ?_
       refine .seq ?_
       have hbad:prtV g.1 q=false:=by first|exact prtV_f1 (by assumption)|exact prtV_f2 (fun h=>by simp_all [inB];omega)|(obtain⟨s,hs,hs2⟩:=List.any_eq_true.1 (by assumption);exact prtV_f3 hs (by simpa using hs2))
       obtain⟨hO,hN⟩:=prgV_f (g:=g) (prgS_f3 hqm hbad)
       refine .region<|.c .a<|.c .a<|.nn<|.ret<|ks_r<|kb_r<|ks_r<|kl_r<|kb_r<|ks_r ?_
       refine kf_wret [eD 2 (dNs (insV g)),eT 3 (prgV g)] (Wk.keep [] rfl rfl ⟨ks rfl (.c (Cto.nilE 3 (by first|(rw[hN];rfl)|(rw[hN,hEz];rfl)))),ks rfl (.dt (by first|exact congrArg (fun b=>V.o (bo1 b)) hO.symm|exact congrArg (fun b=>V.o (bo1 b)) (by rw[hO,hEz,decide_eq_decide];simp)|exact congrArg (fun b=>V.o (bo1 b)) (by rw[hO,hEz,decide_eq_decide];omega))),trivial⟩) rfl ?_ nobox
       rfl
      ·try simp only[zs]at g46
       refine .c (.g (.fP 1 0 false))<|.c (.g (.l1 1)) ?_
       refine .c (.gT rfl rfl rfl (St1.makeFunc (xs:=[.tmp 6]) rfl rfl rfl rfl rfl rfl rfl))<|.c (.gT rfl rfl rfl (.cP [.tmp 48,.tmp 49] rfl rfl rfl rfl (cnt_stm (f:=63) (cap:=[rP q]) (by kernel_rfl) (fun s=> !stmtV (q.1.length:Nat) s) q.2 (by omega) (fun s hs=>ins1_fn (by have:=szO_mem (f:=szS) hs;omega))) rfl)) ?_
       refine .c .pF<|.nn ?_
       refine ACode.condT rfl (fun h51=>?_) (fun h51=>?_)
       ·try simp only[zs]at h51
        refine .seq ?_
        have hbad:prtV g.1 q=false:=by first|exact prtV_f1 (by assumption)|exact prtV_f2 (fun h=>by simp_all [inB];omega)|(obtain⟨s,hs,hs2⟩:=List.any_eq_true.1 (by assumption);exact prtV_f3 hs (by simpa using hs2))
        obtain⟨hO,hN⟩:=prgV_f (g:=g) (prgS_f3 hqm hbad)
        refine .region<|.c .a<|.c .a<|.nn<|.ret<|ks_r<|kb_r<|ks_r<|kl_r<|kb_r<|ks_r ?_
        refine kf_wret [eD 2 (dNs (insV g)),eT 3 (prgV g)] (Wk.keep [] rfl rfl ⟨ks rfl (.c (Cto.nilE 3 (by first|(rw[hN];rfl)|(rw[hN,hEz];rfl)))),ks rfl (.dt (by first|exact congrArg (fun b=>V.o (bo1 b)) hO.symm|exact congrArg (fun b=>V.o (bo1 b)) (by rw[hO,hEz,decide_eq_decide];simp)|exact congrArg (fun b=>V.o (bo1 b)) (by rw[hO,hEz,decide_eq_decide];omega))),trivial⟩) rfl ?_ nobox
        rfl
       ·try simp only[zs]at h51
        have hv1:okP q.1=true:=by first|assumption|simp_all
        have hv2:1≤q.2.length∧q.2.length≤4:=by simp_all [inB];omega
        have hv3:∀s∈q.2,stmtV (q.1.length:Nat) s=true:=by simp_all
        refine .skip<|ks_n<|.r<|.c .m<|.c (.ln 43 1 24)<|.c .m<|.nn<|.block ?_
        refine .loopK (fun m σ=>(∃(i:Nat) (o2:List Ins),m=(npR q.1).length -i∧(i≤(npR q.1).length)∧(∀j p,j<i→(npR q.1)[j]?=some p→ptG' g.1 q.2 p=true)∧(o++insT k q.2.length ((npR q.1).take i)=o2)∧(o2.length≤480 *k+4 *i)∧σ=[eP 1 (rG g),(.t 4,.v (.o (.c (.own 120 3 (o2.length))))),eN 5 (k:Nat),eP 6 (rP q),eD 24 (dPts g.2),eN 25 (g.2.length:Nat),eN 26 (k:Nat),eD 52 (dPs (npR q.1)),eN 53 ((npR q.1).length:Nat),eN 54 (i:Nat),(.b 120,.b 56 3 (dR (o2.map rN))),eU 120])) [(120,770)] ⟨0,o,rfl,by omega,fun j p hj _=>absurd hj (by omega),by simp[insT],by omega,rfl⟩ ⟨kd,kW,kd,kd,kd,kd,kd,kd,kd,kd,kb 770 rfl (.dt rfl (by first|rfl|(simp[dR,rN,dI];done))),trivial⟩ ?_
        rintro m σ ⟨i,o2,hm0,hi,hG,hEo,ho2,rfl⟩
        refine .r<|.c .ls<|.nn<|.seq ?_
        refine .cD rfl (fun h55=>?_) (fun h55=>?_)
        ·skip
         obtain⟨p,hp1⟩:∃x_,(npR q.1)[i]?=some x_:=⟨_,List.getElem?_eq_getElem (by omega)⟩
         have hpm:=List.mem_of_getElem? hp1
         have hpt:=npR_pt hpm
         have hnl:=npR_len q.1
         refine .skip<|ks_n<|.seq<|.block<|.r<|.c (.xL 43 1 24) ?_
         refine .c (.l1 1)<|.c .a<|.nn<|.seq<|.r<|.c .m ?_
         refine .c (.cP [.tmp 58] rfl rfl rfl rfl (isPoint_fn _) rfl) ?_
         refine .c .nt<|.nn ?_
         refine ACode.condT rfl (fun h60=>?_) (fun h60=>?_)
         ·try simp only[zs]at h60
          refine .seq ?_
          obtain⟨hO,hN⟩:=prgV_f (g:=g) (prgS_f3 hqm (prtV_f4 hpm (by assumption)))
          refine .region<|.c .a<|.c .a<|.nn<|.ret<|ks_r<|kb_r<|ks_r<|kl_r<|kb_r<|kb_r<|ks_r<|kl_r<|kb_r<|ks_r ?_
          refine kf_wret [eD 2 (dNs (insV g)),eT 3 (prgV g)] (Wk.keep [] rfl rfl ⟨ks rfl (.c (Cto.nilE 3 (by first|(rw[hN];rfl)|(rw[hN,hEz];rfl)))),ks rfl (.dt (by first|exact congrArg (fun b=>V.o (bo1 b)) hO.symm|exact congrArg (fun b=>V.o (bo1 b)) (by rw[hO,hEz,decide_eq_decide];simp)|exact congrArg (fun b=>V.o (bo1 b)) (by rw[hO,hEz,decide_eq_decide];omega))),trivial⟩) rfl ?_ nobox
          rfl
         ·try simp only[zs]at h60
          refine .skip<|ks_n<|.r<|.c (.fP 1 0 false)<|.c (.l1 1)<|.c (.ln 66 9 152)<|.c .m<|.nn<|.block ?_
          refine .loopK (fun m σ=>(∃(j:Nat) (o3:List Ins),m=q.2.length -j∧(j≤q.2.length)∧(∀t s,t<j→q.2[t]?=some s→stmG g.1 s p=true)∧(o2++rowI k j p=o3)∧(o3.length≤480 *k+4 *i+j)∧σ=[eP 1 (rG g),(.t 4,.v (.o (.c (.own 130 3 (o3.length))))),eN 5 (k:Nat),eP 6 (rP q),eD 10 (dIs p),eD 24 (dPts g.2),eN 25 (g.2.length:Nat),eN 26 (k:Nat),eD 52 (dPs (npR q.1)),eN 53 ((npR q.1).length:Nat),eN 54 (i:Nat),eD 62 (dMs q.2),eN 63 (q.2.length:Nat),eN 64 (j:Nat),(.b 130,.b 56 3 (dR (o3.map rN))),eU 130])) [(130,120)] ⟨0,o2,rfl,by omega,fun t s ht _=>absurd ht (by omega),by simp[rowI_zero],by omega,rfl⟩ ⟨kd,kW,kd,kd,kd,kd,kd,kd,kd,kd,kd,kd,kd,kd,kb 120 rfl (.dt rfl (by first|rfl|(simp[dR,rN,dI];done))),trivial⟩ ?_
          rintro m σ ⟨j,o3,hm0,hj,hH,hEp,ho3,rfl⟩
          refine .r<|.c .ls<|.nn<|.seq ?_
          refine .cD rfl (fun h65=>?_) (fun h65=>?_)
          ·skip
           obtain⟨s,hs1⟩:∃x_,q.2[j]?=some x_:=⟨_,List.getElem?_eq_getElem (by omega)⟩
           have hsm:=List.mem_of_getElem? hs1
           have hsv:=hv3 s hsm
           refine .skip<|ks_n<|.seq<|.block<|.r<|.c .m<|.c (.xL 66 9 152) ?_
           refine .c (.lN 9)<|.c (.al 112 [.string ByteArray.empty,.slice none 0 0,.int .i64 0,.int .i64 0,.slice none 0 0,.int .i64 0,.string ByteArray.empty,.slice none 0 0,.slice none 0 0])<|.c .a<|.c (.sT 9 true)<|.nn<|.seq<|.r<|.c (.lN 2)<|.c (.bN 9)<|.c .m ?_
           refine .c (.cP [.tmp 69,.tmp 70,.tmp 71] rfl rfl rfl rfl (sok_fn hA hsv hpt.1 hpt.2) rfl) ?_
           refine .c .nt<|.nn ?_
           refine ACode.condT rfl (fun h73=>?_) (fun h73=>?_)
           ·try simp only[zs]at h73
            refine .seq ?_
            obtain⟨hO,hN⟩:=prgV_f (g:=g) (prgS_f3 hqm (prtV_f5 hpm hsm (by assumption)))
            refine .region<|.c .a<|.c .a<|.nn<|.ret<|ks_r<|kb_r<|ks_r<|kl_r<|kb_r<|kb_r<|ks_r<|kl_r<|kb_r<|kb_r<|ks_r<|kl_r<|kb_r<|ks_r ?_
            refine kf_wret [eD 2 (dNs (insV g)),eT 3 (prgV g)] (Wk.keep [] rfl rfl ⟨ks rfl (.c (Cto.nilE 3 (by first|(rw[hN];rfl)|(rw[hN,hEz];rfl)))),ks rfl (.dt (by first|exact congrArg (fun b=>V.o (bo1 b)) hO.symm|exact congrArg (fun b=>V.o (bo1 b)) (by rw[hO,hEz,decide_eq_decide];simp)|exact congrArg (fun b=>V.o (bo1 b)) (by rw[hO,hEz,decide_eq_decide];omega))),trivial⟩) rfl ?_ nobox
            rfl
           ·try simp only[zs]at h73
            have hST:stmG g.1 s p=true:=by assumption
            refine .skip<|ks_n<|.region<|.c .m<|.c .m<|.c .m<|.c .m ?_
            refine .c (.cP [.tmp 77] rfl rfl rfl rfl (cloneInts_fn p (by omega)) rfl) ?_
            refine .c (.bu [(0,.tmp 75),(1,.tmp 76),(2,.tmp 78)] [(0,1),(1,1),(2,1)] [.int .i64 0,.int .i64 0,.slice none 0 0])<|.c (.li 56 2 0 [.tmp 79]) ?_
            refine .c (St1.appB (k':=181) (e:=56) (sz:=2) (by':=40) rfl rfl rfl rfl rfl (by kernel_rfl) rfl rfl rfl rfl (by first|(simp[dR];done)|(simp[dR];omega)) (by first|(simp[dR];done)|(simp[dR];omega)) rfl rfl rfl) ?_
            refine .c .a<|.nil<|kb_n<|ks_n<|.region<|.c .pl<|.c .m<|.nil ?_
            refine kl_k [(130,181)] ⟨j+1,o3++[((k:Int),((j:Nat):Int),p)],rfl,by omega,fun t s' ht hs'=>(Nat.lt_succ_iff_lt_or_eq.1 ht).elim (fun h=>hH t s' h hs') (fun h=>by subst h;rw[hs1]at hs';cases hs';exact hST),by rw[rowI_snoc,←List.append_assoc,hEp],by rw[List.length_append,List.length_singleton];omega,rfl⟩ ⟨kd,kW,kd,kd,kd,kd,kd,kd,kd,kd,kd,kd,kd,kd,kb 181 rfl (.dt rfl (by first|rfl|(simp[dR,rN,dI];done))),trivial⟩
          ·skip
           obtain rfl:j=q.2.length:=by omega
           have hPT:ptG' g.1 q.2 p=true:=by rw[ptG',show isPt p=true by assumption,Bool.true_and];exact all_of fun j s h=>hH j s (List.getElem?_eq_some_iff.1 h).1 h
           refine .exit<|ks_e<|kl_e<|kb_hit<|kb_n<|ks_n<|.region<|.c .pl<|.c .m<|.nil ?_
           refine kl_k [(120,130)] ⟨i+1,o3,rfl,by omega,fun j p' hj hp'=>(Nat.lt_succ_iff_lt_or_eq.1 hj).elim (fun h=>hG j p' h hp') (fun h=>by subst h;rw[hp1]at hp';cases hp';exact hPT),by rw[insT_take hp1,←List.append_assoc,hEo];exact hEp,by omega,rfl⟩ ⟨kd,kW,kd,kd,kd,kd,kd,kd,kd,kd,kb 130 rfl (.dt rfl (by first|rfl|(simp[dR,rN,dI];done))),trivial⟩
        ·skip
         obtain rfl:i=(npR q.1).length:=by omega
         rw[List.take_length]at hEo
         have hPV:prtV g.1 q=true:=by rw[prtV_eq hv1 hv2 (List.all_eq_true.2 hv3)];exact all_of fun j p h=>hG j p (List.getElem?_eq_some_iff.1 h).1 h
         have hnl:=npR_len q.1
         refine .exit<|ks_e<|kl_e<|kb_hit<|kb_n<|ks_n<|.region<|.c .pl<|.c .m<|.nil ?_
         refine kl_k [(110,120)] (.inr ⟨k+1,o2,rfl,by omega,fun j q' hj hq'=>(Nat.lt_succ_iff_lt_or_eq.1 hj).elim (fun h=>hF j q' h hq') (fun h=>by subst h;rw[hq1]at hq';cases hq';exact hPV),by rw[insG_take hq1,hE];exact hEo,by omega,rfl⟩) ⟨kd,kW,kd,kd,kd,kb 120 rfl (.dt rfl (by first|rfl|(simp[dR,rN,dI];done))),trivial⟩
    ·skip
     obtain rfl:k=g.2.length:=by omega
     rw[List.take_length]at hE
     have hEz:=hE
     obtain⟨hO,hN⟩:=prgV_t (prgS_eq hA h4 hF)
     refine .exit<|ks_e<|kl_e<|kb_hit<|ks_n<|.r<|.c .m<|.c .m<|.c (.lB 56 3 40)<|.c .le<|.c .a<|.c .a<|.nn<|.ret ?_
     refine kf_wret [eD 2 (dNs (insV g)),eT 3 (prgV g)] (Wk.keep [] rfl rfl ⟨ks rfl (.c (.fz rfl (by first|(rw[hN,hEz];done)|(rw[hN,hEz];rfl)) (by rw[hN,hEz,List.length_map]) (by omega))),ks rfl (.dt (by first|exact congrArg (fun b=>V.o (bo1 b)) hO.symm|exact congrArg (fun b=>V.o (bo1 b)) (by rw[hO,hEz,decide_eq_decide];simp)|exact congrArg (fun b=>V.o (bo1 b)) (by rw[hO,hEz,decide_eq_decide];omega))),trivial⟩) rfl ?_ nobox
     rfl
def clsV (ar:List Arr) (s:Stm) (p:List Int):List Int:=if stmG ar s p=true then(rdE s.2).map fun a=>cellG a p ar 0 else []
def wrV (ar:List Arr) (s:Stm) (p:List Int):Int:=if stmG ar s p=true then cellG s.1 p ar 0 else 0
def cntP (ar:List Arr) (q:Prt):Int:=if prtV ar q=true then(((npR q.1).length *q.2.length:Nat):Int)else 0
theorem cls_no {ar:List Arr} {s:Stm} {p:List Int} (h:stmG ar s p=false):clsV ar s p=[]∧wrV ar s p=0:=⟨if_neg (by rw[h];simp),if_neg (by rw[h];simp)⟩
theorem cls_yes {ar:List Arr} {s:Stm} {p:List Int} (h:stmG ar s p=true):clsV ar s p=(rdE s.2).map (fun a=>cellG a p ar 0)∧wrV ar s p=cellG s.1 p ar 0:=⟨if_pos h,if_pos h⟩
theorem accG_no {ar:List Arr} {p:List Int} {a:Acc} (h:cellG a p ar 0<0):accG ar p a=false:=decide_eq_false (by omega)
theorem accG_yes {ar:List Arr} {p:List Int} {a:Acc} (h:¬cellG a p ar 0<0):accG ar p a=true:=decide_eq_true (by omega)
theorem stmG_r {ar:List Arr} {s:Stm} {p:List Int} {a:Acc} (ha:a∈rdE s.2) (h:cellG a p ar 0<0):stmG ar s p=false:=Bool.eq_false_iff.2 fun h2=>by
  rw[stmG,Bool.and_eq_true]at h2
  have:=List.all_eq_true.1 h2.2 a ha
  rw[accG_no h]at this;cases this
theorem stmG_w {ar:List Arr} {s:Stm} {p:List Int} (h:cellG s.1 p ar 0<0):stmG ar s p=false:=by rw[stmG,accG_no h];rfl
theorem stmG_t {ar:List Arr} {s:Stm} {p:List Int} (h:¬cellG s.1 p ar 0<0) (h2:∀(j:Nat) a,j<(rdE s.2).length→(rdE s.2)[j]?=some a→accG ar p a=true):stmG ar s p=true:=by
  rw[stmG,accG_yes h,Bool.true_and]
  exact all_of fun j a h=>h2 j a (List.getElem?_eq_some_iff.1 h).1 h
theorem cntP_no {ar:List Arr} {q:Prt} (h:prtV ar q=false):cntP ar q=0:=if_neg (by rw[h];simp)
theorem cntP_yes {ar:List Arr} {q:Prt} (h:prtV ar q=true):cntP ar q=(((npR q.1).length *q.2.length:Nat):Int):=if_pos h
theorem cntP_len {ar:List Arr} {q:Prt} (h:prtV ar q=true) (k:Nat):cntP ar q=((insP k q).length:Nat)∧(insP k q).length≤480:=by
  obtain⟨h1,h2⟩:=insP_len (k:=k) (prtV_iff.1 h).2.1.2
  exact⟨by rw[cntP_yes h,h1],h2⟩
theorem np_pts {ns:List Lp} (h:okP ns=true):nsV ns=true∧npR ns=ptsF ns [] []:=by
  have hv:=(okP_iff.1 h).1
  exact⟨hv,(np_yes hv (fun h2=>by rw[np_no1 h2]at h;cases h) (fun h2=>by rw[np_no2 h2]at h;cases h)).2⟩
theorem l4Cells_fn {ar:List Arr} (hv:arrsV ar=true) {D:Int} {s:Stm} {p:List Int} (hs:stmtV D s=true) (hz:szS s≤1073741824) (hS:Small p) (hn:p.length≤4):Fn Tryz.prog 95 [] [vD (dRs ar),ad (rS s),vD (dIs p)] (.tup [vD (dIs (clsV ar s p)),nat1 (wrV ar s p),bo1 (stmG ar s p)]) []:=by
  obtain⟨ha,hr,hrl⟩:=stm_accs hs
  have hz2:szE s.2≤1073741824:=by have:szS s=szC s.1+szE s.2:=rfl;omega
  refine Fn.code0 Tryz.func95 rfl rfl rfl rfl ?_
  refine .r<|.c .bp<|.c .a<|.c .a<|.c .a<|.r ?_
  refine .c (St1.lit0 (k':=114) (e:=3) (sz:=1) (b:=true) rfl rfl rfl rfl (by kernel_rfl) rfl rfl) ?_
  refine .c .a<|.r ?_
  refine .c (St1.lit0 (k':=115) (e:=59) (sz:=2) (b:=true) rfl rfl rfl rfl (by kernel_rfl) rfl rfl) ?_
  refine .c (.fP 2 6 true)<|.c (.lN 7) ?_
  refine .c (.cO [.tmp 15,.tmp 17] [(0,115),(1000,118)] rfl rfl rfl rfl (l3Reads_fn s.2 hz2 [] (by simp;omega)) rfl ⟨rfl,trivial⟩ (hbL_flat _ _) (hbL_flat _ _) (hbL_HB _ _) outS_one) ?_
  refine .c .a<|.nn<|.seq<|.r<|.c .a<|.nn<|.block ?_
  refine .loopK (fun m σ=>(∃i:Nat,m=(rdE s.2).length -i∧(i≤(rdE s.2).length)∧(∀j a,j<i→(rdE s.2)[j]?=some a→accG ar p a=true)∧σ=[eD 0 (dRs ar),eD 2 (dIs p),eP 4 (rS s),(.t 9,.v (.o (.c (.own 110 1 (i))))),eD 10 (dCs (rdE s.2)),eN 11 (i:Nat),(.b 110,.b 3 1 (dR (((rdE s.2).take i).map fun a=>rI (cellG a p ar 0)))),eU 110])) [(110,114)] ⟨0,rfl,by omega,fun j a hj _=>absurd hj (by omega),rfl⟩ ⟨kd,kd,kd,kW,ks rfl (.c (.fz rfl rfl (by simp) (by simp;omega))),kd,kb 114 rfl (.dt rfl (by first|exact dR_take (fun a:Acc=>rI (cellG a p ar 0)) hx1|exact dR_take1 (fun a:Acc=>rI (cellG a p ar 0)) hx1|rfl|(simp[dR];done))),trivial⟩ ?_
  rintro m σ ⟨i,hm0,hi,hF,rfl⟩
  refine .seq<|.r<|.c .m<|.c .m<|.c (.ln 59 2 40)<|.c .ls<|.nn ?_
  refine .cD rfl (fun h22=>?_) (fun h22=>?_)
  · skip
    obtain⟨x,hx1⟩:∃x_,(rdE s.2)[i]?=some x_:=⟨_,List.getElem?_eq_getElem (by omega)⟩
    refine .skip<|ks_n<|.seq<|.block<|.r<|.c .m<|.c .m<|.c .m<|.c (.xL 59 2 40) ?_
    refine .c (.lN 2)<|.c .m ?_
    refine .c (.cP [.tmp 25,.tmp 29,.tmp 30] rfl rfl rfl rfl (l4Cell_fn hv (hr x (List.mem_of_getElem? hx1)) hS hn) rfl) ?_
    refine .c .a<|.nn<|.seq<|.r<|.c .m<|.c .ls<|.nn ?_
    refine .cD rfl (fun h33=>?_) (fun h33=>?_)
    · skip
      refine .seq ?_
      have hG:=stmG_r (List.mem_of_getElem? hx1) h33
      obtain⟨hC,hW⟩:=cls_no hG
      refine .region<|.c (St1.lit0D (e:=3) (sz:=1) (b:=true) rfl rfl rfl rfl (by kernel_rfl)) ?_
      refine .c .a<|.c .a<|.c .a<|.nn<|.ret<|ks_r<|kb_r<|ks_r<|kl_r<|kb_r<|ks_r ?_
      refine kf_wret [eD 6 (dIs (clsV ar s p)),eN 7 (wrV ar s p),eT 8 (stmG ar s p)] (Wk.keep [] rfl rfl ⟨ks rfl (.dt (by rw[hC];rfl)),ks rfl (.dt (by rw[hW])),ks rfl (.dt (by rw[hG])),trivial⟩) rfl ?_ nobox
      rfl
    · skip
      refine .skip<|ks_n<|.region<|.c .m<|.c .m<|.c (.li 3 0 0 [.tmp 36]) ?_
      refine .c (St1.appB (k':=138) (e:=3) (sz:=0) (by':=8) rfl rfl rfl rfl rfl (by kernel_rfl) rfl rfl rfl rfl (by first|(simp[dR];done)|(simp[dR];omega)) (by first|(simp[dR];done)|(simp[dR];omega)) rfl rfl rfl) ?_
      refine .c .a<|.nil<|kb_n<|ks_n<|.region<|.c .m<|.c .pl<|.c .a<|.nil ?_
      refine kl_k [(110,138)] ⟨i+1,rfl,by omega,fun j a' hj h'=>(Nat.lt_succ_iff_lt_or_eq.1 hj).elim (fun h=>hF j a' h h') (fun h=>by subst h;rw[hx1]at h';cases h';exact accG_yes h33),rfl⟩ ⟨kd,kd,kd,kW,kd,kd,kb 138 rfl (.dt rfl (by first|exact dR_take (fun a:Acc=>rI (cellG a p ar 0)) hx1|exact dR_take1 (fun a:Acc=>rI (cellG a p ar 0)) hx1|rfl|(simp[dR];done))),trivial⟩
  · skip
    obtain rfl:i=(rdE s.2).length:=by omega
    refine .exit<|ks_e<|kl_e<|kb_hit<|ks_n<|.r<|.c .m<|.c (.fP 0 1 true)<|.c (.lN 2)<|.c .m ?_
    refine .c (.cP [.tmp 39,.tmp 41,.tmp 42] rfl rfl rfl rfl (l4Cell_fn hv ha hS hn) rfl) ?_
    refine .c .a<|.nn<|.seq<|.r<|.c .m<|.c .ls<|.nn ?_
    refine .cD rfl (fun h45=>?_) (fun h45=>?_)
    · skip
      refine .seq ?_
      have hG:stmG ar s p=false:=stmG_w h45
      obtain⟨hC,hW⟩:=cls_no hG
      refine .region<|.c (St1.lit0D (e:=3) (sz:=1) (b:=true) rfl rfl rfl rfl (by kernel_rfl)) ?_
      refine .c .a<|.c .a<|.c .a<|.nn<|.ret<|ks_r ?_
      refine kf_wret [eD 6 (dIs (clsV ar s p)),eN 7 (wrV ar s p),eT 8 (stmG ar s p)] (Wk.keep [] rfl rfl ⟨ks rfl (.dt (by rw[hC];rfl)),ks rfl (.dt (by rw[hW])),ks rfl (.dt (by rw[hG])),trivial⟩) rfl ?_ nobox
      rfl
    · skip
      refine .skip<|ks_n<|.seq ?_
      have hG:=stmG_t h45 hF
      obtain⟨hC,hW⟩:=cls_yes hG
      refine .region<|.c .m<|.c .m<|.c .a<|.c .a<|.c .a<|.nn<|.ret ?_
      refine kf_wret [eD 6 (dIs (clsV ar s p)),eN 7 (wrV ar s p),eT 8 (stmG ar s p)] (Wk.keep [] rfl rfl ⟨ks rfl (.c (.fz rfl (by rw[hC];first|rfl|(rw[List.take_length,List.map_map];rfl)) (by rw[hC];simp) (by omega))),ks rfl (.dt (by rw[hW])),ks rfl (.dt (by rw[hG])),trivial⟩) rfl ?_ nobox
      rfl
theorem l4Part_fn {ar:List Arr} (hv:arrsV ar=true) {q:Prt} (hs:szPt q≤1073741824):Fn Tryz.prog 52 [] [vD (dRs ar),ad (rP q)] (.tup [nat1 (cntP ar q),bo1 (prtV ar q)]) []:=by
 have hqe:szPt q=szLs q.1+szO szS q.2:=rfl
 have hbg:=sz_bg (ns:=q.1) (by omega)
 have hql:=szO_len (f:=szS) q.2
 have hnl:=npR_len q.1
 refine Fn.code0 Tryz.func52 rfl rfl rfl rfl ?_
 refine .r<|.c .bp<|.c .a<|.c .a<|.r<|.c (.fP 0 0 false)<|.c (.l1 1) ?_
 refine .c (.cP [.tmp 15] rfl rfl rfl rfl (specNestPts_B q.1 hbg) rfl) ?_
 refine .c .m<|.c .ex<|.c .ex<|.c .a<|.c .a<|.nn<|.seq<|.r<|.c .m<|.c .nt<|.c .m ?_
 refine AOps.cases 21 _ rfl (fun g21=>?_) (fun g21=>?_)
 ·try simp only[zs]at g21
  refine .c .f<|.c .f<|.c .f<|.c .f<|.c .pT<|.c .m<|.c .f<|.c .f<|.c .f<|.c .f<|.c .pT<|.nn ?_
  refine .k1 ?_
  refine .seq ?_
  have hP:prtV ar q=false:=by first|exact prtV_f1 (by assumption)|exact prtV_f2 (by omega)
  have hC:=cntP_no hP
  refine .region<|.c .a<|.c .a<|.nn<|.ret<|ks_r ?_
  refine kf_wret [eN 4 (cntP ar q),eT 5 (prtV ar q)] (Wk.keep [] rfl rfl ⟨ks rfl (.dt (by first|(rw[hC];done)|(rw[hC];rfl)|(rw[hC];exact congrArg (fun z=>V.o (nat1 z)) (by rw[Int.natCast_mul])))),ks rfl (.dt (by rw[hP])),trivial⟩) rfl ?_ nobox
  rfl
 ·try simp only[zs]at g21
  refine .c (.g (.fP 1 0 false))<|.c (.g (.l1 1))<|.c (.g (.ln 66 9 152))<|.c (.g .ls)<|.c .pF<|.c .m ?_
  refine AOps.cases 27 _ rfl (fun g27=>?_) (fun g27=>?_)
  ·try simp only[zs]at g27
   refine .c .f<|.c .f<|.c .f<|.c .f<|.c .pT<|.nn ?_
   refine .k1 ?_
   refine .seq ?_
   have hP:prtV ar q=false:=by first|exact prtV_f1 (by assumption)|exact prtV_f2 (by omega)
   have hC:=cntP_no hP
   refine .region<|.c .a<|.c .a<|.nn<|.ret<|ks_r ?_
   refine kf_wret [eN 4 (cntP ar q),eT 5 (prtV ar q)] (Wk.keep [] rfl rfl ⟨ks rfl (.dt (by first|(rw[hC];done)|(rw[hC];rfl)|(rw[hC];exact congrArg (fun z=>V.o (nat1 z)) (by rw[Int.natCast_mul])))),ks rfl (.dt (by rw[hP])),trivial⟩) rfl ?_ nobox
   rfl
  ·try simp only[zs]at g27
   refine .c (.g (.fP 1 0 false))<|.c (.g (.l1 1))<|.c (.g (.ln 66 9 152))<|.c (.g .gt)<|.c .pF<|.nn ?_
   refine ACode.condT rfl (fun h32=>?_) (fun h32=>?_)
   ·try simp only[zs]at h32
    refine .seq ?_
    have hP:prtV ar q=false:=by first|exact prtV_f1 (by assumption)|exact prtV_f2 (by omega)
    have hC:=cntP_no hP
    refine .region<|.c .a<|.c .a<|.nn<|.ret<|ks_r ?_
    refine kf_wret [eN 4 (cntP ar q),eT 5 (prtV ar q)] (Wk.keep [] rfl rfl ⟨ks rfl (.dt (by first|(rw[hC];done)|(rw[hC];rfl)|(rw[hC];exact congrArg (fun z=>V.o (nat1 z)) (by rw[Int.natCast_mul])))),ks rfl (.dt (by rw[hP])),trivial⟩) rfl ?_ nobox
    rfl
   ·try simp only[zs]at h32
    have hv1:okP q.1=true:=by first|assumption|simp_all
    have hv2:1≤q.2.length∧q.2.length≤4:=by omega
    have hmb:=Nat.mul_le_mul hnl hv2.2
    refine .skip<|ks_n<|.seq<|.r<|.c .a<|.nn<|.block ?_
    refine .loopK (fun m σ=>(∃i:Nat,m=q.2.length -i∧(i≤q.2.length)∧(∀j s,j<i→q.2[j]?=some s→stmtV (q.1.length:Nat) s=true∧∀p∈npR q.1,stmG ar s p=true∧isPt p=true)∧σ=[eD 0 (dRs ar),eP 3 (rP q),eD 6 (dPs (npR q.1)),eN 8 (i:Nat)])) [] ⟨0,rfl,by omega,fun j s hj _=>absurd hj (by omega),rfl⟩ ⟨kd,kd,kd,kd,trivial⟩ ?_
    rintro m σ ⟨i,hm0,hi,hF,rfl⟩
    refine .seq<|.r<|.c .m<|.c (.fP 1 0 false)<|.c (.l1 1)<|.c (.ln 66 9 152)<|.c .ls<|.nn ?_
    refine .cD rfl (fun h37=>?_) (fun h37=>?_)
    ·skip
     obtain⟨s,hs1⟩:∃x_,q.2[i]?=some x_:=⟨_,List.getElem?_eq_getElem (by omega)⟩
     have hsm:=List.mem_of_getElem? hs1
     have hss:=szO_mem (f:=szS) hsm
     refine .skip<|ks_n<|.seq<|.block<|.seq<|.seq ?_
     refine ACode.drawK (by kernel_rfl) (by kernel_rfl) ?_
     refine .c (.fP 1 0 false)<|.c (.l1 1)<|.c .m<|.c (.xL 66 9 152) ?_
     refine .c (.lN 9)<|.c (.fP 0 0 false)<|.c (.l1 1)<|.c (.ln 148 2 48) ?_
     refine .c (.cP [.tmp 44,.tmp 47] rfl rfl rfl rfl (specStmtV_fn (q.1.length:Nat) s (by omega)) rfl) ?_
     refine .c .nt ?_
     refine .nil ⟨by kernel_rfl,?_⟩
     refine ks_n ?_
     refine ACode.condT rfl (fun h49=>?_) (fun h49=>?_)
     ·try simp only[zs]at h49
      refine .seq ?_
      have hP:=prtV_f3 (ar:=ar) hsm (by assumption)
      have hC:=cntP_no hP
      refine .region<|.c .a<|.c .a<|.nn<|.ret<|ks_r<|kb_r<|ks_r<|kl_r<|kb_r<|ks_r ?_
      refine kf_wret [eN 4 (cntP ar q),eT 5 (prtV ar q)] (Wk.keep [] rfl rfl ⟨ks rfl (.dt (by first|(rw[hC];done)|(rw[hC];rfl)|(rw[hC];exact congrArg (fun z=>V.o (nat1 z)) (by rw[Int.natCast_mul])))),ks rfl (.dt (by rw[hP])),trivial⟩) rfl ?_ nobox
      rfl
     ·try simp only[zs]at h49
      have hsv:stmtV (q.1.length:Nat) s=true:=by assumption
      refine .skip<|ks_n<|.r<|.c .a<|.nn<|.block ?_
      refine .loopK (fun m σ=>(∃k:Nat,m=(npR q.1).length -k∧(k≤(npR q.1).length)∧(∀j p,j<k→(npR q.1)[j]?=some p→stmG ar s p=true∧isPt p=true)∧σ=[eD 0 (dRs ar),eP 3 (rP q),eD 6 (dPs (npR q.1)),eN 8 (i:Nat),eN 9 (k:Nat)])) [] ⟨0,rfl,by omega,fun j p hj _=>absurd hj (by omega),rfl⟩ ⟨kd,kd,kd,kd,kd,trivial⟩ ?_
      rintro m σ ⟨k,hm0,hk,hG,rfl⟩
      refine .seq<|.r<|.c .m<|.c .m<|.c (.ln 43 1 24)<|.c .ls<|.nn ?_
      refine .cD rfl (fun h53=>?_) (fun h53=>?_)
      ·skip
       obtain⟨p,hp1⟩:∃x_,(npR q.1)[k]?=some x_:=⟨_,List.getElem?_eq_getElem (by omega)⟩
       have hpm:=List.mem_of_getElem? hp1
       have hpt:=npR_pt hpm
       refine .skip<|ks_n<|.seq<|.block<|.seq ?_
       refine ACode.drawK (by kernel_rfl) (by kernel_rfl) ?_
       refine .c .m<|.c (.fP 1 0 false)<|.c (.l1 1)<|.c .m<|.c (.xL 66 9 152) ?_
       refine .c (.lN 9)<|.c .m<|.c .m<|.c (.xL 43 1 24) ?_
       refine .c (.l1 1) ?_
       refine .c (.cP [.tmp 57,.tmp 62,.tmp 66] rfl rfl rfl rfl (l4Cells_fn hv hsv (by omega) hpt.1 hpt.2) rfl) ?_
       refine .c .m<|.c .ex<|.c .ex<|.c .ex<|.c .a<|.c .a<|.c .a ?_
       refine .nil ⟨by kernel_rfl,?_⟩
       refine ks_n<|.r<|.c .m<|.c .nt<|.c .m ?_
       refine AOps.cases 73 _ rfl (fun g73=>?_) (fun g73=>?_)
       ·try simp only[zs]at g73
        refine .c .f<|.c .f<|.c .f<|.c .f<|.c .f<|.c .f<|.c .pT<|.nn ?_
        refine .k1 ?_
        refine .seq ?_
        have hP:prtV ar q=false:=by first|exact prtV_f5 hpm hsm (by assumption)|exact prtV_f4 hpm (by assumption)
        have hC:=cntP_no hP
        refine .region<|.c .a<|.c .a<|.nn<|.ret<|kb_r<|ks_r<|kl_r<|kb_r<|kb_r<|ks_r<|kl_r<|kb_r<|ks_r ?_
        refine kf_wret [eN 4 (cntP ar q),eT 5 (prtV ar q)] (Wk.keep [] rfl rfl ⟨ks rfl (.dt (by first|(rw[hC];done)|(rw[hC];rfl)|(rw[hC];exact congrArg (fun z=>V.o (nat1 z)) (by rw[Int.natCast_mul])))),ks rfl (.dt (by rw[hP])),trivial⟩) rfl ?_ nobox
        rfl
       ·try simp only[zs]at g73
        refine .c (.g .m)<|.c (.g .m)<|.c (.g (.xL 43 1 24)) ?_
        refine .c (.g (.l1 1)) ?_
        refine .c (.gT rfl rfl rfl (.cP [.tmp 77] rfl rfl rfl rfl (l1Point_fn _) rfl)) ?_
        refine .c (.g .nt)<|.c .pF<|.nn ?_
        refine ACode.condT rfl (fun h80=>?_) (fun h80=>?_)
        ·try simp only[zs]at h80
         refine .seq ?_
         have hP:prtV ar q=false:=by first|exact prtV_f5 hpm hsm (by assumption)|exact prtV_f4 hpm (by assumption)
         have hC:=cntP_no hP
         refine .region<|.c .a<|.c .a<|.nn<|.ret<|kb_r<|ks_r<|kl_r<|kb_r<|kb_r<|ks_r<|kl_r<|kb_r<|ks_r ?_
         refine kf_wret [eN 4 (cntP ar q),eT 5 (prtV ar q)] (Wk.keep [] rfl rfl ⟨ks rfl (.dt (by first|(rw[hC];done)|(rw[hC];rfl)|(rw[hC];exact congrArg (fun z=>V.o (nat1 z)) (by rw[Int.natCast_mul])))),ks rfl (.dt (by rw[hP])),trivial⟩) rfl ?_ nobox
         rfl
        ·try simp only[zs]at h80
         have hSG:stmG ar s p=true:=by first|assumption|simp_all
         have hPT:isPt p=true:=by first|assumption|simp_all
         refine .skip<|kb_n<|ks_n<|.region<|.c .m<|.c .pl<|.c .a<|.nil ?_
         refine kl_k [] ⟨k+1,rfl,by omega,fun j p' hj h'=>(Nat.lt_succ_iff_lt_or_eq.1 hj).elim (fun h=>hG j p' h h') (fun h=>by subst h;rw[hp1]at h';cases h';exact⟨hSG,hPT⟩),rfl⟩ ⟨kd,kd,kd,kd,kd,trivial⟩
      ·skip
       have hAll:∀p∈npR q.1,stmG ar s p=true∧isPt p=true:=fun p hp=>by obtain⟨j,hj⟩:=List.mem_iff_getElem?.1 hp;exact hG j p (by have:=(List.getElem?_eq_some_iff.1 hj).1;omega) hj
       refine .exit<|ks_e<|kl_e<|kb_hit<|kb_n<|ks_n<|.region<|.c .m<|.c .pl<|.c .a<|.nil ?_
       refine kl_k [] ⟨i+1,rfl,by omega,fun j s' hj h'=>(Nat.lt_succ_iff_lt_or_eq.1 hj).elim (fun h=>hF j s' h h') (fun h=>by subst h;rw[hs1]at h';cases h';exact⟨hsv,hAll⟩),rfl⟩ ⟨kd,kd,kd,kd,trivial⟩
    ·skip
     have hP:prtV ar q=true:=prtV_iff.2 ⟨hv1,hv2,fun s hs=>by obtain⟨j,hj⟩:=List.mem_iff_getElem?.1 hs;exact(hF j s (by have:=(List.getElem?_eq_some_iff.1 hj).1;omega) hj).1,fun p hp=>⟨by obtain⟨s,hs⟩:∃s,q.2[0]?=some s:=⟨_,List.getElem?_eq_getElem (by omega)⟩;exact((hF 0 s (by omega) hs).2 p hp).2,fun s hs=>by obtain⟨j,hj⟩:=List.mem_iff_getElem?.1 hs;exact((hF j s (by have:=(List.getElem?_eq_some_iff.1 hj).1;omega) hj).2 p hp).1⟩⟩
     have hC:=cntP_yes hP
     refine .exit<|ks_e<|kl_e<|kb_hit<|ks_n<|.r<|.c .m<|.c (.ln 43 1 24)<|.c (.fP 1 0 false)<|.c (.l1 1)<|.c (.ln 66 9 152) ?_
     refine .c (.ml rfl rfl rfl (by omega)) ?_
     refine .c .a<|.c .a<|.nn<|.ret ?_
     refine kf_wret [eN 4 (cntP ar q),eT 5 (prtV ar q)] (Wk.keep [] rfl rfl ⟨ks rfl (.dt (by first|(rw[hC];done)|(rw[hC];rfl)|(rw[hC];exact congrArg (fun z=>V.o (nat1 z)) (by rw[Int.natCast_mul])))),ks rfl (.dt (by rw[hP])),trivial⟩) rfl ?_ nobox
     rfl
theorem specPV_fn {g:Prg} (hs:szG g≤1073741824):Fn Tryz.prog 20 [] [ad (rG g)] (.o (bo1 (prgV g))) []:=by
 have h1:=szO_len (f:=szR) g.1
 have h2:=szO_len (f:=szPt) g.2
 have hsz:szG g=szO szR g.1+szO szPt g.2:=rfl
 refine Fn.code0 Tryz.func20 rfl rfl rfl rfl ?_
 refine .r<|.c .bp<|.c .a<|.nn<|.seq<|.r<|.c (.fP 0 0 false)<|.c (.l1 1) ?_
 refine .c (.cP [.tmp 8] rfl rfl rfl rfl (l4Arrays_fn g.1 (by omega) (fun x hx=>by have:=szO_mem (f:=szR) hx;have e:szR x=x.1.size+x.2.length:=rfl;omega)) rfl) ?_
 refine .c .nt<|.c .m ?_
 refine AOps.cases 11 _ rfl (fun g11=>?_) (fun g11=>?_)
 ·try simp only[zs]at g11
  refine .c .f<|.c .f<|.c .f<|.c .f<|.c .pT<|.nn ?_
  refine .k1 ?_
  refine .seq ?_
  obtain⟨hO,hN⟩:=prgV_f (g:=g) (by first|exact prgS_f2 (show ¬g.2.length≤4 by omega)|exact prgS_f1 (by assumption))
  refine .region<|.c .a<|.nn<|.ret<|ks_r ?_
  refine kf_ret rfl ?_ nobox
  exact leafB (by rw[hO];try (rw[decide_eq_decide];omega))
 ·try simp only[zs]at g11
  refine .c (.g (.fP 1 0 false))<|.c (.g (.l1 1))<|.c (.g (.ln 80 2 48))<|.c (.g .gt)<|.c .pF<|.nn ?_
  refine ACode.condT rfl (fun h16=>?_) (fun h16=>?_)
  ·try simp only[zs]at h16
   refine .seq ?_
   obtain⟨hO,hN⟩:=prgV_f (g:=g) (by first|exact prgS_f2 (show ¬g.2.length≤4 by omega)|exact prgS_f1 (by assumption))
   refine .region<|.c .a<|.nn<|.ret<|ks_r ?_
   refine kf_ret rfl ?_ nobox
   exact leafB (by rw[hO];try (rw[decide_eq_decide];omega))
  ·try simp only[zs]at h16
   have hA:arrsV g.1=true:=by first|assumption|simp_all
   have h4:g.2.length≤4:=by omega
   refine .skip<|ks_n<|.r<|.c .a<|.nn<|.seq<|.r<|.c .a<|.nn<|.block ?_
   refine .loopK (fun m σ=>(∃(k:Nat) (t:Int),m=g.2.length -k∧(k≤g.2.length)∧(∀j q,j<k→g.2[j]?=some q→prtV g.1 q=true)∧(t=((insG 0 (g.2.take k)).length:Nat))∧(0≤t∧t≤480 *k)∧σ=[eP 1 (rG g),eT 2 false,eN 3 t,eN 4 (k:Nat)])) [] ⟨0,0,rfl,by omega,fun j q hj _=>absurd hj (by omega),rfl,by omega,rfl⟩ ⟨kd,kd,kd,kd,trivial⟩ ?_
   rintro m σ ⟨k,t,hm0,hk,hF,hT,hb,rfl⟩
   refine .seq<|.r<|.c .m<|.c (.fP 1 0 false)<|.c (.l1 1)<|.c (.ln 80 2 48)<|.c .ls<|.nn ?_
   refine .cD rfl (fun h21=>?_) (fun h21=>?_)
   ·skip
    obtain⟨q,hq1⟩:∃x_,g.2[k]?=some x_:=⟨_,List.getElem?_eq_getElem (by omega)⟩
    have hqm:=List.mem_of_getElem? hq1
    have hqs:=szO_mem (f:=szPt) hqm
    refine .skip<|ks_n<|.seq<|.block<|.seq ?_
    refine ACode.drawK (by kernel_rfl) (by kernel_rfl) ?_
    refine .c (.fP 0 0 false)<|.c (.l1 1)<|.c (.fP 1 0 false)<|.c (.l1 1)<|.c .m<|.c (.xL 80 2 48) ?_
    refine .c (.lN 2) ?_
    refine .c (.cP [.tmp 26,.tmp 31] rfl rfl rfl rfl (l4Part_fn hA (by omega)) rfl) ?_
    refine .c .m<|.c .ex<|.c .ex<|.c .a<|.c .a ?_
    refine .nil ⟨by kernel_rfl,?_⟩
    refine ks_n<|.seq<|.r<|.c .m<|.c .nt<|.nn ?_
    refine ACode.condT rfl (fun h36=>?_) (fun h36=>?_)
    ·try simp only[zs]at h36
     refine .seq ?_
     obtain⟨hO,hN⟩:=prgV_f (prgS_f3 hqm (by assumption))
     refine .region<|.c .a<|.nn<|.ret<|ks_r<|kb_r<|ks_r<|kl_r<|kb_r<|ks_r ?_
     refine kf_ret rfl ?_ nobox
     exact leafB (by rw[hO];try (rw[decide_eq_decide];omega))
    ·try simp only[zs]at h36
     have hPV:prtV g.1 q=true:=by assumption
     have hcl:=cntP_len hPV k
     refine .skip<|ks_n<|.region<|.c .m<|.c .m<|.c .pl<|.c .a<|.nil<|kb_n<|ks_n<|.region<|.c .m<|.c .pl<|.c .a<|.nil ?_
     refine kl_k [] ⟨k+1,t+cntP g.1 q,rfl,by omega,fun j q' hj h'=>(Nat.lt_succ_iff_lt_or_eq.1 hj).elim (fun h=>hF j q' h h') (fun h=>by subst h;rw[hq1]at h';cases h';exact hPV),by rw[insG_take hq1,List.length_append,hT,hcl.1];omega,by omega,rfl⟩ ⟨kd,kd,kd,kd,trivial⟩
   ·skip
    obtain rfl:k=g.2.length:=by omega
    rw[List.take_length]at hT
    obtain⟨hO,hN⟩:=prgV_t (prgS_eq hA h4 hF)
    refine .exit<|ks_e<|kl_e<|kb_hit<|ks_n<|.r<|.c .m<|.c .le<|.c .a<|.nn<|.ret ?_
    refine kf_ret rfl ?_ nobox
    exact leafB (by rw[hO];try (rw[decide_eq_decide];omega))
theorem l4Instances_fn {g:Prg} (hg:prgS g=true):Fn Tryz.prog 42 [] [ad (rG g)] (.o (vD (dNs (insG 0 g.2)))) []:=by
  obtain⟨hA,h4,hP⟩:=prgS_iff.1 hg
  refine Fn.code0 Tryz.func42 rfl rfl rfl rfl ?_
  refine .r<|.c .bp<|.c .a<|.r ?_
  refine .c (St1.lit0 (k':=108) (e:=56) (sz:=3) (b:=true) rfl rfl rfl rfl (by kernel_rfl) rfl rfl) ?_
  refine .c .a<|.nn<|.seq<|.r<|.c .a<|.nn<|.block ?_
  refine .loopK (fun m σ=>(∃(k:Nat) (o:List Ins),m=g.2.length -k∧(k≤g.2.length)∧(insG 0 (g.2.take k)=o)∧(o.length≤480 *k)∧σ=[eP 1 (rG g),(.t 3,.v (.o (.c (.own 110 3 (o.length))))),eN 4 (k:Nat),(.b 110,.b 56 3 (dR (o.map rN))),eU 110])) [(110,108)] ⟨0,[],rfl,by omega,rfl,by simp,rfl⟩ ⟨kd,kW,kd,kb 108 rfl (.dt rfl (by first|rfl|(simp[dR,rN,dI];done)|(simp[dR,rN,dI];rfl))),trivial⟩ ?_
  rintro m σ ⟨k,o,hm0,hk,hE,ho,rfl⟩
  refine .seq<|.r<|.c .m<|.c (.fP 1 0 false)<|.c (.l1 1)<|.c (.ln 80 2 48)<|.c .ls<|.nn ?_
  refine .cD rfl (fun h13=>?_) (fun h13=>?_)
  · skip
    obtain⟨q,hq1⟩:∃x_,g.2[k]?=some x_:=⟨_,List.getElem?_eq_getElem (by omega)⟩
    have hqm:=List.mem_of_getElem? hq1
    have hqv:=prtV_iff.1 (hP q hqm)
    have hnp:=np_pts hqv.1
    have hnl:=npR_len q.1
    have hq4:=hqv.2.1
    refine .skip<|ks_n<|.seq<|.block<|.r<|.c (St1.lit0 (k':=116) (e:=43) (sz:=1) (b:=true) rfl rfl rfl rfl (by kernel_rfl) rfl rfl) ?_
    refine .c (.fP 1 0 false)<|.c (.l1 1)<|.c .m<|.c (.xL 80 2 48) ?_
    refine .c (.fP 0 0 false)<|.c (.l1 1) ?_
    refine .c (.cO [.tmp 16,.tmp 22,.const (.slice none 0 0)] [(0,116),(1000,123)] rfl rfl rfl rfl (Fn.nilArg (pre:=[.c (.own 0 1 0),vD (dLs q.1)]) (post:=[]) (sz:=1) (l2Points_fn hnp.1 q.1 [] [] rfl (by simp) PB.nil (by simp))) rfl (hbIn_one rfl) (hbPt_flat _ _) (hbPt_flat _ _) (hbPt_HB _ _) outS_one) ?_
    refine .c .a<|.r<|.c .a<|.nn<|.block ?_
    refine .loopK (fun m σ=>(∃(i:Nat) (o2:List Ins),m=(npR q.1).length -i∧(i≤(npR q.1).length)∧(o++insT k q.2.length ((npR q.1).take i)=o2)∧(o2.length≤480 *k+4 *i)∧σ=[eP 1 (rG g),(.t 3,.v (.o (.c (.own 120 3 (o2.length))))),eN 4 (k:Nat),eD 5 (dPs (npR q.1)),eN 6 (i:Nat),(.b 120,.b 56 3 (dR (o2.map rN))),eU 120])) [(120,110)] ⟨0,o,rfl,by omega,by simp[insT],by omega,rfl⟩ ⟨kd,kW,kd,ks rfl (.c (.fz rfl (by first|(rw[hnp.2];done)|(rw[hnp.2];rfl)) (by rw[hnp.2,List.length_map]) (by rw[←hnp.2];omega))),kd,kb 110 rfl (.dt rfl (by first|rfl|(simp[dR,rN,dI];done)|(simp[dR,rN,dI];rfl))),trivial⟩ ?_
    rintro m σ ⟨i,o2,hm0,hi,hEo,ho2,rfl⟩
    refine .seq<|.r<|.c .m<|.c .m<|.c (.ln 43 1 24)<|.c .ls<|.nn ?_
    refine .cD rfl (fun h27=>?_) (fun h27=>?_)
    · skip
      obtain⟨p,hp1⟩:∃x_,(npR q.1)[i]?=some x_:=⟨_,List.getElem?_eq_getElem (by omega)⟩
      have hpt:=npR_pt (List.mem_of_getElem? hp1)
      refine .skip<|ks_n<|.seq<|.block<|.r<|.c .a<|.nn<|.block ?_
      refine .loopK (fun m σ=>(∃(j:Nat) (o3:List Ins),m=q.2.length -j∧(j≤q.2.length)∧(o2++rowI k j p=o3)∧(o3.length≤480 *k+4 *i+j)∧σ=[eP 1 (rG g),(.t 3,.v (.o (.c (.own 130 3 (o3.length))))),eN 4 (k:Nat),eD 5 (dPs (npR q.1)),eN 6 (i:Nat),eN 7 (j:Nat),(.b 130,.b 56 3 (dR (o3.map rN))),eU 130])) [(130,120)] ⟨0,o2,rfl,by omega,by simp[rowI_zero],by omega,rfl⟩ ⟨kd,kW,kd,kd,kd,kd,kb 120 rfl (.dt rfl (by first|rfl|(simp[dR,rN,dI];done)|(simp[dR,rN,dI];rfl))),trivial⟩ ?_
      rintro m σ ⟨j,o3,hm0,hj,hEp,ho3,rfl⟩
      refine .seq<|.r<|.c .m<|.c (.fP 1 0 false)<|.c (.l1 1)<|.c .m<|.c (.xL 80 2 48) ?_
      refine .c (.fP 1 0 false)<|.c (.l1 1)<|.c (.ln 66 9 152)<|.c .ls<|.nn ?_
      refine .cD rfl (fun h38=>?_) (fun h38=>?_)
      · skip
        refine .skip<|ks_n<|.seq<|.block<|.region<|.c .m<|.c .m<|.c .m ?_
        refine .c (St1.lit0 (k':=144) (e:=3) (sz:=1) (b:=true) rfl rfl rfl rfl (by kernel_rfl) rfl rfl) ?_
        refine .c .m<|.c .m<|.c (.xL 43 1 24) ?_
        refine .c (.l1 1) ?_
        refine .c (St1.appD (rows:=[]) (e:=3) (sz:=0) (by':=8) rfl rfl rfl rfl rfl (by kernel_rfl) rfl rfl rfl rfl (by simp) (by simp;omega) rfl) ?_
        refine .c (.bu [(0,.tmp 42),(1,.tmp 43),(2,.tmp 49)] [(0,1),(1,1),(2,1)] [.int .i64 0,.int .i64 0,.slice none 0 0])<|.c (.li 56 2 0 [.tmp 50]) ?_
        refine .c (St1.appB (k':=152) (e:=56) (sz:=2) (by':=40) rfl rfl rfl rfl rfl (by kernel_rfl) rfl rfl rfl rfl (by first|(simp[dR];done)|(simp[dR];omega)) (by first|(simp[dR];done)|(simp[dR];omega)) rfl rfl rfl) ?_
        refine .c .a<|.nil<|kb_n<|ks_n<|.region<|.c .m<|.c .pl<|.c .a<|.nil ?_
        refine kl_k [(130,152)] ⟨j+1,o3++[((k:Int),((j:Nat):Int),p)],rfl,by omega,by rw[rowI_snoc,←List.append_assoc,hEp],by rw[List.length_append,List.length_singleton];omega,rfl⟩ ⟨kd,kW,kd,kd,kd,kd,kb 152 rfl (.dt rfl (by first|rfl|(simp[dR,rN,dI];done)|(simp[dR,rN,dI];rfl))),trivial⟩
      · skip
        obtain rfl:j=q.2.length:=by omega
        refine .exit<|ks_e<|kl_e<|kb_hit<|kb_n<|ks_n<|.region<|.c .m<|.c .pl<|.c .a<|.nil ?_
        refine kl_k [(120,130)] ⟨i+1,o3,rfl,by omega,by rw[insT_take hp1,←List.append_assoc,hEo];exact hEp,by omega,rfl⟩ ⟨kd,kW,kd,kd,kd,kb 130 rfl (.dt rfl (by first|rfl|(simp[dR,rN,dI];done)|(simp[dR,rN,dI];rfl))),trivial⟩
    · skip
      obtain rfl:i=(npR q.1).length:=by omega
      rw[List.take_length]at hEo
      refine .exit<|ks_e<|kl_e<|kb_hit<|kb_n<|ks_n<|.region<|.c .m<|.c .pl<|.c .a<|.nil ?_
      refine kl_k [(110,120)] ⟨k+1,o2,rfl,by omega,by rw[insG_take hq1,hE];exact hEo,by omega,rfl⟩ ⟨kd,kW,kd,kb 120 rfl (.dt rfl (by first|rfl|(simp[dR,rN,dI];done)|(simp[dR,rN,dI];rfl))),trivial⟩
  · skip
    obtain rfl:k=g.2.length:=by omega
    rw[List.take_length]at hE
    refine .exit<|ks_e<|kl_e<|kb_hit<|ks_n<|.r<|.c .m<|.c .a<|.nn<|.ret ?_
    refine kf_wret [eD 2 (dNs (insG 0 g.2))] (Wk.keep [] rfl rfl ⟨ks rfl (.c (.fz rfl (by rw[hE]) (by rw[hE,List.length_map]) (by omega))),trivial⟩) rfl ?_ nobox
    rfl
def stI (g:Prg) (x:Ins):Stm:=match (g.2[x.1.toNat]?).bind fun q=>q.2[x.2.1.toNat]? with |some s=>s|none=>((ByteArray.empty,[]),.mk 0 0 ([],0) (ByteArray.empty,[]) [])
theorem stI_eq {g:Prg} {x:Ins} {k c:Nat} {q:Prt} {s:Stm} (h1:x.1=(k:Int)) (hq:g.2[k]?=some q) (h2:x.2.1=(c:Int)) (hs:q.2[c]?=some s):stI g x=s:=by
  rw[stI,h1,h2,Int.toNat_natCast,Int.toNat_natCast,hq,Option.bind_some,hs]
structure InsOk (g:Prg) (x:Ins) (k c:Nat) (q:Prt):Prop where
  e1:x.1=(k:Int)
  hq:g.2[k]?=some q
  e2:x.2.1=(c:Int)
  hs:q.2[c]?=some (stI g x)
  pt:x.2.2∈npR q.1
  sv:stmtV (q.1.length:Nat) (stI g x)=true
  ok:stmG g.1 (stI g x) x.2.2=true
  ip:isPt x.2.2=true
  hk:k<g.2.length
  hc:c<q.2.length
theorem ins_at {g:Prg} {x:Ins} (hg:prgS g=true) (hx:x∈insG 0 g.2):∃k c q,InsOk g x k c q:=by
  obtain⟨k,q,c,h1,h2,h3,h4,h5⟩:=insG_mem hx
  rw[Nat.zero_add]at h2
  obtain⟨s,hs⟩:∃s,q.2[c]?=some s:=⟨_,List.getElem?_eq_getElem h4⟩
  have e:=stI_eq h2 h1 h3 hs
  have hp:=prtV_iff.1 ((prgS_iff.1 hg).2.2 q (List.mem_of_getElem? h1))
  have hm:=List.mem_of_getElem? hs
  exact⟨k,c,q,h2,h1,h3,by rw[e];exact hs,h5,by rw[e];exact hp.2.2.1 s hm,by rw[e];exact(hp.2.2.2 _ h5).2 s hm,(hp.2.2.2 _ h5).1,(List.getElem?_eq_some_iff.1 h1).1,h4⟩
theorem stI_sz {g:Prg} {x:Ins} {k c:Nat} {q:Prt} (h:InsOk g x k c q):szS (stI g x)≤szG g:=by
  have h1:=szO_mem (f:=szS) (List.mem_of_getElem? h.hs)
  have h2:=szO_mem (f:=szPt) (List.mem_of_getElem? h.hq)
  have e1:szPt q=szLs q.1+szO szS q.2:=rfl
  have e2:szG g=szO szR g.1+szO szPt g.2:=rfl
  omega
theorem stmt_fn {g:Prg} {x:Ins} {k c:Nat} {q:Prt} (h:InsOk g x k c q):Fn Tryz.prog 29 [] [ad (rG g),ad (rN x)] (.o (ad (rS (stI g x)))) []:=by
 refine Fn.code0 Tryz.func29 rfl rfl rfl rfl ?_
 refine .r<|.c .bp<|.c .bp<|.c (.al 104 [.string ByteArray.empty,.slice none 0 0,.int .i64 0,.int .i64 0,.slice none 0 0,.int .i64 0,.string ByteArray.empty,.slice none 0 0,.slice none 0 0])<|.nn<|.seq ?_
 refine ACode.drawK (by kernel_rfl) (by kernel_rfl) ?_
 refine .c (.fP 1 0 false)<|.c (.l1 1)<|.c (.fP 0 0 false)<|.c (.l1 1) ?_
 refine .c (.xL 80 2 48 (i:=k) rfl rfl rfl rfl h.e1 (map_at h.hq)) ?_
 refine .c (.fP 1 0 false)<|.c (.l1 1)<|.c (.fP 1 0 false)<|.c (.l1 1) ?_
 refine .c (.xL 66 9 152 (i:=c) rfl rfl rfl rfl h.e2 (map_at h.hs)) ?_
 refine .c (.lN 9)<|.c (.sT 9 true) ?_
 refine .nil ⟨by kernel_rfl,?_⟩
 refine ks_n<|.ret ?_
 refine kf_ret rfl ?_ nobox
 rfl
theorem insG_len {g:Prg} (h:prgS g=true):(insG 0 g.2).length≤1920:=by
  obtain⟨_,h4,hP⟩:=prgS_iff.1 h
  have key:∀(l:List Prt) (n:Nat),(∀q∈l,prtV g.1 q=true)→(insG n l).length≤480 *l.length:=by
    intro l
    induction l with
    |nil=>intro n _;simp[insG]
    |cons q l ih=>
      intro n hq
      have h1:=(cntP_len (hq q (by simp)) n).2
      have h2:=ih (n+1) fun q' h'=>hq q' (by simp[h'])
      rw[insG,List.length_append,List.length_cons];omega
  have:=key g.2 0 hP
  omega
theorem FD.sub {U U' L:Nat→Prop} {n:Nat} {F:Nat→Nat→Nat→Prop} (h:FD U L n F) (hs:∀b,U' b→U b):FD U' L n F:=⟨h.dis,fun a c b ha hc h1 h2=>h.out a c b ha hc h1 (hs b h2)⟩
theorem l4Copy_fn (g:Prg) (h1:g.1.length≤1073741824) (h2:g.2.length≤1073741824) (hA:∀x∈g.1,x.2.length≤1073741824) (hP:∀x∈g.2,smN x.1∧x.2.length≤1073741824∧∀y∈x.2,szS y≤1073741824):Fn Tryz.prog 21 [] [ad (rG g)] (.o (ad (rG g))) []:=by
 refine Fn.code0 Tryz.func21 rfl rfl rfl rfl ?_
 refine .r<|.c .bp<|.c (.al 102 [.slice none 0 0,.slice none 0 0])<|.r<|.c (.bu [] [(0,1),(1,1)] [.slice none 0 0,.slice none 0 0])<|.c (.al 103 [.slice none 0 0,.slice none 0 0])<|.c (.sT 2 true)<|.nn<|.seq<|.r<|.c .a<|.nn<|.block ?_
 refine .loopK (fun m σ=>(∃i:Nat,m=g.1.length -i∧(i=0)∧σ=[eP 1 (rG g),eB 2 110 2,eB 3 111 2,eN 4 (i:Nat),(.b 110,.b 30 2 [[nl,nl]]),eU 110,(.b 111,.b 30 2 [[nl,nl]]),eU 111])∨(∃i:Nat,m=g.1.length -i∧(1≤i)∧(i≤g.1.length)∧σ=[eP 1 (rG g),eB 2 110 2,eB 3 111 2,eN 4 (i:Nat),(.b 110,.b 30 2 [[nl,nl]]),eU 110,(.b 112,.b 45 2 (dR ((g.1.take i).map rR))),eU 112,(.b 111,.b 30 2 [[.own 112 2 (i),nl]]),eU 111])) [(110,102),(111,103)] (.inl ⟨0,rfl,rfl,rfl⟩) ⟨kd,kX,kX,kd,kb 102 rfl (.r2 .dt .dt),kb 103 rfl (.r2 .dt .dt),trivial⟩ ?_
 rintro m σ (⟨i,hm0,rfl,rfl⟩|⟨i,hm0,hi1,hi2,rfl⟩)
 ·skip
  refine .seq<|.r<|.c .m<|.c (.fP 0 0 false)<|.c (.l1 1)<|.c (.ln 45 2 40)<|.c .ls<|.nn ?_
  refine .cD rfl (fun h13=>?_) (fun h13=>?_)
  ·skip
   obtain⟨x,hx1⟩:∃u,g.1[0]?=some u:=⟨_,List.getElem?_eq_getElem (by omega)⟩
   have hxb:=hA _ (List.mem_of_getElem? hx1)
   refine .skip<|ks_n<|.seq<|.block ?_
   refine ACode.drawK (by kernel_rfl) (by kernel_rfl) ?_
   refine .c (.fB 0 0 false)<|.c (.b1 1)<|.c (.fP 0 0 false)<|.c (.l1 1)<|.c .m ?_
   refine .c (.xL 45 2 40 rfl rfl rfl rfl rfl (map_at hx1)) ?_
   refine .c (.fP 0 0 false)<|.c (.l1 1) ?_
   refine .c (St1.lit0 (k':=124) (e:=3) (sz:=1) (b:=true) rfl rfl rfl rfl (by kernel_rfl) rfl rfl) ?_
   refine .c (.fP 0 0 false)<|.c (.l1 1)<|.c .m ?_
   refine .c (.xL 45 2 40 rfl rfl rfl rfl rfl (map_at hx1)) ?_
   refine .c (.fP 1 0 false)<|.c (.l1 1) ?_
   refine .c (St1.appD (rows:=[]) (e:=3) (sz:=0) (by':=8) rfl rfl rfl rfl rfl (by kernel_rfl) rfl rfl rfl rfl rfl (by simp;omega) rfl) ?_
   refine .c (.bu [(0,.tmp 23),(1,.tmp 31)] [(0,1),(1,1)] [.string ByteArray.empty,.slice none 0 0])<|.c (.li 45 1 0 [.tmp 32]) ?_
   refine .c (St1.appN (k':=134) (e:=45) (sz:=1) (by':=40) rfl rfl rfl rfl rfl (by kernel_rfl) rfl rfl rfl (by simp) (by first|(simp[dR];done)|(simp[dR];omega)) rfl rfl) ?_
   refine .c (.fB 0 0 false)<|.c (.sT 1 false) ?_
   refine .nil ⟨by kernel_rfl,?_⟩
   refine kb_n<|ks_n<|.region<|.c .m<|.c .pl<|.c .a<|.nil ?_
   refine kl_k [(110,110),(111,111),(112,134)] (.inr ⟨1,rfl,by omega,by omega,rfl⟩) ⟨kd,kX,kX,kd,kb 110 rfl (.r2 .dt .dt),kb 134 rfl (.dt rfl (by first|exact dR_take (rR) hx1|exact dR_take1 (rR) hx1|rfl|(simp[dR];done))),kb 111 rfl (.r2 .ow .dt),trivial⟩
  ·skip
   have hnA:g.1=[]:=List.eq_nil_of_length_eq_zero (by omega)
   refine .exit<|ks_e<|kl_e<|kb_hit<|ks_n<|.seq<|.seq ?_
   refine .keep [eP 1 (rG g),eB 2 760 2,eB 3 761 2,(.b 760,.b 30 2 [[nl,nl]]),eU 760,(.b 761,.b 30 2 [[.d (dRs g.1),nl]]),eU 761] [(760,110),(761,111)] ⟨kd,kX,kX,kb 110 rfl (.r2 .dt .dt),kb 111 rfl (.r2 (Cto.nilE 2 (by rw[hnA];rfl)) .dt),trivial⟩ ?_
   refine .region<|.c .a<|.nn<|.block ?_
   refine .loopK (fun m σ=>(∃j:Nat,m=g.2.length -j∧(j=0)∧σ=[eP 1 (rG g),eB 2 120 2,eB 3 121 2,eN 5 (j:Nat),(.b 120,.b 30 2 [[nl,nl]]),eU 120,(.b 121,.b 30 2 [[.d (dRs g.1),nl]]),eU 121])∨(∃j:Nat,m=g.2.length -j∧(1≤j)∧(j≤g.2.length)∧σ=[eP 1 (rG g),eB 2 120 2,eB 3 121 2,eN 5 (j:Nat),(.b 120,.b 30 2 [[nl,nl]]),eU 120,(.b 122,.b 80 2 (dR ((g.2.take j).map rP))),eU 122,(.b 121,.b 30 2 [[.d (dRs g.1),.own 122 2 (j)]]),eU 121])) [(120,760),(121,761)] (.inl ⟨0,rfl,rfl,rfl⟩) ⟨kd,kX,kX,kd,kb 760 rfl (.r2 .dt .dt),kb 761 rfl (.r2 .dt .dt),trivial⟩ ?_
   rintro m σ (⟨j,hm0,rfl,rfl⟩|⟨j,hm0,hj1,hj2,rfl⟩)
   ·skip
    refine .seq<|.r<|.c .m<|.c (.fP 1 0 false)<|.c (.l1 1)<|.c (.ln 80 2 48)<|.c .ls<|.nn ?_
    refine .cD rfl (fun h40=>?_) (fun h40=>?_)
    ·skip
     obtain⟨x,hx1⟩:∃u,g.2[0]?=some u:=⟨_,List.getElem?_eq_getElem (by omega)⟩
     obtain⟨hsm,hpb,hps⟩:=hP _ (List.mem_of_getElem? hx1)
     have hsl:=hsm.1
     refine .skip<|ks_n<|.seq<|.block<|.r<|.c (.fP 1 0 false)<|.c (.l1 1)<|.c .m ?_
     refine .c (.xL 80 2 48 rfl rfl rfl rfl rfl (map_at hx1)) ?_
     refine .c (.fP 0 0 false)<|.c (.l1 1) ?_
     refine .c (.cO [.tmp 48] [(100,149)] rfl rfl rfl rfl (l2Copy_own (hP x (List.mem_of_getElem? hx1)).1) rfl trivial flatS.nil (flatS.nil.cons rfl) HB.nil.data outS_one) ?_
     refine .c (.bu [(0,.tmp 49)] [(0,1),(1,1)] [.slice none 0 0,.slice none 0 0])<|.c (.al 106 [.slice none 0 0,.slice none 0 0])<|.c (.sT 2 true)<|.nn<|.seq<|.r<|.c .a<|.nn<|.block ?_
     refine .loopK (fun m σ=>(∃k:Nat,m=x.2.length -k∧(k=0)∧σ=[eP 1 (rG g),eB 2 130 2,eB 3 131 2,eN 5 (0:Nat),eB 6 132 2,eN 7 (k:Nat),(.b 130,.b 30 2 [[nl,nl]]),eU 130,(.b 131,.b 30 2 [[.d (dRs g.1),nl]]),eU 131,(.b 133,.b 148 2 (dR (x.1.map rL))),eU 133,(.b 132,.b 80 2 [[.own 133 2 (x.1.length),nl]]),eU 132])∨(∃k:Nat,m=x.2.length -k∧(1≤k)∧(k≤x.2.length)∧σ=[eP 1 (rG g),eB 2 130 2,eB 3 131 2,eN 5 (0:Nat),eB 6 132 2,eN 7 (k:Nat),(.b 130,.b 30 2 [[nl,nl]]),eU 130,(.b 131,.b 30 2 [[.d (dRs g.1),nl]]),eU 131,(.b 133,.b 148 2 (dR (x.1.map rL))),eU 133,(.b 134,.b 66 9 (dR ((x.2.take k).map rS))),eU 134,(.b 132,.b 80 2 [[.own 133 2 (x.1.length),.own 134 9 (k)]]),eU 132])) [(130,120),(131,121),(132,106),(133,149)] (.inl ⟨0,rfl,rfl,rfl⟩) ⟨kd,kX,kX,kd,kX,kd,kb 120 rfl (.r2 .dt .dt),kb 121 rfl (.r2 .dt .dt),kb 149 rfl (.dt rfl),kb 106 rfl (.r2 .ow .dt),trivial⟩ ?_
     rintro m σ (⟨k,hm0,rfl,rfl⟩|⟨k,hm0,hk1,hk2,rfl⟩)
     ·skip
      refine .seq<|.r<|.c .m<|.c (.fP 1 0 false)<|.c (.l1 1)<|.c .m ?_
      refine .c (.xL 80 2 48 rfl rfl rfl rfl rfl (map_at hx1)) ?_
      refine .c (.fP 1 0 false)<|.c (.l1 1)<|.c (.ln 66 9 152)<|.c .ls<|.nn ?_
      refine .cD rfl (fun h59=>?_) (fun h59=>?_)
      ·skip
       obtain⟨y,hy1⟩:∃u,x.2[0]?=some u:=⟨_,List.getElem?_eq_getElem (by omega)⟩
       refine .skip<|ks_n<|.seq<|.block ?_
       refine ACode.drawK (by kernel_rfl) (by kernel_rfl) ?_
       refine .c (.fB 1 0 false)<|.c (.b1 1)<|.c (.fP 1 0 false)<|.c (.l1 1)<|.c .m ?_
       refine .c (.xL 80 2 48 rfl rfl rfl rfl rfl (map_at hx1)) ?_
       refine .c (.fP 1 0 false)<|.c (.l1 1)<|.c .m ?_
       refine .c (.xL 66 9 152 rfl rfl rfl rfl rfl (map_at hy1)) ?_
       refine .c (.lN 9) ?_
       refine .c (.cP [.tmp 72] rfl rfl rfl rfl (l3Copy_fn y ((hP x (List.mem_of_getElem? hx1)).2.2 y (List.mem_of_getElem? hy1))) rfl) ?_
       refine .c (.li 66 8 0 [.tmp 73]) ?_
       refine .c (St1.appN (k':=175) (e:=66) (sz:=8) (by':=152) rfl rfl rfl rfl rfl (by kernel_rfl) rfl rfl rfl (by simp) (by first|(simp[dR];done)|(simp[dR];omega)) rfl rfl) ?_
       refine .c (.fB 1 0 false)<|.c (.sT 1 false) ?_
       refine .nil ⟨by kernel_rfl,?_⟩
       refine kb_n<|ks_n<|.region<|.c .m<|.c .pl<|.c .a<|.nil ?_
       refine kl_k [(130,130),(131,131),(132,132),(133,133),(134,175)] (.inr ⟨1,rfl,by omega,by omega,rfl⟩) ⟨kd,kX,kX,kd,kX,kd,kb 130 rfl (.r2 .dt .dt),kb 131 rfl (.r2 .dt .dt),kb 133 rfl (.dt rfl),kb 175 rfl (.dt rfl (by first|exact dR_take (rS) hy1|exact dR_take1 (rS) hy1|rfl|(simp[dR];done))),kb 132 rfl (.r2 .ow .ow),trivial⟩
      ·skip
       have hnS:x.2=[]:=List.eq_nil_of_length_eq_zero (by omega)
       refine .exit<|ks_e<|kl_e<|kb_hit<|ks_n ?_
       refine .keep [eP 1 (rG g),eB 2 840 2,eB 3 841 2,eN 5 (0:Nat),eB 6 842 2,(.b 840,.b 30 2 [[nl,nl]]),eU 840,(.b 841,.b 30 2 [[.d (dRs g.1),nl]]),eU 841,(.b 842,.b 80 2 [[.d (dLs x.1),.d (dMs x.2)]]),eU 842] [(840,130),(841,131),(842,132)] ⟨kd,kX,kX,kd,kX,kb 130 rfl (.r2 .dt .dt),kb 131 rfl (.r2 .dt .dt),kb 132 rfl (.r2 (.fz rfl (by first|rfl|(rw[List.take_length];done)|(rw[List.take_length];rfl)) (by first|rfl|(simp;done)|(simp;omega)) (by omega)) (Cto.nilE 9 (by rw[hnS];rfl))),trivial⟩ ?_
       refine .region<|.c (.fB 1 0 false)<|.c (.b1 1)<|.c (.bN 2)<|.c (.li 80 1 0 [.tmp 79]) ?_
       refine .c (St1.appN (k':=181) (e:=80) (sz:=1) (by':=48) rfl rfl rfl rfl rfl (by kernel_rfl) rfl rfl rfl (by simp) (by first|(simp[dR];done)|(simp[dR];omega)) rfl rfl) ?_
       refine .c (.fB 1 0 false)<|.c (.sT 1 false)<|.nil<|kb_n<|ks_n<|.region<|.c .m<|.c .pl<|.c .a<|.nil ?_
       refine kl_k [(120,840),(121,841),(122,181)] (.inr ⟨1,rfl,by omega,by omega,rfl⟩) ⟨kd,kX,kX,kd,kb 840 rfl (.r2 .dt .dt),kb 181 rfl (.dt rfl (by first|exact dR_take (rP) hx1|exact dR_take1 (rP) hx1|rfl|(simp[dR];done))),kb 841 rfl (.r2 .dt .ow),trivial⟩
     ·skip
      refine .seq<|.r<|.c .m<|.c (.fP 1 0 false)<|.c (.l1 1)<|.c .m ?_
      refine .c (.xL 80 2 48 rfl rfl rfl rfl rfl (map_at hx1)) ?_
      refine .c (.fP 1 0 false)<|.c (.l1 1)<|.c (.ln 66 9 152)<|.c .ls<|.nn ?_
      refine .cD rfl (fun h59=>?_) (fun h59=>?_)
      ·skip
       obtain⟨y,hy1⟩:∃u,x.2[k]?=some u:=⟨_,List.getElem?_eq_getElem (by omega)⟩
       refine .skip<|ks_n<|.seq<|.block ?_
       refine ACode.drawK (by kernel_rfl) (by kernel_rfl) ?_
       refine .c (.fB 1 0 false)<|.c (.b1 1)<|.c (.fP 1 0 false)<|.c (.l1 1)<|.c .m ?_
       refine .c (.xL 80 2 48 rfl rfl rfl rfl rfl (map_at hx1)) ?_
       refine .c (.fP 1 0 false)<|.c (.l1 1)<|.c .m ?_
       refine .c (.xL 66 9 152 rfl rfl rfl rfl rfl (map_at hy1)) ?_
       refine .c (.lN 9) ?_
       refine .c (.cP [.tmp 72] rfl rfl rfl rfl (l3Copy_fn y ((hP x (List.mem_of_getElem? hx1)).2.2 y (List.mem_of_getElem? hy1))) rfl) ?_
       refine .c (.li 66 8 0 [.tmp 73]) ?_
       refine .c (St1.appB (k':=175) (e:=66) (sz:=8) (by':=152) rfl rfl rfl rfl rfl (by kernel_rfl) rfl rfl rfl rfl (by first|(simp[dR];done)|(simp[dR];omega)) (by first|(simp[dR];done)|(simp[dR];omega)) rfl rfl rfl) ?_
       refine .c (.fB 1 0 false)<|.c (.sT 1 false) ?_
       refine .nil ⟨by kernel_rfl,?_⟩
       refine kb_n<|ks_n<|.region<|.c .m<|.c .pl<|.c .a<|.nil ?_
       refine kl_k [(130,130),(131,131),(132,132),(133,133),(134,175)] (.inr ⟨k+1,rfl,by omega,by omega,rfl⟩) ⟨kd,kX,kX,kd,kX,kd,kb 130 rfl (.r2 .dt .dt),kb 131 rfl (.r2 .dt .dt),kb 133 rfl (.dt rfl),kb 175 rfl (.dt rfl (by first|exact dR_take (rS) hy1|exact dR_take1 (rS) hy1|rfl|(simp[dR];done))),kb 132 rfl (.r2 .ow .ow),trivial⟩
      ·skip
       obtain rfl:k=x.2.length:=by omega
       refine .exit<|ks_e<|kl_e<|kb_hit<|ks_n ?_
       refine .keep [eP 1 (rG g),eB 2 840 2,eB 3 841 2,eN 5 (0:Nat),eB 6 842 2,(.b 840,.b 30 2 [[nl,nl]]),eU 840,(.b 841,.b 30 2 [[.d (dRs g.1),nl]]),eU 841,(.b 842,.b 80 2 [[.d (dLs x.1),.d (dMs x.2)]]),eU 842] [(840,130),(841,131),(842,132)] ⟨kd,kX,kX,kd,kX,kb 130 rfl (.r2 .dt .dt),kb 131 rfl (.r2 .dt .dt),kb 132 rfl (.r2 (.fz rfl (by first|rfl|(rw[List.take_length];done)|(rw[List.take_length];rfl)) (by first|rfl|(simp;done)|(simp;omega)) (by omega)) (.fz rfl (by first|rfl|(rw[List.take_length];done)|(rw[List.take_length];rfl)) (by first|rfl|(simp;done)|(simp;omega)) (by omega))),trivial⟩ ?_
       refine .region<|.c (.fB 1 0 false)<|.c (.b1 1)<|.c (.bN 2)<|.c (.li 80 1 0 [.tmp 79]) ?_
       refine .c (St1.appN (k':=181) (e:=80) (sz:=1) (by':=48) rfl rfl rfl rfl rfl (by kernel_rfl) rfl rfl rfl (by simp) (by first|(simp[dR];done)|(simp[dR];omega)) rfl rfl) ?_
       refine .c (.fB 1 0 false)<|.c (.sT 1 false)<|.nil<|kb_n<|ks_n<|.region<|.c .m<|.c .pl<|.c .a<|.nil ?_
       refine kl_k [(120,840),(121,841),(122,181)] (.inr ⟨1,rfl,by omega,by omega,rfl⟩) ⟨kd,kX,kX,kd,kb 840 rfl (.r2 .dt .dt),kb 181 rfl (.dt rfl (by first|exact dR_take (rP) hx1|exact dR_take1 (rP) hx1|rfl|(simp[dR];done))),kb 841 rfl (.r2 .dt .ow),trivial⟩
    ·skip
     have hnP:g.2=[]:=List.eq_nil_of_length_eq_zero (by omega)
     refine .exit<|ks_e<|kl_e<|kb_hit<|ks_n<|.r<|.c (.bN 2)<|.c (.sT 2 true)<|.nn<|.ret ?_
     refine kf_wret [eB 2 100 2,(.b 100,.b 30 2 [[.d (dRs g.1),.d (dPts g.2)]]),eU 100] (Wk.keep [(100,120)] rfl rfl ⟨kX,kb 120 rfl (.r2 .dt (Cto.nilE 2 (by rw[hnP];rfl))),trivial⟩) rfl ?_ nobox
     rfl
   ·skip
    refine .seq<|.r<|.c .m<|.c (.fP 1 0 false)<|.c (.l1 1)<|.c (.ln 80 2 48)<|.c .ls<|.nn ?_
    refine .cD rfl (fun h40=>?_) (fun h40=>?_)
    ·skip
     obtain⟨x,hx1⟩:∃u,g.2[j]?=some u:=⟨_,List.getElem?_eq_getElem (by omega)⟩
     obtain⟨hsm,hpb,hps⟩:=hP _ (List.mem_of_getElem? hx1)
     have hsl:=hsm.1
     refine .skip<|ks_n<|.seq<|.block<|.r<|.c (.fP 1 0 false)<|.c (.l1 1)<|.c .m ?_
     refine .c (.xL 80 2 48 rfl rfl rfl rfl rfl (map_at hx1)) ?_
     refine .c (.fP 0 0 false)<|.c (.l1 1) ?_
     refine .c (.cO [.tmp 48] [(100,149)] rfl rfl rfl rfl (l2Copy_own (hP x (List.mem_of_getElem? hx1)).1) rfl trivial flatS.nil (flatS.nil.cons rfl) HB.nil.data outS_one) ?_
     refine .c (.bu [(0,.tmp 49)] [(0,1),(1,1)] [.slice none 0 0,.slice none 0 0])<|.c (.al 106 [.slice none 0 0,.slice none 0 0])<|.c (.sT 2 true)<|.nn<|.seq<|.r<|.c .a<|.nn<|.block ?_
     refine .loopK (fun m σ=>(∃k:Nat,m=x.2.length -k∧(k=0)∧σ=[eP 1 (rG g),eB 2 130 2,eB 3 131 2,eN 5 (j:Nat),eB 6 133 2,eN 7 (k:Nat),(.b 130,.b 30 2 [[nl,nl]]),eU 130,(.b 132,.b 80 2 (dR ((g.2.take j).map rP))),eU 132,(.b 131,.b 30 2 [[.d (dRs g.1),.own 132 2 (j)]]),eU 131,(.b 134,.b 148 2 (dR (x.1.map rL))),eU 134,(.b 133,.b 80 2 [[.own 134 2 (x.1.length),nl]]),eU 133])∨(∃k:Nat,m=x.2.length -k∧(1≤k)∧(k≤x.2.length)∧σ=[eP 1 (rG g),eB 2 130 2,eB 3 131 2,eN 5 (j:Nat),eB 6 133 2,eN 7 (k:Nat),(.b 130,.b 30 2 [[nl,nl]]),eU 130,(.b 132,.b 80 2 (dR ((g.2.take j).map rP))),eU 132,(.b 131,.b 30 2 [[.d (dRs g.1),.own 132 2 (j)]]),eU 131,(.b 134,.b 148 2 (dR (x.1.map rL))),eU 134,(.b 135,.b 66 9 (dR ((x.2.take k).map rS))),eU 135,(.b 133,.b 80 2 [[.own 134 2 (x.1.length),.own 135 9 (k)]]),eU 133])) [(130,120),(131,121),(132,122),(133,106),(134,149)] (.inl ⟨0,rfl,rfl,rfl⟩) ⟨kd,kX,kX,kd,kX,kd,kb 120 rfl (.r2 .dt .dt),kb 122 rfl (.dt rfl),kb 121 rfl (.r2 .dt .ow),kb 149 rfl (.dt rfl),kb 106 rfl (.r2 .ow .dt),trivial⟩ ?_
     rintro m σ (⟨k,hm0,rfl,rfl⟩|⟨k,hm0,hk1,hk2,rfl⟩)
     ·skip
      refine .seq<|.r<|.c .m<|.c (.fP 1 0 false)<|.c (.l1 1)<|.c .m ?_
      refine .c (.xL 80 2 48 rfl rfl rfl rfl rfl (map_at hx1)) ?_
      refine .c (.fP 1 0 false)<|.c (.l1 1)<|.c (.ln 66 9 152)<|.c .ls<|.nn ?_
      refine .cD rfl (fun h59=>?_) (fun h59=>?_)
      ·skip
       obtain⟨y,hy1⟩:∃u,x.2[0]?=some u:=⟨_,List.getElem?_eq_getElem (by omega)⟩
       refine .skip<|ks_n<|.seq<|.block ?_
       refine ACode.drawK (by kernel_rfl) (by kernel_rfl) ?_
       refine .c (.fB 1 0 false)<|.c (.b1 1)<|.c (.fP 1 0 false)<|.c (.l1 1)<|.c .m ?_
       refine .c (.xL 80 2 48 rfl rfl rfl rfl rfl (map_at hx1)) ?_
       refine .c (.fP 1 0 false)<|.c (.l1 1)<|.c .m ?_
       refine .c (.xL 66 9 152 rfl rfl rfl rfl rfl (map_at hy1)) ?_
       refine .c (.lN 9) ?_
       refine .c (.cP [.tmp 72] rfl rfl rfl rfl (l3Copy_fn y ((hP x (List.mem_of_getElem? hx1)).2.2 y (List.mem_of_getElem? hy1))) rfl) ?_
       refine .c (.li 66 8 0 [.tmp 73]) ?_
       refine .c (St1.appN (k':=175) (e:=66) (sz:=8) (by':=152) rfl rfl rfl rfl rfl (by kernel_rfl) rfl rfl rfl (by simp) (by first|(simp[dR];done)|(simp[dR];omega)) rfl rfl) ?_
       refine .c (.fB 1 0 false)<|.c (.sT 1 false) ?_
       refine .nil ⟨by kernel_rfl,?_⟩
       refine kb_n<|ks_n<|.region<|.c .m<|.c .pl<|.c .a<|.nil ?_
       refine kl_k [(130,130),(131,131),(132,132),(133,133),(134,134),(135,175)] (.inr ⟨1,rfl,by omega,by omega,rfl⟩) ⟨kd,kX,kX,kd,kX,kd,kb 130 rfl (.r2 .dt .dt),kb 132 rfl (.dt rfl),kb 131 rfl (.r2 .dt .ow),kb 134 rfl (.dt rfl),kb 175 rfl (.dt rfl (by first|exact dR_take (rS) hy1|exact dR_take1 (rS) hy1|rfl|(simp[dR];done))),kb 133 rfl (.r2 .ow .ow),trivial⟩
      ·skip
       have hnS:x.2=[]:=List.eq_nil_of_length_eq_zero (by omega)
       refine .exit<|ks_e<|kl_e<|kb_hit<|ks_n ?_
       refine .keep [eP 1 (rG g),eB 2 840 2,eB 3 841 2,eN 5 (j:Nat),eB 6 843 2,(.b 840,.b 30 2 [[nl,nl]]),eU 840,(.b 842,.b 80 2 (dR ((g.2.take j).map rP))),eU 842,(.b 841,.b 30 2 [[.d (dRs g.1),.own 842 2 (j)]]),eU 841,(.b 843,.b 80 2 [[.d (dLs x.1),.d (dMs x.2)]]),eU 843] [(840,130),(841,131),(842,132),(843,133)] ⟨kd,kX,kX,kd,kX,kb 130 rfl (.r2 .dt .dt),kb 132 rfl (.dt rfl),kb 131 rfl (.r2 .dt .ow),kb 133 rfl (.r2 (.fz rfl (by first|rfl|(rw[List.take_length];done)|(rw[List.take_length];rfl)) (by first|rfl|(simp;done)|(simp;omega)) (by omega)) (Cto.nilE 9 (by rw[hnS];rfl))),trivial⟩ ?_
       refine .region<|.c (.fB 1 0 false)<|.c (.b1 1)<|.c (.bN 2)<|.c (.li 80 1 0 [.tmp 79]) ?_
       refine .c (St1.appB (k':=181) (e:=80) (sz:=1) (by':=48) rfl rfl rfl rfl rfl (by kernel_rfl) rfl rfl rfl rfl (by first|(simp[dR];done)|(simp[dR];omega)) (by first|(simp[dR];done)|(simp[dR];omega)) rfl rfl rfl) ?_
       refine .c (.fB 1 0 false)<|.c (.sT 1 false)<|.nil<|kb_n<|ks_n<|.region<|.c .m<|.c .pl<|.c .a<|.nil ?_
       refine kl_k [(120,840),(121,841),(122,181)] (.inr ⟨j+1,rfl,by omega,by omega,rfl⟩) ⟨kd,kX,kX,kd,kb 840 rfl (.r2 .dt .dt),kb 181 rfl (.dt rfl (by first|exact dR_take (rP) hx1|exact dR_take1 (rP) hx1|rfl|(simp[dR];done))),kb 841 rfl (.r2 .dt .ow),trivial⟩
     ·skip
      refine .seq<|.r<|.c .m<|.c (.fP 1 0 false)<|.c (.l1 1)<|.c .m ?_
      refine .c (.xL 80 2 48 rfl rfl rfl rfl rfl (map_at hx1)) ?_
      refine .c (.fP 1 0 false)<|.c (.l1 1)<|.c (.ln 66 9 152)<|.c .ls<|.nn ?_
      refine .cD rfl (fun h59=>?_) (fun h59=>?_)
      ·skip
       obtain⟨y,hy1⟩:∃u,x.2[k]?=some u:=⟨_,List.getElem?_eq_getElem (by omega)⟩
       refine .skip<|ks_n<|.seq<|.block ?_
       refine ACode.drawK (by kernel_rfl) (by kernel_rfl) ?_
       refine .c (.fB 1 0 false)<|.c (.b1 1)<|.c (.fP 1 0 false)<|.c (.l1 1)<|.c .m ?_
       refine .c (.xL 80 2 48 rfl rfl rfl rfl rfl (map_at hx1)) ?_
       refine .c (.fP 1 0 false)<|.c (.l1 1)<|.c .m ?_
       refine .c (.xL 66 9 152 rfl rfl rfl rfl rfl (map_at hy1)) ?_
       refine .c (.lN 9) ?_
       refine .c (.cP [.tmp 72] rfl rfl rfl rfl (l3Copy_fn y ((hP x (List.mem_of_getElem? hx1)).2.2 y (List.mem_of_getElem? hy1))) rfl) ?_
       refine .c (.li 66 8 0 [.tmp 73]) ?_
       refine .c (St1.appB (k':=175) (e:=66) (sz:=8) (by':=152) rfl rfl rfl rfl rfl (by kernel_rfl) rfl rfl rfl rfl (by first|(simp[dR];done)|(simp[dR];omega)) (by first|(simp[dR];done)|(simp[dR];omega)) rfl rfl rfl) ?_
       refine .c (.fB 1 0 false)<|.c (.sT 1 false) ?_
       refine .nil ⟨by kernel_rfl,?_⟩
       refine kb_n<|ks_n<|.region<|.c .m<|.c .pl<|.c .a<|.nil ?_
       refine kl_k [(130,130),(131,131),(132,132),(133,133),(134,134),(135,175)] (.inr ⟨k+1,rfl,by omega,by omega,rfl⟩) ⟨kd,kX,kX,kd,kX,kd,kb 130 rfl (.r2 .dt .dt),kb 132 rfl (.dt rfl),kb 131 rfl (.r2 .dt .ow),kb 134 rfl (.dt rfl),kb 175 rfl (.dt rfl (by first|exact dR_take (rS) hy1|exact dR_take1 (rS) hy1|rfl|(simp[dR];done))),kb 133 rfl (.r2 .ow .ow),trivial⟩
      ·skip
       obtain rfl:k=x.2.length:=by omega
       refine .exit<|ks_e<|kl_e<|kb_hit<|ks_n ?_
       refine .keep [eP 1 (rG g),eB 2 840 2,eB 3 841 2,eN 5 (j:Nat),eB 6 843 2,(.b 840,.b 30 2 [[nl,nl]]),eU 840,(.b 842,.b 80 2 (dR ((g.2.take j).map rP))),eU 842,(.b 841,.b 30 2 [[.d (dRs g.1),.own 842 2 (j)]]),eU 841,(.b 843,.b 80 2 [[.d (dLs x.1),.d (dMs x.2)]]),eU 843] [(840,130),(841,131),(842,132),(843,133)] ⟨kd,kX,kX,kd,kX,kb 130 rfl (.r2 .dt .dt),kb 132 rfl (.dt rfl),kb 131 rfl (.r2 .dt .ow),kb 133 rfl (.r2 (.fz rfl (by first|rfl|(rw[List.take_length];done)|(rw[List.take_length];rfl)) (by first|rfl|(simp;done)|(simp;omega)) (by omega)) (.fz rfl (by first|rfl|(rw[List.take_length];done)|(rw[List.take_length];rfl)) (by first|rfl|(simp;done)|(simp;omega)) (by omega))),trivial⟩ ?_
       refine .region<|.c (.fB 1 0 false)<|.c (.b1 1)<|.c (.bN 2)<|.c (.li 80 1 0 [.tmp 79]) ?_
       refine .c (St1.appB (k':=181) (e:=80) (sz:=1) (by':=48) rfl rfl rfl rfl rfl (by kernel_rfl) rfl rfl rfl rfl (by first|(simp[dR];done)|(simp[dR];omega)) (by first|(simp[dR];done)|(simp[dR];omega)) rfl rfl rfl) ?_
       refine .c (.fB 1 0 false)<|.c (.sT 1 false)<|.nil<|kb_n<|ks_n<|.region<|.c .m<|.c .pl<|.c .a<|.nil ?_
       refine kl_k [(120,840),(121,841),(122,181)] (.inr ⟨j+1,rfl,by omega,by omega,rfl⟩) ⟨kd,kX,kX,kd,kb 840 rfl (.r2 .dt .dt),kb 181 rfl (.dt rfl (by first|exact dR_take (rP) hx1|exact dR_take1 (rP) hx1|rfl|(simp[dR];done))),kb 841 rfl (.r2 .dt .ow),trivial⟩
    ·skip
     obtain rfl:j=g.2.length:=by omega
     refine .exit<|ks_e<|kl_e<|kb_hit<|ks_n<|.r<|.c (.bN 2)<|.c (.sT 2 true)<|.nn<|.ret ?_
     refine kf_wret [eB 2 100 2,(.b 100,.b 30 2 [[.d (dRs g.1),.d (dPts g.2)]]),eU 100] (Wk.keep [(100,120)] rfl rfl ⟨kX,kb 120 rfl (.r2 .dt (.fz rfl (by first|rfl|(rw[List.take_length];done)|(rw[List.take_length];rfl)) (by first|rfl|(simp;done)|(simp;omega)) (by omega))),trivial⟩) rfl ?_ nobox
     rfl
 ·skip
  refine .seq<|.r<|.c .m<|.c (.fP 0 0 false)<|.c (.l1 1)<|.c (.ln 45 2 40)<|.c .ls<|.nn ?_
  refine .cD rfl (fun h13=>?_) (fun h13=>?_)
  ·skip
   obtain⟨x,hx1⟩:∃u,g.1[i]?=some u:=⟨_,List.getElem?_eq_getElem (by omega)⟩
   have hxb:=hA _ (List.mem_of_getElem? hx1)
   refine .skip<|ks_n<|.seq<|.block ?_
   refine ACode.drawK (by kernel_rfl) (by kernel_rfl) ?_
   refine .c (.fB 0 0 false)<|.c (.b1 1)<|.c (.fP 0 0 false)<|.c (.l1 1)<|.c .m ?_
   refine .c (.xL 45 2 40 rfl rfl rfl rfl rfl (map_at hx1)) ?_
   refine .c (.fP 0 0 false)<|.c (.l1 1) ?_
   refine .c (St1.lit0 (k':=124) (e:=3) (sz:=1) (b:=true) rfl rfl rfl rfl (by kernel_rfl) rfl rfl) ?_
   refine .c (.fP 0 0 false)<|.c (.l1 1)<|.c .m ?_
   refine .c (.xL 45 2 40 rfl rfl rfl rfl rfl (map_at hx1)) ?_
   refine .c (.fP 1 0 false)<|.c (.l1 1) ?_
   refine .c (St1.appD (rows:=[]) (e:=3) (sz:=0) (by':=8) rfl rfl rfl rfl rfl (by kernel_rfl) rfl rfl rfl rfl rfl (by simp;omega) rfl) ?_
   refine .c (.bu [(0,.tmp 23),(1,.tmp 31)] [(0,1),(1,1)] [.string ByteArray.empty,.slice none 0 0])<|.c (.li 45 1 0 [.tmp 32]) ?_
   refine .c (St1.appB (k':=134) (e:=45) (sz:=1) (by':=40) rfl rfl rfl rfl rfl (by kernel_rfl) rfl rfl rfl rfl (by first|(simp[dR];done)|(simp[dR];omega)) (by first|(simp[dR];done)|(simp[dR];omega)) rfl rfl rfl) ?_
   refine .c (.fB 0 0 false)<|.c (.sT 1 false) ?_
   refine .nil ⟨by kernel_rfl,?_⟩
   refine kb_n<|ks_n<|.region<|.c .m<|.c .pl<|.c .a<|.nil ?_
   refine kl_k [(110,110),(111,111),(112,134)] (.inr ⟨i+1,rfl,by omega,by omega,rfl⟩) ⟨kd,kX,kX,kd,kb 110 rfl (.r2 .dt .dt),kb 134 rfl (.dt rfl (by first|exact dR_take (rR) hx1|exact dR_take1 (rR) hx1|rfl|(simp[dR];done))),kb 111 rfl (.r2 .ow .dt),trivial⟩
  ·skip
   obtain rfl:i=g.1.length:=by omega
   refine .exit<|ks_e<|kl_e<|kb_hit<|ks_n<|.seq<|.seq ?_
   refine .keep [eP 1 (rG g),eB 2 760 2,eB 3 761 2,(.b 760,.b 30 2 [[nl,nl]]),eU 760,(.b 761,.b 30 2 [[.d (dRs g.1),nl]]),eU 761] [(760,110),(761,111)] ⟨kd,kX,kX,kb 110 rfl (.r2 .dt .dt),kb 111 rfl (.r2 (.fz rfl (by first|rfl|(rw[List.take_length];done)|(rw[List.take_length];rfl)) (by first|rfl|(simp;done)|(simp;omega)) (by omega)) .dt),trivial⟩ ?_
   refine .region<|.c .a<|.nn<|.block ?_
   refine .loopK (fun m σ=>(∃j:Nat,m=g.2.length -j∧(j=0)∧σ=[eP 1 (rG g),eB 2 120 2,eB 3 121 2,eN 5 (j:Nat),(.b 120,.b 30 2 [[nl,nl]]),eU 120,(.b 121,.b 30 2 [[.d (dRs g.1),nl]]),eU 121])∨(∃j:Nat,m=g.2.length -j∧(1≤j)∧(j≤g.2.length)∧σ=[eP 1 (rG g),eB 2 120 2,eB 3 121 2,eN 5 (j:Nat),(.b 120,.b 30 2 [[nl,nl]]),eU 120,(.b 122,.b 80 2 (dR ((g.2.take j).map rP))),eU 122,(.b 121,.b 30 2 [[.d (dRs g.1),.own 122 2 (j)]]),eU 121])) [(120,760),(121,761)] (.inl ⟨0,rfl,rfl,rfl⟩) ⟨kd,kX,kX,kd,kb 760 rfl (.r2 .dt .dt),kb 761 rfl (.r2 .dt .dt),trivial⟩ ?_
   rintro m σ (⟨j,hm0,rfl,rfl⟩|⟨j,hm0,hj1,hj2,rfl⟩)
   ·skip
    refine .seq<|.r<|.c .m<|.c (.fP 1 0 false)<|.c (.l1 1)<|.c (.ln 80 2 48)<|.c .ls<|.nn ?_
    refine .cD rfl (fun h40=>?_) (fun h40=>?_)
    ·skip
     obtain⟨x,hx1⟩:∃u,g.2[0]?=some u:=⟨_,List.getElem?_eq_getElem (by omega)⟩
     obtain⟨hsm,hpb,hps⟩:=hP _ (List.mem_of_getElem? hx1)
     have hsl:=hsm.1
     refine .skip<|ks_n<|.seq<|.block<|.r<|.c (.fP 1 0 false)<|.c (.l1 1)<|.c .m ?_
     refine .c (.xL 80 2 48 rfl rfl rfl rfl rfl (map_at hx1)) ?_
     refine .c (.fP 0 0 false)<|.c (.l1 1) ?_
     refine .c (.cO [.tmp 48] [(100,149)] rfl rfl rfl rfl (l2Copy_own (hP x (List.mem_of_getElem? hx1)).1) rfl trivial flatS.nil (flatS.nil.cons rfl) HB.nil.data outS_one) ?_
     refine .c (.bu [(0,.tmp 49)] [(0,1),(1,1)] [.slice none 0 0,.slice none 0 0])<|.c (.al 106 [.slice none 0 0,.slice none 0 0])<|.c (.sT 2 true)<|.nn<|.seq<|.r<|.c .a<|.nn<|.block ?_
     refine .loopK (fun m σ=>(∃k:Nat,m=x.2.length -k∧(k=0)∧σ=[eP 1 (rG g),eB 2 130 2,eB 3 131 2,eN 5 (0:Nat),eB 6 132 2,eN 7 (k:Nat),(.b 130,.b 30 2 [[nl,nl]]),eU 130,(.b 131,.b 30 2 [[.d (dRs g.1),nl]]),eU 131,(.b 133,.b 148 2 (dR (x.1.map rL))),eU 133,(.b 132,.b 80 2 [[.own 133 2 (x.1.length),nl]]),eU 132])∨(∃k:Nat,m=x.2.length -k∧(1≤k)∧(k≤x.2.length)∧σ=[eP 1 (rG g),eB 2 130 2,eB 3 131 2,eN 5 (0:Nat),eB 6 132 2,eN 7 (k:Nat),(.b 130,.b 30 2 [[nl,nl]]),eU 130,(.b 131,.b 30 2 [[.d (dRs g.1),nl]]),eU 131,(.b 133,.b 148 2 (dR (x.1.map rL))),eU 133,(.b 134,.b 66 9 (dR ((x.2.take k).map rS))),eU 134,(.b 132,.b 80 2 [[.own 133 2 (x.1.length),.own 134 9 (k)]]),eU 132])) [(130,120),(131,121),(132,106),(133,149)] (.inl ⟨0,rfl,rfl,rfl⟩) ⟨kd,kX,kX,kd,kX,kd,kb 120 rfl (.r2 .dt .dt),kb 121 rfl (.r2 .dt .dt),kb 149 rfl (.dt rfl),kb 106 rfl (.r2 .ow .dt),trivial⟩ ?_
     rintro m σ (⟨k,hm0,rfl,rfl⟩|⟨k,hm0,hk1,hk2,rfl⟩)
     ·skip
      refine .seq<|.r<|.c .m<|.c (.fP 1 0 false)<|.c (.l1 1)<|.c .m ?_
      refine .c (.xL 80 2 48 rfl rfl rfl rfl rfl (map_at hx1)) ?_
      refine .c (.fP 1 0 false)<|.c (.l1 1)<|.c (.ln 66 9 152)<|.c .ls<|.nn ?_
      refine .cD rfl (fun h59=>?_) (fun h59=>?_)
      ·skip
       obtain⟨y,hy1⟩:∃u,x.2[0]?=some u:=⟨_,List.getElem?_eq_getElem (by omega)⟩
       refine .skip<|ks_n<|.seq<|.block ?_
       refine ACode.drawK (by kernel_rfl) (by kernel_rfl) ?_
       refine .c (.fB 1 0 false)<|.c (.b1 1)<|.c (.fP 1 0 false)<|.c (.l1 1)<|.c .m ?_
       refine .c (.xL 80 2 48 rfl rfl rfl rfl rfl (map_at hx1)) ?_
       refine .c (.fP 1 0 false)<|.c (.l1 1)<|.c .m ?_
       refine .c (.xL 66 9 152 rfl rfl rfl rfl rfl (map_at hy1)) ?_
       refine .c (.lN 9) ?_
       refine .c (.cP [.tmp 72] rfl rfl rfl rfl (l3Copy_fn y ((hP x (List.mem_of_getElem? hx1)).2.2 y (List.mem_of_getElem? hy1))) rfl) ?_
       refine .c (.li 66 8 0 [.tmp 73]) ?_
       refine .c (St1.appN (k':=175) (e:=66) (sz:=8) (by':=152) rfl rfl rfl rfl rfl (by kernel_rfl) rfl rfl rfl (by simp) (by first|(simp[dR];done)|(simp[dR];omega)) rfl rfl) ?_
       refine .c (.fB 1 0 false)<|.c (.sT 1 false) ?_
       refine .nil ⟨by kernel_rfl,?_⟩
       refine kb_n<|ks_n<|.region<|.c .m<|.c .pl<|.c .a<|.nil ?_
       refine kl_k [(130,130),(131,131),(132,132),(133,133),(134,175)] (.inr ⟨1,rfl,by omega,by omega,rfl⟩) ⟨kd,kX,kX,kd,kX,kd,kb 130 rfl (.r2 .dt .dt),kb 131 rfl (.r2 .dt .dt),kb 133 rfl (.dt rfl),kb 175 rfl (.dt rfl (by first|exact dR_take (rS) hy1|exact dR_take1 (rS) hy1|rfl|(simp[dR];done))),kb 132 rfl (.r2 .ow .ow),trivial⟩
      ·skip
       have hnS:x.2=[]:=List.eq_nil_of_length_eq_zero (by omega)
       refine .exit<|ks_e<|kl_e<|kb_hit<|ks_n ?_
       refine .keep [eP 1 (rG g),eB 2 840 2,eB 3 841 2,eN 5 (0:Nat),eB 6 842 2,(.b 840,.b 30 2 [[nl,nl]]),eU 840,(.b 841,.b 30 2 [[.d (dRs g.1),nl]]),eU 841,(.b 842,.b 80 2 [[.d (dLs x.1),.d (dMs x.2)]]),eU 842] [(840,130),(841,131),(842,132)] ⟨kd,kX,kX,kd,kX,kb 130 rfl (.r2 .dt .dt),kb 131 rfl (.r2 .dt .dt),kb 132 rfl (.r2 (.fz rfl (by first|rfl|(rw[List.take_length];done)|(rw[List.take_length];rfl)) (by first|rfl|(simp;done)|(simp;omega)) (by omega)) (Cto.nilE 9 (by rw[hnS];rfl))),trivial⟩ ?_
       refine .region<|.c (.fB 1 0 false)<|.c (.b1 1)<|.c (.bN 2)<|.c (.li 80 1 0 [.tmp 79]) ?_
       refine .c (St1.appN (k':=181) (e:=80) (sz:=1) (by':=48) rfl rfl rfl rfl rfl (by kernel_rfl) rfl rfl rfl (by simp) (by first|(simp[dR];done)|(simp[dR];omega)) rfl rfl) ?_
       refine .c (.fB 1 0 false)<|.c (.sT 1 false)<|.nil<|kb_n<|ks_n<|.region<|.c .m<|.c .pl<|.c .a<|.nil ?_
       refine kl_k [(120,840),(121,841),(122,181)] (.inr ⟨1,rfl,by omega,by omega,rfl⟩) ⟨kd,kX,kX,kd,kb 840 rfl (.r2 .dt .dt),kb 181 rfl (.dt rfl (by first|exact dR_take (rP) hx1|exact dR_take1 (rP) hx1|rfl|(simp[dR];done))),kb 841 rfl (.r2 .dt .ow),trivial⟩
     ·skip
      refine .seq<|.r<|.c .m<|.c (.fP 1 0 false)<|.c (.l1 1)<|.c .m ?_
      refine .c (.xL 80 2 48 rfl rfl rfl rfl rfl (map_at hx1)) ?_
      refine .c (.fP 1 0 false)<|.c (.l1 1)<|.c (.ln 66 9 152)<|.c .ls<|.nn ?_
      refine .cD rfl (fun h59=>?_) (fun h59=>?_)
      ·skip
       obtain⟨y,hy1⟩:∃u,x.2[k]?=some u:=⟨_,List.getElem?_eq_getElem (by omega)⟩
       refine .skip<|ks_n<|.seq<|.block ?_
       refine ACode.drawK (by kernel_rfl) (by kernel_rfl) ?_
       refine .c (.fB 1 0 false)<|.c (.b1 1)<|.c (.fP 1 0 false)<|.c (.l1 1)<|.c .m ?_
       refine .c (.xL 80 2 48 rfl rfl rfl rfl rfl (map_at hx1)) ?_
       refine .c (.fP 1 0 false)<|.c (.l1 1)<|.c .m ?_
       refine .c (.xL 66 9 152 rfl rfl rfl rfl rfl (map_at hy1)) ?_
       refine .c (.lN 9) ?_
       refine .c (.cP [.tmp 72] rfl rfl rfl rfl (l3Copy_fn y ((hP x (List.mem_of_getElem? hx1)).2.2 y (List.mem_of_getElem? hy1))) rfl) ?_
       refine .c (.li 66 8 0 [.tmp 73]) ?_
       refine .c (St1.appB (k':=175) (e:=66) (sz:=8) (by':=152) rfl rfl rfl rfl rfl (by kernel_rfl) rfl rfl rfl rfl (by first|(simp[dR];done)|(simp[dR];omega)) (by first|(simp[dR];done)|(simp[dR];omega)) rfl rfl rfl) ?_
       refine .c (.fB 1 0 false)<|.c (.sT 1 false) ?_
       refine .nil ⟨by kernel_rfl,?_⟩
       refine kb_n<|ks_n<|.region<|.c .m<|.c .pl<|.c .a<|.nil ?_
       refine kl_k [(130,130),(131,131),(132,132),(133,133),(134,175)] (.inr ⟨k+1,rfl,by omega,by omega,rfl⟩) ⟨kd,kX,kX,kd,kX,kd,kb 130 rfl (.r2 .dt .dt),kb 131 rfl (.r2 .dt .dt),kb 133 rfl (.dt rfl),kb 175 rfl (.dt rfl (by first|exact dR_take (rS) hy1|exact dR_take1 (rS) hy1|rfl|(simp[dR];done))),kb 132 rfl (.r2 .ow .ow),trivial⟩
      ·skip
       obtain rfl:k=x.2.length:=by omega
       refine .exit<|ks_e<|kl_e<|kb_hit<|ks_n ?_
       refine .keep [eP 1 (rG g),eB 2 840 2,eB 3 841 2,eN 5 (0:Nat),eB 6 842 2,(.b 840,.b 30 2 [[nl,nl]]),eU 840,(.b 841,.b 30 2 [[.d (dRs g.1),nl]]),eU 841,(.b 842,.b 80 2 [[.d (dLs x.1),.d (dMs x.2)]]),eU 842] [(840,130),(841,131),(842,132)] ⟨kd,kX,kX,kd,kX,kb 130 rfl (.r2 .dt .dt),kb 131 rfl (.r2 .dt .dt),kb 132 rfl (.r2 (.fz rfl (by first|rfl|(rw[List.take_length];done)|(rw[List.take_length];rfl)) (by first|rfl|(simp;done)|(simp;omega)) (by omega)) (.fz rfl (by first|rfl|(rw[List.take_length];done)|(rw[List.take_length];rfl)) (by first|rfl|(simp;done)|(simp;omega)) (by omega))),trivial⟩ ?_
       refine .region<|.c (.fB 1 0 false)<|.c (.b1 1)<|.c (.bN 2)<|.c (.li 80 1 0 [.tmp 79]) ?_
       refine .c (St1.appN (k':=181) (e:=80) (sz:=1) (by':=48) rfl rfl rfl rfl rfl (by kernel_rfl) rfl rfl rfl (by simp) (by first|(simp[dR];done)|(simp[dR];omega)) rfl rfl) ?_
       refine .c (.fB 1 0 false)<|.c (.sT 1 false)<|.nil<|kb_n<|ks_n<|.region<|.c .m<|.c .pl<|.c .a<|.nil ?_
       refine kl_k [(120,840),(121,841),(122,181)] (.inr ⟨1,rfl,by omega,by omega,rfl⟩) ⟨kd,kX,kX,kd,kb 840 rfl (.r2 .dt .dt),kb 181 rfl (.dt rfl (by first|exact dR_take (rP) hx1|exact dR_take1 (rP) hx1|rfl|(simp[dR];done))),kb 841 rfl (.r2 .dt .ow),trivial⟩
    ·skip
     have hnP:g.2=[]:=List.eq_nil_of_length_eq_zero (by omega)
     refine .exit<|ks_e<|kl_e<|kb_hit<|ks_n<|.r<|.c (.bN 2)<|.c (.sT 2 true)<|.nn<|.ret ?_
     refine kf_wret [eB 2 100 2,(.b 100,.b 30 2 [[.d (dRs g.1),.d (dPts g.2)]]),eU 100] (Wk.keep [(100,120)] rfl rfl ⟨kX,kb 120 rfl (.r2 .dt (Cto.nilE 2 (by rw[hnP];rfl))),trivial⟩) rfl ?_ nobox
     rfl
   ·skip
    refine .seq<|.r<|.c .m<|.c (.fP 1 0 false)<|.c (.l1 1)<|.c (.ln 80 2 48)<|.c .ls<|.nn ?_
    refine .cD rfl (fun h40=>?_) (fun h40=>?_)
    ·skip
     obtain⟨x,hx1⟩:∃u,g.2[j]?=some u:=⟨_,List.getElem?_eq_getElem (by omega)⟩
     obtain⟨hsm,hpb,hps⟩:=hP _ (List.mem_of_getElem? hx1)
     have hsl:=hsm.1
     refine .skip<|ks_n<|.seq<|.block<|.r<|.c (.fP 1 0 false)<|.c (.l1 1)<|.c .m ?_
     refine .c (.xL 80 2 48 rfl rfl rfl rfl rfl (map_at hx1)) ?_
     refine .c (.fP 0 0 false)<|.c (.l1 1) ?_
     refine .c (.cO [.tmp 48] [(100,149)] rfl rfl rfl rfl (l2Copy_own (hP x (List.mem_of_getElem? hx1)).1) rfl trivial flatS.nil (flatS.nil.cons rfl) HB.nil.data outS_one) ?_
     refine .c (.bu [(0,.tmp 49)] [(0,1),(1,1)] [.slice none 0 0,.slice none 0 0])<|.c (.al 106 [.slice none 0 0,.slice none 0 0])<|.c (.sT 2 true)<|.nn<|.seq<|.r<|.c .a<|.nn<|.block ?_
     refine .loopK (fun m σ=>(∃k:Nat,m=x.2.length -k∧(k=0)∧σ=[eP 1 (rG g),eB 2 130 2,eB 3 131 2,eN 5 (j:Nat),eB 6 133 2,eN 7 (k:Nat),(.b 130,.b 30 2 [[nl,nl]]),eU 130,(.b 132,.b 80 2 (dR ((g.2.take j).map rP))),eU 132,(.b 131,.b 30 2 [[.d (dRs g.1),.own 132 2 (j)]]),eU 131,(.b 134,.b 148 2 (dR (x.1.map rL))),eU 134,(.b 133,.b 80 2 [[.own 134 2 (x.1.length),nl]]),eU 133])∨(∃k:Nat,m=x.2.length -k∧(1≤k)∧(k≤x.2.length)∧σ=[eP 1 (rG g),eB 2 130 2,eB 3 131 2,eN 5 (j:Nat),eB 6 133 2,eN 7 (k:Nat),(.b 130,.b 30 2 [[nl,nl]]),eU 130,(.b 132,.b 80 2 (dR ((g.2.take j).map rP))),eU 132,(.b 131,.b 30 2 [[.d (dRs g.1),.own 132 2 (j)]]),eU 131,(.b 134,.b 148 2 (dR (x.1.map rL))),eU 134,(.b 135,.b 66 9 (dR ((x.2.take k).map rS))),eU 135,(.b 133,.b 80 2 [[.own 134 2 (x.1.length),.own 135 9 (k)]]),eU 133])) [(130,120),(131,121),(132,122),(133,106),(134,149)] (.inl ⟨0,rfl,rfl,rfl⟩) ⟨kd,kX,kX,kd,kX,kd,kb 120 rfl (.r2 .dt .dt),kb 122 rfl (.dt rfl),kb 121 rfl (.r2 .dt .ow),kb 149 rfl (.dt rfl),kb 106 rfl (.r2 .ow .dt),trivial⟩ ?_
     rintro m σ (⟨k,hm0,rfl,rfl⟩|⟨k,hm0,hk1,hk2,rfl⟩)
     ·skip
      refine .seq<|.r<|.c .m<|.c (.fP 1 0 false)<|.c (.l1 1)<|.c .m ?_
      refine .c (.xL 80 2 48 rfl rfl rfl rfl rfl (map_at hx1)) ?_
      refine .c (.fP 1 0 false)<|.c (.l1 1)<|.c (.ln 66 9 152)<|.c .ls<|.nn ?_
      refine .cD rfl (fun h59=>?_) (fun h59=>?_)
      ·skip
       obtain⟨y,hy1⟩:∃u,x.2[0]?=some u:=⟨_,List.getElem?_eq_getElem (by omega)⟩
       refine .skip<|ks_n<|.seq<|.block ?_
       refine ACode.drawK (by kernel_rfl) (by kernel_rfl) ?_
       refine .c (.fB 1 0 false)<|.c (.b1 1)<|.c (.fP 1 0 false)<|.c (.l1 1)<|.c .m ?_
       refine .c (.xL 80 2 48 rfl rfl rfl rfl rfl (map_at hx1)) ?_
       refine .c (.fP 1 0 false)<|.c (.l1 1)<|.c .m ?_
       refine .c (.xL 66 9 152 rfl rfl rfl rfl rfl (map_at hy1)) ?_
       refine .c (.lN 9) ?_
       refine .c (.cP [.tmp 72] rfl rfl rfl rfl (l3Copy_fn y ((hP x (List.mem_of_getElem? hx1)).2.2 y (List.mem_of_getElem? hy1))) rfl) ?_
       refine .c (.li 66 8 0 [.tmp 73]) ?_
       refine .c (St1.appN (k':=175) (e:=66) (sz:=8) (by':=152) rfl rfl rfl rfl rfl (by kernel_rfl) rfl rfl rfl (by simp) (by first|(simp[dR];done)|(simp[dR];omega)) rfl rfl) ?_
       refine .c (.fB 1 0 false)<|.c (.sT 1 false) ?_
       refine .nil ⟨by kernel_rfl,?_⟩
       refine kb_n<|ks_n<|.region<|.c .m<|.c .pl<|.c .a<|.nil ?_
       refine kl_k [(130,130),(131,131),(132,132),(133,133),(134,134),(135,175)] (.inr ⟨1,rfl,by omega,by omega,rfl⟩) ⟨kd,kX,kX,kd,kX,kd,kb 130 rfl (.r2 .dt .dt),kb 132 rfl (.dt rfl),kb 131 rfl (.r2 .dt .ow),kb 134 rfl (.dt rfl),kb 175 rfl (.dt rfl (by first|exact dR_take (rS) hy1|exact dR_take1 (rS) hy1|rfl|(simp[dR];done))),kb 133 rfl (.r2 .ow .ow),trivial⟩
      ·skip
       have hnS:x.2=[]:=List.eq_nil_of_length_eq_zero (by omega)
       refine .exit<|ks_e<|kl_e<|kb_hit<|ks_n ?_
       refine .keep [eP 1 (rG g),eB 2 840 2,eB 3 841 2,eN 5 (j:Nat),eB 6 843 2,(.b 840,.b 30 2 [[nl,nl]]),eU 840,(.b 842,.b 80 2 (dR ((g.2.take j).map rP))),eU 842,(.b 841,.b 30 2 [[.d (dRs g.1),.own 842 2 (j)]]),eU 841,(.b 843,.b 80 2 [[.d (dLs x.1),.d (dMs x.2)]]),eU 843] [(840,130),(841,131),(842,132),(843,133)] ⟨kd,kX,kX,kd,kX,kb 130 rfl (.r2 .dt .dt),kb 132 rfl (.dt rfl),kb 131 rfl (.r2 .dt .ow),kb 133 rfl (.r2 (.fz rfl (by first|rfl|(rw[List.take_length];done)|(rw[List.take_length];rfl)) (by first|rfl|(simp;done)|(simp;omega)) (by omega)) (Cto.nilE 9 (by rw[hnS];rfl))),trivial⟩ ?_
       refine .region<|.c (.fB 1 0 false)<|.c (.b1 1)<|.c (.bN 2)<|.c (.li 80 1 0 [.tmp 79]) ?_
       refine .c (St1.appB (k':=181) (e:=80) (sz:=1) (by':=48) rfl rfl rfl rfl rfl (by kernel_rfl) rfl rfl rfl rfl (by first|(simp[dR];done)|(simp[dR];omega)) (by first|(simp[dR];done)|(simp[dR];omega)) rfl rfl rfl) ?_
       refine .c (.fB 1 0 false)<|.c (.sT 1 false)<|.nil<|kb_n<|ks_n<|.region<|.c .m<|.c .pl<|.c .a<|.nil ?_
       refine kl_k [(120,840),(121,841),(122,181)] (.inr ⟨j+1,rfl,by omega,by omega,rfl⟩) ⟨kd,kX,kX,kd,kb 840 rfl (.r2 .dt .dt),kb 181 rfl (.dt rfl (by first|exact dR_take (rP) hx1|exact dR_take1 (rP) hx1|rfl|(simp[dR];done))),kb 841 rfl (.r2 .dt .ow),trivial⟩
     ·skip
      refine .seq<|.r<|.c .m<|.c (.fP 1 0 false)<|.c (.l1 1)<|.c .m ?_
      refine .c (.xL 80 2 48 rfl rfl rfl rfl rfl (map_at hx1)) ?_
      refine .c (.fP 1 0 false)<|.c (.l1 1)<|.c (.ln 66 9 152)<|.c .ls<|.nn ?_
      refine .cD rfl (fun h59=>?_) (fun h59=>?_)
      ·skip
       obtain⟨y,hy1⟩:∃u,x.2[k]?=some u:=⟨_,List.getElem?_eq_getElem (by omega)⟩
       refine .skip<|ks_n<|.seq<|.block ?_
       refine ACode.drawK (by kernel_rfl) (by kernel_rfl) ?_
       refine .c (.fB 1 0 false)<|.c (.b1 1)<|.c (.fP 1 0 false)<|.c (.l1 1)<|.c .m ?_
       refine .c (.xL 80 2 48 rfl rfl rfl rfl rfl (map_at hx1)) ?_
       refine .c (.fP 1 0 false)<|.c (.l1 1)<|.c .m ?_
       refine .c (.xL 66 9 152 rfl rfl rfl rfl rfl (map_at hy1)) ?_
       refine .c (.lN 9) ?_
       refine .c (.cP [.tmp 72] rfl rfl rfl rfl (l3Copy_fn y ((hP x (List.mem_of_getElem? hx1)).2.2 y (List.mem_of_getElem? hy1))) rfl) ?_
       refine .c (.li 66 8 0 [.tmp 73]) ?_
       refine .c (St1.appB (k':=175) (e:=66) (sz:=8) (by':=152) rfl rfl rfl rfl rfl (by kernel_rfl) rfl rfl rfl rfl (by first|(simp[dR];done)|(simp[dR];omega)) (by first|(simp[dR];done)|(simp[dR];omega)) rfl rfl rfl) ?_
       refine .c (.fB 1 0 false)<|.c (.sT 1 false) ?_
       refine .nil ⟨by kernel_rfl,?_⟩
       refine kb_n<|ks_n<|.region<|.c .m<|.c .pl<|.c .a<|.nil ?_
       refine kl_k [(130,130),(131,131),(132,132),(133,133),(134,134),(135,175)] (.inr ⟨k+1,rfl,by omega,by omega,rfl⟩) ⟨kd,kX,kX,kd,kX,kd,kb 130 rfl (.r2 .dt .dt),kb 132 rfl (.dt rfl),kb 131 rfl (.r2 .dt .ow),kb 134 rfl (.dt rfl),kb 175 rfl (.dt rfl (by first|exact dR_take (rS) hy1|exact dR_take1 (rS) hy1|rfl|(simp[dR];done))),kb 133 rfl (.r2 .ow .ow),trivial⟩
      ·skip
       obtain rfl:k=x.2.length:=by omega
       refine .exit<|ks_e<|kl_e<|kb_hit<|ks_n ?_
       refine .keep [eP 1 (rG g),eB 2 840 2,eB 3 841 2,eN 5 (j:Nat),eB 6 843 2,(.b 840,.b 30 2 [[nl,nl]]),eU 840,(.b 842,.b 80 2 (dR ((g.2.take j).map rP))),eU 842,(.b 841,.b 30 2 [[.d (dRs g.1),.own 842 2 (j)]]),eU 841,(.b 843,.b 80 2 [[.d (dLs x.1),.d (dMs x.2)]]),eU 843] [(840,130),(841,131),(842,132),(843,133)] ⟨kd,kX,kX,kd,kX,kb 130 rfl (.r2 .dt .dt),kb 132 rfl (.dt rfl),kb 131 rfl (.r2 .dt .ow),kb 133 rfl (.r2 (.fz rfl (by first|rfl|(rw[List.take_length];done)|(rw[List.take_length];rfl)) (by first|rfl|(simp;done)|(simp;omega)) (by omega)) (.fz rfl (by first|rfl|(rw[List.take_length];done)|(rw[List.take_length];rfl)) (by first|rfl|(simp;done)|(simp;omega)) (by omega))),trivial⟩ ?_
       refine .region<|.c (.fB 1 0 false)<|.c (.b1 1)<|.c (.bN 2)<|.c (.li 80 1 0 [.tmp 79]) ?_
       refine .c (St1.appB (k':=181) (e:=80) (sz:=1) (by':=48) rfl rfl rfl rfl rfl (by kernel_rfl) rfl rfl rfl rfl (by first|(simp[dR];done)|(simp[dR];omega)) (by first|(simp[dR];done)|(simp[dR];omega)) rfl rfl rfl) ?_
       refine .c (.fB 1 0 false)<|.c (.sT 1 false)<|.nil<|kb_n<|ks_n<|.region<|.c .m<|.c .pl<|.c .a<|.nil ?_
       refine kl_k [(120,840),(121,841),(122,181)] (.inr ⟨j+1,rfl,by omega,by omega,rfl⟩) ⟨kd,kX,kX,kd,kb 840 rfl (.r2 .dt .dt),kb 181 rfl (.dt rfl (by first|exact dR_take (rP) hx1|exact dR_take1 (rP) hx1|rfl|(simp[dR];done))),kb 841 rfl (.r2 .dt .ow),trivial⟩
    ·skip
     obtain rfl:j=g.2.length:=by omega
     refine .exit<|ks_e<|kl_e<|kb_hit<|ks_n<|.r<|.c (.bN 2)<|.c (.sT 2 true)<|.nn<|.ret ?_
     refine kf_wret [eB 2 100 2,(.b 100,.b 30 2 [[.d (dRs g.1),.d (dPts g.2)]]),eU 100] (Wk.keep [(100,120)] rfl rfl ⟨kX,kb 120 rfl (.r2 .dt (.fz rfl (by first|rfl|(rw[List.take_length];done)|(rw[List.take_length];rfl)) (by first|rfl|(simp;done)|(simp;omega)) (by omega))),trivial⟩) rfl ?_ nobox
     rfl
theorem o16Aff_fn (x:Aff) (hx:x.1.length≤1073741824):Fn Tryz.prog 196 [] [ad (rA x)] (.o (ad (rA x))) []:=by
  refine Fn.code0 Tryz.func196 rfl rfl rfl rfl ?_
  refine .r<|.c (St1.boxB (k':=101) rfl rfl rfl rfl rfl rfl rfl)<|.c (.al 102 [.slice none 0 0,.int .i64 0])<|.r ?_
  refine .c (St1.lit0 (k':=103) (e:=3) (sz:=1) (b:=true) rfl rfl rfl rfl (by kernel_rfl) rfl rfl) ?_
  refine .c (.fB 0 0 false)<|.c (.b1 1) ?_
  refine .c (St1.appB (k':=106) (e:=3) (sz:=0) (by':=8) rfl rfl rfl rfl rfl (by kernel_rfl) rfl rfl rfl rfl (by first|(simp[dR];done)|(simp[dR];omega)) (by first|(simp[dR];done)|(simp[dR];omega)) rfl rfl rfl) ?_
  refine .c (.fB 0 0 false)<|.c (.sT 1 false)<|.r<|.c (.bN 2)<|.c (.sT 2 true)<|.nn<|.ret ?_
  refine kf_wret [eB 2 100 2,(.b 100,.b 61 2 [[.d (dIs x.1),.d (dI x.2)]]),eU 100] (Wk.keep [(100,102)] rfl rfl ⟨kX,kb 102 rfl (.r2 (.fz rfl (by rfl) (by simp[dIs]) (by rw[List.length_map];omega)) .dt),trivial⟩) rfl ?_ nobox
  rfl
theorem o16Affs_fn (l:List Aff) (hl:l.length≤1073741824) (hs:∀x∈l,x.1.length≤1073741824):Fn Tryz.prog 186 [] [vD (dAs l)] (.o (vD (dAs l))) []:=by
  refine Fn.code0 Tryz.func186 rfl rfl rfl rfl ?_
  refine .r<|.c .a<|.r ?_
  refine .c (St1.lit0 (k':=106) (e:=61) (sz:=2) (b:=true) rfl rfl rfl rfl (by kernel_rfl) rfl rfl) ?_
  refine .c .a<|.nn<|.seq<|.r<|.c .m<|.c (.ln 61 2 32)<|.c .m<|.nn<|.block ?_
  refine .loopK (fun m σ=>(∃i:Nat,m=l.length -i∧(i≤l.length)∧σ=[(.t 3,.v (.o (.c (.own 110 2 (i))))),eD 7 (dAs l),eN 8 (l.length:Nat),eN 9 (i:Nat),(.b 110,.b 61 2 (dR ((l.take i).map rA))),eU 110])) [(110,106)] ⟨0,rfl,by omega,rfl⟩ ⟨kW,kd,kd,kd,kb 106 rfl (.dt rfl (by first|exact dR_take (rA) hx1|exact dR_take1 (rA) hx1|rfl|(simp[dR];done))),trivial⟩ ?_
  rintro m σ ⟨i,hm0,hi,rfl⟩
  refine .r<|.c .ls<|.nn<|.seq ?_
  refine .cD rfl (fun h10=>?_) (fun h10=>?_)
  · skip
    obtain⟨x,hx1⟩:∃x_,l[i]?=some x_:=⟨_,List.getElem?_eq_getElem (by omega)⟩
    refine .skip<|ks_n<|.seq<|.block<|.r<|.c (.xL 61 2 32 rfl rfl rfl rfl rfl (map_at hx1)) ?_
    refine .c (.lN 2)<|.c (.al 105 [.slice none 0 0,.int .i64 0])<|.c (.sT 2 true)<|.nn<|.region<|.c .m<|.c (.bN 2) ?_
    refine .c (.cP [.tmp 14] rfl rfl rfl rfl (o16Aff_fn x (by have:=hs x (List.mem_of_getElem? hx1);omega)) rfl) ?_
    refine .c (.li 61 1 0 [.tmp 15]) ?_
    refine .c (St1.appB (k':=117) (e:=61) (sz:=1) (by':=32) rfl rfl rfl rfl rfl (by kernel_rfl) rfl rfl rfl rfl (by first|(simp[dR];done)|(simp[dR];omega)) (by first|(simp[dR];done)|(simp[dR];omega)) rfl rfl rfl) ?_
    refine .c .a<|.nil<|kb_n<|ks_n<|.region<|.c .pl<|.c .m<|.nil ?_
    refine kl_k [(110,117)] ⟨i+1,rfl,by omega,rfl⟩ ⟨kW,kd,kd,kd,kb 117 rfl (.dt rfl (by first|exact dR_take (rA) hx1|exact dR_take1 (rA) hx1|rfl|(simp[dR];done))),trivial⟩
  · skip
    obtain rfl:i=l.length:=by omega
    refine .exit<|ks_e<|kl_e<|kb_hit<|ks_n<|.r<|.c .m<|.c .a<|.nn<|.ret ?_
    refine kf_wret [eD 2 (dAs l)] (Wk.keep [] rfl rfl ⟨ks rfl (.c (.fz rfl (by first|(rw[List.take_length];done)|(rw[List.take_length];rfl)) (by simp) (by omega))),trivial⟩) rfl ?_ nobox
    rfl
theorem o16Acc_fn (x:Acc) (hx:szAs x.2≤1073741824):Fn Tryz.prog 187 [] [ad (rC x)] (.o (ad (rC x))) []:=by
  refine Fn.code0 Tryz.func187 rfl rfl rfl rfl ?_
  refine .r<|.c (St1.boxB (k':=101) rfl rfl rfl rfl rfl rfl rfl)<|.c (.al 102 [.string ByteArray.empty,.slice none 0 0])<|.r<|.c (.fB 1 0 false)<|.c (.b1 1) ?_
  refine .c (.cP [.tmp 4] rfl rfl rfl rfl (o16Affs_fn x.2 (by have:=szAs_len x.2;omega) (fun y hy=>by have:=szAs_mem hy;omega)) rfl) ?_
  refine .c (.fB 1 0 false)<|.c (.sT 1 false)<|.r<|.c (.bN 2)<|.c (.sT 2 true)<|.nn<|.ret ?_
  refine kf_ret rfl ?_ nobox
  rfl
theorem o16Loop_fn (x:Lp) (hx:szL x≤1073741824):Fn Tryz.prog 164 [] [ad (rL x)] (.o (ad (rL x))) []:=by
  rw[szL]at hx
  refine Fn.code0 Tryz.func164 rfl rfl rfl rfl ?_
  refine .r<|.c (St1.boxB (k':=101) rfl rfl rfl rfl rfl rfl rfl)<|.c (.al 102 [.slice none 0 0,.slice none 0 0])<|.r<|.c (.fB 0 0 false)<|.c (.b1 1) ?_
  refine .c (.cP [.tmp 4] rfl rfl rfl rfl (o16Affs_fn x.1 (by have:=szAs_len x.1;omega) (fun y hy=>by have:=szAs_mem hy;omega)) rfl) ?_
  refine .c (.fB 0 0 false)<|.c (.sT 1 false)<|.r<|.c (.fB 1 0 false)<|.c (.b1 1) ?_
  refine .c (.cP [.tmp 8] rfl rfl rfl rfl (o16Affs_fn x.2 (by have:=szAs_len x.2;omega) (fun y hy=>by have:=szAs_mem hy;omega)) rfl) ?_
  refine .c (.fB 1 0 false)<|.c (.sT 1 false)<|.r<|.c (.bN 2)<|.c (.sT 2 true)<|.nn<|.ret ?_
  refine kf_ret rfl ?_ nobox
  rfl
theorem o16Loops_fn (l:List Lp) (hl:l.length≤1073741824) (hs:∀x∈l,szL x≤1073741824):Fn Tryz.prog 130 [] [vD (dLs l)] (.o (vD (dLs l))) []:=by
  refine Fn.code0 Tryz.func130 rfl rfl rfl rfl ?_
  refine .r<|.c .a<|.r ?_
  refine .c (St1.lit0 (k':=106) (e:=148) (sz:=2) (b:=true) rfl rfl rfl rfl (by kernel_rfl) rfl rfl) ?_
  refine .c .a<|.nn<|.seq<|.r<|.c .m<|.c (.ln 148 2 48)<|.c .m<|.nn<|.block ?_
  refine .loopK (fun m σ=>(∃i:Nat,m=l.length -i∧(i≤l.length)∧σ=[(.t 3,.v (.o (.c (.own 110 2 (i))))),eD 7 (dLs l),eN 8 (l.length:Nat),eN 9 (i:Nat),(.b 110,.b 148 2 (dR ((l.take i).map rL))),eU 110])) [(110,106)] ⟨0,rfl,by omega,rfl⟩ ⟨kW,kd,kd,kd,kb 106 rfl (.dt rfl (by first|exact dR_take (rL) hx1|exact dR_take1 (rL) hx1|rfl|(simp[dR];done))),trivial⟩ ?_
  rintro m σ ⟨i,hm0,hi,rfl⟩
  refine .r<|.c .ls<|.nn<|.seq ?_
  refine .cD rfl (fun h10=>?_) (fun h10=>?_)
  · skip
    obtain⟨x,hx1⟩:∃x_,l[i]?=some x_:=⟨_,List.getElem?_eq_getElem (by omega)⟩
    refine .skip<|ks_n<|.seq<|.block<|.r<|.c (.xL 148 2 48 rfl rfl rfl rfl rfl (map_at hx1)) ?_
    refine .c (.lN 2)<|.c (.al 105 [.slice none 0 0,.slice none 0 0])<|.c (.sT 2 true)<|.nn<|.region<|.c .m<|.c (.bN 2) ?_
    refine .c (.cP [.tmp 14] rfl rfl rfl rfl (o16Loop_fn x (by have:=hs x (List.mem_of_getElem? hx1);omega)) rfl) ?_
    refine .c (.li 148 1 0 [.tmp 15]) ?_
    refine .c (St1.appB (k':=117) (e:=148) (sz:=1) (by':=48) rfl rfl rfl rfl rfl (by kernel_rfl) rfl rfl rfl rfl (by first|(simp[dR];done)|(simp[dR];omega)) (by first|(simp[dR];done)|(simp[dR];omega)) rfl rfl rfl) ?_
    refine .c .a<|.nil<|kb_n<|ks_n<|.region<|.c .pl<|.c .m<|.nil ?_
    refine kl_k [(110,117)] ⟨i+1,rfl,by omega,rfl⟩ ⟨kW,kd,kd,kd,kb 117 rfl (.dt rfl (by first|exact dR_take (rL) hx1|exact dR_take1 (rL) hx1|rfl|(simp[dR];done))),trivial⟩
  · skip
    obtain rfl:i=l.length:=by omega
    refine .exit<|ks_e<|kl_e<|kb_hit<|ks_n<|.r<|.c .m<|.c .a<|.nn<|.ret ?_
    refine kf_wret [eD 2 (dLs l)] (Wk.keep [] rfl rfl ⟨ks rfl (.c (.fz rfl (by first|(rw[List.take_length];done)|(rw[List.take_length];rfl)) (by simp) (by omega))),trivial⟩) rfl ?_ nobox
    rfl
theorem szC_le (c:Acc):szAs c.2≤szC c:=by rw[szC];omega
theorem o16Expr_fn1 (e:Ex) (h1:e.i.1.length≤1073741824) (h2:szAs e.r.2≤1073741824) (ih:Fn Tryz.prog 197 [] [vD (dEs e.ks)] (.o (vD (dEs e.ks))) []):Fn Tryz.prog 188 [] [ad (rX e)] (.o (ad (rX e))) []:=by
  refine Fn.code0 Tryz.func188 rfl rfl rfl rfl ?_
  refine .r<|.c (St1.boxB (k':=101) rfl rfl rfl rfl rfl rfl rfl)<|.c (.al 102 [.int .i64 0,.int .i64 0,.slice none 0 0,.int .i64 0,.string ByteArray.empty,.slice none 0 0,.slice none 0 0])<|.r<|.c (.fB 2 1 true)<|.c (.bN 2) ?_
  refine .c (.cP [.tmp 4] rfl rfl rfl rfl (o16Aff_fn e.i h1) rfl) ?_
  refine .c (.fB 2 1 true)<|.c (.sT 2 true)<|.r<|.c (.fB 4 1 true)<|.c (.bN 2) ?_
  refine .c (.cP [.tmp 8] rfl rfl rfl rfl (o16Acc_fn e.r h2) rfl) ?_
  refine .c (.fB 4 1 true)<|.c (.sT 2 true)<|.r<|.c (.fB 6 0 false)<|.c (.b1 1) ?_
  refine .c (.cP [.tmp 12] rfl rfl rfl rfl (ih) rfl) ?_
  refine .c (.fB 6 0 false)<|.c (.sT 1 false)<|.r<|.c (.bN 7)<|.c (.sT 7 true)<|.nn<|.ret ?_
  refine kf_ret rfl ?_ nobox
  rfl
theorem o16Exprs_fn1 (l:List Ex) (hl:l.length≤1073741824) (ih:∀x∈l,Fn Tryz.prog 188 [] [ad (rX x)] (.o (ad (rX x))) []):Fn Tryz.prog 197 [] [vD (dEs l)] (.o (vD (dEs l))) []:=by
  refine Fn.code0 Tryz.func197 rfl rfl rfl rfl ?_
  refine .r<|.c .a<|.r ?_
  refine .c (St1.lit0 (k':=106) (e:=64) (sz:=7) (b:=true) rfl rfl rfl rfl (by kernel_rfl) rfl rfl) ?_
  refine .c .a<|.nn<|.seq<|.r<|.c .m<|.c (.ln 64 7 112)<|.c .m<|.nn<|.block ?_
  refine .loopK (fun m σ=>(∃i:Nat,m=l.length -i∧(i≤l.length)∧σ=[(.t 3,.v (.o (.c (.own 110 7 (i))))),eD 7 (dEs l),eN 8 (l.length:Nat),eN 9 (i:Nat),(.b 110,.b 64 7 (dR ((l.take i).map rX))),eU 110])) [(110,106)] ⟨0,rfl,by omega,rfl⟩ ⟨kW,kd,kd,kd,kb 106 rfl (.dt rfl (by first|exact dR_take (rX) hx1|exact dR_take1 (rX) hx1|rfl|(simp[dR];done))),trivial⟩ ?_
  rintro m σ ⟨i,hm0,hi,rfl⟩
  refine .r<|.c .ls<|.nn<|.seq ?_
  refine .cD rfl (fun h10=>?_) (fun h10=>?_)
  · skip
    obtain⟨x,hx1⟩:∃x_,l[i]?=some x_:=⟨_,List.getElem?_eq_getElem (by omega)⟩
    refine .skip<|ks_n<|.seq<|.block<|.r<|.c (.xL 64 7 112 rfl rfl rfl rfl rfl (rE_at hx1)) ?_
    refine .c (.lN 7)<|.c (.al 105 [.int .i64 0,.int .i64 0,.slice none 0 0,.int .i64 0,.string ByteArray.empty,.slice none 0 0,.slice none 0 0])<|.c (.sT 7 true)<|.nn<|.region<|.c .m<|.c (.bN 7) ?_
    refine .c (.cP [.tmp 14] rfl rfl rfl rfl (ih x (List.mem_of_getElem? hx1)) rfl) ?_
    refine .c (.li 64 6 0 [.tmp 15]) ?_
    refine .c (St1.appB (k':=117) (e:=64) (sz:=6) (by':=112) rfl rfl rfl rfl rfl (by kernel_rfl) rfl rfl rfl rfl (by first|(simp[dR];done)|(simp[dR];omega)) (by first|(simp[dR];done)|(simp[dR];omega)) rfl rfl rfl) ?_
    refine .c .a<|.nil<|kb_n<|ks_n<|.region<|.c .pl<|.c .m<|.nil ?_
    refine kl_k [(110,117)] ⟨i+1,rfl,by omega,rfl⟩ ⟨kW,kd,kd,kd,kb 117 rfl (.dt rfl (by first|exact dR_take (rX) hx1|exact dR_take1 (rX) hx1|rfl|(simp[dR];done))),trivial⟩
  · skip
    obtain rfl:i=l.length:=by omega
    refine .exit<|ks_e<|kl_e<|kb_hit<|ks_n<|.r<|.c .m<|.c .a<|.nn<|.ret ?_
    refine kf_wret [eD 2 (dEs l)] (Wk.keep [] rfl rfl ⟨ks rfl (.c (.fz rfl (by rw[List.take_length];first|rfl|exact List.map_congr_left fun x _=>(rE_eq x)|exact List.map_congr_left fun x _=>(rE_eq x).symm|exact congrArg dR (List.map_congr_left fun x _=>(rE_eq x).symm)|exact congrArg dR (List.map_congr_left fun x _=>(rE_eq x))) (by simp) (by omega))),trivial⟩) rfl ?_ nobox
    rfl
theorem o16Exprs_fn:∀(m:Nat) (l:List Ex),(∀e∈l,szE e<m)→l.length≤1073741824→szEs l≤1073741824→Fn Tryz.prog 197 [] [vD (dEs l)] (.o (vD (dEs l))) []
  |0,l,h,hl,hz=>o16Exprs_fn1 l hl fun x hx=>absurd (h x hx) (by omega)
  |m+1,l,h,hl,hz=>o16Exprs_fn1 l hl fun x hx=>by
    have h1:=h x hx
    have h2:=szEs_mem hx
    rw[szE_eq]at h1 h2
    have h3:=szC_le x.r
    exact o16Expr_fn1 x (by omega) (by omega) (o16Exprs_fn m x.ks (fun y hy=>by have:=szEs_mem hy;have:=List.length_pos_of_mem hy;omega) (by omega) (by omega))
theorem o16Expr_fn (e:Ex) (he:szE e≤1073741824):Fn Tryz.prog 188 [] [ad (rX e)] (.o (ad (rX e))) []:=by
  rw[szE_eq]at he
  have h3:=szC_le e.r
  exact o16Expr_fn1 e (by omega) (by omega) (o16Exprs_fn (szEs e.ks+1) e.ks (fun y hy=>by have:=szEs_mem hy;omega) (by omega) (by omega))
theorem o16Stmt_fn (s:Stm) (hs:szS s≤1073741824):Fn Tryz.prog 165 [] [ad (rS s)] (.o (ad (rS s))) []:=by
  rw[szS]at hs
  have h3:=szC_le s.1
  refine Fn.code0 Tryz.func165 rfl rfl rfl rfl ?_
  refine .r<|.c (St1.boxB (k':=101) rfl rfl rfl rfl rfl rfl rfl)<|.c (.al 102 [.string ByteArray.empty,.slice none 0 0,.int .i64 0,.int .i64 0,.slice none 0 0,.int .i64 0,.string ByteArray.empty,.slice none 0 0,.slice none 0 0])<|.r<|.c (.fB 0 1 true)<|.c (.bN 2) ?_
  refine .c (.cP [.tmp 4] rfl rfl rfl rfl (o16Acc_fn s.1 (by omega)) rfl) ?_
  refine .c (.fB 0 1 true)<|.c (.sT 2 true)<|.r<|.c (.fB 2 6 true)<|.c (.bN 7) ?_
  refine .c (.cP [.tmp 8] rfl rfl rfl rfl (o16Expr_fn s.2 (by omega)) rfl) ?_
  refine .c (.fB 2 6 true)<|.c (.sT 7 true)<|.r<|.c (.bN 9)<|.c (.sT 9 true)<|.nn<|.ret ?_
  refine kf_ret rfl ?_ nobox
  rfl
theorem o16Stmts_fn (l:List Stm) (hl:l.length≤1073741824) (hs:∀x∈l,szS x≤1073741824):Fn Tryz.prog 131 [] [vD (dMs l)] (.o (vD (dMs l))) []:=by
  refine Fn.code0 Tryz.func131 rfl rfl rfl rfl ?_
  refine .r<|.c .a<|.r ?_
  refine .c (St1.lit0 (k':=106) (e:=66) (sz:=9) (b:=true) rfl rfl rfl rfl (by kernel_rfl) rfl rfl) ?_
  refine .c .a<|.nn<|.seq<|.r<|.c .m<|.c (.ln 66 9 152)<|.c .m<|.nn<|.block ?_
  refine .loopK (fun m σ=>(∃i:Nat,m=l.length -i∧(i≤l.length)∧σ=[(.t 3,.v (.o (.c (.own 110 9 (i))))),eD 7 (dMs l),eN 8 (l.length:Nat),eN 9 (i:Nat),(.b 110,.b 66 9 (dR ((l.take i).map rS))),eU 110])) [(110,106)] ⟨0,rfl,by omega,rfl⟩ ⟨kW,kd,kd,kd,kb 106 rfl (.dt rfl (by first|exact dR_take (rS) hx1|exact dR_take1 (rS) hx1|rfl|(simp[dR];done))),trivial⟩ ?_
  rintro m σ ⟨i,hm0,hi,rfl⟩
  refine .r<|.c .ls<|.nn<|.seq ?_
  refine .cD rfl (fun h10=>?_) (fun h10=>?_)
  · skip
    obtain⟨x,hx1⟩:∃x_,l[i]?=some x_:=⟨_,List.getElem?_eq_getElem (by omega)⟩
    refine .skip<|ks_n<|.seq<|.block<|.r<|.c (.xL 66 9 152 rfl rfl rfl rfl rfl (map_at hx1)) ?_
    refine .c (.lN 9)<|.c (.al 105 [.string ByteArray.empty,.slice none 0 0,.int .i64 0,.int .i64 0,.slice none 0 0,.int .i64 0,.string ByteArray.empty,.slice none 0 0,.slice none 0 0])<|.c (.sT 9 true)<|.nn<|.region<|.c .m<|.c (.bN 9) ?_
    refine .c (.cP [.tmp 14] rfl rfl rfl rfl (o16Stmt_fn x (hs x (List.mem_of_getElem? hx1))) rfl) ?_
    refine .c (.li 66 8 0 [.tmp 15]) ?_
    refine .c (St1.appB (k':=117) (e:=66) (sz:=8) (by':=152) rfl rfl rfl rfl rfl (by kernel_rfl) rfl rfl rfl rfl (by first|(simp[dR];done)|(simp[dR];omega)) (by first|(simp[dR];done)|(simp[dR];omega)) rfl rfl rfl) ?_
    refine .c .a<|.nil<|kb_n<|ks_n<|.region<|.c .pl<|.c .m<|.nil ?_
    refine kl_k [(110,117)] ⟨i+1,rfl,by omega,rfl⟩ ⟨kW,kd,kd,kd,kb 117 rfl (.dt rfl (by first|exact dR_take (rS) hx1|exact dR_take1 (rS) hx1|rfl|(simp[dR];done))),trivial⟩
  · skip
    obtain rfl:i=l.length:=by omega
    refine .exit<|ks_e<|kl_e<|kb_hit<|ks_n<|.r<|.c .m<|.c .a<|.nn<|.ret ?_
    refine kf_wret [eD 2 (dMs l)] (Wk.keep [] rfl rfl ⟨ks rfl (.c (.fz rfl (by first|(rw[List.take_length];done)|(rw[List.take_length];rfl)) (by simp) (by omega))),trivial⟩) rfl ?_ nobox
    rfl
theorem o16Part_fn (q:Prt) (h1:szLs q.1≤1073741824) (h2:q.2.length≤1073741824) (h3:∀x∈q.2,szS x≤1073741824):Fn Tryz.prog 92 [] [ad (rP q)] (.o (ad (rP q))) []:=by
  have hz:q.1.length≤szLs q.1:=by rw[szLs];omega
  refine Fn.code0 Tryz.func92 rfl rfl rfl rfl ?_
  refine .r<|.c (St1.boxB (k':=101) rfl rfl rfl rfl rfl rfl rfl)<|.c (.al 102 [.slice none 0 0,.slice none 0 0])<|.r<|.c (.fB 0 0 false)<|.c (.b1 1) ?_
  refine .c (.cP [.tmp 4] rfl rfl rfl rfl (o16Loops_fn q.1 (by omega) (fun x hx=>by have:=szLs_mem hx;omega)) rfl) ?_
  refine .c (.fB 0 0 false)<|.c (.sT 1 false)<|.r<|.c (.fB 1 0 false)<|.c (.b1 1) ?_
  refine .c (.cP [.tmp 8] rfl rfl rfl rfl (o16Stmts_fn q.2 h2 h3) rfl) ?_
  refine .c (.fB 1 0 false)<|.c (.sT 1 false)<|.r<|.c (.bN 2)<|.c (.sT 2 true)<|.nn<|.ret ?_
  refine kf_ret rfl ?_ nobox
  rfl
theorem o16Parts_fn (l:List Prt) (hl:l.length≤1073741824) (hs:∀x∈l,szLs x.1≤1073741824∧x.2.length≤1073741824∧∀y∈x.2,szS y≤1073741824):Fn Tryz.prog 50 [] [vD (dPts l)] (.o (vD (dPts l))) []:=by
  refine Fn.code0 Tryz.func50 rfl rfl rfl rfl ?_
  refine .r<|.c .a<|.r ?_
  refine .c (St1.lit0 (k':=106) (e:=80) (sz:=2) (b:=true) rfl rfl rfl rfl (by kernel_rfl) rfl rfl) ?_
  refine .c .a<|.nn<|.seq<|.r<|.c .m<|.c (.ln 80 2 48)<|.c .m<|.nn<|.block ?_
  refine .loopK (fun m σ=>(∃i:Nat,m=l.length -i∧(i≤l.length)∧σ=[(.t 3,.v (.o (.c (.own 110 2 (i))))),eD 7 (dPts l),eN 8 (l.length:Nat),eN 9 (i:Nat),(.b 110,.b 80 2 (dR ((l.take i).map rP))),eU 110])) [(110,106)] ⟨0,rfl,by omega,rfl⟩ ⟨kW,kd,kd,kd,kb 106 rfl (.dt rfl (by first|exact dR_take (rP) hx1|exact dR_take1 (rP) hx1|rfl|(simp[dR];done))),trivial⟩ ?_
  rintro m σ ⟨i,hm0,hi,rfl⟩
  refine .r<|.c .ls<|.nn<|.seq ?_
  refine .cD rfl (fun h10=>?_) (fun h10=>?_)
  · skip
    obtain⟨x,hx1⟩:∃x_,l[i]?=some x_:=⟨_,List.getElem?_eq_getElem (by omega)⟩
    refine .skip<|ks_n<|.seq<|.block<|.r<|.c (.xL 80 2 48 rfl rfl rfl rfl rfl (map_at hx1)) ?_
    refine .c (.lN 2)<|.c (.al 105 [.slice none 0 0,.slice none 0 0])<|.c (.sT 2 true)<|.nn<|.region<|.c .m<|.c (.bN 2) ?_
    refine .c (.cP [.tmp 14] rfl rfl rfl rfl (o16Part_fn x (hs x (List.mem_of_getElem? hx1)).1 (hs x (List.mem_of_getElem? hx1)).2.1 (hs x (List.mem_of_getElem? hx1)).2.2) rfl) ?_
    refine .c (.li 80 1 0 [.tmp 15]) ?_
    refine .c (St1.appB (k':=117) (e:=80) (sz:=1) (by':=48) rfl rfl rfl rfl rfl (by kernel_rfl) rfl rfl rfl rfl (by first|(simp[dR];done)|(simp[dR];omega)) (by first|(simp[dR];done)|(simp[dR];omega)) rfl rfl rfl) ?_
    refine .c .a<|.nil<|kb_n<|ks_n<|.region<|.c .pl<|.c .m<|.nil ?_
    refine kl_k [(110,117)] ⟨i+1,rfl,by omega,rfl⟩ ⟨kW,kd,kd,kd,kb 117 rfl (.dt rfl (by first|exact dR_take (rP) hx1|exact dR_take1 (rP) hx1|rfl|(simp[dR];done))),trivial⟩
  · skip
    obtain rfl:i=l.length:=by omega
    refine .exit<|ks_e<|kl_e<|kb_hit<|ks_n<|.r<|.c .m<|.c .a<|.nn<|.ret ?_
    refine kf_wret [eD 2 (dPts l)] (Wk.keep [] rfl rfl ⟨ks rfl (.c (.fz rfl (by first|(rw[List.take_length];done)|(rw[List.take_length];rfl)) (by simp) (by omega))),trivial⟩) rfl ?_ nobox
    rfl
theorem o16Arr_fn (x:Arr) (hx:x.2.length≤1073741824):Fn Tryz.prog 91 [] [ad (rR x)] (.o (ad (rR x))) []:=by
  refine Fn.code0 Tryz.func91 rfl rfl rfl rfl ?_
  refine .r<|.c (St1.boxB (k':=101) rfl rfl rfl rfl rfl rfl rfl)<|.c (.al 102 [.string ByteArray.empty,.slice none 0 0])<|.r ?_
  refine .c (St1.lit0 (k':=103) (e:=3) (sz:=1) (b:=true) rfl rfl rfl rfl (by kernel_rfl) rfl rfl) ?_
  refine .c (.fB 1 0 false)<|.c (.b1 1) ?_
  refine .c (St1.appB (k':=106) (e:=3) (sz:=0) (by':=8) rfl rfl rfl rfl rfl (by kernel_rfl) rfl rfl rfl rfl (by first|(simp[dR];done)|(simp[dR];omega)) (by first|(simp[dR];done)|(simp[dR];omega)) rfl rfl rfl) ?_
  refine .c (.fB 1 0 false)<|.c (.sT 1 false)<|.r<|.c (.bN 2)<|.c (.sT 2 true)<|.nn<|.ret ?_
  refine kf_wret [eB 2 100 2,(.b 100,.b 45 2 [[.d (dS x.1),.d (dIs x.2)]]),eU 100] (Wk.keep [(100,102)] rfl rfl ⟨kX,kb 102 rfl (.r2 .dt (.fz rfl (by rfl) (by simp[dIs]) (by rw[List.length_map];omega))),trivial⟩) rfl ?_ nobox
  rfl
theorem o16Arrs_fn (l:List Arr) (hl:l.length≤1073741824) (hs:∀x∈l,x.2.length≤1073741824):Fn Tryz.prog 49 [] [vD (dRs l)] (.o (vD (dRs l))) []:=by
  refine Fn.code0 Tryz.func49 rfl rfl rfl rfl ?_
  refine .r<|.c .a<|.r ?_
  refine .c (St1.lit0 (k':=106) (e:=45) (sz:=2) (b:=true) rfl rfl rfl rfl (by kernel_rfl) rfl rfl) ?_
  refine .c .a<|.nn<|.seq<|.r<|.c .m<|.c (.ln 45 2 40)<|.c .m<|.nn<|.block ?_
  refine .loopK (fun m σ=>(∃i:Nat,m=l.length -i∧(i≤l.length)∧σ=[(.t 3,.v (.o (.c (.own 110 2 (i))))),eD 7 (dRs l),eN 8 (l.length:Nat),eN 9 (i:Nat),(.b 110,.b 45 2 (dR ((l.take i).map rR))),eU 110])) [(110,106)] ⟨0,rfl,by omega,rfl⟩ ⟨kW,kd,kd,kd,kb 106 rfl (.dt rfl (by first|exact dR_take (rR) hx1|exact dR_take1 (rR) hx1|rfl|(simp[dR];done))),trivial⟩ ?_
  rintro m σ ⟨i,hm0,hi,rfl⟩
  refine .r<|.c .ls<|.nn<|.seq ?_
  refine .cD rfl (fun h10=>?_) (fun h10=>?_)
  · skip
    obtain⟨x,hx1⟩:∃x_,l[i]?=some x_:=⟨_,List.getElem?_eq_getElem (by omega)⟩
    refine .skip<|ks_n<|.seq<|.block<|.r<|.c (.xL 45 2 40 rfl rfl rfl rfl rfl (map_at hx1)) ?_
    refine .c (.lN 2)<|.c (.al 105 [.string ByteArray.empty,.slice none 0 0])<|.c (.sT 2 true)<|.nn<|.region<|.c .m<|.c (.bN 2) ?_
    refine .c (.cP [.tmp 14] rfl rfl rfl rfl (o16Arr_fn x (by have:=hs x (List.mem_of_getElem? hx1);omega)) rfl) ?_
    refine .c (.li 45 1 0 [.tmp 15]) ?_
    refine .c (St1.appB (k':=117) (e:=45) (sz:=1) (by':=40) rfl rfl rfl rfl rfl (by kernel_rfl) rfl rfl rfl rfl (by first|(simp[dR];done)|(simp[dR];omega)) (by first|(simp[dR];done)|(simp[dR];omega)) rfl rfl rfl) ?_
    refine .c .a<|.nil<|kb_n<|ks_n<|.region<|.c .pl<|.c .m<|.nil ?_
    refine kl_k [(110,117)] ⟨i+1,rfl,by omega,rfl⟩ ⟨kW,kd,kd,kd,kb 117 rfl (.dt rfl (by first|exact dR_take (rR) hx1|exact dR_take1 (rR) hx1|rfl|(simp[dR];done))),trivial⟩
  · skip
    obtain rfl:i=l.length:=by omega
    refine .exit<|ks_e<|kl_e<|kb_hit<|ks_n<|.r<|.c .m<|.c .a<|.nn<|.ret ?_
    refine kf_wret [eD 2 (dRs l)] (Wk.keep [] rfl rfl ⟨ks rfl (.c (.fz rfl (by first|(rw[List.take_length];done)|(rw[List.take_length];rfl)) (by simp) (by omega))),trivial⟩) rfl ?_ nobox
    rfl
structure OwnG0 (g:Prg):Prop where
  n1:g.1.length≤1073741824
  n2:g.2.length≤1073741824
  arr:∀x∈g.1,x.2.length≤1073741824
  part:∀x∈g.2,szLs x.1≤1073741824∧x.2.length≤1073741824∧∀y∈x.2,szS y≤1073741824
theorem o16Prg_fn (g:Prg) (hG:OwnG0 g):Fn Tryz.prog 19 [] [ad (rG g)] (.o (ad (rG g))) []:=by
  refine Fn.code0 Tryz.func19 rfl rfl rfl rfl ?_
  refine .r<|.c (St1.boxB (k':=101) rfl rfl rfl rfl rfl rfl rfl)<|.c (.al 102 [.slice none 0 0,.slice none 0 0])<|.r<|.c (.fB 0 0 false)<|.c (.b1 1) ?_
  refine .c (.cP [.tmp 4] rfl rfl rfl rfl (o16Arrs_fn g.1 hG.n1 hG.arr) rfl) ?_
  refine .c (.fB 0 0 false)<|.c (.sT 1 false)<|.r<|.c (.fB 1 0 false)<|.c (.b1 1) ?_
  refine .c (.cP [.tmp 8] rfl rfl rfl rfl (o16Parts_fn g.2 hG.n2 hG.part) rfl) ?_
  refine .c (.fB 1 0 false)<|.c (.sT 1 false)<|.r<|.c (.bN 2)<|.c (.sT 2 true)<|.nn<|.ret ?_
  refine kf_ret rfl ?_ nobox
  rfl
theorem rG_plain (s:Prg):(rG s).all noTree=true:=rfl
theorem rG_nsl (s:Prg):∀v,D.val v∈rG s→nsl v=true:=fun v hv=>by
  have:rG s=[dRs s.1,dPts s.2]:=rfl
  rw[this]at hv
  simp[dRs,dPts]at hv
theorem sum_le {α:Type} {f:α→Nat} {l:List α} {x:α} (h:x∈l):f x≤(l.map f).sum:=by
  induction l with
  |nil=>cases h
  |cons y l ih=>
    rw[List.map_cons,List.sum_cons]
    rcases List.mem_cons.1 h with rfl|h
    ·omega
    ·have:=ih h;omega
theorem szG_parts {g:Prg} {m:Nat} (h:szG g≤m):g.1.length≤m∧g.2.length≤m∧(∀x∈g.1,x.2.length≤m)∧∀x∈g.2,szLs x.1≤m∧x.2.length≤m∧∀y∈x.2,szS y≤m:=by
  rw[szG,szO,szO]at h
  refine⟨by omega,by omega,fun x hx=>?_,fun x hx=>?_⟩
  · have h1:szR x≤(g.1.map szR).sum:=sum_le hx
    simp only[szR]at h1
    omega
  · have h1:szPt x≤(g.2.map szPt).sum:=sum_le hx
    rw[szPt,szO]at h1
    exact⟨by omega,by omega,fun y hy=>by have h2:szS y≤(x.2.map szS).sum:=sum_le hy;omega⟩
theorem heldG_ok {g:Prg} (h:szG g≤1048576):Fn Tryz.prog 12 [] [ad (mkV mTx 1 (rG g)),nat1 1] (.o (nat1 (1+(wgtV (rG g):Nat)))) []:=by
  obtain⟨h1,h2,h3,h4⟩:=szG_parts h
  have hw:wgtV (rG g)≤5 *szG g:=wgt_prg g
  exact heldG_fn g (heldArrs (by omega) fun x hx=>by have:=h3 x hx;omega) (heldPts (by omega) fun x hx=>⟨by have:=(h4 x hx).1;omega,by have:=(h4 x hx).2.1;omega,fun y hy=>by have:=(h4 x hx).2.2 y hy;omega⟩) (by omega)
set_option maxHeartbeats 3200000 in
theorem markPrgV_u (x:Prg):MarkVU Tryz.prog 11 (rG x):=by
  intro S w vs k h hS hk0 hw
  obtain⟨u0,l0,rfl,hl0⟩:=len_cons h.1
  obtain⟨u1,l1,rfl,hl1⟩:=len_cons hl0
  obtain rfl:=len_zero hl1
  clear hl0 hl1
  have ew:wgtV (rG x)=wgt (dRs x.1)+(wgt (dPts x.2)):=rfl
  have em:mkV mTx k (rG x)=[mkD mTx (k) (dRs x.1)]++([mkD mTx (k+(wgt (dRs x.1):Nat)) (dPts x.2)]):=rfl
  rw[ew]at hw ⊢
  rw[em]
  obtain⟨c0,hc0,q0⟩:∃c,wgt (dRs x.1)=c∧MarkU Tryz.prog mTx 34 (dRs x.1) c:=⟨_,rfl,markArrs_u x.1⟩
  obtain⟨c1,hc1,q1⟩:∃c,wgt (dPts x.2)=c∧MarkU Tryz.prog mTx 35 (dPts x.2) c:=⟨_,rfl,markPts_u x.2⟩
  rw[hc0,hc1]at hw ⊢
  have M0:=marked_of ((Below.refl w.heap.size w).alloc (Nat.le_refl _) (.cells #[u0,u1] 30)) S
  have HM0:=hid M0;have HB:=hid (heap_alloc_new w (.cells #[u0,u1] 30))
  have HS:=hid hS
  have HU0:=hid (h.fwd ((Below.refl w.heap.size w).alloc (Nat.le_refl _) (.cells #[u0,u1] 30)))
  have HW:=hid hw;clear hw
  clear h hS M0 ew em
  go_enter Tryz.func11,Tryz.ntmps11
  go_wp2_with fail
  obtain⟨T0,d0,s0,p0⟩:=HU0.out.part (j:=0) rfl rfl
  refine(q0 T0 _ _ _ d0 (by have:=HW.out;omega) (by have:=HW.out;omega)).mono ?_
  rintro e w1 ⟨rfl,m0,y0⟩
  have HU1:=hid (p0 _ _ m0 y0)
  have HM1:=hid (HM0.out.trans (m0.sub s0))
  have HB1:=hid ((m0.old w.heap.size (by simp) (fun h=>absurd (HS.out _ (s0 _ h)) (by omega))).trans HB.out)
  have e0:w1.cell? ⟨w.heap.size,0,none⟩=some u0:=by rw[cell_of_row w1 _ _ _ _ _ HB1.out];rfl
  have e1:w1.cell? ⟨w.heap.size,1,none⟩=some u1:=by rw[cell_of_row w1 _ _ _ _ _ HB1.out];rfl
  clear m0 y0 p0 d0
  go_wp2_with fail
  clear e0 e1
  obtain⟨T1,d1,s1,p1⟩:=HU1.out.part (j:=1) rfl rfl
  refine(q1 T1 _ _ _ d1 (by have:=HW.out;omega) (by have:=HW.out;omega)).mono ?_
  rintro e w2 ⟨rfl,m1,y1⟩
  have HU2:=hid (p1 _ _ m1 y1)
  have HM2:=hid (HM1.out.trans (m1.sub s1))
  clear m1 y1 p1 d1
  go_wp2_with fail
  go_ret
  have hw:=HW.out
  exact⟨ret_int (by omega),HM2.out,HU2.out⟩
set_option maxHeartbeats 3200000 in
theorem markPrgV_k (x:Prg):MarkVK Tryz.prog 11 (rG x):=by
  intro S w vs k h hS hk0 hw
  obtain⟨u0,l0,rfl,hl0⟩:=len_cons h.1
  obtain⟨u1,l1,rfl,hl1⟩:=len_cons hl0
  obtain rfl:=len_zero hl1
  clear hl0 hl1
  have ew:wgtV (rG x)=wgt (dRs x.1)+(wgt (dPts x.2)):=rfl
  rw[ew]at hw ⊢
  obtain⟨c0,hc0,q0⟩:∃c,wgt (dRs x.1)=c∧MarkN Tryz.prog 34 (dRs x.1) c:=⟨_,rfl,markArrs_k x.1⟩
  obtain⟨c1,hc1,q1⟩:∃c,wgt (dPts x.2)=c∧MarkN Tryz.prog 35 (dPts x.2) c:=⟨_,rfl,markPts_k x.2⟩
  have M0:=marked_of ((Below.refl w.heap.size w).alloc (Nat.le_refl _) (.cells #[u0,u1] 30)) S
  have HM0:=hid M0;have HB:=hid (heap_alloc_new w (.cells #[u0,u1] 30))
  have HS:=hid hS
  have HU0:=hid (DrKs.mark h M0)
  have HW:=hid hw;clear hw
  clear h hS M0 ew
  go_enter Tryz.func11,Tryz.ntmps11
  go_wp2_with fail
  refine(q0 S _ _ _ (HU0.out.2 0 _ _ rfl rfl) (by have:=HW.out;omega) (by have:=HW.out;omega)).mono ?_
  rintro e w1 ⟨rfl,m0⟩
  have HU1:=hid (DrKs.mark HU0.out m0)
  have HM1:=hid (HM0.out.trans m0)
  have HB1:=hid ((m0.old w.heap.size (by simp) (fun h=>absurd (HS.out _ h) (by omega))).trans HB.out)
  have e0:w1.cell? ⟨w.heap.size,0,none⟩=some u0:=by rw[cell_of_row w1 _ _ _ _ _ HB1.out];rfl
  have e1:w1.cell? ⟨w.heap.size,1,none⟩=some u1:=by rw[cell_of_row w1 _ _ _ _ _ HB1.out];rfl
  clear m0
  go_wp2_with fail
  clear e0 e1
  refine(q1 S _ _ _ (HU1.out.2 1 _ _ rfl rfl) (by have:=HW.out;omega) (by have:=HW.out;omega)).mono ?_
  rintro e w2 ⟨rfl,m1⟩
  have HU2:=hid (DrKs.mark HU1.out m1)
  have HM2:=hid (HM1.out.trans m1)
  clear m1
  go_wp2_with fail
  go_ret
  have hw:=HW.out
  exact⟨ret_int (by omega),HM2.out⟩
theorem prgV_part {g:Prg} (h:prgV g=true) {x:Prt} (hx:x∈g.2):prtV g.1 x=true:=by
  unfold prgV prgS at h
  simp only[Bool.and_eq_true,decide_eq_true_eq,List.all_eq_true]at h
  exact h.1.2.2 x hx
theorem own_of {g:Prg} (hs:szG g≤1048576) (hv:prgV g=true):OwnG g:=by
  obtain⟨h1,h2,h3,h4⟩:=szG_parts hs
  refine⟨by omega,by omega,fun x hx=>by have:=h3 x hx;omega,fun x hx=>⟨by have:=(h4 x hx).1;omega,by have:=(h4 x hx).2.1;omega,fun y hy=>by have:=(h4 x hx).2.2 y hy;omega,fun y hy=>mapS_id ((prtV_iff.1 (prgV_part hv hx)).2.2.1 y hy)⟩⟩
theorem own0_of {g:Prg} (hs:szG g≤1048576):OwnG0 g:=by
  obtain⟨h1,h2,h3,h4⟩:=szG_parts hs
  exact⟨by omega,by omega,fun x hx=>by have:=h3 x hx;omega,fun x hx=>⟨by have:=(h4 x hx).1;omega,by have:=(h4 x hx).2.1;omega,fun y hy=>by have:=(h4 x hx).2.2 y hy;omega⟩⟩
theorem copy_of (g:Prg) (hv:prgV g=true) (hs:szG g≤1073741824):Fn Tryz.prog 21 [] [ad (rG g)] (.o (ad (rG g))) []:=by
  obtain⟨h1,h2,h3,h4⟩:=szG_parts hs
  exact l4Copy_fn g h1 h2 h3 fun x hx=>⟨smN_of (okP_iff.1 (prtV_iff.1 (prgV_part hv hx)).1).1,(h4 x hx).2.1,(h4 x hx).2.2⟩
def hb2 (e:TypeId) (sz:Nat) (e2:TypeId) (sz2:Nat) (rows:List (List C)) (rows2:List (List D)):St:=[(.b 101,.b e sz rows),(.u 101,.u),(.b 102,.b e2 sz2 (dR rows2)),(.u 102,.u)]
section
variable {e e2 : TypeId} {sz sz2 : Nat} {rows : List (List C)} {rows2 : List (List D)} {k : Nat}
theorem hb2_b {e':TypeId} {sz':Nat} {rows':List (List C)} (h:lk (hb2 e sz e2 sz2 rows rows2) (.b k)= .b e' sz' rows'):(k=101∧e'=e∧sz'=sz∧rows'=rows)∨(k=102∧e'=e2∧sz'=sz2∧rows'=dR rows2):=by
  unfold hb2 at h
  rw[lk_cons]at h
  by_cases hk:k=101
  ·subst hk;rw[upd_same]at h;cases h;exact .inl ⟨rfl,rfl,rfl,rfl⟩
  · rw[upd_other _ _ (by simpa using hk),lk_cons,upd_other _ _ (by simp),lk_cons]at h
    by_cases hk2:k=102
    ·subst hk2;rw[upd_same]at h;cases h;exact .inr ⟨rfl,rfl,rfl,rfl⟩
    ·rw[upd_other _ _ (by simpa using hk2),lk_cons,upd_other _ _ (by simp)]at h;cases h
theorem hb2_al (h:Al (lk (hb2 e sz e2 sz2 rows rows2)) k):k=101∨k=102:=by
  obtain⟨_,_,_,h⟩:=h
  exact(hb2_b h).imp (·.1) (·.1)
theorem hb2_u (h:lk (hb2 e sz e2 sz2 rows rows2) (.u k)≠ .no):k=101∨k=102:=by
  unfold hb2 at h
  rw[lk_cons,upd_other _ _ (by simp),lk_cons]at h
  by_cases hk:k=101
  ·exact .inl hk
  · rw[upd_other _ _ (by simpa using hk),lk_cons,upd_other _ _ (by simp),lk_cons]at h
    by_cases hk2:k=102
    ·exact .inr hk2
    ·rw[upd_other _ _ (by simpa using hk2)]at h;exact absurd rfl h
theorem hb2_HB (hr:∀r∈rows,∀c∈r,∀l∈c.refs,l=102):HB (hb2 e sz e2 sz2 rows rows2):=
  HB.cons HB.nil.data fun r hr' c hc l hl=>by
    rw[hr r hr' c hc l hl,lk_cons,upd_other _ _ (by simp),lk_cons,upd_other _ _ (by simp),lk_cons,upd_same]
    exact fun e=>by cases e
end
def FnH {ι:Type} (P:Program) (f:FuncId) (args:List V1) (fr:ι→(Nat→Prop)→Prop) (y:ι→V) (e:TypeId) (sz:Nat) (e2:TypeId) (sz2:Nat) (rows:ι→List (List C)) (rows2:ι→List (List D)):Prop:=
  ∀(B:Nat→Prop) (bx:Nat→Nat×Nat) (w:World) (vs:List Value),Vals (V1r bx0 al0 B w) args vs→
    Calls P f vs.toArray w fun x w'=>∃v bx' i,x= .returned v∧HPost bx bx' B w w' (lk []) (lk (hb2 e sz e2 sz2 (rows i) (rows2 i))) (y i) v∧fr i (fun b=>B b∧b<w.heap.size)
def KfinH {ι:Type} (P:Program) (res:Array ResultVar) (O:Nat→Prop) (fr:ι→(Nat→Prop)→Prop) (y:ι→V) (e:TypeId) (sz:Nat) (e2:TypeId) (sz2:Nat) (rows:ι→List (List C)) (rows2:ι→List (List D)):Exit→St→Prop
  | .normal,σ| .ret,σ=>∃σ2 xs i,Wk σ σ2∧resL σ2 P res.toList=some xs∧tupV xs=y i∧lk σ2 (.b 101)= .b e sz (rows i)∧lk σ2 (.b 102)= .b e2 sz2 (dR (rows2 i))∧fr i O
  |_,_=>False
section
variable {ι : Type} {P : Program} {fr : ι → (Nat → Prop) → Prop} {y : ι → V} {e e2 : TypeId} {sz sz2 : Nat} {rows : ι → List (List C)} {rows2 : ι → List (List D)}
theorem kh_wret {res:Array ResultVar} {O:Nat→Prop} {σ:St} {xs:List V1} (i:ι) (σ2:St) (hw:Wk σ σ2) (hr:resL σ2 P res.toList=some xs) (hy:tupV xs=y i) (hb:lk σ2 (.b 101)= .b e sz (rows i)) (hb2:lk σ2 (.b 102)= .b e2 sz2 (dR (rows2 i))) (hf:fr i O):KfinH P res O fr y e sz e2 sz2 rows rows2 .ret σ:=⟨σ2,xs,i,hw,hr,hy,hb,hb2,hf⟩
theorem FnH.of_code {f:FuncId} {fn:Func} {c:Code} {args:List V1} (hf:P.funcs[f]?=some fn) (hbd:fn.body=some c) (hn:(Nat.ble args.length 9000&&Nat.ble args.length fn.ntmps)=true) (href:noRefs args=true)
    (h:∀O:Nat→Prop,ACode P fn.ntmps c (KfinH P fn.results O fr y e sz e2 sz2 rows rows2) (argS 0 args++ghS O)):FnH P f args fr y e sz e2 sz2 rows rows2:=by
  intro B bx w vs hv
  rw[Bool.and_eq_true]at hn
  have hn1:=Nat.le_of_ble_eq_true hn.1
  have hn':=Nat.le_of_ble_eq_true hn.2
  refine calls_of_wp hf hbd ?_
  let E:Env:={w:=w,B:=B,n:=fn.ntmps,mt:=[]}
  let O:Nat→Prop:=fun b=>B b∧b<w.heap.size
  have hslot:∀ {args:List V1} {i t:Nat} {x:V},i+args.length≤9000→lk (argS i args++ghS O) (.t t)= .v x→(∃a,i≤t∧args[t -i]?=some a∧x= .o a)∨x= .gh O:=by
    intro args
    induction args with
    |nil=>
      intro i t x _ h
      rw[argS,List.nil_append,ghS,lk_cons]at h
      by_cases e:t=9999
      ·subst e;rw[upd_same]at h;cases h;exact .inr rfl
      ·rw[upd_other _ _ (by simpa using e)]at h;cases h
    |cons a l ih=>
      intro i t x hl h
      rw[argS,List.cons_append,lk_cons]at h
      rw[List.length_cons]at hl
      by_cases e:t=i
      ·subst e;rw[upd_same]at h;cases h;exact .inl ⟨a,Nat.le_refl _,by simp,rfl⟩
      · rw[upd_other _ _ (by simpa using e)]at h
        rcases ih (by omega) h with⟨b,h1,h2,h3⟩|h
        ·exact .inl ⟨b,by omega,by rw[show t -i=(t -(i+1))+1 by omega,List.getElem?_cons_succ];exact h2,h3⟩
        ·exact .inr h
  have hother:∀ {args:List V1} {i:Nat} {r:Res},(∀t,r≠ .t t)→lk (argS i args++ghS O) r= .no:=by
    intro args
    induction args with
    |nil=>intro i r hr;rw[argS,List.nil_append,ghS,lk_cons,upd_other _ _ (hr _)];rfl
    |cons a l ih=>intro i r hr;rw[argS,List.cons_append,lk_cons,upd_other _ _ (hr _)];exact ih hr
  have hno:∀k,¬Al (lk (argS 0 args++ghS O)) k:=fun k ⟨e,sz,rows,h⟩=>by rw[hother (by simp)]at h;cases h
  have hbf:∀b,B b→Bf E (fun _=>(0,0)) (lk (argS 0 args++ghS O)) b:=fun b hb=>⟨.inl hb,fun k hk=>(hno k hk).elim⟩
  have hSR:SR E (fun _=>(0,0)) (lk (argS 0 args++ghS O)) {tmps:=vs.toArray++Array.replicate (fn.ntmps -vs.toArray.size) undef,defers:=[]} w:=by
    refine⟨fun t x ht=>?_,fun k e sz rows hk=>?_,fun k l hk hl=>(hno k hk).elim,fun k hk=>?_,?_,rfl,fun k hk=>(hno k hk).elim,fun p hp=>(by cases hp),fun k g hm hk=>(by cases hm),rfl,rfl,rfl,Nat.le_refl _,fun b hb hm=>rfl⟩
    · rcases hslot (by omega) ht with⟨a,_,h1,rfl⟩|rfl
      · rw[Nat.sub_zero]at h1
        have hl:t<args.length:=(List.getElem?_eq_some_iff.1 h1).1
        have hvl:t<vs.length:=by rw[hv.1];exact hl
        have h2:=hv.2 t a _ h1 (List.getElem?_eq_getElem hvl)
        have h3:(vs.toArray++Array.replicate (fn.ntmps -vs.toArray.size) undef).getD t undef=vs[t]:=by
          rw[Array.getD_eq_getD_getElem?,Array.getElem?_append_left (by simpa using hvl)]
          simp[hvl]
        show V1r _ _ _ w a _
        rw[h3]
        exact h2.to (Same.refl _ _) (fun b hb _=>hbf b hb) (fun k hk=>by rw[noRefs_at href (List.mem_of_getElem? h1)]at hk;cases hk)
      ·exact fun b hb=>⟨hbf b hb.1,hb.2⟩
    ·rw[hother (by simp)]at hk;cases hk
    · refine⟨hno k,fun t x ht hr=>?_,fun l e sz rows hl=>?_⟩
      · rcases hslot (by omega) ht with⟨a,_,h1,rfl⟩|rfl
        · have:=noRefs_at href (List.mem_of_getElem? h1)
          have hr':k∈a.refs:=hr
          rw[this]at hr';cases hr'
        ·cases hr
      ·rw[hother (by simp)]at hl;cases hl
    · show (vs.toArray++Array.replicate (fn.ntmps -vs.toArray.size) undef).size=fn.ntmps
      simp[hv.1];omega
  refine wp_mono (h O E _ _ w rfl hSR) ?_
  rintro x a' w' ⟨σ',bx',hK,hs⟩
  have key:(∃σ2 xs i,Wk σ' σ2∧resL σ2 P fn.results.toList=some xs∧tupV xs=y i∧lk σ2 (.b 101)= .b e sz (rows i)∧lk σ2 (.b 102)= .b e2 sz2 (dR (rows2 i))∧fr i O)→a'.defers=[]∧∃v,(results fn a'.tmps).run P w'= .ok v w'∧∃v' bx' i,Ending.returned v= .returned v'∧HPost bx bx' B w w' (lk []) (lk (hb2 e sz e2 sz2 (rows i) (rows2 i))) (y i) v'∧fr i O:=by
    rintro⟨σ2,xs,i,hwk,hres,hy,hbox1,hbox2,hfr⟩
    obtain⟨bx2,hs2⟩:=hwk E bx' a' w' hs
    obtain⟨v,hrun,hvr⟩:=results_ok hres hs2
    rw[hy]at hvr
    have hbox:∀k e' sz' rows',lk (hb2 e sz e2 sz2 (rows i) (rows2 i)) (.b k)= .b e' sz' rows'→lk σ2 (.b k)= .b e' sz' rows':=fun k e' sz' rows' h=>by
      rcases hb2_b h with⟨rfl,rfl,rfl,rfl⟩|⟨rfl,rfl,rfl,rfl⟩
      ·exact hbox1
      ·exact hbox2
    have hal':∀k,Al (lk (hb2 e sz e2 sz2 (rows i) (rows2 i))) k→Al (lk σ2) k:=fun k ⟨e,sz,rows,hk⟩=>⟨e,sz,rows,hbox k e sz rows hk⟩
    have hbaft:∀b,Bf E bx2 (lk σ2) b→b<w'.heap.size→Baft bx2 B w (lk (hb2 e sz e2 sz2 (rows i) (rows2 i))) b:=fun b hb _=>⟨hb.1,fun k hk=>hb.2 k (hal' k hk)⟩
    refine⟨hs2.defers,v,hrun,v,bx2,i,rfl,⟨⟨fun k e sz rows hk=>?_,fun k l hk hl=>hs2.inj k l (hal' k hk) (hal' l hl),fun k hk hb=>hb.2 k hk rfl⟩,hvr.to (Same.refl _ _) hbaft (fun k hk hk'=>⟨hal' k hk',rfl⟩),hs2.os,hs2.tape,hs2.output,hs2.hsize,fun b hb1 hb2=>hs2.old b hb1 (fun k g hm=>by cases hm),fun k hk hk'=>absurd (hb2_al hk') (by omega),fun k hk=>?_⟩,hfr⟩
    · obtain⟨cur,h1,h2,h3,h4,h5⟩:=hs2.box k e sz rows (hbox k e sz rows hk)
      refine⟨cur,h1,h2,h3,h4,fun i r j c hi hj=>?_⟩
      obtain⟨u,h6,h7⟩:=h5 i r j c hi hj
      exact⟨u,h6,h7.to (Same.refl _ _) hbaft (fun k hk hk'=>⟨hal' k hk',rfl⟩)⟩
    · rcases hs2.own k (hal' k hk)with h1|⟨_,p,hp,h1⟩
      ·exact .inl h1
      ·cases hp
  cases x with
  |normal=>exact key hK
  |ret=>exact key hK
  |_=>exact hK.elim
variable {n : Nat} {ops : Array Oper} {l : List Oper} {o : Oper} {K : St → Prop} {σ : St}
theorem AOps.callH {d:Nat} {fo:Operand} {ar:Array Operand} {ts:Array TypeId} (nb nb2:Nat) (xs:List Operand) {vs:List V1} {f:FuncId} {cap:List (List D)}
    (ho:o.op= .call {callee:=.value fo,args:=ar,argTypes:=ts}) (hg:o.guard=none) (hd:o.dst=some d) (hn:Nat.blt d n=true) (has:ar=xs.toArray) (hfo:ev σ fo=some (.o (.c (.fn f cap)))) (hcall:callable P f=true) (hx:evL σ xs=some vs)
    (hF:FnH P f (vs++cap.map fun c=>.c (.ptr c)) fr y e sz e2 sz2 rows rows2) (href:noRefs vs=true) (hy:∀i,∀k∈(y i).refs,k=101∨k=102) (hrr:∀i,∀r∈rows i,∀c∈r,∀l∈c.refs,l=102) (hnb:Nat.ble 100 nb=true) (hun:lk σ (.u nb)= .no) (hnb2:Nat.ble 100 nb2=true) (hun2:lk σ (.u nb2)= .no) (hne:Nat.beq nb nb2=false) {rows':ι→List (List C)} (hren:∀i,renR (asc [(101,nb),(102,nb2)]) (rows i)=rows' i)
    (k:∀i O,fr i O→(∀S,Has σ S→∀b,S b→O b)→AOps P n ops l K ((.t d,.v ((y i).ren (asc [(101,nb),(102,nb2)])))::(.b nb,.b e sz (rows' i))::(.u nb,.u)::(.b nb2,.b e2 sz2 (dR (rows2 i)))::(.u nb2,.u)::σ)):AOps P n ops (o::l) K σ:=by
  intro E bx a w hE hs Q hQ
  refine wpList_step fun KK hKK=>(OW.plain hg fun Q'=>?_:OW P ops o a w KK) Q
  obtain⟨cvs,hfe,hcl,hcv⟩:=fnx_ok (bx:=bx) (al:=Al (lk σ)) (show fnx (.fn f cap)=some (f,cap.map fun c=>.c (.ptr c))from rfl) (ev_ok hfo (fun _ _=>rfl) hs).1
  obtain⟨⟨q1,q2⟩,_⟩:=evL_ok hx (fun _ _=>rfl) hs
  subst has
  have hvals:Vals (V1r bx0 al0 (Bf E bx (lk σ)) w) (vs++cap.map fun c=>.c (.ptr c)) (xs.map a.eval++cvs):=by
    refine⟨by rw[List.length_append,q1,hcl,List.length_append],fun i x v hx hv=>?_⟩
    rw[List.getElem?_append]at hx hv
    by_cases hi:i<vs.length
    · rw[if_pos hi]at hx
      rw[if_pos (by rw[q1];exact hi)]at hv
      exact(q2 i x v hx hv).to (Same.refl _ _) (fun _ h _=>h) (fun k hk=>by rw[noRefs_at href (List.mem_of_getElem? hx)]at hk;cases hk)
    · rw[if_neg hi]at hx
      rw[if_neg (by rw[q1];exact hi),q1]at hv
      refine(hcv _ _ v hx hv).to (Same.refl _ _) (fun _ h _=>h) (fun k hk=>?_)
      obtain⟨c,_,rfl⟩:=List.mem_map.1 (List.mem_of_getElem? hx)
      cases hk
  unfold Oper.wp
  rw[run_callV hcall ho hfe w,Oper.upon_enter,hd,show xs.toArray.map a.eval++cvs.toArray=(xs.map a.eval++cvs).toArray by simp]
  refine(hF (Bf E bx (lk σ)) (fun k=>bx (asc [(101,nb),(102,nb2)] k)) w _ hvals).mono ?_
  rintro x w' ⟨v,bxc,i,rfl,hpost,hfr⟩
  have hne':nb≠nb2:=fun e=>by rw[e]at hne;simp at hne
  have h100:asc [(101,nb),(102,nb2)] 101=nb:=by simp[asc,oldOf]
  have h102:asc [(101,nb),(102,nb2)] 102=nb2:=by simp[asc,oldOf]
  have l1:∀t,lk ((.b nb,.b e sz (renR (asc [(101,nb),(102,nb2)]) (rows i)))::(.u nb,.u)::(.b nb2,.b e2 sz2 (dR (rows2 i)))::(.u nb2,.u)::σ) (.t t)=lk σ (.t t):=fun t=>by rw[lk_cons,upd_other _ _ (by simp),lk_cons,upd_other _ _ (by simp),lk_cons,upd_other _ _ (by simp),lk_cons,upd_other _ _ (by simp)]
  have l2:lk ((.b nb,.b e sz (renR (asc [(101,nb),(102,nb2)]) (rows i)))::(.u nb,.u)::(.b nb2,.b e2 sz2 (dR (rows2 i)))::(.u nb2,.u)::σ) (.b nb)= .b e sz (renR (asc [(101,nb),(102,nb2)]) (rows i)):=by rw[lk_cons,upd_same]
  have l3:lk ((.b nb,.b e sz (renR (asc [(101,nb),(102,nb2)]) (rows i)))::(.u nb,.u)::(.b nb2,.b e2 sz2 (dR (rows2 i)))::(.u nb2,.u)::σ) (.b nb2)= .b e2 sz2 (dR (rows2 i)):=by rw[lk_cons,upd_other _ _ (by simpa using fun e=>hne' e.symm),lk_cons,upd_other _ _ (by simp),lk_cons,upd_same]
  have l4:∀l,l≠nb→l≠nb2→lk ((.b nb,.b e sz (renR (asc [(101,nb),(102,nb2)]) (rows i)))::(.u nb,.u)::(.b nb2,.b e2 sz2 (dR (rows2 i)))::(.u nb2,.u)::σ) (.b l)=lk σ (.b l):=fun l e1 e2=>by rw[lk_cons,upd_other _ _ (by simpa using e1),lk_cons,upd_other _ _ (by simp),lk_cons,upd_other _ _ (by simpa using e2),lk_cons,upd_other _ _ (by simp)]
  have u1:lk ((.b nb,.b e sz (renR (asc [(101,nb),(102,nb2)]) (rows i)))::(.u nb,.u)::(.b nb2,.b e2 sz2 (dR (rows2 i)))::(.u nb2,.u)::σ) (.u nb)= .u:=by rw[lk_cons,upd_other _ _ (by simp),lk_cons,upd_same]
  have u2:lk ((.b nb,.b e sz (renR (asc [(101,nb),(102,nb2)]) (rows i)))::(.u nb,.u)::(.b nb2,.b e2 sz2 (dR (rows2 i)))::(.u nb2,.u)::σ) (.u nb2)= .u:=by rw[lk_cons,upd_other _ _ (by simp),lk_cons,upd_other _ _ (by simpa using fun e=>hne' e.symm),lk_cons,upd_other _ _ (by simp),lk_cons,upd_same]
  have u3:∀l,l≠nb→l≠nb2→lk ((.b nb,.b e sz (renR (asc [(101,nb),(102,nb2)]) (rows i)))::(.u nb,.u)::(.b nb2,.b e2 sz2 (dR (rows2 i)))::(.u nb2,.u)::σ) (.u l)=lk σ (.u l):=fun l e1 e2=>by rw[lk_cons,upd_other _ _ (by simp),lk_cons,upd_other _ _ (by simpa using e1),lk_cons,upd_other _ _ (by simp),lk_cons,upd_other _ _ (by simpa using e2)]
  obtain⟨τn,hτn⟩:∃τn,τn=lk ((.b nb,.b e sz (renR (asc [(101,nb),(102,nb2)]) (rows i)))::(.u nb,.u)::(.b nb2,.b e2 sz2 (dR (rows2 i)))::(.u nb2,.u)::σ):=⟨_,rfl⟩
  rw[←hτn]at l1 l2 l3 l4 u1 u2 u3
  have hKn:∀k,k=101∨k=102→τn (.u (asc [(101,nb),(102,nb2)] k))≠ .no:=fun k hk=>by
    rcases hk with rfl|rfl
    ·rw[h100,u1];exact fun e=>by cases e
    ·rw[h102,u2];exact fun e=>by cases e
  obtain ⟨bxn, hsn, hvn⟩ := SR.called (τn := τn) (ρ := asc [(101, nb), (102, nb2)]) (K := fun k => k = 101 ∨ k = 102) hs hpost (fun k ⟨_, _, _, h⟩ => by cases h) (fun k l hk hl e => by
      rcases hk with rfl|rfl<;>rcases hl with rfl|rfl
      ·rfl
      ·rw[h100,h102]at e;exact absurd e hne'
      ·rw[h100,h102]at e;exact absurd e.symm hne'
      ·rfl) (fun k ⟨_,_,_,h⟩=>by cases h) (fun k h=>hb2_u h) (hb2_HB (hrr i)) (hy i) l1
    (fun k e' sz' rows' h=>by
      rcases hb2_b h with⟨rfl,rfl,rfl,rfl⟩|⟨rfl,rfl,rfl,rfl⟩
      ·rw[h100,l2]
      ·rw[h102,l3,renR_dR])
    (fun l e' sz' rows' h=>by
      by_cases hl:l=nb
      · subst hl
        rw[l2]at h;cases h
        exact .inl ⟨101,rows i,h100.symm,by unfold hb2;rw[lk_cons,upd_same],rfl⟩
      · by_cases hl2:l=nb2
        · subst hl2
          rw[l3]at h;cases h
          exact .inl ⟨102,dR (rows2 i),h102.symm,by unfold hb2;rw[lk_cons,upd_other _ _ (by simp),lk_cons,upd_other _ _ (by simp),lk_cons,upd_same],by rw[renR_dR]⟩
        · rw[l4 l hl hl2]at h
          exact .inr ⟨fun k hk e=>by
            rcases hk with rfl|rfl
            ·exact hl (by rw[e,h100])
            ·exact hl2 (by rw[e,h102]),h⟩)
    (fun k h=>hKn k (hb2_u h))
    (fun l h=>by
      by_cases hl:l=nb
      ·subst hl;rw[u1]at h;cases h
      · by_cases hl2:l=nb2
        ·subst hl2;rw[u2]at h;cases h
        ·rwa[u3 l hl hl2]at h)
    (fun k hk _=>by
      rcases hb2_al hk with rfl|rfl
      ·rw[h100];exact⟨hun,Nat.le_of_ble_eq_true hnb,.inr fun l ⟨_,_,_,h⟩=>by cases h⟩
      ·rw[h102];exact⟨hun2,Nat.le_of_ble_eq_true hnb2,.inr fun l ⟨_,_,_,h⟩=>by cases h⟩)
  have hp:=hsn.put (d:=d) (by rw[hE];simpa using hn) hvn (fun k hk=>by
    obtain⟨k0,h1,rfl⟩:=V.refs_ren hk
    exact hKn k0 (hy i k0 h1))
  rw[hτn,←lk_cons,hren]at hp
  exact hKK _ _ (k i _ hfr (fun S hS b hb=>hs.has hS b hb) E bxn _ w' hE hp Q hQ)
end
section
variable {P : Program} {n : Nat} {ops : Array Oper} {o : Oper} {σ : St} {d : Nat}
theorem run_appGN {t ty e:TypeId} {sz by':Nat} (ht:tyA P t=some (e,sz+1,by',sz+1)) (w:World)
    (ad:Addr) (q c:Nat) (vss:List (List Value)) (f1:vss.length=q) (f2:∀r∈vss,r.length=sz+1) (f5:∀(j:Nat) u,vss.flatten[j]?=some u→w.cell? (ad.add j)=some u) (f6:∀u∈vss.flatten,u.oneCell'=true) (h0:0<q) (hn:q≤4294967296) (hby:by'≤32768):
    ∃(w':World) (g' cap':Nat) (cur':Array Value),(Builtin.append_ #[t,t] ty #[.slice none 0 0,.slice (some ad) q c]).run P w= .ok (.slice (some ⟨g',0,none⟩) q cap') w'∧w.grownBy w' none∧w.heap.size≤g'∧w'.heap[g']?=some (.cells cur' e (0,0))∧
      q≤cap'∧cap'≤maxLen∧cap' *(sz+1)=cur'.size∧∀(i:Nat) vs (j:Nat) u,vss[i]?=some vs→vs[j]?=some u→cur'[i *(sz+1)+j]?=some u:=by
  obtain⟨hu,i,z,hi,hz,hs1,hs2,hs3⟩:=tyA_out ht
  have hfl:vss.flatten.length=q *(sz+1):=by rw[flat_len f2,f1]
  obtain ⟨v', w', hr, p1, p2, p3⟩ := run_append_own (P := P) w w.heap.size t ty e i z (sz + 1) by' hu hi hz hs1 hs2 hs3 (by omega) _ 0 [] (World.ownsRow_nil w _ e (sz + 1)) ad q c vss.flatten hfl f5 f6
      (by unfold maxLen;omega) (by have:=Nat.mul_le_mul (show 0+q≤4294967296 by omega) hby;omega) (Nat.le_refl _)
  rw[Nat.zero_add,List.nil_append]at p1
  rcases p1.2 with⟨rfl,h9⟩|⟨g',cap',cur',rfl,hge,k1,k2,k3,k4,k5⟩
  ·omega
  · refine⟨w',g',cap',cur',hr,p2,hge,k1,k2,k3,k4.symm,fun l vs j u hl hj=>?_⟩
    have hll:=(List.getElem?_eq_some_iff.1 hl).1
    have hjl:j<sz+1:=by have:=f2 vs (List.mem_of_getElem? hl);have:=(List.getElem?_eq_some_iff.1 hj).1;omega
    have hlt:l *(sz+1)+j<q *(sz+1):=by
      have:=Nat.mul_le_mul_right (sz+1) (show l+1≤q by omega)
      rw[Nat.add_mul l]at this;omega
    have:cur'[l *(sz+1)+j]?=vss.flatten[l *(sz+1)+j]?:=by rw[←k5,List.getElem?_take,if_pos hlt,Array.getElem?_toList]
    rw[this,flat_get f2 _ _ hjl,hl]
    exact hj
theorem St1.appNB {t e e2:TypeId} {s x:Operand} {ts:Array TypeId} {sz by' k2 k' q:Nat} {rows2:List (List C)} (ho:o.op= .call {callee:=.builtin .append,args:=#[s,x],argTypes:=ts}) (hg:o.guard=none) (hd:o.dst=some d) (hn:Nat.blt d n=true) (hts:ts=#[t,t])
    (ht:tyA P t=some (e,sz+1,by',sz+1)) (hby:Nat.ble by' 32768=true) (hs':ev σ s=some (.o (.c (.d (.val (.slice none 0 0)))))) (hx:ev σ x=some (.o (.c (.own k2 (sz+1) q)))) (hb2:lk σ (.b k2)= .b e2 (sz+1) rows2) (hq:rows2.length=q) (h0:0<q) (hl:q≤4294967296) (hf:lk σ (.u k')= .no) (h100:Nat.ble 100 k'=true):
    St1 P n ops o σ (.u k'::((rd s++rd x)++[.b k2])) [.t d,.u k',.b k',.b k'] ((.t d,.v (.o (.c (.own k' (sz+1) q))))::(.u k',.u)::(.b k',.b e (sz+1) rows2)::(.b k',.no)::σ):=
  St1.place hg hd hn hf h100 (okk_self h100) rfl fun E bx τ a w hR hs=>by
    subst hts hq
    have hk2:τ (.b k2)= .b e2 (sz+1) rows2:=(rd_r hR _ (by simp)).trans hb2
    obtain⟨cap2,e3,d1,d2,d3⟩:=ev_own hx (rd_r (rd_l hR)) hs (Al_of hk2)
    obtain⟨cur2,g1,g2,g3,g4,g5⟩:=hs.box k2 e2 _ rows2 hk2
    have hvl:∀r∈(List.range rows2.length).map fun i=>(List.range (sz+1)).map fun j=>cur2.getD (i *(sz+1)+j) undef,r.length=sz+1:=fun r hr=>by
      obtain⟨i,_,rfl⟩:=List.mem_map.1 hr
      simp
    have hflat:∀(p:Nat) u,(((List.range rows2.length).map fun i=>(List.range (sz+1)).map fun j=>cur2.getD (i *(sz+1)+j) undef).flatten)[p]?=some u→∃r c,r∈rows2∧c∈r∧cur2[p]?=some u∧Cr bx (Al τ) (Bf E bx τ) w c u:=fun p u hp=>by
      have hpl:=(List.getElem?_eq_some_iff.1 hp).1
      rw[flat_len hvl,List.length_map,List.length_range]at hpl
      have hs0:0<sz+1:=by omega
      have hdiv:p / (sz+1)<rows2.length:=(Nat.div_lt_iff_lt_mul hs0).2 hpl
      have hmod:=Nat.mod_lt p hs0
      have hdm:p=p / (sz+1) *(sz+1)+p % (sz+1):=by rw[Nat.mul_comm];exact(Nat.div_add_mod p (sz+1)).symm
      rw[hdm,flat_get hvl _ _ hmod]at hp
      have hrow:=g4 _ _ (List.getElem?_eq_getElem hdiv)
      obtain⟨u',h6,h7⟩:=g5 (p / (sz+1)) _ (p % (sz+1)) _ (List.getElem?_eq_getElem hdiv) (List.getElem?_eq_getElem (by rw[hrow];exact hmod))
      simp[hdiv,hmod]at hp
      rw[h6]at hp
      simp at hp
      subst hp
      exact⟨_,_,List.getElem_mem hdiv,List.getElem_mem _,by rw[hdm];exact h6,h7⟩
    obtain⟨w',g',cap',cur',r1,r2,r3,r4,r5,r6,r7,r10⟩:=run_appGN (ty:=o.type) ht w ⟨(bx k2).1,0,none⟩ rows2.length cap2 ((List.range rows2.length).map fun i=>(List.range (sz+1)).map fun j=>cur2.getD (i *(sz+1)+j) undef) (by simp) hvl
      (fun p u hp=>by
        obtain⟨_,_,_,_,h6,_⟩:=hflat p u hp
        rw[Addr.add_mid,cell_of_row w _ _ _ _ _ g1,Nat.zero_add];exact h6)
      (fun u hu=>by
        obtain⟨p,hp⟩:=List.mem_iff_getElem?.1 hu
        obtain⟨_,_,_,_,_,h7⟩:=hflat p u hp
        exact h7.one) h0 hl (Nat.le_of_ble_eq_true hby)
    refine⟨_,w',g',g',cur',exec_app ho w w' _ (by rw[ev_val hs' (rd_l (rd_l hR)) hs,e3];exact r1),.inr r3,⟨r2.os,r2.tape,r2.output,r2.size,fun b hb _=>r2.block b hb (by simp)⟩,.inl rfl,r4,by rw[←r7];exact Nat.mul_le_mul_right _ r5,fun i r hi=>g4 i r hi,fun i r j c hi hj=>?_,fun r hr c hc l hl=>fun hu=>(hs.unused l hu).2.2 k2 e2 _ rows2 hk2 r hr c hc hl,fun bx' al B w2 hbx=>⟨rfl,fun _=>⟨cap',by rw[hbx],r5,r6,by rw[hbx];exact r7⟩⟩⟩
    obtain⟨u,h6,h7⟩:=g5 i r j c hi hj
    have hil:=(List.getElem?_eq_some_iff.1 hi).1
    have hjl:j<sz+1:=by have:=g4 _ r hi;have:=(List.getElem?_eq_some_iff.1 hj).1;omega
    exact⟨u,r10 i _ j u (by simp[hil];rfl) (by simp[hjl,h6]),h7⟩
end
/-! ### Rows in which one is changed -/
theorem set_parts {α:Type} {l:List α} {k:Nat} {r:α} (h:k<l.length):l.set k r=l.take k++(r::l.drop (k+1)):=by
  rw[List.set_eq_take_append_cons_drop,if_pos h]
theorem Rto.setR {σ:St} {inv:Inv} {l l':List (List D)} {k:Nat} {r r':List C} (hl:l=l') (h:Ctos σ inv r r'):Rto σ inv ((dR l).set k r) ((dR l').set k r'):=by
  subst hl
  by_cases hk:k<(dR l).length
  · rw[set_parts hk,set_parts hk,dR,←List.map_take,←List.map_drop]
    exact .app (.dat _ _ (l.take k) rfl rfl) (.cons h (.dat _ _ (l.drop (k+1)) rfl rfl))
  · rw[List.set_eq_of_length_le (by omega),List.set_eq_of_length_le (by omega)]
    exact .dat _ _ l rfl rfl
theorem renR_set {ρ:Nat→Nat} {l:List (List D)} {k:Nat} {r:List C}:renR ρ ((dR l).set k r)=(dR l).set k (r.map (C.ren ρ)):=by
  have h:=renR_dR (ρ:=ρ) (rows:=l)
  rw[renR]at h ⊢
  rw[List.map_set,h]
def rwA (F:Nat→Nat→Nat→Prop) (l:List Arr) (k m:Nat) (nm:ByteArray) (len:Nat):List (List C):=(dR (tagRs F 0 (l.map rR))).set k [.d (dS nm),.own m 1 len]
theorem rwA_at {F:Nat→Nat→Nat→Prop} {l:List Arr} {k m:Nat} {nm:ByteArray} {len:Nat} (h:k<l.length):(rwA F l k m nm len)[k]?=some [.d (dS nm),.own m 1 len]:=by
  rw[rwA,List.getElem?_set_self (by rw[dR_len,tagRs_len,List.length_map];exact h)]
theorem rwA_ren {F:Nat→Nat→Nat→Prop} {l:List Arr} {k m:Nat} {nm:ByteArray} {len:Nat} {ρ:Nat→Nat}:renR ρ (rwA F l k m nm len)=rwA F l k (ρ m) nm len:=renR_set
theorem rwA_refs {F:Nat→Nat→Nat→Prop} {l:List Arr} {k m:Nat} {nm:ByteArray} {len:Nat}:∀r∈rwA F l k m nm len,∀c∈r,∀q∈c.refs,q=m:=fun r hr c hc q hq=>by
  rcases List.mem_or_eq_of_mem_set hr with h|rfl
  · rw[dR]at h
    obtain⟨r',_,rfl⟩:=List.mem_map.1 h
    obtain⟨y,_,rfl⟩:=List.mem_map.1 hc
    cases hq
  · simp only[List.mem_cons,List.not_mem_nil,or_false]at hc
    rcases hc with rfl|rfl
    ·cases hq
    ·simpa [C.refs]using hq
theorem rwA_len {F:Nat→Nat→Nat→Prop} {l:List Arr} {k m:Nat} {nm:ByteArray} {len:Nat}:(rwA F l k m nm len).length=l.length:=by rw[rwA,List.length_set,dR_len,tagRs_len,List.length_map]
theorem rwA_app {F:Nat→Nat→Nat→Prop} {R:Nat→Nat→Prop} {l:List Arr} {i k m:Nat} {nm:ByteArray} {len:Nat} {x:Arr} (hx:l[i]?=some x) (hk:k<i):rwA F (l.take i) k m nm len++[(tagL R 0 (rR x)).map C.d]=rwA (nextF F i R) (l.take (i+1)) k m nm len:=by
  have hil:=(List.getElem?_eq_some_iff.1 hx).1
  rw[rwA,rwA,←dR_tagT hx,List.set_append,if_pos (by rw[dR_len,tagRs_len,List.length_map,List.length_take];omega)]
theorem rwA_own {F:Nat→Nat→Nat→Prop} {R:Nat→Nat→Prop} {l:List Arr} {i k m:Nat} {x:Arr} (hk:i=k) (hx:l[i]?=some x):dR (tagRs F 0 ((l.take i).map rR))++[[.d (dS x.1),.own m 1 x.2.length]]=rwA (nextF F i R) (l.take (i+1)) k m x.1 x.2.length:=by
  subst hk
  have hil:=(List.getElem?_eq_some_iff.1 hx).1
  have hl:(dR (tagRs F 0 ((l.take i).map rR))).length=i:=by rw[dR_len,tagRs_len,List.length_map,List.length_take];omega
  rw[rwA,←dR_tagT hx,List.set_append,if_neg (by omega),hl,Nat.sub_self];rfl
theorem rwA_own0 {R:Nat→Nat→Prop} {l:List Arr} {k m:Nat} {x:Arr} (hk:0=k) (hx:l[0]?=some x):[[.d (dS x.1),.own m 1 x.2.length]]=rwA (nextF noF 0 R) (l.take (0+1)) k m x.1 x.2.length:=by
  rw[←rwA_own hk hx];rfl
def unA (F:Nat→Nat→Nat→Prop) (n:Nat):Nat→Prop:=fun b=>∃q,q<n∧F q 1 b
theorem rwA_other {F:Nat→Nat→Nat→Prop} {l:List Arr} {k m q:Nat} {nm:ByteArray} {len:Nat} {x:Arr} (hx:l[q]?=some x) (hq:q≠k):(rwA F l k m nm len)[q]?=some ((tagL (F q) 0 (rR x)).map C.d):=by
  rw[rwA,List.getElem?_set_ne (fun e=>hq e.symm),dR,List.getElem?_map,tagRs_at (show (l.map rR)[q]?=some (rR x)by rw[List.getElem?_map,hx];rfl),Nat.zero_add];rfl
theorem hasA {σ:St} {F:Nat→Nat→Nat→Prop} {l:List Arr} {A k m n:Nat} {nm:ByteArray} {len:Nat} {e:TypeId} {sz:Nat} (h:lk σ (.b A)= .b e sz (rwA F l k m nm len)) (hn:n=l.length) (hk:∀c b,¬F k c b):HasE σ (unA F n):=fun b ⟨q,hq,hb⟩=>by
  have hqk:q≠k:=fun e=>by subst e;exact hk 1 b hb
  obtain⟨x,hx⟩:∃x,l[q]?=some x:=⟨_,List.getElem?_eq_getElem (by omega)⟩
  exact⟨F q 1,.box A h (rwA_other hx hqk) (j:=1) (c:=.d (.tree (F q 1) (dIs x.2))) rfl (.d (.tree _)),hb⟩
theorem hasT {σ:St} {F:Nat→Nat→Nat→Prop} {l:List Arr} {A n:Nat} {e:TypeId} {sz:Nat} (h:lk σ (.b A)= .b e sz (dR (tagRs F 0 (l.map rR)))) (hn:n=l.length):HasE σ (unA F n):=fun b ⟨q,hq,hb⟩=>by
  obtain⟨x,hx⟩:∃x,l[q]?=some x:=⟨_,List.getElem?_eq_getElem (by omega)⟩
  exact⟨F q 1,Has.rows h (show (l.map rR)[q]?=some (rR x)by rw[List.getElem?_map,hx];rfl) (j:=1) rfl,hb⟩
theorem own_H (g:Prg) (hG:OwnG g) {k:Nat} {y:Arr} (hy:g.1[k]?=some y) (h0:0<y.2.length):FnH (ι:=(Nat→Prop)×(Nat→Nat→Nat→Prop)) Tryz.prog 28 [ad (rG g)] (fun i O=>(∀b,i.1 b→¬O b∧¬unA i.2 g.1.length b)∧FD O colC g.1.length i.2∧∀c b,¬i.2 k c b) (fun i=>.o (.agg [.own 101 2 g.1.length,.d (.tree i.1 (dPts g.2))])) 45 2 3 1 (fun i=>rwA i.2 g.1 k 102 y.1 y.2.length) (fun _=>y.2.map rI):=by
 have hg1:=hG.n1
 have hg2:=hG.n2
 have hP:=hG.part
 have hkl:=(List.getElem?_eq_some_iff.1 hy).1
 refine FnH.of_code Tryz.func28 rfl rfl rfl (fun O=>?_)
 refine .r<|.c .bp<|.c (.al 102 [.slice none 0 0,.slice none 0 0])<|.r<|.c (.al 103 [.slice none 0 0,.slice none 0 0])<|.nn<|.seq<|.r<|.c (.fP 0 0 false)<|.c (.l1 1)<|.c (.ln 45 2 40)<|.c .m<|.nn<|.block ?_
 refine .loopK (fun m σ=>(∃i:Nat,m=g.1.length -i∧(i=0)∧σ=[eP 1 (rG g),eB 2 110 2,eB 3 111 2,eD 9 (dRs g.1),eN 10 (g.1.length:Nat),eN 11 (i:Nat),(.t 9999,.v (.gh O)),(.b 110,.b 30 2 [[nl,nl]]),eU 110,(.b 111,.b 30 2 [[nl,nl]]),eU 111])∨(∃(i:Nat) (F:Nat→Nat→Nat→Prop),m=g.1.length -i∧(1≤i)∧(i≤g.1.length)∧(i≤k)∧(FD (O) colC i F)∧σ=[eP 1 (rG g),eB 2 110 2,eB 3 111 2,eD 9 (dRs g.1),eN 10 (g.1.length:Nat),eN 11 (i:Nat),(.t 9999,.v (.gh O)),(.b 110,.b 30 2 [[nl,nl]]),eU 110,(.b 112,.b 45 2 (dR (tagRs F 0 ((g.1.take i).map rR)))),eU 112,(.b 111,.b 30 2 [[.own 112 2 (i),nl]]),eU 111])∨(∃(i:Nat) (F:Nat→Nat→Nat→Prop),m=g.1.length -i∧(k<i)∧(i≤g.1.length)∧(FD (O) colC i F)∧(∀c b,¬F k c b)∧σ=[eP 1 (rG g),eB 2 110 2,eB 3 111 2,eD 9 (dRs g.1),eN 10 (g.1.length:Nat),eN 11 (i:Nat),(.t 9999,.v (.gh O)),(.b 110,.b 30 2 [[nl,nl]]),eU 110,(.b 112,.b 45 2 (rwA F (g.1.take i) k 113 y.1 y.2.length)),eU 112,(.b 113,.b 3 1 (dR (y.2.map rI))),eU 113,(.b 111,.b 30 2 [[.own 112 2 (i),nl]]),eU 111])) [(110,102),(111,103)] (.inl ⟨0,rfl,rfl,rfl⟩) ⟨kd,kX,kX,kd,kd,kd,kd,kb 102 rfl (.r2 .dt .dt),kb 103 rfl (.r2 .dt .dt),trivial⟩ ?_
 rintro m σ (⟨i,hm0,rfl,rfl⟩|⟨i,F,hm0,hi1,hi2,hik,hFD,rfl⟩|⟨i,F,hm0,hi1,hi2,hFD,hFk,rfl⟩)
 ·skip
  refine .r<|.c .ls<|.nn<|.seq ?_
  refine .cD rfl (fun h12=>?_) (fun h12=>?_)
  ·skip
   obtain⟨x,hx1⟩:∃x,g.1[0]?=some x:=⟨_,List.getElem?_eq_getElem (by omega)⟩
   refine .skip<|ks_n<|.seq<|.block<|.r<|.c (.xL 45 2 40 rfl rfl rfl rfl rfl (map_at hx1)) ?_
   refine .c (.lN 2)<|.c (.al 105 [.string ByteArray.empty,.slice none 0 0])<|.c (.sT 2 true)<|.nn ?_
   by_cases hsp:0=k
   ·skip
    obtain rfl:y=x:=by rw[hsp]at hx1;exact Option.some.inj (hy.symm.trans hx1)
    refine ACode.drawK (by kernel_rfl) (by kernel_rfl) ?_
    refine .c (.fB 0 0 false)<|.c (.b1 1)<|.c (.fB 0 0 false)<|.c (.b1 1)<|.c (.fB 1 0 false)<|.c (.b1 1) ?_
    refine .c (.cO [.tmp 20] [(100,121)] rfl rfl rfl rfl (clone_own (p:=y.2) h0 (by have:=hG.arr y (List.mem_of_getElem? hy);omega)) rfl trivial flatS.nil (flatS.nil.cons rfl) HB.nil.data outS_one) ?_
    refine .c (.bu [(0,.tmp 18),(1,.tmp 21)] [(0,1),(1,1)] [.string ByteArray.empty,.slice none 0 0]) ?_
    refine .c (St1.litB (k':=123) (e:=45) (sz:=1) (m:=0) (xs:=[.tmp 22]) rfl rfl rfl rfl rfl (by kernel_rfl) rfl rfl rfl rfl rfl) ?_
    refine .c (St1.appNB (k':=124) (e:=45) (sz:=1) (by':=40) rfl rfl rfl rfl rfl (by kernel_rfl) rfl rfl rfl rfl rfl (by decide) (by decide) rfl rfl) ?_
    refine .c (.fB 0 0 false)<|.c (.sT 1 false) ?_
    refine .nil ⟨by kernel_rfl,?_⟩
    refine kb_n<|ks_n<|.region<|.c .pl<|.c .m<|.nil ?_
    refine kl_k [(110,110),(111,111),(112,124),(113,121)] (.inr (.inr ⟨1,nextF noF 0 (fun _=>none'),rfl,by omega,by omega,(FD.zero (O) colC noF).next (fun _ _ h=>h.elim) (fun _ _ _ h=>h.elim) (fun _ _ _ _ h=>by omega),fun c b h=>by rw[nextF,if_pos (by omega)]at h;exact h,rfl⟩)) ⟨kd,kX,kX,kd,kd,kd,kd,kb 110 rfl (.r2 .dt .dt),kb 124 rfl ((by first|exact .setR rfl (.cons .dt (.cons .ow .nil))|(refine Rto.eq ?_ rfl (.setR rfl (.cons .dt (.cons (.ow (k:=121)) .nil)));first|exact hap 121|exact rwA_own hsp hx1|exact rwA_own0 hsp hx1))),kb 121 rfl (.dt rfl),kb 111 rfl (.r2 .ow .dt),trivial⟩
   ·skip
    refine ACode.drawT (by kernel_rfl) (by kernel_rfl) (fun Uq5_0=>?_)
    refine .cons (fun _=>.fB 0 0 false)<|.cons (fun _=>.b1 1)<|.cons (fun _=>.fB 0 0 false)<|.cons (fun _=>.b1 1)<|.cons (fun _=>.fB 1 0 false)<|.cons (fun _=>.b1 1) ?_
    refine .cT [.tmp 20] rfl rfl (fun _=>rfl) (fun _=>rfl) (clone_T x.2 (hG.arr x (List.mem_of_getElem? hx1))) rfl rfl nosrcV ?_
    refine .cons (fun _=>.bu [(0,.tmp 18),(1,.tmp 21)] [(0,1),(1,1)] [.string ByteArray.empty,.slice none 0 0])<|.cons (fun _=>.li 45 1 0 [.tmp 22]) ?_
    refine .cons (fun _=>(St1.appN (k':=124) (e:=45) (sz:=1) (by':=40) rfl rfl rfl rfl rfl (by kernel_rfl) rfl rfl rfl (by simp) (by first|(simp[dR,tagRs_len];done)|(simp[dR,tagRs_len];omega)) rfl rfl)) ?_
    refine .cons (fun _=>.fB 0 0 false)<|.cons (fun _=>.sT 1 false) ?_
    refine .nil ⟨⟨fun _=>by kernel_rfl,by repeat' (first|exact trivial|exact .inr (.inl rfl)|exact .inl (by decide +kernel)|exact .inr (.inr fun _ _=>rfl)|refine⟨?_,?_⟩),rfl⟩,fun ρq5_0 Nq5_0 Fq5_0 Wq5_0=>?_⟩
    obtain⟨hR21,dR21,pR21⟩:=Fq5_0.hR Wq5_0 6 rfl rfl
    have hdR:∀c c' b,(nthS [none',(ρq5_0 6) 0]) c b→(nthS [none',(ρq5_0 6) 0]) c' b→c=c':=nthS_dis (by simp[none'])
    have hNew:∀c b,(nthS [none',(ρq5_0 6) 0]) c b→¬O b:=nthS_all (by simp only[List.forall_mem_cons,List.not_mem_nil,false_implies,implies_true,and_true];exact⟨fun b h=>h.elim,new_of hR21 (gh_has rfl) 0⟩)
    refine kb_n<|ks_n<|.region<|.c .pl<|.c .m<|.nil ?_
    refine kl_k [(110,110),(111,111),(112,124)] (.inr (.inl ⟨1,nextF noF 0 (nthS [none',(ρq5_0 6) 0]),rfl,by omega,by omega,by omega,(FD.zero (O) colC noF).next hNew hdR (fun _ _ _ _ h=>by omega),rfl⟩)) ⟨kd,kX,kX,kd,kd,kd,kd,kb 110 rfl (.r2 .dt .dt),kb 124 rfl (.dt rfl (by first|rfl|(rw[←dR_tagT hx1];rfl)|(rw[←dR_tag0 hx1];rfl))),kb 111 rfl (.r2 .ow .dt),trivial⟩
  ·skip
   omega
 ·skip
  refine .r<|.c .ls<|.nn<|.seq ?_
  refine .cD rfl (fun h12=>?_) (fun h12=>?_)
  ·skip
   obtain⟨x,hx1⟩:∃x,g.1[i]?=some x:=⟨_,List.getElem?_eq_getElem (by omega)⟩
   refine .skip<|ks_n<|.seq<|.block<|.r<|.c (.xL 45 2 40 rfl rfl rfl rfl rfl (map_at hx1)) ?_
   refine .c (.lN 2)<|.c (.al 105 [.string ByteArray.empty,.slice none 0 0])<|.c (.sT 2 true)<|.nn ?_
   by_cases hsp:i=k
   ·skip
    obtain rfl:y=x:=by rw[hsp]at hx1;exact Option.some.inj (hy.symm.trans hx1)
    refine ACode.drawK (by kernel_rfl) (by kernel_rfl) ?_
    refine .c (.fB 0 0 false)<|.c (.b1 1)<|.c (.fB 0 0 false)<|.c (.b1 1)<|.c (.fB 1 0 false)<|.c (.b1 1) ?_
    refine .c (.cO [.tmp 20] [(100,121)] rfl rfl rfl rfl (clone_own (p:=y.2) h0 (by have:=hG.arr y (List.mem_of_getElem? hy);omega)) rfl trivial flatS.nil (flatS.nil.cons rfl) HB.nil.data outS_one) ?_
    refine .c (.bu [(0,.tmp 18),(1,.tmp 21)] [(0,1),(1,1)] [.string ByteArray.empty,.slice none 0 0]) ?_
    refine .c (St1.litB (k':=123) (e:=45) (sz:=1) (m:=0) (xs:=[.tmp 22]) rfl rfl rfl rfl rfl (by kernel_rfl) rfl rfl rfl rfl rfl) ?_
    refine .c (St1.appBB (k':=124) (e:=45) (sz:=1) (by':=40) rfl rfl rfl rfl rfl (by kernel_rfl) rfl rfl rfl rfl rfl (by first|(simp[dR,tagRs_len];done)|(simp[dR,tagRs_len];omega)) rfl (by first|(simp[dR,tagRs_len];done)|(simp[dR,tagRs_len];omega)) rfl rfl rfl) ?_
    refine .c (.fB 0 0 false)<|.c (.sT 1 false) ?_
    refine .nil ⟨by kernel_rfl,?_⟩
    refine kb_n<|ks_n<|.region<|.c .pl<|.c .m<|.nil ?_
    refine kl_k [(110,110),(111,111),(112,124),(113,121)] (.inr (.inr ⟨i+1,nextF F i (fun _=>none'),rfl,by omega,by omega,hFD.next (fun _ _ h=>h.elim) (fun _ _ _ h=>h.elim) (fun _ _ _ _ _ _ _ h=>h.elim),fun c b h=>by rw[nextF,if_pos (by omega)]at h;exact h,rfl⟩)) ⟨kd,kX,kX,kd,kd,kd,kd,kb 110 rfl (.r2 .dt .dt),kb 124 rfl ((by first|exact .setR rfl (.cons .dt (.cons .ow .nil))|(refine Rto.eq ?_ rfl (.setR rfl (.cons .dt (.cons (.ow (k:=121)) .nil)));first|exact hap 121|exact rwA_own hsp hx1|exact rwA_own0 hsp hx1))),kb 121 rfl (.dt rfl),kb 111 rfl (.r2 .ow .dt),trivial⟩
   ·skip
    refine ACode.drawT (by kernel_rfl) (by kernel_rfl) (fun Uq5_1=>?_)
    refine .cons (fun _=>.fB 0 0 false)<|.cons (fun _=>.b1 1)<|.cons (fun _=>.fB 0 0 false)<|.cons (fun _=>.b1 1)<|.cons (fun _=>.fB 1 0 false)<|.cons (fun _=>.b1 1) ?_
    refine .cT [.tmp 20] rfl rfl (fun _=>rfl) (fun _=>rfl) (clone_T x.2 (hG.arr x (List.mem_of_getElem? hx1))) rfl rfl nosrcV ?_
    refine .cons (fun _=>.bu [(0,.tmp 18),(1,.tmp 21)] [(0,1),(1,1)] [.string ByteArray.empty,.slice none 0 0])<|.cons (fun _=>.li 45 1 0 [.tmp 22]) ?_
    refine .cons (fun _=>(St1.appB (k':=124) (e:=45) (sz:=1) (by':=40) rfl rfl rfl rfl rfl (by kernel_rfl) rfl rfl rfl rfl (by first|(simp[dR,tagRs_len];done)|(simp[dR,tagRs_len];omega)) (by first|(simp[dR,tagRs_len];done)|(simp[dR,tagRs_len];omega)) rfl rfl rfl)) ?_
    refine .cons (fun _=>.fB 0 0 false)<|.cons (fun _=>.sT 1 false) ?_
    refine .nil ⟨⟨fun _=>by kernel_rfl,by repeat' (first|exact trivial|exact .inr (.inl rfl)|exact .inl (by decide +kernel)|exact .inr (.inr fun _ _=>rfl)|refine⟨?_,?_⟩),rfl⟩,fun ρq5_1 Nq5_1 Fq5_1 Wq5_1=>?_⟩
    obtain⟨hR21,dR21,pR21⟩:=Fq5_1.hR Wq5_1 6 rfl rfl
    have hdR:∀c c' b,(nthS [none',(ρq5_1 6) 0]) c b→(nthS [none',(ρq5_1 6) 0]) c' b→c=c':=nthS_dis (by simp[none'])
    have hNew:∀c b,(nthS [none',(ρq5_1 6) 0]) c b→¬O b:=nthS_all (by simp only[List.forall_mem_cons,List.not_mem_nil,false_implies,implies_true,and_true];exact⟨fun b h=>h.elim,new_of hR21 (gh_has rfl) 0⟩)
    have hRE:=new_E hR21 (hasT (A:=112) rfl (by rw[List.length_take];omega):HasE _ (unA F i))
    have hRF:∀q c c' b,q<i→colC c→F q c b→¬(nthS [none',(ρq5_1 6) 0]) c' b:=fun q c c' b hq hc hF=>by
     have hc:c=1:=hc
     subst hc
     exact fun hb=>nthS_all (Q:=fun b=>¬F q _ b) (by simp only[List.forall_mem_cons,List.not_mem_nil,false_implies,implies_true,and_true];exact⟨fun b h=>h.elim,fun b h h2=>hRE 0 b h ⟨q,hq,h2⟩⟩) c' b hb hF
    refine kb_n<|ks_n<|.region<|.c .pl<|.c .m<|.nil ?_
    refine kl_k [(110,110),(111,111),(112,124)] (.inr (.inl ⟨i+1,nextF F i (nthS [none',(ρq5_1 6) 0]),rfl,by omega,by omega,by omega,hFD.next hNew hdR hRF,rfl⟩)) ⟨kd,kX,kX,kd,kd,kd,kd,kb 110 rfl (.r2 .dt .dt),kb 124 rfl (.dt rfl (by first|rfl|(rw[←dR_tagT hx1];rfl)|(rw[←dR_tag0 hx1];rfl))),kb 111 rfl (.r2 .ow .dt),trivial⟩
  ·skip
   omega
 ·skip
  refine .r<|.c .ls<|.nn<|.seq ?_
  refine .cD rfl (fun h12=>?_) (fun h12=>?_)
  ·skip
   obtain⟨x,hx1⟩:∃x,g.1[i]?=some x:=⟨_,List.getElem?_eq_getElem (by omega)⟩
   refine .skip<|ks_n<|.seq<|.block<|.r<|.c (.xL 45 2 40 rfl rfl rfl rfl rfl (map_at hx1)) ?_
   refine .c (.lN 2)<|.c (.al 105 [.string ByteArray.empty,.slice none 0 0])<|.c (.sT 2 true)<|.nn ?_
   refine ACode.drawT (by kernel_rfl) (by kernel_rfl) (fun Uq5_2=>?_)
   refine .cons (fun _=>.fB 0 0 false)<|.cons (fun _=>.b1 1)<|.cons (fun _=>.fB 0 0 false)<|.cons (fun _=>.b1 1)<|.cons (fun _=>.fB 1 0 false)<|.cons (fun _=>.b1 1) ?_
   refine .cT [.tmp 20] rfl rfl (fun _=>rfl) (fun _=>rfl) (clone_T x.2 (hG.arr x (List.mem_of_getElem? hx1))) rfl rfl nosrcV ?_
   refine .cons (fun _=>.bu [(0,.tmp 18),(1,.tmp 21)] [(0,1),(1,1)] [.string ByteArray.empty,.slice none 0 0])<|.cons (fun _=>.li 45 1 0 [.tmp 22]) ?_
   refine .cons (fun _=>(St1.appB (k':=124) (e:=45) (sz:=1) (by':=40) rfl rfl rfl rfl rfl (by kernel_rfl) rfl rfl rfl rfl (by rw[rwA_len,List.length_take];omega) (by rw[rwA_len,List.length_take];simp;omega) rfl rfl rfl)) ?_
   refine .cons (fun _=>.fB 0 0 false)<|.cons (fun _=>.sT 1 false) ?_
   refine .nil ⟨⟨fun _=>by kernel_rfl,by repeat' (first|exact trivial|exact .inr (.inl rfl)|exact .inl (by decide +kernel)|exact .inr (.inr fun _ _=>rfl)|refine⟨?_,?_⟩),rfl⟩,fun ρq5_2 Nq5_2 Fq5_2 Wq5_2=>?_⟩
   obtain⟨hR21,dR21,pR21⟩:=Fq5_2.hR Wq5_2 6 rfl rfl
   have hdR:∀c c' b,(nthS [none',(ρq5_2 6) 0]) c b→(nthS [none',(ρq5_2 6) 0]) c' b→c=c':=nthS_dis (by simp[none'])
   have hNew:∀c b,(nthS [none',(ρq5_2 6) 0]) c b→¬O b:=nthS_all (by simp only[List.forall_mem_cons,List.not_mem_nil,false_implies,implies_true,and_true];exact⟨fun b h=>h.elim,new_of hR21 (gh_has rfl) 0⟩)
   have hRE:=new_E hR21 (hasA (A:=112) rfl (by rw[List.length_take];omega) hFk:HasE _ (unA F i))
   have hRF:∀q c c' b,q<i→colC c→F q c b→¬(nthS [none',(ρq5_2 6) 0]) c' b:=fun q c c' b hq hc hF=>by
    have hc:c=1:=hc
    subst hc
    exact fun hb=>nthS_all (Q:=fun b=>¬F q _ b) (by simp only[List.forall_mem_cons,List.not_mem_nil,false_implies,implies_true,and_true];exact⟨fun b h=>h.elim,fun b h h2=>hRE 0 b h ⟨q,hq,h2⟩⟩) c' b hb hF
   refine kb_n<|ks_n<|.region<|.c .pl<|.c .m<|.nil ?_
   have hap:=fun m:Nat=>rwA_app (R:=(nthS [none',(ρq5_2 6) 0])) (F:=F) (k:=k) (m:=m) (nm:=y.1) (len:=y.2.length) hx1 (by omega)
   refine kl_k [(110,110),(111,111),(112,124),(113,113)] (.inr (.inr ⟨i+1,nextF F i (nthS [none',(ρq5_2 6) 0]),rfl,by omega,by omega,hFD.next hNew hdR hRF,fun c b h=>by rw[nextF,if_neg (by omega)]at h;exact hFk c b h,rfl⟩)) ⟨kd,kX,kX,kd,kd,kd,kd,kb 110 rfl (.r2 .dt .dt),kb 124 rfl ((by first|exact .setR rfl (.cons .dt (.cons .ow .nil))|(refine Rto.eq ?_ rfl (.setR rfl (.cons .dt (.cons (.ow (k:=113)) .nil)));first|exact hap 113|exact rwA_own hsp hx1|exact rwA_own0 hsp hx1))),kb 113 rfl (.dt rfl),kb 111 rfl (.r2 .ow .dt),trivial⟩
  ·skip
   obtain rfl:i=g.1.length:=by omega
   refine .exit<|ks_e<|kl_e<|kb_hit<|ks_n<|.seq<|.seq ?_
   refine .keep [eP 1 (rG g),eB 2 570 2,eB 3 571 2,(.t 9999,.v (.gh O)),(.b 570,.b 30 2 [[nl,nl]]),eU 570,(.b 572,.b 45 2 (rwA F g.1 k 573 y.1 y.2.length)),eU 572,(.b 573,.b 3 1 (dR (y.2.map rI))),eU 573,(.b 571,.b 30 2 [[.own 572 2 (g.1.length),nl]]),eU 571] [(570,110),(571,111),(572,112),(573,113)] ⟨kd,kX,kX,kd,kb 110 rfl (.r2 .dt .dt),kb 112 rfl ((by first|exact .setR rfl (.cons .dt (.cons .ow .nil))|(rw[List.take_length];exact .setR rfl (.cons .dt (.cons .ow .nil))))),kb 113 rfl (.dt rfl),kb 111 rfl (.r2 .ow .dt),trivial⟩ ?_
   refine .region<|.c (.fP 1 0 false)<|.c (.l1 1)<|.c (.ln 80 2 48)<|.c .m<|.nn<|.block ?_
   refine .loopK (fun m σ=>(∃j:Nat,m=g.2.length -j∧(j=0)∧σ=[eP 1 (rG g),eB 2 120 2,eB 3 121 2,eD 28 (dPts g.2),eN 29 (g.2.length:Nat),eN 30 (j:Nat),(.t 9999,.v (.gh O)),(.b 120,.b 30 2 [[nl,nl]]),eU 120,(.b 122,.b 45 2 (rwA F g.1 k 123 y.1 y.2.length)),eU 122,(.b 123,.b 3 1 (dR (y.2.map rI))),eU 123,(.b 121,.b 30 2 [[.own 122 2 (g.1.length),nl]]),eU 121])∨(∃(j:Nat) (E:Nat→Nat→Nat→Prop),m=g.2.length -j∧(1≤j)∧(j≤g.2.length)∧(FD (or2 O (unA F g.1.length)) col2 j E)∧σ=[eP 1 (rG g),eB 2 120 2,eB 3 121 2,eD 28 (dPts g.2),eN 29 (g.2.length:Nat),eN 30 (j:Nat),(.t 9999,.v (.gh O)),(.b 120,.b 30 2 [[nl,nl]]),eU 120,(.b 122,.b 45 2 (rwA F g.1 k 123 y.1 y.2.length)),eU 122,(.b 123,.b 3 1 (dR (y.2.map rI))),eU 123,(.b 124,.b 80 2 (dR (tagRs E 0 ((g.2.take j).map rP)))),eU 124,(.b 121,.b 30 2 [[.own 122 2 (g.1.length),.own 124 2 (j)]]),eU 121])) [(120,570),(121,571),(122,572),(123,573)] (.inl ⟨0,rfl,rfl,rfl⟩) ⟨kd,kX,kX,kd,kd,kd,kd,kb 570 rfl (.r2 .dt .dt),kb 572 rfl ((by first|exact .setR rfl (.cons .dt (.cons .ow .nil))|(rw[List.take_length];exact .setR rfl (.cons .dt (.cons .ow .nil))))),kb 573 rfl (.dt rfl),kb 571 rfl (.r2 .ow .dt),trivial⟩ ?_
   rintro m σ (⟨j,hm0,rfl,rfl⟩|⟨j,E,hm0,hj1,hj2,hFE,rfl⟩)
   ·skip
    refine .r<|.c .ls<|.nn<|.seq ?_
    refine .cD rfl (fun h31=>?_) (fun h31=>?_)
    ·skip
     obtain⟨x,hx1⟩:∃x,g.2[0]?=some x:=⟨_,List.getElem?_eq_getElem (by omega)⟩
     refine .skip<|ks_n<|.seq<|.block<|.r<|.c (.xL 80 2 48 rfl rfl rfl rfl rfl (map_at hx1)) ?_
     refine .c (.lN 2)<|.c (.al 107 [.slice none 0 0,.slice none 0 0])<|.c (.sT 2 true)<|.nn ?_
     refine ACode.drawT (by kernel_rfl) (by kernel_rfl) (fun Uq10_3=>?_)
     refine .cons (fun _=>.fB 1 0 false)<|.cons (fun _=>.b1 1)<|.cons (fun _=>.bN 2) ?_
     refine .cT [.tmp 36] rfl rfl (fun _=>rfl) (fun _=>rfl) (ownPart_T x (hP x (List.mem_of_getElem? hx1)).1 (hP x (List.mem_of_getElem? hx1)).2.1 (hP x (List.mem_of_getElem? hx1)).2.2.1 (hP x (List.mem_of_getElem? hx1)).2.2.2) rfl rfl nosrcV ?_
     refine .cons (fun _=>.li 80 1 0 [.tmp 37]) ?_
     refine .cons (fun _=>(St1.appN (k':=139) (e:=80) (sz:=1) (by':=48) rfl rfl rfl rfl rfl (by kernel_rfl) rfl rfl rfl (by simp) (by first|(simp[dR,tagRs_len];done)|(simp[dR,tagRs_len];omega)) rfl rfl)) ?_
     refine .cons (fun _=>.fB 1 0 false)<|.cons (fun _=>.sT 1 false) ?_
     refine .nil ⟨⟨fun _=>by kernel_rfl,by repeat' (first|exact trivial|exact .inr (.inl rfl)|exact .inl (by decide +kernel)|exact .inr (.inr fun _ _=>rfl)|refine⟨?_,?_⟩),rfl⟩,fun ρq10_3 Nq10_3 Fq10_3 Wq10_3=>?_⟩
     obtain⟨hR37,dR37,pR37⟩:=Fq10_3.hR Wq10_3 3 rfl rfl
     have hNew:=new_E hR37 ((HasE.of (gh_has rfl)).or (hasA (A:=122) rfl rfl hFk))
     refine kb_n<|ks_n<|.region<|.c .pl<|.c .m<|.nil ?_
     refine kl_k [(120,120),(121,121),(122,122),(123,123),(124,139)] (.inr ⟨1,nextF noF 0 (ρq10_3 3),rfl,by omega,by omega,(FD.zero (or2 O (unA F g.1.length)) col2 noF).next hNew dR37 (fun _ _ _ _ h=>by omega),rfl⟩) ⟨kd,kX,kX,kd,kd,kd,kd,kb 120 rfl (.r2 .dt .dt),kb 122 rfl ((by first|exact .setR rfl (.cons .dt (.cons .ow .nil))|(rw[List.take_length];exact .setR rfl (.cons .dt (.cons .ow .nil))))),kb 123 rfl (.dt rfl),kb 139 rfl (.dt rfl (by first|rfl|(rw[←dR_tagT hx1];rfl)|(rw[←dR_tag0 hx1];rfl))),kb 121 rfl (.r2 .ow .ow),trivial⟩
    ·skip
     have hn:g.2=[]:=List.eq_nil_of_length_eq_zero (by omega)
     refine .exit<|ks_e<|kl_e<|kb_hit<|ks_n<|.r<|.c (.bN 2)<|.c (.sT 2 true)<|.nn<|.ret ?_
     refine kh_wret ((none',F)) [(.t 2,.v (.o (.c (.box 100 2 0 0)))),(.b 101,.b 45 2 (rwA F g.1 k 102 y.1 y.2.length)),(.u 101,.u),(.b 102,.b 3 1 (dR (y.2.map rI))),(.u 102,.u),(.b 100,.b 30 2 [[.own 101 2 (g.1.length),(.d (.tree none' (dPts g.2)))]]),(.u 100,.u)] (Wk.keep [(100,120),(101,122),(102,123)] rfl rfl ⟨ks rfl (.c .bx),kb 122 rfl ((by first|exact .setR rfl (.cons .dt (.cons .ow .nil))|(rw[List.take_length];exact .setR rfl (.cons .dt (.cons .ow .nil))))),kb 123 rfl (.dt rfl),kb 120 rfl (.cons (.cons .ow (.cons (Cto.nilTE 2 (by rw[hn];rfl)) Ctos.nil)) .nil),trivial⟩) rfl ?_ rfl rfl ?_
     ·rfl
     ·exact⟨fun b h=>h.elim,hFD,hFk⟩
   ·skip
    refine .r<|.c .ls<|.nn<|.seq ?_
    refine .cD rfl (fun h31=>?_) (fun h31=>?_)
    ·skip
     obtain⟨x,hx1⟩:∃x,g.2[j]?=some x:=⟨_,List.getElem?_eq_getElem (by omega)⟩
     refine .skip<|ks_n<|.seq<|.block<|.r<|.c (.xL 80 2 48 rfl rfl rfl rfl rfl (map_at hx1)) ?_
     refine .c (.lN 2)<|.c (.al 107 [.slice none 0 0,.slice none 0 0])<|.c (.sT 2 true)<|.nn ?_
     refine ACode.drawT (by kernel_rfl) (by kernel_rfl) (fun Uq10_4=>?_)
     refine .cons (fun _=>.fB 1 0 false)<|.cons (fun _=>.b1 1)<|.cons (fun _=>.bN 2) ?_
     refine .cT [.tmp 36] rfl rfl (fun _=>rfl) (fun _=>rfl) (ownPart_T x (hP x (List.mem_of_getElem? hx1)).1 (hP x (List.mem_of_getElem? hx1)).2.1 (hP x (List.mem_of_getElem? hx1)).2.2.1 (hP x (List.mem_of_getElem? hx1)).2.2.2) rfl rfl nosrcV ?_
     refine .cons (fun _=>.li 80 1 0 [.tmp 37]) ?_
     refine .cons (fun _=>(St1.appB (k':=139) (e:=80) (sz:=1) (by':=48) rfl rfl rfl rfl rfl (by kernel_rfl) rfl rfl rfl rfl (by first|(simp[dR,tagRs_len];done)|(simp[dR,tagRs_len];omega)) (by first|(simp[dR,tagRs_len];done)|(simp[dR,tagRs_len];omega)) rfl rfl rfl)) ?_
     refine .cons (fun _=>.fB 1 0 false)<|.cons (fun _=>.sT 1 false) ?_
     refine .nil ⟨⟨fun _=>by kernel_rfl,by repeat' (first|exact trivial|exact .inr (.inl rfl)|exact .inl (by decide +kernel)|exact .inr (.inr fun _ _=>rfl)|refine⟨?_,?_⟩),rfl⟩,fun ρq10_4 Nq10_4 Fq10_4 Wq10_4=>?_⟩
     obtain⟨hR37,dR37,pR37⟩:=Fq10_4.hR Wq10_4 3 rfl rfl
     have hNew:=new_E hR37 ((HasE.of (gh_has rfl)).or (hasA (A:=122) rfl rfl hFk))
     have hRF:∀q c c' b,q<j→col2 c→E q c b→¬(ρq10_4 3) c' b:=fun q c c' b hq hc hF hb=>by
      obtain⟨y,_,hy⟩:=tm_at (fn:=rP) hj2 hq
      rcases hc with rfl|rfl
      ·exact new_of hR37 (Has.rows (k:=124) rfl hy rfl) c' b hb hF
      ·exact new_of hR37 (Has.rows (k:=124) rfl hy rfl) c' b hb hF
     refine kb_n<|ks_n<|.region<|.c .pl<|.c .m<|.nil ?_
     refine kl_k [(120,120),(121,121),(122,122),(123,123),(124,139)] (.inr ⟨j+1,nextF E j (ρq10_4 3),rfl,by omega,by omega,hFE.next hNew dR37 hRF,rfl⟩) ⟨kd,kX,kX,kd,kd,kd,kd,kb 120 rfl (.r2 .dt .dt),kb 122 rfl ((by first|exact .setR rfl (.cons .dt (.cons .ow .nil))|(rw[List.take_length];exact .setR rfl (.cons .dt (.cons .ow .nil))))),kb 123 rfl (.dt rfl),kb 139 rfl (.dt rfl (by first|rfl|(rw[←dR_tagT hx1];rfl)|(rw[←dR_tag0 hx1];rfl))),kb 121 rfl (.r2 .ow .ow),trivial⟩
    ·skip
     obtain rfl:j=g.2.length:=by omega
     refine .exit<|ks_e<|kl_e<|kb_hit<|ks_n<|.seq ?_
     refine .keep [eB 2 680 2,eB 3 681 2,(.t 9999,.v (.gh O)),(.b 680,.b 30 2 [[nl,nl]]),eU 680,(.b 682,.b 45 2 (rwA F g.1 k 683 y.1 y.2.length)),eU 682,(.b 683,.b 3 1 (dR (y.2.map rI))),eU 683,(.b 684,.b 80 2 (dR (tagRs E 0 (g.2.map rP)))),eU 684,(.b 681,.b 30 2 [[.own 682 2 (g.1.length),.own 684 2 ((g.2.map rP).length)]]),eU 681] [(680,120),(681,121),(682,122),(683,123),(684,124)] ⟨kX,kX,kd,kb 120 rfl (.r2 .dt .dt),kb 122 rfl ((by first|exact .setR rfl (.cons .dt (.cons .ow .nil))|(rw[List.take_length];exact .setR rfl (.cons .dt (.cons .ow .nil))))),kb 123 rfl (.dt rfl),kb 124 rfl (.dt rfl (by rw[List.take_length])),kb 121 rfl (.r2 .ow .ow),trivial⟩ ?_
     refine ACode.packB 681 0 1 684 (rows:=g.2.map rP) (F:=E) rfl rfl rfl rfl rfl (plain_map plP) (hFE.pos (by simp) (fun i j h=>isPos_L posP h)) (by simp;omega) (fun N2 hN2=>?_)
     have hNO2:=hN2.outE ((HasE.of (gh_has rfl)).or (hasA (A:=682) rfl rfl hFk)) hFE (by simp) (fun i j h=>isPos_L posP h)
     refine .region<|.c (.bN 2)<|.c (.sT 2 true)<|.nn<|.ret ?_
     refine kh_wret ((N2,F)) [(.t 2,.v (.o (.c (.box 100 2 0 0)))),(.b 101,.b 45 2 (rwA F g.1 k 102 y.1 y.2.length)),(.u 101,.u),(.b 102,.b 3 1 (dR (y.2.map rI))),(.u 102,.u),(.b 100,.b 30 2 [[.own 101 2 (g.1.length),.d (.tree (N2) (dPts g.2))]]),(.u 100,.u)] (Wk.keep [(100,680),(101,682),(102,683)] rfl rfl ⟨ks rfl (.c .bx),kb 682 rfl ((by first|exact .setR rfl (.cons .dt (.cons .ow .nil))|(rw[List.take_length];exact .setR rfl (.cons .dt (.cons .ow .nil))))),kb 683 rfl (.dt rfl),kb 680 rfl (.cons (.cons .ow (.cons .dt Ctos.nil)) .nil),trivial⟩) rfl ?_ rfl rfl ?_
     ·rfl
     ·exact⟨fun b h=>⟨fun h1=>hNO2 b h (.inl h1),fun h1=>hNO2 b h (.inr h1)⟩,hFD,hFk⟩
theorem idxG_spec {α:Type} {p:α→Bool}:∀(l:List α) (b:Nat),(idxG p b l= -1∧∀x∈l,p x=false)∨∃(k:Nat) (y:α),idxG p b l=((b+k:Nat):Int)∧l[k]?=some y∧p y=true∧∀(j:Nat) z,j<k→l[j]?=some z→p z=false
  |[],b=>.inl ⟨rfl,fun x hx=>by cases hx⟩
  |x::l,b=>by
    rw[idxG]
    cases h:p x with
    |true=>exact .inr ⟨0,x,by simp,rfl,h,fun j z hj=>by omega⟩
    |false=>
      simp only[Bool.false_eq_true,if_false]
      rcases idxG_spec l (b+1)with⟨h1,h2⟩|⟨k,y,h1,h2,h3,h4⟩
      · exact .inl ⟨h1, fun z hz => by
          rcases List.mem_cons.1 hz with rfl|hz
          ·exact h
          ·exact h2 z hz⟩
      · refine .inr ⟨k+1,y,by rw[h1];congr 1;omega,by rw[List.getElem?_cons_succ];exact h2,h3,fun j z hj hz=>?_⟩
        cases j with
        |zero=>cases hz;exact h
        |succ j=>rw[List.getElem?_cons_succ]at hz;exact h4 j z (by omega) hz
def ixA (nm:ByteArray) (l:List Arr):Int:=idxF (fun a=>sEq a.1 nm) l
theorem ixA_spec (nm:ByteArray) (l:List Arr):(ixA nm l= -1∧∀x∈l,sEq x.1 nm=false)∨∃(k:Nat) (y:Arr),ixA nm l=(k:Int)∧l[k]?=some y∧y.1=nm∧∀(j:Nat) z,j<k→l[j]?=some z→sEq z.1 nm=false:=by
  rcases idxG_spec (p:=fun a:Arr=>sEq a.1 nm) l 0 with h|⟨k,y,h1,h2,h3,h4⟩
  ·exact .inl h
  ·exact .inr ⟨k,y,by rw[Nat.zero_add]at h1;exact h1,h2,sEq_iff.1 h3,h4⟩
theorem atG_in {p:List Int}:∀ {ds:List Int} {ss:List Aff} {n:Int},0≤n→(∀d∈ds,1≤d∧d≤6)→ss.length=ds.length→atG p ds ss n≠ -1→∀(i:Nat) s,ss[i]?=some s→0≤affEval s p∧affEval s p≤5
  |[],[],_,_,_,_,_,i,s,h=>by simp at h
  |[],_::_,_,_,_,hl,_,_,_,_=>by simp at hl
  |_::_,[],_,_,_,hl,_,_,_,_=>by simp at hl
  |d::ds,t::ss,n,hn,hd,hl,h,i,s,hs=>by
    rw[atG]at h
    split at h
    · rename_i hin
      have h1:=of_decide_eq_true hin
      have h2:=hd d (by simp)
      cases i with
      |zero=>cases hs;omega
      |succ i=>
        rw[List.getElem?_cons_succ]at hs
        have hm:0≤n *d:=Int.mul_nonneg hn (by omega)
        exact atG_in (by omega) (fun x hx=>hd x (by simp[hx])) (by simpa using hl) h i s hs
    ·exact absurd rfl h
theorem acc_dims {ar:List Arr} {k:Nat} {y:Arr} {a:Acc} {p:List Int} (hv:arrsV ar=true) (hk:ar[k]?=some y) (hn:a.1=y.1) (hf:∀(j:Nat) z,j<k→ar[j]?=some z→sEq z.1 y.1=false) (hG:accG ar p a=true):a.2.length=y.2.length∧∀(i:Nat) s,a.2[i]?=some s→0≤affEval s p∧affEval s p≤5:=by
  have h1:0≤cellG a p ar 0:=of_decide_eq_true hG
  have key:∀j,j≤k→∃b,cellG a p ar 0=cellG a p (ar.drop j) b:=by
    intro j
    induction j with
    |zero=>exact fun _=>⟨0,rfl⟩
    |succ j ih=>
      intro hj
      obtain⟨b,hb⟩:=ih (by omega)
      have hjl:j<ar.length:=by have:=(List.getElem?_eq_some_iff.1 hk).1;omega
      exact⟨_,hb.trans (cellG_next (List.getElem?_eq_getElem hjl) (by rw[hn];exact hf j _ (by omega) (List.getElem?_eq_getElem hjl)))⟩
  obtain⟨b,hb⟩:=key k (Nat.le_refl _)
  have hkl:=(List.getElem?_eq_some_iff.1 hk).1
  have hd:ar.drop k=y::ar.drop (k+1):=by
    rw[List.drop_eq_getElem_cons hkl,(List.getElem?_eq_some_iff.1 hk).2]
  rw[hb,hd,cellG,if_pos (sEq_iff.2 hn.symm)]at h1
  have hok:=arrsV_at hv (List.mem_of_getElem? hk)
  rw[arrOk,Bool.and_eq_true,Bool.and_eq_true,List.all_eq_true]at hok
  split at h1
  · rename_i hl
    refine⟨hl,?_⟩
    split at h1
    ·omega
    · rename_i hat
      exact atG_in (Int.le_refl _) (fun d hd=>by have h:=hok.2.2 d hd;rw[dimV,inB]at h;exact of_decide_eq_true h) hl hat
  ·omega
/-! ### The sizes, step by step; f tells what a value does to what is known so far. -/
section
variable (f : Int → Int → Int)
def updN (p:List Int) (ss:List Aff) (ds:List Int):Nat→List Int
  |0=>ds
  |i+1=>match ss[i]? with
    |some s=>(updN p ss ds i).set i (f ((updN p ss ds i).getD i 0) (affEval s p))
    |none=>updN p ss ds i
def allA (g:Prg) (x:Ins):List Acc:=rdE (stI g x).2++[(stI g x).1]
def accD (g:Prg) (nm:ByteArray) (x:Ins) (ds:List Int):Nat→List Int
  |0=>ds
  |j+1=>match (allA g x)[j]? with
    |some a=>if sEq a.1 nm=true then updN f x.2.2 a.2 (accD g nm x ds j) a.2.length else accD g nm x ds j
    |none=>accD g nm x ds j
def insD (g:Prg) (nm:ByteArray) (m:Nat) (s0:Int):Nat→List Int
  |0=>List.replicate m s0
  |i+1=>match (insG 0 g.2)[i]? with
    |some x=>accD f g nm x (insD g nm m s0 i) (allA g x).length
    |none=>insD g nm m s0 i
end
section
variable {f : Int → Int → Int} {p : List Int} {ss : List Aff} {ds : List Int} {g : Prg} {nm : ByteArray} {x : Ins} {m : Nat} {s0 : Int}
theorem updN_len:∀ {i:Nat},(updN f p ss ds i).length=ds.length
  |0=>rfl
  |i+1=>by rw[updN];split<;>simp[updN_len (i:=i)]
theorem accD_len:∀ {j:Nat},(accD f g nm x ds j).length=ds.length
  |0=>rfl
  |j+1=>by
    rw[accD]
    split
    · split
      ·rw[updN_len];exact accD_len
      ·exact accD_len
    ·exact accD_len
theorem insD_len:∀ {i:Nat},(insD f g nm m s0 i).length=m
  |0=>by rw[insD,List.length_replicate]
  |i+1=>by
    rw[insD]
    split
    ·rw[accD_len];exact insD_len
    ·exact insD_len
theorem updN_next {i:Nat} {s:Aff} (h:ss[i]?=some s):updN f p ss ds (i+1)=(updN f p ss ds i).set i (f ((updN f p ss ds i).getD i 0) (affEval s p)):=by rw[updN,h]
theorem accD_yes {j:Nat} {a:Acc} (h:(allA g x)[j]?=some a) (hn:sEq a.1 nm=true):accD f g nm x ds (j+1)=updN f x.2.2 a.2 (accD f g nm x ds j) a.2.length:=by rw[accD,h];exact if_pos hn
theorem accD_no {j:Nat} {a:Acc} (h:(allA g x)[j]?=some a) (hn:sEq a.1 nm=false):accD f g nm x ds (j+1)=accD f g nm x ds j:=by rw[accD,h];exact if_neg (by rw[hn];decide)
theorem insD_next {i:Nat} (h:(insG 0 g.2)[i]?=some x):insD f g nm m s0 (i+1)=accD f g nm x (insD f g nm m s0 i) (allA g x).length:=by rw[insD,h]
def InR (lo hi:Int) (l:List Int):Prop:=∀d∈l,lo≤d∧d≤hi
theorem InR.getD {lo hi:Int} {l:List Int} (h:InR lo hi l) {i:Nat} (hi':i<l.length):lo≤l.getD i 0∧l.getD i 0≤hi:=by
  rw[List.getD_eq_getElem?_getD,List.getElem?_eq_getElem hi']
  exact h _ (List.getElem_mem hi')
theorem InR.set {lo hi:Int} {l:List Int} (h:InR lo hi l) {i:Nat} {d:Int} (hd:lo≤d∧d≤hi):InR lo hi (l.set i d):=fun z hz=>by
  rcases List.mem_or_eq_of_mem_set hz with h1|rfl
  ·exact h z h1
  ·exact hd
end
def fI (d n:Int):Int:=max d (n+1)
def fS (d n:Int):Int:=if d<n then n else d
theorem f_hom (d n:Int):fI (d+1) n=fS d n+1:=by
  unfold fI fS
  split<;>omega
theorem getD_map1 {l:List Int} {i:Nat} (h:i<l.length):(l.map (· +1)).getD i 0=l.getD i 0+1:=by
  rw[List.getD_eq_getElem?_getD,List.getD_eq_getElem?_getD,List.getElem?_map,List.getElem?_eq_getElem h];rfl
theorem updN_hom {p:List Int} {ss:List Aff} {ds:List Int} (hl:ss.length≤ds.length):∀ {i:Nat},updN fI p ss (ds.map (· +1)) i=(updN fS p ss ds i).map (· +1)
  |0=>rfl
  |i+1=>by
    rw[updN,updN,updN_hom hl]
    cases h:ss[i]? with
    |none=>rfl
    |some s=>
      have hi:=(List.getElem?_eq_some_iff.1 h).1
      show ((updN fS p ss ds i).map (· +1)).set i _=((updN fS p ss ds i).set i _).map (· +1)
      rw[getD_map1 (by rw[updN_len];omega),f_hom,List.map_set]
theorem accD_hom {g:Prg} {nm:ByteArray} {x:Ins} {ds:List Int} (hl:∀a∈allA g x,sEq a.1 nm=true→a.2.length≤ds.length):∀ {j:Nat},accD fI g nm x (ds.map (· +1)) j=(accD fS g nm x ds j).map (· +1)
  |0=>rfl
  |j+1=>by
    cases h:(allA g x)[j]? with
    |none=>rw[accD,accD,h];exact accD_hom hl
    |some a=>
      by_cases hn:sEq a.1 nm=true
      ·rw[accD_yes h hn,accD_yes h hn,accD_hom hl,updN_hom (by rw[accD_len];exact hl a (List.mem_of_getElem? h) hn)]
      · have hn':sEq a.1 nm=false:=by simpa using hn
        rw[accD_no h hn',accD_no h hn'];exact accD_hom hl
theorem insD_hom {g:Prg} {nm:ByteArray} {m:Nat} (hl:∀x∈insG 0 g.2,∀a∈allA g x,sEq a.1 nm=true→a.2.length≤m):∀ {i:Nat},insD fI g nm m 1 i=(insD fS g nm m 0 i).map (· +1)
  |0=>by rw[insD,insD,List.map_replicate];rfl
  |i+1=>by
    rw[insD,insD,insD_hom hl]
    cases h:(insG 0 g.2)[i]? with
    |none=>rfl
    |some x=>exact accD_hom fun a ha hn=>by rw[insD_len];exact hl x (List.mem_of_getElem? h) a ha hn
def shrD (g:Prg) (nm:ByteArray) (m:Nat):List Int:=insD fI g nm m 1 (insG 0 g.2).length
theorem shrD_len {g:Prg} {nm:ByteArray} {m:Nat}:(shrD g nm m).length=m:=insD_len
def shrG (g:Prg) (nm:ByteArray):Prg×Bool:=if prgV g=true∧0≤ixA nm g.1 then((g.1.set (ixA nm g.1).toNat (nm,shrD g nm (g.1.getD (ixA nm g.1).toNat (nm,[])).2.length),g.2),true)else(([],[]),false)
theorem shrG_no {g:Prg} {nm:ByteArray} (h:¬(prgV g=true∧0≤ixA nm g.1)):shrG g nm=(([],[]),false):=if_neg h
theorem shrG_yes {g:Prg} {nm:ByteArray} {k:Nat} {y:Arr} (hv:prgV g=true) (hk:ixA nm g.1=(k:Int)) (hy:g.1[k]?=some y) (hn:y.1=nm):shrG g nm=((g.1.set k (y.1,shrD g nm y.2.length),g.2),true):=by
  rw[shrG,if_pos ⟨hv,by omega⟩,hk,Int.toNat_natCast,List.getD_eq_getElem?_getD,hy,←hn];rfl
theorem all_acc {g:Prg} {x:Ins} {a:Acc} (ha:a∈allA g x):a=(stI g x).1∨a∈rdE (stI g x).2:=by
  rw[allA,List.mem_append,List.mem_singleton]at ha
  exact ha.symm
theorem all_ok {g:Prg} {x:Ins} {k c:Nat} {q:Prt} (hI:InsOk g x k c q) {a:Acc} (ha:a∈allA g x):accG g.1 x.2.2 a=true∧accV (q.1.length:Int).toNat a=true:=by
  have h1:=hI.ok
  rw[stmG,Bool.and_eq_true,List.all_eq_true]at h1
  have h2:=stm_accs hI.sv
  rcases all_acc ha with rfl|ha
  ·exact⟨h1.1,h2.1⟩
  ·exact⟨h1.2 a ha,h2.2.1 a ha⟩
theorem kid_nil {e x:Ex} (h:rdE e=[]) (hx:x∈e.ks):rdE x=[]:=by
  rw[rdE_eq]at h
  have h2:=(List.append_eq_nil_iff.1 h).2
  revert h2 hx
  generalize e.ks=l
  intro hx h2
  induction l with
  |nil=>cases hx
  |cons y l ih=>
    rw[rdEs,List.append_eq_nil_iff]at h2
    rcases List.mem_cons.1 hx with rfl|hx
    ·exact h2.1
    ·exact ih hx h2.2
theorem reads_own (e:Ex) {d L:Nat} (hv:exV d L e=true) (hcn:cntE e≤64) (hne:0<(rdE e).length) (ih:∀x∈e.ks,Fn Tryz.prog 30 [] [ad (rX x)] (.o (vD (dCs (rdE x)))) []):Fn Tryz.prog 30 [] [ad (rX e)] (.o (.c (.own 100 2 (rdE e).length))) [(.b 100,.b 59 2 (dR ((rdE e).map rC))),(.u 100,.u)]:=by
  have hkl:=(exV_kids hv).1
  refine Fn.of_code Tryz.func30 rfl rfl HB.nil rfl rfl HB.nil.data rfl (one_num rfl) ?_
  refine .r<|.c .bp<|.c .a<|.nn<|.seq<|.r<|.c (.fP 0 0 false)<|.c (.l1 1)<|.c .eq<|.nn ?_
  refine .cD rfl (fun h8=>?_) (fun h8=>?_)
  · skip
    refine .r<|.c (.fP 4 1 true)<|.c (.lN 2) ?_
    refine .c (St1.litB (k':=111) (e:=59) (sz:=1) (m:=0) (xs:=[.tmp 10]) rfl rfl rfl rfl rfl (by kernel_rfl) rfl rfl rfl rfl rfl) ?_
    refine .c .a<|.nn<|.ret<|ks_r ?_
    refine kf_wret [(.t 2,.v (.o (.c (.own 100 2 ((rdE e).length))))),(.b 100,.b 59 2 (dR ((rdE e).map rC))),eU 100] (Wk.keep [(100,111)] rfl rfl ⟨ks rfl (.c (.ow (by rw[rdE_eq,if_pos h8,leaf_nil hv (by omega)];rfl))),kb 111 rfl (.dt rfl (by rw[rdE_eq,if_pos h8,leaf_nil hv (by omega)];rfl)),trivial⟩) rfl ?_ (one_box rfl)
    rfl
  · skip
    refine .skip<|ks_n<|.r<|.c .a<|.nn<|.seq<|.r<|.c (.fP 6 0 false)<|.c (.l1 1)<|.c (.ln 64 7 112)<|.c .m<|.nn<|.block ?_
    refine .loopK (fun m σ=>(∃i:Nat,m=e.ks.length -i∧(i≤e.ks.length)∧(rdEs (e.ks.take i)=[])∧σ=[eP 1 (rX e),(.t 2,.v (.o (.c (nl)))),(.t 3,.v (.o (.c (nl)))),eD 13 (dEs e.ks),eN 14 (e.ks.length:Nat),eN 15 (i:Nat)])∨(∃i:Nat,m=e.ks.length -i∧(i≤e.ks.length)∧(0<(rdEs (e.ks.take i)).length)∧σ=[eP 1 (rX e),(.t 2,.v (.o (.c (nl)))),(.t 3,.v (.o (.c (.own 110 2 ((rdEs (e.ks.take i)).length))))),eD 13 (dEs e.ks),eN 14 (e.ks.length:Nat),eN 15 (i:Nat),(.b 110,.b 59 2 (dR ((rdEs (e.ks.take i)).map rC))),eU 110])) [] (.inl ⟨0,rfl,by omega,by simp[rdEs],rfl⟩) ⟨kd,kd,kd,kd,kd,kd,trivial⟩ ?_
    rintro m σ (⟨i,hm0,hi,h0,rfl⟩|⟨i,hm0,hi,h0,rfl⟩)
    · skip
      refine .r<|.c .ls<|.nn<|.seq ?_
      refine .cD rfl (fun h16=>?_) (fun h16=>?_)
      · skip
        obtain⟨x,hx1⟩:∃x,e.ks[i]?=some x:=⟨_,List.getElem?_eq_getElem (by omega)⟩
        have hmx:=List.mem_of_getElem? hx1
        have hT:=rdEs_take hx1
        have h64:=kids64 (i:=i+1) hcn
        refine .skip<|ks_n<|.seq<|.block<|.r<|.c (.xL 64 7 112 rfl rfl rfl rfl rfl (rE_at hx1)) ?_
        refine .c (.lN 7)<|.c (.al 105 [.int .i64 0,.int .i64 0,.slice none 0 0,.int .i64 0,.string ByteArray.empty,.slice none 0 0,.slice none 0 0])<|.c (.sT 7 true)<|.nn ?_
        by_cases hsp:rdE x=[]
        · skip
          refine .region<|.c .m<|.c (.bN 7) ?_
          refine .c (.cP [.tmp 20] rfl rfl rfl rfl (ih x hmx) rfl) ?_
          refine .c (St1.appNE (e:=59) (sz:=1) (by':=40) rfl rfl rfl rfl rfl (by kernel_rfl) rfl (congrArg (fun l=>some (V.o (vD (dCs l)))) hsp)) ?_
          refine .c .a<|.nil<|kb_n<|ks_n<|.region<|.c .pl<|.c .m<|.nil ?_
          refine kl_k [] (.inl ⟨i+1,rfl,by omega,by rw[hT,h0,hsp];rfl,rfl⟩) ⟨kd,kd,kd,kd,kd,kd,trivial⟩
        · skip
          refine .region<|.c .m<|.c (.bN 7) ?_
          refine .c (.cP [.tmp 20] rfl rfl rfl rfl (ih x hmx) rfl) ?_
          refine .c (St1.appN (k':=122) (e:=59) (sz:=1) (by':=40) rfl rfl rfl rfl rfl (by kernel_rfl) rfl rfl rfl (by rw[List.length_map];exact List.length_pos_iff.2 hsp) (by rw[hT,List.length_append]at h64;simp[dR];omega) rfl rfl) ?_
          refine .c .a<|.nil<|kb_n<|ks_n<|.region<|.c .pl<|.c .m<|.nil ?_
          refine kl_k [(110,122)] (.inr ⟨i+1,rfl,by omega,by rw[hT,List.length_append];have:=List.length_pos_iff.2 hsp;omega,rfl⟩) ⟨kd,kd,ks rfl (.c (.ow (by first|(simp[rdEs];done)|(rw[hT,List.length_append,List.length_map];done)|(rw[hT,h0,List.length_map];rfl)|(simp[hT,h0];done)))),kd,kd,kd,kb 122 rfl (.dt rfl (by first|(rw[hT,←dR_apC];done)|(rw[hT,h0];rfl)|(rw[hT,dR_apC];done)|(simp[dR,hT,h0];done))),trivial⟩
      · skip
        exact absurd hne (by rw[rdE_eq,if_neg h8,←List.take_of_length_le (l:=e.ks) (i:=i) (by omega),List.nil_append,h0];simp)
    · skip
      refine .r<|.c .ls<|.nn<|.seq ?_
      refine .cD rfl (fun h16=>?_) (fun h16=>?_)
      · skip
        obtain⟨x,hx1⟩:∃x,e.ks[i]?=some x:=⟨_,List.getElem?_eq_getElem (by omega)⟩
        have hmx:=List.mem_of_getElem? hx1
        have hT:=rdEs_take hx1
        have h64:=kids64 (i:=i+1) hcn
        refine .skip<|ks_n<|.seq<|.block<|.r<|.c (.xL 64 7 112 rfl rfl rfl rfl rfl (rE_at hx1)) ?_
        refine .c (.lN 7)<|.c (.al 105 [.int .i64 0,.int .i64 0,.slice none 0 0,.int .i64 0,.string ByteArray.empty,.slice none 0 0,.slice none 0 0])<|.c (.sT 7 true)<|.nn<|.region<|.c .m<|.c (.bN 7) ?_
        refine .c (.cP [.tmp 20] rfl rfl rfl rfl (ih x hmx) rfl) ?_
        refine .c (St1.appB (k':=122) (e:=59) (sz:=1) (by':=40) rfl rfl rfl rfl rfl (by kernel_rfl) rfl rfl rfl rfl (by simp[dR]) (by rw[hT,List.length_append]at h64;simp[dR];omega) rfl rfl rfl) ?_
        refine .c .a<|.nil<|kb_n<|ks_n<|.region<|.c .pl<|.c .m<|.nil ?_
        refine kl_k [(110,122)] (.inr ⟨i+1,rfl,by omega,by rw[hT,List.length_append];omega,rfl⟩) ⟨kd,kd,ks rfl (.c (.ow (by first|(simp[rdEs];done)|(rw[hT,List.length_append,List.length_map];done)|(rw[hT,h0,List.length_map];rfl)|(simp[hT,h0];done)))),kd,kd,kd,kb 122 rfl (.dt rfl (by first|(rw[hT,←dR_apC];done)|(rw[hT,h0];rfl)|(rw[hT,dR_apC];done)|(simp[dR,hT,h0];done))),trivial⟩
      · skip
        have hR:rdEs (e.ks.take i)=rdE e:=by rw[List.take_of_length_le (by omega),rdE_eq,if_neg h8];rfl
        refine .exit<|ks_e<|kl_e<|kb_hit<|ks_n<|.r<|.c .m<|.c .a<|.nn<|.ret ?_
        refine kf_wret [(.t 2,.v (.o (.c (.own 100 2 ((rdE e).length))))),(.b 100,.b 59 2 (dR ((rdE e).map rC))),eU 100] (Wk.keep [(100,110)] rfl rfl ⟨ks rfl (.c (.ow (by rw[hR]))),kb 110 rfl (.dt rfl (by rw[hR])),trivial⟩) rfl ?_ (one_box rfl)
        rfl
theorem reads_nil (e:Ex) {d L:Nat} (hv:exV d L e=true) (hcn:cntE e≤64) (hn:rdE e=[]) (ih:∀x∈e.ks,Fn Tryz.prog 30 [] [ad (rX x)] (.o (vD (dCs (rdE x)))) []):Fn Tryz.prog 30 [] [ad (rX e)] (.o (.c (.d (.val (.slice none 0 0))))) []:=by
  have hkl:=(exV_kids hv).1
  refine Fn.code0 Tryz.func30 rfl rfl rfl rfl ?_
  refine .r<|.c .bp<|.c .a<|.nn<|.seq<|.r<|.c (.fP 0 0 false)<|.c (.l1 1)<|.c .eq<|.nn ?_
  refine .cD rfl (fun h8=>?_) (fun h8=>?_)
  · skip
    exact absurd hn (by rw[rdE_eq,if_pos h8];simp)
  · skip
    refine .skip<|ks_n<|.r<|.c .a<|.nn<|.seq<|.r<|.c (.fP 6 0 false)<|.c (.l1 1)<|.c (.ln 64 7 112)<|.c .m<|.nn<|.block ?_
    refine .loopK (fun m σ=>(∃i:Nat,m=e.ks.length -i∧(i≤e.ks.length)∧(rdEs (e.ks.take i)=[])∧σ=[eP 1 (rX e),(.t 2,.v (.o (.c (nl)))),(.t 3,.v (.o (.c (nl)))),eD 13 (dEs e.ks),eN 14 (e.ks.length:Nat),eN 15 (i:Nat)])) [] ⟨0,rfl,by omega,by simp[rdEs],rfl⟩ ⟨kd,kd,kd,kd,kd,kd,trivial⟩ ?_
    rintro m σ ⟨i,hm0,hi,h0,rfl⟩
    refine .r<|.c .ls<|.nn<|.seq ?_
    refine .cD rfl (fun h16=>?_) (fun h16=>?_)
    · skip
      obtain⟨x,hx1⟩:∃x,e.ks[i]?=some x:=⟨_,List.getElem?_eq_getElem (by omega)⟩
      have hmx:=List.mem_of_getElem? hx1
      have hT:=rdEs_take hx1
      have h64:=kids64 (i:=i+1) hcn
      have hxn:rdE x=[]:=kid_nil hn hmx
      refine .skip<|ks_n<|.seq<|.block<|.r<|.c (.xL 64 7 112 rfl rfl rfl rfl rfl (rE_at hx1)) ?_
      refine .c (.lN 7)<|.c (.al 105 [.int .i64 0,.int .i64 0,.slice none 0 0,.int .i64 0,.string ByteArray.empty,.slice none 0 0,.slice none 0 0])<|.c (.sT 7 true)<|.nn<|.region<|.c .m<|.c (.bN 7) ?_
      refine .c (.cP [.tmp 20] rfl rfl rfl rfl (ih x hmx) rfl) ?_
      refine .c (St1.appNE (e:=59) (sz:=1) (by':=40) rfl rfl rfl rfl rfl (by kernel_rfl) rfl (congrArg (fun l=>some (V.o (vD (dCs l)))) hxn)) ?_
      refine .c .a<|.nil<|kb_n<|ks_n<|.region<|.c .pl<|.c .m<|.nil ?_
      refine kl_k [] ⟨i+1,rfl,by omega,by rw[hT,h0,hxn];rfl,rfl⟩ ⟨kd,kd,kd,kd,kd,kd,trivial⟩
    · skip
      refine .exit<|ks_e<|kl_e<|kb_hit<|ks_n<|.r<|.c .m<|.c .a<|.nn<|.ret ?_
      refine kf_ret rfl ?_ nobox
      rfl
theorem idx_arx {f:FuncId} {cap:List (List D)} (hc:callable Tryz.prog f=true) (p:Arr→Bool) (xs:List Arr) (hx:xs.length≤1099511627776) (hf:∀x∈xs,Fn Tryz.prog f [] (ad (rR x)::cap.map fun c=>.c (.ptr c)) (.o (bo1 (p x))) []):Fn Tryz.prog 26 [] [vD (.list 2 (xs.map rR)),.c (.fn f cap)] (.o (nat1 (idxF p xs))) []:=by
 refine Fn.code0 Tryz.func26 rfl rfl rfl rfl ?_
 refine .r<|.c .a<|.nn<|.seq<|.r<|.c .m<|.c (.ln 45 2 40)<|.c .m<|.nn<|.block ?_
 refine .loopK (fun m σ=>(∃i:Nat,m=xs.length -i∧(i≤xs.length)∧(idxF p xs=idxG p i (xs.drop i))∧σ=[eD 0 (.list 2 (xs.map rR)),(.t 1,.v (.o (.c (.fn f cap)))),eN 7 (xs.length:Nat),eN 8 (i:Nat)])) [] ⟨0,rfl,by omega,rfl,rfl⟩ ⟨kd,kd,kd,kd,trivial⟩ ?_
 rintro m σ ⟨i,hm0,hi,hF,rfl⟩
 refine .r<|.c .ls<|.nn<|.seq ?_
 refine .cD rfl (fun h9=>?_) (fun h9=>?_)
 ·skip
  obtain⟨x,hx1⟩:∃x_,xs[i]?=some x_:=⟨_,List.getElem?_eq_getElem (by omega)⟩
  refine .skip<|ks_n<|.seq<|.block<|.r<|.c .m<|.c .a<|.r<|.c .m<|.c .m<|.c .m<|.c (.xL 45 2 40) ?_
  refine .c (.lN 2) ?_
  refine .c (.cP [.tmp 15] rfl rfl rfl rfl (hf x (List.mem_of_getElem? hx1)) rfl hc) ?_
  refine .nn ?_
  refine ACode.condT rfl (fun h16=>?_) (fun h16=>?_)
  ·try simp only[zs]at h16
   refine .r<|.c .m<|.c .a<|.nn<|.ret<|kb_r<|ks_r<|kl_r<|kb_r<|ks_r ?_
   refine kf_ret rfl ?_ nobox
   exact leafI (by rw[hF,idxG_drop hx1,h16];rfl)
  ·try simp only[zs]at h16
   refine .skip<|kb_n<|ks_n<|.region<|.c .pl<|.c .m<|.nil ?_
   refine kl_k [] ⟨i+1,rfl,by omega,by rw[hF,idxG_drop hx1,h16];rfl,rfl⟩ ⟨kd,kd,kd,kd,trivial⟩
 ·skip
  refine .exit<|ks_e<|kl_e<|kb_hit<|ks_n<|.r<|.c .a<|.nn<|.ret ?_
  refine kf_ret rfl ?_ nobox
  exact leafI (by rw[hF,List.drop_of_length_le (by omega)];rfl)
theorem shrC_fn (a:Arr) (nm:ByteArray):Fn Tryz.prog 27 [] [ad (rR a),.c (.ptr [dS nm])] (.o (bo1 (sEq a.1 nm))) []:=by
  refine Fn.code0 Tryz.func27 rfl rfl rfl rfl ?_
  refine .r<|.c .bp<|.c .a<|.r<|.c (.fP 0 0 false)<|.c (.l1 1)<|.c (.l1 1) ?_
  refine .c (St1.eqS rfl rfl rfl)<|.c .a<|.nn<|.ret ?_
  refine kf_ret rfl ?_ nobox
  rfl
theorem shr_rows {F:Nat→Nat→Nat→Prop} {l:List Arr} {k m:Nat} {nm:ByteArray} {N:Nat→Prop} {ds:List Int} {y:Arr} (hy:l[k]?=some y) (hn:y.1=nm):
    (rwA F l k m nm ((ds.map rI).length)).set k (([.d (dS nm),.own m 1 ((ds.map rI).length)]:List C).set 1 (.d (.tree N (.list 1 (ds.map rI)))))=dR (tagRs (fun q=>if q=k then fun _=>N else F q) 0 ((l.set k (nm,ds)).map rR)):=by
  have hkl:=(List.getElem?_eq_some_iff.1 hy).1
  rw[rwA,List.set_set]
  refine List.ext_getElem? fun q=>?_
  rw[List.getElem?_set,dR,dR,List.getElem?_map,List.getElem?_map]
  by_cases hq:k=q
  · subst hq
    rw[if_pos rfl,if_pos (by rw[List.length_map,tagRs_len,List.length_map];exact hkl),tagRs_at (show ((l.set k (nm,ds)).map rR)[k]?=some (rR (nm,ds))by rw[List.getElem?_map,List.getElem?_set_self hkl];rfl),Nat.zero_add,if_pos rfl];rfl
  · rw[if_neg hq]
    cases h:l[q]? with
    |none=>
      rw[List.getElem?_eq_none_iff]at h
      rw[List.getElem?_eq_none (by rw[tagRs_len,List.length_map];exact h),List.getElem?_eq_none (by rw[tagRs_len,List.length_map,List.length_set];exact h)]
    |some x=>
      rw[tagRs_at (show (l.map rR)[q]?=some (rR x)by rw[List.getElem?_map,h];rfl),tagRs_at (show ((l.set k (nm,ds)).map rR)[q]?=some (rR x)by rw[List.getElem?_map,List.getElem?_set_ne hq,h];rfl),Nat.zero_add,if_neg (fun e=>hq e.symm)]
theorem FD.shr {O S N:Nat→Prop} {n k:Nat} {F:Nat→Nat→Nat→Prop} (h:FD O colC n F) (hS:∀b,S b→¬O b∧¬unA F n b) (hN:∀b,N b→¬((O b∨unA F n b)∨S b)):FD (or2 O S) colC n (fun q=>if q=k then fun _=>N else F q):=by
  have h1:∀ {q c b},q<n→colC c→(if q=k then fun _=>N else F q) c b→(q=k∧N b)∨(q≠k∧F q c b∧unA F n b):=fun {q c b} hq hc h=>by
    by_cases hk:q=k
    ·rw[if_pos hk]at h;exact .inl ⟨hk,h⟩
    · rw[if_neg hk]at h
      have hc':c=1:=hc
      exact .inr ⟨hk,h,q,hq,by rw[←hc'];exact h⟩
  refine⟨fun a c a' c' b ha ha' hc hc' h2 h3=>?_,fun a c b ha hc h2 h3=>?_⟩
  · have e1:c=1:=hc
    have e2:c'=1:=hc'
    rcases h1 ha hc h2 with⟨g1,g2⟩|⟨g1,g2,g3⟩<;>rcases h1 ha' hc' h3 with⟨k1,k2⟩|⟨k1,k2,k3⟩
    ·exact⟨g1.trans k1.symm,e1.trans e2.symm⟩
    ·exact absurd (.inl (.inr k3)) (hN b g2)
    ·exact absurd (.inl (.inr g3)) (hN b k2)
    ·exact h.dis a c a' c' b ha ha' hc hc' g2 k2
  · rcases h1 ha hc h2 with⟨g1,g2⟩|⟨g1,g2,g3⟩
    · rcases h3 with h3|h3
      ·exact hN b g2 (.inl (.inl h3))
      ·exact hN b g2 (.inr h3)
    · rcases h3 with h3|h3
      ·exact h.out a c b ha hc g2 h3
      ·exact(hS b h3).2 g3
def onesL (l:List Int):Nat→List Int
  |0=>l
  |i+1=>(onesL l i).set i 1
theorem onesL_len {l:List Int}:∀ {i:Nat},(onesL l i).length=l.length
  |0=>rfl
  |i+1=>by rw[onesL,List.length_set];exact onesL_len
theorem onesL_at {l:List Int}:∀ {i q:Nat},i≤l.length→(onesL l i)[q]?=if q<i then some 1 else l[q]?
  |0,q,_=>by rw[if_neg (by omega)];rfl
  |i+1,q,h=>by
    rw[onesL,List.getElem?_set,onesL_len]
    by_cases e:i=q
    ·subst e;rw[if_pos rfl,if_pos (by omega),if_pos (by omega)]
    · rw[if_neg e,onesL_at (by omega)]
      by_cases h2:q<i
      ·rw[if_pos h2,if_pos (by omega)]
      ·rw[if_neg h2,if_neg (by omega)]
theorem onesL_all {l:List Int}:onesL l l.length=List.replicate l.length 1:=by
  refine List.ext_getElem? fun q=>?_
  rw[onesL_at (Nat.le_refl _),List.getElem?_replicate]
  split
  ·rfl
  ·exact List.getElem?_eq_none (by omega)
theorem tag_ints {F:Nat→Nat→Nat→Prop}:∀ {l:List Int} {n:Nat},tagRs F n (l.map rI)=l.map rI
  |[],_=>rfl
  |x::l,n=>by rw[List.map_cons,tagRs,tag_ints];rfl
theorem getD_of {l:List Int} {i:Nat} {d:Int} (h:l[i]?=some d):l.getD i 0=d:=by rw[List.getD_eq_getElem?_getD,h];rfl
theorem ShrinkArray_no (g:Prg) (nm:ByteArray) (hs:szG g≤1073741824) (hl:g.1.length≤1073741824) (h0:¬(prgV g=true∧0≤ixA nm g.1)):FnT Tryz.prog 9 [ad (rG g),st1 nm] (none') (.strB (rG (shrG g nm).1) (shrG g nm).2):=by
 refine FnT.of_code Tryz.func9 rfl rfl rfl (fun O=>?_)
 refine .r<|.c .bp<|.c .bp<|.c (.al 104 [.slice none 0 0,.slice none 0 0])<|.c .a<|.r<|.c (.lN 2) ?_
 refine .c (.cP [.tmp 20] rfl rfl rfl rfl (instances_fn hs) rfl) ?_
 refine .c .m<|.c .ex<|.c .ex<|.c .a<|.c .a<|.r<|.c (.fP 0 0 false)<|.c (.l1 1) ?_
 refine .c (St1.makeFunc (xs:=[.tmp 3]) rfl rfl rfl rfl rfl rfl rfl)<|.c (.cP [.tmp 25,.tmp 26] rfl rfl rfl rfl (idx_arx (f:=27) (cap:=[[dS nm]]) (by kernel_rfl) (fun a=>sEq a.1 nm) g.1 (by omega) (fun a _=>shrC_fn a nm)) rfl) ?_
 refine .c .a<|.nn<|.seq<|.r<|.c .m<|.c .nt<|.c .m ?_
 refine AOps.cases 30 _ rfl (fun g30=>?_) (fun g30=>?_)
 ·try simp only[zs]at g30
  refine .c .f<|.c .f<|.c .pT<|.nn ?_
  refine .k1 ?_
  refine .r<|.c (.bu [] [(0,1),(1,1)] [.slice none 0 0,.slice none 0 0])<|.c (.sT 2 true)<|.c .a<|.nn<|.ret<|ks_r ?_
  refine kt_wret (nthS [none',none']) [eB 4 100 2,eT 5 false,(.b 100,.b 30 2 [[(.d (.tree none' (dRs []))),(.d (.tree none' (dPts [])))]]),eU 100] (Wk.keep [(100,104)] rfl rfl ⟨kX,kd,kb 104 rfl (.r2 (Cto.nilTE 2 rfl) (Cto.nilTE 2 rfl)),trivial⟩) rfl ?_ ?_ ?_
  ·rw[shrG_no h0];rfl
  ·exact nthS_dis (by first|(simp only[List.pairwise_cons,List.forall_mem_cons,List.not_mem_nil,false_implies,implies_true,and_true,List.Pairwise.nil];done)|(simp only[List.pairwise_cons,List.forall_mem_cons,List.not_mem_nil,false_implies,implies_true,and_true,List.Pairwise.nil];simp[none'];done))
  ·exact nthS_all (by simp only[List.forall_mem_cons,List.not_mem_nil,false_implies,implies_true,and_true];exact⟨(fun b h=>h.elim),(fun b h=>h.elim)⟩)
 ·try simp only[zs]at g30
  refine .c (.g .m)<|.c (.g .ls)<|.c .pF<|.nn ?_
  refine ACode.condT rfl (fun h33=>?_) (fun h33=>?_)
  ·try simp only[zs]at h33
   refine .r<|.c (.bu [] [(0,1),(1,1)] [.slice none 0 0,.slice none 0 0])<|.c (.sT 2 true)<|.c .a<|.nn<|.ret<|ks_r ?_
   refine kt_wret (nthS [none',none']) [eB 4 100 2,eT 5 false,(.b 100,.b 30 2 [[(.d (.tree none' (dRs []))),(.d (.tree none' (dPts [])))]]),eU 100] (Wk.keep [(100,104)] rfl rfl ⟨kX,kd,kb 104 rfl (.r2 (Cto.nilTE 2 rfl) (Cto.nilTE 2 rfl)),trivial⟩) rfl ?_ ?_ ?_
   ·rw[shrG_no h0];rfl
   ·exact nthS_dis (by first|(simp only[List.pairwise_cons,List.forall_mem_cons,List.not_mem_nil,false_implies,implies_true,and_true,List.Pairwise.nil];done)|(simp only[List.pairwise_cons,List.forall_mem_cons,List.not_mem_nil,false_implies,implies_true,and_true,List.Pairwise.nil];simp[none'];done))
   ·exact nthS_all (by simp only[List.forall_mem_cons,List.not_mem_nil,false_implies,implies_true,and_true];exact⟨(fun b h=>h.elim),(fun b h=>h.elim)⟩)
  ·try simp only[zs]at h33
   exact absurd ⟨by simp_all,by show 0≤idxF _ g.1;first|omega|(simp_all;done)|(simp_all;omega)⟩ h0
theorem ShrinkArray_yes (g:Prg) (nm:ByteArray) (hs:szG g≤1073741824) (hl:g.1.length≤1073741824) (hG:OwnG g) (hV:prgV g=true) {kA:Nat} {y:Arr} (hk:ixA nm g.1=(kA:Int)) (hy:g.1[kA]?=some y) (hnm:y.1=nm) (hfk:∀(j:Nat) z,j<kA→g.1[j]?=some z→sEq z.1 nm=false):FnT Tryz.prog 9 [ad (rG g),st1 nm] (none') (.strB (rG (shrG g nm).1) (shrG g nm).2):=by
 obtain⟨hS,hN,hL⟩:=prgV_s hV
 have hv:=(prgS_iff.1 hS).1
 have hkl:=(List.getElem?_eq_some_iff.1 hy).1
 have hyo:=arrsV_at hv (List.mem_of_getElem? hy)
 have hy0:1≤y.2.length∧y.2.length≤2:=by rw[arrOk,Bool.and_eq_true,Bool.and_eq_true,decide_eq_true_eq]at hyo;exact hyo.2.1
 have hix:idxF (fun a:Arr=>sEq a.1 nm) g.1=(kA:Int):=hk
 refine FnT.of_code Tryz.func9 rfl rfl rfl (fun O=>?_)
 refine .r<|.c .bp<|.c .bp<|.c (.al 104 [.slice none 0 0,.slice none 0 0])<|.c .a<|.r<|.c (.lN 2) ?_
 refine .c (.cP [.tmp 20] rfl rfl rfl rfl (instances_fn hs) rfl) ?_
 refine .c .m<|.c .ex<|.c .ex<|.c .a<|.c .a<|.r<|.c (.fP 0 0 false)<|.c (.l1 1) ?_
 refine .c (St1.makeFunc (xs:=[.tmp 3]) rfl rfl rfl rfl rfl rfl rfl)<|.c (.cP [.tmp 25,.tmp 26] rfl rfl rfl rfl (idx_arx (f:=27) (cap:=[[dS nm]]) (by kernel_rfl) (fun a=>sEq a.1 nm) g.1 (by omega) (fun a _=>shrC_fn a nm)) rfl) ?_
 refine .c .a<|.nn<|.seq<|.r<|.c .m<|.c .nt<|.c .m ?_
 refine AOps.cases 30 _ rfl (fun g30=>?_) (fun g30=>?_)
 ·try simp only[zs]at g30
  simp_all
 ·try simp only[zs]at g30
  refine .c (.g .m)<|.c (.g .ls)<|.c .pF<|.nn ?_
  refine ACode.condT rfl (fun h33=>?_) (fun h33=>?_)
  ·try simp only[zs]at h33
   first|omega|(exfalso;simp_all;done)|(exfalso;simp_all;omega)
  ·try simp only[zs]at h33
   refine .skip<|ks_n<|.r<|.c (.lN 2) ?_
   refine AOps.callH (rows':=fun i=>rwA i.2 g.1 kA 991 y.1 y.2.length) 990 991 [.tmp 35] rfl rfl rfl rfl rfl rfl (by kernel_rfl) rfl (own_H g hG hy (by omega)) rfl (fun i k hk=>.inl (List.mem_singleton.1 hk)) (fun i=>rwA_refs) rfl rfl rfl rfl rfl (fun i=>rwA_ren) (fun i36 O36 hf36 hO36=>?_)
   obtain⟨hA,hFD0,hFk⟩:=hf36
   have hOO:=hO36 O (gh_has rfl)
   have hFD:=hFD0.sub hOO
   have hnN:insV g=insG 0 g.2:=hN
   refine .c (.al 109 [.slice none 0 0,.slice none 0 0])<|.c (.sT 2 true)<|.r<|.c (.fB 0 0 false)<|.c (.b1 1)<|.c .m ?_
   refine .c (.xB 45 2 40 (i:=kA) rfl rfl rfl rfl rfl hix hkl) ?_
   refine .c (.fB 1 0 false) ?_
   refine .c (.b1 1 rfl rfl rfl rfl (rwA_at hkl) rfl)<|.c .a<|.nn<|.seq<|.r<|.c .m<|.c (.lB 3 1 8)<|.c .m<|.nn<|.block ?_
   refine .loopK (fun m σ=>(∃i:Nat,m=y.2.length -i∧(i≤y.2.length)∧σ=[eP 2 (rG g),eP 3 [dS nm],eB 4 110 2,eT 5 false,eD 6 (dNs (insG 0 g.2)),eB 9 111 2,(.t 10,.v (.o (.c (.own 991 1 (y.2.length))))),eN 44 (y.2.length:Nat),eN 45 (i:Nat),(.t 9999,.v (.gh O)),(.b 110,.b 30 2 [[nl,nl]]),eU 110,(.b 111,.b 30 2 [[.own 990 2 (g.1.length),.d (.tree i36.1 (dPts g.2))]]),eU 111,(.b 991,.b 3 1 (dR ((onesL y.2 i).map rI))),eU 991,(.b 990,.b 45 2 (rwA i36.2 g.1 kA 991 y.1 y.2.length)),eU 990])) [(110,104),(111,109),(991,991),(990,990)] ⟨0,rfl,Nat.zero_le _,rfl⟩ ⟨kd,kd,kX,kd,ks rfl (.dt (by first|rfl|(rw[hN];done)|(rw[hN];rfl))),kX,ks rfl (.c (.ow rfl)),kd,kd,kd,kb 104 rfl (.r2 .dt .dt),kb 109 rfl (.r2 .ow .dt),kb 991 rfl (.dt rfl (by first|rfl|exact dR_setI _ _ _ _)),kb 990 rfl (.setR rfl (.cons .dt (.cons .ow .nil))),trivial⟩ ?_
   rintro m σ ⟨i,hm0,hi,rfl⟩
   refine .r<|.c .ls<|.nn<|.seq ?_
   refine .cD rfl (fun h46=>?_) (fun h46=>?_)
   ·skip
    obtain⟨b0,hb0⟩:∃b,(onesL y.2 i)[i]?=some b:=⟨_,List.getElem?_eq_getElem (by rw[onesL_len];omega)⟩
    refine .skip<|ks_n<|.seq<|.block<|.r<|.c .m<|.c .a<|.nn<|.region<|.c .m<|.c .m ?_
    refine .c (.xB 3 1 8 (i:=i) rfl rfl rfl rfl rfl rfl (by omega)) ?_
    refine .c (.sT 1 false rfl rfl rfl rfl (dR_at (map_at hb0)) rfl rfl)<|.nil<|kb_n<|ks_n<|.region<|.c .pl<|.c .m<|.nil ?_
    refine kl_k [(110,110),(111,111),(991,991),(990,990)] ⟨i+1,rfl,by omega,rfl⟩ ⟨kd,kd,kX,kd,ks rfl (.dt (by first|rfl|(rw[hN];done)|(rw[hN];rfl))),kX,ks rfl (.c (.ow rfl)),kd,kd,kd,kb 110 rfl (.r2 .dt .dt),kb 111 rfl (.r2 .ow .dt),kb 991 rfl (.dt rfl (by first|rfl|exact dR_setI _ _ _ _)),kb 990 rfl (.setR rfl (.cons .dt (.cons .ow .nil))),trivial⟩
   ·skip
    obtain rfl:i=y.2.length:=by omega
    refine .exit<|ks_e<|kl_e<|kb_hit<|ks_n<|.seq<|.r<|.c .m<|.c (.ln 56 3 40)<|.c .m<|.nn<|.block ?_
    refine .loopK (fun m σ=>(∃i:Nat,m=(insG 0 g.2).length -i∧(i≤(insG 0 g.2).length)∧σ=[eP 2 (rG g),eP 3 [dS nm],eB 4 120 2,eT 5 false,eB 9 121 2,(.t 10,.v (.o (.c (.own 991 1 (y.2.length))))),eD 52 (dNs (insG 0 g.2)),eN 53 ((insG 0 g.2).length:Nat),eN 54 (i:Nat),(.t 9999,.v (.gh O)),(.b 120,.b 30 2 [[nl,nl]]),eU 120,(.b 121,.b 30 2 [[.own 990 2 (g.1.length),.d (.tree i36.1 (dPts g.2))]]),eU 121,(.b 991,.b 3 1 (dR (((insD fI g nm y.2.length 1 i)).map rI))),eU 991,(.b 990,.b 45 2 (rwA i36.2 g.1 kA 991 y.1 y.2.length)),eU 990])) [(120,110),(121,111),(991,991),(990,990)] ⟨0,rfl,Nat.zero_le _,rfl⟩ ⟨kd,kd,kX,kd,kX,ks rfl (.c (.ow rfl)),kd,kd,kd,kd,kb 110 rfl (.r2 .dt .dt),kb 111 rfl (.r2 .ow .dt),kb 991 rfl (.dt rfl (by first|rfl|(rw[onesL_all];rfl)|(rw[hnx];done))),kb 990 rfl (.setR rfl (.cons .dt (.cons .ow .nil))),trivial⟩ ?_
    rintro m σ ⟨i,hm0,hi,rfl⟩
    refine .r<|.c .ls<|.nn<|.seq ?_
    refine .cD rfl (fun h55=>?_) (fun h55=>?_)
    ·skip
     obtain⟨x,hx1⟩:∃x_,(insG 0 g.2)[i]?=some x_:=⟨_,List.getElem?_eq_getElem (by omega)⟩
     obtain⟨k,c,q,hI⟩:=ins_at hS (List.mem_of_getElem? hx1)
     have hsz:=stI_sz hI
     obtain⟨hex,hac,hcn,_,_⟩:=stmtV_ex hI.sv
     have hrl:=(stm_accs hI.sv).2.2
     have hal:(allA g x).length≤13:=by rw[allA,List.length_append];simp;omega
     have hnx:=insD_next (f:=fI) (nm:=nm) (m:=y.2.length) (s0:=1) hx1
     refine .skip<|ks_n<|.seq<|.block<|.r<|.c (.xL 56 3 40 rfl rfl rfl rfl rfl (map_at hx1)) ?_
     refine .c (.lN 3)<|.c (.al 113 [.int .i64 0,.int .i64 0,.slice none 0 0])<|.c (.sT 3 true)<|.r<|.c (.lN 2)<|.c (.bN 3) ?_
     refine .c (.cP [.tmp 58,.tmp 59] rfl rfl rfl rfl (stmt_fn hI) rfl) ?_
     refine .c (.al 114 [.string ByteArray.empty,.slice none 0 0,.int .i64 0,.int .i64 0,.slice none 0 0,.int .i64 0,.string ByteArray.empty,.slice none 0 0,.slice none 0 0])<|.c (.sT 9 true)<|.nn<|.seq ?_
     refine ACode.cut [eP 2 (rG g),eP 3 [dS nm],eB 4 960 2,eT 5 false,eB 9 961 2,(.t 10,.v (.o (.c (.own 991 1 (y.2.length))))),eB 13 962 3,eD 52 (dNs (insG 0 g.2)),eN 53 ((insG 0 g.2).length:Nat),eN 54 (i:Nat),eD 67 (dCs (allA g x)),eN 68 ((allA g x).length:Nat),eN 69 0,(.t 9999,.v (.gh O)),(.b 960,.b 30 2 [[nl,nl]]),eU 960,(.b 961,.b 30 2 [[.own 990 2 (g.1.length),.d (.tree i36.1 (dPts g.2))]]),eU 961,(.b 991,.b 3 1 (dR (((insD fI g nm y.2.length 1 i)).map rI))),eU 991,(.b 962,.b 56 3 (dR ([rN x]))),eU 962,(.b 990,.b 45 2 (rwA i36.2 g.1 kA 991 y.1 y.2.length)),eU 990] ?_ ?_
     ·skip
      by_cases hsp:rdE (stI g x).2=[]
      ·skip
       have hre:=hsp
       refine ACode.drawK (by kernel_rfl) (by kernel_rfl) ?_
       refine .c (.fB 2 6 true)<|.c (.bN 7) ?_
       refine .c (.cP [.tmp 62] rfl rfl rfl rfl (reads_nil (stI g x).2 hex (by omega) hre (fun z hz=>reads_fn (L:=4) z (by omega) ((exV_kids hex).2 z hz))) rfl) ?_
       refine .c (.fB 0 1 true)<|.c (.bN 2)<|.c (.li 59 1 0 [.tmp 65]) ?_
       refine .c (St1.appND (e:=59) (sz:=1) (by':=40) rfl rfl rfl rfl rfl (by kernel_rfl) rfl rfl rfl (by simp)) ?_
       refine .c (.ln 59 2 40)<|.c .m ?_
       refine .nil ⟨by kernel_rfl,?_⟩
       exact kc_n (Wk.keep [(960,120),(961,121),(991,991),(962,113),(990,990)] rfl rfl ⟨kd,kd,kX,kd,kX,ks rfl (.c (.ow rfl)),kX,kd,kd,kd,ks rfl (.dt (by unfold allA dCs;rw[List.map_append];first|rfl|(rw[hre];rfl))),ks rfl (.dt (vI (by rw[allA];first|(simp;done)|(simp[hre];done)|(simp;omega)))),kd,kd,kb 120 rfl (.r2 .dt .dt),kb 121 rfl (.r2 .ow .dt),kb 991 rfl (.dt rfl rfl),kb 113 rfl (.dt rfl),kb 990 rfl (.setR rfl (.cons .dt (.cons .ow .nil))),trivial⟩)
      ·skip
       have hre:0<(rdE (stI g x).2).length:=List.length_pos_iff.2 hsp
       refine ACode.drawK (by kernel_rfl) (by kernel_rfl) ?_
       refine .c (.fB 2 6 true)<|.c (.bN 7) ?_
       refine .c (.cO [.tmp 62] [(100,163)] rfl rfl rfl rfl (reads_own (stI g x).2 hex (by omega) hre (fun z hz=>reads_fn (L:=4) z (by omega) ((exV_kids hex).2 z hz))) rfl trivial flatS.nil (flatS.nil.cons rfl) HB.nil.data outS_one) ?_
       refine .c (.fB 0 1 true)<|.c (.bN 2)<|.c (.li 59 1 0 [.tmp 65]) ?_
       refine .c (St1.appD (rows:=(rdE (stI g x).2).map rC) (e:=59) (sz:=1) (by':=40) rfl rfl rfl rfl rfl (by kernel_rfl) rfl rfl rfl rfl (by simp[dR]) (by simp[dR];omega) rfl) ?_
       refine .c (.ln 59 2 40)<|.c .m ?_
       refine .nil ⟨by kernel_rfl,?_⟩
       exact kc_n (Wk.keep [(960,120),(961,121),(991,991),(962,113),(990,990)] rfl rfl ⟨kd,kd,kX,kd,kX,ks rfl (.c (.ow rfl)),kX,kd,kd,kd,ks rfl (.dt (by unfold allA dCs;rw[List.map_append];first|rfl|(rw[hre];rfl))),ks rfl (.dt (vI (by rw[allA];first|(simp;done)|(simp[hre];done)|(simp;omega)))),kd,kd,kb 120 rfl (.r2 .dt .dt),kb 121 rfl (.r2 .ow .dt),kb 991 rfl (.dt rfl rfl),kb 113 rfl (.dt rfl),kb 990 rfl (.setR rfl (.cons .dt (.cons .ow .nil))),trivial⟩)
     refine ks_n<|.block ?_
     refine .loopK (fun m σ=>(∃j:Nat,m=(allA g x).length -j∧(j≤(allA g x).length)∧σ=[eP 2 (rG g),eP 3 [dS nm],eB 4 130 2,eT 5 false,eB 9 131 2,(.t 10,.v (.o (.c (.own 991 1 (y.2.length))))),eB 13 132 3,eD 52 (dNs (insG 0 g.2)),eN 53 ((insG 0 g.2).length:Nat),eN 54 (i:Nat),eD 67 (dCs (allA g x)),eN 68 ((allA g x).length:Nat),eN 69 (j:Nat),(.t 9999,.v (.gh O)),(.b 130,.b 30 2 [[nl,nl]]),eU 130,(.b 131,.b 30 2 [[.own 990 2 (g.1.length),.d (.tree i36.1 (dPts g.2))]]),eU 131,(.b 991,.b 3 1 (dR (((accD fI g nm x (insD fI g nm y.2.length 1 i) j)).map rI))),eU 991,(.b 132,.b 56 3 (dR ([rN x]))),eU 132,(.b 990,.b 45 2 (rwA i36.2 g.1 kA 991 y.1 y.2.length)),eU 990])) [(130,960),(131,961),(991,991),(132,962),(990,990)] ⟨0,rfl,Nat.zero_le _,rfl⟩ ⟨kd,kd,kX,kd,kX,ks rfl (.c (.ow rfl)),kX,kd,kd,kd,kd,kd,kd,kd,kb 960 rfl (.r2 .dt .dt),kb 961 rfl (.r2 .ow .dt),kb 991 rfl (.dt rfl (by first|rfl|(rw[hna];done))),kb 962 rfl (.dt rfl),kb 990 rfl (.setR rfl (.cons .dt (.cons .ow .nil))),trivial⟩ ?_
     rintro m σ ⟨j,hm0,hj,rfl⟩
     refine .r<|.c .ls<|.nn<|.seq ?_
     refine .cD rfl (fun h70=>?_) (fun h70=>?_)
     ·skip
      obtain⟨a,ha1⟩:∃x_,(allA g x)[j]?=some x_:=⟨_,List.getElem?_eq_getElem (by omega)⟩
      obtain⟨hq1,hq2⟩:=all_ok hI (List.mem_of_getElem? ha1)
      obtain⟨hq0,hq3⟩:=accV_at hq2
      refine .skip<|ks_n<|.seq<|.block<|.r<|.c (.xL 59 2 40 rfl rfl rfl rfl rfl (map_at ha1)) ?_
      refine .c (.lN 2)<|.c (.al 116 [.string ByteArray.empty,.slice none 0 0])<|.c (.sT 2 true)<|.nn<|.seq<|.r<|.c (.fB 0 0 false)<|.c (.b1 1)<|.c (.l1 1) ?_
      refine .c (St1.neS rfl rfl rfl)<|.nn ?_
      refine ACode.condT rfl (fun h76=>?_) (fun h76=>?_)
      ·try simp only[zs]at h76
       have hna:=accD_no (f:=fI) (nm:=nm) (ds:=(insD fI g nm y.2.length 1 i)) ha1 (by simp_all)
       refine .exit<|ks_e<|kb_hit<|ks_n<|.region<|.c .pl<|.c .m<|.nil ?_
       refine kl_k [(130,130),(131,131),(991,991),(132,132),(990,990)] ⟨j+1,rfl,by omega,rfl⟩ ⟨kd,kd,kX,kd,kX,ks rfl (.c (.ow rfl)),kX,kd,kd,kd,kd,kd,kd,kd,kb 130 rfl (.r2 .dt .dt),kb 131 rfl (.r2 .ow .dt),kb 991 rfl (.dt rfl (by first|rfl|(rw[hna];done))),kb 132 rfl (.dt rfl),kb 990 rfl (.setR rfl (.cons .dt (.cons .ow .nil))),trivial⟩
      ·try simp only[zs]at h76
       have hsq:sEq a.1 nm=true:=by simp_all
       have hna:=accD_yes (f:=fI) (nm:=nm) (ds:=(insD fI g nm y.2.length 1 i)) ha1 hsq
       obtain⟨hd1,hd2⟩:=acc_dims hv hy (by rw[sEq_iff.1 hsq,hnm]) (by rw[hnm];exact hfk) hq1
       refine .skip<|ks_n<|.r<|.c (.fB 1 0 false)<|.c (.b1 1)<|.c (.ln 61 2 32)<|.c .m<|.nn<|.block ?_
       refine .loopK (fun m σ=>(∃q:Nat,m=a.2.length -q∧(q≤a.2.length)∧σ=[eP 2 (rG g),eP 3 [dS nm],eB 4 140 2,eT 5 false,eB 9 141 2,(.t 10,.v (.o (.c (.own 991 1 (y.2.length))))),eB 13 142 3,eD 52 (dNs (insG 0 g.2)),eN 53 ((insG 0 g.2).length:Nat),eN 54 (i:Nat),eD 67 (dCs (allA g x)),eN 68 ((allA g x).length:Nat),eN 69 (j:Nat),eD 78 (dAs a.2),eN 79 (a.2.length:Nat),eN 80 (q:Nat),(.t 9999,.v (.gh O)),(.b 140,.b 30 2 [[nl,nl]]),eU 140,(.b 141,.b 30 2 [[.own 990 2 (g.1.length),.d (.tree i36.1 (dPts g.2))]]),eU 141,(.b 991,.b 3 1 (dR (((updN fI x.2.2 a.2 (accD fI g nm x (insD fI g nm y.2.length 1 i) j) q)).map rI))),eU 991,(.b 142,.b 56 3 (dR ([rN x]))),eU 142,(.b 990,.b 45 2 (rwA i36.2 g.1 kA 991 y.1 y.2.length)),eU 990])) [(140,130),(141,131),(991,991),(142,132),(990,990)] ⟨0,rfl,Nat.zero_le _,rfl⟩ ⟨kd,kd,kX,kd,kX,ks rfl (.c (.ow rfl)),kX,kd,kd,kd,kd,kd,kd,kd,kd,kd,kd,kb 130 rfl (.r2 .dt .dt),kb 131 rfl (.r2 .ow .dt),kb 991 rfl (.dt rfl (by first|rfl|(rw[updN_next hs1,getD_of hb0];exact dR_setI _ _ _ _))),kb 132 rfl (.dt rfl),kb 990 rfl (.setR rfl (.cons .dt (.cons .ow .nil))),trivial⟩ ?_
       rintro m σ ⟨q,hm0,hq,rfl⟩
       refine .r<|.c .ls<|.nn<|.seq ?_
       refine .cD rfl (fun h81=>?_) (fun h81=>?_)
       ·skip
        obtain⟨s,hs1⟩:∃x_,a.2[q]?=some x_:=⟨_,List.getElem?_eq_getElem (by omega)⟩
        have hsb:=hd2 q s hs1
        obtain⟨b0,hb0⟩:∃b,((updN fI x.2.2 a.2 (accD fI g nm x (insD fI g nm y.2.length 1 i) j) q))[q]?=some b:=⟨_,List.getElem?_eq_getElem (by rw[updN_len,accD_len,insD_len];omega)⟩
        refine .skip<|ks_n<|.seq<|.block<|.r<|.c .m ?_
        refine .c (.xL 61 2 32 rfl rfl rfl rfl rfl (map_at hs1)) ?_
        refine .c (.lN 2)<|.c (.al 118 [.slice none 0 0,.int .i64 0])<|.c .a<|.c (.sT 2 true)<|.nn ?_
        refine ACode.drawK (by kernel_rfl) (by kernel_rfl) ?_
        refine .c .m<|.c .m<|.c .m<|.c .m ?_
        refine .c (.xB 3 1 8 (i:=q) rfl rfl rfl rfl rfl rfl (by omega)) ?_
        refine .c (.b1 1 rfl rfl rfl rfl (dR_at (map_at hb0)) rfl)<|.c (.bN 2)<|.c (.fB 2 0 false)<|.c (.b1 1) ?_
        refine .c (.cP [.tmp 91,.tmp 93] rfl rfl rfl rfl (eval_fn (hq3 _ (List.mem_of_getElem? hs1)) (npR_pt hI.pt).1 (npR_pt hI.pt).2) rfl) ?_
        refine .c .pl ?_
        refine .c (St1.max2 rfl rfl rfl rfl rfl rfl)<|.c (.xB 3 1 8 (i:=q) rfl rfl rfl rfl rfl rfl (by omega)) ?_
        refine .c (.sT 1 false rfl rfl rfl rfl (dR_at (map_at hb0)) rfl rfl) ?_
        refine .nil ⟨by kernel_rfl,?_⟩
        refine kb_n<|ks_n<|.region<|.c .pl<|.c .m<|.nil ?_
        refine kl_k [(140,140),(141,141),(991,991),(142,142),(990,990)] ⟨q+1,rfl,by omega,rfl⟩ ⟨kd,kd,kX,kd,kX,ks rfl (.c (.ow rfl)),kX,kd,kd,kd,kd,kd,kd,kd,kd,kd,kd,kb 140 rfl (.r2 .dt .dt),kb 141 rfl (.r2 .ow .dt),kb 991 rfl (.dt rfl (by first|rfl|(rw[updN_next hs1,getD_of hb0];exact dR_setI _ _ _ _))),kb 142 rfl (.dt rfl),kb 990 rfl (.setR rfl (.cons .dt (.cons .ow .nil))),trivial⟩
       ·skip
        obtain rfl:q=a.2.length:=by omega
        refine .exit<|ks_e<|kl_e<|kb_hit<|kb_n<|ks_n<|.region<|.c .pl<|.c .m<|.nil ?_
        refine kl_k [(130,140),(131,141),(991,991),(132,142),(990,990)] ⟨j+1,rfl,by omega,rfl⟩ ⟨kd,kd,kX,kd,kX,ks rfl (.c (.ow rfl)),kX,kd,kd,kd,kd,kd,kd,kd,kb 140 rfl (.r2 .dt .dt),kb 141 rfl (.r2 .ow .dt),kb 991 rfl (.dt rfl (by first|rfl|(rw[hna];done))),kb 142 rfl (.dt rfl),kb 990 rfl (.setR rfl (.cons .dt (.cons .ow .nil))),trivial⟩
     ·skip
      obtain rfl:j=(allA g x).length:=by omega
      refine .exit<|ks_e<|kl_e<|kb_hit<|kb_n<|ks_n<|.region<|.c .pl<|.c .m<|.nil ?_
      refine kl_k [(120,130),(121,131),(991,991),(990,990)] ⟨i+1,rfl,by omega,rfl⟩ ⟨kd,kd,kX,kd,kX,ks rfl (.c (.ow rfl)),kd,kd,kd,kd,kb 130 rfl (.r2 .dt .dt),kb 131 rfl (.r2 .ow .dt),kb 991 rfl (.dt rfl (by first|rfl|(rw[onesL_all];rfl)|(rw[hnx];done))),kb 990 rfl (.setR rfl (.cons .dt (.cons .ow .nil))),trivial⟩
    ·skip
     obtain rfl:i=(insG 0 g.2).length:=by omega
     refine .exit<|ks_e<|kl_e<|kb_hit<|ks_n<|.seq ?_
     refine .keep [eB 4 570 2,eT 5 false,eB 9 571 2,(.t 10,.v (.o (.c (.own 991 1 (((shrD g nm y.2.length).map rI).length))))),(.t 9999,.v (.gh O)),(.b 570,.b 30 2 [[nl,nl]]),eU 570,(.b 571,.b 30 2 [[.own 990 2 (g.1.length),.d (.tree i36.1 (dPts g.2))]]),eU 571,(.b 991,.b 3 1 (dR (tagRs noF 0 ((shrD g nm y.2.length).map rI)))),eU 991,(.b 990,.b 45 2 (rwA i36.2 g.1 kA 991 y.1 ((shrD g nm y.2.length).map rI).length)),eU 990] [(570,120),(571,121),(991,991),(990,990)] ⟨kX,kd,kX,ks rfl (.c (.ow (by rw[List.length_map,shrD_len]))),kd,kb 120 rfl (.r2 .dt .dt),kb 121 rfl (.r2 .ow .dt),kb 991 rfl (.dt rfl (by rw[tag_ints];rfl)),kb 990 rfl (.setR rfl (.cons .dt (.cons (.ow (by rw[List.length_map,shrD_len])) .nil))),trivial⟩ ?_
     refine ACode.packB 990 kA 1 991 (rows:=((shrD g nm y.2.length).map rI)) (F:=noF) rfl rfl (rwA_at hkl) rfl rfl (plain_map plI) (fun i j i' j' b h1=>(isPos_L posI h1).elim) (by rw[List.length_map,shrD_len];have:=hG.arr y (List.mem_of_getElem? hy);omega) (fun N1 hN1=>?_)
     have hNO1:=hN1.outE (((HasE.of (gh_has rfl)).or (hasA (A:=990) rfl rfl hFk)).or (.of (Has.box (i:=0) (j:=1) 571 rfl rfl rfl (.d (.tree _))))) (⟨fun _ _ _ _ _ _ _ _ _ h=>h.elim,fun _ _ _ _ _ h=>h.elim⟩:FD ((fun b=>(O b∨unA i36.2 g.1.length b)∨i36.1 b)) none' y.2.length noF) (by rw[List.length_map,shrD_len]) (fun i j h=>isPos_L posI h)
     have hF2:=hFD.shr (N:=N1) (k:=kA) (fun b h=>⟨fun hO=>(hA b h).1 (hOO b hO),(hA b h).2⟩) hNO1
     refine .keep [eB 4 680 2,eT 5 false,eB 9 681 2,(.t 9999,.v (.gh O)),(.b 680,.b 30 2 [[nl,nl]]),eU 680,(.b 682,.b 45 2 (dR (tagRs (fun q=>if q=kA then fun _=>N1 else i36.2 q) 0 ((g.1.set kA (y.1,shrD g nm y.2.length)).map rR)))),eU 682,(.b 681,.b 30 2 [[.own 682 2 (((g.1.set kA (y.1,shrD g nm y.2.length)).map rR).length),.d (.tree i36.1 (dPts g.2))]]),eU 681] [(680,570),(681,571),(682,990)] ⟨kX,kd,kX,kd,kb 570 rfl (.r2 .dt .dt),kb 990 rfl (.dt rfl (shr_rows hy rfl)),kb 571 rfl (.r2 (.ow (by rw[List.length_map,List.length_set])) .dt),trivial⟩ ?_
     refine ACode.packB 681 0 0 682 (rows:=(g.1.set kA (y.1,shrD g nm y.2.length)).map rR) (F:=fun q=>if q=kA then fun _=>N1 else i36.2 q) rfl rfl rfl rfl rfl (plain_map plR) (hF2.pos (by rw[List.length_map,List.length_set]) (fun i j h=>isPos_L posR h)) (by rw[List.length_map,List.length_set];omega) (fun N2 hN2=>?_)
     have hNO2:=hN2.outE ((HasE.of (gh_has rfl)).or (.of (Has.box (i:=0) (j:=1) 681 rfl rfl rfl (.d (.tree _))))) hF2 (by rw[List.length_map,List.length_set]) (fun i j h=>isPos_L posR h)
     refine .region<|.c (.bN 2)<|.c (.sT 2 true)<|.c .a<|.nn<|.ret ?_
     refine kt_ret (nthS [N2,i36.1]) rfl ?_ ?_ ?_
     ·rw[shrG_yes hV hk hy hnm];rfl
     ·exact nthS_dis (List.Pairwise.cons (by simp only[List.forall_mem_cons,List.not_mem_nil,false_implies,implies_true,and_true];exact fun b h1 h2=>hNO2 b h1 (.inr h2)) (List.pairwise_singleton _ _))
     ·exact nthS_all (by simp only[List.forall_mem_cons,List.not_mem_nil,false_implies,implies_true,and_true];exact⟨(fun b h=>.inr (fun hO=>hNO2 b h (.inl hO))),(fun b h=>.inr (fun h2=>(hA b h).1 (hOO b h2)))⟩)
theorem ShrinkArray_T (g:Prg) (nm:ByteArray) (hs:szG g≤1073741824) (hl:g.1.length≤1073741824) (hG:prgV g=true→OwnG g):FnT Tryz.prog 9 [ad (rG g),st1 nm] (none') (.strB (rG (shrG g nm).1) (shrG g nm).2):=by
  by_cases h:prgV g=true∧0≤ixA nm g.1
  · rcases ixA_spec nm g.1 with⟨h1,_⟩|⟨k,y,h1,h2,h3,h4⟩
    ·omega
    ·exact ShrinkArray_yes g nm hs hl (hG h.1) h.1 h1 h2 h3 h4
  ·exact ShrinkArray_no g nm hs hl h
theorem dR_rep0j (n:Nat):dR (List.replicate n [dI 0])=dR ((List.replicate n (0:Int)).map rI):=by rw[List.map_replicate];rfl
theorem set_selfI {l:List Int} {i:Nat} {d:Int} (h:l[i]?=some d):l.set i d=l:=by
  refine List.ext_getElem? fun q=>?_
  rw[List.getElem?_set]
  split
  ·rename_i e;subst e;rw[if_pos (List.getElem?_eq_some_iff.1 h).1,h]
  ·rfl
theorem most_fn {g:Prg} {nm:ByteArray} (hS:prgS g=true) (hsz0:szG g≤1073741824) {kA:Nat} {y:Arr} (hy:g.1[kA]?=some y) (hnm:y.1=nm) (hfk:∀(j:Nat) z,j<kA→g.1[j]?=some z→sEq z.1 nm=false):Fn Tryz.prog 22 [] [ad (rG g),st1 nm,nat1 (y.2.length:Nat)] (.o (vD (dIs (insD fS g nm y.2.length 0 (insG 0 g.2).length)))) []:=by
 have hv:=(prgS_iff.1 hS).1
 have hL:=insG_len hS
 have hyo:=arrsV_at hv (List.mem_of_getElem? hy)
 have hy0:1≤y.2.length∧y.2.length≤2:=by rw[arrOk,Bool.and_eq_true,Bool.and_eq_true,decide_eq_true_eq]at hyo;exact hyo.2.1
 refine Fn.code0 Tryz.func22 rfl rfl rfl rfl ?_
 refine .r<|.c .bp<|.c .a<|.r<|.c .m ?_
 refine .c (.mk 116 3 1 8 [.int .i64 0] (m:=y.2.length) rfl rfl rfl (by omega) rfl rfl) ?_
 refine .c .a<|.r<|.c (.lN 2) ?_
 refine .c (.cP [.tmp 17] rfl rfl rfl rfl (l4Instances_fn hS) rfl) ?_
 refine .c .a<|.nn<|.seq<|.r<|.c .a<|.nn<|.block ?_
 refine .loopK (fun m σ=>(∃i:Nat,m=(insG 0 g.2).length -i∧(i≤(insG 0 g.2).length)∧σ=[(.t 1,.v (.o (st1 nm))),eN 2 (y.2.length:Nat),eP 3 (rG g),(.t 7,.v (.o (.c (.own 110 1 (y.2.length))))),eD 8 (dNs (insG 0 g.2)),eN 9 (i:Nat),(.b 110,.b 3 1 (dR (((insD fS g nm y.2.length 0 i)).map rI))),eU 110])) [(110,116)] ⟨0,rfl,Nat.zero_le _,rfl⟩ ⟨kd,kd,kd,kW,kd,kd,kb 116 rfl (.dt rfl (by first|rfl|exact dR_rep0j _|(rw[hnx];done))),trivial⟩ ?_
 rintro m σ ⟨i,hm0,hi,rfl⟩
 refine .seq<|.r<|.c .m<|.c .m<|.c (.ln 56 3 40)<|.c .ls<|.nn ?_
 refine .cD rfl (fun h22=>?_) (fun h22=>?_)
 ·skip
  obtain⟨x,hx1⟩:∃x_,(insG 0 g.2)[i]?=some x_:=⟨_,List.getElem?_eq_getElem (by omega)⟩
  obtain⟨k,c,q,hI⟩:=ins_at hS (List.mem_of_getElem? hx1)
  have hsz:=stI_sz hI
  obtain⟨hex,hac,hcn,_,_⟩:=stmtV_ex hI.sv
  have hrl:=(stm_accs hI.sv).2.2
  have hz2:szE (stI g x).2≤1073741824:=by have:=hsz;rw[szS]at this;omega
  have hal:(allA g x).length≤13:=by rw[allA,List.length_append];simp;omega
  have hnx:=insD_next (f:=fS) (nm:=nm) (m:=y.2.length) (s0:=0) hx1
  refine .skip<|ks_n<|.seq<|.block<|.seq ?_
  refine .keep [(.t 1,.v (.o (st1 nm))),eN 2 (y.2.length:Nat),eP 3 (rG g),(.t 7,.v (.o (.c (.own 760 1 (y.2.length))))),eD 8 (dNs (insG 0 g.2)),eN 9 (i:Nat),(.b 760,.b 3 1 (dR (((insD fS g nm y.2.length 0 i)).map rI))),eU 760] [(760,110)] ⟨kd,kd,kd,kW,kd,kd,kb 110 rfl (.dt rfl rfl),trivial⟩ ?_
  refine ACode.drawK (by kernel_rfl) (by kernel_rfl) ?_
  refine .c (.fP 1 0 false)<|.c (.l1 1)<|.c .m<|.c .m ?_
  refine .c (.xL 56 3 40 rfl rfl rfl rfl rfl (map_at hx1)) ?_
  refine .c (.fP 0 0 false)<|.c (.l1 1) ?_
  refine .c (.xL 80 2 48 (i:=k) rfl rfl rfl rfl hI.e1 (map_at hI.hq)) ?_
  refine .c (.fP 1 0 false)<|.c (.l1 1)<|.c .m<|.c .m ?_
  refine .c (.xL 56 3 40 rfl rfl rfl rfl rfl (map_at hx1)) ?_
  refine .c (.fP 1 0 false)<|.c (.l1 1) ?_
  refine .c (.xL 66 9 152 (i:=c) rfl rfl rfl rfl hI.e2 (map_at hI.hs)) ?_
  refine .c (.lN 9)<|.c (.al 110 [.string ByteArray.empty,.slice none 0 0,.int .i64 0,.int .i64 0,.slice none 0 0,.int .i64 0,.string ByteArray.empty,.slice none 0 0,.slice none 0 0])<|.c (.sT 9 true) ?_
  refine .nil ⟨by kernel_rfl,?_⟩
  refine ks_n<|.seq ?_
  refine ACode.drawK (by kernel_rfl) (by kernel_rfl) ?_
  refine .c (St1.lit0 (k':=142) (e:=59) (sz:=2) (b:=true) rfl rfl rfl rfl (by kernel_rfl) rfl rfl) ?_
  refine .c (.fB 2 6 true)<|.c (.bN 7) ?_
  refine .c (.cO [.tmp 42,.tmp 44] [(0,142),(1000,145)] rfl rfl rfl rfl (l3Reads_fn (stI g x).2 hz2 [] (by simp;omega)) rfl ⟨rfl,trivial⟩ (hbL_flat _ _) (hbL_flat _ _) (hbL_HB _ _) outS_one) ?_
  refine .c (.fB 0 1 true)<|.c (.bN 2)<|.c (.li 59 1 0 [.tmp 47]) ?_
  refine .c (St1.appD (rows:=(([]:List Acc)++rdE (stI g x).2).map rC) (e:=59) (sz:=1) (by':=40) rfl rfl rfl rfl rfl (by kernel_rfl) rfl rfl rfl rfl (by simp[dR]) (by simp[dR];omega) rfl) ?_
  refine .c .a ?_
  refine .nil ⟨by kernel_rfl,?_⟩
  refine ks_n<|.r<|.c .a<|.nn<|.block ?_
  refine .loopK (fun m σ=>(∃j:Nat,m=(allA g x).length -j∧(j≤(allA g x).length)∧σ=[(.t 1,.v (.o (st1 nm))),eN 2 (y.2.length:Nat),eP 3 (rG g),(.t 7,.v (.o (.c (.own 120 1 (y.2.length))))),eD 8 (dNs (insG 0 g.2)),eN 9 (i:Nat),eD 11 (dCs (allA g x)),eN 12 (j:Nat),(.b 120,.b 3 1 (dR (((accD fS g nm x (insD fS g nm y.2.length 0 i) j)).map rI))),eU 120])) [(120,760)] ⟨0,rfl,Nat.zero_le _,rfl⟩ ⟨kd,kd,kd,kW,kd,kd,ks rfl (.dt (by first|rfl|(unfold allA dCs;rw[List.map_append,List.map_append];rfl))),kd,kb 760 rfl (.dt rfl (by first|rfl|(rw[hna];done))),trivial⟩ ?_
  rintro m σ ⟨j,hm0,hj,rfl⟩
  refine .seq<|.r<|.c .m<|.c .m<|.c (.ln 59 2 40)<|.c .ls<|.nn ?_
  refine .cD rfl (fun h53=>?_) (fun h53=>?_)
  ·skip
   obtain⟨a,ha1⟩:∃x_,(allA g x)[j]?=some x_:=⟨_,List.getElem?_eq_getElem (by omega)⟩
   obtain⟨hq1,hq2⟩:=all_ok hI (List.mem_of_getElem? ha1)
   obtain⟨hq0,hq3⟩:=accV_at hq2
   refine .skip<|ks_n<|.seq<|.block<|.seq ?_
   by_cases hsp:sEq a.1 nm=true
   ·skip
    have hna:=accD_yes (f:=fS) (nm:=nm) (ds:=(insD fS g nm y.2.length 0 i)) ha1 hsp
    obtain⟨hd1,hd2⟩:=acc_dims hv hy (by rw[sEq_iff.1 hsp,hnm]) (by rw[hnm];exact hfk) hq1
    refine .region<|.c .a<|.nn<|.block ?_
    refine .loopK (fun m σ=>(∃q:Nat,m=a.2.length -q∧(q≤a.2.length)∧σ=[(.t 1,.v (.o (st1 nm))),eN 2 (y.2.length:Nat),eP 3 (rG g),(.t 7,.v (.o (.c (.own 130 1 (y.2.length))))),eD 8 (dNs (insG 0 g.2)),eN 9 (i:Nat),eD 11 (dCs (allA g x)),eN 12 (j:Nat),eN 13 (q:Nat),(.b 130,.b 3 1 (dR (((updN fS x.2.2 a.2 (accD fS g nm x (insD fS g nm y.2.length 0 i) j) q)).map rI))),eU 130])) [(130,120)] ⟨0,rfl,Nat.zero_le _,rfl⟩ ⟨kd,kd,kd,kW,kd,kd,kd,kd,kd,kb 120 rfl (.dt rfl (by first|rfl|(rw[updN_next hs1,hfv];first|exact dR_setI _ _ _ _|(rw[set_selfI hb0];done)))),trivial⟩ ?_
    rintro m σ ⟨q,hm0,hq,rfl⟩
    refine .seq<|.r<|.c .m<|.c .m<|.c .ls<|.c .m ?_
    refine .cD 59 rfl (fun g59=>?_) (fun g59=>?_)
    ·skip
     refine .c (.g .m)<|.c (.g .m) ?_
     refine .c (.gT rfl rfl rfl (.xL 59 2 40 rfl rfl rfl rfl rfl (map_at ha1))) ?_
     refine .c (.g (.fP 0 0 false))<|.c (.g (.l1 1))<|.c (.g .m) ?_
     refine .c (.gT rfl rfl rfl (St1.eqS rfl rfl rfl))<|.c .pT<|.nn ?_
     refine ACode.condT rfl (fun h67=>?_) (fun h67=>?_)
     ·try simp only[zs]at h67
      obtain⟨s,hs1⟩:∃x_,a.2[q]?=some x_:=⟨_,List.getElem?_eq_getElem (by omega)⟩
      have hsb:=hd2 q s hs1
      obtain⟨b0,hb0⟩:∃b,((updN fS x.2.2 a.2 (accD fS g nm x (insD fS g nm y.2.length 0 i) j) q))[q]?=some b:=⟨_,List.getElem?_eq_getElem (by rw[updN_len,accD_len,insD_len];omega)⟩
      refine .skip<|ks_n<|.seq<|.block<|.seq ?_
      refine ACode.drawK (by kernel_rfl) (by kernel_rfl) ?_
      refine .c .m<|.c .m ?_
      refine .c (.xL 59 2 40 rfl rfl rfl rfl rfl (map_at ha1)) ?_
      refine .c (.fP 1 0 false)<|.c (.l1 1)<|.c .m ?_
      refine .c (.xL 61 2 32 rfl rfl rfl rfl rfl (map_at hs1)) ?_
      refine .c (.lN 2)<|.c .m<|.c .m ?_
      refine .c (.xL 56 3 40 rfl rfl rfl rfl rfl (map_at hx1)) ?_
      refine .c (.fP 2 0 false)<|.c (.l1 1) ?_
      refine .c (.cP [.tmp 77,.tmp 82] rfl rfl rfl rfl (l1Eval_fn (hq3 _ (List.mem_of_getElem? hs1)) (npR_pt hI.pt).1 (npR_pt hI.pt).2) rfl) ?_
      refine .c .a ?_
      refine .nil ⟨by kernel_rfl,?_⟩
      refine ks_n<|.r<|.c .m<|.c .m<|.c .m ?_
      refine .c (.xB 3 1 8 (i:=q) rfl rfl rfl rfl rfl rfl (by omega)) ?_
      refine .c (.b1 1 rfl rfl rfl rfl (dR_at (map_at hb0)) rfl)<|.c .gt<|.nn ?_
      refine .cD rfl (fun h89=>?_) (fun h89=>?_)
      ·skip
       have hfv:fS (((updN fS x.2.2 a.2 (accD fS g nm x (insD fS g nm y.2.length 0 i) j) q)).getD q 0) (affEval s x.2.2)=affEval s x.2.2:=by rw[getD_of hb0,fS,if_pos (by omega)]
       refine .region<|.c .m<|.c .m<|.c .m ?_
       refine .c (.xB 3 1 8 (i:=q) rfl rfl rfl rfl rfl rfl (by omega)) ?_
       refine .c (.sT 1 false rfl rfl rfl rfl (dR_at (map_at hb0)) rfl rfl)<|.nil<|kb_n<|ks_n<|.region<|.c .m<|.c .pl<|.c .a<|.nil ?_
       refine kl_k [(130,130)] ⟨q+1,rfl,by omega,rfl⟩ ⟨kd,kd,kd,kW,kd,kd,kd,kd,kd,kb 130 rfl (.dt rfl (by first|rfl|(rw[updN_next hs1,hfv];first|exact dR_setI _ _ _ _|(rw[set_selfI hb0];done)))),trivial⟩
      ·skip
       have hfv:fS (((updN fS x.2.2 a.2 (accD fS g nm x (insD fS g nm y.2.length 0 i) j) q)).getD q 0) (affEval s x.2.2)=b0:=by rw[getD_of hb0,fS,if_neg (by omega)]
       refine .skip<|kb_n<|ks_n<|.region<|.c .m<|.c .pl<|.c .a<|.nil ?_
       refine kl_k [(130,130)] ⟨q+1,rfl,by omega,rfl⟩ ⟨kd,kd,kd,kW,kd,kd,kd,kd,kd,kb 130 rfl (.dt rfl (by first|rfl|(rw[updN_next hs1,hfv];first|exact dR_setI _ _ _ _|(rw[set_selfI hb0];done)))),trivial⟩
     ·try simp only[zs]at h67
      exfalso;simp_all
    ·skip
     obtain rfl:q=a.2.length:=by omega
     refine .c .f<|.c .f<|.c .f<|.c .f<|.c .f<|.c .f<|.c .f<|.c .pF<|.nn ?_
     refine .k0 ?_
     refine .exit<|ks_e<|kl_e<|kb_hit<|kb_n<|ks_n<|.region<|.c .m<|.c .pl<|.c .a<|.nil ?_
     refine kl_k [(120,130)] ⟨j+1,rfl,by omega,rfl⟩ ⟨kd,kd,kd,kW,kd,kd,ks rfl (.dt (by first|rfl|(unfold allA dCs;rw[List.map_append,List.map_append];rfl))),kd,kb 130 rfl (.dt rfl (by first|rfl|(rw[hna];done))),trivial⟩
   ·skip
    have hsf:sEq a.1 nm=false:=by simpa using hsp
    have hna:=accD_no (f:=fS) (nm:=nm) (ds:=(insD fS g nm y.2.length 0 i)) ha1 hsf
    refine .region<|.c .a<|.nn<|.block ?_
    refine .loopK (fun m σ=>(∃q:Nat,m=q∧(q=0)∧σ=[(.t 1,.v (.o (st1 nm))),eN 2 (y.2.length:Nat),eP 3 (rG g),(.t 7,.v (.o (.c (.own 130 1 (y.2.length))))),eD 8 (dNs (insG 0 g.2)),eN 9 (i:Nat),eD 11 (dCs (allA g x)),eN 12 (j:Nat),eN 13 (q:Nat),(.b 130,.b 3 1 (dR (((accD fS g nm x (insD fS g nm y.2.length 0 i) j)).map rI))),eU 130])) [(130,120)] ⟨0,rfl,rfl,rfl⟩ ⟨kd,kd,kd,kW,kd,kd,kd,kd,kd,kb 120 rfl (.dt rfl rfl),trivial⟩ ?_
    rintro m σ ⟨q,hm0,hq0,rfl⟩
    refine .seq<|.r<|.c .m<|.c .m<|.c .ls<|.c .m ?_
    refine .cD 59 rfl (fun g59=>?_) (fun g59=>?_)
    ·skip
     refine .c (.g .m)<|.c (.g .m) ?_
     refine .c (.gT rfl rfl rfl (.xL 59 2 40 rfl rfl rfl rfl rfl (map_at ha1))) ?_
     refine .c (.g (.fP 0 0 false))<|.c (.g (.l1 1))<|.c (.g .m) ?_
     refine .c (.gT rfl rfl rfl (St1.eqS rfl rfl rfl))<|.c .pT<|.nn ?_
     refine ACode.condT rfl (fun h67=>?_) (fun h67=>?_)
     ·try simp only[zs]at h67
      exfalso;simp_all
     ·try simp only[zs]at h67
      refine .exit<|ks_e<|kl_e<|kb_hit<|kb_n<|ks_n<|.region<|.c .m<|.c .pl<|.c .a<|.nil ?_
      refine kl_k [(120,130)] ⟨j+1,rfl,by omega,rfl⟩ ⟨kd,kd,kd,kW,kd,kd,ks rfl (.dt (by first|rfl|(unfold allA dCs;rw[List.map_append,List.map_append];rfl))),kd,kb 130 rfl (.dt rfl (by first|rfl|(rw[hna];done))),trivial⟩
    ·skip
     refine .c .f<|.c .f<|.c .f<|.c .f<|.c .f<|.c .f<|.c .f<|.c .pF<|.nn ?_
     refine .k0 ?_
     refine .exit<|ks_e<|kl_e<|kb_hit<|kb_n<|ks_n<|.region<|.c .m<|.c .pl<|.c .a<|.nil ?_
     refine kl_k [(120,130)] ⟨j+1,rfl,by omega,rfl⟩ ⟨kd,kd,kd,kW,kd,kd,ks rfl (.dt (by first|rfl|(unfold allA dCs;rw[List.map_append,List.map_append];rfl))),kd,kb 130 rfl (.dt rfl (by first|rfl|(rw[hna];done))),trivial⟩
  ·skip
   obtain rfl:j=(allA g x).length:=by omega
   refine .exit<|ks_e<|kl_e<|kb_hit<|kb_n<|ks_n<|.region<|.c .m<|.c .pl<|.c .a<|.nil ?_
   refine kl_k [(110,120)] ⟨i+1,rfl,by omega,rfl⟩ ⟨kd,kd,kd,kW,kd,kd,kb 120 rfl (.dt rfl (by first|rfl|exact dR_rep0j _|(rw[hnx];done))),trivial⟩
 ·skip
  obtain rfl:i=(insG 0 g.2).length:=by omega
  refine .exit<|ks_e<|kl_e<|kb_hit<|ks_n<|.r<|.c .m<|.c .a<|.nn<|.ret ?_
  refine kf_wret [eD 6 (dIs (insD fS g nm y.2.length 0 (insG 0 g.2).length))] (Wk.keep [] rfl rfl ⟨ks rfl (.c (.fz rfl rfl (by rw[List.length_map,insD_len]) (by omega))),trivial⟩) rfl ?_ nobox
  rfl
end Go.Proofs.YtollooimmfngjaaGreat
