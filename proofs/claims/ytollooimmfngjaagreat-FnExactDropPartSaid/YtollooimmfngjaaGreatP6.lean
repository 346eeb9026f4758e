/- Part 6 of 7 of the proof: laws on memory and data, then what the functions compute, in the order in which they build on each other; conditions: those that each theorem names. -/
import Derived.Lib.SliceRun
import Derived.Test.YtollooimmfngjaaGreatP5
set_option maxRecDepth 100000
set_option maxHeartbeats 1600000

namespace Go.Proofs.YtollooimmfngjaaGreat
set_option linter.unusedVariables false
set_option linter.unusedSimpArgs false
open Go.RowKit
theorem mem_rdEs {a:Acc}:∀ {l:List Ex},a∈rdEs l→∃x∈l,a∈rdE x
  |[],h=>by rw[rdEs]at h;cases h
  |x::l,h=>by
    rw[rdEs,List.mem_append]at h
    rcases h with h|h
    ·exact⟨x,by simp,h⟩
    · obtain⟨y,hy,h2⟩:=mem_rdEs h
      exact⟨y,by simp[hy],h2⟩
theorem rdE_acc {d:Nat} {a:Acc}:∀ {L:Nat} {e:Ex},exV d L e=true→a∈rdE e→accV d a=true
  |0,e,h,_=>by cases h
  |L+1,e,h,ha=>by
    rw[exV,Bool.and_eq_true,Bool.and_eq_true]at h
    rw[rdE_eq,List.mem_append]at ha
    rcases ha with ha|ha
    · split at ha
      · rename_i hk
        have h2:=h.1.2
        rw[fldV,if_neg (by omega),if_neg (by omega),if_pos hk,Bool.and_eq_true]at h2
        rw[List.mem_singleton.1 ha];exact h2.2
      ·cases ha
    · obtain⟨x,hx,h3⟩:=mem_rdEs ha
      exact rdE_acc (List.all_eq_true.1 h.2 x hx) h3
theorem stm_accs {D:Int} {s:Stm} (h:stmtV D s=true):accV D.toNat s.1=true∧(∀a∈rdE s.2,accV D.toNat a=true)∧(rdE s.2).length≤12:=by
  obtain⟨h1,h2,h3,_⟩:=stmtV_ex h
  exact⟨h2,fun a ha=>rdE_acc h1 ha,Nat.le_trans (rdE_len s.2) h3⟩
theorem accG_not {ar:List Arr} {p:List Int}:(fun a=>decide (cellG a p ar 0<0))=fun a=> !accG ar p a:=by
  funext a;rw[accG,Bool.eq_iff_iff];simp
theorem cloneInts_fn (p:List Int) (hp:p.length≤4294967296):Fn Tryz.prog 67 [] [vD (dIs p)] (.o (vD (dIs p))) []:=
  Fn.pure fun B bx al w vs hv=>by
    obtain⟨v,rfl,h⟩:=vals1 hv
    have h3:=dr_ints h
    obtain⟨a,n,c,rfl,rfl⟩:=sl_form h3
    exact(clone_any B a _ c p w h3 hp).mono fun e w' ⟨v,h1,h2,h4⟩=>⟨_,h1,h4,ints_dr ((h2.sl (by omega)).mono fun b hb _=>.inr (h2.lt b hb).1)⟩
theorem idx_stm {f:FuncId} {cap:List (List D)} (hc:callable Tryz.prog f=true) (p:Stm→Bool) (xs:List Stm) (hx:xs.length≤1099511627776) (hf:∀x∈xs,Fn Tryz.prog f [] (ad (rS x)::cap.map fun c=>.c (.ptr c)) (.o (bo1 (p x))) []):Fn Tryz.prog 107 [] [vD (.list 9 (xs.map rS)),.c (.fn f cap)] (.o (nat1 (idxF p xs))) []:=by
 refine Fn.code0 Tryz.func107 rfl rfl rfl rfl ?_
 refine .r<|.c .a<|.nn<|.seq<|.r<|.c .m<|.c (.ln 66 9 152)<|.c .m<|.nn<|.block ?_
 refine .loopK (fun m σ=>(∃i:Nat,m=xs.length -i∧(i≤xs.length)∧(idxF p xs=idxG p i (xs.drop i))∧σ=[eD 0 (.list 9 (xs.map rS)),(.t 1,.v (.o (.c (.fn f cap)))),eN 7 (xs.length:Nat),eN 8 (i:Nat)])) [] ⟨0,rfl,by omega,rfl,rfl⟩ ⟨kd,kd,kd,kd,trivial⟩ ?_
 rintro m σ ⟨i,hm0,hi,hF,rfl⟩
 refine .r<|.c .ls<|.nn<|.seq ?_
 refine .cD rfl (fun h9=>?_) (fun h9=>?_)
 ·skip
  obtain⟨x,hx1⟩:∃x_,xs[i]?=some x_:=⟨_,List.getElem?_eq_getElem (by omega)⟩
  refine .skip<|ks_n<|.seq<|.block<|.r<|.c .m<|.c .a<|.r<|.c .m<|.c .m<|.c .m<|.c (.xL 66 9 152) ?_
  refine .c (.lN 9) ?_
  refine .c (.cP [.tmp 15] rfl rfl rfl rfl (hf x (List.mem_of_getElem? hx1)) rfl hc) ?_
  refine .nn ?_
  refine ACode.condT rfl (fun h16=>?_) (fun h16=>?_)
  ·try simp only[zs]at h16
   refine .r<|.c .m<|.c .a<|.nn<|.ret<|kb_r<|ks_r<|kl_r<|kb_r<|ks_r ?_
   refine kf_ret rfl ?_ nobox
   exact leafI (by rw[hF,idxG_drop hx1,h16];rfl)
  ·try simp only[zs]at h16
   refine .skip<|kb_n<|ks_n<|.region<|.c .pl<|.c .m<|.nil ?_
   refine kl_k [] ⟨i+1,rfl,by omega,by rw[hF,idxG_drop hx1,h16];rfl,rfl⟩ ⟨kd,kd,kd,kd,trivial⟩
 ·skip
  refine .exit<|ks_e<|kl_e<|kb_hit<|ks_n<|.r<|.c .a<|.nn<|.ret ?_
  refine kf_ret rfl ?_ nobox
  exact leafI (by rw[hF,List.drop_of_length_le (by omega)];rfl)
theorem cnt_stm {f:FuncId} {cap:List (List D)} (hc:callable Tryz.prog f=true) (p:Stm→Bool) (xs:List Stm) (hx:xs.length≤1099511627776) (hf:∀x∈xs,Fn Tryz.prog f [] (ad (rS x)::cap.map fun c=>.c (.ptr c)) (.o (bo1 (p x))) []):Fn Tryz.prog 62 [] [vD (.list 9 (xs.map rS)),.c (.fn f cap)] (.o (bo1 (xs.any p))) []:=by
  refine Fn.code0 Tryz.func62 rfl rfl rfl rfl ?_
  refine .r<|.c .a<|.r<|.c .m<|.c .m ?_
  refine .c (.cP [.tmp 5,.tmp 6] rfl rfl rfl rfl (idx_stm hc p xs hx hf) rfl) ?_
  refine .c .ge<|.c .a<|.nn<|.ret ?_
  refine kf_ret rfl ?_ nobox
  exact leafB idxG_any
theorem sok1_fn {g:Prg} (hv:arrsV g.1=true) {D:Nat} {a:Acc} {p:List Int} (ha:accV D a=true) (hS:Small p) (hn:p.length≤4):Fn Tryz.prog 113 [] [ad (rC a),.c (.ptr (rG g)),.c (.ptr [dIs p])] (.o (bo1 (decide (cellG a p g.1 0<0)))) []:=by
  refine Fn.code0 Tryz.func113 rfl rfl rfl rfl ?_
  refine .r<|.c .bp<|.c .a<|.r<|.c (.lN 2)<|.c (.lN 2)<|.c (.l1 1) ?_
  refine .c (.cP [.tmp 5,.tmp 6,.tmp 7] rfl rfl rfl rfl (cell_fn hv ha hS hn) rfl) ?_
  refine .c .ls<|.c .a<|.nn<|.ret ?_
  refine kf_ret rfl ?_ nobox
  rfl
theorem sok_fn {g:Prg} (hv:arrsV g.1=true) {D:Int} {s:Stm} {p:List Int} (hs:stmtV D s=true) (hS:Small p) (hn:p.length≤4):Fn Tryz.prog 66 [] [ad (rG g),ad (rS s),vD (dIs p)] (.o (bo1 (stmG g.1 s p))) []:=by
  obtain⟨ha,hr,hrl⟩:=stm_accs hs
  refine Fn.code0 Tryz.func66 rfl rfl rfl rfl ?_
  refine .r<|.c .bp<|.c .bp<|.c .bp<|.c .a<|.r<|.c (.lN 2)<|.c (.fP 0 1 true)<|.c (.lN 2)<|.c (.l1 1) ?_
  refine .c (.cP [.tmp 7,.tmp 9,.tmp 10] rfl rfl rfl rfl (cell_fn hv ha hS hn) rfl) ?_
  refine .c .ge<|.c .m ?_
  refine .cD 13 rfl (fun g13=>?_) (fun g13=>?_)
  · skip
    refine .c (.g (.fP 2 6 true))<|.c (.g (.lN 7)) ?_
    refine .c (.gT rfl rfl rfl (.cP [.tmp 15] rfl rfl rfl rfl (reads_fn (L:=5) s.2 (by omega) (stmtV_ex hs).1) rfl)) ?_
    refine .c (.gT rfl rfl rfl (St1.makeFunc (xs:=[.tmp 3,.tmp 5]) rfl rfl rfl rfl rfl rfl rfl))<|.c (.gT rfl rfl rfl (.cP [.tmp 16,.tmp 17] rfl rfl rfl rfl (cnt_acc (f:=113) (cap:=[rG g,[dIs p]]) (by kernel_rfl) (fun a=>decide (cellG a p g.1 0<0)) (rdE s.2) (by omega) (fun a ha=>sok1_fn hv (hr a ha) hS hn)) rfl)) ?_
    refine .c (.g .nt)<|.c .pT<|.c .a<|.nn<|.ret ?_
    refine kf_ret rfl ?_ nobox
    exact leafB (by rw[stmG,accG];first|(rw[accG_not,nany];simp[*];done)|(simp[*];done))
  · skip
    refine .c .f<|.c .f<|.c .f<|.c .f<|.c .f<|.c .f<|.c .pF<|.c .a<|.nn<|.ret ?_
    refine kf_ret rfl ?_ nobox
    exact leafB (by rw[stmG,accG];first|(rw[accG_not,nany];simp[*];done)|(simp[*];done))
theorem ins1_fn {q:Prt} {s:Stm} (hs:szS s≤1073741824):Fn Tryz.prog 63 [] [ad (rS s),.c (.ptr (rP q))] (.o (bo1 (!stmtV (q.1.length:Nat) s))) []:=by
  refine Fn.code0 Tryz.func63 rfl rfl rfl rfl ?_
  refine .r<|.c .bp<|.c .a<|.r<|.c (.lN 9)<|.c (.fP 0 0 false)<|.c (.l1 1)<|.c (.ln 148 2 48) ?_
  refine .c (.cP [.tmp 4,.tmp 7] rfl rfl rfl rfl (implStmtV_fn (q.1.length:Nat) s (by omega)) rfl) ?_
  refine .c .nt<|.c .a<|.nn<|.ret ?_
  refine kf_ret rfl ?_ nobox
  rfl
theorem all_of {α:Type} {l:List α} {p:α→Bool} (h:∀(j:Nat) x,l[j]?=some x→p x=true):l.all p=true:=by
  rw[List.all_eq_true]
  intro x hx
  obtain⟨j,hj⟩:=List.mem_iff_getElem?.1 hx
  exact h j x hj
theorem instances_fn {g:Prg} (hs:szG g≤1073741824):Fn Tryz.prog 25 [] [ad (rG g)] (.tup [vD (dNs (insV g)),bo1 (prgV g)]) []:=by
 have h1:=szO_len (f:=szR) g.1
 have h2:=szO_len (f:=szPt) g.2
 have hsz:szG g=szO szR g.1+szO szPt g.2:=rfl
 refine Fn.code0 Tryz.func25 rfl rfl rfl rfl ?_
 refine .r<|.c .bp<|.c .a<|.c .a<|.nn<|.seq<|.r<|.c (.fP 0 0 false)<|.c (.l1 1) ?_
 refine .c (.cP [.tmp 14] rfl rfl rfl rfl (arraysOk_fn g.1 (by omega) (fun x hx=>by have:=szO_mem (f:=szR) hx;have e:szR x=x.1.size+x.2.length:=rfl;omega)) rfl) ?_
 refine .c .nt<|.c .m ?_
 refine AOps.cases 17 _ rfl (fun g17=>?_) (fun g17=>?_)
 ·try simp only[zs]at g17
  refine .c .f<|.c .f<|.c .f<|.c .f<|.c .pT<|.nn ?_
  refine .k1 ?_
  refine .seq ?_
  obtain⟨hO,hN⟩:=prgV_f (g:=g) (by first|exact prgS_f2 (show ¬g.2.length≤4 by omega)|exact prgS_f1 (by assumption))
  refine .region<|.c .a<|.c .a<|.nn<|.ret<|ks_r ?_
  refine kf_wret [eD 2 (dNs (insV g)),eT 3 (prgV g)] (Wk.keep [] rfl rfl ⟨ks rfl (.c (Cto.nilE 3 (by first|(rw[hN];rfl)|(rw[hN,hEz];rfl)))),ks rfl (.dt (by first|exact congrArg (fun b=>V.o (bo1 b)) hO.symm|exact congrArg (fun b=>V.o (bo1 b)) (by rw[hO,hEz,decide_eq_decide];simp)|exact congrArg (fun b=>V.o (bo1 b)) (by rw[hO,hEz,decide_eq_decide];omega))),trivial⟩) rfl ?_ nobox
  rfl
 ·try simp only[zs]at g17
  refine .c (.g (.fP 1 0 false))<|.c (.g (.l1 1))<|.c (.g (.ln 80 2 48))<|.c (.g .gt)<|.c .pF<|.nn ?_
  refine ACode.condT rfl (fun h22=>?_) (fun h22=>?_)
  ·try simp only[zs]at h22
   refine .seq ?_
   obtain⟨hO,hN⟩:=prgV_f (g:=g) (by first|exact prgS_f2 (show ¬g.2.length≤4 by omega)|exact prgS_f1 (by assumption))
   refine .region<|.c .a<|.c .a<|.nn<|.ret<|ks_r ?_
   refine kf_wret [eD 2 (dNs (insV g)),eT 3 (prgV g)] (Wk.keep [] rfl rfl ⟨ks rfl (.c (Cto.nilE 3 (by first|(rw[hN];rfl)|(rw[hN,hEz];rfl)))),ks rfl (.dt (by first|exact congrArg (fun b=>V.o (bo1 b)) hO.symm|exact congrArg (fun b=>V.o (bo1 b)) (by rw[hO,hEz,decide_eq_decide];simp)|exact congrArg (fun b=>V.o (bo1 b)) (by rw[hO,hEz,decide_eq_decide];omega))),trivial⟩) rfl ?_ nobox
   rfl
  ·try simp only[zs]at h22
   have hA:arrsV g.1=true:=by first|assumption|simp_all
   have h4:g.2.length≤4:=by omega
   refine .skip<|ks_n<|.r<|.c .a<|.nn<|.seq<|.r<|.c (.fP 1 0 false)<|.c (.l1 1)<|.c (.ln 80 2 48)<|.c .m<|.nn<|.block ?_
   refine .loopK (fun m σ=>(∃k:Nat,m=g.2.length -k∧(k≤g.2.length)∧(∀j q,j<k→g.2[j]?=some q→prtV g.1 q=true)∧(insG 0 (g.2.take k)=[])∧σ=[eP 1 (rG g),(.t 4,.v (.o (.c (nl)))),eD 24 (dPts g.2),eN 25 (g.2.length:Nat),eN 26 (k:Nat)])∨(∃(k:Nat) (o:List Ins),m=g.2.length -k∧(k≤g.2.length)∧(∀j q,j<k→g.2[j]?=some q→prtV g.1 q=true)∧(insG 0 (g.2.take k)=o)∧(o.length≤480 *k)∧σ=[eP 1 (rG g),(.t 4,.v (.o (.c (.own 110 3 (o.length))))),eD 24 (dPts g.2),eN 25 (g.2.length:Nat),eN 26 (k:Nat),(.b 110,.b 56 3 (dR (o.map rN))),eU 110])) [] (.inl ⟨0,rfl,by omega,fun j q hj _=>absurd hj (by omega),rfl,rfl⟩) ⟨kd,kd,kd,kd,kd,trivial⟩ ?_
   rintro m σ (⟨k,hm0,hk,hF,hE,rfl⟩|⟨k,o,hm0,hk,hF,hE,ho,rfl⟩)
   ·skip
    refine .r<|.c .ls<|.nn<|.seq ?_
    refine .cD rfl (fun h27=>?_) (fun h27=>?_)
    ·skip
     obtain⟨q,hq1⟩:∃x_,g.2[k]?=some x_:=⟨_,List.getElem?_eq_getElem (by omega)⟩
     have hqm:=List.mem_of_getElem? hq1
     have hqs:=szO_mem (f:=szPt) hqm
     have hqe:szPt q=szLs q.1+szO szS q.2:=rfl
     have hbg:=sz_bg (ns:=q.1) (by omega)
     have hql:=szO_len (f:=szS) q.2
     refine .skip<|ks_n<|.seq<|.block<|.r<|.c .m<|.c (.xL 80 2 48) ?_
     refine .c (.lN 2)<|.c (.al 106 [.slice none 0 0,.slice none 0 0])<|.c .a<|.c (.sT 2 true)<|.nn<|.seq ?_
     refine .keep [eP 1 (rG g),(.t 4,.v (.o (.c (nl)))),eN 5 (k:Nat),eP 6 (rP q),eD 24 (dPts g.2),eN 25 (g.2.length:Nat),eN 26 (k:Nat)] [] ⟨kd,kd,kd,ks rfl (.c (.frzP _ _ _ _ _ _ _ _ rfl (show _=dR [rP q]from rfl) rfl rfl rfl)),kd,kd,kd,trivial⟩ ?_
     refine .region<|.c (.fP 0 0 false)<|.c (.l1 1) ?_
     refine .c (.cP [.tmp 33] rfl rfl rfl rfl (implNestPts_B q.1 hbg) rfl) ?_
     refine .c .m<|.c .ex<|.c .ex<|.c .a<|.c .a<|.nn<|.seq<|.r<|.c .m<|.c .nt<|.c .m ?_
     refine AOps.cases 39 _ rfl (fun g39=>?_) (fun g39=>?_)
     ·try simp only[zs]at g39
      refine .c .f<|.c .f<|.c .f<|.c .f<|.c .f<|.c .pT<|.c .m<|.c .f<|.c .f<|.c .f<|.c .f<|.c .pT<|.nn ?_
      refine .k1 ?_
      refine .seq ?_
      have hbad:prtV g.1 q=false:=by first|exact prtV_f1 (by assumption)|exact prtV_f2 (fun h=>by simp_all [inB];omega)|(obtain⟨s,hs,hs2⟩:=List.any_eq_true.1 (by assumption);exact prtV_f3 hs (by simpa using hs2))
      obtain⟨hO,hN⟩:=prgV_f (g:=g) (prgS_f3 hqm hbad)
      refine .region<|.c .a<|.c .a<|.nn<|.ret<|ks_r<|kb_r<|ks_r<|kl_r<|kb_r<|ks_r ?_
      refine kf_wret [eD 2 (dNs (insV g)),eT 3 (prgV g)] (Wk.keep [] rfl rfl ⟨ks rfl (.c (Cto.nilE 3 (by first|(rw[hN];rfl)|(rw[hN,hEz];rfl)))),ks rfl (.dt (by first|exact congrArg (fun b=>V.o (bo1 b)) hO.symm|exact congrArg (fun b=>V.o (bo1 b)) (by rw[hO,hEz,decide_eq_decide];simp)|exact congrArg (fun b=>V.o (bo1 b)) (by rw[hO,hEz,decide_eq_decide];omega))),trivial⟩) rfl ?_ nobox
      rfl
     ·try simp only[zs]at g39
      refine .c (.g (.fP 1 0 false))<|.c (.g (.l1 1))<|.c (.g (.ln 66 9 152)) ?_
      refine .c (.gT rfl rfl rfl (.cP [.tmp 42,.const (.int .i64 (1)),.const (.int .i64 (4))] rfl rfl rfl rfl (within_fn _ 1 4) rfl)) ?_
      refine .c (.g .nt)<|.c .pF<|.c .m ?_
      refine AOps.cases 46 _ rfl (fun g46=>?_) (fun g46=>?_)
      ·try simp only[zs]at g46
       refine .c .f<|.c .f<|.c .f<|.c .f<|.c .pT<|.nn ?_
       refine .k1 ?_
       refine .seq ?_
       have hbad:prtV g.1 q=false:=by first|exact prtV_f1 (by assumption)|exact prtV_f2 (fun h=>by simp_all [inB];omega)|(obtain⟨s,hs,hs2⟩:=List.any_eq_true.1 (by assumption);exact prtV_f3 hs (by simpa using hs2))
       obtain⟨hO,hN⟩:=prgV_f (g:=g) (prgS_f3 hqm hbad)
       refine .region<|.c .a<|.c .a<|.nn<|.ret<|ks_r<|kb_r<|ks_r<|kl_r<|kb_r<|ks_r ?_
       refine kf_wret [eD 2 (dNs (insV g)),eT 3 (prgV g)] (Wk.keep [] rfl rfl ⟨ks rfl (.c (Cto.nilE 3 (by first|(rw[hN];rfl)|(rw[hN,hEz];rfl)))),ks rfl (.dt (by first|exact congrArg (fun b=>V.o (bo1 b)) hO.symm|exact congrArg (fun b=>V.o (bo1 b)) (by rw[hO,hEz,decide_eq_decide];simp)|exact congrArg (fun b=>V.o (bo1 b)) (by rw[hO,hEz,decide_eq_decide];omega))),trivial⟩) rfl ?_ nobox
       rfl
      ·try simp only[zs]at g46
       refine .c (.g (.fP 1 0 false))<|.c (.g (.l1 1)) ?_
       refine .c (.gT rfl rfl rfl (St1.makeFunc (xs:=[.tmp 6]) rfl rfl rfl rfl rfl rfl rfl))<|.c (.gT rfl rfl rfl (.cP [.tmp 48,.tmp 49] rfl rfl rfl rfl (cnt_stm (f:=63) (cap:=[rP q]) (by kernel_rfl) (fun s=> !stmtV (q.1.length:Nat) s) q.2 (by omega) (fun s hs=>ins1_fn (by have:=szO_mem (f:=szS) hs;omega))) rfl)) ?_
       refine .c .pF<|.nn ?_
       refine ACode.condT rfl (fun h51=>?_) (fun h51=>?_)
       ·try simp only[zs]at h51
        refine .seq ?_
        have hbad:prtV g.1 q=false:=by first|exact prtV_f1 (by assumption)|exact prtV_f2 (fun h=>by simp_all [inB];omega)|(obtain⟨s,hs,hs2⟩:=List.any_eq_true.1 (by assumption);exact prtV_f3 hs (by simpa using hs2))
        obtain⟨hO,hN⟩:=prgV_f (g:=g) (prgS_f3 hqm hbad)
        refine .region<|.c .a<|.c .a<|.nn<|.ret<|ks_r<|kb_r<|ks_r<|kl_r<|kb_r<|ks_r ?_
        refine kf_wret [eD 2 (dNs (insV g)),eT 3 (prgV g)] (Wk.keep [] rfl rfl ⟨ks rfl (.c (Cto.nilE 3 (by first|(rw[hN];rfl)|(rw[hN,hEz];rfl)))),ks rfl (.dt (by first|exact congrArg (fun b=>V.o (bo1 b)) hO.symm|exact congrArg (fun b=>V.o (bo1 b)) (by rw[hO,hEz,decide_eq_decide];simp)|exact congrArg (fun b=>V.o (bo1 b)) (by rw[hO,hEz,decide_eq_decide];omega))),trivial⟩) rfl ?_ nobox
        rfl
       ·try simp only[zs]at h51
        have hv1:okP q.1=true:=by first|assumption|simp_all
        have hv2:1≤q.2.length∧q.2.length≤4:=by simp_all [inB];omega
        have hv3:∀s∈q.2,stmtV (q.1.length:Nat) s=true:=by simp_all
        refine .skip<|ks_n<|.r<|.c .m<|.c (.ln 43 1 24)<|.c .m<|.nn<|.block ?_
        refine .loopK (fun m σ=>(∃i:Nat,m=(npR q.1).length -i∧(i=0)∧σ=[eP 1 (rG g),(.t 4,.v (.o (.c (nl)))),eN 5 (k:Nat),eP 6 (rP q),eD 24 (dPts g.2),eN 25 (g.2.length:Nat),eN 26 (k:Nat),eD 52 (dPs (npR q.1)),eN 53 ((npR q.1).length:Nat),eN 54 (i:Nat)])∨(∃(i:Nat) (o2:List Ins),m=(npR q.1).length -i∧(i≤(npR q.1).length)∧(∀j p,j<i→(npR q.1)[j]?=some p→ptG' g.1 q.2 p=true)∧([]++insT k q.2.length ((npR q.1).take i)=o2)∧(o2.length≤480 *k+4 *i)∧σ=[eP 1 (rG g),(.t 4,.v (.o (.c (.own 120 3 (o2.length))))),eN 5 (k:Nat),eP 6 (rP q),eD 24 (dPts g.2),eN 25 (g.2.length:Nat),eN 26 (k:Nat),eD 52 (dPs (npR q.1)),eN 53 ((npR q.1).length:Nat),eN 54 (i:Nat),(.b 120,.b 56 3 (dR (o2.map rN))),eU 120])) [] (.inl ⟨0,rfl,rfl,rfl⟩) ⟨kd,kd,kd,kd,kd,kd,kd,kd,kd,kd,trivial⟩ ?_
        rintro m σ (⟨i,hm0,rfl,rfl⟩|⟨i,o2,hm0,hi,hG,hEo,ho2,rfl⟩)
        ·skip
         refine .r<|.c .ls<|.nn<|.seq ?_
         refine .cD rfl (fun h55=>?_) (fun h55=>?_)
         ·skip
          obtain⟨p,hp1⟩:∃x_,(npR q.1)[0]?=some x_:=⟨_,List.getElem?_eq_getElem (by omega)⟩
          have hpm:=List.mem_of_getElem? hp1
          have hpt:=npR_pt hpm
          have hnl:=npR_len q.1
          refine .skip<|ks_n<|.seq<|.block<|.r<|.c (.xL 43 1 24) ?_
          refine .c (.l1 1)<|.c .a<|.nn<|.seq<|.r<|.c .m ?_
          refine .c (.cP [.tmp 58] rfl rfl rfl rfl (isPoint_fn _) rfl) ?_
          refine .c .nt<|.nn ?_
          refine ACode.condT rfl (fun h60=>?_) (fun h60=>?_)
          ·try simp only[zs]at h60
           refine .seq ?_
           obtain⟨hO,hN⟩:=prgV_f (g:=g) (prgS_f3 hqm (prtV_f4 hpm (by assumption)))
           refine .region<|.c .a<|.c .a<|.nn<|.ret<|ks_r<|kb_r<|ks_r<|kl_r<|kb_r<|kb_r<|ks_r<|kl_r<|kb_r<|ks_r ?_
           refine kf_wret [eD 2 (dNs (insV g)),eT 3 (prgV g)] (Wk.keep [] rfl rfl ⟨ks rfl (.c (Cto.nilE 3 (by first|(rw[hN];rfl)|(rw[hN,hEz];rfl)))),ks rfl (.dt (by first|exact congrArg (fun b=>V.o (bo1 b)) hO.symm|exact congrArg (fun b=>V.o (bo1 b)) (by rw[hO,hEz,decide_eq_decide];simp)|exact congrArg (fun b=>V.o (bo1 b)) (by rw[hO,hEz,decide_eq_decide];omega))),trivial⟩) rfl ?_ nobox
           rfl
          ·try simp only[zs]at h60
           refine .skip<|ks_n<|.r<|.c (.fP 1 0 false)<|.c (.l1 1)<|.c (.ln 66 9 152)<|.c .m<|.nn<|.block ?_
           refine .loopK (fun m σ=>(∃j:Nat,m=q.2.length -j∧(j=0)∧σ=[eP 1 (rG g),(.t 4,.v (.o (.c (nl)))),eN 5 (k:Nat),eP 6 (rP q),eD 10 (dIs p),eD 24 (dPts g.2),eN 25 (g.2.length:Nat),eN 26 (k:Nat),eD 52 (dPs (npR q.1)),eN 53 ((npR q.1).length:Nat),eN 54 (0:Nat),eD 62 (dMs q.2),eN 63 (q.2.length:Nat),eN 64 (j:Nat)])∨(∃(j:Nat) (o3:List Ins),m=q.2.length -j∧(j≤q.2.length)∧(∀t s,t<j→q.2[t]?=some s→stmG g.1 s p=true)∧([]++rowI k j p=o3)∧(o3.length≤480 *k+4 *0+j)∧σ=[eP 1 (rG g),(.t 4,.v (.o (.c (.own 130 3 (o3.length))))),eN 5 (k:Nat),eP 6 (rP q),eD 10 (dIs p),eD 24 (dPts g.2),eN 25 (g.2.length:Nat),eN 26 (k:Nat),eD 52 (dPs (npR q.1)),eN 53 ((npR q.1).length:Nat),eN 54 (0:Nat),eD 62 (dMs q.2),eN 63 (q.2.length:Nat),eN 64 (j:Nat),(.b 130,.b 56 3 (dR (o3.map rN))),eU 130])) [] (.inl ⟨0,rfl,rfl,rfl⟩) ⟨kd,kd,kd,kd,kd,kd,kd,kd,kd,kd,kd,kd,kd,kd,trivial⟩ ?_
           rintro m σ (⟨j,hm0,rfl,rfl⟩|⟨j,o3,hm0,hj,hH,hEp,ho3,rfl⟩)
           ·skip
            refine .r<|.c .ls<|.nn<|.seq ?_
            refine .cD rfl (fun h65=>?_) (fun h65=>?_)
            ·skip
             obtain⟨s,hs1⟩:∃x_,q.2[0]?=some x_:=⟨_,List.getElem?_eq_getElem (by omega)⟩
             have hsm:=List.mem_of_getElem? hs1
             have hsv:=hv3 s hsm
             refine .skip<|ks_n<|.seq<|.block<|.r<|.c .m<|.c (.xL 66 9 152) ?_
             refine .c (.lN 9)<|.c (.al 112 [.string ByteArray.empty,.slice none 0 0,.int .i64 0,.int .i64 0,.slice none 0 0,.int .i64 0,.string ByteArray.empty,.slice none 0 0,.slice none 0 0])<|.c .a<|.c (.sT 9 true)<|.nn<|.seq<|.r<|.c (.lN 2)<|.c (.bN 9)<|.c .m ?_
             refine .c (.cP [.tmp 69,.tmp 70,.tmp 71] rfl rfl rfl rfl (sok_fn hA hsv hpt.1 hpt.2) rfl) ?_
             refine .c .nt<|.nn ?_
             refine ACode.condT rfl (fun h73=>?_) (fun h73=>?_)
             ·try simp only[zs]at h73
              refine .seq ?_
              obtain⟨hO,hN⟩:=prgV_f (g:=g) (prgS_f3 hqm (prtV_f5 hpm hsm (by assumption)))
              refine .region<|.c .a<|.c .a<|.nn<|.ret<|ks_r<|kb_r<|ks_r<|kl_r<|kb_r<|kb_r<|ks_r<|kl_r<|kb_r<|kb_r<|ks_r<|kl_r<|kb_r<|ks_r ?_
              refine kf_wret [eD 2 (dNs (insV g)),eT 3 (prgV g)] (Wk.keep [] rfl rfl ⟨ks rfl (.c (Cto.nilE 3 (by first|(rw[hN];rfl)|(rw[hN,hEz];rfl)))),ks rfl (.dt (by first|exact congrArg (fun b=>V.o (bo1 b)) hO.symm|exact congrArg (fun b=>V.o (bo1 b)) (by rw[hO,hEz,decide_eq_decide];simp)|exact congrArg (fun b=>V.o (bo1 b)) (by rw[hO,hEz,decide_eq_decide];omega))),trivial⟩) rfl ?_ nobox
              rfl
             ·try simp only[zs]at h73
              have hST:stmG g.1 s p=true:=by assumption
              refine .skip<|ks_n<|.region<|.c .m<|.c .m<|.c .m<|.c .m ?_
              refine .c (.cP [.tmp 77] rfl rfl rfl rfl (cloneInts_fn p (by omega)) rfl) ?_
              refine .c (.bu [(0,.tmp 75),(1,.tmp 76),(2,.tmp 78)] [(0,1),(1,1),(2,1)] [.int .i64 0,.int .i64 0,.slice none 0 0])<|.c (.li 56 2 0 [.tmp 79]) ?_
              refine .c (St1.appN (k':=181) (e:=56) (sz:=2) (by':=40) rfl rfl rfl rfl rfl (by kernel_rfl) rfl rfl rfl (by simp) (by first|(simp[dR];done)|(simp[dR];omega)) rfl rfl) ?_
              refine .c .a<|.nil<|kb_n<|ks_n<|.region<|.c .pl<|.c .m<|.nil ?_
              refine kl_k [(130,181)] (.inr ⟨1,[((k:Int),((0:Nat):Int),p)],rfl,by omega,fun t s' ht hs'=>(Nat.lt_succ_iff_lt_or_eq.1 ht).elim (fun h=>absurd h (by omega)) (fun h=>by subst h;rw[hs1]at hs';cases hs';exact hST),rfl,by simp,rfl⟩) ⟨kd,kW,kd,kd,kd,kd,kd,kd,kd,kd,kd,kd,kd,kd,kb 181 rfl (.dt rfl (by first|rfl|(simp[dR,rN,dI];done))),trivial⟩
            ·skip
             exfalso;omega
           ·skip
            refine .r<|.c .ls<|.nn<|.seq ?_
            refine .cD rfl (fun h65=>?_) (fun h65=>?_)
            ·skip
             obtain⟨s,hs1⟩:∃x_,q.2[j]?=some x_:=⟨_,List.getElem?_eq_getElem (by omega)⟩
             have hsm:=List.mem_of_getElem? hs1
             have hsv:=hv3 s hsm
             refine .skip<|ks_n<|.seq<|.block<|.r<|.c .m<|.c (.xL 66 9 152) ?_
             refine .c (.lN 9)<|.c (.al 112 [.string ByteArray.empty,.slice none 0 0,.int .i64 0,.int .i64 0,.slice none 0 0,.int .i64 0,.string ByteArray.empty,.slice none 0 0,.slice none 0 0])<|.c .a<|.c (.sT 9 true)<|.nn<|.seq<|.r<|.c (.lN 2)<|.c (.bN 9)<|.c .m ?_
             refine .c (.cP [.tmp 69,.tmp 70,.tmp 71] rfl rfl rfl rfl (sok_fn hA hsv hpt.1 hpt.2) rfl) ?_
             refine .c .nt<|.nn ?_
             refine ACode.condT rfl (fun h73=>?_) (fun h73=>?_)
             ·try simp only[zs]at h73
              refine .seq ?_
              obtain⟨hO,hN⟩:=prgV_f (g:=g) (prgS_f3 hqm (prtV_f5 hpm hsm (by assumption)))
              refine .region<|.c .a<|.c .a<|.nn<|.ret<|ks_r<|kb_r<|ks_r<|kl_r<|kb_r<|kb_r<|ks_r<|kl_r<|kb_r<|kb_r<|ks_r<|kl_r<|kb_r<|ks_r ?_
              refine kf_wret [eD 2 (dNs (insV g)),eT 3 (prgV g)] (Wk.keep [] rfl rfl ⟨ks rfl (.c (Cto.nilE 3 (by first|(rw[hN];rfl)|(rw[hN,hEz];rfl)))),ks rfl (.dt (by first|exact congrArg (fun b=>V.o (bo1 b)) hO.symm|exact congrArg (fun b=>V.o (bo1 b)) (by rw[hO,hEz,decide_eq_decide];simp)|exact congrArg (fun b=>V.o (bo1 b)) (by rw[hO,hEz,decide_eq_decide];omega))),trivial⟩) rfl ?_ nobox
              rfl
             ·try simp only[zs]at h73
              have hST:stmG g.1 s p=true:=by assumption
              refine .skip<|ks_n<|.region<|.c .m<|.c .m<|.c .m<|.c .m ?_
              refine .c (.cP [.tmp 77] rfl rfl rfl rfl (cloneInts_fn p (by omega)) rfl) ?_
              refine .c (.bu [(0,.tmp 75),(1,.tmp 76),(2,.tmp 78)] [(0,1),(1,1),(2,1)] [.int .i64 0,.int .i64 0,.slice none 0 0])<|.c (.li 56 2 0 [.tmp 79]) ?_
              refine .c (St1.appB (k':=181) (e:=56) (sz:=2) (by':=40) rfl rfl rfl rfl rfl (by kernel_rfl) rfl rfl rfl rfl (by first|(simp[dR];done)|(simp[dR];omega)) (by first|(simp[dR];done)|(simp[dR];omega)) rfl rfl rfl) ?_
              refine .c .a<|.nil<|kb_n<|ks_n<|.region<|.c .pl<|.c .m<|.nil ?_
              refine kl_k [(130,181)] (.inr ⟨j+1,o3++[((k:Int),((j:Nat):Int),p)],rfl,by omega,fun t s' ht hs'=>(Nat.lt_succ_iff_lt_or_eq.1 ht).elim (fun h=>hH t s' h hs') (fun h=>by subst h;rw[hs1]at hs';cases hs';exact hST),by rw[rowI_snoc,←List.append_assoc,hEp],by rw[List.length_append,List.length_singleton];omega,rfl⟩) ⟨kd,kW,kd,kd,kd,kd,kd,kd,kd,kd,kd,kd,kd,kd,kb 181 rfl (.dt rfl (by first|rfl|(simp[dR,rN,dI];done))),trivial⟩
            ·skip
             obtain rfl:j=q.2.length:=by omega
             have hPT:ptG' g.1 q.2 p=true:=by rw[ptG',show isPt p=true by assumption,Bool.true_and];exact all_of fun j s h=>hH j s (List.getElem?_eq_some_iff.1 h).1 h
             refine .exit<|ks_e<|kl_e<|kb_hit<|kb_n<|ks_n<|.region<|.c .pl<|.c .m<|.nil ?_
             refine kl_k [(120,130)] (.inr ⟨1,o3,rfl,by omega,fun j p' hj hp'=>(Nat.lt_succ_iff_lt_or_eq.1 hj).elim (fun h=>absurd h (by omega)) (fun h=>by subst h;rw[hp1]at hp';cases hp';exact hPT),by rw[insT_take hp1];exact hEp,by omega,rfl⟩) ⟨kd,kW,kd,kd,kd,kd,kd,kd,kd,kd,kb 130 rfl (.dt rfl (by first|rfl|(simp[dR,rN,dI];done))),trivial⟩
         ·skip
          have hn0:npR q.1=[]:=List.eq_nil_of_length_eq_zero (by omega)
          have hPV:prtV g.1 q=true:=by rw[prtV_eq hv1 hv2 (List.all_eq_true.2 hv3),hn0];rfl
          refine .exit<|ks_e<|kl_e<|kb_hit<|kb_n<|ks_n<|.region<|.c .pl<|.c .m<|.nil ?_
          refine kl_k [] (.inl ⟨k+1,rfl,by omega,fun j q' hj hq'=>(Nat.lt_succ_iff_lt_or_eq.1 hj).elim (fun h=>hF j q' h hq') (fun h=>by subst h;rw[hq1]at hq';cases hq';exact hPV),by rw[insG_take hq1,hE,insP,hn0];rfl,rfl⟩) ⟨kd,kd,kd,kd,kd,trivial⟩
        ·skip
         refine .r<|.c .ls<|.nn<|.seq ?_
         refine .cD rfl (fun h55=>?_) (fun h55=>?_)
         ·skip
          obtain⟨p,hp1⟩:∃x_,(npR q.1)[i]?=some x_:=⟨_,List.getElem?_eq_getElem (by omega)⟩
          have hpm:=List.mem_of_getElem? hp1
          have hpt:=npR_pt hpm
          have hnl:=npR_len q.1
          refine .skip<|ks_n<|.seq<|.block<|.r<|.c (.xL 43 1 24) ?_
          refine .c (.l1 1)<|.c .a<|.nn<|.seq<|.r<|.c .m ?_
          refine .c (.cP [.tmp 58] rfl rfl rfl rfl (isPoint_fn _) rfl) ?_
          refine .c .nt<|.nn ?_
          refine ACode.condT rfl (fun h60=>?_) (fun h60=>?_)
          ·try simp only[zs]at h60
           refine .seq ?_
           obtain⟨hO,hN⟩:=prgV_f (g:=g) (prgS_f3 hqm (prtV_f4 hpm (by assumption)))
           refine .region<|.c .a<|.c .a<|.nn<|.ret<|ks_r<|kb_r<|ks_r<|kl_r<|kb_r<|kb_r<|ks_r<|kl_r<|kb_r<|ks_r ?_
           refine kf_wret [eD 2 (dNs (insV g)),eT 3 (prgV g)] (Wk.keep [] rfl rfl ⟨ks rfl (.c (Cto.nilE 3 (by first|(rw[hN];rfl)|(rw[hN,hEz];rfl)))),ks rfl (.dt (by first|exact congrArg (fun b=>V.o (bo1 b)) hO.symm|exact congrArg (fun b=>V.o (bo1 b)) (by rw[hO,hEz,decide_eq_decide];simp)|exact congrArg (fun b=>V.o (bo1 b)) (by rw[hO,hEz,decide_eq_decide];omega))),trivial⟩) rfl ?_ nobox
           rfl
          ·try simp only[zs]at h60
           refine .skip<|ks_n<|.r<|.c (.fP 1 0 false)<|.c (.l1 1)<|.c (.ln 66 9 152)<|.c .m<|.nn<|.block ?_
           refine .loopK (fun m σ=>(∃(j:Nat) (o3:List Ins),m=q.2.length -j∧(j≤q.2.length)∧(∀t s,t<j→q.2[t]?=some s→stmG g.1 s p=true)∧(o2++rowI k j p=o3)∧(o3.length≤480 *k+4 *i+j)∧σ=[eP 1 (rG g),(.t 4,.v (.o (.c (.own 130 3 (o3.length))))),eN 5 (k:Nat),eP 6 (rP q),eD 10 (dIs p),eD 24 (dPts g.2),eN 25 (g.2.length:Nat),eN 26 (k:Nat),eD 52 (dPs (npR q.1)),eN 53 ((npR q.1).length:Nat),eN 54 (i:Nat),eD 62 (dMs q.2),eN 63 (q.2.length:Nat),eN 64 (j:Nat),(.b 130,.b 56 3 (dR (o3.map rN))),eU 130])) [(130,120)] ⟨0,o2,rfl,by omega,fun t s ht _=>absurd ht (by omega),by simp[rowI_zero],by omega,rfl⟩ ⟨kd,kW,kd,kd,kd,kd,kd,kd,kd,kd,kd,kd,kd,kd,kb 120 rfl (.dt rfl (by first|rfl|(simp[dR,rN,dI];done))),trivial⟩ ?_
           rintro m σ ⟨j,o3,hm0,hj,hH,hEp,ho3,rfl⟩
           refine .r<|.c .ls<|.nn<|.seq ?_
           refine .cD rfl (fun h65=>?_) (fun h65=>?_)
           ·skip
            obtain⟨s,hs1⟩:∃x_,q.2[j]?=some x_:=⟨_,List.getElem?_eq_getElem (by omega)⟩
            have hsm:=List.mem_of_getElem? hs1
            have hsv:=hv3 s hsm
            refine .skip<|ks_n<|.seq<|.block<|.r<|.c .m<|.c (.xL 66 9 152) ?_
            refine .c (.lN 9)<|.c (.al 112 [.string ByteArray.empty,.slice none 0 0,.int .i64 0,.int .i64 0,.slice none 0 0,.int .i64 0,.string ByteArray.empty,.slice none 0 0,.slice none 0 0])<|.c .a<|.c (.sT 9 true)<|.nn<|.seq<|.r<|.c (.lN 2)<|.c (.bN 9)<|.c .m ?_
            refine .c (.cP [.tmp 69,.tmp 70,.tmp 71] rfl rfl rfl rfl (sok_fn hA hsv hpt.1 hpt.2) rfl) ?_
            refine .c .nt<|.nn ?_
            refine ACode.condT rfl (fun h73=>?_) (fun h73=>?_)
            ·try simp only[zs]at h73
             refine .seq ?_
             obtain⟨hO,hN⟩:=prgV_f (g:=g) (prgS_f3 hqm (prtV_f5 hpm hsm (by assumption)))
             refine .region<|.c .a<|.c .a<|.nn<|.ret<|ks_r<|kb_r<|ks_r<|kl_r<|kb_r<|kb_r<|ks_r<|kl_r<|kb_r<|kb_r<|ks_r<|kl_r<|kb_r<|ks_r ?_
             refine kf_wret [eD 2 (dNs (insV g)),eT 3 (prgV g)] (Wk.keep [] rfl rfl ⟨ks rfl (.c (Cto.nilE 3 (by first|(rw[hN];rfl)|(rw[hN,hEz];rfl)))),ks rfl (.dt (by first|exact congrArg (fun b=>V.o (bo1 b)) hO.symm|exact congrArg (fun b=>V.o (bo1 b)) (by rw[hO,hEz,decide_eq_decide];simp)|exact congrArg (fun b=>V.o (bo1 b)) (by rw[hO,hEz,decide_eq_decide];omega))),trivial⟩) rfl ?_ nobox
             rfl
            ·try simp only[zs]at h73
             have hST:stmG g.1 s p=true:=by assumption
             refine .skip<|ks_n<|.region<|.c .m<|.c .m<|.c .m<|.c .m ?_
             refine .c (.cP [.tmp 77] rfl rfl rfl rfl (cloneInts_fn p (by omega)) rfl) ?_
             refine .c (.bu [(0,.tmp 75),(1,.tmp 76),(2,.tmp 78)] [(0,1),(1,1),(2,1)] [.int .i64 0,.int .i64 0,.slice none 0 0])<|.c (.li 56 2 0 [.tmp 79]) ?_
             refine .c (St1.appB (k':=181) (e:=56) (sz:=2) (by':=40) rfl rfl rfl rfl rfl (by kernel_rfl) rfl rfl rfl rfl (by first|(simp[dR];done)|(simp[dR];omega)) (by first|(simp[dR];done)|(simp[dR];omega)) rfl rfl rfl) ?_
             refine .c .a<|.nil<|kb_n<|ks_n<|.region<|.c .pl<|.c .m<|.nil ?_
             refine kl_k [(130,181)] ⟨j+1,o3++[((k:Int),((j:Nat):Int),p)],rfl,by omega,fun t s' ht hs'=>(Nat.lt_succ_iff_lt_or_eq.1 ht).elim (fun h=>hH t s' h hs') (fun h=>by subst h;rw[hs1]at hs';cases hs';exact hST),by rw[rowI_snoc,←List.append_assoc,hEp],by rw[List.length_append,List.length_singleton];omega,rfl⟩ ⟨kd,kW,kd,kd,kd,kd,kd,kd,kd,kd,kd,kd,kd,kd,kb 181 rfl (.dt rfl (by first|rfl|(simp[dR,rN,dI];done))),trivial⟩
           ·skip
            obtain rfl:j=q.2.length:=by omega
            have hPT:ptG' g.1 q.2 p=true:=by rw[ptG',show isPt p=true by assumption,Bool.true_and];exact all_of fun j s h=>hH j s (List.getElem?_eq_some_iff.1 h).1 h
            refine .exit<|ks_e<|kl_e<|kb_hit<|kb_n<|ks_n<|.region<|.c .pl<|.c .m<|.nil ?_
            refine kl_k [(120,130)] (.inr ⟨i+1,o3,rfl,by omega,fun j p' hj hp'=>(Nat.lt_succ_iff_lt_or_eq.1 hj).elim (fun h=>hG j p' h hp') (fun h=>by subst h;rw[hp1]at hp';cases hp';exact hPT),by rw[insT_take hp1,←List.append_assoc,hEo];exact hEp,by omega,rfl⟩) ⟨kd,kW,kd,kd,kd,kd,kd,kd,kd,kd,kb 130 rfl (.dt rfl (by first|rfl|(simp[dR,rN,dI];done))),trivial⟩
         ·skip
          obtain rfl:i=(npR q.1).length:=by omega
          rw[List.take_length]at hEo
          have hPV:prtV g.1 q=true:=by rw[prtV_eq hv1 hv2 (List.all_eq_true.2 hv3)];exact all_of fun j p h=>hG j p (List.getElem?_eq_some_iff.1 h).1 h
          have hnl:=npR_len q.1
          refine .exit<|ks_e<|kl_e<|kb_hit<|kb_n<|ks_n<|.region<|.c .pl<|.c .m<|.nil ?_
          refine kl_k [(110,120)] (.inr ⟨k+1,o2,rfl,by omega,fun j q' hj hq'=>(Nat.lt_succ_iff_lt_or_eq.1 hj).elim (fun h=>hF j q' h hq') (fun h=>by subst h;rw[hq1]at hq';cases hq';exact hPV),by rw[insG_take hq1,hE];exact hEo,by omega,rfl⟩) ⟨kd,kW,kd,kd,kd,kb 120 rfl (.dt rfl (by first|rfl|(simp[dR,rN,dI];done))),trivial⟩
    ·skip
     obtain rfl:k=g.2.length:=by omega
     rw[List.take_length]at hE
     have hEz:=hE
     obtain⟨hO,hN⟩:=prgV_t (prgS_eq hA h4 hF)
     refine .exit<|ks_e<|kl_e<|kb_hit<|ks_n<|.r<|.c .m<|.c .m ?_
     refine .c (St1.lenN (e:=56) (m:=3) (by':=40) rfl rfl rfl rfl rfl (by kernel_rfl) rfl) ?_
     refine .c .le<|.c .a<|.c .a<|.nn<|.ret ?_
     refine kf_wret [eD 2 (dNs (insV g)),eT 3 (prgV g)] (Wk.keep [] rfl rfl ⟨ks rfl (.c (Cto.nilE 3 (by first|(rw[hN];rfl)|(rw[hN,hEz];rfl)))),ks rfl (.dt (by first|exact congrArg (fun b=>V.o (bo1 b)) hO.symm|exact congrArg (fun b=>V.o (bo1 b)) (by rw[hO,hEz,decide_eq_decide];simp)|exact congrArg (fun b=>V.o (bo1 b)) (by rw[hO,hEz,decide_eq_decide];omega))),trivial⟩) rfl ?_ nobox
     rfl
   ·skip
    refine .r<|.c .ls<|.nn<|.seq ?_
    refine .cD rfl (fun h27=>?_) (fun h27=>?_)
    ·skip
     obtain⟨q,hq1⟩:∃x_,g.2[k]?=some x_:=⟨_,List.getElem?_eq_getElem (by omega)⟩
     have hqm:=List.mem_of_getElem? hq1
     have hqs:=szO_mem (f:=szPt) hqm
     have hqe:szPt q=szLs q.1+szO szS q.2:=rfl
     have hbg:=sz_bg (ns:=q.1) (by omega)
     have hql:=szO_len (f:=szS) q.2
     refine .skip<|ks_n<|.seq<|.block<|.r<|.c .m<|.c (.xL 80 2 48) ?_
     refine .c (.lN 2)<|.c (.al 106 [.slice none 0 0,.slice none 0 0])<|.c .a<|.c (.sT 2 true)<|.nn<|.seq ?_
     refine .keep [eP 1 (rG g),(.t 4,.v (.o (.c (.own 770 3 (o.length))))),eN 5 (k:Nat),eP 6 (rP q),eD 24 (dPts g.2),eN 25 (g.2.length:Nat),eN 26 (k:Nat),(.b 770,.b 56 3 (dR (o.map rN))),eU 770] [(770,110)] ⟨kd,kW,kd,ks rfl (.c (.frzP _ _ _ _ _ _ _ _ rfl (show _=dR [rP q]from rfl) rfl rfl rfl)),kd,kd,kd,kb 110 rfl (.dt rfl (by first|rfl|(simp[dR,rN,dI];done))),trivial⟩ ?_
     refine .region<|.c (.fP 0 0 false)<|.c (.l1 1) ?_
     refine .c (.cP [.tmp 33] rfl rfl rfl rfl (implNestPts_B q.1 hbg) rfl) ?_
     refine .c .m<|.c .ex<|.c .ex<|.c .a<|.c .a<|.nn<|.seq<|.r<|.c .m<|.c .nt<|.c .m ?_
     refine AOps.cases 39 _ rfl (fun g39=>?_) (fun g39=>?_)
     ·try simp only[zs]at g39
      refine .c .f<|.c .f<|.c .f<|.c .f<|.c .f<|.c .pT<|.c .m<|.c .f<|.c .f<|.c .f<|.c .f<|.c .pT<|.nn ?_
      refine .k1 ?_
      refine .seq ?_
      have hbad:prtV g.1 q=false:=by first|exact prtV_f1 (by assumption)|exact prtV_f2 (fun h=>by simp_all [inB];omega)|(obtain⟨s,hs,hs2⟩:=List.any_eq_true.1 (by assumption);exact prtV_f3 hs (by simpa using hs2))
      obtain⟨hO,hN⟩:=prgV_f (g:=g) (prgS_f3 hqm hbad)
      refine .region<|.c .a<|.c .a<|.nn<|.ret<|ks_r<|kb_r<|ks_r<|kl_r<|kb_r<|ks_r ?_
      refine kf_wret [eD 2 (dNs (insV g)),eT 3 (prgV g)] (Wk.keep [] rfl rfl ⟨ks rfl (.c (Cto.nilE 3 (by first|(rw[hN];rfl)|(rw[hN,hEz];rfl)))),ks rfl (.dt (by first|exact congrArg (fun b=>V.o (bo1 b)) hO.symm|exact congrArg (fun b=>V.o (bo1 b)) (by rw[hO,hEz,decide_eq_decide];simp)|exact congrArg (fun b=>V.o (bo1 b)) (by rw[hO,hEz,decide_eq_decide];omega))),trivial⟩) rfl ?_ nobox
      rfl
     ·try simp only[zs]at g39
      refine .c (.g (.fP 1 0 false))<|.c (.g (.l1 1))<|.c (.g (.ln 66 9 152)) ?_
      refine .c (.gT rfl rfl rfl (.cP [.tmp 42,.const (.int .i64 (1)),.const (.int .i64 (4))] rfl rfl rfl rfl (within_fn _ 1 4) rfl)) ?_
      refine .c (.g .nt)<|.c .pF<|.c .m ?_
      refine AOps.cases 46 _ rfl (fun g46=>?_) (fun g46=>?_)
      ·try simp only[zs]at g46
       refine .c .f<|.c .f<|.c .f<|.c .f<|.c .pT<|.nn ?_
       refine .k1 ?_
       refine .seq ?_
       have hbad:prtV g.1 q=false:=by first|exact prtV_f1 (by assumption)|exact prtV_f2 (fun h=>by simp_all [inB];omega)|(obtain⟨s,hs,hs2⟩:=List.any_eq_true.1 (by assumption);exact prtV_f3 hs (by simpa using hs2))
       obtain⟨hO,hN⟩:=prgV_f (g:=g) (prgS_f3 hqm hbad)
       refine .region<|.c .a<|.c .a<|.nn<|.ret<|ks_r<|kb_r<|ks_r<|kl_r<|kb_r<|ks_r ?_
       refine kf_wret [eD 2 (dNs (insV g)),eT 3 (prgV g)] (Wk.keep [] rfl rfl ⟨ks rfl (.c (Cto.nilE 3 (by first|(rw[hN];rfl)|(rw[hN,hEz];rfl)))),ks rfl (.dt (by first|exact congrArg (fun b=>V.o (bo1 b)) hO.symm|exact congrArg (fun b=>V.o (bo1 b)) (by rw[hO,hEz,decide_eq_decide];simp)|exact congrArg (fun b=>V.o (bo1 b)) (by rw[hO,hEz,decide_eq_decide];omega))),trivial⟩) rfl ?_ nobox
       rfl
      ·try simp only[zs]at g46
       refine .c (.g (.fP 1 0 false))<|.c (.g (.l1 1)) ?_
       refine .c (.gT rfl rfl rfl (St1.makeFunc (xs:=[.tmp 6]) rfl rfl rfl rfl rfl rfl rfl))<|.c (.gT rfl rfl rfl (.cP [.tmp 48,.tmp 49] rfl rfl rfl rfl (cnt_stm (f:=63) (cap:=[rP q]) (by kernel_rfl) (fun s=> !stmtV (q.1.length:Nat) s) q.2 (by omega) (fun s hs=>ins1_fn (by have:=szO_mem (f:=szS) hs;omega))) rfl)) ?_
       refine .c .pF<|.nn ?_
       refine ACode.condT rfl (fun h51=>?_) (fun h51=>?_)
       ·try simp only[zs]at h51
        refine .seq ?_
        have hbad:prtV g.1 q=false:=by first|exact prtV_f1 (by assumption)|exact prtV_f2 (fun h=>by simp_all [inB];omega)|(obtain⟨s,hs,hs2⟩:=List.any_eq_true.1 (by assumption);exact prtV_f3 hs (by simpa using hs2))
        obtain⟨hO,hN⟩:=prgV_f (g:=g) (prgS_f3 hqm hbad)
        refine .region<|.c .a<|.c .a<|.nn<|.ret<|ks_r<|kb_r<|ks_r<|kl_r<|kb_r<|ks_r ?_
        refine kf_wret [eD 2 (dNs (insV g)),eT 3 (prgV g)] (Wk.keep [] rfl rfl ⟨ks rfl (.c (Cto.nilE 3 (by first|(rw[hN];rfl)|(rw[hN,hEz];rfl)))),ks rfl (.dt (by first|exact congrArg (fun b=>V.o (bo1 b)) hO.symm|exact congrArg (fun b=>V.o (bo1 b)) (by rw[hO,hEz,decide_eq_decide];simp)|exact congrArg (fun b=>V.o (bo1 b)) (by rw[hO,hEz,decide_eq_decide];omega))),trivial⟩) rfl ?_ nobox
        rfl
       ·try simp only[zs]at h51
        have hv1:okP q.1=true:=by first|assumption|simp_all
        have hv2:1≤q.2.length∧q.2.length≤4:=by simp_all [inB];omega
        have hv3:∀s∈q.2,stmtV (q.1.length:Nat) s=true:=by simp_all
        refine .skip<|ks_n<|.r<|.c .m<|.c (.ln 43 1 24)<|.c .m<|.nn<|.block ?_
        refine .loopK (fun m σ=>(∃(i:Nat) (o2:List Ins),m=(npR q.1).length -i∧(i≤(npR q.1).length)∧(∀j p,j<i→(npR q.1)[j]?=some p→ptG' g.1 q.2 p=true)∧(o++insT k q.2.length ((npR q.1).take i)=o2)∧(o2.length≤480 *k+4 *i)∧σ=[eP 1 (rG g),(.t 4,.v (.o (.c (.own 120 3 (o2.length))))),eN 5 (k:Nat),eP 6 (rP q),eD 24 (dPts g.2),eN 25 (g.2.length:Nat),eN 26 (k:Nat),eD 52 (dPs (npR q.1)),eN 53 ((npR q.1).length:Nat),eN 54 (i:Nat),(.b 120,.b 56 3 (dR (o2.map rN))),eU 120])) [(120,770)] ⟨0,o,rfl,by omega,fun j p hj _=>absurd hj (by omega),by simp[insT],by omega,rfl⟩ ⟨kd,kW,kd,kd,kd,kd,kd,kd,kd,kd,kb 770 rfl (.dt rfl (by first|rfl|(simp[dR,rN,dI];done))),trivial⟩ ?_
        rintro m σ ⟨i,o2,hm0,hi,hG,hEo,ho2,rfl⟩
        refine .r<|.c .ls<|.nn<|.seq ?_
        refine .cD rfl (fun h55=>?_) (fun h55=>?_)
        ·skip
         obtain⟨p,hp1⟩:∃x_,(npR q.1)[i]?=some x_:=⟨_,List.getElem?_eq_getElem (by omega)⟩
         have hpm:=List.mem_of_getElem? hp1
         have hpt:=npR_pt hpm
         have hnl:=npR_len q.1
         refine .skip<|ks_n<|.seq<|.block<|.r<|.c (.xL 43 1 24) ?_
         refine .c (.l1 1)<|.c .a<|.nn<|.seq<|.r<|.c .m ?_
         refine .c (.cP [.tmp 58] rfl rfl rfl rfl (isPoint_fn _) rfl) ?_
         refine .c .nt<|.nn ?_
         refine ACode.condT rfl (fun h60=>?_) (fun h60=>?_)
         ·try simp only[zs]at h60
          refine .seq ?_
          obtain⟨hO,hN⟩:=prgV_f (g:=g) (prgS_f3 hqm (prtV_f4 hpm (by assumption)))
          refine .region<|.c .a<|.c .a<|.nn<|.ret<|ks_r<|kb_r<|ks_r<|kl_r<|kb_r<|kb_r<|ks_r<|kl_r<|kb_r<|ks_r ?_
          refine kf_wret [eD 2 (dNs (insV g)),eT 3 (prgV g)] (Wk.keep [] rfl rfl ⟨ks rfl (.c (Cto.nilE 3 (by first|(rw[hN];rfl)|(rw[hN,hEz];rfl)))),ks rfl (.dt (by first|exact congrArg (fun b=>V.o (bo1 b)) hO.symm|exact congrArg (fun b=>V.o (bo1 b)) (by rw[hO,hEz,decide_eq_decide];simp)|exact congrArg (fun b=>V.o (bo1 b)) (by rw[hO,hEz,decide_eq_decide];omega))),trivial⟩) rfl ?_ nobox
          rfl
         ·try simp only[zs]at h60
          refine .skip<|ks_n<|.r<|.c (.fP 1 0 false)<|.c (.l1 1)<|.c (.ln 66 9 152)<|.c .m<|.nn<|.block ?_
          refine .loopK (fun m σ=>(∃(j:Nat) (o3:List Ins),m=q.2.length -j∧(j≤q.2.length)∧(∀t s,t<j→q.2[t]?=some s→stmG g.1 s p=true)∧(o2++rowI k j p=o3)∧(o3.length≤480 *k+4 *i+j)∧σ=[eP 1 (rG g),(.t 4,.v (.o (.c (.own 130 3 (o3.length))))),eN 5 (k:Nat),eP 6 (rP q),eD 10 (dIs p),eD 24 (dPts g.2),eN 25 (g.2.length:Nat),eN 26 (k:Nat),eD 52 (dPs (npR q.1)),eN 53 ((npR q.1).length:Nat),eN 54 (i:Nat),eD 62 (dMs q.2),eN 63 (q.2.length:Nat),eN 64 (j:Nat),(.b 130,.b 56 3 (dR (o3.map rN))),eU 130])) [(130,120)] ⟨0,o2,rfl,by omega,fun t s ht _=>absurd ht (by omega),by simp[rowI_zero],by omega,rfl⟩ ⟨kd,kW,kd,kd,kd,kd,kd,kd,kd,kd,kd,kd,kd,kd,kb 120 rfl (.dt rfl (by first|rfl|(simp[dR,rN,dI];done))),trivial⟩ ?_
          rintro m σ ⟨j,o3,hm0,hj,hH,hEp,ho3,rfl⟩
          refine .r<|.c .ls<|.nn<|.seq ?_
          refine .cD rfl (fun h65=>?_) (fun h65=>?_)
          ·skip
           obtain⟨s,hs1⟩:∃x_,q.2[j]?=some x_:=⟨_,List.getElem?_eq_getElem (by omega)⟩
           have hsm:=List.mem_of_getElem? hs1
           have hsv:=hv3 s hsm
           refine .skip<|ks_n<|.seq<|.block<|.r<|.c .m<|.c (.xL 66 9 152) ?_
           refine .c (.lN 9)<|.c (.al 112 [.string ByteArray.empty,.slice none 0 0,.int .i64 0,.int .i64 0,.slice none 0 0,.int .i64 0,.string ByteArray.empty,.slice none 0 0,.slice none 0 0])<|.c .a<|.c (.sT 9 true)<|.nn<|.seq<|.r<|.c (.lN 2)<|.c (.bN 9)<|.c .m ?_
           refine .c (.cP [.tmp 69,.tmp 70,.tmp 71] rfl rfl rfl rfl (sok_fn hA hsv hpt.1 hpt.2) rfl) ?_
           refine .c .nt<|.nn ?_
           refine ACode.condT rfl (fun h73=>?_) (fun h73=>?_)
           ·try simp only[zs]at h73
            refine .seq ?_
            obtain⟨hO,hN⟩:=prgV_f (g:=g) (prgS_f3 hqm (prtV_f5 hpm hsm (by assumption)))
            refine .region<|.c .a<|.c .a<|.nn<|.ret<|ks_r<|kb_r<|ks_r<|kl_r<|kb_r<|kb_r<|ks_r<|kl_r<|kb_r<|kb_r<|ks_r<|kl_r<|kb_r<|ks_r ?_
            refine kf_wret [eD 2 (dNs (insV g)),eT 3 (prgV g)] (Wk.keep [] rfl rfl ⟨ks rfl (.c (Cto.nilE 3 (by first|(rw[hN];rfl)|(rw[hN,hEz];rfl)))),ks rfl (.dt (by first|exact congrArg (fun b=>V.o (bo1 b)) hO.symm|exact congrArg (fun b=>V.o (bo1 b)) (by rw[hO,hEz,decide_eq_decide];simp)|exact congrArg (fun b=>V.o (bo1 b)) (by rw[hO,hEz,decide_eq_decide];omega))),trivial⟩) rfl ?_ nobox
            rfl
           ·try simp only[zs]at h73
            have hST:stmG g.1 s p=true:=by assumption
            refine .skip<|ks_n<|.region<|.c .m<|.c .m<|.c .m<|.c .m ?_
            refine .c (.cP [.tmp 77] rfl rfl rfl rfl (cloneInts_fn p (by omega)) rfl) ?_
            refine .c (.bu [(0,.tmp 75),(1,.tmp 76),(2,.tmp 78)] [(0,1),(1,1),(2,1)] [.int .i64 0,.int .i64 0,.slice none 0 0])<|.c (.li 56 2 0 [.tmp 79]) ?_
            refine .c (St1.appB (k':=181) (e:=56) (sz:=2) (by':=40) rfl rfl rfl rfl rfl (by kernel_rfl) rfl rfl rfl rfl (by first|(simp[dR];done)|(simp[dR];omega)) (by first|(simp[dR];done)|(simp[dR];omega)) rfl rfl rfl) ?_
            refine .c .a<|.nil<|kb_n<|ks_n<|.region<|.c .pl<|.c .m<|.nil ?_
            refine kl_k [(130,181)] ⟨j+1,o3++[((k:Int),((j:Nat):Int),p)],rfl,by omega,fun t s' ht hs'=>(Nat.lt_succ_iff_lt_or_eq.1 ht).elim (fun h=>hH t s' h hs') (fun h=>by subst h;rw[hs1]at hs';cases hs';exact hST),by rw[rowI_snoc,←List.append_assoc,hEp],by rw[List.length_append,List.length_singleton];omega,rfl⟩ ⟨kd,kW,kd,kd,kd,kd,kd,kd,kd,kd,kd,kd,kd,kd,kb 181 rfl (.dt rfl (by first|rfl|(simp[dR,rN,dI];done))),trivial⟩
          ·skip
           obtain rfl:j=q.2.length:=by omega
           have hPT:ptG' g.1 q.2 p=true:=by rw[ptG',show isPt p=true by assumption,Bool.true_and];exact all_of fun j s h=>hH j s (List.getElem?_eq_some_iff.1 h).1 h
           refine .exit<|ks_e<|kl_e<|kb_hit<|kb_n<|ks_n<|.region<|.c .pl<|.c .m<|.nil ?_
           refine kl_k [(120,130)] ⟨i+1,o3,rfl,by omega,fun j p' hj hp'=>(Nat.lt_succ_iff_lt_or_eq.1 hj).elim (fun h=>hG j p' h hp') (fun h=>by subst h;rw[hp1]at hp';cases hp';exact hPT),by rw[insT_take hp1,←List.append_assoc,hEo];exact hEp,by omega,rfl⟩ ⟨kd,kW,kd,kd,kd,kd,kd,kd,kd,kd,kb 130 rfl (.dt rfl (by first|rfl|(simp[dR,rN,dI];done))),trivial⟩
        ·skip
         obtain rfl:i=(npR q.1).length:=by omega
         rw[List.take_length]at hEo
         have hPV:prtV g.1 q=true:=by rw[prtV_eq hv1 hv2 (List.all_eq_true.2 hv3)];exact all_of fun j p h=>hG j p (List.getElem?_eq_some_iff.1 h).1 h
         have hnl:=npR_len q.1
         refine .exit<|ks_e<|kl_e<|kb_hit<|kb_n<|ks_n<|.region<|.c .pl<|.c .m<|.nil ?_
         refine kl_k [(110,120)] (.inr ⟨k+1,o2,rfl,by omega,fun j q' hj hq'=>(Nat.lt_succ_iff_lt_or_eq.1 hj).elim (fun h=>hF j q' h hq') (fun h=>by subst h;rw[hq1]at hq';cases hq';exact hPV),by rw[insG_take hq1,hE];exact hEo,by omega,rfl⟩) ⟨kd,kW,kd,kd,kd,kb 120 rfl (.dt rfl (by first|rfl|(simp[dR,rN,dI];done))),trivial⟩
    ·skip
     obtain rfl:k=g.2.length:=by omega
     rw[List.take_length]at hE
     have hEz:=hE
     obtain⟨hO,hN⟩:=prgV_t (prgS_eq hA h4 hF)
     refine .exit<|ks_e<|kl_e<|kb_hit<|ks_n<|.r<|.c .m<|.c .m<|.c (.lB 56 3 40)<|.c .le<|.c .a<|.c .a<|.nn<|.ret ?_
     refine kf_wret [eD 2 (dNs (insV g)),eT 3 (prgV g)] (Wk.keep [] rfl rfl ⟨ks rfl (.c (.fz rfl (by first|(rw[hN,hEz];done)|(rw[hN,hEz];rfl)) (by rw[hN,hEz,List.length_map]) (by omega))),ks rfl (.dt (by first|exact congrArg (fun b=>V.o (bo1 b)) hO.symm|exact congrArg (fun b=>V.o (bo1 b)) (by rw[hO,hEz,decide_eq_decide];simp)|exact congrArg (fun b=>V.o (bo1 b)) (by rw[hO,hEz,decide_eq_decide];omega))),trivial⟩) rfl ?_ nobox
     rfl
def clsV (ar:List Arr) (s:Stm) (p:List Int):List Int:=if stmG ar s p=true then(rdE s.2).map fun a=>cellG a p ar 0 else []
def wrV (ar:List Arr) (s:Stm) (p:List Int):Int:=if stmG ar s p=true then cellG s.1 p ar 0 else 0
def cntP (ar:List Arr) (q:Prt):Int:=if prtV ar q=true then(((npR q.1).length *q.2.length:Nat):Int)else 0
theorem cls_no {ar:List Arr} {s:Stm} {p:List Int} (h:stmG ar s p=false):clsV ar s p=[]∧wrV ar s p=0:=⟨if_neg (by rw[h];simp),if_neg (by rw[h];simp)⟩
theorem cls_yes {ar:List Arr} {s:Stm} {p:List Int} (h:stmG ar s p=true):clsV ar s p=(rdE s.2).map (fun a=>cellG a p ar 0)∧wrV ar s p=cellG s.1 p ar 0:=⟨if_pos h,if_pos h⟩
theorem accG_no {ar:List Arr} {p:List Int} {a:Acc} (h:cellG a p ar 0<0):accG ar p a=false:=decide_eq_false (by omega)
theorem accG_yes {ar:List Arr} {p:List Int} {a:Acc} (h:¬cellG a p ar 0<0):accG ar p a=true:=decide_eq_true (by omega)
theorem stmG_r {ar:List Arr} {s:Stm} {p:List Int} {a:Acc} (ha:a∈rdE s.2) (h:cellG a p ar 0<0):stmG ar s p=false:=Bool.eq_false_iff.2 fun h2=>by
  rw[stmG,Bool.and_eq_true]at h2
  have:=List.all_eq_true.1 h2.2 a ha
  rw[accG_no h]at this;cases this
theorem stmG_w {ar:List Arr} {s:Stm} {p:List Int} (h:cellG s.1 p ar 0<0):stmG ar s p=false:=by rw[stmG,accG_no h];rfl
theorem stmG_t {ar:List Arr} {s:Stm} {p:List Int} (h:¬cellG s.1 p ar 0<0) (h2:∀(j:Nat) a,j<(rdE s.2).length→(rdE s.2)[j]?=some a→accG ar p a=true):stmG ar s p=true:=by
  rw[stmG,accG_yes h,Bool.true_and]
  exact all_of fun j a h=>h2 j a (List.getElem?_eq_some_iff.1 h).1 h
theorem cntP_no {ar:List Arr} {q:Prt} (h:prtV ar q=false):cntP ar q=0:=if_neg (by rw[h];simp)
theorem cntP_yes {ar:List Arr} {q:Prt} (h:prtV ar q=true):cntP ar q=(((npR q.1).length *q.2.length:Nat):Int):=if_pos h
theorem cntP_len {ar:List Arr} {q:Prt} (h:prtV ar q=true) (k:Nat):cntP ar q=((insP k q).length:Nat)∧(insP k q).length≤480:=by
  obtain⟨h1,h2⟩:=insP_len (k:=k) (prtV_iff.1 h).2.1.2
  exact⟨by rw[cntP_yes h,h1],h2⟩
theorem np_pts {ns:List Lp} (h:okP ns=true):nsV ns=true∧npR ns=ptsF ns [] []:=by
  have hv:=(okP_iff.1 h).1
  exact⟨hv,(np_yes hv (fun h2=>by rw[np_no1 h2]at h;cases h) (fun h2=>by rw[np_no2 h2]at h;cases h)).2⟩
theorem l4Cells_fn {ar:List Arr} (hv:arrsV ar=true) {D:Int} {s:Stm} {p:List Int} (hs:stmtV D s=true) (hz:szS s≤1073741824) (hS:Small p) (hn:p.length≤4):Fn Tryz.prog 95 [] [vD (dRs ar),ad (rS s),vD (dIs p)] (.tup [vD (dIs (clsV ar s p)),nat1 (wrV ar s p),bo1 (stmG ar s p)]) []:=by
  obtain⟨ha,hr,hrl⟩:=stm_accs hs
  have hz2:szE s.2≤1073741824:=by have:szS s=szC s.1+szE s.2:=rfl;omega
  refine Fn.code0 Tryz.func95 rfl rfl rfl rfl ?_
  refine .r<|.c .bp<|.c .a<|.c .a<|.c .a<|.r ?_
  refine .c (St1.lit0 (k':=114) (e:=3) (sz:=1) (b:=true) rfl rfl rfl rfl (by kernel_rfl) rfl rfl) ?_
  refine .c .a<|.r ?_
  refine .c (St1.lit0 (k':=115) (e:=59) (sz:=2) (b:=true) rfl rfl rfl rfl (by kernel_rfl) rfl rfl) ?_
  refine .c (.fP 2 6 true)<|.c (.lN 7) ?_
  refine .c (.cO [.tmp 15,.tmp 17] [(0,115),(1000,118)] rfl rfl rfl rfl (l3Reads_fn s.2 hz2 [] (by simp;omega)) rfl ⟨rfl,trivial⟩ (hbL_flat _ _) (hbL_flat _ _) (hbL_HB _ _) outS_one) ?_
  refine .c .a<|.nn<|.seq<|.r<|.c .a<|.nn<|.block ?_
  refine .loopK (fun m σ=>(∃i:Nat,m=(rdE s.2).length -i∧(i≤(rdE s.2).length)∧(∀j a,j<i→(rdE s.2)[j]?=some a→accG ar p a=true)∧σ=[eD 0 (dRs ar),eD 2 (dIs p),eP 4 (rS s),(.t 9,.v (.o (.c (.own 110 1 (i))))),eD 10 (dCs (rdE s.2)),eN 11 (i:Nat),(.b 110,.b 3 1 (dR (((rdE s.2).take i).map fun a=>rI (cellG a p ar 0)))),eU 110])) [(110,114)] ⟨0,rfl,by omega,fun j a hj _=>absurd hj (by omega),rfl⟩ ⟨kd,kd,kd,kW,ks rfl (.c (.fz rfl rfl (by simp) (by simp;omega))),kd,kb 114 rfl (.dt rfl (by first|exact dR_take (fun a:Acc=>rI (cellG a p ar 0)) hx1|exact dR_take1 (fun a:Acc=>rI (cellG a p ar 0)) hx1|rfl|(simp[dR];done))),trivial⟩ ?_
  rintro m σ ⟨i,hm0,hi,hF,rfl⟩
  refine .seq<|.r<|.c .m<|.c .m<|.c (.ln 59 2 40)<|.c .ls<|.nn ?_
  refine .cD rfl (fun h22=>?_) (fun h22=>?_)
  · skip
    obtain⟨x,hx1⟩:∃x_,(rdE s.2)[i]?=some x_:=⟨_,List.getElem?_eq_getElem (by omega)⟩
    refine .skip<|ks_n<|.seq<|.block<|.r<|.c .m<|.c .m<|.c .m<|.c (.xL 59 2 40) ?_
    refine .c (.lN 2)<|.c .m ?_
    refine .c (.cP [.tmp 25,.tmp 29,.tmp 30] rfl rfl rfl rfl (l4Cell_fn hv (hr x (List.mem_of_getElem? hx1)) hS hn) rfl) ?_
    refine .c .a<|.nn<|.seq<|.r<|.c .m<|.c .ls<|.nn ?_
    refine .cD rfl (fun h33=>?_) (fun h33=>?_)
    · skip
      refine .seq ?_
      have hG:=stmG_r (List.mem_of_getElem? hx1) h33
      obtain⟨hC,hW⟩:=cls_no hG
      refine .region<|.c (St1.lit0D (e:=3) (sz:=1) (b:=true) rfl rfl rfl rfl (by kernel_rfl)) ?_
      refine .c .a<|.c .a<|.c .a<|.nn<|.ret<|ks_r<|kb_r<|ks_r<|kl_r<|kb_r<|ks_r ?_
      refine kf_wret [eD 6 (dIs (clsV ar s p)),eN 7 (wrV ar s p),eT 8 (stmG ar s p)] (Wk.keep [] rfl rfl ⟨ks rfl (.dt (by rw[hC];rfl)),ks rfl (.dt (by rw[hW])),ks rfl (.dt (by rw[hG])),trivial⟩) rfl ?_ nobox
      rfl
    · skip
      refine .skip<|ks_n<|.region<|.c .m<|.c .m<|.c (.li 3 0 0 [.tmp 36]) ?_
      refine .c (St1.appB (k':=138) (e:=3) (sz:=0) (by':=8) rfl rfl rfl rfl rfl (by kernel_rfl) rfl rfl rfl rfl (by first|(simp[dR];done)|(simp[dR];omega)) (by first|(simp[dR];done)|(simp[dR];omega)) rfl rfl rfl) ?_
      refine .c .a<|.nil<|kb_n<|ks_n<|.region<|.c .m<|.c .pl<|.c .a<|.nil ?_
      refine kl_k [(110,138)] ⟨i+1,rfl,by omega,fun j a' hj h'=>(Nat.lt_succ_iff_lt_or_eq.1 hj).elim (fun h=>hF j a' h h') (fun h=>by subst h;rw[hx1]at h';cases h';exact accG_yes h33),rfl⟩ ⟨kd,kd,kd,kW,kd,kd,kb 138 rfl (.dt rfl (by first|exact dR_take (fun a:Acc=>rI (cellG a p ar 0)) hx1|exact dR_take1 (fun a:Acc=>rI (cellG a p ar 0)) hx1|rfl|(simp[dR];done))),trivial⟩
  · skip
    obtain rfl:i=(rdE s.2).length:=by omega
    refine .exit<|ks_e<|kl_e<|kb_hit<|ks_n<|.r<|.c .m<|.c (.fP 0 1 true)<|.c (.lN 2)<|.c .m ?_
    refine .c (.cP [.tmp 39,.tmp 41,.tmp 42] rfl rfl rfl rfl (l4Cell_fn hv ha hS hn) rfl) ?_
    refine .c .a<|.nn<|.seq<|.r<|.c .m<|.c .ls<|.nn ?_
    refine .cD rfl (fun h45=>?_) (fun h45=>?_)
    · skip
      refine .seq ?_
      have hG:stmG ar s p=false:=stmG_w h45
      obtain⟨hC,hW⟩:=cls_no hG
      refine .region<|.c (St1.lit0D (e:=3) (sz:=1) (b:=true) rfl rfl rfl rfl (by kernel_rfl)) ?_
      refine .c .a<|.c .a<|.c .a<|.nn<|.ret<|ks_r ?_
      refine kf_wret [eD 6 (dIs (clsV ar s p)),eN 7 (wrV ar s p),eT 8 (stmG ar s p)] (Wk.keep [] rfl rfl ⟨ks rfl (.dt (by rw[hC];rfl)),ks rfl (.dt (by rw[hW])),ks rfl (.dt (by rw[hG])),trivial⟩) rfl ?_ nobox
      rfl
    · skip
      refine .skip<|ks_n<|.seq ?_
      have hG:=stmG_t h45 hF
      obtain⟨hC,hW⟩:=cls_yes hG
      refine .region<|.c .m<|.c .m<|.c .a<|.c .a<|.c .a<|.nn<|.ret ?_
      refine kf_wret [eD 6 (dIs (clsV ar s p)),eN 7 (wrV ar s p),eT 8 (stmG ar s p)] (Wk.keep [] rfl rfl ⟨ks rfl (.c (.fz rfl (by rw[hC];first|rfl|(rw[List.take_length,List.map_map];rfl)) (by rw[hC];simp) (by omega))),ks rfl (.dt (by rw[hW])),ks rfl (.dt (by rw[hG])),trivial⟩) rfl ?_ nobox
      rfl
theorem l4Part_fn {ar:List Arr} (hv:arrsV ar=true) {q:Prt} (hs:szPt q≤1073741824):Fn Tryz.prog 52 [] [vD (dRs ar),ad (rP q)] (.tup [nat1 (cntP ar q),bo1 (prtV ar q)]) []:=by
 have hqe:szPt q=szLs q.1+szO szS q.2:=rfl
 have hbg:=sz_bg (ns:=q.1) (by omega)
 have hql:=szO_len (f:=szS) q.2
 have hnl:=npR_len q.1
 refine Fn.code0 Tryz.func52 rfl rfl rfl rfl ?_
 refine .r<|.c .bp<|.c .a<|.c .a<|.r<|.c (.fP 0 0 false)<|.c (.l1 1) ?_
 refine .c (.cP [.tmp 15] rfl rfl rfl rfl (specNestPts_B q.1 hbg) rfl) ?_
 refine .c .m<|.c .ex<|.c .ex<|.c .a<|.c .a<|.nn<|.seq<|.r<|.c .m<|.c .nt<|.c .m ?_
 refine AOps.cases 21 _ rfl (fun g21=>?_) (fun g21=>?_)
 ·try simp only[zs]at g21
  refine .c .f<|.c .f<|.c .f<|.c .f<|.c .pT<|.c .m<|.c .f<|.c .f<|.c .f<|.c .f<|.c .pT<|.nn ?_
  refine .k1 ?_
  refine .seq ?_
  have hP:prtV ar q=false:=by first|exact prtV_f1 (by assumption)|exact prtV_f2 (by omega)
  have hC:=cntP_no hP
  refine .region<|.c .a<|.c .a<|.nn<|.ret<|ks_r ?_
  refine kf_wret [eN 4 (cntP ar q),eT 5 (prtV ar q)] (Wk.keep [] rfl rfl ⟨ks rfl (.dt (by first|(rw[hC];done)|(rw[hC];rfl)|(rw[hC];exact congrArg (fun z=>V.o (nat1 z)) (by rw[Int.natCast_mul])))),ks rfl (.dt (by rw[hP])),trivial⟩) rfl ?_ nobox
  rfl
 ·try simp only[zs]at g21
  refine .c (.g (.fP 1 0 false))<|.c (.g (.l1 1))<|.c (.g (.ln 66 9 152))<|.c (.g .ls)<|.c .pF<|.c .m ?_
  refine AOps.cases 27 _ rfl (fun g27=>?_) (fun g27=>?_)
  ·try simp only[zs]at g27
   refine .c .f<|.c .f<|.c .f<|.c .f<|.c .pT<|.nn ?_
   refine .k1 ?_
   refine .seq ?_
   have hP:prtV ar q=false:=by first|exact prtV_f1 (by assumption)|exact prtV_f2 (by omega)
   have hC:=cntP_no hP
   refine .region<|.c .a<|.c .a<|.nn<|.ret<|ks_r ?_
   refine kf_wret [eN 4 (cntP ar q),eT 5 (prtV ar q)] (Wk.keep [] rfl rfl ⟨ks rfl (.dt (by first|(rw[hC];done)|(rw[hC];rfl)|(rw[hC];exact congrArg (fun z=>V.o (nat1 z)) (by rw[Int.natCast_mul])))),ks rfl (.dt (by rw[hP])),trivial⟩) rfl ?_ nobox
   rfl
  ·try simp only[zs]at g27
   refine .c (.g (.fP 1 0 false))<|.c (.g (.l1 1))<|.c (.g (.ln 66 9 152))<|.c (.g .gt)<|.c .pF<|.nn ?_
   refine ACode.condT rfl (fun h32=>?_) (fun h32=>?_)
   ·try simp only[zs]at h32
    refine .seq ?_
    have hP:prtV ar q=false:=by first|exact prtV_f1 (by assumption)|exact prtV_f2 (by omega)
    have hC:=cntP_no hP
    refine .region<|.c .a<|.c .a<|.nn<|.ret<|ks_r ?_
    refine kf_wret [eN 4 (cntP ar q),eT 5 (prtV ar q)] (Wk.keep [] rfl rfl ⟨ks rfl (.dt (by first|(rw[hC];done)|(rw[hC];rfl)|(rw[hC];exact congrArg (fun z=>V.o (nat1 z)) (by rw[Int.natCast_mul])))),ks rfl (.dt (by rw[hP])),trivial⟩) rfl ?_ nobox
    rfl
   ·try simp only[zs]at h32
    have hv1:okP q.1=true:=by first|assumption|simp_all
    have hv2:1≤q.2.length∧q.2.length≤4:=by omega
    have hmb:=Nat.mul_le_mul hnl hv2.2
    refine .skip<|ks_n<|.seq<|.r<|.c .a<|.nn<|.block ?_
    refine .loopK (fun m σ=>(∃i:Nat,m=q.2.length -i∧(i≤q.2.length)∧(∀j s,j<i→q.2[j]?=some s→stmtV (q.1.length:Nat) s=true∧∀p∈npR q.1,stmG ar s p=true∧isPt p=true)∧σ=[eD 0 (dRs ar),eP 3 (rP q),eD 6 (dPs (npR q.1)),eN 8 (i:Nat)])) [] ⟨0,rfl,by omega,fun j s hj _=>absurd hj (by omega),rfl⟩ ⟨kd,kd,kd,kd,trivial⟩ ?_
    rintro m σ ⟨i,hm0,hi,hF,rfl⟩
    refine .seq<|.r<|.c .m<|.c (.fP 1 0 false)<|.c (.l1 1)<|.c (.ln 66 9 152)<|.c .ls<|.nn ?_
    refine .cD rfl (fun h37=>?_) (fun h37=>?_)
    ·skip
     obtain⟨s,hs1⟩:∃x_,q.2[i]?=some x_:=⟨_,List.getElem?_eq_getElem (by omega)⟩
     have hsm:=List.mem_of_getElem? hs1
     have hss:=szO_mem (f:=szS) hsm
     refine .skip<|ks_n<|.seq<|.block<|.seq<|.seq ?_
     refine ACode.drawK (by kernel_rfl) (by kernel_rfl) ?_
     refine .c (.fP 1 0 false)<|.c (.l1 1)<|.c .m<|.c (.xL 66 9 152) ?_
     refine .c (.lN 9)<|.c (.fP 0 0 false)<|.c (.l1 1)<|.c (.ln 148 2 48) ?_
     refine .c (.cP [.tmp 44,.tmp 47] rfl rfl rfl rfl (specStmtV_fn (q.1.length:Nat) s (by omega)) rfl) ?_
     refine .c .nt ?_
     refine .nil ⟨by kernel_rfl,?_⟩
     refine ks_n ?_
     refine ACode.condT rfl (fun h49=>?_) (fun h49=>?_)
     ·try simp only[zs]at h49
      refine .seq ?_
      have hP:=prtV_f3 (ar:=ar) hsm (by assumption)
      have hC:=cntP_no hP
      refine .region<|.c .a<|.c .a<|.nn<|.ret<|ks_r<|kb_r<|ks_r<|kl_r<|kb_r<|ks_r ?_
      refine kf_wret [eN 4 (cntP ar q),eT 5 (prtV ar q)] (Wk.keep [] rfl rfl ⟨ks rfl (.dt (by first|(rw[hC];done)|(rw[hC];rfl)|(rw[hC];exact congrArg (fun z=>V.o (nat1 z)) (by rw[Int.natCast_mul])))),ks rfl (.dt (by rw[hP])),trivial⟩) rfl ?_ nobox
      rfl
     ·try simp only[zs]at h49
      have hsv:stmtV (q.1.length:Nat) s=true:=by assumption
      refine .skip<|ks_n<|.r<|.c .a<|.nn<|.block ?_
      refine .loopK (fun m σ=>(∃k:Nat,m=(npR q.1).length -k∧(k≤(npR q.1).length)∧(∀j p,j<k→(npR q.1)[j]?=some p→stmG ar s p=true∧isPt p=true)∧σ=[eD 0 (dRs ar),eP 3 (rP q),eD 6 (dPs (npR q.1)),eN 8 (i:Nat),eN 9 (k:Nat)])) [] ⟨0,rfl,by omega,fun j p hj _=>absurd hj (by omega),rfl⟩ ⟨kd,kd,kd,kd,kd,trivial⟩ ?_
      rintro m σ ⟨k,hm0,hk,hG,rfl⟩
      refine .seq<|.r<|.c .m<|.c .m<|.c (.ln 43 1 24)<|.c .ls<|.nn ?_
      refine .cD rfl (fun h53=>?_) (fun h53=>?_)
      ·skip
       obtain⟨p,hp1⟩:∃x_,(npR q.1)[k]?=some x_:=⟨_,List.getElem?_eq_getElem (by omega)⟩
       have hpm:=List.mem_of_getElem? hp1
       have hpt:=npR_pt hpm
       refine .skip<|ks_n<|.seq<|.block<|.seq ?_
       refine ACode.drawK (by kernel_rfl) (by kernel_rfl) ?_
       refine .c .m<|.c (.fP 1 0 false)<|.c (.l1 1)<|.c .m<|.c (.xL 66 9 152) ?_
       refine .c (.lN 9)<|.c .m<|.c .m<|.c (.xL 43 1 24) ?_
       refine .c (.l1 1) ?_
       refine .c (.cP [.tmp 57,.tmp 62,.tmp 66] rfl rfl rfl rfl (l4Cells_fn hv hsv (by omega) hpt.1 hpt.2) rfl) ?_
       refine .c .m<|.c .ex<|.c .ex<|.c .ex<|.c .a<|.c .a<|.c .a ?_
       refine .nil ⟨by kernel_rfl,?_⟩
       refine ks_n<|.r<|.c .m<|.c .nt<|.c .m ?_
       refine AOps.cases 73 _ rfl (fun g73=>?_) (fun g73=>?_)
       ·try simp only[zs]at g73
        refine .c .f<|.c .f<|.c .f<|.c .f<|.c .f<|.c .f<|.c .pT<|.nn ?_
        refine .k1 ?_
        refine .seq ?_
        have hP:prtV ar q=false:=by first|exact prtV_f5 hpm hsm (by assumption)|exact prtV_f4 hpm (by assumption)
        have hC:=cntP_no hP
        refine .region<|.c .a<|.c .a<|.nn<|.ret<|kb_r<|ks_r<|kl_r<|kb_r<|kb_r<|ks_r<|kl_r<|kb_r<|ks_r ?_
        refine kf_wret [eN 4 (cntP ar q),eT 5 (prtV ar q)] (Wk.keep [] rfl rfl ⟨ks rfl (.dt (by first|(rw[hC];done)|(rw[hC];rfl)|(rw[hC];exact congrArg (fun z=>V.o (nat1 z)) (by rw[Int.natCast_mul])))),ks rfl (.dt (by rw[hP])),trivial⟩) rfl ?_ nobox
        rfl
       ·try simp only[zs]at g73
        refine .c (.g .m)<|.c (.g .m)<|.c (.g (.xL 43 1 24)) ?_
        refine .c (.g (.l1 1)) ?_
        refine .c (.gT rfl rfl rfl (.cP [.tmp 77] rfl rfl rfl rfl (l1Point_fn _) rfl)) ?_
        refine .c (.g .nt)<|.c .pF<|.nn ?_
        refine ACode.condT rfl (fun h80=>?_) (fun h80=>?_)
        ·try simp only[zs]at h80
         refine .seq ?_
         have hP:prtV ar q=false:=by first|exact prtV_f5 hpm hsm (by assumption)|exact prtV_f4 hpm (by assumption)
         have hC:=cntP_no hP
         refine .region<|.c .a<|.c .a<|.nn<|.ret<|kb_r<|ks_r<|kl_r<|kb_r<|kb_r<|ks_r<|kl_r<|kb_r<|ks_r ?_
         refine kf_wret [eN 4 (cntP ar q),eT 5 (prtV ar q)] (Wk.keep [] rfl rfl ⟨ks rfl (.dt (by first|(rw[hC];done)|(rw[hC];rfl)|(rw[hC];exact congrArg (fun z=>V.o (nat1 z)) (by rw[Int.natCast_mul])))),ks rfl (.dt (by rw[hP])),trivial⟩) rfl ?_ nobox
         rfl
        ·try simp only[zs]at h80
         have hSG:stmG ar s p=true:=by first|assumption|simp_all
         have hPT:isPt p=true:=by first|assumption|simp_all
         refine .skip<|kb_n<|ks_n<|.region<|.c .m<|.c .pl<|.c .a<|.nil ?_
         refine kl_k [] ⟨k+1,rfl,by omega,fun j p' hj h'=>(Nat.lt_succ_iff_lt_or_eq.1 hj).elim (fun h=>hG j p' h h') (fun h=>by subst h;rw[hp1]at h';cases h';exact⟨hSG,hPT⟩),rfl⟩ ⟨kd,kd,kd,kd,kd,trivial⟩
      ·skip
       have hAll:∀p∈npR q.1,stmG ar s p=true∧isPt p=true:=fun p hp=>by obtain⟨j,hj⟩:=List.mem_iff_getElem?.1 hp;exact hG j p (by have:=(List.getElem?_eq_some_iff.1 hj).1;omega) hj
       refine .exit<|ks_e<|kl_e<|kb_hit<|kb_n<|ks_n<|.region<|.c .m<|.c .pl<|.c .a<|.nil ?_
       refine kl_k [] ⟨i+1,rfl,by omega,fun j s' hj h'=>(Nat.lt_succ_iff_lt_or_eq.1 hj).elim (fun h=>hF j s' h h') (fun h=>by subst h;rw[hs1]at h';cases h';exact⟨hsv,hAll⟩),rfl⟩ ⟨kd,kd,kd,kd,trivial⟩
    ·skip
     have hP:prtV ar q=true:=prtV_iff.2 ⟨hv1,hv2,fun s hs=>by obtain⟨j,hj⟩:=List.mem_iff_getElem?.1 hs;exact(hF j s (by have:=(List.getElem?_eq_some_iff.1 hj).1;omega) hj).1,fun p hp=>⟨by obtain⟨s,hs⟩:∃s,q.2[0]?=some s:=⟨_,List.getElem?_eq_getElem (by omega)⟩;exact((hF 0 s (by omega) hs).2 p hp).2,fun s hs=>by obtain⟨j,hj⟩:=List.mem_iff_getElem?.1 hs;exact((hF j s (by have:=(List.getElem?_eq_some_iff.1 hj).1;omega) hj).2 p hp).1⟩⟩
     have hC:=cntP_yes hP
     refine .exit<|ks_e<|kl_e<|kb_hit<|ks_n<|.r<|.c .m<|.c (.ln 43 1 24)<|.c (.fP 1 0 false)<|.c (.l1 1)<|.c (.ln 66 9 152) ?_
     refine .c (.ml rfl rfl rfl (by omega)) ?_
     refine .c .a<|.c .a<|.nn<|.ret ?_
     refine kf_wret [eN 4 (cntP ar q),eT 5 (prtV ar q)] (Wk.keep [] rfl rfl ⟨ks rfl (.dt (by first|(rw[hC];done)|(rw[hC];rfl)|(rw[hC];exact congrArg (fun z=>V.o (nat1 z)) (by rw[Int.natCast_mul])))),ks rfl (.dt (by rw[hP])),trivial⟩) rfl ?_ nobox
     rfl
theorem specPV_fn {g:Prg} (hs:szG g≤1073741824):Fn Tryz.prog 20 [] [ad (rG g)] (.o (bo1 (prgV g))) []:=by
 have h1:=szO_len (f:=szR) g.1
 have h2:=szO_len (f:=szPt) g.2
 have hsz:szG g=szO szR g.1+szO szPt g.2:=rfl
 refine Fn.code0 Tryz.func20 rfl rfl rfl rfl ?_
 refine .r<|.c .bp<|.c .a<|.nn<|.seq<|.r<|.c (.fP 0 0 false)<|.c (.l1 1) ?_
 refine .c (.cP [.tmp 8] rfl rfl rfl rfl (l4Arrays_fn g.1 (by omega) (fun x hx=>by have:=szO_mem (f:=szR) hx;have e:szR x=x.1.size+x.2.length:=rfl;omega)) rfl) ?_
 refine .c .nt<|.c .m ?_
 refine AOps.cases 11 _ rfl (fun g11=>?_) (fun g11=>?_)
 ·try simp only[zs]at g11
  refine .c .f<|.c .f<|.c .f<|.c .f<|.c .pT<|.nn ?_
  refine .k1 ?_
  refine .seq ?_
  obtain⟨hO,hN⟩:=prgV_f (g:=g) (by first|exact prgS_f2 (show ¬g.2.length≤4 by omega)|exact prgS_f1 (by assumption))
  refine .region<|.c .a<|.nn<|.ret<|ks_r ?_
  refine kf_ret rfl ?_ nobox
  exact leafB (by rw[hO];try (rw[decide_eq_decide];omega))
 ·try simp only[zs]at g11
  refine .c (.g (.fP 1 0 false))<|.c (.g (.l1 1))<|.c (.g (.ln 80 2 48))<|.c (.g .gt)<|.c .pF<|.nn ?_
  refine ACode.condT rfl (fun h16=>?_) (fun h16=>?_)
  ·try simp only[zs]at h16
   refine .seq ?_
   obtain⟨hO,hN⟩:=prgV_f (g:=g) (by first|exact prgS_f2 (show ¬g.2.length≤4 by omega)|exact prgS_f1 (by assumption))
   refine .region<|.c .a<|.nn<|.ret<|ks_r ?_
   refine kf_ret rfl ?_ nobox
   exact leafB (by rw[hO];try (rw[decide_eq_decide];omega))
  ·try simp only[zs]at h16
   have hA:arrsV g.1=true:=by first|assumption|simp_all
   have h4:g.2.length≤4:=by omega
   refine .skip<|ks_n<|.r<|.c .a<|.nn<|.seq<|.r<|.c .a<|.nn<|.block ?_
   refine .loopK (fun m σ=>(∃(k:Nat) (t:Int),m=g.2.length -k∧(k≤g.2.length)∧(∀j q,j<k→g.2[j]?=some q→prtV g.1 q=true)∧(t=((insG 0 (g.2.take k)).length:Nat))∧(0≤t∧t≤480 *k)∧σ=[eP 1 (rG g),eT 2 false,eN 3 t,eN 4 (k:Nat)])) [] ⟨0,0,rfl,by omega,fun j q hj _=>absurd hj (by omega),rfl,by omega,rfl⟩ ⟨kd,kd,kd,kd,trivial⟩ ?_
   rintro m σ ⟨k,t,hm0,hk,hF,hT,hb,rfl⟩
   refine .seq<|.r<|.c .m<|.c (.fP 1 0 false)<|.c (.l1 1)<|.c (.ln 80 2 48)<|.c .ls<|.nn ?_
   refine .cD rfl (fun h21=>?_) (fun h21=>?_)
   ·skip
    obtain⟨q,hq1⟩:∃x_,g.2[k]?=some x_:=⟨_,List.getElem?_eq_getElem (by omega)⟩
    have hqm:=List.mem_of_getElem? hq1
    have hqs:=szO_mem (f:=szPt) hqm
    refine .skip<|ks_n<|.seq<|.block<|.seq ?_
    refine ACode.drawK (by kernel_rfl) (by kernel_rfl) ?_
    refine .c (.fP 0 0 false)<|.c (.l1 1)<|.c (.fP 1 0 false)<|.c (.l1 1)<|.c .m<|.c (.xL 80 2 48) ?_
    refine .c (.lN 2) ?_
    refine .c (.cP [.tmp 26,.tmp 31] rfl rfl rfl rfl (l4Part_fn hA (by omega)) rfl) ?_
    refine .c .m<|.c .ex<|.c .ex<|.c .a<|.c .a ?_
    refine .nil ⟨by kernel_rfl,?_⟩
    refine ks_n<|.seq<|.r<|.c .m<|.c .nt<|.nn ?_
    refine ACode.condT rfl (fun h36=>?_) (fun h36=>?_)
    ·try simp only[zs]at h36
     refine .seq ?_
     obtain⟨hO,hN⟩:=prgV_f (prgS_f3 hqm (by assumption))
     refine .region<|.c .a<|.nn<|.ret<|ks_r<|kb_r<|ks_r<|kl_r<|kb_r<|ks_r ?_
     refine kf_ret rfl ?_ nobox
     exact leafB (by rw[hO];try (rw[decide_eq_decide];omega))
    ·try simp only[zs]at h36
     have hPV:prtV g.1 q=true:=by assumption
     have hcl:=cntP_len hPV k
     refine .skip<|ks_n<|.region<|.c .m<|.c .m<|.c .pl<|.c .a<|.nil<|kb_n<|ks_n<|.region<|.c .m<|.c .pl<|.c .a<|.nil ?_
     refine kl_k [] ⟨k+1,t+cntP g.1 q,rfl,by omega,fun j q' hj h'=>(Nat.lt_succ_iff_lt_or_eq.1 hj).elim (fun h=>hF j q' h h') (fun h=>by subst h;rw[hq1]at h';cases h';exact hPV),by rw[insG_take hq1,List.length_append,hT,hcl.1];omega,by omega,rfl⟩ ⟨kd,kd,kd,kd,trivial⟩
   ·skip
    obtain rfl:k=g.2.length:=by omega
    rw[List.take_length]at hT
    obtain⟨hO,hN⟩:=prgV_t (prgS_eq hA h4 hF)
    refine .exit<|ks_e<|kl_e<|kb_hit<|ks_n<|.r<|.c .m<|.c .le<|.c .a<|.nn<|.ret ?_
    refine kf_ret rfl ?_ nobox
    exact leafB (by rw[hO];try (rw[decide_eq_decide];omega))
theorem l4Instances_fn {g:Prg} (hg:prgS g=true):Fn Tryz.prog 42 [] [ad (rG g)] (.o (vD (dNs (insG 0 g.2)))) []:=by
  obtain⟨hA,h4,hP⟩:=prgS_iff.1 hg
  refine Fn.code0 Tryz.func42 rfl rfl rfl rfl ?_
  refine .r<|.c .bp<|.c .a<|.r ?_
  refine .c (St1.lit0 (k':=108) (e:=56) (sz:=3) (b:=true) rfl rfl rfl rfl (by kernel_rfl) rfl rfl) ?_
  refine .c .a<|.nn<|.seq<|.r<|.c .a<|.nn<|.block ?_
  refine .loopK (fun m σ=>(∃(k:Nat) (o:List Ins),m=g.2.length -k∧(k≤g.2.length)∧(insG 0 (g.2.take k)=o)∧(o.length≤480 *k)∧σ=[eP 1 (rG g),(.t 3,.v (.o (.c (.own 110 3 (o.length))))),eN 4 (k:Nat),(.b 110,.b 56 3 (dR (o.map rN))),eU 110])) [(110,108)] ⟨0,[],rfl,by omega,rfl,by simp,rfl⟩ ⟨kd,kW,kd,kb 108 rfl (.dt rfl (by first|rfl|(simp[dR,rN,dI];done)|(simp[dR,rN,dI];rfl))),trivial⟩ ?_
  rintro m σ ⟨k,o,hm0,hk,hE,ho,rfl⟩
  refine .seq<|.r<|.c .m<|.c (.fP 1 0 false)<|.c (.l1 1)<|.c (.ln 80 2 48)<|.c .ls<|.nn ?_
  refine .cD rfl (fun h13=>?_) (fun h13=>?_)
  · skip
    obtain⟨q,hq1⟩:∃x_,g.2[k]?=some x_:=⟨_,List.getElem?_eq_getElem (by omega)⟩
    have hqm:=List.mem_of_getElem? hq1
    have hqv:=prtV_iff.1 (hP q hqm)
    have hnp:=np_pts hqv.1
    have hnl:=npR_len q.1
    have hq4:=hqv.2.1
    refine .skip<|ks_n<|.seq<|.block<|.r<|.c (St1.lit0 (k':=116) (e:=43) (sz:=1) (b:=true) rfl rfl rfl rfl (by kernel_rfl) rfl rfl) ?_
    refine .c (.fP 1 0 false)<|.c (.l1 1)<|.c .m<|.c (.xL 80 2 48) ?_
    refine .c (.fP 0 0 false)<|.c (.l1 1) ?_
    refine .c (.cO [.tmp 16,.tmp 22,.const (.slice none 0 0)] [(0,116),(1000,123)] rfl rfl rfl rfl (Fn.nilArg (pre:=[.c (.own 0 1 0),vD (dLs q.1)]) (post:=[]) (sz:=1) (l2Points_fn hnp.1 q.1 [] [] rfl (by simp) PB.nil (by simp))) rfl (hbIn_one rfl) (hbPt_flat _ _) (hbPt_flat _ _) (hbPt_HB _ _) outS_one) ?_
    refine .c .a<|.r<|.c .a<|.nn<|.block ?_
    refine .loopK (fun m σ=>(∃(i:Nat) (o2:List Ins),m=(npR q.1).length -i∧(i≤(npR q.1).length)∧(o++insT k q.2.length ((npR q.1).take i)=o2)∧(o2.length≤480 *k+4 *i)∧σ=[eP 1 (rG g),(.t 3,.v (.o (.c (.own 120 3 (o2.length))))),eN 4 (k:Nat),eD 5 (dPs (npR q.1)),eN 6 (i:Nat),(.b 120,.b 56 3 (dR (o2.map rN))),eU 120])) [(120,110)] ⟨0,o,rfl,by omega,by simp[insT],by omega,rfl⟩ ⟨kd,kW,kd,ks rfl (.c (.fz rfl (by first|(rw[hnp.2];done)|(rw[hnp.2];rfl)) (by rw[hnp.2,List.length_map]) (by rw[←hnp.2];omega))),kd,kb 110 rfl (.dt rfl (by first|rfl|(simp[dR,rN,dI];done)|(simp[dR,rN,dI];rfl))),trivial⟩ ?_
    rintro m σ ⟨i,o2,hm0,hi,hEo,ho2,rfl⟩
    refine .seq<|.r<|.c .m<|.c .m<|.c (.ln 43 1 24)<|.c .ls<|.nn ?_
    refine .cD rfl (fun h27=>?_) (fun h27=>?_)
    · skip
      obtain⟨p,hp1⟩:∃x_,(npR q.1)[i]?=some x_:=⟨_,List.getElem?_eq_getElem (by omega)⟩
      have hpt:=npR_pt (List.mem_of_getElem? hp1)
      refine .skip<|ks_n<|.seq<|.block<|.r<|.c .a<|.nn<|.block ?_
      refine .loopK (fun m σ=>(∃(j:Nat) (o3:List Ins),m=q.2.length -j∧(j≤q.2.length)∧(o2++rowI k j p=o3)∧(o3.length≤480 *k+4 *i+j)∧σ=[eP 1 (rG g),(.t 3,.v (.o (.c (.own 130 3 (o3.length))))),eN 4 (k:Nat),eD 5 (dPs (npR q.1)),eN 6 (i:Nat),eN 7 (j:Nat),(.b 130,.b 56 3 (dR (o3.map rN))),eU 130])) [(130,120)] ⟨0,o2,rfl,by omega,by simp[rowI_zero],by omega,rfl⟩ ⟨kd,kW,kd,kd,kd,kd,kb 120 rfl (.dt rfl (by first|rfl|(simp[dR,rN,dI];done)|(simp[dR,rN,dI];rfl))),trivial⟩ ?_
      rintro m σ ⟨j,o3,hm0,hj,hEp,ho3,rfl⟩
      refine .seq<|.r<|.c .m<|.c (.fP 1 0 false)<|.c (.l1 1)<|.c .m<|.c (.xL 80 2 48) ?_
      refine .c (.fP 1 0 false)<|.c (.l1 1)<|.c (.ln 66 9 152)<|.c .ls<|.nn ?_
      refine .cD rfl (fun h38=>?_) (fun h38=>?_)
      · skip
        refine .skip<|ks_n<|.seq<|.block<|.region<|.c .m<|.c .m<|.c .m ?_
        refine .c (St1.lit0 (k':=144) (e:=3) (sz:=1) (b:=true) rfl rfl rfl rfl (by kernel_rfl) rfl rfl) ?_
        refine .c .m<|.c .m<|.c (.xL 43 1 24) ?_
        refine .c (.l1 1) ?_
        refine .c (St1.appD (rows:=[]) (e:=3) (sz:=0) (by':=8) rfl rfl rfl rfl rfl (by kernel_rfl) rfl rfl rfl rfl (by simp) (by simp;omega) rfl) ?_
        refine .c (.bu [(0,.tmp 42),(1,.tmp 43),(2,.tmp 49)] [(0,1),(1,1),(2,1)] [.int .i64 0,.int .i64 0,.slice none 0 0])<|.c (.li 56 2 0 [.tmp 50]) ?_
        refine .c (St1.appB (k':=152) (e:=56) (sz:=2) (by':=40) rfl rfl rfl rfl rfl (by kernel_rfl) rfl rfl rfl rfl (by first|(simp[dR];done)|(simp[dR];omega)) (by first|(simp[dR];done)|(simp[dR];omega)) rfl rfl rfl) ?_
        refine .c .a<|.nil<|kb_n<|ks_n<|.region<|.c .m<|.c .pl<|.c .a<|.nil ?_
        refine kl_k [(130,152)] ⟨j+1,o3++[((k:Int),((j:Nat):Int),p)],rfl,by omega,by rw[rowI_snoc,←List.append_assoc,hEp],by rw[List.length_append,List.length_singleton];omega,rfl⟩ ⟨kd,kW,kd,kd,kd,kd,kb 152 rfl (.dt rfl (by first|rfl|(simp[dR,rN,dI];done)|(simp[dR,rN,dI];rfl))),trivial⟩
      · skip
        obtain rfl:j=q.2.length:=by omega
        refine .exit<|ks_e<|kl_e<|kb_hit<|kb_n<|ks_n<|.region<|.c .m<|.c .pl<|.c .a<|.nil ?_
        refine kl_k [(120,130)] ⟨i+1,o3,rfl,by omega,by rw[insT_take hp1,←List.append_assoc,hEo];exact hEp,by omega,rfl⟩ ⟨kd,kW,kd,kd,kd,kb 130 rfl (.dt rfl (by first|rfl|(simp[dR,rN,dI];done)|(simp[dR,rN,dI];rfl))),trivial⟩
    · skip
      obtain rfl:i=(npR q.1).length:=by omega
      rw[List.take_length]at hEo
      refine .exit<|ks_e<|kl_e<|kb_hit<|kb_n<|ks_n<|.region<|.c .m<|.c .pl<|.c .a<|.nil ?_
      refine kl_k [(110,120)] ⟨k+1,o2,rfl,by omega,by rw[insG_take hq1,hE];exact hEo,by omega,rfl⟩ ⟨kd,kW,kd,kb 120 rfl (.dt rfl (by first|rfl|(simp[dR,rN,dI];done)|(simp[dR,rN,dI];rfl))),trivial⟩
  · skip
    obtain rfl:k=g.2.length:=by omega
    rw[List.take_length]at hE
    refine .exit<|ks_e<|kl_e<|kb_hit<|ks_n<|.r<|.c .m<|.c .a<|.nn<|.ret ?_
    refine kf_wret [eD 2 (dNs (insG 0 g.2))] (Wk.keep [] rfl rfl ⟨ks rfl (.c (.fz rfl (by rw[hE]) (by rw[hE,List.length_map]) (by omega))),trivial⟩) rfl ?_ nobox
    rfl
def stI (g:Prg) (x:Ins):Stm:=match (g.2[x.1.toNat]?).bind fun q=>q.2[x.2.1.toNat]? with |some s=>s|none=>((ByteArray.empty,[]),.mk 0 0 ([],0) (ByteArray.empty,[]) [])
theorem stI_eq {g:Prg} {x:Ins} {k c:Nat} {q:Prt} {s:Stm} (h1:x.1=(k:Int)) (hq:g.2[k]?=some q) (h2:x.2.1=(c:Int)) (hs:q.2[c]?=some s):stI g x=s:=by
  rw[stI,h1,h2,Int.toNat_natCast,Int.toNat_natCast,hq,Option.bind_some,hs]
structure InsOk (g:Prg) (x:Ins) (k c:Nat) (q:Prt):Prop where
  e1:x.1=(k:Int)
  hq:g.2[k]?=some q
  e2:x.2.1=(c:Int)
  hs:q.2[c]?=some (stI g x)
  pt:x.2.2∈npR q.1
  sv:stmtV (q.1.length:Nat) (stI g x)=true
  ok:stmG g.1 (stI g x) x.2.2=true
  ip:isPt x.2.2=true
  hk:k<g.2.length
  hc:c<q.2.length
theorem ins_at {g:Prg} {x:Ins} (hg:prgS g=true) (hx:x∈insG 0 g.2):∃k c q,InsOk g x k c q:=by
  obtain⟨k,q,c,h1,h2,h3,h4,h5⟩:=insG_mem hx
  rw[Nat.zero_add]at h2
  obtain⟨s,hs⟩:∃s,q.2[c]?=some s:=⟨_,List.getElem?_eq_getElem h4⟩
  have e:=stI_eq h2 h1 h3 hs
  have hp:=prtV_iff.1 ((prgS_iff.1 hg).2.2 q (List.mem_of_getElem? h1))
  have hm:=List.mem_of_getElem? hs
  exact⟨k,c,q,h2,h1,h3,by rw[e];exact hs,h5,by rw[e];exact hp.2.2.1 s hm,by rw[e];exact(hp.2.2.2 _ h5).2 s hm,(hp.2.2.2 _ h5).1,(List.getElem?_eq_some_iff.1 h1).1,h4⟩
theorem stI_sz {g:Prg} {x:Ins} {k c:Nat} {q:Prt} (h:InsOk g x k c q):szS (stI g x)≤szG g:=by
  have h1:=szO_mem (f:=szS) (List.mem_of_getElem? h.hs)
  have h2:=szO_mem (f:=szPt) (List.mem_of_getElem? h.hq)
  have e1:szPt q=szLs q.1+szO szS q.2:=rfl
  have e2:szG g=szO szR g.1+szO szPt g.2:=rfl
  omega
theorem stmt_fn {g:Prg} {x:Ins} {k c:Nat} {q:Prt} (h:InsOk g x k c q):Fn Tryz.prog 29 [] [ad (rG g),ad (rN x)] (.o (ad (rS (stI g x)))) []:=by
 refine Fn.code0 Tryz.func29 rfl rfl rfl rfl ?_
 refine .r<|.c .bp<|.c .bp<|.c (.al 104 [.string ByteArray.empty,.slice none 0 0,.int .i64 0,.int .i64 0,.slice none 0 0,.int .i64 0,.string ByteArray.empty,.slice none 0 0,.slice none 0 0])<|.nn<|.seq ?_
 refine ACode.drawK (by kernel_rfl) (by kernel_rfl) ?_
 refine .c (.fP 1 0 false)<|.c (.l1 1)<|.c (.fP 0 0 false)<|.c (.l1 1) ?_
 refine .c (.xL 80 2 48 (i:=k) rfl rfl rfl rfl h.e1 (map_at h.hq)) ?_
 refine .c (.fP 1 0 false)<|.c (.l1 1)<|.c (.fP 1 0 false)<|.c (.l1 1) ?_
 refine .c (.xL 66 9 152 (i:=c) rfl rfl rfl rfl h.e2 (map_at h.hs)) ?_
 refine .c (.lN 9)<|.c (.sT 9 true) ?_
 refine .nil ⟨by kernel_rfl,?_⟩
 refine ks_n<|.ret ?_
 refine kf_ret rfl ?_ nobox
 rfl
def rB (b:Bool):List D:=[dB b]
def dBs (l:List Bool):D:=.list 1 (l.map rB)
def usR (g:Prg) (x:Ins):List Int:=(rdE (stI g x).2).map fun a=>cellG a x.2.2 g.1 0
def usW (g:Prg) (x:Ins):Int:=cellG (stI g x).1 x.2.2 g.1 0
def usRs (g:Prg):Pts:=(insG 0 g.2).map (usR g)
def usWs (g:Prg):List Int:=(insG 0 g.2).map (usW g)
def rU (u:List Int×Int):List D:=[dIs u.1,dI u.2]
def dUs (l:List (List Int×Int)):D:=.list 2 (l.map rU)
def usG (g:Prg) (x:Ins):List Int×Int:=(usR g x,usW g x)
def usL (g:Prg):List (List Int×Int):=(insG 0 g.2).map (usG g)
def rT (g:Prg):List D:=[dRs g.1,dPts g.2,dNs (insG 0 g.2),dPs (usRs g),dIs (usWs g)]
theorem usR_len {g:Prg} {x:Ins} {k c:Nat} {q:Prt} (h:InsOk g x k c q):(usR g x).length≤12:=by
  rw[usR,List.length_map];exact(stm_accs h.sv).2.2
theorem dR_setB (l:List Bool) (i:Nat) (x y:Bool):(dR (l.map rB)).set i (place1 ((rB x).map C.d) 0 (bo1 y).cells)=dR ((l.set i y).map rB):=by
  unfold dR
  rw[List.map_set,List.map_set]
  rfl
theorem dR_repB (n:Nat):dR (List.replicate n [dB false])=dR ((List.replicate n false).map rB):=by rw[List.map_replicate];rfl
def flagN (l:List Bool) (n:Nat):List Int:=((List.range n).filter fun i=>l.getD i false).map fun(i:Nat)=>(i:Int)
def flagV (l:List Bool):List Int:=flagN l l.length
theorem flagN_len {l:List Bool} {n:Nat}:(flagN l n).length≤n:=by
  rw[flagN,List.length_map]
  exact Nat.le_trans (List.length_filter_le _ _) (by simp)
theorem flagN_next {l:List Bool} {n:Nat} {b:Bool} (h:l[n]?=some b):flagN l (n+1)=if b=true then flagN l n++[(n:Int)]else flagN l n:=by
  rw[flagN,List.range_succ,List.filter_append,List.map_append]
  have e:l.getD n false=b:=by rw[List.getD,h];rfl
  cases b with
  |true=>rw[if_pos rfl,List.filter_cons_of_pos (by rw[e])];rfl
  |false=>rw[if_neg (by simp),List.filter_cons_of_neg (by rw[e];simp)];simp[flagN]
theorem flagV_mem {l:List Bool} {n:Int}:n∈flagV l↔∃i:Nat,n=(i:Int)∧i<l.length∧l.getD i false=true:=by
  rw[flagV,flagN,List.mem_map]
  constructor
  · rintro⟨i,hi,rfl⟩
    rw[List.mem_filter,List.mem_range]at hi
    exact⟨i,rfl,hi⟩
  · rintro⟨i,rfl,hi⟩
    exact⟨i,by rw[List.mem_filter,List.mem_range];exact hi,rfl⟩
def hasV (l:List Int) (n:Int):Bool:=l.any fun m=>decide (m=n)
theorem insG_len {g:Prg} (h:prgS g=true):(insG 0 g.2).length≤1920:=by
  obtain⟨_,h4,hP⟩:=prgS_iff.1 h
  have key:∀(l:List Prt) (n:Nat),(∀q∈l,prtV g.1 q=true)→(insG n l).length≤480 *l.length:=by
    intro l
    induction l with
    |nil=>intro n _;simp[insG]
    |cons q l ih=>
      intro n hq
      have h1:=(cntP_len (hq q (by simp)) n).2
      have h2:=ih (n+1) fun q' h'=>hq q' (by simp[h'])
      rw[insG,List.length_append,List.length_cons];omega
  have:=key g.2 0 hP
  omega
theorem touched_fn {g:Prg} (hv:arrsV g.1=true) {x:Ins} {k c:Nat} {q:Prt} (hI:InsOk g x k c q):Fn Tryz.prog 85 [] [ad (rG g),ad (rN x)] (.tup [vD (dIs (usR g x)),nat1 (usW g x)]) []:=by
  obtain⟨ha,hr,hrl⟩:=stm_accs hI.sv
  have hpt:=npR_pt hI.pt
  refine Fn.code0 Tryz.func85 rfl rfl rfl rfl ?_
  refine .r<|.c .bp<|.c .bp<|.c .a<|.c .a<|.r<|.c (.lN 2)<|.c (.lN 3) ?_
  refine .c (.cP [.tmp 10,.tmp 11] rfl rfl rfl rfl (stmt_fn hI) rfl) ?_
  refine .c (.al 106 [.string ByteArray.empty,.slice none 0 0,.int .i64 0,.int .i64 0,.slice none 0 0,.int .i64 0,.string ByteArray.empty,.slice none 0 0,.slice none 0 0])<|.c (.sT 9 true)<|.r<|.c .a<|.nn<|.seq<|.r<|.c (.fB 2 6 true)<|.c (.bN 7) ?_
  refine .c (.cP [.tmp 14] rfl rfl rfl rfl (reads_fn (L:=5) _ (by omega) (stmtV_ex hI.sv).1) rfl) ?_
  refine .c (.ln 59 2 40)<|.c .m<|.nn<|.block ?_
  refine .loopK (fun m σ=>(∃i:Nat,m=(rdE (stI g x).2).length -i∧(i=0)∧σ=[eP 2 (rG g),eP 3 (rN x),eP 6 (rS (stI g x)),(.t 7,.v (.o (.c (nl)))),eD 15 (dCs (rdE (stI g x).2)),eN 16 ((rdE (stI g x).2).length:Nat),eN 17 (i:Nat)])∨(∃i:Nat,m=(rdE (stI g x).2).length -i∧(1≤i)∧(i≤(rdE (stI g x).2).length)∧σ=[eP 2 (rG g),eP 3 (rN x),eP 6 (rS (stI g x)),(.t 7,.v (.o (.c (.own 110 1 (i))))),eD 15 (dCs (rdE (stI g x).2)),eN 16 ((rdE (stI g x).2).length:Nat),eN 17 (i:Nat),(.b 110,.b 3 1 (dR (((rdE (stI g x).2).take i).map (fun a:Acc=>rI (cellG a x.2.2 g.1 0))))),eU 110])) [] (.inl ⟨0,rfl,rfl,rfl⟩) ⟨kd,kd,ks rfl (.c (.frzP _ _ _ _ _ _ _ _ rfl (show _=dR [rS (stI g x)]from rfl) rfl rfl rfl)),kd,kd,kd,kd,trivial⟩ ?_
  rintro m σ (⟨i,hm0,rfl,rfl⟩|⟨i,hm0,hi1,hi,rfl⟩)
  · skip
    refine .r<|.c .ls<|.nn<|.seq ?_
    refine .cD rfl (fun h18=>?_) (fun h18=>?_)
    · skip
      obtain⟨a,ha1⟩:∃x_,(rdE (stI g x).2)[0]?=some x_:=⟨_,List.getElem?_eq_getElem (by omega)⟩
      refine .skip<|ks_n<|.seq<|.block<|.r<|.c (.xL 59 2 40) ?_
      refine .c (.lN 2)<|.c (.al 109 [.string ByteArray.empty,.slice none 0 0])<|.c (.sT 2 true)<|.nn<|.region<|.c .m<|.c (.lN 2)<|.c (.bN 2)<|.c (.fP 2 0 false)<|.c (.l1 1) ?_
      refine .c (.cP [.tmp 22,.tmp 23,.tmp 25] rfl rfl rfl rfl (cell_fn hv (hr a (List.mem_of_getElem? ha1)) hpt.1 hpt.2) rfl) ?_
      refine .c (.li 3 0 0 [.tmp 26]) ?_
      refine .c (St1.appN (k':=128) (e:=3) (sz:=0) (by':=8) rfl rfl rfl rfl rfl (by kernel_rfl) rfl rfl rfl (by simp) (by first|(simp[dR];done)|(simp[dR];omega)) rfl rfl) ?_
      refine .c .a<|.nil<|kb_n<|ks_n<|.region<|.c .pl<|.c .m<|.nil ?_
      refine kl_k [(110,128)] (.inr ⟨1,rfl,by omega,by omega,rfl⟩) ⟨kd,kd,kd,kW,kd,kd,kd,kb 128 rfl (.dt rfl (by first|exact dR_take (fun a:Acc=>rI (cellG a x.2.2 g.1 0)) ha1|exact dR_take1 (fun a:Acc=>rI (cellG a x.2.2 g.1 0)) ha1|rfl|(simp[dR];done))),trivial⟩
    · skip
      have hn:usR g x=[]:=by rw[usR,List.eq_nil_of_length_eq_zero (show (rdE (stI g x).2).length=0 by omega)];rfl
      refine .exit<|ks_e<|kl_e<|kb_hit<|ks_n<|.r<|.c .m<|.c (.lN 2)<|.c (.fP 0 1 true)<|.c (.lN 2)<|.c (.fP 2 0 false)<|.c (.l1 1) ?_
      refine .c (.cP [.tmp 31,.tmp 33,.tmp 35] rfl rfl rfl rfl (cell_fn hv ha hpt.1 hpt.2) rfl) ?_
      refine .c .a<|.c .a<|.nn<|.ret ?_
      refine kf_wret [eD 4 (dIs (usR g x)),eN 5 (usW g x)] (Wk.keep [] rfl rfl ⟨ks rfl (.c (Cto.nilE 1 (by rw[hn];rfl))),kd,trivial⟩) rfl ?_ nobox
      rfl
  · skip
    refine .r<|.c .ls<|.nn<|.seq ?_
    refine .cD rfl (fun h18=>?_) (fun h18=>?_)
    · skip
      obtain⟨a,ha1⟩:∃x_,(rdE (stI g x).2)[i]?=some x_:=⟨_,List.getElem?_eq_getElem (by omega)⟩
      refine .skip<|ks_n<|.seq<|.block<|.r<|.c (.xL 59 2 40) ?_
      refine .c (.lN 2)<|.c (.al 109 [.string ByteArray.empty,.slice none 0 0])<|.c (.sT 2 true)<|.nn<|.region<|.c .m<|.c (.lN 2)<|.c (.bN 2)<|.c (.fP 2 0 false)<|.c (.l1 1) ?_
      refine .c (.cP [.tmp 22,.tmp 23,.tmp 25] rfl rfl rfl rfl (cell_fn hv (hr a (List.mem_of_getElem? ha1)) hpt.1 hpt.2) rfl) ?_
      refine .c (.li 3 0 0 [.tmp 26]) ?_
      refine .c (St1.appB (k':=128) (e:=3) (sz:=0) (by':=8) rfl rfl rfl rfl rfl (by kernel_rfl) rfl rfl rfl rfl (by first|(simp[dR];done)|(simp[dR];omega)) (by first|(simp[dR];done)|(simp[dR];omega)) rfl rfl rfl) ?_
      refine .c .a<|.nil<|kb_n<|ks_n<|.region<|.c .pl<|.c .m<|.nil ?_
      refine kl_k [(110,128)] (.inr ⟨i+1,rfl,by omega,by omega,rfl⟩) ⟨kd,kd,kd,kW,kd,kd,kd,kb 128 rfl (.dt rfl (by first|exact dR_take (fun a:Acc=>rI (cellG a x.2.2 g.1 0)) ha1|exact dR_take1 (fun a:Acc=>rI (cellG a x.2.2 g.1 0)) ha1|rfl|(simp[dR];done))),trivial⟩
    · skip
      obtain rfl:i=(rdE (stI g x).2).length:=by omega
      refine .exit<|ks_e<|kl_e<|kb_hit<|ks_n<|.r<|.c .m<|.c (.lN 2)<|.c (.fP 0 1 true)<|.c (.lN 2)<|.c (.fP 2 0 false)<|.c (.l1 1) ?_
      refine .c (.cP [.tmp 31,.tmp 33,.tmp 35] rfl rfl rfl rfl (cell_fn hv ha hpt.1 hpt.2) rfl) ?_
      refine .c .a<|.c .a<|.nn<|.ret ?_
      refine kf_wret [eD 4 (dIs (usR g x)),eN 5 (usW g x)] (Wk.keep [] rfl rfl ⟨ks rfl (.c (.fz rfl (by rw[List.take_length,usR,List.map_map];rfl) (by simp[usR]) (by omega))),kd,trivial⟩) rfl ?_ nobox
      rfl
theorem trace_no {g:Prg} (hs:szG g≤1073741824) (hV:prgV g=false):Fn Tryz.prog 43 [] [ad (rG g)] (.tup [.c (.d (.val (.pointer none))),bo1 false]) []:=by
 refine Fn.code0 Tryz.func43 rfl rfl rfl rfl ?_
 refine .r<|.c .bp<|.c .a<|.c .a<|.r<|.c (.lN 2) ?_
 refine .c (.cP [.tmp 12] rfl rfl rfl rfl (instances_fn hs) rfl) ?_
 refine .c .m<|.c .ex<|.c .ex<|.c .a<|.c .a<|.nn<|.seq<|.r<|.c .m<|.c .nt<|.nn ?_
 refine ACode.condT rfl (fun h17=>?_) (fun h17=>?_)
 ·try simp only[zs]at h17
  refine .r<|.c .a<|.c .a<|.nn<|.ret<|ks_r ?_
  refine kf_ret rfl ?_ nobox
  rfl
 ·try simp only[zs]at h17
  rw[hV]at h17;cases h17
theorem trace_fn {g:Prg} (hs:szG g≤1073741824) (hV:prgV g=true):Fn Tryz.prog 43 [] [ad (rG g)] (.tup [.c (.ptr (rT g)),bo1 true]) []:=by
 obtain⟨hS,hN,hL⟩:=prgV_s hV
 have hv:=(prgS_iff.1 hS).1
 refine Fn.code0 Tryz.func43 rfl rfl rfl rfl ?_
 refine .r<|.c .bp<|.c .a<|.c .a<|.r<|.c (.lN 2) ?_
 refine .c (.cP [.tmp 12] rfl rfl rfl rfl (instances_fn hs) rfl) ?_
 refine .c .m<|.c .ex<|.c .ex<|.c .a<|.c .a<|.nn<|.seq<|.r<|.c .m<|.c .nt<|.nn ?_
 refine ACode.condT rfl (fun h17=>?_) (fun h17=>?_)
 ·try simp only[zs]at h17
  rw[hV]at h17;cases h17
 ·try simp only[zs]at h17
  rw[hN]
  refine .skip<|ks_n<|.r<|.c (.lN 2)<|.c .m<|.c (.bu [(0,.tmp 18),(1,.tmp 19)] [(0,2),(2,1),(3,1),(4,1)] [.slice none 0 0,.slice none 0 0,.slice none 0 0,.slice none 0 0,.slice none 0 0]) ?_
  refine .c (St1.boxB (k':=121) rfl rfl rfl rfl rfl rfl rfl)<|.c .a<|.nn<|.seq<|.r<|.c .m<|.c (.ln 56 3 40)<|.c .m<|.nn<|.block ?_
  refine .loopK (fun m σ=>(∃i:Nat,m=(insG 0 g.2).length -i∧(i=0)∧σ=[eP 1 (rG g),eB 6 110 5,eD 22 (dNs (insG 0 g.2)),eN 23 ((insG 0 g.2).length:Nat),eN 24 (i:Nat),(.b 110,.b 91 5 [[.d (dRs g.1),.d (dPts g.2),.d (dNs (insG 0 g.2)),nl,nl]]),eU 110])∨(∃i:Nat,m=(insG 0 g.2).length -i∧(1≤i)∧(i≤(insG 0 g.2).length)∧σ=[eP 1 (rG g),eB 6 110 5,eD 22 (dNs (insG 0 g.2)),eN 23 ((insG 0 g.2).length:Nat),eN 24 (i:Nat),(.b 111,.b 43 1 (dR (((insG 0 g.2).take i).map (fun x=>rIs (usR g x))))),eU 111,(.b 112,.b 3 1 (dR (((insG 0 g.2).take i).map (fun x=>rI (usW g x))))),eU 112,(.b 110,.b 91 5 [[.d (dRs g.1),.d (dPts g.2),.d (dNs (insG 0 g.2)),.own 111 1 (i),.own 112 1 (i)]]),eU 110])) [(110,121)] (.inl ⟨0,rfl,rfl,rfl⟩) ⟨kd,kX,kd,kd,kd,kb 121 rfl (.cons (.cons .dt (.cons .dt (.cons .dt (.cons .dt (.cons .dt Ctos.nil))))) .nil),trivial⟩ ?_
  rintro m σ (⟨i,hm0,rfl,rfl⟩|⟨i,hm0,hi1,hi,rfl⟩)
  ·skip
   refine .r<|.c .ls<|.nn<|.seq ?_
   refine .cD rfl (fun h25=>?_) (fun h25=>?_)
   ·skip
    obtain⟨x,hx1⟩:∃x_,(insG 0 g.2)[0]?=some x_:=⟨_,List.getElem?_eq_getElem (by omega)⟩
    obtain⟨k,c,q,hI⟩:=ins_at hS (List.mem_of_getElem? hx1)
    have hsz:=stI_sz hI
    refine .skip<|ks_n<|.seq<|.block<|.r<|.c (.xL 56 3 40) ?_
    refine .c (.lN 3)<|.c (.al 108 [.int .i64 0,.int .i64 0,.slice none 0 0])<|.c (.sT 3 true)<|.r<|.c (.lN 2)<|.c (.bN 3) ?_
    refine .c (.cP [.tmp 29,.tmp 30] rfl rfl rfl rfl (touched_fn hv hI) rfl) ?_
    refine .c .m<|.c .ex<|.c .ex<|.c .a<|.c .a<|.nn ?_
    refine ACode.drawK (by kernel_rfl) (by kernel_rfl) ?_
    refine .c .m<|.c .m<|.c .m<|.c .nB<|.c (.fB 3 0 false)<|.c (.b1 1)<|.c .m<|.c (.li 43 0 0 [.tmp 40]) ?_
    refine .c (St1.appN (k':=142) (e:=43) (sz:=0) (by':=24) rfl rfl rfl rfl rfl (by kernel_rfl) rfl rfl rfl (by simp) (by first|(simp[dR];done)|(simp[dR];omega)) rfl rfl) ?_
    refine .c .m<|.c .nB<|.c (.fB 4 0 false)<|.c (.b1 1)<|.c .m<|.c (.li 3 0 0 [.tmp 47]) ?_
    refine .c (St1.appN (k':=149) (e:=3) (sz:=0) (by':=8) rfl rfl rfl rfl rfl (by kernel_rfl) rfl rfl rfl (by simp) (by first|(simp[dR];done)|(simp[dR];omega)) rfl rfl) ?_
    refine .c .nB<|.c (.fB 3 0 false)<|.c (.sT 1 false)<|.c .nB<|.c (.fB 4 0 false)<|.c (.sT 1 false) ?_
    refine .nil ⟨by kernel_rfl,?_⟩
    refine kb_n<|ks_n<|.region<|.c .pl<|.c .m<|.nil ?_
    refine kl_k [(110,110),(111,142),(112,149)] (.inr ⟨1,rfl,by omega,by omega,rfl⟩) ⟨kd,kX,kd,kd,kd,kb 142 rfl (.dt rfl (by first|exact dR_take (fun x=>rIs (usR g x)) hx1|exact dR_take1 (fun x=>rIs (usR g x)) hx1|rfl|(simp[dR];done))),kb 149 rfl (.dt rfl (by first|exact dR_take (fun x=>rI (usW g x)) hx1|exact dR_take1 (fun x=>rI (usW g x)) hx1|rfl|(simp[dR];done))),kb 110 rfl (.cons (.cons .dt (.cons .dt (.cons .dt (.cons .ow (.cons .ow Ctos.nil))))) .nil),trivial⟩
   ·skip
    have hn:insG 0 g.2=[]:=List.eq_nil_of_length_eq_zero (by omega)
    refine .exit<|ks_e<|kl_e<|kb_hit<|ks_n<|.seq ?_
    refine .keep [eB 6 810 5,(.b 810,.b 91 5 [[.d (dRs g.1),.d (dPts g.2),.d (dNs (insG 0 g.2)),.d (dPs (usRs g)),.d (dIs (usWs g))]]),eU 810] [(810,110)] ⟨kX,kb 110 rfl (.cons (.cons .dt (.cons .dt (.cons .dt (.cons (Cto.nilE 1 (by rw[usRs,hn];rfl)) (.cons (Cto.nilE 1 (by rw[usWs,hn];rfl)) Ctos.nil))))) .nil),trivial⟩ ?_
    refine .region<|.c .m<|.c .a<|.c .a<|.nn<|.ret ?_
    refine kf_wret [eP 2 (rT g),eT 3 true] (Wk.keep [] rfl rfl ⟨ks rfl (.c (.frzP _ _ _ _ _ _ _ _ rfl (show _=dR [rT g]from rfl) rfl rfl rfl)),kd,trivial⟩) rfl ?_ nobox
    rfl
  ·skip
   refine .r<|.c .ls<|.nn<|.seq ?_
   refine .cD rfl (fun h25=>?_) (fun h25=>?_)
   ·skip
    obtain⟨x,hx1⟩:∃x_,(insG 0 g.2)[i]?=some x_:=⟨_,List.getElem?_eq_getElem (by omega)⟩
    obtain⟨k,c,q,hI⟩:=ins_at hS (List.mem_of_getElem? hx1)
    have hsz:=stI_sz hI
    refine .skip<|ks_n<|.seq<|.block<|.r<|.c (.xL 56 3 40) ?_
    refine .c (.lN 3)<|.c (.al 108 [.int .i64 0,.int .i64 0,.slice none 0 0])<|.c (.sT 3 true)<|.r<|.c (.lN 2)<|.c (.bN 3) ?_
    refine .c (.cP [.tmp 29,.tmp 30] rfl rfl rfl rfl (touched_fn hv hI) rfl) ?_
    refine .c .m<|.c .ex<|.c .ex<|.c .a<|.c .a<|.nn ?_
    refine ACode.drawK (by kernel_rfl) (by kernel_rfl) ?_
    refine .c .m<|.c .m<|.c .m<|.c .nB<|.c (.fB 3 0 false)<|.c (.b1 1)<|.c .m<|.c (.li 43 0 0 [.tmp 40]) ?_
    refine .c (St1.appB (k':=142) (e:=43) (sz:=0) (by':=24) rfl rfl rfl rfl rfl (by kernel_rfl) rfl rfl rfl rfl (by first|(simp[dR];done)|(simp[dR];omega)) (by first|(simp[dR];done)|(simp[dR];omega)) rfl rfl rfl) ?_
    refine .c .m<|.c .nB<|.c (.fB 4 0 false)<|.c (.b1 1)<|.c .m<|.c (.li 3 0 0 [.tmp 47]) ?_
    refine .c (St1.appB (k':=149) (e:=3) (sz:=0) (by':=8) rfl rfl rfl rfl rfl (by kernel_rfl) rfl rfl rfl rfl (by first|(simp[dR];done)|(simp[dR];omega)) (by first|(simp[dR];done)|(simp[dR];omega)) rfl rfl rfl) ?_
    refine .c .nB<|.c (.fB 3 0 false)<|.c (.sT 1 false)<|.c .nB<|.c (.fB 4 0 false)<|.c (.sT 1 false) ?_
    refine .nil ⟨by kernel_rfl,?_⟩
    refine kb_n<|ks_n<|.region<|.c .pl<|.c .m<|.nil ?_
    refine kl_k [(110,110),(111,142),(112,149)] (.inr ⟨i+1,rfl,by omega,by omega,rfl⟩) ⟨kd,kX,kd,kd,kd,kb 142 rfl (.dt rfl (by first|exact dR_take (fun x=>rIs (usR g x)) hx1|exact dR_take1 (fun x=>rIs (usR g x)) hx1|rfl|(simp[dR];done))),kb 149 rfl (.dt rfl (by first|exact dR_take (fun x=>rI (usW g x)) hx1|exact dR_take1 (fun x=>rI (usW g x)) hx1|rfl|(simp[dR];done))),kb 110 rfl (.cons (.cons .dt (.cons .dt (.cons .dt (.cons .ow (.cons .ow Ctos.nil))))) .nil),trivial⟩
   ·skip
    obtain rfl:i=(insG 0 g.2).length:=by omega
    refine .exit<|ks_e<|kl_e<|kb_hit<|ks_n<|.seq ?_
    refine .keep [eB 6 810 5,(.b 810,.b 91 5 [[.d (dRs g.1),.d (dPts g.2),.d (dNs (insG 0 g.2)),.d (dPs (usRs g)),.d (dIs (usWs g))]]),eU 810] [(810,110)] ⟨kX,kb 110 rfl (.cons (.cons .dt (.cons .dt (.cons .dt (.cons (.fz rfl (by rw[List.take_length,usRs,List.map_map];rfl) (by simp[usRs]) (by omega)) (.cons (.fz rfl (by rw[List.take_length,usWs,List.map_map];rfl) (by simp[usWs]) (by omega)) Ctos.nil))))) .nil),trivial⟩ ?_
    refine .region<|.c .m<|.c .a<|.c .a<|.nn<|.ret ?_
    refine kf_wret [eP 2 (rT g),eT 3 true] (Wk.keep [] rfl rfl ⟨ks rfl (.c (.frzP _ _ _ _ _ _ _ _ rfl (show _=dR [rT g]from rfl) rfl rfl rfl)),kd,trivial⟩) rfl ?_ nobox
    rfl
theorem l6Uses_fn {g:Prg} (hs:szG g≤1073741824) (hS:prgS g=true):Fn Tryz.prog 81 [] [ad (rG g)] (.o (vD (dUs (usL g)))) []:=by
 have hL:=insG_len hS
 have hv:=(prgS_iff.1 hS).1
 refine Fn.code0 Tryz.func81 rfl rfl rfl rfl ?_
 refine .r<|.c .bp<|.c .a<|.r ?_
 refine .c (St1.lit0 (k':=109) (e:=134) (sz:=2) (b:=true) rfl rfl rfl rfl (by kernel_rfl) rfl rfl) ?_
 refine .c .a<|.r<|.c (.lN 2) ?_
 refine .c (.cP [.tmp 10] rfl rfl rfl rfl (l4Instances_fn hS) rfl) ?_
 refine .c .a<|.nn<|.seq<|.r<|.c .a<|.nn<|.block ?_
 refine .loopK (fun m σ=>(∃i:Nat,m=(insG 0 g.2).length -i∧(i≤(insG 0 g.2).length)∧(True)∧σ=[eP 1 (rG g),(.t 3,.v (.o (.c (.own 110 2 (i))))),eD 4 (dNs (insG 0 g.2)),eN 5 (i:Nat),(.b 110,.b 134 2 (dR (((insG 0 g.2).take i).map (fun x=>rU (usG g x))))),eU 110])) [(110,109)] ⟨0,rfl,by omega,trivial,rfl⟩ ⟨kd,kW,kd,kd,kb 109 rfl (.dt rfl (by first|exact dR_take (fun x=>rU (usG g x)) hx1|exact dR_take1 (fun x=>rU (usG g x)) hx1|rfl|(simp[dR];done))),trivial⟩ ?_
 rintro m σ ⟨i,hm0,hi,hF,rfl⟩
 refine .seq<|.r<|.c .m<|.c .m<|.c (.ln 56 3 40)<|.c .ls<|.nn ?_
 refine .cD rfl (fun h15=>?_) (fun h15=>?_)
 ·skip
  obtain⟨x,hx1⟩:∃x_,(insG 0 g.2)[i]?=some x_:=⟨_,List.getElem?_eq_getElem (by omega)⟩
  obtain⟨k,c,q,hI⟩:=ins_at hS (List.mem_of_getElem? hx1)
  have hsz:=stI_sz hI
  have hpt:=npR_pt hI.pt
  obtain⟨hC,hW⟩:=cls_yes hI.ok
  refine .skip<|ks_n<|.seq<|.block<|.seq ?_
  refine ACode.drawK (by kernel_rfl) (by kernel_rfl) ?_
  refine .c (.fP 0 0 false)<|.c (.l1 1)<|.c (.fP 1 0 false)<|.c (.l1 1)<|.c .m<|.c .m<|.c (.xL 56 3 40) ?_
  refine .c (.fP 0 0 false)<|.c (.l1 1) ?_
  refine .c (.xL 80 2 48 (i:=k) rfl rfl rfl rfl hI.e1 (map_at hI.hq)) ?_
  refine .c (.fP 1 0 false)<|.c (.l1 1)<|.c .m<|.c .m<|.c (.xL 56 3 40) ?_
  refine .c (.fP 1 0 false)<|.c (.l1 1) ?_
  refine .c (.xL 66 9 152 (i:=c) rfl rfl rfl rfl hI.e2 (map_at hI.hs)) ?_
  refine .c (.lN 9)<|.c .m<|.c .m<|.c (.xL 56 3 40) ?_
  refine .c (.fP 2 0 false)<|.c (.l1 1) ?_
  refine .c (.cP [.tmp 20,.tmp 37,.tmp 42] rfl rfl rfl rfl (l4Cells_fn hv hI.sv (by omega) hpt.1 hpt.2) rfl) ?_
  refine .c .m<|.c .ex<|.c .ex<|.c .ex<|.c .a<|.c .a<|.c .a ?_
  refine .nil ⟨by kernel_rfl,?_⟩
  refine ks_n ?_
  refine .keep [eP 1 (rG g),(.t 3,.v (.o (.c (.own 770 2 (i))))),eD 4 (dNs (insG 0 g.2)),eN 5 (i:Nat),eD 6 (dIs (usR g x)),eN 7 (usW g x),(.b 770,.b 134 2 (dR (((insG 0 g.2).take i).map (fun x=>rU (usG g x))))),eU 770] [(770,110)] ⟨kd,kW,kd,kd,ks rfl (.dt (by rw[hC];rfl)),ks rfl (.dt (by rw[hW];rfl)),kb 110 rfl (.dt rfl (by first|exact dR_take (fun x=>rU (usG g x)) hx1|exact dR_take1 (fun x=>rU (usG g x)) hx1|rfl|(simp[dR];done))),trivial⟩ ?_
  refine .region<|.c .m<|.c .m<|.c .m<|.c (.bu [(0,.tmp 48),(1,.tmp 49)] [(0,1),(1,1)] [.slice none 0 0,.int .i64 0])<|.c (.li 134 1 0 [.tmp 50]) ?_
  refine .c (St1.appB (k':=152) (e:=134) (sz:=1) (by':=32) rfl rfl rfl rfl rfl (by kernel_rfl) rfl rfl rfl rfl (by first|(simp[dR];done)|(simp[dR];omega)) (by first|(simp[dR];done)|(simp[dR];omega)) rfl rfl rfl) ?_
  refine .c .a<|.nil<|kb_n<|ks_n<|.region<|.c .m<|.c .pl<|.c .a<|.nil ?_
  refine kl_k [(110,152)] ⟨i+1,rfl,by omega,trivial,rfl⟩ ⟨kd,kW,kd,kd,kb 152 rfl (.dt rfl (by first|exact dR_take (fun x=>rU (usG g x)) hx1|exact dR_take1 (fun x=>rU (usG g x)) hx1|rfl|(simp[dR];done))),trivial⟩
 ·skip
  obtain rfl:i=(insG 0 g.2).length:=by omega
  refine .exit<|ks_e<|kl_e<|kb_hit<|ks_n<|.r<|.c .m<|.c .a<|.nn<|.ret ?_
  refine kf_wret [eD 2 (dUs (usL g))] (Wk.keep [] rfl rfl ⟨ks rfl (.c (.fz rfl (by rw[List.take_length,usL,List.map_map];rfl) (by simp[usL]) (by omega))),trivial⟩) rfl ?_ nobox
  rfl
theorem l5Flagged_fn (l:List Bool) (hl:l.length≤1000000):Fn Tryz.prog 83 [] [vD (dBs l)] (.o (vD (dIs (flagV l)))) []:=by
 refine Fn.code0 Tryz.func83 rfl rfl rfl rfl ?_
 refine .r<|.c .a<|.r ?_
 refine .c (St1.lit0 (k':=105) (e:=3) (sz:=1) (b:=true) rfl rfl rfl rfl (by kernel_rfl) rfl rfl) ?_
 refine .c .a<|.nn<|.seq<|.r<|.c .a<|.nn<|.block ?_
 refine .loopK (fun m σ=>(∃(i:Nat) (o:List Int),m=l.length -i∧(i≤l.length)∧(flagN l i=o)∧(o.length≤i)∧σ=[eD 0 (dBs l),(.t 3,.v (.o (.c (.own 110 1 (o.length))))),eN 4 (i:Nat),(.b 110,.b 3 1 (dR (o.map rI))),eU 110])) [(110,105)] ⟨0,[],rfl,by omega,rfl,by simp,rfl⟩ ⟨kd,kW,kd,kb 105 rfl (.dt rfl (by first|rfl|(simp[dR,rI,dI];done)|(simp[dR,rI];done)|(simp[dR];rfl))),trivial⟩ ?_
 rintro m σ ⟨i,o,hm0,hi,hE,ho,rfl⟩
 refine .seq<|.r<|.c .m<|.c .m<|.c (.ln 4 1 1)<|.c .ls<|.nn ?_
 refine .cD rfl (fun h9=>?_) (fun h9=>?_)
 ·skip
  obtain⟨b,hb1⟩:∃x_,l[i]?=some x_:=⟨_,List.getElem?_eq_getElem (by omega)⟩
  refine .skip<|ks_n<|.seq<|.block<|.r<|.c .m<|.c .m ?_
  refine .c (.xL 4 1 1 rfl rfl rfl rfl rfl (map_at hb1)) ?_
  refine .c (.l1 1)<|.nn ?_
  refine ACode.condT rfl (fun h15=>?_) (fun h15=>?_)
  ·try simp only[zs]at h15
   refine .region<|.c .m<|.c .m<|.c (.li 3 0 0 [.tmp 17]) ?_
   refine .c (St1.appB (k':=119) (e:=3) (sz:=0) (by':=8) rfl rfl rfl rfl rfl (by kernel_rfl) rfl rfl rfl rfl (by first|(simp[dR];done)|(simp[dR];omega)) (by first|(simp[dR];done)|(simp[dR];omega)) rfl rfl rfl) ?_
   refine .c .a<|.nil<|kb_n<|ks_n<|.region<|.c .m<|.c .pl<|.c .a<|.nil ?_
   refine kl_k [(110,119)] ⟨i+1,o++[(i:Int)],rfl,by omega,by rw[flagN_next hb1,if_pos h15,hE],by rw[List.length_append,List.length_singleton];omega,rfl⟩ ⟨kd,kW,kd,kb 119 rfl (.dt rfl (by first|rfl|(simp[dR,rI,dI];done)|(simp[dR,rI];done)|(simp[dR];rfl))),trivial⟩
  ·try simp only[zs]at h15
   refine .skip<|kb_n<|ks_n<|.region<|.c .m<|.c .pl<|.c .a<|.nil ?_
   refine kl_k [(110,110)] ⟨i+1,o,rfl,by omega,by rw[flagN_next hb1,if_neg (by rw[h15];simp),hE],by omega,rfl⟩ ⟨kd,kW,kd,kb 110 rfl (.dt rfl (by first|rfl|(simp[dR,rI,dI];done)|(simp[dR,rI];done)|(simp[dR];rfl))),trivial⟩
 ·skip
  obtain rfl:i=l.length:=by omega
  refine .exit<|ks_e<|kl_e<|kb_hit<|ks_n<|.r<|.c .m<|.c .a<|.nn<|.ret ?_
  refine kf_wret [eD 2 (dIs (flagV l))] (Wk.keep [] rfl rfl ⟨ks rfl (.c (.fz rfl (by rw[flagV,hE]) (by rw[flagV,hE,List.length_map]) (by omega))),trivial⟩) rfl ?_ nobox
  rfl
theorem isPart_fn {g:Prg} (hl:g.2.length≤1099511627776) (n:Int):Fn Tryz.prog 44 [] [ad (rG g),nat1 n] (.o (bo1 (inB n 0 ((g.2.length:Nat) -1)))) []:=by
  refine Fn.code0 Tryz.func44 rfl rfl rfl rfl ?_
  refine .r<|.c .bp<|.c .a<|.r<|.c .m<|.c (.fP 1 0 false)<|.c (.l1 1)<|.c (.ln 80 2 48)<|.c .sb ?_
  refine .c (.cP [.tmp 5,.const (.int .i64 (0)),.tmp 9] rfl rfl rfl rfl (within_fn _ 0 _) rfl) ?_
  refine .c .a<|.nn<|.ret ?_
  refine kf_ret rfl ?_ nobox
  rfl
theorem tagRs_ext {F:Nat→Nat→Nat→Prop} {l:List (List D)} {m:List (List D)} (hl:m.length=l.length) (h:∀(q:Nat) r,l[q]?=some r→m[q]?=some (tagL (F q) 0 r)):m=tagRs F 0 l:=by
  refine List.ext_getElem? fun q=>?_
  cases hq:l[q]? with
  |some r=>rw[h q r hq,tagRs_at hq,Nat.zero_add]
  |none=>
    rw[List.getElem?_eq_none_iff]at hq
    rw[List.getElem?_eq_none (by omega),List.getElem?_eq_none (by rw[tagRs_len];omega)]
theorem FD.sub {U U' L:Nat→Prop} {n:Nat} {F:Nat→Nat→Nat→Prop} (h:FD U L n F) (hs:∀b,U' b→U b):FD U' L n F:=⟨h.dis,fun a c b ha hc h1 h2=>h.out a c b ha hc h1 (hs b h2)⟩
theorem l4Copy_fn (g:Prg) (h1:g.1.length≤1073741824) (h2:g.2.length≤1073741824) (hA:∀x∈g.1,x.2.length≤1073741824) (hP:∀x∈g.2,smN x.1∧x.2.length≤1073741824∧∀y∈x.2,szS y≤1073741824):Fn Tryz.prog 21 [] [ad (rG g)] (.o (ad (rG g))) []:=by
 refine Fn.code0 Tryz.func21 rfl rfl rfl rfl ?_
 refine .r<|.c .bp<|.c (.al 102 [.slice none 0 0,.slice none 0 0])<|.r<|.c (.bu [] [(0,1),(1,1)] [.slice none 0 0,.slice none 0 0])<|.c (.al 103 [.slice none 0 0,.slice none 0 0])<|.c (.sT 2 true)<|.nn<|.seq<|.r<|.c .a<|.nn<|.block ?_
 refine .loopK (fun m σ=>(∃i:Nat,m=g.1.length -i∧(i=0)∧σ=[eP 1 (rG g),eB 2 110 2,eB 3 111 2,eN 4 (i:Nat),(.b 110,.b 30 2 [[nl,nl]]),eU 110,(.b 111,.b 30 2 [[nl,nl]]),eU 111])∨(∃i:Nat,m=g.1.length -i∧(1≤i)∧(i≤g.1.length)∧σ=[eP 1 (rG g),eB 2 110 2,eB 3 111 2,eN 4 (i:Nat),(.b 110,.b 30 2 [[nl,nl]]),eU 110,(.b 112,.b 45 2 (dR ((g.1.take i).map rR))),eU 112,(.b 111,.b 30 2 [[.own 112 2 (i),nl]]),eU 111])) [(110,102),(111,103)] (.inl ⟨0,rfl,rfl,rfl⟩) ⟨kd,kX,kX,kd,kb 102 rfl (.r2 .dt .dt),kb 103 rfl (.r2 .dt .dt),trivial⟩ ?_
 rintro m σ (⟨i,hm0,rfl,rfl⟩|⟨i,hm0,hi1,hi2,rfl⟩)
 ·skip
  refine .seq<|.r<|.c .m<|.c (.fP 0 0 false)<|.c (.l1 1)<|.c (.ln 45 2 40)<|.c .ls<|.nn ?_
  refine .cD rfl (fun h13=>?_) (fun h13=>?_)
  ·skip
   obtain⟨x,hx1⟩:∃u,g.1[0]?=some u:=⟨_,List.getElem?_eq_getElem (by omega)⟩
   have hxb:=hA _ (List.mem_of_getElem? hx1)
   refine .skip<|ks_n<|.seq<|.block ?_
   refine ACode.drawK (by kernel_rfl) (by kernel_rfl) ?_
   refine .c (.fB 0 0 false)<|.c (.b1 1)<|.c (.fP 0 0 false)<|.c (.l1 1)<|.c .m ?_
   refine .c (.xL 45 2 40 rfl rfl rfl rfl rfl (map_at hx1)) ?_
   refine .c (.fP 0 0 false)<|.c (.l1 1) ?_
   refine .c (St1.lit0 (k':=124) (e:=3) (sz:=1) (b:=true) rfl rfl rfl rfl (by kernel_rfl) rfl rfl) ?_
   refine .c (.fP 0 0 false)<|.c (.l1 1)<|.c .m ?_
   refine .c (.xL 45 2 40 rfl rfl rfl rfl rfl (map_at hx1)) ?_
   refine .c (.fP 1 0 false)<|.c (.l1 1) ?_
   refine .c (St1.appD (rows:=[]) (e:=3) (sz:=0) (by':=8) rfl rfl rfl rfl rfl (by kernel_rfl) rfl rfl rfl rfl rfl (by simp;omega) rfl) ?_
   refine .c (.bu [(0,.tmp 23),(1,.tmp 31)] [(0,1),(1,1)] [.string ByteArray.empty,.slice none 0 0])<|.c (.li 45 1 0 [.tmp 32]) ?_
   refine .c (St1.appN (k':=134) (e:=45) (sz:=1) (by':=40) rfl rfl rfl rfl rfl (by kernel_rfl) rfl rfl rfl (by simp) (by first|(simp[dR];done)|(simp[dR];omega)) rfl rfl) ?_
   refine .c (.fB 0 0 false)<|.c (.sT 1 false) ?_
   refine .nil ⟨by kernel_rfl,?_⟩
   refine kb_n<|ks_n<|.region<|.c .m<|.c .pl<|.c .a<|.nil ?_
   refine kl_k [(110,110),(111,111),(112,134)] (.inr ⟨1,rfl,by omega,by omega,rfl⟩) ⟨kd,kX,kX,kd,kb 110 rfl (.r2 .dt .dt),kb 134 rfl (.dt rfl (by first|exact dR_take (rR) hx1|exact dR_take1 (rR) hx1|rfl|(simp[dR];done))),kb 111 rfl (.r2 .ow .dt),trivial⟩
  ·skip
   have hnA:g.1=[]:=List.eq_nil_of_length_eq_zero (by omega)
   refine .exit<|ks_e<|kl_e<|kb_hit<|ks_n<|.seq<|.seq ?_
   refine .keep [eP 1 (rG g),eB 2 760 2,eB 3 761 2,(.b 760,.b 30 2 [[nl,nl]]),eU 760,(.b 761,.b 30 2 [[.d (dRs g.1),nl]]),eU 761] [(760,110),(761,111)] ⟨kd,kX,kX,kb 110 rfl (.r2 .dt .dt),kb 111 rfl (.r2 (Cto.nilE 2 (by rw[hnA];rfl)) .dt),trivial⟩ ?_
   refine .region<|.c .a<|.nn<|.block ?_
   refine .loopK (fun m σ=>(∃j:Nat,m=g.2.length -j∧(j=0)∧σ=[eP 1 (rG g),eB 2 120 2,eB 3 121 2,eN 5 (j:Nat),(.b 120,.b 30 2 [[nl,nl]]),eU 120,(.b 121,.b 30 2 [[.d (dRs g.1),nl]]),eU 121])∨(∃j:Nat,m=g.2.length -j∧(1≤j)∧(j≤g.2.length)∧σ=[eP 1 (rG g),eB 2 120 2,eB 3 121 2,eN 5 (j:Nat),(.b 120,.b 30 2 [[nl,nl]]),eU 120,(.b 122,.b 80 2 (dR ((g.2.take j).map rP))),eU 122,(.b 121,.b 30 2 [[.d (dRs g.1),.own 122 2 (j)]]),eU 121])) [(120,760),(121,761)] (.inl ⟨0,rfl,rfl,rfl⟩) ⟨kd,kX,kX,kd,kb 760 rfl (.r2 .dt .dt),kb 761 rfl (.r2 .dt .dt),trivial⟩ ?_
   rintro m σ (⟨j,hm0,rfl,rfl⟩|⟨j,hm0,hj1,hj2,rfl⟩)
   ·skip
    refine .seq<|.r<|.c .m<|.c (.fP 1 0 false)<|.c (.l1 1)<|.c (.ln 80 2 48)<|.c .ls<|.nn ?_
    refine .cD rfl (fun h40=>?_) (fun h40=>?_)
    ·skip
     obtain⟨x,hx1⟩:∃u,g.2[0]?=some u:=⟨_,List.getElem?_eq_getElem (by omega)⟩
     obtain⟨hsm,hpb,hps⟩:=hP _ (List.mem_of_getElem? hx1)
     have hsl:=hsm.1
     refine .skip<|ks_n<|.seq<|.block<|.r<|.c (.fP 1 0 false)<|.c (.l1 1)<|.c .m ?_
     refine .c (.xL 80 2 48 rfl rfl rfl rfl rfl (map_at hx1)) ?_
     refine .c (.fP 0 0 false)<|.c (.l1 1) ?_
     refine .c (.cO [.tmp 48] [(100,149)] rfl rfl rfl rfl (l2Copy_own (hP x (List.mem_of_getElem? hx1)).1) rfl trivial flatS.nil (flatS.nil.cons rfl) HB.nil.data outS_one) ?_
     refine .c (.bu [(0,.tmp 49)] [(0,1),(1,1)] [.slice none 0 0,.slice none 0 0])<|.c (.al 106 [.slice none 0 0,.slice none 0 0])<|.c (.sT 2 true)<|.nn<|.seq<|.r<|.c .a<|.nn<|.block ?_
     refine .loopK (fun m σ=>(∃k:Nat,m=x.2.length -k∧(k=0)∧σ=[eP 1 (rG g),eB 2 130 2,eB 3 131 2,eN 5 (0:Nat),eB 6 132 2,eN 7 (k:Nat),(.b 130,.b 30 2 [[nl,nl]]),eU 130,(.b 131,.b 30 2 [[.d (dRs g.1),nl]]),eU 131,(.b 133,.b 148 2 (dR (x.1.map rL))),eU 133,(.b 132,.b 80 2 [[.own 133 2 (x.1.length),nl]]),eU 132])∨(∃k:Nat,m=x.2.length -k∧(1≤k)∧(k≤x.2.length)∧σ=[eP 1 (rG g),eB 2 130 2,eB 3 131 2,eN 5 (0:Nat),eB 6 132 2,eN 7 (k:Nat),(.b 130,.b 30 2 [[nl,nl]]),eU 130,(.b 131,.b 30 2 [[.d (dRs g.1),nl]]),eU 131,(.b 133,.b 148 2 (dR (x.1.map rL))),eU 133,(.b 134,.b 66 9 (dR ((x.2.take k).map rS))),eU 134,(.b 132,.b 80 2 [[.own 133 2 (x.1.length),.own 134 9 (k)]]),eU 132])) [(130,120),(131,121),(132,106),(133,149)] (.inl ⟨0,rfl,rfl,rfl⟩) ⟨kd,kX,kX,kd,kX,kd,kb 120 rfl (.r2 .dt .dt),kb 121 rfl (.r2 .dt .dt),kb 149 rfl (.dt rfl),kb 106 rfl (.r2 .ow .dt),trivial⟩ ?_
     rintro m σ (⟨k,hm0,rfl,rfl⟩|⟨k,hm0,hk1,hk2,rfl⟩)
     ·skip
      refine .seq<|.r<|.c .m<|.c (.fP 1 0 false)<|.c (.l1 1)<|.c .m ?_
      refine .c (.xL 80 2 48 rfl rfl rfl rfl rfl (map_at hx1)) ?_
      refine .c (.fP 1 0 false)<|.c (.l1 1)<|.c (.ln 66 9 152)<|.c .ls<|.nn ?_
      refine .cD rfl (fun h59=>?_) (fun h59=>?_)
      ·skip
       obtain⟨y,hy1⟩:∃u,x.2[0]?=some u:=⟨_,List.getElem?_eq_getElem (by omega)⟩
       refine .skip<|ks_n<|.seq<|.block ?_
       refine ACode.drawK (by kernel_rfl) (by kernel_rfl) ?_
       refine .c (.fB 1 0 false)<|.c (.b1 1)<|.c (.fP 1 0 false)<|.c (.l1 1)<|.c .m ?_
       refine .c (.xL 80 2 48 rfl rfl rfl rfl rfl (map_at hx1)) ?_
       refine .c (.fP 1 0 false)<|.c (.l1 1)<|.c .m ?_
       refine .c (.xL 66 9 152 rfl rfl rfl rfl rfl (map_at hy1)) ?_
       refine .c (.lN 9) ?_
       refine .c (.cP [.tmp 72] rfl rfl rfl rfl (l3Copy_fn y ((hP x (List.mem_of_getElem? hx1)).2.2 y (List.mem_of_getElem? hy1))) rfl) ?_
       refine .c (.li 66 8 0 [.tmp 73]) ?_
       refine .c (St1.appN (k':=175) (e:=66) (sz:=8) (by':=152) rfl rfl rfl rfl rfl (by kernel_rfl) rfl rfl rfl (by simp) (by first|(simp[dR];done)|(simp[dR];omega)) rfl rfl) ?_
       refine .c (.fB 1 0 false)<|.c (.sT 1 false) ?_
       refine .nil ⟨by kernel_rfl,?_⟩
       refine kb_n<|ks_n<|.region<|.c .m<|.c .pl<|.c .a<|.nil ?_
       refine kl_k [(130,130),(131,131),(132,132),(133,133),(134,175)] (.inr ⟨1,rfl,by omega,by omega,rfl⟩) ⟨kd,kX,kX,kd,kX,kd,kb 130 rfl (.r2 .dt .dt),kb 131 rfl (.r2 .dt .dt),kb 133 rfl (.dt rfl),kb 175 rfl (.dt rfl (by first|exact dR_take (rS) hy1|exact dR_take1 (rS) hy1|rfl|(simp[dR];done))),kb 132 rfl (.r2 .ow .ow),trivial⟩
      ·skip
       have hnS:x.2=[]:=List.eq_nil_of_length_eq_zero (by omega)
       refine .exit<|ks_e<|kl_e<|kb_hit<|ks_n ?_
       refine .keep [eP 1 (rG g),eB 2 840 2,eB 3 841 2,eN 5 (0:Nat),eB 6 842 2,(.b 840,.b 30 2 [[nl,nl]]),eU 840,(.b 841,.b 30 2 [[.d (dRs g.1),nl]]),eU 841,(.b 842,.b 80 2 [[.d (dLs x.1),.d (dMs x.2)]]),eU 842] [(840,130),(841,131),(842,132)] ⟨kd,kX,kX,kd,kX,kb 130 rfl (.r2 .dt .dt),kb 131 rfl (.r2 .dt .dt),kb 132 rfl (.r2 (.fz rfl (by first|rfl|(rw[List.take_length];done)|(rw[List.take_length];rfl)) (by first|rfl|(simp;done)|(simp;omega)) (by omega)) (Cto.nilE 9 (by rw[hnS];rfl))),trivial⟩ ?_
       refine .region<|.c (.fB 1 0 false)<|.c (.b1 1)<|.c (.bN 2)<|.c (.li 80 1 0 [.tmp 79]) ?_
       refine .c (St1.appN (k':=181) (e:=80) (sz:=1) (by':=48) rfl rfl rfl rfl rfl (by kernel_rfl) rfl rfl rfl (by simp) (by first|(simp[dR];done)|(simp[dR];omega)) rfl rfl) ?_
       refine .c (.fB 1 0 false)<|.c (.sT 1 false)<|.nil<|kb_n<|ks_n<|.region<|.c .m<|.c .pl<|.c .a<|.nil ?_
       refine kl_k [(120,840),(121,841),(122,181)] (.inr ⟨1,rfl,by omega,by omega,rfl⟩) ⟨kd,kX,kX,kd,kb 840 rfl (.r2 .dt .dt),kb 181 rfl (.dt rfl (by first|exact dR_take (rP) hx1|exact dR_take1 (rP) hx1|rfl|(simp[dR];done))),kb 841 rfl (.r2 .dt .ow),trivial⟩
     ·skip
      refine .seq<|.r<|.c .m<|.c (.fP 1 0 false)<|.c (.l1 1)<|.c .m ?_
      refine .c (.xL 80 2 48 rfl rfl rfl rfl rfl (map_at hx1)) ?_
      refine .c (.fP 1 0 false)<|.c (.l1 1)<|.c (.ln 66 9 152)<|.c .ls<|.nn ?_
      refine .cD rfl (fun h59=>?_) (fun h59=>?_)
      ·skip
       obtain⟨y,hy1⟩:∃u,x.2[k]?=some u:=⟨_,List.getElem?_eq_getElem (by omega)⟩
       refine .skip<|ks_n<|.seq<|.block ?_
       refine ACode.drawK (by kernel_rfl) (by kernel_rfl) ?_
       refine .c (.fB 1 0 false)<|.c (.b1 1)<|.c (.fP 1 0 false)<|.c (.l1 1)<|.c .m ?_
       refine .c (.xL 80 2 48 rfl rfl rfl rfl rfl (map_at hx1)) ?_
       refine .c (.fP 1 0 false)<|.c (.l1 1)<|.c .m ?_
       refine .c (.xL 66 9 152 rfl rfl rfl rfl rfl (map_at hy1)) ?_
       refine .c (.lN 9) ?_
       refine .c (.cP [.tmp 72] rfl rfl rfl rfl (l3Copy_fn y ((hP x (List.mem_of_getElem? hx1)).2.2 y (List.mem_of_getElem? hy1))) rfl) ?_
       refine .c (.li 66 8 0 [.tmp 73]) ?_
       refine .c (St1.appB (k':=175) (e:=66) (sz:=8) (by':=152) rfl rfl rfl rfl rfl (by kernel_rfl) rfl rfl rfl rfl (by first|(simp[dR];done)|(simp[dR];omega)) (by first|(simp[dR];done)|(simp[dR];omega)) rfl rfl rfl) ?_
       refine .c (.fB 1 0 false)<|.c (.sT 1 false) ?_
       refine .nil ⟨by kernel_rfl,?_⟩
       refine kb_n<|ks_n<|.region<|.c .m<|.c .pl<|.c .a<|.nil ?_
       refine kl_k [(130,130),(131,131),(132,132),(133,133),(134,175)] (.inr ⟨k+1,rfl,by omega,by omega,rfl⟩) ⟨kd,kX,kX,kd,kX,kd,kb 130 rfl (.r2 .dt .dt),kb 131 rfl (.r2 .dt .dt),kb 133 rfl (.dt rfl),kb 175 rfl (.dt rfl (by first|exact dR_take (rS) hy1|exact dR_take1 (rS) hy1|rfl|(simp[dR];done))),kb 132 rfl (.r2 .ow .ow),trivial⟩
      ·skip
       obtain rfl:k=x.2.length:=by omega
       refine .exit<|ks_e<|kl_e<|kb_hit<|ks_n ?_
       refine .keep [eP 1 (rG g),eB 2 840 2,eB 3 841 2,eN 5 (0:Nat),eB 6 842 2,(.b 840,.b 30 2 [[nl,nl]]),eU 840,(.b 841,.b 30 2 [[.d (dRs g.1),nl]]),eU 841,(.b 842,.b 80 2 [[.d (dLs x.1),.d (dMs x.2)]]),eU 842] [(840,130),(841,131),(842,132)] ⟨kd,kX,kX,kd,kX,kb 130 rfl (.r2 .dt .dt),kb 131 rfl (.r2 .dt .dt),kb 132 rfl (.r2 (.fz rfl (by first|rfl|(rw[List.take_length];done)|(rw[List.take_length];rfl)) (by first|rfl|(simp;done)|(simp;omega)) (by omega)) (.fz rfl (by first|rfl|(rw[List.take_length];done)|(rw[List.take_length];rfl)) (by first|rfl|(simp;done)|(simp;omega)) (by omega))),trivial⟩ ?_
       refine .region<|.c (.fB 1 0 false)<|.c (.b1 1)<|.c (.bN 2)<|.c (.li 80 1 0 [.tmp 79]) ?_
       refine .c (St1.appN (k':=181) (e:=80) (sz:=1) (by':=48) rfl rfl rfl rfl rfl (by kernel_rfl) rfl rfl rfl (by simp) (by first|(simp[dR];done)|(simp[dR];omega)) rfl rfl) ?_
       refine .c (.fB 1 0 false)<|.c (.sT 1 false)<|.nil<|kb_n<|ks_n<|.region<|.c .m<|.c .pl<|.c .a<|.nil ?_
       refine kl_k [(120,840),(121,841),(122,181)] (.inr ⟨1,rfl,by omega,by omega,rfl⟩) ⟨kd,kX,kX,kd,kb 840 rfl (.r2 .dt .dt),kb 181 rfl (.dt rfl (by first|exact dR_take (rP) hx1|exact dR_take1 (rP) hx1|rfl|(simp[dR];done))),kb 841 rfl (.r2 .dt .ow),trivial⟩
    ·skip
     have hnP:g.2=[]:=List.eq_nil_of_length_eq_zero (by omega)
     refine .exit<|ks_e<|kl_e<|kb_hit<|ks_n<|.r<|.c (.bN 2)<|.c (.sT 2 true)<|.nn<|.ret ?_
     refine kf_wret [eB 2 100 2,(.b 100,.b 30 2 [[.d (dRs g.1),.d (dPts g.2)]]),eU 100] (Wk.keep [(100,120)] rfl rfl ⟨kX,kb 120 rfl (.r2 .dt (Cto.nilE 2 (by rw[hnP];rfl))),trivial⟩) rfl ?_ nobox
     rfl
   ·skip
    refine .seq<|.r<|.c .m<|.c (.fP 1 0 false)<|.c (.l1 1)<|.c (.ln 80 2 48)<|.c .ls<|.nn ?_
    refine .cD rfl (fun h40=>?_) (fun h40=>?_)
    ·skip
     obtain⟨x,hx1⟩:∃u,g.2[j]?=some u:=⟨_,List.getElem?_eq_getElem (by omega)⟩
     obtain⟨hsm,hpb,hps⟩:=hP _ (List.mem_of_getElem? hx1)
     have hsl:=hsm.1
     refine .skip<|ks_n<|.seq<|.block<|.r<|.c (.fP 1 0 false)<|.c (.l1 1)<|.c .m ?_
     refine .c (.xL 80 2 48 rfl rfl rfl rfl rfl (map_at hx1)) ?_
     refine .c (.fP 0 0 false)<|.c (.l1 1) ?_
     refine .c (.cO [.tmp 48] [(100,149)] rfl rfl rfl rfl (l2Copy_own (hP x (List.mem_of_getElem? hx1)).1) rfl trivial flatS.nil (flatS.nil.cons rfl) HB.nil.data outS_one) ?_
     refine .c (.bu [(0,.tmp 49)] [(0,1),(1,1)] [.slice none 0 0,.slice none 0 0])<|.c (.al 106 [.slice none 0 0,.slice none 0 0])<|.c (.sT 2 true)<|.nn<|.seq<|.r<|.c .a<|.nn<|.block ?_
     refine .loopK (fun m σ=>(∃k:Nat,m=x.2.length -k∧(k=0)∧σ=[eP 1 (rG g),eB 2 130 2,eB 3 131 2,eN 5 (j:Nat),eB 6 133 2,eN 7 (k:Nat),(.b 130,.b 30 2 [[nl,nl]]),eU 130,(.b 132,.b 80 2 (dR ((g.2.take j).map rP))),eU 132,(.b 131,.b 30 2 [[.d (dRs g.1),.own 132 2 (j)]]),eU 131,(.b 134,.b 148 2 (dR (x.1.map rL))),eU 134,(.b 133,.b 80 2 [[.own 134 2 (x.1.length),nl]]),eU 133])∨(∃k:Nat,m=x.2.length -k∧(1≤k)∧(k≤x.2.length)∧σ=[eP 1 (rG g),eB 2 130 2,eB 3 131 2,eN 5 (j:Nat),eB 6 133 2,eN 7 (k:Nat),(.b 130,.b 30 2 [[nl,nl]]),eU 130,(.b 132,.b 80 2 (dR ((g.2.take j).map rP))),eU 132,(.b 131,.b 30 2 [[.d (dRs g.1),.own 132 2 (j)]]),eU 131,(.b 134,.b 148 2 (dR (x.1.map rL))),eU 134,(.b 135,.b 66 9 (dR ((x.2.take k).map rS))),eU 135,(.b 133,.b 80 2 [[.own 134 2 (x.1.length),.own 135 9 (k)]]),eU 133])) [(130,120),(131,121),(132,122),(133,106),(134,149)] (.inl ⟨0,rfl,rfl,rfl⟩) ⟨kd,kX,kX,kd,kX,kd,kb 120 rfl (.r2 .dt .dt),kb 122 rfl (.dt rfl),kb 121 rfl (.r2 .dt .ow),kb 149 rfl (.dt rfl),kb 106 rfl (.r2 .ow .dt),trivial⟩ ?_
     rintro m σ (⟨k,hm0,rfl,rfl⟩|⟨k,hm0,hk1,hk2,rfl⟩)
     ·skip
      refine .seq<|.r<|.c .m<|.c (.fP 1 0 false)<|.c (.l1 1)<|.c .m ?_
      refine .c (.xL 80 2 48 rfl rfl rfl rfl rfl (map_at hx1)) ?_
      refine .c (.fP 1 0 false)<|.c (.l1 1)<|.c (.ln 66 9 152)<|.c .ls<|.nn ?_
      refine .cD rfl (fun h59=>?_) (fun h59=>?_)
      ·skip
       obtain⟨y,hy1⟩:∃u,x.2[0]?=some u:=⟨_,List.getElem?_eq_getElem (by omega)⟩
       refine .skip<|ks_n<|.seq<|.block ?_
       refine ACode.drawK (by kernel_rfl) (by kernel_rfl) ?_
       refine .c (.fB 1 0 false)<|.c (.b1 1)<|.c (.fP 1 0 false)<|.c (.l1 1)<|.c .m ?_
       refine .c (.xL 80 2 48 rfl rfl rfl rfl rfl (map_at hx1)) ?_
       refine .c (.fP 1 0 false)<|.c (.l1 1)<|.c .m ?_
       refine .c (.xL 66 9 152 rfl rfl rfl rfl rfl (map_at hy1)) ?_
       refine .c (.lN 9) ?_
       refine .c (.cP [.tmp 72] rfl rfl rfl rfl (l3Copy_fn y ((hP x (List.mem_of_getElem? hx1)).2.2 y (List.mem_of_getElem? hy1))) rfl) ?_
       refine .c (.li 66 8 0 [.tmp 73]) ?_
       refine .c (St1.appN (k':=175) (e:=66) (sz:=8) (by':=152) rfl rfl rfl rfl rfl (by kernel_rfl) rfl rfl rfl (by simp) (by first|(simp[dR];done)|(simp[dR];omega)) rfl rfl) ?_
       refine .c (.fB 1 0 false)<|.c (.sT 1 false) ?_
       refine .nil ⟨by kernel_rfl,?_⟩
       refine kb_n<|ks_n<|.region<|.c .m<|.c .pl<|.c .a<|.nil ?_
       refine kl_k [(130,130),(131,131),(132,132),(133,133),(134,134),(135,175)] (.inr ⟨1,rfl,by omega,by omega,rfl⟩) ⟨kd,kX,kX,kd,kX,kd,kb 130 rfl (.r2 .dt .dt),kb 132 rfl (.dt rfl),kb 131 rfl (.r2 .dt .ow),kb 134 rfl (.dt rfl),kb 175 rfl (.dt rfl (by first|exact dR_take (rS) hy1|exact dR_take1 (rS) hy1|rfl|(simp[dR];done))),kb 133 rfl (.r2 .ow .ow),trivial⟩
      ·skip
       have hnS:x.2=[]:=List.eq_nil_of_length_eq_zero (by omega)
       refine .exit<|ks_e<|kl_e<|kb_hit<|ks_n ?_
       refine .keep [eP 1 (rG g),eB 2 840 2,eB 3 841 2,eN 5 (j:Nat),eB 6 843 2,(.b 840,.b 30 2 [[nl,nl]]),eU 840,(.b 842,.b 80 2 (dR ((g.2.take j).map rP))),eU 842,(.b 841,.b 30 2 [[.d (dRs g.1),.own 842 2 (j)]]),eU 841,(.b 843,.b 80 2 [[.d (dLs x.1),.d (dMs x.2)]]),eU 843] [(840,130),(841,131),(842,132),(843,133)] ⟨kd,kX,kX,kd,kX,kb 130 rfl (.r2 .dt .dt),kb 132 rfl (.dt rfl),kb 131 rfl (.r2 .dt .ow),kb 133 rfl (.r2 (.fz rfl (by first|rfl|(rw[List.take_length];done)|(rw[List.take_length];rfl)) (by first|rfl|(simp;done)|(simp;omega)) (by omega)) (Cto.nilE 9 (by rw[hnS];rfl))),trivial⟩ ?_
       refine .region<|.c (.fB 1 0 false)<|.c (.b1 1)<|.c (.bN 2)<|.c (.li 80 1 0 [.tmp 79]) ?_
       refine .c (St1.appB (k':=181) (e:=80) (sz:=1) (by':=48) rfl rfl rfl rfl rfl (by kernel_rfl) rfl rfl rfl rfl (by first|(simp[dR];done)|(simp[dR];omega)) (by first|(simp[dR];done)|(simp[dR];omega)) rfl rfl rfl) ?_
       refine .c (.fB 1 0 false)<|.c (.sT 1 false)<|.nil<|kb_n<|ks_n<|.region<|.c .m<|.c .pl<|.c .a<|.nil ?_
       refine kl_k [(120,840),(121,841),(122,181)] (.inr ⟨j+1,rfl,by omega,by omega,rfl⟩) ⟨kd,kX,kX,kd,kb 840 rfl (.r2 .dt .dt),kb 181 rfl (.dt rfl (by first|exact dR_take (rP) hx1|exact dR_take1 (rP) hx1|rfl|(simp[dR];done))),kb 841 rfl (.r2 .dt .ow),trivial⟩
     ·skip
      refine .seq<|.r<|.c .m<|.c (.fP 1 0 false)<|.c (.l1 1)<|.c .m ?_
      refine .c (.xL 80 2 48 rfl rfl rfl rfl rfl (map_at hx1)) ?_
      refine .c (.fP 1 0 false)<|.c (.l1 1)<|.c (.ln 66 9 152)<|.c .ls<|.nn ?_
      refine .cD rfl (fun h59=>?_) (fun h59=>?_)
      ·skip
       obtain⟨y,hy1⟩:∃u,x.2[k]?=some u:=⟨_,List.getElem?_eq_getElem (by omega)⟩
       refine .skip<|ks_n<|.seq<|.block ?_
       refine ACode.drawK (by kernel_rfl) (by kernel_rfl) ?_
       refine .c (.fB 1 0 false)<|.c (.b1 1)<|.c (.fP 1 0 false)<|.c (.l1 1)<|.c .m ?_
       refine .c (.xL 80 2 48 rfl rfl rfl rfl rfl (map_at hx1)) ?_
       refine .c (.fP 1 0 false)<|.c (.l1 1)<|.c .m ?_
       refine .c (.xL 66 9 152 rfl rfl rfl rfl rfl (map_at hy1)) ?_
       refine .c (.lN 9) ?_
       refine .c (.cP [.tmp 72] rfl rfl rfl rfl (l3Copy_fn y ((hP x (List.mem_of_getElem? hx1)).2.2 y (List.mem_of_getElem? hy1))) rfl) ?_
       refine .c (.li 66 8 0 [.tmp 73]) ?_
       refine .c (St1.appB (k':=175) (e:=66) (sz:=8) (by':=152) rfl rfl rfl rfl rfl (by kernel_rfl) rfl rfl rfl rfl (by first|(simp[dR];done)|(simp[dR];omega)) (by first|(simp[dR];done)|(simp[dR];omega)) rfl rfl rfl) ?_
       refine .c (.fB 1 0 false)<|.c (.sT 1 false) ?_
       refine .nil ⟨by kernel_rfl,?_⟩
       refine kb_n<|ks_n<|.region<|.c .m<|.c .pl<|.c .a<|.nil ?_
       refine kl_k [(130,130),(131,131),(132,132),(133,133),(134,134),(135,175)] (.inr ⟨k+1,rfl,by omega,by omega,rfl⟩) ⟨kd,kX,kX,kd,kX,kd,kb 130 rfl (.r2 .dt .dt),kb 132 rfl (.dt rfl),kb 131 rfl (.r2 .dt .ow),kb 134 rfl (.dt rfl),kb 175 rfl (.dt rfl (by first|exact dR_take (rS) hy1|exact dR_take1 (rS) hy1|rfl|(simp[dR];done))),kb 133 rfl (.r2 .ow .ow),trivial⟩
      ·skip
       obtain rfl:k=x.2.length:=by omega
       refine .exit<|ks_e<|kl_e<|kb_hit<|ks_n ?_
       refine .keep [eP 1 (rG g),eB 2 840 2,eB 3 841 2,eN 5 (j:Nat),eB 6 843 2,(.b 840,.b 30 2 [[nl,nl]]),eU 840,(.b 842,.b 80 2 (dR ((g.2.take j).map rP))),eU 842,(.b 841,.b 30 2 [[.d (dRs g.1),.own 842 2 (j)]]),eU 841,(.b 843,.b 80 2 [[.d (dLs x.1),.d (dMs x.2)]]),eU 843] [(840,130),(841,131),(842,132),(843,133)] ⟨kd,kX,kX,kd,kX,kb 130 rfl (.r2 .dt .dt),kb 132 rfl (.dt rfl),kb 131 rfl (.r2 .dt .ow),kb 133 rfl (.r2 (.fz rfl (by first|rfl|(rw[List.take_length];done)|(rw[List.take_length];rfl)) (by first|rfl|(simp;done)|(simp;omega)) (by omega)) (.fz rfl (by first|rfl|(rw[List.take_length];done)|(rw[List.take_length];rfl)) (by first|rfl|(simp;done)|(simp;omega)) (by omega))),trivial⟩ ?_
       refine .region<|.c (.fB 1 0 false)<|.c (.b1 1)<|.c (.bN 2)<|.c (.li 80 1 0 [.tmp 79]) ?_
       refine .c (St1.appB (k':=181) (e:=80) (sz:=1) (by':=48) rfl rfl rfl rfl rfl (by kernel_rfl) rfl rfl rfl rfl (by first|(simp[dR];done)|(simp[dR];omega)) (by first|(simp[dR];done)|(simp[dR];omega)) rfl rfl rfl) ?_
       refine .c (.fB 1 0 false)<|.c (.sT 1 false)<|.nil<|kb_n<|ks_n<|.region<|.c .m<|.c .pl<|.c .a<|.nil ?_
       refine kl_k [(120,840),(121,841),(122,181)] (.inr ⟨j+1,rfl,by omega,by omega,rfl⟩) ⟨kd,kX,kX,kd,kb 840 rfl (.r2 .dt .dt),kb 181 rfl (.dt rfl (by first|exact dR_take (rP) hx1|exact dR_take1 (rP) hx1|rfl|(simp[dR];done))),kb 841 rfl (.r2 .dt .ow),trivial⟩
    ·skip
     obtain rfl:j=g.2.length:=by omega
     refine .exit<|ks_e<|kl_e<|kb_hit<|ks_n<|.r<|.c (.bN 2)<|.c (.sT 2 true)<|.nn<|.ret ?_
     refine kf_wret [eB 2 100 2,(.b 100,.b 30 2 [[.d (dRs g.1),.d (dPts g.2)]]),eU 100] (Wk.keep [(100,120)] rfl rfl ⟨kX,kb 120 rfl (.r2 .dt (.fz rfl (by first|rfl|(rw[List.take_length];done)|(rw[List.take_length];rfl)) (by first|rfl|(simp;done)|(simp;omega)) (by omega))),trivial⟩) rfl ?_ nobox
     rfl
 ·skip
  refine .seq<|.r<|.c .m<|.c (.fP 0 0 false)<|.c (.l1 1)<|.c (.ln 45 2 40)<|.c .ls<|.nn ?_
  refine .cD rfl (fun h13=>?_) (fun h13=>?_)
  ·skip
   obtain⟨x,hx1⟩:∃u,g.1[i]?=some u:=⟨_,List.getElem?_eq_getElem (by omega)⟩
   have hxb:=hA _ (List.mem_of_getElem? hx1)
   refine .skip<|ks_n<|.seq<|.block ?_
   refine ACode.drawK (by kernel_rfl) (by kernel_rfl) ?_
   refine .c (.fB 0 0 false)<|.c (.b1 1)<|.c (.fP 0 0 false)<|.c (.l1 1)<|.c .m ?_
   refine .c (.xL 45 2 40 rfl rfl rfl rfl rfl (map_at hx1)) ?_
   refine .c (.fP 0 0 false)<|.c (.l1 1) ?_
   refine .c (St1.lit0 (k':=124) (e:=3) (sz:=1) (b:=true) rfl rfl rfl rfl (by kernel_rfl) rfl rfl) ?_
   refine .c (.fP 0 0 false)<|.c (.l1 1)<|.c .m ?_
   refine .c (.xL 45 2 40 rfl rfl rfl rfl rfl (map_at hx1)) ?_
   refine .c (.fP 1 0 false)<|.c (.l1 1) ?_
   refine .c (St1.appD (rows:=[]) (e:=3) (sz:=0) (by':=8) rfl rfl rfl rfl rfl (by kernel_rfl) rfl rfl rfl rfl rfl (by simp;omega) rfl) ?_
   refine .c (.bu [(0,.tmp 23),(1,.tmp 31)] [(0,1),(1,1)] [.string ByteArray.empty,.slice none 0 0])<|.c (.li 45 1 0 [.tmp 32]) ?_
   refine .c (St1.appB (k':=134) (e:=45) (sz:=1) (by':=40) rfl rfl rfl rfl rfl (by kernel_rfl) rfl rfl rfl rfl (by first|(simp[dR];done)|(simp[dR];omega)) (by first|(simp[dR];done)|(simp[dR];omega)) rfl rfl rfl) ?_
   refine .c (.fB 0 0 false)<|.c (.sT 1 false) ?_
   refine .nil ⟨by kernel_rfl,?_⟩
   refine kb_n<|ks_n<|.region<|.c .m<|.c .pl<|.c .a<|.nil ?_
   refine kl_k [(110,110),(111,111),(112,134)] (.inr ⟨i+1,rfl,by omega,by omega,rfl⟩) ⟨kd,kX,kX,kd,kb 110 rfl (.r2 .dt .dt),kb 134 rfl (.dt rfl (by first|exact dR_take (rR) hx1|exact dR_take1 (rR) hx1|rfl|(simp[dR];done))),kb 111 rfl (.r2 .ow .dt),trivial⟩
  ·skip
   obtain rfl:i=g.1.length:=by omega
   refine .exit<|ks_e<|kl_e<|kb_hit<|ks_n<|.seq<|.seq ?_
   refine .keep [eP 1 (rG g),eB 2 760 2,eB 3 761 2,(.b 760,.b 30 2 [[nl,nl]]),eU 760,(.b 761,.b 30 2 [[.d (dRs g.1),nl]]),eU 761] [(760,110),(761,111)] ⟨kd,kX,kX,kb 110 rfl (.r2 .dt .dt),kb 111 rfl (.r2 (.fz rfl (by first|rfl|(rw[List.take_length];done)|(rw[List.take_length];rfl)) (by first|rfl|(simp;done)|(simp;omega)) (by omega)) .dt),trivial⟩ ?_
   refine .region<|.c .a<|.nn<|.block ?_
   refine .loopK (fun m σ=>(∃j:Nat,m=g.2.length -j∧(j=0)∧σ=[eP 1 (rG g),eB 2 120 2,eB 3 121 2,eN 5 (j:Nat),(.b 120,.b 30 2 [[nl,nl]]),eU 120,(.b 121,.b 30 2 [[.d (dRs g.1),nl]]),eU 121])∨(∃j:Nat,m=g.2.length -j∧(1≤j)∧(j≤g.2.length)∧σ=[eP 1 (rG g),eB 2 120 2,eB 3 121 2,eN 5 (j:Nat),(.b 120,.b 30 2 [[nl,nl]]),eU 120,(.b 122,.b 80 2 (dR ((g.2.take j).map rP))),eU 122,(.b 121,.b 30 2 [[.d (dRs g.1),.own 122 2 (j)]]),eU 121])) [(120,760),(121,761)] (.inl ⟨0,rfl,rfl,rfl⟩) ⟨kd,kX,kX,kd,kb 760 rfl (.r2 .dt .dt),kb 761 rfl (.r2 .dt .dt),trivial⟩ ?_
   rintro m σ (⟨j,hm0,rfl,rfl⟩|⟨j,hm0,hj1,hj2,rfl⟩)
   ·skip
    refine .seq<|.r<|.c .m<|.c (.fP 1 0 false)<|.c (.l1 1)<|.c (.ln 80 2 48)<|.c .ls<|.nn ?_
    refine .cD rfl (fun h40=>?_) (fun h40=>?_)
    ·skip
     obtain⟨x,hx1⟩:∃u,g.2[0]?=some u:=⟨_,List.getElem?_eq_getElem (by omega)⟩
     obtain⟨hsm,hpb,hps⟩:=hP _ (List.mem_of_getElem? hx1)
     have hsl:=hsm.1
     refine .skip<|ks_n<|.seq<|.block<|.r<|.c (.fP 1 0 false)<|.c (.l1 1)<|.c .m ?_
     refine .c (.xL 80 2 48 rfl rfl rfl rfl rfl (map_at hx1)) ?_
     refine .c (.fP 0 0 false)<|.c (.l1 1) ?_
     refine .c (.cO [.tmp 48] [(100,149)] rfl rfl rfl rfl (l2Copy_own (hP x (List.mem_of_getElem? hx1)).1) rfl trivial flatS.nil (flatS.nil.cons rfl) HB.nil.data outS_one) ?_
     refine .c (.bu [(0,.tmp 49)] [(0,1),(1,1)] [.slice none 0 0,.slice none 0 0])<|.c (.al 106 [.slice none 0 0,.slice none 0 0])<|.c (.sT 2 true)<|.nn<|.seq<|.r<|.c .a<|.nn<|.block ?_
     refine .loopK (fun m σ=>(∃k:Nat,m=x.2.length -k∧(k=0)∧σ=[eP 1 (rG g),eB 2 130 2,eB 3 131 2,eN 5 (0:Nat),eB 6 132 2,eN 7 (k:Nat),(.b 130,.b 30 2 [[nl,nl]]),eU 130,(.b 131,.b 30 2 [[.d (dRs g.1),nl]]),eU 131,(.b 133,.b 148 2 (dR (x.1.map rL))),eU 133,(.b 132,.b 80 2 [[.own 133 2 (x.1.length),nl]]),eU 132])∨(∃k:Nat,m=x.2.length -k∧(1≤k)∧(k≤x.2.length)∧σ=[eP 1 (rG g),eB 2 130 2,eB 3 131 2,eN 5 (0:Nat),eB 6 132 2,eN 7 (k:Nat),(.b 130,.b 30 2 [[nl,nl]]),eU 130,(.b 131,.b 30 2 [[.d (dRs g.1),nl]]),eU 131,(.b 133,.b 148 2 (dR (x.1.map rL))),eU 133,(.b 134,.b 66 9 (dR ((x.2.take k).map rS))),eU 134,(.b 132,.b 80 2 [[.own 133 2 (x.1.length),.own 134 9 (k)]]),eU 132])) [(130,120),(131,121),(132,106),(133,149)] (.inl ⟨0,rfl,rfl,rfl⟩) ⟨kd,kX,kX,kd,kX,kd,kb 120 rfl (.r2 .dt .dt),kb 121 rfl (.r2 .dt .dt),kb 149 rfl (.dt rfl),kb 106 rfl (.r2 .ow .dt),trivial⟩ ?_
     rintro m σ (⟨k,hm0,rfl,rfl⟩|⟨k,hm0,hk1,hk2,rfl⟩)
     ·skip
      refine .seq<|.r<|.c .m<|.c (.fP 1 0 false)<|.c (.l1 1)<|.c .m ?_
      refine .c (.xL 80 2 48 rfl rfl rfl rfl rfl (map_at hx1)) ?_
      refine .c (.fP 1 0 false)<|.c (.l1 1)<|.c (.ln 66 9 152)<|.c .ls<|.nn ?_
      refine .cD rfl (fun h59=>?_) (fun h59=>?_)
      ·skip
       obtain⟨y,hy1⟩:∃u,x.2[0]?=some u:=⟨_,List.getElem?_eq_getElem (by omega)⟩
       refine .skip<|ks_n<|.seq<|.block ?_
       refine ACode.drawK (by kernel_rfl) (by kernel_rfl) ?_
       refine .c (.fB 1 0 false)<|.c (.b1 1)<|.c (.fP 1 0 false)<|.c (.l1 1)<|.c .m ?_
       refine .c (.xL 80 2 48 rfl rfl rfl rfl rfl (map_at hx1)) ?_
       refine .c (.fP 1 0 false)<|.c (.l1 1)<|.c .m ?_
       refine .c (.xL 66 9 152 rfl rfl rfl rfl rfl (map_at hy1)) ?_
       refine .c (.lN 9) ?_
       refine .c (.cP [.tmp 72] rfl rfl rfl rfl (l3Copy_fn y ((hP x (List.mem_of_getElem? hx1)).2.2 y (List.mem_of_getElem? hy1))) rfl) ?_
       refine .c (.li 66 8 0 [.tmp 73]) ?_
       refine .c (St1.appN (k':=175) (e:=66) (sz:=8) (by':=152) rfl rfl rfl rfl rfl (by kernel_rfl) rfl rfl rfl (by simp) (by first|(simp[dR];done)|(simp[dR];omega)) rfl rfl) ?_
       refine .c (.fB 1 0 false)<|.c (.sT 1 false) ?_
       refine .nil ⟨by kernel_rfl,?_⟩
       refine kb_n<|ks_n<|.region<|.c .m<|.c .pl<|.c .a<|.nil ?_
       refine kl_k [(130,130),(131,131),(132,132),(133,133),(134,175)] (.inr ⟨1,rfl,by omega,by omega,rfl⟩) ⟨kd,kX,kX,kd,kX,kd,kb 130 rfl (.r2 .dt .dt),kb 131 rfl (.r2 .dt .dt),kb 133 rfl (.dt rfl),kb 175 rfl (.dt rfl (by first|exact dR_take (rS) hy1|exact dR_take1 (rS) hy1|rfl|(simp[dR];done))),kb 132 rfl (.r2 .ow .ow),trivial⟩
      ·skip
       have hnS:x.2=[]:=List.eq_nil_of_length_eq_zero (by omega)
       refine .exit<|ks_e<|kl_e<|kb_hit<|ks_n ?_
       refine .keep [eP 1 (rG g),eB 2 840 2,eB 3 841 2,eN 5 (0:Nat),eB 6 842 2,(.b 840,.b 30 2 [[nl,nl]]),eU 840,(.b 841,.b 30 2 [[.d (dRs g.1),nl]]),eU 841,(.b 842,.b 80 2 [[.d (dLs x.1),.d (dMs x.2)]]),eU 842] [(840,130),(841,131),(842,132)] ⟨kd,kX,kX,kd,kX,kb 130 rfl (.r2 .dt .dt),kb 131 rfl (.r2 .dt .dt),kb 132 rfl (.r2 (.fz rfl (by first|rfl|(rw[List.take_length];done)|(rw[List.take_length];rfl)) (by first|rfl|(simp;done)|(simp;omega)) (by omega)) (Cto.nilE 9 (by rw[hnS];rfl))),trivial⟩ ?_
       refine .region<|.c (.fB 1 0 false)<|.c (.b1 1)<|.c (.bN 2)<|.c (.li 80 1 0 [.tmp 79]) ?_
       refine .c (St1.appN (k':=181) (e:=80) (sz:=1) (by':=48) rfl rfl rfl rfl rfl (by kernel_rfl) rfl rfl rfl (by simp) (by first|(simp[dR];done)|(simp[dR];omega)) rfl rfl) ?_
       refine .c (.fB 1 0 false)<|.c (.sT 1 false)<|.nil<|kb_n<|ks_n<|.region<|.c .m<|.c .pl<|.c .a<|.nil ?_
       refine kl_k [(120,840),(121,841),(122,181)] (.inr ⟨1,rfl,by omega,by omega,rfl⟩) ⟨kd,kX,kX,kd,kb 840 rfl (.r2 .dt .dt),kb 181 rfl (.dt rfl (by first|exact dR_take (rP) hx1|exact dR_take1 (rP) hx1|rfl|(simp[dR];done))),kb 841 rfl (.r2 .dt .ow),trivial⟩
     ·skip
      refine .seq<|.r<|.c .m<|.c (.fP 1 0 false)<|.c (.l1 1)<|.c .m ?_
      refine .c (.xL 80 2 48 rfl rfl rfl rfl rfl (map_at hx1)) ?_
      refine .c (.fP 1 0 false)<|.c (.l1 1)<|.c (.ln 66 9 152)<|.c .ls<|.nn ?_
      refine .cD rfl (fun h59=>?_) (fun h59=>?_)
      ·skip
       obtain⟨y,hy1⟩:∃u,x.2[k]?=some u:=⟨_,List.getElem?_eq_getElem (by omega)⟩
       refine .skip<|ks_n<|.seq<|.block ?_
       refine ACode.drawK (by kernel_rfl) (by kernel_rfl) ?_
       refine .c (.fB 1 0 false)<|.c (.b1 1)<|.c (.fP 1 0 false)<|.c (.l1 1)<|.c .m ?_
       refine .c (.xL 80 2 48 rfl rfl rfl rfl rfl (map_at hx1)) ?_
       refine .c (.fP 1 0 false)<|.c (.l1 1)<|.c .m ?_
       refine .c (.xL 66 9 152 rfl rfl rfl rfl rfl (map_at hy1)) ?_
       refine .c (.lN 9) ?_
       refine .c (.cP [.tmp 72] rfl rfl rfl rfl (l3Copy_fn y ((hP x (List.mem_of_getElem? hx1)).2.2 y (List.mem_of_getElem? hy1))) rfl) ?_
       refine .c (.li 66 8 0 [.tmp 73]) ?_
       refine .c (St1.appB (k':=175) (e:=66) (sz:=8) (by':=152) rfl rfl rfl rfl rfl (by kernel_rfl) rfl rfl rfl rfl (by first|(simp[dR];done)|(simp[dR];omega)) (by first|(simp[dR];done)|(simp[dR];omega)) rfl rfl rfl) ?_
       refine .c (.fB 1 0 false)<|.c (.sT 1 false) ?_
       refine .nil ⟨by kernel_rfl,?_⟩
       refine kb_n<|ks_n<|.region<|.c .m<|.c .pl<|.c .a<|.nil ?_
       refine kl_k [(130,130),(131,131),(132,132),(133,133),(134,175)] (.inr ⟨k+1,rfl,by omega,by omega,rfl⟩) ⟨kd,kX,kX,kd,kX,kd,kb 130 rfl (.r2 .dt .dt),kb 131 rfl (.r2 .dt .dt),kb 133 rfl (.dt rfl),kb 175 rfl (.dt rfl (by first|exact dR_take (rS) hy1|exact dR_take1 (rS) hy1|rfl|(simp[dR];done))),kb 132 rfl (.r2 .ow .ow),trivial⟩
      ·skip
       obtain rfl:k=x.2.length:=by omega
       refine .exit<|ks_e<|kl_e<|kb_hit<|ks_n ?_
       refine .keep [eP 1 (rG g),eB 2 840 2,eB 3 841 2,eN 5 (0:Nat),eB 6 842 2,(.b 840,.b 30 2 [[nl,nl]]),eU 840,(.b 841,.b 30 2 [[.d (dRs g.1),nl]]),eU 841,(.b 842,.b 80 2 [[.d (dLs x.1),.d (dMs x.2)]]),eU 842] [(840,130),(841,131),(842,132)] ⟨kd,kX,kX,kd,kX,kb 130 rfl (.r2 .dt .dt),kb 131 rfl (.r2 .dt .dt),kb 132 rfl (.r2 (.fz rfl (by first|rfl|(rw[List.take_length];done)|(rw[List.take_length];rfl)) (by first|rfl|(simp;done)|(simp;omega)) (by omega)) (.fz rfl (by first|rfl|(rw[List.take_length];done)|(rw[List.take_length];rfl)) (by first|rfl|(simp;done)|(simp;omega)) (by omega))),trivial⟩ ?_
       refine .region<|.c (.fB 1 0 false)<|.c (.b1 1)<|.c (.bN 2)<|.c (.li 80 1 0 [.tmp 79]) ?_
       refine .c (St1.appN (k':=181) (e:=80) (sz:=1) (by':=48) rfl rfl rfl rfl rfl (by kernel_rfl) rfl rfl rfl (by simp) (by first|(simp[dR];done)|(simp[dR];omega)) rfl rfl) ?_
       refine .c (.fB 1 0 false)<|.c (.sT 1 false)<|.nil<|kb_n<|ks_n<|.region<|.c .m<|.c .pl<|.c .a<|.nil ?_
       refine kl_k [(120,840),(121,841),(122,181)] (.inr ⟨1,rfl,by omega,by omega,rfl⟩) ⟨kd,kX,kX,kd,kb 840 rfl (.r2 .dt .dt),kb 181 rfl (.dt rfl (by first|exact dR_take (rP) hx1|exact dR_take1 (rP) hx1|rfl|(simp[dR];done))),kb 841 rfl (.r2 .dt .ow),trivial⟩
    ·skip
     have hnP:g.2=[]:=List.eq_nil_of_length_eq_zero (by omega)
     refine .exit<|ks_e<|kl_e<|kb_hit<|ks_n<|.r<|.c (.bN 2)<|.c (.sT 2 true)<|.nn<|.ret ?_
     refine kf_wret [eB 2 100 2,(.b 100,.b 30 2 [[.d (dRs g.1),.d (dPts g.2)]]),eU 100] (Wk.keep [(100,120)] rfl rfl ⟨kX,kb 120 rfl (.r2 .dt (Cto.nilE 2 (by rw[hnP];rfl))),trivial⟩) rfl ?_ nobox
     rfl
   ·skip
    refine .seq<|.r<|.c .m<|.c (.fP 1 0 false)<|.c (.l1 1)<|.c (.ln 80 2 48)<|.c .ls<|.nn ?_
    refine .cD rfl (fun h40=>?_) (fun h40=>?_)
    ·skip
     obtain⟨x,hx1⟩:∃u,g.2[j]?=some u:=⟨_,List.getElem?_eq_getElem (by omega)⟩
     obtain⟨hsm,hpb,hps⟩:=hP _ (List.mem_of_getElem? hx1)
     have hsl:=hsm.1
     refine .skip<|ks_n<|.seq<|.block<|.r<|.c (.fP 1 0 false)<|.c (.l1 1)<|.c .m ?_
     refine .c (.xL 80 2 48 rfl rfl rfl rfl rfl (map_at hx1)) ?_
     refine .c (.fP 0 0 false)<|.c (.l1 1) ?_
     refine .c (.cO [.tmp 48] [(100,149)] rfl rfl rfl rfl (l2Copy_own (hP x (List.mem_of_getElem? hx1)).1) rfl trivial flatS.nil (flatS.nil.cons rfl) HB.nil.data outS_one) ?_
     refine .c (.bu [(0,.tmp 49)] [(0,1),(1,1)] [.slice none 0 0,.slice none 0 0])<|.c (.al 106 [.slice none 0 0,.slice none 0 0])<|.c (.sT 2 true)<|.nn<|.seq<|.r<|.c .a<|.nn<|.block ?_
     refine .loopK (fun m σ=>(∃k:Nat,m=x.2.length -k∧(k=0)∧σ=[eP 1 (rG g),eB 2 130 2,eB 3 131 2,eN 5 (j:Nat),eB 6 133 2,eN 7 (k:Nat),(.b 130,.b 30 2 [[nl,nl]]),eU 130,(.b 132,.b 80 2 (dR ((g.2.take j).map rP))),eU 132,(.b 131,.b 30 2 [[.d (dRs g.1),.own 132 2 (j)]]),eU 131,(.b 134,.b 148 2 (dR (x.1.map rL))),eU 134,(.b 133,.b 80 2 [[.own 134 2 (x.1.length),nl]]),eU 133])∨(∃k:Nat,m=x.2.length -k∧(1≤k)∧(k≤x.2.length)∧σ=[eP 1 (rG g),eB 2 130 2,eB 3 131 2,eN 5 (j:Nat),eB 6 133 2,eN 7 (k:Nat),(.b 130,.b 30 2 [[nl,nl]]),eU 130,(.b 132,.b 80 2 (dR ((g.2.take j).map rP))),eU 132,(.b 131,.b 30 2 [[.d (dRs g.1),.own 132 2 (j)]]),eU 131,(.b 134,.b 148 2 (dR (x.1.map rL))),eU 134,(.b 135,.b 66 9 (dR ((x.2.take k).map rS))),eU 135,(.b 133,.b 80 2 [[.own 134 2 (x.1.length),.own 135 9 (k)]]),eU 133])) [(130,120),(131,121),(132,122),(133,106),(134,149)] (.inl ⟨0,rfl,rfl,rfl⟩) ⟨kd,kX,kX,kd,kX,kd,kb 120 rfl (.r2 .dt .dt),kb 122 rfl (.dt rfl),kb 121 rfl (.r2 .dt .ow),kb 149 rfl (.dt rfl),kb 106 rfl (.r2 .ow .dt),trivial⟩ ?_
     rintro m σ (⟨k,hm0,rfl,rfl⟩|⟨k,hm0,hk1,hk2,rfl⟩)
     ·skip
      refine .seq<|.r<|.c .m<|.c (.fP 1 0 false)<|.c (.l1 1)<|.c .m ?_
      refine .c (.xL 80 2 48 rfl rfl rfl rfl rfl (map_at hx1)) ?_
      refine .c (.fP 1 0 false)<|.c (.l1 1)<|.c (.ln 66 9 152)<|.c .ls<|.nn ?_
      refine .cD rfl (fun h59=>?_) (fun h59=>?_)
      ·skip
       obtain⟨y,hy1⟩:∃u,x.2[0]?=some u:=⟨_,List.getElem?_eq_getElem (by omega)⟩
       refine .skip<|ks_n<|.seq<|.block ?_
       refine ACode.drawK (by kernel_rfl) (by kernel_rfl) ?_
       refine .c (.fB 1 0 false)<|.c (.b1 1)<|.c (.fP 1 0 false)<|.c (.l1 1)<|.c .m ?_
       refine .c (.xL 80 2 48 rfl rfl rfl rfl rfl (map_at hx1)) ?_
       refine .c (.fP 1 0 false)<|.c (.l1 1)<|.c .m ?_
       refine .c (.xL 66 9 152 rfl rfl rfl rfl rfl (map_at hy1)) ?_
       refine .c (.lN 9) ?_
       refine .c (.cP [.tmp 72] rfl rfl rfl rfl (l3Copy_fn y ((hP x (List.mem_of_getElem? hx1)).2.2 y (List.mem_of_getElem? hy1))) rfl) ?_
       refine .c (.li 66 8 0 [.tmp 73]) ?_
       refine .c (St1.appN (k':=175) (e:=66) (sz:=8) (by':=152) rfl rfl rfl rfl rfl (by kernel_rfl) rfl rfl rfl (by simp) (by first|(simp[dR];done)|(simp[dR];omega)) rfl rfl) ?_
       refine .c (.fB 1 0 false)<|.c (.sT 1 false) ?_
       refine .nil ⟨by kernel_rfl,?_⟩
       refine kb_n<|ks_n<|.region<|.c .m<|.c .pl<|.c .a<|.nil ?_
       refine kl_k [(130,130),(131,131),(132,132),(133,133),(134,134),(135,175)] (.inr ⟨1,rfl,by omega,by omega,rfl⟩) ⟨kd,kX,kX,kd,kX,kd,kb 130 rfl (.r2 .dt .dt),kb 132 rfl (.dt rfl),kb 131 rfl (.r2 .dt .ow),kb 134 rfl (.dt rfl),kb 175 rfl (.dt rfl (by first|exact dR_take (rS) hy1|exact dR_take1 (rS) hy1|rfl|(simp[dR];done))),kb 133 rfl (.r2 .ow .ow),trivial⟩
      ·skip
       have hnS:x.2=[]:=List.eq_nil_of_length_eq_zero (by omega)
       refine .exit<|ks_e<|kl_e<|kb_hit<|ks_n ?_
       refine .keep [eP 1 (rG g),eB 2 840 2,eB 3 841 2,eN 5 (j:Nat),eB 6 843 2,(.b 840,.b 30 2 [[nl,nl]]),eU 840,(.b 842,.b 80 2 (dR ((g.2.take j).map rP))),eU 842,(.b 841,.b 30 2 [[.d (dRs g.1),.own 842 2 (j)]]),eU 841,(.b 843,.b 80 2 [[.d (dLs x.1),.d (dMs x.2)]]),eU 843] [(840,130),(841,131),(842,132),(843,133)] ⟨kd,kX,kX,kd,kX,kb 130 rfl (.r2 .dt .dt),kb 132 rfl (.dt rfl),kb 131 rfl (.r2 .dt .ow),kb 133 rfl (.r2 (.fz rfl (by first|rfl|(rw[List.take_length];done)|(rw[List.take_length];rfl)) (by first|rfl|(simp;done)|(simp;omega)) (by omega)) (Cto.nilE 9 (by rw[hnS];rfl))),trivial⟩ ?_
       refine .region<|.c (.fB 1 0 false)<|.c (.b1 1)<|.c (.bN 2)<|.c (.li 80 1 0 [.tmp 79]) ?_
       refine .c (St1.appB (k':=181) (e:=80) (sz:=1) (by':=48) rfl rfl rfl rfl rfl (by kernel_rfl) rfl rfl rfl rfl (by first|(simp[dR];done)|(simp[dR];omega)) (by first|(simp[dR];done)|(simp[dR];omega)) rfl rfl rfl) ?_
       refine .c (.fB 1 0 false)<|.c (.sT 1 false)<|.nil<|kb_n<|ks_n<|.region<|.c .m<|.c .pl<|.c .a<|.nil ?_
       refine kl_k [(120,840),(121,841),(122,181)] (.inr ⟨j+1,rfl,by omega,by omega,rfl⟩) ⟨kd,kX,kX,kd,kb 840 rfl (.r2 .dt .dt),kb 181 rfl (.dt rfl (by first|exact dR_take (rP) hx1|exact dR_take1 (rP) hx1|rfl|(simp[dR];done))),kb 841 rfl (.r2 .dt .ow),trivial⟩
     ·skip
      refine .seq<|.r<|.c .m<|.c (.fP 1 0 false)<|.c (.l1 1)<|.c .m ?_
      refine .c (.xL 80 2 48 rfl rfl rfl rfl rfl (map_at hx1)) ?_
      refine .c (.fP 1 0 false)<|.c (.l1 1)<|.c (.ln 66 9 152)<|.c .ls<|.nn ?_
      refine .cD rfl (fun h59=>?_) (fun h59=>?_)
      ·skip
       obtain⟨y,hy1⟩:∃u,x.2[k]?=some u:=⟨_,List.getElem?_eq_getElem (by omega)⟩
       refine .skip<|ks_n<|.seq<|.block ?_
       refine ACode.drawK (by kernel_rfl) (by kernel_rfl) ?_
       refine .c (.fB 1 0 false)<|.c (.b1 1)<|.c (.fP 1 0 false)<|.c (.l1 1)<|.c .m ?_
       refine .c (.xL 80 2 48 rfl rfl rfl rfl rfl (map_at hx1)) ?_
       refine .c (.fP 1 0 false)<|.c (.l1 1)<|.c .m ?_
       refine .c (.xL 66 9 152 rfl rfl rfl rfl rfl (map_at hy1)) ?_
       refine .c (.lN 9) ?_
       refine .c (.cP [.tmp 72] rfl rfl rfl rfl (l3Copy_fn y ((hP x (List.mem_of_getElem? hx1)).2.2 y (List.mem_of_getElem? hy1))) rfl) ?_
       refine .c (.li 66 8 0 [.tmp 73]) ?_
       refine .c (St1.appB (k':=175) (e:=66) (sz:=8) (by':=152) rfl rfl rfl rfl rfl (by kernel_rfl) rfl rfl rfl rfl (by first|(simp[dR];done)|(simp[dR];omega)) (by first|(simp[dR];done)|(simp[dR];omega)) rfl rfl rfl) ?_
       refine .c (.fB 1 0 false)<|.c (.sT 1 false) ?_
       refine .nil ⟨by kernel_rfl,?_⟩
       refine kb_n<|ks_n<|.region<|.c .m<|.c .pl<|.c .a<|.nil ?_
       refine kl_k [(130,130),(131,131),(132,132),(133,133),(134,134),(135,175)] (.inr ⟨k+1,rfl,by omega,by omega,rfl⟩) ⟨kd,kX,kX,kd,kX,kd,kb 130 rfl (.r2 .dt .dt),kb 132 rfl (.dt rfl),kb 131 rfl (.r2 .dt .ow),kb 134 rfl (.dt rfl),kb 175 rfl (.dt rfl (by first|exact dR_take (rS) hy1|exact dR_take1 (rS) hy1|rfl|(simp[dR];done))),kb 133 rfl (.r2 .ow .ow),trivial⟩
      ·skip
       obtain rfl:k=x.2.length:=by omega
       refine .exit<|ks_e<|kl_e<|kb_hit<|ks_n ?_
       refine .keep [eP 1 (rG g),eB 2 840 2,eB 3 841 2,eN 5 (j:Nat),eB 6 843 2,(.b 840,.b 30 2 [[nl,nl]]),eU 840,(.b 842,.b 80 2 (dR ((g.2.take j).map rP))),eU 842,(.b 841,.b 30 2 [[.d (dRs g.1),.own 842 2 (j)]]),eU 841,(.b 843,.b 80 2 [[.d (dLs x.1),.d (dMs x.2)]]),eU 843] [(840,130),(841,131),(842,132),(843,133)] ⟨kd,kX,kX,kd,kX,kb 130 rfl (.r2 .dt .dt),kb 132 rfl (.dt rfl),kb 131 rfl (.r2 .dt .ow),kb 133 rfl (.r2 (.fz rfl (by first|rfl|(rw[List.take_length];done)|(rw[List.take_length];rfl)) (by first|rfl|(simp;done)|(simp;omega)) (by omega)) (.fz rfl (by first|rfl|(rw[List.take_length];done)|(rw[List.take_length];rfl)) (by first|rfl|(simp;done)|(simp;omega)) (by omega))),trivial⟩ ?_
       refine .region<|.c (.fB 1 0 false)<|.c (.b1 1)<|.c (.bN 2)<|.c (.li 80 1 0 [.tmp 79]) ?_
       refine .c (St1.appB (k':=181) (e:=80) (sz:=1) (by':=48) rfl rfl rfl rfl rfl (by kernel_rfl) rfl rfl rfl rfl (by first|(simp[dR];done)|(simp[dR];omega)) (by first|(simp[dR];done)|(simp[dR];omega)) rfl rfl rfl) ?_
       refine .c (.fB 1 0 false)<|.c (.sT 1 false)<|.nil<|kb_n<|ks_n<|.region<|.c .m<|.c .pl<|.c .a<|.nil ?_
       refine kl_k [(120,840),(121,841),(122,181)] (.inr ⟨j+1,rfl,by omega,by omega,rfl⟩) ⟨kd,kX,kX,kd,kb 840 rfl (.r2 .dt .dt),kb 181 rfl (.dt rfl (by first|exact dR_take (rP) hx1|exact dR_take1 (rP) hx1|rfl|(simp[dR];done))),kb 841 rfl (.r2 .dt .ow),trivial⟩
    ·skip
     obtain rfl:j=g.2.length:=by omega
     refine .exit<|ks_e<|kl_e<|kb_hit<|ks_n<|.r<|.c (.bN 2)<|.c (.sT 2 true)<|.nn<|.ret ?_
     refine kf_wret [eB 2 100 2,(.b 100,.b 30 2 [[.d (dRs g.1),.d (dPts g.2)]]),eU 100] (Wk.keep [(100,120)] rfl rfl ⟨kX,kb 120 rfl (.r2 .dt (.fz rfl (by first|rfl|(rw[List.take_length];done)|(rw[List.take_length];rfl)) (by first|rfl|(simp;done)|(simp;omega)) (by omega))),trivial⟩) rfl ?_ nobox
     rfl
theorem o16Aff_fn (x:Aff) (hx:x.1.length≤1073741824):Fn Tryz.prog 196 [] [ad (rA x)] (.o (ad (rA x))) []:=by
  refine Fn.code0 Tryz.func196 rfl rfl rfl rfl ?_
  refine .r<|.c (St1.boxB (k':=101) rfl rfl rfl rfl rfl rfl rfl)<|.c (.al 102 [.slice none 0 0,.int .i64 0])<|.r ?_
  refine .c (St1.lit0 (k':=103) (e:=3) (sz:=1) (b:=true) rfl rfl rfl rfl (by kernel_rfl) rfl rfl) ?_
  refine .c (.fB 0 0 false)<|.c (.b1 1) ?_
  refine .c (St1.appB (k':=106) (e:=3) (sz:=0) (by':=8) rfl rfl rfl rfl rfl (by kernel_rfl) rfl rfl rfl rfl (by first|(simp[dR];done)|(simp[dR];omega)) (by first|(simp[dR];done)|(simp[dR];omega)) rfl rfl rfl) ?_
  refine .c (.fB 0 0 false)<|.c (.sT 1 false)<|.r<|.c (.bN 2)<|.c (.sT 2 true)<|.nn<|.ret ?_
  refine kf_wret [eB 2 100 2,(.b 100,.b 61 2 [[.d (dIs x.1),.d (dI x.2)]]),eU 100] (Wk.keep [(100,102)] rfl rfl ⟨kX,kb 102 rfl (.r2 (.fz rfl (by rfl) (by simp[dIs]) (by rw[List.length_map];omega)) .dt),trivial⟩) rfl ?_ nobox
  rfl
theorem o16Affs_fn (l:List Aff) (hl:l.length≤1073741824) (hs:∀x∈l,x.1.length≤1073741824):Fn Tryz.prog 186 [] [vD (dAs l)] (.o (vD (dAs l))) []:=by
  refine Fn.code0 Tryz.func186 rfl rfl rfl rfl ?_
  refine .r<|.c .a<|.r ?_
  refine .c (St1.lit0 (k':=106) (e:=61) (sz:=2) (b:=true) rfl rfl rfl rfl (by kernel_rfl) rfl rfl) ?_
  refine .c .a<|.nn<|.seq<|.r<|.c .m<|.c (.ln 61 2 32)<|.c .m<|.nn<|.block ?_
  refine .loopK (fun m σ=>(∃i:Nat,m=l.length -i∧(i≤l.length)∧σ=[(.t 3,.v (.o (.c (.own 110 2 (i))))),eD 7 (dAs l),eN 8 (l.length:Nat),eN 9 (i:Nat),(.b 110,.b 61 2 (dR ((l.take i).map rA))),eU 110])) [(110,106)] ⟨0,rfl,by omega,rfl⟩ ⟨kW,kd,kd,kd,kb 106 rfl (.dt rfl (by first|exact dR_take (rA) hx1|exact dR_take1 (rA) hx1|rfl|(simp[dR];done))),trivial⟩ ?_
  rintro m σ ⟨i,hm0,hi,rfl⟩
  refine .r<|.c .ls<|.nn<|.seq ?_
  refine .cD rfl (fun h10=>?_) (fun h10=>?_)
  · skip
    obtain⟨x,hx1⟩:∃x_,l[i]?=some x_:=⟨_,List.getElem?_eq_getElem (by omega)⟩
    refine .skip<|ks_n<|.seq<|.block<|.r<|.c (.xL 61 2 32 rfl rfl rfl rfl rfl (map_at hx1)) ?_
    refine .c (.lN 2)<|.c (.al 105 [.slice none 0 0,.int .i64 0])<|.c (.sT 2 true)<|.nn<|.region<|.c .m<|.c (.bN 2) ?_
    refine .c (.cP [.tmp 14] rfl rfl rfl rfl (o16Aff_fn x (by have:=hs x (List.mem_of_getElem? hx1);omega)) rfl) ?_
    refine .c (.li 61 1 0 [.tmp 15]) ?_
    refine .c (St1.appB (k':=117) (e:=61) (sz:=1) (by':=32) rfl rfl rfl rfl rfl (by kernel_rfl) rfl rfl rfl rfl (by first|(simp[dR];done)|(simp[dR];omega)) (by first|(simp[dR];done)|(simp[dR];omega)) rfl rfl rfl) ?_
    refine .c .a<|.nil<|kb_n<|ks_n<|.region<|.c .pl<|.c .m<|.nil ?_
    refine kl_k [(110,117)] ⟨i+1,rfl,by omega,rfl⟩ ⟨kW,kd,kd,kd,kb 117 rfl (.dt rfl (by first|exact dR_take (rA) hx1|exact dR_take1 (rA) hx1|rfl|(simp[dR];done))),trivial⟩
  · skip
    obtain rfl:i=l.length:=by omega
    refine .exit<|ks_e<|kl_e<|kb_hit<|ks_n<|.r<|.c .m<|.c .a<|.nn<|.ret ?_
    refine kf_wret [eD 2 (dAs l)] (Wk.keep [] rfl rfl ⟨ks rfl (.c (.fz rfl (by first|(rw[List.take_length];done)|(rw[List.take_length];rfl)) (by simp) (by omega))),trivial⟩) rfl ?_ nobox
    rfl
theorem o16Acc_fn (x:Acc) (hx:szAs x.2≤1073741824):Fn Tryz.prog 187 [] [ad (rC x)] (.o (ad (rC x))) []:=by
  refine Fn.code0 Tryz.func187 rfl rfl rfl rfl ?_
  refine .r<|.c (St1.boxB (k':=101) rfl rfl rfl rfl rfl rfl rfl)<|.c (.al 102 [.string ByteArray.empty,.slice none 0 0])<|.r<|.c (.fB 1 0 false)<|.c (.b1 1) ?_
  refine .c (.cP [.tmp 4] rfl rfl rfl rfl (o16Affs_fn x.2 (by have:=szAs_len x.2;omega) (fun y hy=>by have:=szAs_mem hy;omega)) rfl) ?_
  refine .c (.fB 1 0 false)<|.c (.sT 1 false)<|.r<|.c (.bN 2)<|.c (.sT 2 true)<|.nn<|.ret ?_
  refine kf_ret rfl ?_ nobox
  rfl
theorem o16Loop_fn (x:Lp) (hx:szL x≤1073741824):Fn Tryz.prog 164 [] [ad (rL x)] (.o (ad (rL x))) []:=by
  rw[szL]at hx
  refine Fn.code0 Tryz.func164 rfl rfl rfl rfl ?_
  refine .r<|.c (St1.boxB (k':=101) rfl rfl rfl rfl rfl rfl rfl)<|.c (.al 102 [.slice none 0 0,.slice none 0 0])<|.r<|.c (.fB 0 0 false)<|.c (.b1 1) ?_
  refine .c (.cP [.tmp 4] rfl rfl rfl rfl (o16Affs_fn x.1 (by have:=szAs_len x.1;omega) (fun y hy=>by have:=szAs_mem hy;omega)) rfl) ?_
  refine .c (.fB 0 0 false)<|.c (.sT 1 false)<|.r<|.c (.fB 1 0 false)<|.c (.b1 1) ?_
  refine .c (.cP [.tmp 8] rfl rfl rfl rfl (o16Affs_fn x.2 (by have:=szAs_len x.2;omega) (fun y hy=>by have:=szAs_mem hy;omega)) rfl) ?_
  refine .c (.fB 1 0 false)<|.c (.sT 1 false)<|.r<|.c (.bN 2)<|.c (.sT 2 true)<|.nn<|.ret ?_
  refine kf_ret rfl ?_ nobox
  rfl
theorem o16Loops_fn (l:List Lp) (hl:l.length≤1073741824) (hs:∀x∈l,szL x≤1073741824):Fn Tryz.prog 130 [] [vD (dLs l)] (.o (vD (dLs l))) []:=by
  refine Fn.code0 Tryz.func130 rfl rfl rfl rfl ?_
  refine .r<|.c .a<|.r ?_
  refine .c (St1.lit0 (k':=106) (e:=148) (sz:=2) (b:=true) rfl rfl rfl rfl (by kernel_rfl) rfl rfl) ?_
  refine .c .a<|.nn<|.seq<|.r<|.c .m<|.c (.ln 148 2 48)<|.c .m<|.nn<|.block ?_
  refine .loopK (fun m σ=>(∃i:Nat,m=l.length -i∧(i≤l.length)∧σ=[(.t 3,.v (.o (.c (.own 110 2 (i))))),eD 7 (dLs l),eN 8 (l.length:Nat),eN 9 (i:Nat),(.b 110,.b 148 2 (dR ((l.take i).map rL))),eU 110])) [(110,106)] ⟨0,rfl,by omega,rfl⟩ ⟨kW,kd,kd,kd,kb 106 rfl (.dt rfl (by first|exact dR_take (rL) hx1|exact dR_take1 (rL) hx1|rfl|(simp[dR];done))),trivial⟩ ?_
  rintro m σ ⟨i,hm0,hi,rfl⟩
  refine .r<|.c .ls<|.nn<|.seq ?_
  refine .cD rfl (fun h10=>?_) (fun h10=>?_)
  · skip
    obtain⟨x,hx1⟩:∃x_,l[i]?=some x_:=⟨_,List.getElem?_eq_getElem (by omega)⟩
    refine .skip<|ks_n<|.seq<|.block<|.r<|.c (.xL 148 2 48 rfl rfl rfl rfl rfl (map_at hx1)) ?_
    refine .c (.lN 2)<|.c (.al 105 [.slice none 0 0,.slice none 0 0])<|.c (.sT 2 true)<|.nn<|.region<|.c .m<|.c (.bN 2) ?_
    refine .c (.cP [.tmp 14] rfl rfl rfl rfl (o16Loop_fn x (by have:=hs x (List.mem_of_getElem? hx1);omega)) rfl) ?_
    refine .c (.li 148 1 0 [.tmp 15]) ?_
    refine .c (St1.appB (k':=117) (e:=148) (sz:=1) (by':=48) rfl rfl rfl rfl rfl (by kernel_rfl) rfl rfl rfl rfl (by first|(simp[dR];done)|(simp[dR];omega)) (by first|(simp[dR];done)|(simp[dR];omega)) rfl rfl rfl) ?_
    refine .c .a<|.nil<|kb_n<|ks_n<|.region<|.c .pl<|.c .m<|.nil ?_
    refine kl_k [(110,117)] ⟨i+1,rfl,by omega,rfl⟩ ⟨kW,kd,kd,kd,kb 117 rfl (.dt rfl (by first|exact dR_take (rL) hx1|exact dR_take1 (rL) hx1|rfl|(simp[dR];done))),trivial⟩
  · skip
    obtain rfl:i=l.length:=by omega
    refine .exit<|ks_e<|kl_e<|kb_hit<|ks_n<|.r<|.c .m<|.c .a<|.nn<|.ret ?_
    refine kf_wret [eD 2 (dLs l)] (Wk.keep [] rfl rfl ⟨ks rfl (.c (.fz rfl (by first|(rw[List.take_length];done)|(rw[List.take_length];rfl)) (by simp) (by omega))),trivial⟩) rfl ?_ nobox
    rfl
theorem szC_le (c:Acc):szAs c.2≤szC c:=by rw[szC];omega
theorem o16Expr_fn1 (e:Ex) (h1:e.i.1.length≤1073741824) (h2:szAs e.r.2≤1073741824) (ih:Fn Tryz.prog 197 [] [vD (dEs e.ks)] (.o (vD (dEs e.ks))) []):Fn Tryz.prog 188 [] [ad (rX e)] (.o (ad (rX e))) []:=by
  refine Fn.code0 Tryz.func188 rfl rfl rfl rfl ?_
  refine .r<|.c (St1.boxB (k':=101) rfl rfl rfl rfl rfl rfl rfl)<|.c (.al 102 [.int .i64 0,.int .i64 0,.slice none 0 0,.int .i64 0,.string ByteArray.empty,.slice none 0 0,.slice none 0 0])<|.r<|.c (.fB 2 1 true)<|.c (.bN 2) ?_
  refine .c (.cP [.tmp 4] rfl rfl rfl rfl (o16Aff_fn e.i h1) rfl) ?_
  refine .c (.fB 2 1 true)<|.c (.sT 2 true)<|.r<|.c (.fB 4 1 true)<|.c (.bN 2) ?_
  refine .c (.cP [.tmp 8] rfl rfl rfl rfl (o16Acc_fn e.r h2) rfl) ?_
  refine .c (.fB 4 1 true)<|.c (.sT 2 true)<|.r<|.c (.fB 6 0 false)<|.c (.b1 1) ?_
  refine .c (.cP [.tmp 12] rfl rfl rfl rfl (ih) rfl) ?_
  refine .c (.fB 6 0 false)<|.c (.sT 1 false)<|.r<|.c (.bN 7)<|.c (.sT 7 true)<|.nn<|.ret ?_
  refine kf_ret rfl ?_ nobox
  rfl
theorem o16Exprs_fn1 (l:List Ex) (hl:l.length≤1073741824) (ih:∀x∈l,Fn Tryz.prog 188 [] [ad (rX x)] (.o (ad (rX x))) []):Fn Tryz.prog 197 [] [vD (dEs l)] (.o (vD (dEs l))) []:=by
  refine Fn.code0 Tryz.func197 rfl rfl rfl rfl ?_
  refine .r<|.c .a<|.r ?_
  refine .c (St1.lit0 (k':=106) (e:=64) (sz:=7) (b:=true) rfl rfl rfl rfl (by kernel_rfl) rfl rfl) ?_
  refine .c .a<|.nn<|.seq<|.r<|.c .m<|.c (.ln 64 7 112)<|.c .m<|.nn<|.block ?_
  refine .loopK (fun m σ=>(∃i:Nat,m=l.length -i∧(i≤l.length)∧σ=[(.t 3,.v (.o (.c (.own 110 7 (i))))),eD 7 (dEs l),eN 8 (l.length:Nat),eN 9 (i:Nat),(.b 110,.b 64 7 (dR ((l.take i).map rX))),eU 110])) [(110,106)] ⟨0,rfl,by omega,rfl⟩ ⟨kW,kd,kd,kd,kb 106 rfl (.dt rfl (by first|exact dR_take (rX) hx1|exact dR_take1 (rX) hx1|rfl|(simp[dR];done))),trivial⟩ ?_
  rintro m σ ⟨i,hm0,hi,rfl⟩
  refine .r<|.c .ls<|.nn<|.seq ?_
  refine .cD rfl (fun h10=>?_) (fun h10=>?_)
  · skip
    obtain⟨x,hx1⟩:∃x_,l[i]?=some x_:=⟨_,List.getElem?_eq_getElem (by omega)⟩
    refine .skip<|ks_n<|.seq<|.block<|.r<|.c (.xL 64 7 112 rfl rfl rfl rfl rfl (rE_at hx1)) ?_
    refine .c (.lN 7)<|.c (.al 105 [.int .i64 0,.int .i64 0,.slice none 0 0,.int .i64 0,.string ByteArray.empty,.slice none 0 0,.slice none 0 0])<|.c (.sT 7 true)<|.nn<|.region<|.c .m<|.c (.bN 7) ?_
    refine .c (.cP [.tmp 14] rfl rfl rfl rfl (ih x (List.mem_of_getElem? hx1)) rfl) ?_
    refine .c (.li 64 6 0 [.tmp 15]) ?_
    refine .c (St1.appB (k':=117) (e:=64) (sz:=6) (by':=112) rfl rfl rfl rfl rfl (by kernel_rfl) rfl rfl rfl rfl (by first|(simp[dR];done)|(simp[dR];omega)) (by first|(simp[dR];done)|(simp[dR];omega)) rfl rfl rfl) ?_
    refine .c .a<|.nil<|kb_n<|ks_n<|.region<|.c .pl<|.c .m<|.nil ?_
    refine kl_k [(110,117)] ⟨i+1,rfl,by omega,rfl⟩ ⟨kW,kd,kd,kd,kb 117 rfl (.dt rfl (by first|exact dR_take (rX) hx1|exact dR_take1 (rX) hx1|rfl|(simp[dR];done))),trivial⟩
  · skip
    obtain rfl:i=l.length:=by omega
    refine .exit<|ks_e<|kl_e<|kb_hit<|ks_n<|.r<|.c .m<|.c .a<|.nn<|.ret ?_
    refine kf_wret [eD 2 (dEs l)] (Wk.keep [] rfl rfl ⟨ks rfl (.c (.fz rfl (by rw[List.take_length];first|rfl|exact List.map_congr_left fun x _=>(rE_eq x)|exact List.map_congr_left fun x _=>(rE_eq x).symm|exact congrArg dR (List.map_congr_left fun x _=>(rE_eq x).symm)|exact congrArg dR (List.map_congr_left fun x _=>(rE_eq x))) (by simp) (by omega))),trivial⟩) rfl ?_ nobox
    rfl
theorem o16Exprs_fn:∀(m:Nat) (l:List Ex),(∀e∈l,szE e<m)→l.length≤1073741824→szEs l≤1073741824→Fn Tryz.prog 197 [] [vD (dEs l)] (.o (vD (dEs l))) []
  |0,l,h,hl,hz=>o16Exprs_fn1 l hl fun x hx=>absurd (h x hx) (by omega)
  |m+1,l,h,hl,hz=>o16Exprs_fn1 l hl fun x hx=>by
    have h1:=h x hx
    have h2:=szEs_mem hx
    rw[szE_eq]at h1 h2
    have h3:=szC_le x.r
    exact o16Expr_fn1 x (by omega) (by omega) (o16Exprs_fn m x.ks (fun y hy=>by have:=szEs_mem hy;have:=List.length_pos_of_mem hy;omega) (by omega) (by omega))
theorem o16Expr_fn (e:Ex) (he:szE e≤1073741824):Fn Tryz.prog 188 [] [ad (rX e)] (.o (ad (rX e))) []:=by
  rw[szE_eq]at he
  have h3:=szC_le e.r
  exact o16Expr_fn1 e (by omega) (by omega) (o16Exprs_fn (szEs e.ks+1) e.ks (fun y hy=>by have:=szEs_mem hy;omega) (by omega) (by omega))
theorem o16Stmt_fn (s:Stm) (hs:szS s≤1073741824):Fn Tryz.prog 165 [] [ad (rS s)] (.o (ad (rS s))) []:=by
  rw[szS]at hs
  have h3:=szC_le s.1
  refine Fn.code0 Tryz.func165 rfl rfl rfl rfl ?_
  refine .r<|.c (St1.boxB (k':=101) rfl rfl rfl rfl rfl rfl rfl)<|.c (.al 102 [.string ByteArray.empty,.slice none 0 0,.int .i64 0,.int .i64 0,.slice none 0 0,.int .i64 0,.string ByteArray.empty,.slice none 0 0,.slice none 0 0])<|.r<|.c (.fB 0 1 true)<|.c (.bN 2) ?_
  refine .c (.cP [.tmp 4] rfl rfl rfl rfl (o16Acc_fn s.1 (by omega)) rfl) ?_
  refine .c (.fB 0 1 true)<|.c (.sT 2 true)<|.r<|.c (.fB 2 6 true)<|.c (.bN 7) ?_
  refine .c (.cP [.tmp 8] rfl rfl rfl rfl (o16Expr_fn s.2 (by omega)) rfl) ?_
  refine .c (.fB 2 6 true)<|.c (.sT 7 true)<|.r<|.c (.bN 9)<|.c (.sT 9 true)<|.nn<|.ret ?_
  refine kf_ret rfl ?_ nobox
  rfl
theorem o16Stmts_fn (l:List Stm) (hl:l.length≤1073741824) (hs:∀x∈l,szS x≤1073741824):Fn Tryz.prog 131 [] [vD (dMs l)] (.o (vD (dMs l))) []:=by
  refine Fn.code0 Tryz.func131 rfl rfl rfl rfl ?_
  refine .r<|.c .a<|.r ?_
  refine .c (St1.lit0 (k':=106) (e:=66) (sz:=9) (b:=true) rfl rfl rfl rfl (by kernel_rfl) rfl rfl) ?_
  refine .c .a<|.nn<|.seq<|.r<|.c .m<|.c (.ln 66 9 152)<|.c .m<|.nn<|.block ?_
  refine .loopK (fun m σ=>(∃i:Nat,m=l.length -i∧(i≤l.length)∧σ=[(.t 3,.v (.o (.c (.own 110 9 (i))))),eD 7 (dMs l),eN 8 (l.length:Nat),eN 9 (i:Nat),(.b 110,.b 66 9 (dR ((l.take i).map rS))),eU 110])) [(110,106)] ⟨0,rfl,by omega,rfl⟩ ⟨kW,kd,kd,kd,kb 106 rfl (.dt rfl (by first|exact dR_take (rS) hx1|exact dR_take1 (rS) hx1|rfl|(simp[dR];done))),trivial⟩ ?_
  rintro m σ ⟨i,hm0,hi,rfl⟩
  refine .r<|.c .ls<|.nn<|.seq ?_
  refine .cD rfl (fun h10=>?_) (fun h10=>?_)
  · skip
    obtain⟨x,hx1⟩:∃x_,l[i]?=some x_:=⟨_,List.getElem?_eq_getElem (by omega)⟩
    refine .skip<|ks_n<|.seq<|.block<|.r<|.c (.xL 66 9 152 rfl rfl rfl rfl rfl (map_at hx1)) ?_
    refine .c (.lN 9)<|.c (.al 105 [.string ByteArray.empty,.slice none 0 0,.int .i64 0,.int .i64 0,.slice none 0 0,.int .i64 0,.string ByteArray.empty,.slice none 0 0,.slice none 0 0])<|.c (.sT 9 true)<|.nn<|.region<|.c .m<|.c (.bN 9) ?_
    refine .c (.cP [.tmp 14] rfl rfl rfl rfl (o16Stmt_fn x (hs x (List.mem_of_getElem? hx1))) rfl) ?_
    refine .c (.li 66 8 0 [.tmp 15]) ?_
    refine .c (St1.appB (k':=117) (e:=66) (sz:=8) (by':=152) rfl rfl rfl rfl rfl (by kernel_rfl) rfl rfl rfl rfl (by first|(simp[dR];done)|(simp[dR];omega)) (by first|(simp[dR];done)|(simp[dR];omega)) rfl rfl rfl) ?_
    refine .c .a<|.nil<|kb_n<|ks_n<|.region<|.c .pl<|.c .m<|.nil ?_
    refine kl_k [(110,117)] ⟨i+1,rfl,by omega,rfl⟩ ⟨kW,kd,kd,kd,kb 117 rfl (.dt rfl (by first|exact dR_take (rS) hx1|exact dR_take1 (rS) hx1|rfl|(simp[dR];done))),trivial⟩
  · skip
    obtain rfl:i=l.length:=by omega
    refine .exit<|ks_e<|kl_e<|kb_hit<|ks_n<|.r<|.c .m<|.c .a<|.nn<|.ret ?_
    refine kf_wret [eD 2 (dMs l)] (Wk.keep [] rfl rfl ⟨ks rfl (.c (.fz rfl (by first|(rw[List.take_length];done)|(rw[List.take_length];rfl)) (by simp) (by omega))),trivial⟩) rfl ?_ nobox
    rfl
theorem o16Part_fn (q:Prt) (h1:szLs q.1≤1073741824) (h2:q.2.length≤1073741824) (h3:∀x∈q.2,szS x≤1073741824):Fn Tryz.prog 92 [] [ad (rP q)] (.o (ad (rP q))) []:=by
  have hz:q.1.length≤szLs q.1:=by rw[szLs];omega
  refine Fn.code0 Tryz.func92 rfl rfl rfl rfl ?_
  refine .r<|.c (St1.boxB (k':=101) rfl rfl rfl rfl rfl rfl rfl)<|.c (.al 102 [.slice none 0 0,.slice none 0 0])<|.r<|.c (.fB 0 0 false)<|.c (.b1 1) ?_
  refine .c (.cP [.tmp 4] rfl rfl rfl rfl (o16Loops_fn q.1 (by omega) (fun x hx=>by have:=szLs_mem hx;omega)) rfl) ?_
  refine .c (.fB 0 0 false)<|.c (.sT 1 false)<|.r<|.c (.fB 1 0 false)<|.c (.b1 1) ?_
  refine .c (.cP [.tmp 8] rfl rfl rfl rfl (o16Stmts_fn q.2 h2 h3) rfl) ?_
  refine .c (.fB 1 0 false)<|.c (.sT 1 false)<|.r<|.c (.bN 2)<|.c (.sT 2 true)<|.nn<|.ret ?_
  refine kf_ret rfl ?_ nobox
  rfl
theorem o16Parts_fn (l:List Prt) (hl:l.length≤1073741824) (hs:∀x∈l,szLs x.1≤1073741824∧x.2.length≤1073741824∧∀y∈x.2,szS y≤1073741824):Fn Tryz.prog 50 [] [vD (dPts l)] (.o (vD (dPts l))) []:=by
  refine Fn.code0 Tryz.func50 rfl rfl rfl rfl ?_
  refine .r<|.c .a<|.r ?_
  refine .c (St1.lit0 (k':=106) (e:=80) (sz:=2) (b:=true) rfl rfl rfl rfl (by kernel_rfl) rfl rfl) ?_
  refine .c .a<|.nn<|.seq<|.r<|.c .m<|.c (.ln 80 2 48)<|.c .m<|.nn<|.block ?_
  refine .loopK (fun m σ=>(∃i:Nat,m=l.length -i∧(i≤l.length)∧σ=[(.t 3,.v (.o (.c (.own 110 2 (i))))),eD 7 (dPts l),eN 8 (l.length:Nat),eN 9 (i:Nat),(.b 110,.b 80 2 (dR ((l.take i).map rP))),eU 110])) [(110,106)] ⟨0,rfl,by omega,rfl⟩ ⟨kW,kd,kd,kd,kb 106 rfl (.dt rfl (by first|exact dR_take (rP) hx1|exact dR_take1 (rP) hx1|rfl|(simp[dR];done))),trivial⟩ ?_
  rintro m σ ⟨i,hm0,hi,rfl⟩
  refine .r<|.c .ls<|.nn<|.seq ?_
  refine .cD rfl (fun h10=>?_) (fun h10=>?_)
  · skip
    obtain⟨x,hx1⟩:∃x_,l[i]?=some x_:=⟨_,List.getElem?_eq_getElem (by omega)⟩
    refine .skip<|ks_n<|.seq<|.block<|.r<|.c (.xL 80 2 48 rfl rfl rfl rfl rfl (map_at hx1)) ?_
    refine .c (.lN 2)<|.c (.al 105 [.slice none 0 0,.slice none 0 0])<|.c (.sT 2 true)<|.nn<|.region<|.c .m<|.c (.bN 2) ?_
    refine .c (.cP [.tmp 14] rfl rfl rfl rfl (o16Part_fn x (hs x (List.mem_of_getElem? hx1)).1 (hs x (List.mem_of_getElem? hx1)).2.1 (hs x (List.mem_of_getElem? hx1)).2.2) rfl) ?_
    refine .c (.li 80 1 0 [.tmp 15]) ?_
    refine .c (St1.appB (k':=117) (e:=80) (sz:=1) (by':=48) rfl rfl rfl rfl rfl (by kernel_rfl) rfl rfl rfl rfl (by first|(simp[dR];done)|(simp[dR];omega)) (by first|(simp[dR];done)|(simp[dR];omega)) rfl rfl rfl) ?_
    refine .c .a<|.nil<|kb_n<|ks_n<|.region<|.c .pl<|.c .m<|.nil ?_
    refine kl_k [(110,117)] ⟨i+1,rfl,by omega,rfl⟩ ⟨kW,kd,kd,kd,kb 117 rfl (.dt rfl (by first|exact dR_take (rP) hx1|exact dR_take1 (rP) hx1|rfl|(simp[dR];done))),trivial⟩
  · skip
    obtain rfl:i=l.length:=by omega
    refine .exit<|ks_e<|kl_e<|kb_hit<|ks_n<|.r<|.c .m<|.c .a<|.nn<|.ret ?_
    refine kf_wret [eD 2 (dPts l)] (Wk.keep [] rfl rfl ⟨ks rfl (.c (.fz rfl (by first|(rw[List.take_length];done)|(rw[List.take_length];rfl)) (by simp) (by omega))),trivial⟩) rfl ?_ nobox
    rfl
theorem o16Arr_fn (x:Arr) (hx:x.2.length≤1073741824):Fn Tryz.prog 91 [] [ad (rR x)] (.o (ad (rR x))) []:=by
  refine Fn.code0 Tryz.func91 rfl rfl rfl rfl ?_
  refine .r<|.c (St1.boxB (k':=101) rfl rfl rfl rfl rfl rfl rfl)<|.c (.al 102 [.string ByteArray.empty,.slice none 0 0])<|.r ?_
  refine .c (St1.lit0 (k':=103) (e:=3) (sz:=1) (b:=true) rfl rfl rfl rfl (by kernel_rfl) rfl rfl) ?_
  refine .c (.fB 1 0 false)<|.c (.b1 1) ?_
  refine .c (St1.appB (k':=106) (e:=3) (sz:=0) (by':=8) rfl rfl rfl rfl rfl (by kernel_rfl) rfl rfl rfl rfl (by first|(simp[dR];done)|(simp[dR];omega)) (by first|(simp[dR];done)|(simp[dR];omega)) rfl rfl rfl) ?_
  refine .c (.fB 1 0 false)<|.c (.sT 1 false)<|.r<|.c (.bN 2)<|.c (.sT 2 true)<|.nn<|.ret ?_
  refine kf_wret [eB 2 100 2,(.b 100,.b 45 2 [[.d (dS x.1),.d (dIs x.2)]]),eU 100] (Wk.keep [(100,102)] rfl rfl ⟨kX,kb 102 rfl (.r2 .dt (.fz rfl (by rfl) (by simp[dIs]) (by rw[List.length_map];omega))),trivial⟩) rfl ?_ nobox
  rfl
theorem o16Arrs_fn (l:List Arr) (hl:l.length≤1073741824) (hs:∀x∈l,x.2.length≤1073741824):Fn Tryz.prog 49 [] [vD (dRs l)] (.o (vD (dRs l))) []:=by
  refine Fn.code0 Tryz.func49 rfl rfl rfl rfl ?_
  refine .r<|.c .a<|.r ?_
  refine .c (St1.lit0 (k':=106) (e:=45) (sz:=2) (b:=true) rfl rfl rfl rfl (by kernel_rfl) rfl rfl) ?_
  refine .c .a<|.nn<|.seq<|.r<|.c .m<|.c (.ln 45 2 40)<|.c .m<|.nn<|.block ?_
  refine .loopK (fun m σ=>(∃i:Nat,m=l.length -i∧(i≤l.length)∧σ=[(.t 3,.v (.o (.c (.own 110 2 (i))))),eD 7 (dRs l),eN 8 (l.length:Nat),eN 9 (i:Nat),(.b 110,.b 45 2 (dR ((l.take i).map rR))),eU 110])) [(110,106)] ⟨0,rfl,by omega,rfl⟩ ⟨kW,kd,kd,kd,kb 106 rfl (.dt rfl (by first|exact dR_take (rR) hx1|exact dR_take1 (rR) hx1|rfl|(simp[dR];done))),trivial⟩ ?_
  rintro m σ ⟨i,hm0,hi,rfl⟩
  refine .r<|.c .ls<|.nn<|.seq ?_
  refine .cD rfl (fun h10=>?_) (fun h10=>?_)
  · skip
    obtain⟨x,hx1⟩:∃x_,l[i]?=some x_:=⟨_,List.getElem?_eq_getElem (by omega)⟩
    refine .skip<|ks_n<|.seq<|.block<|.r<|.c (.xL 45 2 40 rfl rfl rfl rfl rfl (map_at hx1)) ?_
    refine .c (.lN 2)<|.c (.al 105 [.string ByteArray.empty,.slice none 0 0])<|.c (.sT 2 true)<|.nn<|.region<|.c .m<|.c (.bN 2) ?_
    refine .c (.cP [.tmp 14] rfl rfl rfl rfl (o16Arr_fn x (by have:=hs x (List.mem_of_getElem? hx1);omega)) rfl) ?_
    refine .c (.li 45 1 0 [.tmp 15]) ?_
    refine .c (St1.appB (k':=117) (e:=45) (sz:=1) (by':=40) rfl rfl rfl rfl rfl (by kernel_rfl) rfl rfl rfl rfl (by first|(simp[dR];done)|(simp[dR];omega)) (by first|(simp[dR];done)|(simp[dR];omega)) rfl rfl rfl) ?_
    refine .c .a<|.nil<|kb_n<|ks_n<|.region<|.c .pl<|.c .m<|.nil ?_
    refine kl_k [(110,117)] ⟨i+1,rfl,by omega,rfl⟩ ⟨kW,kd,kd,kd,kb 117 rfl (.dt rfl (by first|exact dR_take (rR) hx1|exact dR_take1 (rR) hx1|rfl|(simp[dR];done))),trivial⟩
  · skip
    obtain rfl:i=l.length:=by omega
    refine .exit<|ks_e<|kl_e<|kb_hit<|ks_n<|.r<|.c .m<|.c .a<|.nn<|.ret ?_
    refine kf_wret [eD 2 (dRs l)] (Wk.keep [] rfl rfl ⟨ks rfl (.c (.fz rfl (by first|(rw[List.take_length];done)|(rw[List.take_length];rfl)) (by simp) (by omega))),trivial⟩) rfl ?_ nobox
    rfl
structure OwnG0 (g:Prg):Prop where
  n1:g.1.length≤1073741824
  n2:g.2.length≤1073741824
  arr:∀x∈g.1,x.2.length≤1073741824
  part:∀x∈g.2,szLs x.1≤1073741824∧x.2.length≤1073741824∧∀y∈x.2,szS y≤1073741824
theorem o16Prg_fn (g:Prg) (hG:OwnG0 g):Fn Tryz.prog 19 [] [ad (rG g)] (.o (ad (rG g))) []:=by
  refine Fn.code0 Tryz.func19 rfl rfl rfl rfl ?_
  refine .r<|.c (St1.boxB (k':=101) rfl rfl rfl rfl rfl rfl rfl)<|.c (.al 102 [.slice none 0 0,.slice none 0 0])<|.r<|.c (.fB 0 0 false)<|.c (.b1 1) ?_
  refine .c (.cP [.tmp 4] rfl rfl rfl rfl (o16Arrs_fn g.1 hG.n1 hG.arr) rfl) ?_
  refine .c (.fB 0 0 false)<|.c (.sT 1 false)<|.r<|.c (.fB 1 0 false)<|.c (.b1 1) ?_
  refine .c (.cP [.tmp 8] rfl rfl rfl rfl (o16Parts_fn g.2 hG.n2 hG.part) rfl) ?_
  refine .c (.fB 1 0 false)<|.c (.sT 1 false)<|.r<|.c (.bN 2)<|.c (.sT 2 true)<|.nn<|.ret ?_
  refine kf_ret rfl ?_ nobox
  rfl
theorem insG_sum:∀(l:List Prt) (n:Nat),(insG n l).length=(l.map fun q=>(npR q.1).length *q.2.length).sum
  |[],n=>rfl
  |q::l,n=>by rw[insG,List.length_append,insG_sum l (n+1),insP,insT_len];rfl
theorem rG_plain (s:Prg):(rG s).all noTree=true:=rfl
theorem rG_nsl (s:Prg):∀v,D.val v∈rG s→nsl v=true:=fun v hv=>by
  have:rG s=[dRs s.1,dPts s.2]:=rfl
  rw[this]at hv
  simp[dRs,dPts]at hv
theorem sum_le {α:Type} {f:α→Nat} {l:List α} {x:α} (h:x∈l):f x≤(l.map f).sum:=by
  induction l with
  |nil=>cases h
  |cons y l ih=>
    rw[List.map_cons,List.sum_cons]
    rcases List.mem_cons.1 h with rfl|h
    ·omega
    ·have:=ih h;omega
theorem szG_parts {g:Prg} {m:Nat} (h:szG g≤m):g.1.length≤m∧g.2.length≤m∧(∀x∈g.1,x.2.length≤m)∧∀x∈g.2,szLs x.1≤m∧x.2.length≤m∧∀y∈x.2,szS y≤m:=by
  rw[szG,szO,szO]at h
  refine⟨by omega,by omega,fun x hx=>?_,fun x hx=>?_⟩
  · have h1:szR x≤(g.1.map szR).sum:=sum_le hx
    simp only[szR]at h1
    omega
  · have h1:szPt x≤(g.2.map szPt).sum:=sum_le hx
    rw[szPt,szO]at h1
    exact⟨by omega,by omega,fun y hy=>by have h2:szS y≤(x.2.map szS).sum:=sum_le hy;omega⟩
theorem heldG_ok {g:Prg} (h:szG g≤1048576):Fn Tryz.prog 12 [] [ad (mkV mTx 1 (rG g)),nat1 1] (.o (nat1 (1+(wgtV (rG g):Nat)))) []:=by
  obtain⟨h1,h2,h3,h4⟩:=szG_parts h
  have hw:wgtV (rG g)≤5 *szG g:=wgt_prg g
  exact heldG_fn g (heldArrs (by omega) fun x hx=>by have:=h3 x hx;omega) (heldPts (by omega) fun x hx=>⟨by have:=(h4 x hx).1;omega,by have:=(h4 x hx).2.1;omega,fun y hy=>by have:=(h4 x hx).2.2 y hy;omega⟩) (by omega)
set_option maxHeartbeats 3200000 in
theorem markPrgV_u (x:Prg):MarkVU Tryz.prog 11 (rG x):=by
  intro S w vs k h hS hk0 hw
  obtain⟨u0,l0,rfl,hl0⟩:=len_cons h.1
  obtain⟨u1,l1,rfl,hl1⟩:=len_cons hl0
  obtain rfl:=len_zero hl1
  clear hl0 hl1
  have ew:wgtV (rG x)=wgt (dRs x.1)+(wgt (dPts x.2)):=rfl
  have em:mkV mTx k (rG x)=[mkD mTx (k) (dRs x.1)]++([mkD mTx (k+(wgt (dRs x.1):Nat)) (dPts x.2)]):=rfl
  rw[ew]at hw ⊢
  rw[em]
  obtain⟨c0,hc0,q0⟩:∃c,wgt (dRs x.1)=c∧MarkU Tryz.prog mTx 34 (dRs x.1) c:=⟨_,rfl,markArrs_u x.1⟩
  obtain⟨c1,hc1,q1⟩:∃c,wgt (dPts x.2)=c∧MarkU Tryz.prog mTx 35 (dPts x.2) c:=⟨_,rfl,markPts_u x.2⟩
  rw[hc0,hc1]at hw ⊢
  have M0:=marked_of ((Below.refl w.heap.size w).alloc (Nat.le_refl _) (.cells #[u0,u1] 30)) S
  have HM0:=hid M0;have HB:=hid (heap_alloc_new w (.cells #[u0,u1] 30))
  have HS:=hid hS
  have HU0:=hid (h.fwd ((Below.refl w.heap.size w).alloc (Nat.le_refl _) (.cells #[u0,u1] 30)))
  have HW:=hid hw;clear hw
  clear h hS M0 ew em
  go_enter Tryz.func11,Tryz.ntmps11
  go_wp2_with fail
  obtain⟨T0,d0,s0,p0⟩:=HU0.out.part (j:=0) rfl rfl
  refine(q0 T0 _ _ _ d0 (by have:=HW.out;omega) (by have:=HW.out;omega)).mono ?_
  rintro e w1 ⟨rfl,m0,y0⟩
  have HU1:=hid (p0 _ _ m0 y0)
  have HM1:=hid (HM0.out.trans (m0.sub s0))
  have HB1:=hid ((m0.old w.heap.size (by simp) (fun h=>absurd (HS.out _ (s0 _ h)) (by omega))).trans HB.out)
  have e0:w1.cell? ⟨w.heap.size,0,none⟩=some u0:=by rw[cell_of_row w1 _ _ _ _ _ HB1.out];rfl
  have e1:w1.cell? ⟨w.heap.size,1,none⟩=some u1:=by rw[cell_of_row w1 _ _ _ _ _ HB1.out];rfl
  clear m0 y0 p0 d0
  go_wp2_with fail
  clear e0 e1
  obtain⟨T1,d1,s1,p1⟩:=HU1.out.part (j:=1) rfl rfl
  refine(q1 T1 _ _ _ d1 (by have:=HW.out;omega) (by have:=HW.out;omega)).mono ?_
  rintro e w2 ⟨rfl,m1,y1⟩
  have HU2:=hid (p1 _ _ m1 y1)
  have HM2:=hid (HM1.out.trans (m1.sub s1))
  clear m1 y1 p1 d1
  go_wp2_with fail
  go_ret
  have hw:=HW.out
  exact⟨ret_int (by omega),HM2.out,HU2.out⟩
set_option maxHeartbeats 3200000 in
theorem markPrgV_k (x:Prg):MarkVK Tryz.prog 11 (rG x):=by
  intro S w vs k h hS hk0 hw
  obtain⟨u0,l0,rfl,hl0⟩:=len_cons h.1
  obtain⟨u1,l1,rfl,hl1⟩:=len_cons hl0
  obtain rfl:=len_zero hl1
  clear hl0 hl1
  have ew:wgtV (rG x)=wgt (dRs x.1)+(wgt (dPts x.2)):=rfl
  rw[ew]at hw ⊢
  obtain⟨c0,hc0,q0⟩:∃c,wgt (dRs x.1)=c∧MarkN Tryz.prog 34 (dRs x.1) c:=⟨_,rfl,markArrs_k x.1⟩
  obtain⟨c1,hc1,q1⟩:∃c,wgt (dPts x.2)=c∧MarkN Tryz.prog 35 (dPts x.2) c:=⟨_,rfl,markPts_k x.2⟩
  have M0:=marked_of ((Below.refl w.heap.size w).alloc (Nat.le_refl _) (.cells #[u0,u1] 30)) S
  have HM0:=hid M0;have HB:=hid (heap_alloc_new w (.cells #[u0,u1] 30))
  have HS:=hid hS
  have HU0:=hid (DrKs.mark h M0)
  have HW:=hid hw;clear hw
  clear h hS M0 ew
  go_enter Tryz.func11,Tryz.ntmps11
  go_wp2_with fail
  refine(q0 S _ _ _ (HU0.out.2 0 _ _ rfl rfl) (by have:=HW.out;omega) (by have:=HW.out;omega)).mono ?_
  rintro e w1 ⟨rfl,m0⟩
  have HU1:=hid (DrKs.mark HU0.out m0)
  have HM1:=hid (HM0.out.trans m0)
  have HB1:=hid ((m0.old w.heap.size (by simp) (fun h=>absurd (HS.out _ h) (by omega))).trans HB.out)
  have e0:w1.cell? ⟨w.heap.size,0,none⟩=some u0:=by rw[cell_of_row w1 _ _ _ _ _ HB1.out];rfl
  have e1:w1.cell? ⟨w.heap.size,1,none⟩=some u1:=by rw[cell_of_row w1 _ _ _ _ _ HB1.out];rfl
  clear m0
  go_wp2_with fail
  clear e0 e1
  refine(q1 S _ _ _ (HU1.out.2 1 _ _ rfl rfl) (by have:=HW.out;omega) (by have:=HW.out;omega)).mono ?_
  rintro e w2 ⟨rfl,m1⟩
  have HU2:=hid (DrKs.mark HU1.out m1)
  have HM2:=hid (HM1.out.trans m1)
  clear m1
  go_wp2_with fail
  go_ret
  have hw:=HW.out
  exact⟨ret_int (by omega),HM2.out⟩
theorem prgV_part {g:Prg} (h:prgV g=true) {x:Prt} (hx:x∈g.2):prtV g.1 x=true:=by
  unfold prgV prgS at h
  simp only[Bool.and_eq_true,decide_eq_true_eq,List.all_eq_true]at h
  exact h.1.2.2 x hx
theorem own_of {g:Prg} (hs:szG g≤1048576) (hv:prgV g=true):OwnG g:=by
  obtain⟨h1,h2,h3,h4⟩:=szG_parts hs
  refine⟨by omega,by omega,fun x hx=>by have:=h3 x hx;omega,fun x hx=>⟨by have:=(h4 x hx).1;omega,by have:=(h4 x hx).2.1;omega,fun y hy=>by have:=(h4 x hx).2.2 y hy;omega,fun y hy=>mapS_id ((prtV_iff.1 (prgV_part hv hx)).2.2.1 y hy)⟩⟩
theorem own0_of {g:Prg} (hs:szG g≤1048576):OwnG0 g:=by
  obtain⟨h1,h2,h3,h4⟩:=szG_parts hs
  exact⟨by omega,by omega,fun x hx=>by have:=h3 x hx;omega,fun x hx=>⟨by have:=(h4 x hx).1;omega,by have:=(h4 x hx).2.1;omega,fun y hy=>by have:=(h4 x hx).2.2 y hy;omega⟩⟩
theorem copy_of (g:Prg) (hv:prgV g=true) (hs:szG g≤1073741824):Fn Tryz.prog 21 [] [ad (rG g)] (.o (ad (rG g))) []:=by
  obtain⟨h1,h2,h3,h4⟩:=szG_parts hs
  exact l4Copy_fn g h1 h2 h3 fun x hx=>⟨smN_of (okP_iff.1 (prtV_iff.1 (prgV_part hv hx)).1).1,(h4 x hx).2.1,(h4 x hx).2.2⟩
section
variable {P : Program} {n : Nat} {ops : Array Oper} {o : Oper} {σ : St} {d : Nat} {t e : TypeId} {x y : Operand} {k sz by' m i : Nat} {p : Int} {rows : List (List C)}
theorem St1.sliceToB (h4:(o.op,o.guard,o.dst,Nat.blt d n)=(Op.slice t x none (some y) none,none,some d,true)) (ht:tyS P t=some (e,sz,by')) (hx:ev σ x=some (.o (.c (.own k sz m)))) (hb:lk σ (.b k)= .b e sz rows) (hy:ev σ y=some (.o (nat1 p))) (hp:p=(i:Int)) (hi:i≤m):
    St1 P n ops o σ ((rd x++rd y)++[.b k]) [.t d] ((.t d,.v (.o (.c (.own k sz i))))::σ):=by
  simp only[Prod.mk.injEq]at h4
  obtain⟨ho,hg,hd,hn⟩:=h4
  exact St1.value hg hd hn fun E bx τ a w hR hs=>by
    subst hp
    have hk:τ (.b k)= .b e sz rows:=(rd_r hR _ (by simp)).trans hb
    obtain⟨cap,e1,c1,c2,c3⟩:=ev_own hx (rd_l (rd_l hR)) hs (Al_of hk)
    obtain⟨hu,_⟩:=tyS_out ht
    have hrefs:=(ev_ok hx (rd_l (rd_l hR)) hs).2
    refine⟨⟨.slice (some ⟨(bx k).1,0,none⟩) i cap,?_,⟨rfl,fun _=>⟨cap,rfl,by omega,c2,c3⟩⟩⟩,hrefs⟩
    have hbd:0≤(i:Int)∧(i:Int)≤(cap:Int):=by omega
    simp[execOp,ho,e1,ev_val hy (rd_r (rd_l hR)) hs,sliceAt_list ht,Instr.slice,run_underlying hu,Instr.sliceBounds,Instr.sliceBound,asIntOf,hbd,run_sizeE ht]
    rw[if_pos (by omega)]
    simp[Addr.add]
def tyC (P:Program) (t:TypeId):Bool:=match P.underlying t with
  |some (.slice e)=>match P.info? e with
    |some i=>match i.zero with
      |some z=>Nat.beq z.cells.size i.size&&(Nat.blt 0 i.size&&z.cells.toList.all fun v=>v.oneCell')
      |none=>false
    |none=>false
  |_=>false
theorem zeroCells_ok {zs:Array Value} {q:Nat} (h0:0<zs.size) (h:∀v∈zs.toList,v.oneCell'=true):(Builtin.zeroCells zs q).toList.length=q *zs.size∧∀v∈(Builtin.zeroCells zs q).toList,v.oneCell'=true:=by
  refine⟨by simp[Builtin.zeroCells],fun v hv=>?_⟩
  simp only[Builtin.zeroCells,Array.toList_map,List.mem_map]at hv
  obtain⟨j,_,rfl⟩:=hv
  have hj:j % zs.size<zs.size:=Nat.mod_lt _ h0
  rw[getElem!_pos zs _ hj]
  exact h _ (Array.mem_toList_iff.2 (Array.getElem_mem hj))
theorem run_clear_own {w:World} {b q c s:Nat} {cur:Array Value} (hc:tyC P t=true) (ht:tyS P t=some (e,sz,by')) (hw:w.heap[b]?=some (.cells cur e (0,0))) (hq:0<q) (hs:s+q *sz≤cur.size) {ty:TypeId}:
    ∃vs:List Value,vs.length=q *sz∧(Builtin.clear_ #[t] ty #[.slice (some ⟨b,s,none⟩) q c]).run P w= .ok (.tuple #[]) (w.setCells b s vs):=by
  obtain⟨hu,i,hi,hsz,_⟩:=tyS_out ht
  simp only[tyC,hu,hi]at hc
  cases hz:i.zero with
  |none=>rw[hz]at hc;cases hc
  |some z=>
    rw[hz]at hc
    simp only[Bool.and_eq_true]at hc
    obtain⟨h1,h2,h3⟩:=hc
    have h1':=Nat.eq_of_beq_eq_true h1
    have h2':0<i.size:=by simpa using h2
    obtain⟨g1,g2⟩:=zeroCells_ok (zs:=z.cells) (q:=q) (by omega) (fun v hv=>List.all_eq_true.1 h3 v hv)
    refine⟨(Builtin.zeroCells z.cells q).toList,by rw[g1,h1',hsz],?_⟩
    have hst:=run_storeCells_cells (P:=P) b s (Builtin.zeroCells z.cells q).toList 0 w (fun j hj=>by rw[cell_of_row w _ _ _ _ _ hw,Array.getElem?_eq_getElem (by rw[g1,h1',hsz]at hj;omega)];rfl) (fun j hj=>by simp[World.frozen?,hw]) g2
    simp only[Nat.add_zero]at hst
    obtain⟨q',rfl⟩:∃q',q=q'+1:=⟨q -1,by omega⟩
    simp[Builtin.clear_,run_underlying hu,zeroValue,typeInfo,hi,hz,hst]
/-! ### The last rows of a slice of the call's own, read on -/
theorem ev_off {E:Env} {bx:Nat→Nat×Nat} {τ:Res→RC} {a:Act} {w:World} {k sz i m:Nat} (h:ev σ x=some (.o (.c (.off k sz i m)))) (hr:∀r∈rd x,τ r=lk σ r) (hs:SR E bx τ a w) (hk:Al τ k):
    ∃cap,a.eval x= .slice (some ⟨(bx k).1,i *sz,none⟩) m cap∧m≤cap∧cap≤maxLen:=(ev_ok h hr hs).1.2 hk
theorem St1.sliceFromB (h4:(o.op,o.guard,o.dst,Nat.blt d n)=(Op.slice t x (some y) none none,none,some d,true)) (ht:tyS P t=some (e,sz,by')) (hx:ev σ x=some (.o (.c (.own k sz m)))) (hb:lk σ (.b k)= .b e sz rows) (hy:ev σ y=some (.o (nat1 p))) (hp:p=(i:Int)) (hi:i<m):
    St1 P n ops o σ ((rd x++rd y)++[.b k]) [.t d] ((.t d,.v (.o (.c (.off k sz i (m -i)))))::σ):=by
  simp only[Prod.mk.injEq]at h4
  obtain⟨ho,hg,hd,hn⟩:=h4
  exact St1.value hg hd hn fun E bx τ a w hR hs=>by
    subst hp
    have hk:τ (.b k)= .b e sz rows:=(rd_r hR _ (by simp)).trans hb
    obtain⟨cap,e1,c1,c2,c3⟩:=ev_own hx (rd_l (rd_l hR)) hs (Al_of hk)
    obtain⟨hu,_⟩:=tyS_out ht
    have hrefs:=(ev_ok hx (rd_l (rd_l hR)) hs).2
    refine⟨⟨.slice (some ⟨(bx k).1,i *sz,none⟩) (m -i) (cap -i),?_,⟨rfl,fun _=>⟨cap -i,rfl,by omega,by omega⟩⟩⟩,hrefs⟩
    have hbd:0≤(i:Int)∧(i:Int)≤(m:Int):=by omega
    simp[execOp,ho,e1,ev_val hy (rd_r (rd_l hR)) hs,sliceAt_list ht,Instr.slice,run_underlying hu,Instr.sliceBounds,Instr.sliceBound,asIntOf,hbd,run_sizeE ht]
    rw[if_pos (by omega),if_neg (by omega)]
    simp[Addr.add]
    exact fun h=>h.symm
theorem Cto.of {σ:St} {inv:Inv} {k k' sz i n m:Nat} (hn:n=m:=by first|rfl|omega) (h:(k',k)∈inv:=by first|decide|simp):Cto σ inv (.off k sz i n) (.off k' sz i m):=.off _ _ _ _ _ _ h hn
end
section
variable {P : Program} {n : Nat} {ops : Array Oper} {o : Oper} {σ : St} {d : Nat} {t e : TypeId} {x y : Operand} {k sz by' m i j q : Nat} {p : Int} {rows : List (List C)}
theorem AOps.sl3 {z u:Operand} {l:List Oper} {K:St→Prop} {p2:Int} (h4:(o.op,o.guard,o.dst,Nat.blt d n)=(Op.slice t x (some y) (some z) (some u),none,some d,true)) (ht:tyS P t=some (e,sz,by')) (hx:ev σ x=some (.o (.c (.own k sz m)))) (hb:lk σ (.b k)= .b e sz rows) (hy:ev σ y=some (.o (nat1 p))) (hz:ev σ z=some (.o (nat1 p2))) (hu:ev σ u=some (.o (nat1 (m:Nat)))) (hp:0≤p∧p≤p2∧p2≤(m:Nat))
    (kk:AOps P n ops l K ((.t d,.no)::σ)):AOps P n ops (o::l) K σ:=by
  simp only[Prod.mk.injEq]at h4
  obtain⟨ho,hg,hd,hn⟩:=h4
  intro E bx a w hE hs Q hQ
  obtain⟨cap,e1,c1,c2,c3⟩:=ev_own hx (fun _ _=>rfl) hs (Al_of hb)
  obtain⟨hun,_⟩:=tyS_out ht
  refine wpList_step fun KK hKK=>?_
  rw[if_pos (by simp[Region.wanted,hg])]
  unfold Oper.wp
  obtain⟨p1,rfl⟩:∃p1:Nat,p=p1:=⟨p.toNat,by omega⟩
  obtain⟨p3,rfl⟩:∃p3:Nat,p2=p3:=⟨p2.toNat,by omega⟩
  have b1:0≤(m:Int)∧(m:Int)≤(cap:Int):=by omega
  have b2:0≤(p3:Int)∧(p3:Int)≤(m:Int):=by omega
  have b3:0≤(p1:Int)∧(p1:Int)≤(p3:Int):=by omega
  obtain⟨v,hrun⟩:∃v,(execOp a.eval o).run P w= .ok (.value v) w:=by
    simp[execOp,ho,e1,ev_val hy (fun _ _=>rfl) hs,ev_val hz (fun _ _=>rfl) hs,ev_val hu (fun _ _=>rfl) hs,sliceAt_list ht,Instr.slice,run_underlying hun,Instr.sliceBounds,Instr.sliceBound,asIntOf,b1,b2,b3,run_sizeE ht]
    rw[if_pos (by omega),if_pos (by omega),if_pos (by omega)]
    exact⟨_,rfl⟩
  rw[hrun,Oper.upon_value,hd]
  refine hKK _ _ ?_
  exact kk E bx _ _ hE (by rw[lk_cons];exact hs.drop _) Q hQ
theorem St1.sliceEndB (h4:(o.op,o.guard,o.dst,Nat.blt d n)=(Op.slice t x (some y) none none,none,some d,true)) (ht:tyS P t=some (e,sz,by')) (hx:ev σ x=some (.o (.c (.own k sz m)))) (hb:lk σ (.b k)= .b e sz rows) (hy:ev σ y=some (.o (nat1 p))) (hp:p=(m:Int)):
    St1 P n ops o σ ((rd x++rd y)++[.b k]) [.t d] ((.t d,.v (.o (.c (.d (.list sz [])))))::σ):=by
  simp only[Prod.mk.injEq]at h4
  obtain⟨ho,hg,hd,hn⟩:=h4
  exact St1.value hg hd hn fun E bx τ a w hR hs=>by
    subst hp
    have hk:τ (.b k)= .b e sz rows:=(rd_r hR _ (by simp)).trans hb
    obtain⟨cap,e1,c1,c2,c3⟩:=ev_own hx (rd_l (rd_l hR)) hs (Al_of hk)
    obtain⟨hu,_⟩:=tyS_out ht
    have hbd:0≤(m:Int)∧(m:Int)≤(m:Int):=by omega
    have hrun:∃ad,(execOp a.eval o).run P w= .ok (.value (.slice (some ad) 0 (cap -m))) w:=by
      simp[execOp,ho,e1,ev_val hy (rd_r (rd_l hR)) hs,sliceAt_list ht,Instr.slice,run_underlying hu,Instr.sliceBounds,Instr.sliceBound,asIntOf,hbd,run_sizeE ht]
      by_cases hc:cap=m
      ·rw[if_pos hc];exact⟨_,rfl⟩
      ·rw[if_neg hc];exact⟨_,rfl⟩
    obtain⟨ad,hrun⟩:=hrun
    exact⟨⟨_,hrun,Dr.list sz [] (some ad) 0 (cap -m) 0 0 (fun _ _=>undef) rfl (Nat.zero_le _) (Nat.zero_le _) (fun h=>by cases h) (fun h=>absurd h (Nat.lt_irrefl _)) (fun i r h=>by simp at h) (fun i r j x h=>by simp at h) (fun i r j x h=>by simp at h)⟩,fun k hk=>by cases hk⟩
variable {s : Operand} {ts : Array TypeId}
theorem St1.appZ (h4:(o.op,o.guard,o.dst,Nat.blt d n)=(Op.call {callee:=.builtin .append,args:=#[s,x],argTypes:=ts},none,some d,true)) (hts:ts=#[t,t]) (ht:tyA P t=some (e,sz,by',sz)) (hs':ev σ s=some (.o (.c (.own k sz i)))) (hb:lk σ (.b k)= .b e sz rows) (hx:ev σ x=some (.o (.c (.d (.list sz []))))):
    St1 P n ops o σ ((rd s++rd x)++[.b k]) [.t d] ((.t d,.v (.o (.c (.own k sz i))))::σ):=by
  simp only[Prod.mk.injEq]at h4
  obtain⟨ho,hg,hd,hn⟩:=h4
  exact St1.value hg hd hn fun E bx τ a w hR hs=>by
    subst hts
    have hk:τ (.b k)= .b e sz rows:=(rd_r hR _ (by simp)).trans hb
    obtain⟨cap,e1,c1,c2,c3⟩:=ev_own hs' (rd_l (rd_l hR)) hs (Al_of hk)
    obtain⟨cur,h1,h2,h3,h4,h5⟩:=hs.box k e _ rows hk
    obtain⟨hu,i0,z,hi,hz,hs1,hs2,hs3⟩:=tyA_out ht
    obtain⟨ad,c,e2,q1,q2,q3,q4⟩:=(ev_list hx (rd_r (rd_l hR)) hs).slice
    have hrefs:=(ev_ok hs' (rd_l (rd_l hR)) hs).2
    have hown:w.ownsRow 0 e sz (.slice (some ⟨(bx k).1,0,none⟩) i cap) i (cur.toList.take (i *sz)):=by
      refine⟨?_,.inr ⟨(bx k).1,cap,cur,rfl,Nat.zero_le _,h1,c1,c2,by rw[h2];exact c3.symm,rfl⟩⟩
      have:=Nat.mul_le_mul_right sz c1
      rw[List.length_take,Array.length_toList];omega
    have hrun:(Builtin.append_ #[t,t] o.type #[.slice (some ⟨(bx k).1,0,none⟩) i cap,.slice ad ([]:List (List D)).length c]).run P w= .ok (.slice (some ⟨(bx k).1,0,none⟩) i cap) w:=by
      cases ad with
      |none=>
        have:=q3 rfl
        subst this
        exact run_append_owned_none (P:=P) w 0 t o.type e i0 sz hu hi _ i _ hown
      |some ad=>
        have:=run_append_room_cells (P:=P) w t o.type e i0 hu hi (bx k).1 0 i cap ad 0 c [] (by simp) (fun j u h=>by simp at h) (fun u h=>by simp at h) (by omega) (fun j h=>by simp at h) (fun j h=>by simp at h)
        exact this
    exact⟨⟨_,exec_app ho w w _ (by rw[e1,e2];exact hrun),⟨rfl,fun _=>⟨cap,rfl,c1,c2,c3⟩⟩⟩,hrefs⟩
theorem mid_at {α:Type} {l:List α} {i j q:Nat} (hi:i≤j) (hj:j+q=l.length) (r:Nat):(l.take i++(l.drop j++l.drop (i+q)))[r]?=if r<i then l[r]? else if r<i+q then l[j+(r -i)]? else l[r]?:=by
  rw[List.getElem?_append,List.length_take,Nat.min_eq_left (by omega)]
  split
  ·rename_i h;rw[List.getElem?_take,if_pos h]
  · rw[List.getElem?_append,List.length_drop]
    split
    ·rw[List.getElem?_drop,if_pos (by omega)]
    · rw[List.getElem?_drop,if_neg (by omega)]
      congr 1;omega
theorem St1.appSelf (h4:(o.op,o.guard,o.dst,Nat.blt d n)=(Op.call {callee:=.builtin .append,args:=#[s,x],argTypes:=ts},none,some d,true)) (hts:ts=#[t,t]) (ht:tyA P t=some (e,sz+1,by',sz+1)) (hs':ev σ s=some (.o (.c (.own k (sz+1) i)))) (hb:lk σ (.b k)= .b e (sz+1) rows) (hx:ev σ x=some (.o (.c (.off k (sz+1) j q)))) (hi:i≤j) (hj:j+q=rows.length):
    St1 P n ops o σ ((rd s++rd x)++[.b k]) [.t d,.b k] ((.t d,.v (.o (.c (.own k (sz+1) (i+q)))))::(.b k,.b e (sz+1) (rows.take i++(rows.drop j++rows.drop (i+q))))::σ):=by
  simp only[Prod.mk.injEq]at h4
  obtain⟨ho,hg,hd,hn⟩:=h4
  subst hts
  refine⟨fun r hr=>?_,fun E bx τ a w hE hR hs=>OW.plain hg fun Q=>?_⟩
  · simp only[List.mem_cons,List.not_mem_nil,or_false,not_or]at hr
    rw[lk_other _ _ _ _ (fun e=>hr.1 e.symm),lk_other _ _ _ _ (fun e=>hr.2 e.symm)]
  have hk:τ (.b k)= .b e (sz+1) rows:=(rd_r hR _ (by simp)).trans hb
  obtain⟨cap,e1,c1,c2,c3⟩:=ev_own hs' (rd_l (rd_l hR)) hs (Al_of hk)
  obtain⟨cap2,e2,d1,d2⟩:=ev_off hx (rd_r (rd_l hR)) hs (Al_of hk)
  obtain⟨cur,h1,h2,h3,h4,h5⟩:=hs.box k e _ rows hk
  obtain⟨hu,i0,z,hi0,hz,hs1,hs2,hs3⟩:=tyA_out ht
  have hrefs:=(ev_ok hs' (rd_l (rd_l hR)) hs).2
  have hmc:rows.length≤cap:=by
    rw[h2,←c3]at h3
    exact Nat.le_of_mul_le_mul_right h3 (by omega)
  have hcs:cap *(sz+1)=cur.size:=by rw[h2];exact c3
  have hjs:(j+q) *(sz+1)≤cur.size:=by rw[hj];exact h3
  rw[Nat.add_mul]at hjs
  have hij:=Nat.mul_le_mul_right (sz+1) hi
  obtain⟨news,hnews⟩:∃news,news=(cur.toList.drop (j *(sz+1))).take (q *(sz+1)):=⟨_,rfl⟩
  have hlen:news.length=q *(sz+1):=by rw[hnews,List.length_take,List.length_drop,Array.length_toList];omega
  have hget:∀l,l<q *(sz+1)→news[l]?=cur[j *(sz+1)+l]?:=fun l hl=>by
    rw[hnews,List.getElem?_take,if_pos hl,List.getElem?_drop,Array.getElem?_toList]
  have hone:∀u∈news,u.oneCell'=true:=fun u hu=>by
    obtain⟨l,hl⟩:=List.mem_iff_getElem?.1 hu
    have hll:=(List.getElem?_eq_some_iff.1 hl).1
    rw[hlen]at hll
    rw[hget l hll]at hl
    have hs0:0<sz+1:=by omega
    have hdiv:l / (sz+1)<q:=(Nat.div_lt_iff_lt_mul hs0).2 hll
    have hmod:=Nat.mod_lt l hs0
    have hdm:l=l / (sz+1) *(sz+1)+l % (sz+1):=by rw[Nat.mul_comm];exact(Nat.div_add_mod l (sz+1)).symm
    obtain⟨r,hr⟩:∃r,rows[j+l / (sz+1)]?=some r:=⟨_,List.getElem?_eq_getElem (by omega)⟩
    have hrl:=h4 _ r hr
    obtain⟨c,hc⟩:∃c,r[l % (sz+1)]?=some c:=⟨_,List.getElem?_eq_getElem (by omega)⟩
    obtain⟨u',u1,u2⟩:=h5 _ r _ c hr hc
    rw[Nat.add_mul,Nat.add_assoc,←hdm,hl]at u1
    cases u1
    exact u2.one
  have hsum:i *(sz+1)+news.length≤cur.size:=by rw[hlen];omega
  have hrun:=run_append_room_cells (P:=P) w t o.type e i0 hu hi0 (bx k).1 0 i cap ⟨(bx k).1,j *(sz+1),none⟩ q cap2 news (by rw[hlen,hs1])
    (fun l u hl=>by
      have hll:=(List.getElem?_eq_some_iff.1 hl).1
      rw[hlen]at hll
      rw[hget l hll]at hl
      rw[Addr.add_lit,cell_of_row w _ _ _ _ _ h1];exact hl) hone (by omega)
    (fun l hl=>by rw[cell_of_row w _ _ _ _ _ h1,hs1,Array.getElem?_eq_getElem (by omega)];rfl) (fun l hl=>by simp[World.frozen?,h1])
  rw[hs1,Nat.zero_add]at hrun
  obtain⟨cur',f1,f2,f3⟩:=heap_setCells (bx k).1 e news (i *(sz+1)) w cur h1 hsum
  have hat:∀l,cur'[l]?=if l<i *(sz+1)then cur[l]? else if l<(i+q) *(sz+1)then cur[j *(sz+1)+(l -i *(sz+1))]? else cur[l]?:=fun l=>by
    rw[←Array.getElem?_toList,f3,List.append_assoc,List.getElem?_append,List.length_take,Array.length_toList,Nat.min_eq_left (by omega),Nat.add_mul]
    split
    ·rename_i h;rw[List.getElem?_take,if_pos h,Array.getElem?_toList]
    · rw[List.getElem?_append,hlen]
      split
      ·rw[hget _ (by assumption),if_pos (by omega)]
      · rw[List.getElem?_drop,Array.getElem?_toList,if_neg (by omega)]
        congr 1;omega
  have hrl:(rows.take i++(rows.drop j++rows.drop (i+q))).length=rows.length:=by simp;omega
  have hmid:=fun r=>mid_at (l:=rows) hi hj r
  have hnew:=hs.write (rows':=rows.take i++(rows.drop j++rows.drop (i+q))) hk (setCells_grown (bx k).1 news (i *(sz+1)) w) f1 (by rw[f2,h2]) (by rw[hrl,f2];exact h3)
    (fun l r hl=>by
      rw[hmid]at hl
      split at hl
      ·exact h4 _ r hl
      ·split at hl<;>exact h4 _ r hl)
    (fun l r c y hl hy=>by
      have hr:r.length=sz+1:=by
        rw[hmid]at hl
        split at hl
        ·exact h4 _ r hl
        ·split at hl<;>exact h4 _ r hl
      have hcl:c<sz+1:=by have:=(List.getElem?_eq_some_iff.1 hy).1;omega
      rw[hmid]at hl
      rw[hat]
      by_cases g1:l<i
      · rw[if_pos g1]at hl
        have:=Nat.mul_le_mul_right (sz+1) (show l+1≤i by omega)
        rw[Nat.add_mul]at this
        rw[if_pos (by omega)]
        exact h5 l r c y hl hy
      · rw[if_neg g1]at hl
        have g3:=Nat.mul_le_mul_right (sz+1) (show i≤l by omega)
        rw[if_neg (by omega)]
        by_cases g2:l<i+q
        · rw[if_pos g2]at hl
          have:=Nat.mul_le_mul_right (sz+1) (show l+1≤i+q by omega)
          rw[Nat.add_mul l]at this
          rw[if_pos (by omega)]
          obtain⟨u,u1,u2⟩:=h5 _ r c y hl hy
          refine⟨u,?_,u2⟩
          rw[←u1]
          congr 1
          rw[Nat.add_mul,Nat.sub_mul];omega
        · rw[if_neg g2]at hl
          have:=Nat.mul_le_mul_right (sz+1) (show i+q≤l by omega)
          rw[if_neg (by omega)]
          exact h5 l r c y hl hy)
    (fun r hr c hc l hl hu=>by
      have hr':r∈rows:=by
        rcases List.mem_append.1 hr with h|h
        ·exact List.mem_of_mem_take h
        ·rcases List.mem_append.1 h with h|h<;>exact List.mem_of_mem_drop h
      exact(hs.unused l hu).2.2 k e _ rows hk r hr' c hc hl)
  unfold Oper.wp
  rw[exec_app ho w _ _ (by rw[e1,e2];exact hrun),Oper.upon_value,hd]
  refine⟨bx,?_⟩
  have e9:ovr τ [.t d,.b k] ((.t d,.v (.o (.c (.own k (sz+1) (i+q)))))::(.b k,.b e (sz+1) (rows.take i++(rows.drop j++rows.drop (i+q))))::σ)=upd (upd τ (.b k) (.b e (sz+1) (rows.take i++(rows.drop j++rows.drop (i+q))))) (.t d) (.v (.o (.c (.own k (sz+1) (i+q))))):=by
    funext r
    simp only[ovr,lk_cons]
    by_cases r1:r= .t d
    ·subst r1;simp[upd_same]
    · by_cases r2:r= .b k
      ·subst r2;simp[upd]
      ·simp[upd,r1,r2]
  rw[e9]
  refine hnew.put (by rw[hE];simpa using hn) ⟨rfl,fun _=>⟨cap,rfl,by omega,c2,c3⟩⟩ (fun l hl=>?_)
  rw[upd_other _ _ (by simp)]
  exact hrefs l hl
theorem AOps.clrH {z:Operand} {o1 o2:Oper} {l:List Oper} {K:St→Prop} {p2:Int} (h4:(o1.op,o1.guard,o1.dst,Nat.blt d n)=(Op.slice t x (some y) (some z) none,none,some d,true)) (h5:(o2.op,o2.guard,o2.dst)=(Op.call {callee:=.builtin .clear,args:=#[.tmp d],argTypes:=#[t]},none,none))
    (ht:tyS P t=some (e,sz,by')) (hc:tyC P t=true) (hx:ev σ x=some (.o (.c (.own k sz q)))) (hb:lk σ (.b k)= .b e sz rows) (hm:rows.length=m) (hy:ev σ y=some (.o (nat1 p))) (hz:ev σ z=some (.o (nat1 p2))) (hp:p=(i:Int)) (hp2:p2=(m:Int)) (hi:i<m) (h0:0<sz)
    (kk:AOps P n ops l K ((.b k,.b e sz (rows.take i))::(.t d,.no)::σ)):AOps P n ops (o1::o2::l) K σ:=by
  simp only[Prod.mk.injEq]at h4 h5
  obtain⟨ho,hg,hd,hn⟩:=h4
  obtain⟨ho2,hg2,hd2⟩:=h5
  subst hp hp2 hm
  intro E bx a w hE hs Q hQ
  obtain⟨cap,e1,c1,c2,c3⟩:=ev_own hx (fun _ _=>rfl) hs (Al_of hb)
  obtain⟨hu,_⟩:=tyS_out ht
  obtain⟨cur,b1,b2,b3,b4,b5⟩:=hs.box k e sz rows hb
  have hmc:rows.length≤cap:=by
    rw[b2,←c3]at b3
    exact Nat.le_of_mul_le_mul_right b3 h0
  refine wpList_step fun KK hKK=>?_
  rw[if_pos (by simp[Region.wanted,hg])]
  unfold Oper.wp
  have hbd1:0≤(i:Int)∧(i:Int)≤(rows.length:Int):=by omega
  have hbd2:0≤(rows.length:Int)∧(rows.length:Int)≤(cap:Int):=by omega
  have hrun:(execOp a.eval o1).run P w= .ok (.value (.slice (some ⟨(bx k).1,i *sz,none⟩) (rows.length -i) (cap -i))) w:=by
    simp[execOp,ho,e1,ev_val hy (fun _ _=>rfl) hs,ev_val hz (fun _ _=>rfl) hs,sliceAt_list ht,Instr.slice,run_underlying hu,Instr.sliceBounds,Instr.sliceBound,asIntOf,hbd1,hbd2,run_sizeE ht]
    rw[if_pos (by omega),if_pos (by omega),if_neg (by omega)]
    simp[Addr.add]
    exact fun h=>h.symm
  rw[hrun,Oper.upon_value,hd]
  refine hKK _ _ ?_
  have hdn:d<E.n:=by rw[hE];simpa using hn
  have hs1:SR E bx (upd (lk σ) (.t d) .no) (a.put (some d) (.slice (some ⟨(bx k).1,i *sz,none⟩) (rows.length -i) (cap -i))) w:=hs.drop _
  refine wpList_step fun KK2 hKK2=>?_
  rw[if_pos (by simp[Region.wanted,hg2])]
  unfold Oper.wp
  have hle:=Nat.mul_le_mul_right sz (show i≤rows.length by omega)
  have hsum:i *sz+(rows.length -i) *sz≤cur.size:=by rw[Nat.sub_mul];omega
  obtain⟨vs,v1,v2⟩:=run_clear_own (P:=P) (w:=w) (b:=(bx k).1) (q:=rows.length -i) (c:=cap -i) (s:=i *sz) hc ht b1 (by omega) hsum (ty:=o2.type)
  have hrun2:(execOp (a.put (some d) (.slice (some ⟨(bx k).1,i *sz,none⟩) (rows.length -i) (cap -i))).eval o2).run P w= .ok (.value (.tuple #[])) (w.setCells (bx k).1 (i *sz) vs):=by
    have hda:d<a.tmps.size:=by rw[hs.size];exact hdn
    have hev:(a.put (some d) (.slice (some ⟨(bx k).1,i *sz,none⟩) (rows.length -i) (cap -i))).eval (.tmp d)= .slice (some ⟨(bx k).1,i *sz,none⟩) (rows.length -i) (cap -i):=by
      simp[Act.put,Act.eval,hda]
    simp only[execOp,ho2,resolve,invoke,builtin,Sem.run_bind,Sem.run_pure,Result.andThen_ok,List.map_toArray,List.map_cons,List.map_nil,hev,v2]
  rw[hrun2,Oper.upon_value,hd2]
  refine hKK2 _ _ ?_
  obtain⟨cur',f1,f2,f3⟩:=heap_setCells (bx k).1 e vs (i *sz) w cur b1 (by rw[v1];exact hsum)
  have hkb:upd (lk σ) (.t d) .no (.b k)= .b e sz rows:=by rw[upd_other _ _ (by simp)];exact hb
  have hnew:=hs1.write (rows':=rows.take i) hkb (setCells_grown (bx k).1 vs (i *sz) w) f1 (by rw[f2,b2]) (by rw[List.length_take,f2];exact Nat.le_trans (Nat.mul_le_mul_right sz (Nat.min_le_right _ _)) b3)
    (fun j r hj => by rw [List.getElem?_take] at hj; split at hj; · exact b4 j r hj
                      ·cases hj)
    (fun j r q c hj hq=>by
      have hj0:j<i∧rows[j]?=some r:=by
        rw[List.getElem?_take]at hj
        split at hj
        ·exact⟨by assumption,hj⟩
        ·cases hj
      obtain⟨u,u1,u2⟩:=b5 j r q c hj0.2 hq
      have hqs:q<sz:=by have:=b4 j r hj0.2;have:=(List.getElem?_eq_some_iff.1 hq).1;omega
      have hmul:=Nat.mul_le_mul_right sz (show j+1≤i by omega)
      rw[Nat.add_mul,Nat.one_mul]at hmul
      have hal:=Al_upd_t (lk σ) d .no
      have hbf:=Bf_upd_t (E:=E) (bx:=bx) (lk σ) d .no
      refine⟨u,?_,by rw[hal,hbf];exact u2⟩
      rw[←Array.getElem?_toList,f3,List.append_assoc,List.getElem?_append_left (by rw[List.length_take,Array.length_toList];omega),List.getElem?_take,if_pos (by omega),Array.getElem?_toList]
      exact u1)
    (fun r hr c hc' l hl=>by
      rw[upd_other _ _ (by simp)]
      exact fun hu'=>(hs.unused l hu').2.2 k e sz rows hb r (List.mem_of_mem_take hr) c hc' hl)
  refine kk E bx _ _ hE ?_ Q hQ
  have e9:lk ((.b k,.b e sz (rows.take i))::(.t d,.no)::σ)=upd (upd (lk σ) (.t d) .no) (.b k) (.b e sz (rows.take i)):=by rw[lk_cons,lk_cons]
  rw[e9]
  exact hnew
end
theorem index_fn (l:List Int) (n:Int) (hl:l.length≤1099511627776):Fn Tryz.prog 127 [] [vD (dIs l),nat1 n] (.o (nat1 (idxF (fun m=>decide (m=n)) l))) []:=by
  refine Fn.code0 Tryz.func127 rfl rfl rfl rfl ?_
  refine .r<|.c .a<|.nn<|.seq<|.r<|.c .m<|.c (.ln 3 1 8)<|.c .m<|.nn<|.block ?_
  refine .loopK (fun m σ=>(∃i:Nat,m=l.length -i∧(i≤l.length)∧(idxF (fun m=>decide (m=n)) l=idxG (fun m=>decide (m=n)) i (l.drop i))∧σ=[eD 0 (dIs l),eN 1 n,eN 7 (l.length:Nat),eN 8 (i:Nat)])) [] ⟨0,rfl,by omega,rfl,rfl⟩ ⟨kd,kd,kd,kd,trivial⟩ ?_
  rintro m σ ⟨i,hm0,hi,hF,rfl⟩
  refine .r<|.c .ls<|.nn<|.seq ?_
  refine .cD rfl (fun h9=>?_) (fun h9=>?_)
  · skip
    obtain⟨x,hx1⟩:∃x_,l[i]?=some x_:=⟨_,List.getElem?_eq_getElem (by omega)⟩
    refine .skip<|ks_n<|.seq<|.block<|.r<|.c .m<|.c .a<|.r<|.c .m<|.c .m<|.c .m<|.c (.xL 3 1 8) ?_
    refine .c (.l1 1)<|.c .eq<|.nn ?_
    refine .cD rfl (fun h16=>?_) (fun h16=>?_)
    · skip
      refine .r<|.c .m<|.c .a<|.nn<|.ret<|kb_r<|ks_r<|kl_r<|kb_r<|ks_r ?_
      refine kf_ret rfl ?_ nobox
      exact leafI (by rw[hF,idxG_drop hx1,if_pos (by simp;omega)])
    · skip
      refine .skip<|kb_n<|ks_n<|.region<|.c .pl<|.c .m<|.nil ?_
      refine kl_k [] ⟨i+1,rfl,by omega,by rw[hF,idxG_drop hx1,if_neg (by simp;omega)],rfl⟩ ⟨kd,kd,kd,kd,trivial⟩
  · skip
    refine .exit<|ks_e<|kl_e<|kb_hit<|ks_n<|.r<|.c .a<|.nn<|.ret ?_
    refine kf_ret rfl ?_ nobox
    exact leafI (by rw[hF,List.drop_of_length_le (by omega)];rfl)
theorem contains_fn (l:List Int) (n:Int) (hl:l.length≤1099511627776):Fn Tryz.prog 86 [] [vD (dIs l),nat1 n] (.o (bo1 (hasV l n))) []:=by
  refine Fn.code0 Tryz.func86 rfl rfl rfl rfl ?_
  refine .r<|.c .a<|.r<|.c .m<|.c .m ?_
  refine .c (.cP [.tmp 5,.tmp 6] rfl rfl rfl rfl (index_fn l n hl) rfl) ?_
  refine .c .ge<|.c .a<|.nn<|.ret ?_
  refine kf_ret rfl ?_ nobox
  exact leafB (by first|exact idxG_any|(rw[hasV,←idxG_any];rfl))
def lastW (ws:List Int) (c:Int):Nat→Int
  |0=> -1
  |k+1=>if ws[k]?=some c then(k:Int)else lastW ws c k
theorem lastW_bd {ws:List Int} {c:Int}:∀ {n:Nat}, -1≤lastW ws c n∧lastW ws c n<(n:Int)
  |0=>by simp[lastW]
  |k+1=>by
    have:=lastW_bd (ws:=ws) (c:=c) (n:=k)
    rw[lastW];split<;>omega
theorem lastW_hit {ws:List Int} {c:Int} {k:Nat} (h0:0<k) (h:ws[k -1]?=some c):lastW ws c k=(k:Int) -1:=by
  obtain⟨m,rfl⟩:∃m,k=m+1:=⟨k -1,by omega⟩
  have h':ws[m]?=some c:=h
  rw[lastW,if_pos h'];omega
theorem lastW_miss {ws:List Int} {c d:Int} {k:Nat} (h0:0<k) (h:ws[k -1]?=some d) (hne:¬d=c):lastW ws c k=lastW ws c (k -1):=by
  obtain⟨m,rfl⟩:∃m,k=m+1:=⟨k -1,by omega⟩
  have h':ws[m]?=some d:=h
  rw[lastW,if_neg (by rw[h'];intro e;cases e;exact hne rfl)];rfl
def srcs (g:Prg) (x:Ins) (i:Nat):List Int:=(usR g x).map fun c=>lastW (usWs g) c i
def markF (l:List Bool) (fs:List Int):List Bool:=fs.foldl (fun l f=>if 0≤f then l.set f.toNat true else l) l
theorem markF_len:∀ {fs:List Int} {l:List Bool},(markF l fs).length=l.length
  |[],_=>rfl
  |f::fs,l=>by
    have:=markF_len (fs:=fs) (l:=if 0≤f then l.set f.toNat true else l)
    rw[markF,List.foldl_cons]
    refine this.trans ?_
    split<;>simp
theorem markF_next {l:List Bool} {fs:List Int} {j:Nat} {f:Int} (h:fs[j]?=some f):markF l (fs.take (j+1))=if 0≤f then(markF l (fs.take j)).set f.toNat true else markF l (fs.take j):=by
  rw[List.take_add_one,h,markF,List.foldl_append];rfl
theorem markF_yes {l:List Bool} {fs:List Int} {j:Nat} {f:Int} (h:fs[j]?=some f) (h0:0≤f):markF l (fs.take (j+1))=(markF l (fs.take j)).set f.toNat true:=(markF_next h).trans (if_pos h0)
theorem markF_no {l:List Bool} {fs:List Int} {j:Nat} {f:Int} (h:fs[j]?=some f) (h0:¬ 0≤f):markF l (fs.take (j+1))=markF l (fs.take j):=(markF_next h).trans (if_neg h0)
theorem markF_keep:∀ {fs:List Int} {l:List Bool} {i:Nat},l[i]?=some true→(markF l fs)[i]?=some true
  |[],_,_,h=>h
  |f::fs,l,i,h=>by
    rw[markF,List.foldl_cons]
    refine markF_keep (fs:=fs) ?_
    split
    · rw[List.getElem?_set]
      split
      ·rw[if_pos (by rename_i e;rw[e];exact(List.getElem?_eq_some_iff.1 h).1)]
      ·exact h
    ·exact h
def stepL (g:Prg) (l:List Bool) (i:Nat):List Bool:=match (insG 0 g.2)[i]? with
  |some x=>if l.getD i false=false∧hasV ((usWs g).drop (i+1)) (usW g x)=true then l else markF (l.set i true) (srcs g x i)
  |none=>l
def lvN (g:Prg):Nat→List Bool
  |0=>List.replicate (insG 0 g.2).length false
  |d+1=>stepL g (lvN g d) ((insG 0 g.2).length -1 -d)
def liveV (g:Prg):List Bool:=lvN g (insG 0 g.2).length
theorem lvN_len {g:Prg}:∀ {d:Nat},(lvN g d).length=(insG 0 g.2).length
  |0=>List.length_replicate
  |d+1=>by
    rw[lvN,stepL]
    split
    · split
      ·exact lvN_len
      ·rw[markF_len,List.length_set];exact lvN_len
    ·exact lvN_len
theorem lvN_skip {g:Prg} {d i:Nat} {x:Ins} (hi:i+d+1=(insG 0 g.2).length) (hx:(insG 0 g.2)[i]?=some x) (h1:(lvN g d)[i]?=some false) (h2:hasV ((usWs g).drop (i+1)) (usW g x)=true):lvN g (d+1)=lvN g d:=by
  rw[lvN,show (insG 0 g.2).length -1 -d=i by omega,stepL,hx]
  exact if_pos ⟨by rw[List.getD,h1];rfl,h2⟩
theorem lvN_yes {g:Prg} {d i:Nat} {x:Ins} (hi:i+d+1=(insG 0 g.2).length) (hx:(insG 0 g.2)[i]?=some x) (h:(lvN g d)[i]?=some true∨hasV ((usWs g).drop (i+1)) (usW g x)=false):lvN g (d+1)=markF ((lvN g d).set i true) (srcs g x i):=by
  rw[lvN,show (insG 0 g.2).length -1 -d=i by omega,stepL,hx]
  refine if_neg fun⟨e1,e2⟩=>?_
  rcases h with h|h
  ·rw[List.getD,h]at e1;cases e1
  ·rw[h]at e2;cases e2
theorem set_self {l:List Bool} {i:Nat} {b:Bool} (h:l[i]?=some b):l.set i b=l:=by
  refine List.ext_getElem? fun q=>?_
  rw[List.getElem?_set]
  split
  ·rename_i e;subst e;rw[if_pos (List.getElem?_eq_some_iff.1 h).1,h]
  ·rfl
theorem hasV_take {l:List Int} {q:Nat} {m n:Int} (h:l[q]?=some m):hasV (l.take (q+1)) n=(hasV (l.take q) n||decide (m=n)):=by
  rw[List.take_add_one,h,hasV,List.any_append];simp[hasV]
theorem srcs_at {g:Prg} {x:Ins} {i j:Nat} {f:Int} (h:(srcs g x i)[j]?=some f): -1≤f∧f<(i:Int):=by
  obtain⟨c,_,rfl⟩:=List.mem_map.1 (List.mem_of_getElem? h)
  exact lastW_bd
theorem srcs_len {g:Prg} {x:Ins} {i:Nat}:(srcs g x i).length=(usR g x).length:=List.length_map _
theorem contains_drop (l:List Int) (k:Nat) (n:Int) (hl:l.length≤1099511627776):Fn Tryz.prog 86 [] [vD (.list 1 ((l.map rI).drop k)),nat1 n] (.o (bo1 (hasV (l.drop k) n))) []:=by
  rw[←List.map_drop]
  exact contains_fn _ _ (by rw[List.length_drop];omega)
theorem sources_fn {g:Prg} {i:Nat} {x:Ins} (hx1:(insG 0 g.2)[i]?=some x) (hn:(insG 0 g.2).length≤1000000) (hul:(usR g x).length≤1000):Fn Tryz.prog 87 [] [.c (.ptr (rT g)),nat1 (i:Nat)] (.o (vD (dIs (srcs g x i)))) []:=by
 have hil:=(List.getElem?_eq_some_iff.1 hx1).1
 have hR1:(usRs g)[i]?=some (usR g x):=by rw[usRs,List.getElem?_map,hx1];rfl
 have hWl:(usWs g).length=(insG 0 g.2).length:=List.length_map _
 refine Fn.code0 Tryz.func87 rfl rfl rfl rfl ?_
 refine .r<|.c .a<|.r<|.c .a<|.nn<|.seq<|.r<|.c .m<|.c .nP<|.c (.fP 3 0 false)<|.c (.l1 1)<|.c .m ?_
 refine .c (.xL 43 1 24 (i:=i) rfl rfl rfl rfl rfl (map_at hR1)) ?_
 refine .c (.l1 1)<|.c (.ln 3 1 8)<|.c .m<|.nn<|.block ?_
 refine .loopK (fun m σ=>(∃j:Nat,m=(usR g x).length -j∧(j=0)∧σ=[eP 0 (rT g),eN 1 (i:Nat),(.t 5,.v (.o (.c (nl)))),eD 15 (dIs (usR g x)),eN 16 ((usR g x).length:Nat),eN 17 (j:Nat)])∨(∃j:Nat,m=(usR g x).length -j∧(1≤j)∧(j≤(usR g x).length)∧σ=[eP 0 (rT g),eN 1 (i:Nat),(.t 5,.v (.o (.c (.own 110 1 (j))))),eD 15 (dIs (usR g x)),eN 16 ((usR g x).length:Nat),eN 17 (j:Nat),(.b 110,.b 3 1 (dR (((usR g x).take j).map (fun c=>rI (lastW (usWs g) c i))))),eU 110])) [] (.inl ⟨0,rfl,rfl,rfl⟩) ⟨kd,kd,kd,kd,kd,kd,trivial⟩ ?_
 rintro m σ (⟨j,hm0,rfl,rfl⟩|⟨j,hm0,hj1,hj,rfl⟩)
 ·skip
  refine .r<|.c .ls<|.nn<|.seq ?_
  refine .cD rfl (fun h18=>?_) (fun h18=>?_)
  ·skip
   obtain⟨c,hc1⟩:∃x_,(usR g x)[0]?=some x_:=⟨_,List.getElem?_eq_getElem (by omega)⟩
   refine .skip<|ks_n<|.seq<|.block<|.r<|.c (.xL 3 1 8 rfl rfl rfl rfl rfl (map_at hc1)) ?_
   refine .c (.l1 1)<|.c .a<|.r<|.c .m<|.c .sb<|.c .a<|.nn<|.seq<|.block ?_
   refine .loopK (fun m σ=>(∃k:Nat,m=k∧(k≤i)∧(lastW (usWs g) c i=lastW (usWs g) c k)∧σ=[eP 0 (rT g),eN 1 (i:Nat),(.t 5,.v (.o (.c (nl)))),eN 7 c,eN 8 ((k:Int) -1),eD 15 (dIs (usR g x)),eN 16 ((usR g x).length:Nat),eN 17 (0:Nat)])) [] ⟨i,rfl,Nat.le_refl _,rfl,rfl⟩ ⟨kd,kd,kd,kd,ks rfl (.dt (vI (by omega))),kd,kd,kd,trivial⟩ ?_
   rintro m σ ⟨k,hm0,hk,hF,rfl⟩
   refine .seq<|.r<|.c .m<|.c .ge<|.c .m ?_
   refine .cD 25 rfl (fun g25=>?_) (fun g25=>?_)
   ·skip
    obtain⟨w,hw1⟩:∃x_,(usWs g)[(k -1)]?=some x_:=⟨_,List.getElem?_eq_getElem (by omega)⟩
    refine .c (.g .m)<|.c (.g .nP)<|.c (.g (.fP 4 0 false))<|.c (.g (.l1 1))<|.c (.g .m) ?_
    refine .c (.gT rfl rfl rfl (.xL 3 1 8 (i:=(k -1)) rfl rfl rfl rfl (by omega) (map_at hw1))) ?_
    refine .c (.g (.l1 1))<|.c (.g .m)<|.c (.g .ne)<|.c .pT<|.nn ?_
    refine ACode.condT rfl (fun h35=>?_) (fun h35=>?_)
    ·try simp only[zs]at h35
     refine .skip<|ks_n<|.block<|.region<|.c .m<|.c .sb<|.c .a<|.nil<|kb_n ?_
     refine kl_k [] ⟨k -1,rfl,by omega,by rw[hF];exact lastW_miss (by omega) hw1 (by simp_all),rfl⟩ ⟨kd,kd,kd,kd,ks rfl (.dt (vI (by omega))),kd,kd,kd,trivial⟩
    ·try simp only[zs]at h35
     have hL:lastW (usWs g) c i=(k:Int) -1:=by rw[hF];exact lastW_hit (by omega) (by rw[hw1];simp_all)
     refine .exit<|ks_e<|kl_e<|kb_hit<|ks_n ?_
     refine .keep [eP 0 (rT g),eN 1 (i:Nat),(.t 5,.v (.o (.c (nl)))),eN 7 c,eN 8 (lastW (usWs g) c i),eD 15 (dIs (usR g x)),eN 16 ((usR g x).length:Nat),eN 17 (0:Nat)] [] ⟨kd,kd,kd,kd,ks rfl (.dt (vI hL.symm)),kd,kd,kd,trivial⟩ ?_
     refine .region<|.c .m<|.c .m<|.c (.li 3 0 0 [.tmp 39]) ?_
     refine .c (St1.appN (k':=141) (e:=3) (sz:=0) (by':=8) rfl rfl rfl rfl rfl (by kernel_rfl) rfl rfl rfl (by simp) (by first|(simp[dR];done)|(simp[dR];omega)) rfl rfl) ?_
     refine .c .a<|.nil<|kb_n<|ks_n<|.region<|.c .pl<|.c .m<|.nil ?_
     refine kl_k [(110,141)] (.inr ⟨1,rfl,by omega,by omega,rfl⟩) ⟨kd,kd,kW,kd,kd,kd,kb 141 rfl (.dt rfl (by first|exact dR_take (fun c=>rI (lastW (usWs g) c i)) hc1|exact dR_take1 (fun c=>rI (lastW (usWs g) c i)) hc1|rfl|(simp[dR];done))),trivial⟩
   ·skip
    have hL:lastW (usWs g) c i=(k:Int) -1:=by rw[hF,show k=0 by omega];rfl
    refine .c .f<|.c .f<|.c .f<|.c .f<|.c .f<|.c .f<|.c .f<|.c .f<|.c .f<|.c .pF<|.nn ?_
    refine .k0 ?_
    refine .exit<|ks_e<|kl_e<|kb_hit<|ks_n ?_
    refine .keep [eP 0 (rT g),eN 1 (i:Nat),(.t 5,.v (.o (.c (nl)))),eN 7 c,eN 8 (lastW (usWs g) c i),eD 15 (dIs (usR g x)),eN 16 ((usR g x).length:Nat),eN 17 (0:Nat)] [] ⟨kd,kd,kd,kd,ks rfl (.dt (vI hL.symm)),kd,kd,kd,trivial⟩ ?_
    refine .region<|.c .m<|.c .m<|.c (.li 3 0 0 [.tmp 39]) ?_
    refine .c (St1.appN (k':=141) (e:=3) (sz:=0) (by':=8) rfl rfl rfl rfl rfl (by kernel_rfl) rfl rfl rfl (by simp) (by first|(simp[dR];done)|(simp[dR];omega)) rfl rfl) ?_
    refine .c .a<|.nil<|kb_n<|ks_n<|.region<|.c .pl<|.c .m<|.nil ?_
    refine kl_k [(110,141)] (.inr ⟨1,rfl,by omega,by omega,rfl⟩) ⟨kd,kd,kW,kd,kd,kd,kb 141 rfl (.dt rfl (by first|exact dR_take (fun c=>rI (lastW (usWs g) c i)) hc1|exact dR_take1 (fun c=>rI (lastW (usWs g) c i)) hc1|rfl|(simp[dR];done))),trivial⟩
  ·skip
   have hnn:srcs g x i=[]:=by rw[srcs,List.eq_nil_of_length_eq_zero (show (usR g x).length=0 by omega)];rfl
   refine .exit<|ks_e<|kl_e<|kb_hit<|ks_n<|.r<|.c .m<|.c .a<|.nn<|.ret ?_
   refine kf_wret [eD 4 (dIs (srcs g x i))] (Wk.keep [] rfl rfl ⟨ks rfl (.c (Cto.nilE 1 (by rw[hnn];rfl))),trivial⟩) rfl ?_ nobox
   rfl
 ·skip
  refine .r<|.c .ls<|.nn<|.seq ?_
  refine .cD rfl (fun h18=>?_) (fun h18=>?_)
  ·skip
   obtain⟨c,hc1⟩:∃x_,(usR g x)[j]?=some x_:=⟨_,List.getElem?_eq_getElem (by omega)⟩
   refine .skip<|ks_n<|.seq<|.block<|.r<|.c (.xL 3 1 8 rfl rfl rfl rfl rfl (map_at hc1)) ?_
   refine .c (.l1 1)<|.c .a<|.r<|.c .m<|.c .sb<|.c .a<|.nn<|.seq<|.block ?_
   refine .loopK (fun m σ=>(∃k:Nat,m=k∧(k≤i)∧(lastW (usWs g) c i=lastW (usWs g) c k)∧σ=[eP 0 (rT g),eN 1 (i:Nat),(.t 5,.v (.o (.c (.own 120 1 (j))))),eN 7 c,eN 8 ((k:Int) -1),eD 15 (dIs (usR g x)),eN 16 ((usR g x).length:Nat),eN 17 (j:Nat),(.b 120,.b 3 1 (dR (((usR g x).take j).map (fun c=>rI (lastW (usWs g) c i))))),eU 120])) [(120,110)] ⟨i,rfl,Nat.le_refl _,rfl,rfl⟩ ⟨kd,kd,kW,kd,ks rfl (.dt (vI (by omega))),kd,kd,kd,kb 110 rfl (.dt rfl (by first|exact dR_take (fun c=>rI (lastW (usWs g) c i)) hc1|exact dR_take1 (fun c=>rI (lastW (usWs g) c i)) hc1|rfl|(simp[dR];done))),trivial⟩ ?_
   rintro m σ ⟨k,hm0,hk,hF,rfl⟩
   refine .seq<|.r<|.c .m<|.c .ge<|.c .m ?_
   refine .cD 25 rfl (fun g25=>?_) (fun g25=>?_)
   ·skip
    obtain⟨w,hw1⟩:∃x_,(usWs g)[(k -1)]?=some x_:=⟨_,List.getElem?_eq_getElem (by omega)⟩
    refine .c (.g .m)<|.c (.g .nP)<|.c (.g (.fP 4 0 false))<|.c (.g (.l1 1))<|.c (.g .m) ?_
    refine .c (.gT rfl rfl rfl (.xL 3 1 8 (i:=(k -1)) rfl rfl rfl rfl (by omega) (map_at hw1))) ?_
    refine .c (.g (.l1 1))<|.c (.g .m)<|.c (.g .ne)<|.c .pT<|.nn ?_
    refine ACode.condT rfl (fun h35=>?_) (fun h35=>?_)
    ·try simp only[zs]at h35
     refine .skip<|ks_n<|.block<|.region<|.c .m<|.c .sb<|.c .a<|.nil<|kb_n ?_
     refine kl_k [(120,120)] ⟨k -1,rfl,by omega,by rw[hF];exact lastW_miss (by omega) hw1 (by simp_all),rfl⟩ ⟨kd,kd,kW,kd,ks rfl (.dt (vI (by omega))),kd,kd,kd,kb 120 rfl (.dt rfl (by first|exact dR_take (fun c=>rI (lastW (usWs g) c i)) hc1|exact dR_take1 (fun c=>rI (lastW (usWs g) c i)) hc1|rfl|(simp[dR];done))),trivial⟩
    ·try simp only[zs]at h35
     have hL:lastW (usWs g) c i=(k:Int) -1:=by rw[hF];exact lastW_hit (by omega) (by rw[hw1];simp_all)
     refine .exit<|ks_e<|kl_e<|kb_hit<|ks_n ?_
     refine .keep [eP 0 (rT g),eN 1 (i:Nat),(.t 5,.v (.o (.c (.own 780 1 (j))))),eN 7 c,eN 8 (lastW (usWs g) c i),eD 15 (dIs (usR g x)),eN 16 ((usR g x).length:Nat),eN 17 (j:Nat),(.b 780,.b 3 1 (dR (((usR g x).take j).map (fun c=>rI (lastW (usWs g) c i))))),eU 780] [(780,120)] ⟨kd,kd,kW,kd,ks rfl (.dt (vI hL.symm)),kd,kd,kd,kb 120 rfl (.dt rfl (by first|exact dR_take (fun c=>rI (lastW (usWs g) c i)) hc1|exact dR_take1 (fun c=>rI (lastW (usWs g) c i)) hc1|rfl|(simp[dR];done))),trivial⟩ ?_
     refine .region<|.c .m<|.c .m<|.c (.li 3 0 0 [.tmp 39]) ?_
     refine .c (St1.appB (k':=141) (e:=3) (sz:=0) (by':=8) rfl rfl rfl rfl rfl (by kernel_rfl) rfl rfl rfl rfl (by first|(simp[dR];done)|(simp[dR];omega)) (by first|(simp[dR];done)|(simp[dR];omega)) rfl rfl rfl) ?_
     refine .c .a<|.nil<|kb_n<|ks_n<|.region<|.c .pl<|.c .m<|.nil ?_
     refine kl_k [(110,141)] (.inr ⟨j+1,rfl,by omega,by omega,rfl⟩) ⟨kd,kd,kW,kd,kd,kd,kb 141 rfl (.dt rfl (by first|exact dR_take (fun c=>rI (lastW (usWs g) c i)) hc1|exact dR_take1 (fun c=>rI (lastW (usWs g) c i)) hc1|rfl|(simp[dR];done))),trivial⟩
   ·skip
    have hL:lastW (usWs g) c i=(k:Int) -1:=by rw[hF,show k=0 by omega];rfl
    refine .c .f<|.c .f<|.c .f<|.c .f<|.c .f<|.c .f<|.c .f<|.c .f<|.c .f<|.c .pF<|.nn ?_
    refine .k0 ?_
    refine .exit<|ks_e<|kl_e<|kb_hit<|ks_n ?_
    refine .keep [eP 0 (rT g),eN 1 (i:Nat),(.t 5,.v (.o (.c (.own 780 1 (j))))),eN 7 c,eN 8 (lastW (usWs g) c i),eD 15 (dIs (usR g x)),eN 16 ((usR g x).length:Nat),eN 17 (j:Nat),(.b 780,.b 3 1 (dR (((usR g x).take j).map (fun c=>rI (lastW (usWs g) c i))))),eU 780] [(780,120)] ⟨kd,kd,kW,kd,ks rfl (.dt (vI hL.symm)),kd,kd,kd,kb 120 rfl (.dt rfl (by first|exact dR_take (fun c=>rI (lastW (usWs g) c i)) hc1|exact dR_take1 (fun c=>rI (lastW (usWs g) c i)) hc1|rfl|(simp[dR];done))),trivial⟩ ?_
    refine .region<|.c .m<|.c .m<|.c (.li 3 0 0 [.tmp 39]) ?_
    refine .c (St1.appB (k':=141) (e:=3) (sz:=0) (by':=8) rfl rfl rfl rfl rfl (by kernel_rfl) rfl rfl rfl rfl (by first|(simp[dR];done)|(simp[dR];omega)) (by first|(simp[dR];done)|(simp[dR];omega)) rfl rfl rfl) ?_
    refine .c .a<|.nil<|kb_n<|ks_n<|.region<|.c .pl<|.c .m<|.nil ?_
    refine kl_k [(110,141)] (.inr ⟨j+1,rfl,by omega,by omega,rfl⟩) ⟨kd,kd,kW,kd,kd,kd,kb 141 rfl (.dt rfl (by first|exact dR_take (fun c=>rI (lastW (usWs g) c i)) hc1|exact dR_take1 (fun c=>rI (lastW (usWs g) c i)) hc1|rfl|(simp[dR];done))),trivial⟩
  ·skip
   obtain rfl:j=(usR g x).length:=by omega
   refine .exit<|ks_e<|kl_e<|kb_hit<|ks_n<|.r<|.c .m<|.c .a<|.nn<|.ret ?_
   refine kf_wret [eD 4 (dIs (srcs g x i))] (Wk.keep [] rfl rfl ⟨ks rfl (.c (.fz rfl (by rw[List.take_length,srcs,List.map_map];rfl) (by simp[srcs]) (by omega))),trivial⟩) rfl ?_ nobox
   rfl
theorem live_fn {g:Prg} (hS:prgS g=true):Fn Tryz.prog 45 [] [.c (.ptr (rT g))] (.o (vD (dBs (liveV g)))) []:=by
 have hL:=insG_len hS
 refine Fn.code0 Tryz.func45 rfl rfl rfl rfl ?_
 refine .r<|.c .a<|.r<|.c .m<|.c .nP<|.c (.fP 2 0 false)<|.c (.l1 1)<|.c (.ln 56 3 40) ?_
 refine .c (.mk 112 4 1 1 [.bool false] rfl rfl rfl (by omega) rfl rfl) ?_
 refine .c .a<|.nn<|.seq<|.r<|.c .m<|.c .nP<|.c (.fP 2 0 false)<|.c (.l1 1)<|.c (.ln 56 3 40)<|.c .sb<|.c .a<|.nn<|.block ?_
 refine .loopK (fun m σ=>(∃d:Nat,m=(insG 0 g.2).length -d∧(d≤(insG 0 g.2).length)∧σ=[eP 0 (rT g),(.t 3,.v (.o (.c (.own 110 1 ((insG 0 g.2).length))))),eN 4 ((((insG 0 g.2).length:Nat):Int) -1 -(d:Nat)),(.b 110,.b 4 1 (dR (((lvN g d)).map rB))),eU 110])) [(110,112)] ⟨0,rfl,Nat.zero_le _,rfl⟩ ⟨kd,kW,ks rfl (.dt (by first|rfl|exact vI (by omega))),kb 112 rfl (.dt rfl (by first|rfl|exact dR_repB _|(rw[HF];done)|(rw[HF,List.take_of_length_le (by omega)];done))),trivial⟩ ?_
 rintro m σ ⟨d,hm0,hd,rfl⟩
 refine .seq<|.r<|.c .m<|.c .ge<|.nn ?_
 refine .cD rfl (fun h20=>?_) (fun h20=>?_)
 ·skip
  obtain⟨i,hid⟩:∃i,i+d+1=(insG 0 g.2).length:=⟨(insG 0 g.2).length -1 -d,by omega⟩
  obtain⟨x,hx1⟩:∃x_,(insG 0 g.2)[i]?=some x_:=⟨_,List.getElem?_eq_getElem (by omega)⟩
  obtain⟨k,c,q,hI⟩:=ins_at hS (List.mem_of_getElem? hx1)
  have hsz:=stI_sz hI
  have hul:=usR_len hI
  have hR1:(usRs g)[i]?=some (usR g x):=by rw[usRs,List.getElem?_map,hx1];rfl
  have hW1:(usWs g)[i]?=some (usW g x):=by rw[usWs,List.getElem?_map,hx1];rfl
  have hWl:(usWs g).length=(insG 0 g.2).length:=List.length_map _
  obtain⟨b0,hb0⟩:∃b,(lvN g d)[i]?=some b:=⟨_,List.getElem?_eq_getElem (by rw[lvN_len];omega)⟩
  have hsl:=srcs_len (g:=g) (x:=x) (i:=i)
  refine .skip<|ks_n<|.seq<|.block<|.seq<|.seq ?_
  refine ACode.drawK (by kernel_rfl) (by kernel_rfl) ?_
  refine .c .m<|.c .m ?_
  refine .c (.xB 4 1 1 (i:=i) rfl rfl rfl rfl rfl (by omega) (by omega)) ?_
  refine .c (.b1 1 rfl rfl rfl rfl (dR_at (map_at hb0)) rfl)<|.c .nt<|.c .m ?_
  refine RunK.cases 28 _ rfl (fun g28=>?_) (fun g28=>?_)
  ·try simp only[zs]at g28
   refine .c (.g .m)<|.c (.g .nP)<|.c (.g (.fP 4 0 false))<|.c (.g (.l1 1))<|.c (.g .m)<|.c (.g .pl) ?_
   refine .c (.gT rfl rfl rfl (St1.sliceFrom (e:=3) (sz:=1) (by':=8) (k:=(i+1)) rfl rfl rfl rfl (by kernel_rfl) rfl rfl rfl (by omega) (by simp;omega))) ?_
   refine .c (.g .m)<|.c (.g .nP)<|.c (.g (.fP 4 0 false))<|.c (.g (.l1 1))<|.c (.g .m) ?_
   refine .c (.gT rfl rfl rfl (.xL 3 1 8 (i:=i) rfl rfl rfl rfl (by omega) (map_at hW1))) ?_
   refine .c (.g (.l1 1)) ?_
   refine .c (.gT rfl rfl rfl (.cP [.tmp 35,.tmp 42] rfl rfl rfl rfl (contains_drop (usWs g) (i+1) _ (by omega)) rfl)) ?_
   refine .c .pT ?_
   refine .nil ⟨by kernel_rfl,?_⟩
   refine ks_n ?_
   refine ACode.condT rfl (fun h44=>?_) (fun h44=>?_)
   ·try simp only[zs]at h44
    have HF:lvN g (d+1)=lvN g d:=lvN_skip hid hx1 (by rw[hb0];simp_all) (by simp_all)
    refine .exit<|ks_e<|kb_hit<|ks_n<|.region<|.c .m<|.c .sb<|.c .a<|.nil ?_
    refine kl_k [(110,110)] ⟨d+1,rfl,by omega,rfl⟩ ⟨kd,kW,ks rfl (.dt (by first|rfl|exact vI (by omega))),kb 110 rfl (.dt rfl (by first|rfl|exact dR_repB _|(rw[HF];done)|(rw[HF,List.take_of_length_le (by omega)];done))),trivial⟩
   ·try simp only[zs]at h44
    have hy:lvN g (d+1)=markF ((lvN g d).set i true) (srcs g x i):=lvN_yes hid hx1 (by rw[hb0];simp_all)
    refine .skip<|ks_n<|.r<|.c .m<|.c .m ?_
    refine .c (.xB 4 1 1 (i:=i) rfl rfl rfl rfl rfl (by omega) (by omega)) ?_
    refine .c (.sT 1 false rfl rfl rfl rfl (dR_at (map_at hb0)) rfl rfl)<|.r<|.c .m<|.c .m ?_
    refine .c (.cP [.tmp 48,.tmp 49] rfl rfl rfl rfl ((show (((insG 0 g.2).length:Nat):Int) -1 -(d:Nat)=(i:Nat)by omega)▸sources_fn hx1 (by omega) (by omega)) rfl) ?_
    refine .c (.ln 3 1 8)<|.c .m<|.nn<|.block ?_
    refine .loopK (fun m σ=>(∃j:Nat,m=(srcs g x i).length -j∧(j≤(srcs g x i).length)∧σ=[eP 0 (rT g),(.t 3,.v (.o (.c (.own 120 1 ((insG 0 g.2).length))))),eN 4 ((((insG 0 g.2).length:Nat):Int) -1 -(d:Nat)),eD 50 (dIs (srcs g x i)),eN 51 ((srcs g x i).length:Nat),eN 52 (j:Nat),(.b 120,.b 4 1 (dR (((markF ((lvN g d).set i true) ((srcs g x i).take j))).map rB))),eU 120])) [(120,110)] ⟨0,rfl,Nat.zero_le _,rfl⟩ ⟨kd,kW,ks rfl (.dt (by first|rfl|exact vI (by omega))),kd,kd,kd,kb 110 rfl (.dt rfl (by first|exact dR_setB _ _ _ _|(rw[hmk];done)|(rw[hmk];exact dR_setB _ _ _ _))),trivial⟩ ?_
    rintro m σ ⟨j,hm0,hj,rfl⟩
    refine .r<|.c .ls<|.nn<|.seq ?_
    refine .cD rfl (fun h53=>?_) (fun h53=>?_)
    ·skip
     obtain⟨f,hf1⟩:∃x_,(srcs g x i)[j]?=some x_:=⟨_,List.getElem?_eq_getElem (by omega)⟩
     obtain⟨hf2,hf3⟩:=srcs_at hf1
     obtain⟨b1,hb1⟩:∃b,(markF ((lvN g d).set i true) ((srcs g x i).take j))[f.toNat]?=some b:=⟨_,List.getElem?_eq_getElem (by rw[markF_len,List.length_set,lvN_len];omega)⟩
     refine .skip<|ks_n<|.seq<|.block<|.r<|.c (.xL 3 1 8 rfl rfl rfl rfl rfl (map_at hf1)) ?_
     refine .c (.l1 1)<|.c .a<|.r<|.c .m<|.c .ge<|.nn ?_
     refine .cD rfl (fun h57=>?_) (fun h57=>?_)
     ·skip
      have hmk:=markF_yes (l:=(lvN g d).set i true) hf1 (by omega)
      refine .region<|.c .m<|.c .m ?_
      refine .c (.xB 4 1 1 (i:=f.toNat) rfl rfl rfl rfl rfl (by omega) (by omega)) ?_
      refine .c (.sT 1 false rfl rfl rfl rfl (dR_at (map_at hb1)) rfl rfl)<|.nil<|kb_n<|ks_n<|.region<|.c .pl<|.c .m<|.nil ?_
      refine kl_k [(120,120)] ⟨j+1,rfl,by omega,rfl⟩ ⟨kd,kW,ks rfl (.dt (by first|rfl|exact vI (by omega))),kd,kd,kd,kb 120 rfl (.dt rfl (by first|exact dR_setB _ _ _ _|(rw[hmk];done)|(rw[hmk];exact dR_setB _ _ _ _))),trivial⟩
     ·skip
      have hmk:=markF_no (l:=(lvN g d).set i true) hf1 (by omega)
      refine .skip<|kb_n<|ks_n<|.region<|.c .pl<|.c .m<|.nil ?_
      refine kl_k [(120,120)] ⟨j+1,rfl,by omega,rfl⟩ ⟨kd,kW,ks rfl (.dt (by first|rfl|exact vI (by omega))),kd,kd,kd,kb 120 rfl (.dt rfl (by first|exact dR_setB _ _ _ _|(rw[hmk];done)|(rw[hmk];exact dR_setB _ _ _ _))),trivial⟩
    ·skip
     obtain rfl:j=(srcs g x i).length:=by omega
     have HF:=hy
     refine .exit<|ks_e<|kl_e<|kb_hit<|kb_n<|ks_n<|.region<|.c .m<|.c .sb<|.c .a<|.nil ?_
     refine kl_k [(110,120)] ⟨d+1,rfl,by omega,rfl⟩ ⟨kd,kW,ks rfl (.dt (by first|rfl|exact vI (by omega))),kb 120 rfl (.dt rfl (by first|rfl|exact dR_repB _|(rw[HF];done)|(rw[HF,List.take_of_length_le (by omega)];done))),trivial⟩
  ·try simp only[zs]at g28
   have hy:lvN g (d+1)=markF ((lvN g d).set i true) (srcs g x i):=lvN_yes hid hx1 (by rw[hb0];simp_all)
   refine .c .f<|.c .f<|.c .f<|.c .f<|.c .f<|.c .f<|.c .f<|.c .f<|.c .f<|.c .f<|.c .f<|.c .f<|.c .f<|.c .f<|.c .f<|.c .pF ?_
   refine .nil ⟨by kernel_rfl,?_⟩
   refine ks_n ?_
   refine .k0 ?_
   refine .skip<|ks_n<|.r<|.c .m<|.c .m ?_
   refine .c (.xB 4 1 1 (i:=i) rfl rfl rfl rfl rfl (by omega) (by omega)) ?_
   refine .c (.sT 1 false rfl rfl rfl rfl (dR_at (map_at hb0)) rfl rfl)<|.r<|.c .m<|.c .m ?_
   refine .c (.cP [.tmp 48,.tmp 49] rfl rfl rfl rfl ((show (((insG 0 g.2).length:Nat):Int) -1 -(d:Nat)=(i:Nat)by omega)▸sources_fn hx1 (by omega) (by omega)) rfl) ?_
   refine .c (.ln 3 1 8)<|.c .m<|.nn<|.block ?_
   refine .loopK (fun m σ=>(∃j:Nat,m=(srcs g x i).length -j∧(j≤(srcs g x i).length)∧σ=[eP 0 (rT g),(.t 3,.v (.o (.c (.own 120 1 ((insG 0 g.2).length))))),eN 4 ((((insG 0 g.2).length:Nat):Int) -1 -(d:Nat)),eD 50 (dIs (srcs g x i)),eN 51 ((srcs g x i).length:Nat),eN 52 (j:Nat),(.b 120,.b 4 1 (dR (((markF ((lvN g d).set i true) ((srcs g x i).take j))).map rB))),eU 120])) [(120,110)] ⟨0,rfl,Nat.zero_le _,rfl⟩ ⟨kd,kW,ks rfl (.dt (by first|rfl|exact vI (by omega))),kd,kd,kd,kb 110 rfl (.dt rfl (by first|exact dR_setB _ _ _ _|(rw[hmk];done)|(rw[hmk];exact dR_setB _ _ _ _))),trivial⟩ ?_
   rintro m σ ⟨j,hm0,hj,rfl⟩
   refine .r<|.c .ls<|.nn<|.seq ?_
   refine .cD rfl (fun h53=>?_) (fun h53=>?_)
   ·skip
    obtain⟨f,hf1⟩:∃x_,(srcs g x i)[j]?=some x_:=⟨_,List.getElem?_eq_getElem (by omega)⟩
    obtain⟨hf2,hf3⟩:=srcs_at hf1
    obtain⟨b1,hb1⟩:∃b,(markF ((lvN g d).set i true) ((srcs g x i).take j))[f.toNat]?=some b:=⟨_,List.getElem?_eq_getElem (by rw[markF_len,List.length_set,lvN_len];omega)⟩
    refine .skip<|ks_n<|.seq<|.block<|.r<|.c (.xL 3 1 8 rfl rfl rfl rfl rfl (map_at hf1)) ?_
    refine .c (.l1 1)<|.c .a<|.r<|.c .m<|.c .ge<|.nn ?_
    refine .cD rfl (fun h57=>?_) (fun h57=>?_)
    ·skip
     have hmk:=markF_yes (l:=(lvN g d).set i true) hf1 (by omega)
     refine .region<|.c .m<|.c .m ?_
     refine .c (.xB 4 1 1 (i:=f.toNat) rfl rfl rfl rfl rfl (by omega) (by omega)) ?_
     refine .c (.sT 1 false rfl rfl rfl rfl (dR_at (map_at hb1)) rfl rfl)<|.nil<|kb_n<|ks_n<|.region<|.c .pl<|.c .m<|.nil ?_
     refine kl_k [(120,120)] ⟨j+1,rfl,by omega,rfl⟩ ⟨kd,kW,ks rfl (.dt (by first|rfl|exact vI (by omega))),kd,kd,kd,kb 120 rfl (.dt rfl (by first|exact dR_setB _ _ _ _|(rw[hmk];done)|(rw[hmk];exact dR_setB _ _ _ _))),trivial⟩
    ·skip
     have hmk:=markF_no (l:=(lvN g d).set i true) hf1 (by omega)
     refine .skip<|kb_n<|ks_n<|.region<|.c .pl<|.c .m<|.nil ?_
     refine kl_k [(120,120)] ⟨j+1,rfl,by omega,rfl⟩ ⟨kd,kW,ks rfl (.dt (by first|rfl|exact vI (by omega))),kd,kd,kd,kb 120 rfl (.dt rfl (by first|exact dR_setB _ _ _ _|(rw[hmk];done)|(rw[hmk];exact dR_setB _ _ _ _))),trivial⟩
   ·skip
    obtain rfl:j=(srcs g x i).length:=by omega
    have HF:=hy
    refine .exit<|ks_e<|kl_e<|kb_hit<|kb_n<|ks_n<|.region<|.c .m<|.c .sb<|.c .a<|.nil ?_
    refine kl_k [(110,120)] ⟨d+1,rfl,by omega,rfl⟩ ⟨kd,kW,ks rfl (.dt (by first|rfl|exact vI (by omega))),kb 120 rfl (.dt rfl (by first|rfl|exact dR_repB _|(rw[HF];done)|(rw[HF,List.take_of_length_le (by omega)];done))),trivial⟩
 ·skip
  obtain rfl:d=(insG 0 g.2).length:=by omega
  refine .exit<|ks_e<|kl_e<|kb_hit<|ks_n<|.r<|.c .m<|.c .a<|.nn<|.ret ?_
  refine kf_wret [eD 2 (dBs (liveV g))] (Wk.keep [] rfl rfl ⟨ks rfl (.c (.fz rfl rfl (by rw[List.length_map,liveV,lvN_len]) (by omega))),trivial⟩) rfl ?_ nobox
  rfl
theorem l6Source_fn {g:Prg} {i:Nat} (c:Int) (hi:i≤(insG 0 g.2).length) (hn:(insG 0 g.2).length≤1000000):Fn Tryz.prog 82 [] [vD (dUs (usL g)),nat1 (i:Nat),nat1 c] (.o (nat1 (lastW (usWs g) c i))) []:=by
  have hUl:(usL g).length=(insG 0 g.2).length:=List.length_map _
  refine Fn.code0 Tryz.func82 rfl rfl rfl rfl ?_
  refine .r<|.c .a<|.nn<|.seq<|.r<|.c .m<|.c .sb<|.c .a<|.nn<|.block ?_
  refine .loopK (fun m σ=>(∃k:Nat,m=k∧(k≤i)∧(lastW (usWs g) c i=lastW (usWs g) c k)∧σ=[eD 0 (dUs (usL g)),eN 2 c,eN 7 ((k:Int) -1)])) [] ⟨i,rfl,Nat.le_refl _,rfl,rfl⟩ ⟨kd,kd,ks rfl (.dt (vI (by omega))),trivial⟩ ?_
  rintro m σ ⟨k,hm0,hk,hF,rfl⟩
  refine .seq<|.r<|.c .m<|.c .ge<|.nn ?_
  refine .cD rfl (fun h11=>?_) (fun h11=>?_)
  · skip
    obtain⟨x,hx1⟩:∃x_,(insG 0 g.2)[(k -1)]?=some x_:=⟨_,List.getElem?_eq_getElem (by omega)⟩
    have hU1:(usL g)[k -1]?=some (usG g x):=by rw[usL,List.getElem?_map,hx1];rfl
    have hw1:(usWs g)[k -1]?=some (usW g x):=by rw[usWs,List.getElem?_map,hx1];rfl
    refine .skip<|ks_n<|.seq<|.block<|.r<|.c .m<|.c .m ?_
    refine .c (.xL 134 2 32 (i:=(k -1)) rfl rfl rfl rfl (by omega) (map_at hU1)) ?_
    refine .c (.fP 1 0 false)<|.c (.l1 1)<|.c .m<|.c .eq<|.nn ?_
    refine .cD rfl (fun h20=>?_) (fun h20=>?_)
    · skip
      refine .r<|.c .m<|.c .a<|.nn<|.ret<|kb_r<|ks_r<|kl_r<|kb_r<|ks_r ?_
      refine kf_ret rfl ?_ nobox
      exact leafI (by rw[hF];exact(lastW_hit (by omega) (hw1.trans (congrArg some h20))).symm)
    · skip
      refine .skip<|kb_n<|ks_n<|.region<|.c .m<|.c .sb<|.c .a<|.nil ?_
      refine kl_k [] ⟨k -1,rfl,by omega,by rw[hF];exact lastW_miss (by omega) hw1 h20,rfl⟩ ⟨kd,kd,ks rfl (.dt (vI (by omega))),trivial⟩
  · skip
    refine .exit<|ks_e<|kl_e<|kb_hit<|ks_n<|.r<|.c .a<|.nn<|.ret ?_
    refine kf_ret rfl ?_ nobox
    exact leafI (by rw[hF,show k=0 by omega];rfl)
theorem specLive_fn {g:Prg} (hs:szG g≤1073741824) (hV:prgV g=true):Fn Tryz.prog 41 [] [ad (rG g)] (.o (vD (dIs (flagV (liveV g))))) []:=by
 obtain⟨hS,hN,hL⟩:=prgV_s hV
 have hUl:(usL g).length=(insG 0 g.2).length:=List.length_map _
 have hll:(liveV g).length=(insG 0 g.2).length:=lvN_len
 refine Fn.code0 Tryz.func41 rfl rfl rfl rfl ?_
 refine .r<|.c .bp<|.c .a<|.nn<|.seq<|.r<|.c (.lN 2) ?_
 refine .c (.cP [.tmp 10] rfl rfl rfl rfl (specPV_fn hs) rfl) ?_
 refine .c .nt<|.nn ?_
 refine ACode.condT rfl (fun h12=>?_) (fun h12=>?_)
 ·try simp only[zs]at h12
  simp_all
 ·try simp only[zs]at h12
  refine .skip<|ks_n<|.r<|.c (.lN 2) ?_
  refine .c (.cP [.tmp 14] rfl rfl rfl rfl (l6Uses_fn hs hS) rfl) ?_
  refine .c .a<|.r<|.c .m<|.c (.ln 134 2 32) ?_
  refine .c (.mk 118 4 1 1 [.bool false] rfl rfl rfl (by omega) rfl rfl) ?_
  refine .c .a<|.nn<|.seq<|.r<|.c .m<|.c (.ln 134 2 32)<|.c .sb<|.c .a<|.nn<|.block ?_
  refine .loopK (fun m σ=>(∃d:Nat,m=(insG 0 g.2).length -d∧(d≤(insG 0 g.2).length)∧σ=[eD 3 (dUs (usL g)),(.t 4,.v (.o (.c (.own 110 1 ((insG 0 g.2).length))))),eN 5 ((((insG 0 g.2).length:Nat):Int) -1 -(d:Nat)),(.b 110,.b 4 1 (dR (((lvN g d)).map rB))),eU 110])) [(110,118)] ⟨0,rfl,Nat.zero_le _,rfl⟩ ⟨kd,kW,ks rfl (.dt (by first|rfl|exact vI (by omega))),kb 118 rfl (.dt rfl (by first|rfl|exact dR_repB _|(rw[hUl];exact dR_repB _)|(rw[HF];done)|(rw[HF,List.take_of_length_le (by omega)];done))),trivial⟩ ?_
  rintro m σ ⟨d,hm0,hd,rfl⟩
  refine .seq<|.r<|.c .m<|.c .ge<|.nn ?_
  refine .cD rfl (fun h23=>?_) (fun h23=>?_)
  ·skip
   obtain⟨i,hid⟩:∃i,i+d+1=(insG 0 g.2).length:=⟨(insG 0 g.2).length -1 -d,by omega⟩
   obtain⟨x,hx1⟩:∃x_,(insG 0 g.2)[i]?=some x_:=⟨_,List.getElem?_eq_getElem (by omega)⟩
   obtain⟨k,c,q,hI⟩:=ins_at hS (List.mem_of_getElem? hx1)
   have hsz:=stI_sz hI
   have hul:=usR_len hI
   have hR1:(usRs g)[i]?=some (usR g x):=by rw[usRs,List.getElem?_map,hx1];rfl
   have hW1:(usWs g)[i]?=some (usW g x):=by rw[usWs,List.getElem?_map,hx1];rfl
   have hWl:(usWs g).length=(insG 0 g.2).length:=List.length_map _
   obtain⟨b0,hb0⟩:∃b,(lvN g d)[i]?=some b:=⟨_,List.getElem?_eq_getElem (by rw[lvN_len];omega)⟩
   have hsl:=srcs_len (g:=g) (x:=x) (i:=i)
   have hU1:(usL g)[i]?=some (usG g x):=by rw[usL,List.getElem?_map,hx1];rfl
   refine .skip<|ks_n<|.seq<|.block<|.r<|.c .a<|.nn<|.seq<|.r<|.c .m<|.c .pl<|.c .a<|.nn<|.block ?_
   refine .loopK (fun m σ=>(∃(q:Nat) (b:Bool),m=(insG 0 g.2).length -i -1 -q∧(i+1+q≤(insG 0 g.2).length)∧(b= !hasV (((usWs g).drop (i+1)).take q) (usW g x))∧σ=[eD 3 (dUs (usL g)),(.t 4,.v (.o (.c (.own 120 1 ((insG 0 g.2).length))))),eN 5 ((((insG 0 g.2).length:Nat):Int) -1 -(d:Nat)),eT 6 b,eN 7 (((i:Nat):Int)+1+(q:Nat)),(.b 120,.b 4 1 (dR (((lvN g d)).map rB))),eU 120])) [(120,110)] ⟨0,true,rfl,by omega,rfl,rfl⟩ ⟨kd,kW,ks rfl (.dt (by first|rfl|exact vI (by omega))),kd,ks rfl (.dt (vI (by omega))),kb 110 rfl (.dt rfl rfl),trivial⟩ ?_
   rintro m σ ⟨q,b,hm0,hq,hB,rfl⟩
   refine .seq<|.r<|.c .m<|.c .m<|.c (.ln 134 2 32)<|.c .ls<|.nn ?_
   refine .cD rfl (fun h31=>?_) (fun h31=>?_)
   ·skip
    obtain⟨y,hy1⟩:∃x_,(insG 0 g.2)[(i+1+q)]?=some x_:=⟨_,List.getElem?_eq_getElem (by omega)⟩
    have hU2:(usL g)[i+1+q]?=some (usG g y):=by rw[usL,List.getElem?_map,hy1];rfl
    have hy2:((usWs g).drop (i+1))[q]?=some (usW g y):=by rw[List.getElem?_drop,usWs,List.getElem?_map,hy1];rfl
    refine .skip<|ks_n<|.seq<|.block ?_
    refine ACode.drawK (by kernel_rfl) (by kernel_rfl) ?_
    refine .c .m<|.c .m ?_
    refine RunK.cases 35 _ rfl (fun g35=>?_) (fun g35=>?_)
    ·try simp only[zs]at g35
     refine .c (.g .m)<|.c (.g .m) ?_
     refine .c (.gT rfl rfl rfl (.xL 134 2 32 (i:=(i+1+q)) rfl rfl rfl rfl (by omega) (map_at hU2))) ?_
     refine .c (.g (.fP 1 0 false))<|.c (.g (.l1 1))<|.c (.g .m)<|.c (.g .m) ?_
     refine .c (.gT rfl rfl rfl (.xL 134 2 32 (i:=i) rfl rfl rfl rfl (by omega) (map_at hU1))) ?_
     refine .c (.g (.fP 1 0 false))<|.c (.g (.l1 1))<|.c (.g .ne)<|.c .pT<|.c .a ?_
     refine .nil ⟨by kernel_rfl,?_⟩
     refine kb_n<|ks_n<|.region<|.c .m<|.c .pl<|.c .a<|.nil ?_
     refine kl_k [(120,120)] ⟨q+1,!decide (usW g y=usW g x),rfl,by omega,by rw[hasV_take hy2,Bool.not_or,←hB];simp_all,rfl⟩ ⟨kd,kW,ks rfl (.dt (by first|rfl|exact vI (by omega))),kd,ks rfl (.dt (vI (by omega))),kb 120 rfl (.dt rfl rfl),trivial⟩
    ·try simp only[zs]at g35
     refine .c .f<|.c .f<|.c .f<|.c .f<|.c .f<|.c .f<|.c .f<|.c .f<|.c .f<|.c .f<|.c .f<|.c .pF<|.c .a ?_
     refine .nil ⟨by kernel_rfl,?_⟩
     refine kb_n<|ks_n<|.region<|.c .m<|.c .pl<|.c .a<|.nil ?_
     refine kl_k [(120,120)] ⟨q+1,false,rfl,by omega,by rw[hasV_take hy2,Bool.not_or,←hB];simp_all,rfl⟩ ⟨kd,kW,ks rfl (.dt (by first|rfl|exact vI (by omega))),kd,ks rfl (.dt (vI (by omega))),kb 120 rfl (.dt rfl rfl),trivial⟩
   ·skip
    have hB2:b= !hasV ((usWs g).drop (i+1)) (usW g x):=by rw[hB,List.take_of_length_le (by rw[List.length_drop];omega)]
    refine .exit<|ks_e<|kl_e<|kb_hit<|ks_n<|.seq ?_
    by_cases hsp:b=true
    ·skip
     subst hsp
     refine .region<|.c .m<|.c .m<|.c .m<|.c .m ?_
     refine .c (.xB 4 1 1 (i:=i) rfl rfl rfl rfl rfl (by omega) (by omega)) ?_
     refine .c (.b1 1 rfl rfl rfl rfl (dR_at (map_at hb0)) rfl)<|.c .m ?_
     refine AOps.cases 54 _ rfl (fun g54=>?_) (fun g54=>?_)
     ·try simp only[zs]at g54
      have hbt:b0=true:=by simp_all
      have hy:lvN g (d+1)=markF ((lvN g d).set i true) (srcs g x i):=lvN_yes hid hx1 (.inl (by rw[hb0];simp_all))
      refine .c .f<|.c .pT ?_
      refine .c (.xB 4 1 1 (i:=i) rfl rfl rfl rfl rfl (by omega) (by omega)) ?_
      refine .c (.sT 1 false rfl rfl rfl rfl (dR_at (map_at hb0)) rfl rfl)<|.r<|.c .a<|.nn<|.block ?_
      refine .loopK (fun m σ=>(∃j:Nat,m=(srcs g x i).length -j∧(j≤(srcs g x i).length)∧σ=[eD 3 (dUs (usL g)),(.t 4,.v (.o (.c (.own 130 1 ((insG 0 g.2).length))))),eN 5 ((((insG 0 g.2).length:Nat):Int) -1 -(d:Nat)),eN 8 (j:Nat),(.b 130,.b 4 1 (dR (((markF ((lvN g d).set i true) ((srcs g x i).take j))).map rB))),eU 130])) [(130,120)] ⟨0,rfl,Nat.zero_le _,rfl⟩ ⟨kd,kW,ks rfl (.dt (by first|rfl|exact vI (by omega))),kd,kb 120 rfl (.dt rfl (by first|exact dR_setB _ _ _ _|(rw[hmk];done)|(rw[hmk];exact dR_setB _ _ _ _)|(rw[hbt];exact dR_setB _ _ _ _))),trivial⟩ ?_
      rintro m σ ⟨j,hm0,hj,rfl⟩
      have hlj:(markF ((lvN g d).set i true) ((srcs g x i).take j))[i]?=some true:=markF_keep (by rw[List.getElem?_set,if_pos rfl,if_pos (by rw[lvN_len];omega)])
      refine .seq<|.r<|.c .m<|.c .m<|.c .m ?_
      refine .c (.xL 134 2 32 (i:=i) rfl rfl rfl rfl (by omega) (map_at hU1)) ?_
      refine .c (.fP 0 0 false)<|.c (.l1 1)<|.c (.ln 3 1 8)<|.c .ls<|.c .m ?_
      refine .cD 66 rfl (fun g66=>?_) (fun g66=>?_)
      ·skip
       replace g66:(j:Int)<((usR g x).length:Nat):=g66
       refine .c (.g .m)<|.c (.g .m) ?_
       refine .c (.gT rfl rfl rfl (.xB 4 1 1 (i:=i) rfl rfl rfl rfl rfl (by omega) (by omega))) ?_
       refine .c (.gT rfl rfl rfl (.b1 1 rfl rfl rfl rfl (dR_at (map_at hlj)) rfl))<|.c .pT<|.nn ?_
       refine ACode.condT rfl (fun h71=>?_) (fun h71=>?_)
       ·try simp only[zs]at h71
        obtain⟨f,hf1⟩:∃x_,(srcs g x i)[j]?=some x_:=⟨_,List.getElem?_eq_getElem (by omega)⟩
        obtain⟨hf2,hf3⟩:=srcs_at hf1
        obtain⟨c,hc1⟩:∃c,(usR g x)[j]?=some c:=⟨_,List.getElem?_eq_getElem (by omega)⟩
        obtain rfl:f=lastW (usWs g) c i:=by rw[srcs,List.getElem?_map,hc1]at hf1;cases hf1;rfl
        obtain⟨b1,hb1⟩:∃b,(markF ((lvN g d).set i true) ((srcs g x i).take j))[(lastW (usWs g) c i).toNat]?=some b:=⟨_,List.getElem?_eq_getElem (by rw[markF_len,List.length_set,lvN_len];omega)⟩
        refine .skip<|ks_n<|.seq<|.block<|.r<|.c .m<|.c .m<|.c .m<|.c .m ?_
        refine .c (.xL 134 2 32 (i:=i) rfl rfl rfl rfl (by omega) (map_at hU1)) ?_
        refine .c (.fP 0 0 false)<|.c (.l1 1)<|.c .m ?_
        refine .c (.xL 3 1 8 (i:=j) rfl rfl rfl rfl rfl (map_at hc1)) ?_
        refine .c (.l1 1) ?_
        refine .c (.cP [.tmp 74,.tmp 75,.tmp 83] rfl rfl rfl rfl ((show (((insG 0 g.2).length:Nat):Int) -1 -(d:Nat)=(i:Nat)by omega)▸l6Source_fn c (by omega) (by omega)) rfl) ?_
        refine .c .a<|.r<|.c .m<|.c .ge<|.nn ?_
        refine .cD rfl (fun h86=>?_) (fun h86=>?_)
        ·skip
         have hmk:=markF_yes (l:=(lvN g d).set i true) hf1 (by omega)
         refine .region<|.c .m<|.c .m ?_
         refine .c (.xB 4 1 1 (i:=(lastW (usWs g) c i).toNat) rfl rfl rfl rfl rfl (by omega) (by omega)) ?_
         refine .c (.sT 1 false rfl rfl rfl rfl (dR_at (map_at hb1)) rfl rfl)<|.nil<|kb_n<|ks_n<|.region<|.c .m<|.c .pl<|.c .a<|.nil ?_
         refine kl_k [(130,130)] ⟨j+1,rfl,by omega,rfl⟩ ⟨kd,kW,ks rfl (.dt (by first|rfl|exact vI (by omega))),kd,kb 130 rfl (.dt rfl (by first|exact dR_setB _ _ _ _|(rw[hmk];done)|(rw[hmk];exact dR_setB _ _ _ _)|(rw[hbt];exact dR_setB _ _ _ _))),trivial⟩
        ·skip
         have hmk:=markF_no (l:=(lvN g d).set i true) hf1 (by omega)
         refine .skip<|kb_n<|ks_n<|.region<|.c .m<|.c .pl<|.c .a<|.nil ?_
         refine kl_k [(130,130)] ⟨j+1,rfl,by omega,rfl⟩ ⟨kd,kW,ks rfl (.dt (by first|rfl|exact vI (by omega))),kd,kb 130 rfl (.dt rfl (by first|exact dR_setB _ _ _ _|(rw[hmk];done)|(rw[hmk];exact dR_setB _ _ _ _)|(rw[hbt];exact dR_setB _ _ _ _))),trivial⟩
       ·try simp only[zs]at h71
        all_goals (first|(cases h71;done)|simp_all)
      ·skip
       replace g66:¬(j:Int)<((usR g x).length:Nat):=g66
       obtain rfl:j=(srcs g x i).length:=by omega
       have HF:=hy
       refine .c .f<|.c .f<|.c .f<|.c .f<|.c .pF<|.nn ?_
       refine .k0 ?_
       refine .exit<|ks_e<|kl_e<|kb_hit<|kb_n<|ks_n<|.region<|.c .m<|.c .sb<|.c .a<|.nil ?_
       refine kl_k [(110,130)] ⟨d+1,rfl,by omega,rfl⟩ ⟨kd,kW,ks rfl (.dt (by first|rfl|exact vI (by omega))),kb 130 rfl (.dt rfl (by first|rfl|exact dR_repB _|(rw[hUl];exact dR_repB _)|(rw[HF];done)|(rw[HF,List.take_of_length_le (by omega)];done))),trivial⟩
     ·try simp only[zs]at g54
      have hy:lvN g (d+1)=markF ((lvN g d).set i true) (srcs g x i):=lvN_yes hid hx1 (.inr (by simpa using hB2))
      refine .c (.g .m)<|.c .pF ?_
      refine .c (.xB 4 1 1 (i:=i) rfl rfl rfl rfl rfl (by omega) (by omega)) ?_
      refine .c (.sT 1 false rfl rfl rfl rfl (dR_at (map_at hb0)) rfl rfl)<|.r<|.c .a<|.nn<|.block ?_
      refine .loopK (fun m σ=>(∃j:Nat,m=(srcs g x i).length -j∧(j≤(srcs g x i).length)∧σ=[eD 3 (dUs (usL g)),(.t 4,.v (.o (.c (.own 130 1 ((insG 0 g.2).length))))),eN 5 ((((insG 0 g.2).length:Nat):Int) -1 -(d:Nat)),eN 8 (j:Nat),(.b 130,.b 4 1 (dR (((markF ((lvN g d).set i true) ((srcs g x i).take j))).map rB))),eU 130])) [(130,120)] ⟨0,rfl,Nat.zero_le _,rfl⟩ ⟨kd,kW,ks rfl (.dt (by first|rfl|exact vI (by omega))),kd,kb 120 rfl (.dt rfl (by first|exact dR_setB _ _ _ _|(rw[hmk];done)|(rw[hmk];exact dR_setB _ _ _ _)|(rw[hbt];exact dR_setB _ _ _ _))),trivial⟩ ?_
      rintro m σ ⟨j,hm0,hj,rfl⟩
      have hlj:(markF ((lvN g d).set i true) ((srcs g x i).take j))[i]?=some true:=markF_keep (by rw[List.getElem?_set,if_pos rfl,if_pos (by rw[lvN_len];omega)])
      refine .seq<|.r<|.c .m<|.c .m<|.c .m ?_
      refine .c (.xL 134 2 32 (i:=i) rfl rfl rfl rfl (by omega) (map_at hU1)) ?_
      refine .c (.fP 0 0 false)<|.c (.l1 1)<|.c (.ln 3 1 8)<|.c .ls<|.c .m ?_
      refine .cD 66 rfl (fun g66=>?_) (fun g66=>?_)
      ·skip
       replace g66:(j:Int)<((usR g x).length:Nat):=g66
       refine .c (.g .m)<|.c (.g .m) ?_
       refine .c (.gT rfl rfl rfl (.xB 4 1 1 (i:=i) rfl rfl rfl rfl rfl (by omega) (by omega))) ?_
       refine .c (.gT rfl rfl rfl (.b1 1 rfl rfl rfl rfl (dR_at (map_at hlj)) rfl))<|.c .pT<|.nn ?_
       refine ACode.condT rfl (fun h71=>?_) (fun h71=>?_)
       ·try simp only[zs]at h71
        obtain⟨f,hf1⟩:∃x_,(srcs g x i)[j]?=some x_:=⟨_,List.getElem?_eq_getElem (by omega)⟩
        obtain⟨hf2,hf3⟩:=srcs_at hf1
        obtain⟨c,hc1⟩:∃c,(usR g x)[j]?=some c:=⟨_,List.getElem?_eq_getElem (by omega)⟩
        obtain rfl:f=lastW (usWs g) c i:=by rw[srcs,List.getElem?_map,hc1]at hf1;cases hf1;rfl
        obtain⟨b1,hb1⟩:∃b,(markF ((lvN g d).set i true) ((srcs g x i).take j))[(lastW (usWs g) c i).toNat]?=some b:=⟨_,List.getElem?_eq_getElem (by rw[markF_len,List.length_set,lvN_len];omega)⟩
        refine .skip<|ks_n<|.seq<|.block<|.r<|.c .m<|.c .m<|.c .m<|.c .m ?_
        refine .c (.xL 134 2 32 (i:=i) rfl rfl rfl rfl (by omega) (map_at hU1)) ?_
        refine .c (.fP 0 0 false)<|.c (.l1 1)<|.c .m ?_
        refine .c (.xL 3 1 8 (i:=j) rfl rfl rfl rfl rfl (map_at hc1)) ?_
        refine .c (.l1 1) ?_
        refine .c (.cP [.tmp 74,.tmp 75,.tmp 83] rfl rfl rfl rfl ((show (((insG 0 g.2).length:Nat):Int) -1 -(d:Nat)=(i:Nat)by omega)▸l6Source_fn c (by omega) (by omega)) rfl) ?_
        refine .c .a<|.r<|.c .m<|.c .ge<|.nn ?_
        refine .cD rfl (fun h86=>?_) (fun h86=>?_)
        ·skip
         have hmk:=markF_yes (l:=(lvN g d).set i true) hf1 (by omega)
         refine .region<|.c .m<|.c .m ?_
         refine .c (.xB 4 1 1 (i:=(lastW (usWs g) c i).toNat) rfl rfl rfl rfl rfl (by omega) (by omega)) ?_
         refine .c (.sT 1 false rfl rfl rfl rfl (dR_at (map_at hb1)) rfl rfl)<|.nil<|kb_n<|ks_n<|.region<|.c .m<|.c .pl<|.c .a<|.nil ?_
         refine kl_k [(130,130)] ⟨j+1,rfl,by omega,rfl⟩ ⟨kd,kW,ks rfl (.dt (by first|rfl|exact vI (by omega))),kd,kb 130 rfl (.dt rfl (by first|exact dR_setB _ _ _ _|(rw[hmk];done)|(rw[hmk];exact dR_setB _ _ _ _)|(rw[hbt];exact dR_setB _ _ _ _))),trivial⟩
        ·skip
         have hmk:=markF_no (l:=(lvN g d).set i true) hf1 (by omega)
         refine .skip<|kb_n<|ks_n<|.region<|.c .m<|.c .pl<|.c .a<|.nil ?_
         refine kl_k [(130,130)] ⟨j+1,rfl,by omega,rfl⟩ ⟨kd,kW,ks rfl (.dt (by first|rfl|exact vI (by omega))),kd,kb 130 rfl (.dt rfl (by first|exact dR_setB _ _ _ _|(rw[hmk];done)|(rw[hmk];exact dR_setB _ _ _ _)|(rw[hbt];exact dR_setB _ _ _ _))),trivial⟩
       ·try simp only[zs]at h71
        all_goals (first|(cases h71;done)|simp_all)
      ·skip
       replace g66:¬(j:Int)<((usR g x).length:Nat):=g66
       obtain rfl:j=(srcs g x i).length:=by omega
       have HF:=hy
       refine .c .f<|.c .f<|.c .f<|.c .f<|.c .pF<|.nn ?_
       refine .k0 ?_
       refine .exit<|ks_e<|kl_e<|kb_hit<|kb_n<|ks_n<|.region<|.c .m<|.c .sb<|.c .a<|.nil ?_
       refine kl_k [(110,130)] ⟨d+1,rfl,by omega,rfl⟩ ⟨kd,kW,ks rfl (.dt (by first|rfl|exact vI (by omega))),kb 130 rfl (.dt rfl (by first|rfl|exact dR_repB _|(rw[hUl];exact dR_repB _)|(rw[HF];done)|(rw[HF,List.take_of_length_le (by omega)];done))),trivial⟩
    ·skip
     have hsp2:b=false:=by simpa using hsp
     refine .region<|.c .m<|.c .m<|.c .m<|.c .m ?_
     refine .c (.xB 4 1 1 (i:=i) rfl rfl rfl rfl rfl (by omega) (by omega)) ?_
     refine .c (.b1 1 rfl rfl rfl rfl (dR_at (map_at hb0)) rfl)<|.c .m ?_
     refine AOps.cases 54 _ rfl (fun g54=>?_) (fun g54=>?_)
     ·try simp only[zs]at g54
      have hbt:b0=true:=by simp_all
      have hy:lvN g (d+1)=markF ((lvN g d).set i true) (srcs g x i):=lvN_yes hid hx1 (.inl (by rw[hb0];simp_all))
      refine .c .f<|.c .pT ?_
      refine .c (.xB 4 1 1 (i:=i) rfl rfl rfl rfl rfl (by omega) (by omega)) ?_
      refine .c (.sT 1 false rfl rfl rfl rfl (dR_at (map_at hb0)) rfl rfl)<|.r<|.c .a<|.nn<|.block ?_
      refine .loopK (fun m σ=>(∃j:Nat,m=(srcs g x i).length -j∧(j≤(srcs g x i).length)∧σ=[eD 3 (dUs (usL g)),(.t 4,.v (.o (.c (.own 130 1 ((insG 0 g.2).length))))),eN 5 ((((insG 0 g.2).length:Nat):Int) -1 -(d:Nat)),eN 8 (j:Nat),(.b 130,.b 4 1 (dR (((markF ((lvN g d).set i true) ((srcs g x i).take j))).map rB))),eU 130])) [(130,120)] ⟨0,rfl,Nat.zero_le _,rfl⟩ ⟨kd,kW,ks rfl (.dt (by first|rfl|exact vI (by omega))),kd,kb 120 rfl (.dt rfl (by first|exact dR_setB _ _ _ _|(rw[hmk];done)|(rw[hmk];exact dR_setB _ _ _ _)|(rw[hbt];exact dR_setB _ _ _ _))),trivial⟩ ?_
      rintro m σ ⟨j,hm0,hj,rfl⟩
      have hlj:(markF ((lvN g d).set i true) ((srcs g x i).take j))[i]?=some true:=markF_keep (by rw[List.getElem?_set,if_pos rfl,if_pos (by rw[lvN_len];omega)])
      refine .seq<|.r<|.c .m<|.c .m<|.c .m ?_
      refine .c (.xL 134 2 32 (i:=i) rfl rfl rfl rfl (by omega) (map_at hU1)) ?_
      refine .c (.fP 0 0 false)<|.c (.l1 1)<|.c (.ln 3 1 8)<|.c .ls<|.c .m ?_
      refine .cD 66 rfl (fun g66=>?_) (fun g66=>?_)
      ·skip
       replace g66:(j:Int)<((usR g x).length:Nat):=g66
       refine .c (.g .m)<|.c (.g .m) ?_
       refine .c (.gT rfl rfl rfl (.xB 4 1 1 (i:=i) rfl rfl rfl rfl rfl (by omega) (by omega))) ?_
       refine .c (.gT rfl rfl rfl (.b1 1 rfl rfl rfl rfl (dR_at (map_at hlj)) rfl))<|.c .pT<|.nn ?_
       refine ACode.condT rfl (fun h71=>?_) (fun h71=>?_)
       ·try simp only[zs]at h71
        obtain⟨f,hf1⟩:∃x_,(srcs g x i)[j]?=some x_:=⟨_,List.getElem?_eq_getElem (by omega)⟩
        obtain⟨hf2,hf3⟩:=srcs_at hf1
        obtain⟨c,hc1⟩:∃c,(usR g x)[j]?=some c:=⟨_,List.getElem?_eq_getElem (by omega)⟩
        obtain rfl:f=lastW (usWs g) c i:=by rw[srcs,List.getElem?_map,hc1]at hf1;cases hf1;rfl
        obtain⟨b1,hb1⟩:∃b,(markF ((lvN g d).set i true) ((srcs g x i).take j))[(lastW (usWs g) c i).toNat]?=some b:=⟨_,List.getElem?_eq_getElem (by rw[markF_len,List.length_set,lvN_len];omega)⟩
        refine .skip<|ks_n<|.seq<|.block<|.r<|.c .m<|.c .m<|.c .m<|.c .m ?_
        refine .c (.xL 134 2 32 (i:=i) rfl rfl rfl rfl (by omega) (map_at hU1)) ?_
        refine .c (.fP 0 0 false)<|.c (.l1 1)<|.c .m ?_
        refine .c (.xL 3 1 8 (i:=j) rfl rfl rfl rfl rfl (map_at hc1)) ?_
        refine .c (.l1 1) ?_
        refine .c (.cP [.tmp 74,.tmp 75,.tmp 83] rfl rfl rfl rfl ((show (((insG 0 g.2).length:Nat):Int) -1 -(d:Nat)=(i:Nat)by omega)▸l6Source_fn c (by omega) (by omega)) rfl) ?_
        refine .c .a<|.r<|.c .m<|.c .ge<|.nn ?_
        refine .cD rfl (fun h86=>?_) (fun h86=>?_)
        ·skip
         have hmk:=markF_yes (l:=(lvN g d).set i true) hf1 (by omega)
         refine .region<|.c .m<|.c .m ?_
         refine .c (.xB 4 1 1 (i:=(lastW (usWs g) c i).toNat) rfl rfl rfl rfl rfl (by omega) (by omega)) ?_
         refine .c (.sT 1 false rfl rfl rfl rfl (dR_at (map_at hb1)) rfl rfl)<|.nil<|kb_n<|ks_n<|.region<|.c .m<|.c .pl<|.c .a<|.nil ?_
         refine kl_k [(130,130)] ⟨j+1,rfl,by omega,rfl⟩ ⟨kd,kW,ks rfl (.dt (by first|rfl|exact vI (by omega))),kd,kb 130 rfl (.dt rfl (by first|exact dR_setB _ _ _ _|(rw[hmk];done)|(rw[hmk];exact dR_setB _ _ _ _)|(rw[hbt];exact dR_setB _ _ _ _))),trivial⟩
        ·skip
         have hmk:=markF_no (l:=(lvN g d).set i true) hf1 (by omega)
         refine .skip<|kb_n<|ks_n<|.region<|.c .m<|.c .pl<|.c .a<|.nil ?_
         refine kl_k [(130,130)] ⟨j+1,rfl,by omega,rfl⟩ ⟨kd,kW,ks rfl (.dt (by first|rfl|exact vI (by omega))),kd,kb 130 rfl (.dt rfl (by first|exact dR_setB _ _ _ _|(rw[hmk];done)|(rw[hmk];exact dR_setB _ _ _ _)|(rw[hbt];exact dR_setB _ _ _ _))),trivial⟩
       ·try simp only[zs]at h71
        all_goals (first|(cases h71;done)|simp_all)
      ·skip
       replace g66:¬(j:Int)<((usR g x).length:Nat):=g66
       obtain rfl:j=(srcs g x i).length:=by omega
       have HF:=hy
       refine .c .f<|.c .f<|.c .f<|.c .f<|.c .pF<|.nn ?_
       refine .k0 ?_
       refine .exit<|ks_e<|kl_e<|kb_hit<|kb_n<|ks_n<|.region<|.c .m<|.c .sb<|.c .a<|.nil ?_
       refine kl_k [(110,130)] ⟨d+1,rfl,by omega,rfl⟩ ⟨kd,kW,ks rfl (.dt (by first|rfl|exact vI (by omega))),kb 130 rfl (.dt rfl (by first|rfl|exact dR_repB _|(rw[hUl];exact dR_repB _)|(rw[HF];done)|(rw[HF,List.take_of_length_le (by omega)];done))),trivial⟩
     ·try simp only[zs]at g54
      have hbf:b=false:=hsp2
      have hbz:(lvN g d)[i]?=some false:=by rw[hb0];simp_all
      have HF:lvN g (d+1)=lvN g d:=lvN_skip hid hx1 hbz (by simp_all)
      refine .c (.g .m)<|.c .pF ?_
      refine .c (.xB 4 1 1 (i:=i) rfl rfl rfl rfl rfl (by omega) (by omega)) ?_
      refine .c (.sT 1 false rfl rfl rfl rfl (dR_at (map_at hb0)) rfl rfl)<|.r<|.c .a<|.nn<|.block ?_
      refine .loopK (fun m σ=>(∃j:Nat,m=j∧(j=0)∧σ=[eD 3 (dUs (usL g)),(.t 4,.v (.o (.c (.own 130 1 ((insG 0 g.2).length))))),eN 5 ((((insG 0 g.2).length:Nat):Int) -1 -(d:Nat)),eN 8 (j:Nat),(.b 130,.b 4 1 (dR (((lvN g d)).map rB))),eU 130])) [(130,120)] ⟨0,rfl,rfl,rfl⟩ ⟨kd,kW,ks rfl (.dt (by first|rfl|exact vI (by omega))),kd,kb 120 rfl (.dt rfl (by rw[hbf];exact(dR_setB _ _ _ _).trans (by rw[set_self hbz]))),trivial⟩ ?_
      rintro m σ ⟨j,hm0,hj0,rfl⟩
      have hlj:=hbz
      refine .seq<|.r<|.c .m<|.c .m<|.c .m ?_
      refine .c (.xL 134 2 32 (i:=i) rfl rfl rfl rfl (by omega) (map_at hU1)) ?_
      refine .c (.fP 0 0 false)<|.c (.l1 1)<|.c (.ln 3 1 8)<|.c .ls<|.c .m ?_
      refine .cD 66 rfl (fun g66=>?_) (fun g66=>?_)
      ·skip
       replace g66:(j:Int)<((usR g x).length:Nat):=g66
       refine .c (.g .m)<|.c (.g .m) ?_
       refine .c (.gT rfl rfl rfl (.xB 4 1 1 (i:=i) rfl rfl rfl rfl rfl (by omega) (by omega))) ?_
       refine .c (.gT rfl rfl rfl (.b1 1 rfl rfl rfl rfl (dR_at (map_at hlj)) rfl))<|.c .pT<|.nn ?_
       refine ACode.condT rfl (fun h71=>?_) (fun h71=>?_)
       ·try simp only[zs]at h71
        all_goals (first|(cases h71;done)|simp_all)
       ·try simp only[zs]at h71
        refine .exit<|ks_e<|kl_e<|kb_hit<|kb_n<|ks_n<|.region<|.c .m<|.c .sb<|.c .a<|.nil ?_
        refine kl_k [(110,130)] ⟨d+1,rfl,by omega,rfl⟩ ⟨kd,kW,ks rfl (.dt (by first|rfl|exact vI (by omega))),kb 130 rfl (.dt rfl (by first|rfl|exact dR_repB _|(rw[hUl];exact dR_repB _)|(rw[HF];done)|(rw[HF,List.take_of_length_le (by omega)];done))),trivial⟩
      ·skip
       refine .c .f<|.c .f<|.c .f<|.c .f<|.c .pF<|.nn ?_
       refine .k0 ?_
       refine .exit<|ks_e<|kl_e<|kb_hit<|kb_n<|ks_n<|.region<|.c .m<|.c .sb<|.c .a<|.nil ?_
       refine kl_k [(110,130)] ⟨d+1,rfl,by omega,rfl⟩ ⟨kd,kW,ks rfl (.dt (by first|rfl|exact vI (by omega))),kb 130 rfl (.dt rfl (by first|rfl|exact dR_repB _|(rw[hUl];exact dR_repB _)|(rw[HF];done)|(rw[HF,List.take_of_length_le (by omega)];done))),trivial⟩
  ·skip
   obtain rfl:d=(insG 0 g.2).length:=by omega
   refine .exit<|ks_e<|kl_e<|kb_hit<|ks_n<|.seq ?_
   refine .keep [eD 4 (dBs (liveV g))] [] ⟨ks rfl (.c (.fz rfl rfl (by rw[List.length_map,hll]) (by omega))),trivial⟩ ?_
   refine .region<|.c .m ?_
   refine .c (.cP [.tmp 90] rfl rfl rfl rfl (l5Flagged_fn _ (by omega)) rfl) ?_
   refine .c .a<|.nn<|.ret ?_
   refine kf_ret rfl ?_ nobox
   rfl
theorem al_z0 {x:RC} {k:Nat}:Al (lk [(.b 0,x),(.u 0,.u)]) k→k=0:=fun⟨e,sz,rows,h⟩=>by
  rw[lk_cons]at h
  by_cases hk:k=0
  ·exact hk
  ·rw[upd_other _ _ (by simpa using hk),lk_cons,upd_other _ _ (by simp)]at h;cases h
theorem del_rows {α:Type} {l:List α} {i q:Nat} (h:i+1+q=l.length):(l.take i++(l.drop (i+1)++l.drop (i+q))).take (i+q)=l.take i++l.drop (i+1):=by
  rw[←List.append_assoc,List.take_append_of_le_length (by simp;omega),List.take_of_length_le (by simp;omega)]
theorem del_last {α:Type} {l:List α} {i:Nat} (h:i+1=l.length):l.take i=l.take i++l.drop (i+1):=by rw[List.drop_of_length_le (by omega),List.append_nil]
theorem dR_del {l:List (List D)} {i:Nat}:(dR l).take i++(dR l).drop (i+1)=dR (l.take i++l.drop (i+1)):=by simp[dR,List.map_take,List.map_drop]
theorem delete_fn {rows:List (List D)} {i:Nat} (hi:i<rows.length) (hn:rows.length≤1048576):Fn Tryz.prog 46 [(.b 0,.b 80 2 (dR (rows))),(.u 0,.u)] [.c (.own 0 2 rows.length),nat1 (i:Nat),nat1 ((i:Nat)+1)] (.o (.c (.own 0 2 (rows.length -1)))) [(.b 0,.b 80 2 (dR (rows.take i++rows.drop (i+1)))),(.u 0,.u)]:=by
 refine Fn.of_code Tryz.func46 rfl rfl HB.nil.data rfl rfl HB.nil.data rfl (fun k _ h=>by obtain rfl:=al_z0 h;exact⟨_,_,_,rfl⟩) ?_
 refine .r<|.c .a<|.r<|.c .m<|.c .m<|.c .m<|.c .m<|.c (.lB 80 2 48) ?_
 refine .sl3 (e:=80) (sz:=2) (by':=48) rfl (by kernel_rfl) rfl rfl rfl rfl rfl (by omega) ?_
 refine .nn<|.seq<|.r<|.c .m<|.c .m<|.c .eq<|.nn ?_
 refine .cD rfl (fun h16=>?_) (fun h16=>?_)
 ·skip
  omega
 ·skip
  refine .skip<|ks_n<|.r<|.c .m<|.c (.lB 80 2 48)<|.c .a<|.nn<|.seq ?_
  by_cases hsp:i+1<rows.length
  ·skip
   refine ACode.drawK (by kernel_rfl) (by kernel_rfl) ?_
   refine .c .m<|.c .m ?_
   refine .c (St1.sliceToB (e:=80) (sz:=2) (by':=48) (i:=i) rfl rfl rfl rfl rfl rfl (by omega)) ?_
   refine .c .m<|.c .m ?_
   refine .c (St1.sliceFromB (e:=80) (sz:=2) (by':=48) (i:=(i+1)) rfl (by kernel_rfl) rfl rfl rfl (by omega) (by omega)) ?_
   refine .c (St1.appSelf (e:=80) (sz:=1) (by':=48) (j:=i+1) (q:=rows.length -(i+1)) rfl rfl (by kernel_rfl) rfl rfl rfl (by omega) (by rw[dR_len];omega)) ?_
   refine .c .a ?_
   refine .nil ⟨by kernel_rfl,?_⟩
   refine ks_n<|.r<|.c .m<|.c .m<|.c (.lB 80 2 48)<|.c .m ?_
   refine .clrH (e:=80) (sz:=2) (by':=48) (i:=(i+(rows.length -(i+1)))) rfl rfl (by kernel_rfl) (by kernel_rfl) rfl rfl (show _=rows.length by simp[dR];omega) rfl rfl (by first|rfl|omega) (by first|rfl|omega) (by omega) (by omega) ?_
   refine .r<|.c .m<|.c .a<|.nn<|.ret ?_
   refine kf_wret [(.t 6,.v (.o (.c (.own 0 2 (rows.length -1))))),(.b 0,.b 80 2 (dR (rows.take i++rows.drop (i+1)))),eU 0] (Wk.keep [(0,0)] rfl rfl ⟨ks rfl (.c (.ow (by omega))),kb 0 rfl (.dt rfl ((del_rows (by rw[dR_len];omega)).trans dR_del)),trivial⟩) rfl ?_ (one_box rfl)
   rfl
  ·skip
   refine ACode.drawK (by kernel_rfl) (by kernel_rfl) ?_
   refine .c .m<|.c .m ?_
   refine .c (St1.sliceToB (e:=80) (sz:=2) (by':=48) (i:=i) rfl rfl rfl rfl rfl rfl (by omega)) ?_
   refine .c .m<|.c .m ?_
   refine .c (St1.sliceEndB (e:=80) (sz:=2) (by':=48) rfl (by kernel_rfl) rfl rfl rfl (by omega)) ?_
   refine .c (St1.appZ (e:=80) (sz:=2) (by':=48) rfl rfl (by kernel_rfl) rfl rfl rfl) ?_
   refine .c .a ?_
   refine .nil ⟨by kernel_rfl,?_⟩
   refine ks_n<|.r<|.c .m<|.c .m<|.c (.lB 80 2 48)<|.c .m ?_
   refine .clrH (e:=80) (sz:=2) (by':=48) (i:=i) rfl rfl (by kernel_rfl) (by kernel_rfl) rfl rfl (dR_len _) rfl rfl (by first|rfl|omega) (by first|rfl|omega) (by omega) (by omega) ?_
   refine .r<|.c .m<|.c .a<|.nn<|.ret ?_
   refine kf_wret [(.t 6,.v (.o (.c (.own 0 2 (rows.length -1))))),(.b 0,.b 80 2 (dR (rows.take i++rows.drop (i+1)))),eU 0] (Wk.keep [(0,0)] rfl rfl ⟨ks rfl (.c (.ow (by omega))),kb 0 rfl (.dt rfl ((del_last (by rw[dR_len];omega)).trans dR_del)),trivial⟩) rfl ?_ (one_box rfl)
   rfl
end Go.Proofs.YtollooimmfngjaaGreat
