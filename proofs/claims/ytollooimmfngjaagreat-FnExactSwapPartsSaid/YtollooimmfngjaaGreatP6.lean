/- Part 6 of 6 of the proof: laws on memory and data, then what the functions compute, in the order in which they build on each other; conditions: those that each theorem names. -/
import Derived.Test.YtollooimmfngjaaGreatP5
set_option maxRecDepth 100000
set_option maxHeartbeats 1600000

namespace Go.Proofs.YtollooimmfngjaaGreat
set_option linter.unusedVariables false
set_option linter.unusedSimpArgs false
open Go.RowKit
theorem mem_rdEs {a:Acc}:∀ {l:List Ex},a∈rdEs l→∃x∈l,a∈rdE x
  |[],h=>by rw[rdEs]at h;cases h
  |x::l,h=>by
    rw[rdEs,List.mem_append]at h
    rcases h with h|h
    ·exact⟨x,by simp,h⟩
    · obtain⟨y,hy,h2⟩:=mem_rdEs h
      exact⟨y,by simp[hy],h2⟩
theorem rdE_acc {d:Nat} {a:Acc}:∀ {L:Nat} {e:Ex},exV d L e=true→a∈rdE e→accV d a=true
  |0,e,h,_=>by cases h
  |L+1,e,h,ha=>by
    rw[exV,Bool.and_eq_true,Bool.and_eq_true]at h
    rw[rdE_eq,List.mem_append]at ha
    rcases ha with ha|ha
    · split at ha
      · rename_i hk
        have h2:=h.1.2
        rw[fldV,if_neg (by omega),if_neg (by omega),if_pos hk,Bool.and_eq_true]at h2
        rw[List.mem_singleton.1 ha];exact h2.2
      ·cases ha
    · obtain⟨x,hx,h3⟩:=mem_rdEs ha
      exact rdE_acc (List.all_eq_true.1 h.2 x hx) h3
theorem stm_accs {D:Int} {s:Stm} (h:stmtV D s=true):accV D.toNat s.1=true∧(∀a∈rdE s.2,accV D.toNat a=true)∧(rdE s.2).length≤12:=by
  obtain⟨h1,h2,h3,_⟩:=stmtV_ex h
  exact⟨h2,fun a ha=>rdE_acc h1 ha,Nat.le_trans (rdE_len s.2) h3⟩
theorem accG_not {ar:List Arr} {p:List Int}:(fun a=>decide (cellG a p ar 0<0))=fun a=> !accG ar p a:=by
  funext a;rw[accG,Bool.eq_iff_iff];simp
theorem cloneInts_fn (p:List Int) (hp:p.length≤4294967296):Fn Tryz.prog 67 [] [vD (dIs p)] (.o (vD (dIs p))) []:=
  Fn.pure fun B bx al w vs hv=>by
    obtain⟨v,rfl,h⟩:=vals1 hv
    have h3:=dr_ints h
    obtain⟨a,n,c,rfl,rfl⟩:=sl_form h3
    exact(clone_any B a _ c p w h3 hp).mono fun e w' ⟨v,h1,h2,h4⟩=>⟨_,h1,h4,ints_dr ((h2.sl (by omega)).mono fun b hb _=>.inr (h2.lt b hb).1)⟩
theorem idx_stm {f:FuncId} {cap:List (List D)} (hc:callable Tryz.prog f=true) (p:Stm→Bool) (xs:List Stm) (hx:xs.length≤1099511627776) (hf:∀x∈xs,Fn Tryz.prog f [] (ad (rS x)::cap.map fun c=>.c (.ptr c)) (.o (bo1 (p x))) []):Fn Tryz.prog 107 [] [vD (.list 9 (xs.map rS)),.c (.fn f cap)] (.o (nat1 (idxF p xs))) []:=by
 refine Fn.code0 Tryz.func107 rfl rfl rfl rfl ?_
 refine .r<|.c .a<|.nn<|.seq<|.r<|.c .m<|.c (.ln 66 9 152)<|.c .m<|.nn<|.block ?_
 refine .loopK (fun m σ=>(∃i:Nat,m=xs.length -i∧(i≤xs.length)∧(idxF p xs=idxG p i (xs.drop i))∧σ=[eD 0 (.list 9 (xs.map rS)),(.t 1,.v (.o (.c (.fn f cap)))),eN 7 (xs.length:Nat),eN 8 (i:Nat)])) [] ⟨0,rfl,by omega,rfl,rfl⟩ ⟨kd,kd,kd,kd,trivial⟩ ?_
 rintro m σ ⟨i,hm0,hi,hF,rfl⟩
 refine .r<|.c .ls<|.nn<|.seq ?_
 refine .cD rfl (fun h9=>?_) (fun h9=>?_)
 ·skip
  obtain⟨x,hx1⟩:∃x_,xs[i]?=some x_:=⟨_,List.getElem?_eq_getElem (by omega)⟩
  refine .skip<|ks_n<|.seq<|.block<|.r<|.c .m<|.c .a<|.r<|.c .m<|.c .m<|.c .m<|.c (.xL 66 9 152) ?_
  refine .c (.lN 9) ?_
  refine .c (.cP [.tmp 15] rfl rfl rfl rfl (hf x (List.mem_of_getElem? hx1)) rfl hc) ?_
  refine .nn ?_
  refine ACode.condT rfl (fun h16=>?_) (fun h16=>?_)
  ·try simp only[zs]at h16
   refine .r<|.c .m<|.c .a<|.nn<|.ret<|kb_r<|ks_r<|kl_r<|kb_r<|ks_r ?_
   refine kf_ret rfl ?_ nobox
   exact leafI (by rw[hF,idxG_drop hx1,h16];rfl)
  ·try simp only[zs]at h16
   refine .skip<|kb_n<|ks_n<|.region<|.c .pl<|.c .m<|.nil ?_
   refine kl_k [] ⟨i+1,rfl,by omega,by rw[hF,idxG_drop hx1,h16];rfl,rfl⟩ ⟨kd,kd,kd,kd,trivial⟩
 ·skip
  refine .exit<|ks_e<|kl_e<|kb_hit<|ks_n<|.r<|.c .a<|.nn<|.ret ?_
  refine kf_ret rfl ?_ nobox
  exact leafI (by rw[hF,List.drop_of_length_le (by omega)];rfl)
theorem cnt_stm {f:FuncId} {cap:List (List D)} (hc:callable Tryz.prog f=true) (p:Stm→Bool) (xs:List Stm) (hx:xs.length≤1099511627776) (hf:∀x∈xs,Fn Tryz.prog f [] (ad (rS x)::cap.map fun c=>.c (.ptr c)) (.o (bo1 (p x))) []):Fn Tryz.prog 62 [] [vD (.list 9 (xs.map rS)),.c (.fn f cap)] (.o (bo1 (xs.any p))) []:=by
  refine Fn.code0 Tryz.func62 rfl rfl rfl rfl ?_
  refine .r<|.c .a<|.r<|.c .m<|.c .m ?_
  refine .c (.cP [.tmp 5,.tmp 6] rfl rfl rfl rfl (idx_stm hc p xs hx hf) rfl) ?_
  refine .c .ge<|.c .a<|.nn<|.ret ?_
  refine kf_ret rfl ?_ nobox
  exact leafB idxG_any
theorem sok1_fn {g:Prg} (hv:arrsV g.1=true) {D:Nat} {a:Acc} {p:List Int} (ha:accV D a=true) (hS:Small p) (hn:p.length≤4):Fn Tryz.prog 113 [] [ad (rC a),.c (.ptr (rG g)),.c (.ptr [dIs p])] (.o (bo1 (decide (cellG a p g.1 0<0)))) []:=by
  refine Fn.code0 Tryz.func113 rfl rfl rfl rfl ?_
  refine .r<|.c .bp<|.c .a<|.r<|.c (.lN 2)<|.c (.lN 2)<|.c (.l1 1) ?_
  refine .c (.cP [.tmp 5,.tmp 6,.tmp 7] rfl rfl rfl rfl (cell_fn hv ha hS hn) rfl) ?_
  refine .c .ls<|.c .a<|.nn<|.ret ?_
  refine kf_ret rfl ?_ nobox
  rfl
theorem sok_fn {g:Prg} (hv:arrsV g.1=true) {D:Int} {s:Stm} {p:List Int} (hs:stmtV D s=true) (hS:Small p) (hn:p.length≤4):Fn Tryz.prog 66 [] [ad (rG g),ad (rS s),vD (dIs p)] (.o (bo1 (stmG g.1 s p))) []:=by
  obtain⟨ha,hr,hrl⟩:=stm_accs hs
  refine Fn.code0 Tryz.func66 rfl rfl rfl rfl ?_
  refine .r<|.c .bp<|.c .bp<|.c .bp<|.c .a<|.r<|.c (.lN 2)<|.c (.fP 0 1 true)<|.c (.lN 2)<|.c (.l1 1) ?_
  refine .c (.cP [.tmp 7,.tmp 9,.tmp 10] rfl rfl rfl rfl (cell_fn hv ha hS hn) rfl) ?_
  refine .c .ge<|.c .m ?_
  refine .cD 13 rfl (fun g13=>?_) (fun g13=>?_)
  · skip
    refine .c (.g (.fP 2 6 true))<|.c (.g (.lN 7)) ?_
    refine .c (.gT rfl rfl rfl (.cP [.tmp 15] rfl rfl rfl rfl (reads_fn (L:=5) s.2 (by omega) (stmtV_ex hs).1) rfl)) ?_
    refine .c (.gT rfl rfl rfl (St1.makeFunc (xs:=[.tmp 3,.tmp 5]) rfl rfl rfl rfl rfl rfl rfl))<|.c (.gT rfl rfl rfl (.cP [.tmp 16,.tmp 17] rfl rfl rfl rfl (cnt_acc (f:=113) (cap:=[rG g,[dIs p]]) (by kernel_rfl) (fun a=>decide (cellG a p g.1 0<0)) (rdE s.2) (by omega) (fun a ha=>sok1_fn hv (hr a ha) hS hn)) rfl)) ?_
    refine .c (.g .nt)<|.c .pT<|.c .a<|.nn<|.ret ?_
    refine kf_ret rfl ?_ nobox
    exact leafB (by rw[stmG,accG];first|(rw[accG_not,nany];simp[*];done)|(simp[*];done))
  · skip
    refine .c .f<|.c .f<|.c .f<|.c .f<|.c .f<|.c .f<|.c .pF<|.c .a<|.nn<|.ret ?_
    refine kf_ret rfl ?_ nobox
    exact leafB (by rw[stmG,accG];first|(rw[accG_not,nany];simp[*];done)|(simp[*];done))
theorem ins1_fn {q:Prt} {s:Stm} (hs:szS s≤1073741824):Fn Tryz.prog 63 [] [ad (rS s),.c (.ptr (rP q))] (.o (bo1 (!stmtV (q.1.length:Nat) s))) []:=by
  refine Fn.code0 Tryz.func63 rfl rfl rfl rfl ?_
  refine .r<|.c .bp<|.c .a<|.r<|.c (.lN 9)<|.c (.fP 0 0 false)<|.c (.l1 1)<|.c (.ln 148 2 48) ?_
  refine .c (.cP [.tmp 4,.tmp 7] rfl rfl rfl rfl (implStmtV_fn (q.1.length:Nat) s (by omega)) rfl) ?_
  refine .c .nt<|.c .a<|.nn<|.ret ?_
  refine kf_ret rfl ?_ nobox
  rfl
theorem all_of {α:Type} {l:List α} {p:α→Bool} (h:∀(j:Nat) x,l[j]?=some x→p x=true):l.all p=true:=by
  rw[List.all_eq_true]
  intro x hx
  obtain⟨j,hj⟩:=List.mem_iff_getElem?.1 hx
  exact h j x hj
theorem instances_fn {g:Prg} (hs:szG g≤1073741824):Fn Tryz.prog 25 [] [ad (rG g)] (.tup [vD (dNs (insV g)),bo1 (prgV g)]) []:=by
 have h1:=szO_len (f:=szR) g.1
 have h2:=szO_len (f:=szPt) g.2
 have hsz:szG g=szO szR g.1+szO szPt g.2:=rfl
 refine Fn.code0 Tryz.func25 rfl rfl rfl rfl ?_
 refine .r<|.c .bp<|.c .a<|.c .a<|.nn<|.seq<|.r<|.c (.fP 0 0 false)<|.c (.l1 1) ?_
 refine .c (.cP [.tmp 14] rfl rfl rfl rfl (arraysOk_fn g.1 (by omega) (fun x hx=>by have:=szO_mem (f:=szR) hx;have e:szR x=x.1.size+x.2.length:=rfl;omega)) rfl) ?_
 refine .c .nt<|.c .m ?_
 refine AOps.cases 17 _ rfl (fun g17=>?_) (fun g17=>?_)
 ·try simp only[zs]at g17
  refine .c .f<|.c .f<|.c .f<|.c .f<|.c .pT<|.nn ?_
  refine .k1 ?_
  refine .seq ?_
  obtain⟨hO,hN⟩:=prgV_f (g:=g) (by first|exact prgS_f2 (show ¬g.2.length≤4 by omega)|exact prgS_f1 (by assumption))
  refine .region<|.c .a<|.c .a<|.nn<|.ret<|ks_r ?_
  refine kf_wret [eD 2 (dNs (insV g)),eT 3 (prgV g)] (Wk.keep [] rfl rfl ⟨ks rfl (.c (Cto.nilE 3 (by first|(rw[hN];rfl)|(rw[hN,hEz];rfl)))),ks rfl (.dt (by first|exact congrArg (fun b=>V.o (bo1 b)) hO.symm|exact congrArg (fun b=>V.o (bo1 b)) (by rw[hO,hEz,decide_eq_decide];simp)|exact congrArg (fun b=>V.o (bo1 b)) (by rw[hO,hEz,decide_eq_decide];omega))),trivial⟩) rfl ?_ nobox
  rfl
 ·try simp only[zs]at g17
  refine .c (.g (.fP 1 0 false))<|.c (.g (.l1 1))<|.c (.g (.ln 80 2 48))<|.c (.g .gt)<|.c .pF<|.nn ?_
  refine ACode.condT rfl (fun h22=>?_) (fun h22=>?_)
  ·try simp only[zs]at h22
   refine .seq ?_
   obtain⟨hO,hN⟩:=prgV_f (g:=g) (by first|exact prgS_f2 (show ¬g.2.length≤4 by omega)|exact prgS_f1 (by assumption))
   refine .region<|.c .a<|.c .a<|.nn<|.ret<|ks_r ?_
   refine kf_wret [eD 2 (dNs (insV g)),eT 3 (prgV g)] (Wk.keep [] rfl rfl ⟨ks rfl (.c (Cto.nilE 3 (by first|(rw[hN];rfl)|(rw[hN,hEz];rfl)))),ks rfl (.dt (by first|exact congrArg (fun b=>V.o (bo1 b)) hO.symm|exact congrArg (fun b=>V.o (bo1 b)) (by rw[hO,hEz,decide_eq_decide];simp)|exact congrArg (fun b=>V.o (bo1 b)) (by rw[hO,hEz,decide_eq_decide];omega))),trivial⟩) rfl ?_ nobox
   rfl
  ·try simp only[zs]at h22
   have hA:arrsV g.1=true:=by first|assumption|simp_all
   have h4:g.2.length≤4:=by omega
   refine .skip<|ks_n<|.r<|.c .a<|.nn<|.seq<|.r<|.c (.fP 1 0 false)<|.c (.l1 1)<|.c (.ln 80 2 48)<|.c .m<|.nn<|.block ?_
   refine .loopK (fun m σ=>(∃k:Nat,m=g.2.length -k∧(k≤g.2.length)∧(∀j q,j<k→g.2[j]?=some q→prtV g.1 q=true)∧(insG 0 (g.2.take k)=[])∧σ=[eP 1 (rG g),(.t 4,.v (.o (.c (nl)))),eD 24 (dPts g.2),eN 25 (g.2.length:Nat),eN 26 (k:Nat)])∨(∃(k:Nat) (o:List Ins),m=g.2.length -k∧(k≤g.2.length)∧(∀j q,j<k→g.2[j]?=some q→prtV g.1 q=true)∧(insG 0 (g.2.take k)=o)∧(o.length≤480 *k)∧σ=[eP 1 (rG g),(.t 4,.v (.o (.c (.own 110 3 (o.length))))),eD 24 (dPts g.2),eN 25 (g.2.length:Nat),eN 26 (k:Nat),(.b 110,.b 56 3 (dR (o.map rN))),eU 110])) [] (.inl ⟨0,rfl,by omega,fun j q hj _=>absurd hj (by omega),rfl,rfl⟩) ⟨kd,kd,kd,kd,kd,trivial⟩ ?_
   rintro m σ (⟨k,hm0,hk,hF,hE,rfl⟩|⟨k,o,hm0,hk,hF,hE,ho,rfl⟩)
   ·skip
    refine .r<|.c .ls<|.nn<|.seq ?_
    refine .cD rfl (fun h27=>?_) (fun h27=>?_)
    ·skip
     obtain⟨q,hq1⟩:∃x_,g.2[k]?=some x_:=⟨_,List.getElem?_eq_getElem (by omega)⟩
     have hqm:=List.mem_of_getElem? hq1
     have hqs:=szO_mem (f:=szPt) hqm
     have hqe:szPt q=szLs q.1+szO szS q.2:=rfl
     have hbg:=sz_bg (ns:=q.1) (by omega)
     have hql:=szO_len (f:=szS) q.2
     refine .skip<|ks_n<|.seq<|.block<|.r<|.c .m<|.c (.xL 80 2 48) ?_
     refine .c (.lN 2)<|.c (.al 106 [.slice none 0 0,.slice none 0 0])<|.c .a<|.c (.sT 2 true)<|.nn<|.seq ?_
     refine .keep [eP 1 (rG g),(.t 4,.v (.o (.c (nl)))),eN 5 (k:Nat),eP 6 (rP q),eD 24 (dPts g.2),eN 25 (g.2.length:Nat),eN 26 (k:Nat)] [] ⟨kd,kd,kd,ks rfl (.c (.frzP _ _ _ _ _ _ _ _ rfl (show _=dR [rP q]from rfl) rfl rfl rfl)),kd,kd,kd,trivial⟩ ?_
     refine .region<|.c (.fP 0 0 false)<|.c (.l1 1) ?_
     refine .c (.cP [.tmp 33] rfl rfl rfl rfl (implNestPts_B q.1 hbg) rfl) ?_
     refine .c .m<|.c .ex<|.c .ex<|.c .a<|.c .a<|.nn<|.seq<|.r<|.c .m<|.c .nt<|.c .m ?_
     refine AOps.cases 39 _ rfl (fun g39=>?_) (fun g39=>?_)
     ·try simp only[zs]at g39
      refine .c .f<|.c .f<|.c .f<|.c .f<|.c .f<|.c .pT<|.c .m<|.c .f<|.c .f<|.c .f<|.c .f<|.c .pT<|.nn ?_
      refine .k1 ?_
      refine .seq ?_
      have hbad:prtV g.1 q=false:=by first|exact prtV_f1 (by assumption)|exact prtV_f2 (fun h=>by simp_all [inB];omega)|(obtain⟨s,hs,hs2⟩:=List.any_eq_true.1 (by assumption);exact prtV_f3 hs (by simpa using hs2))
      obtain⟨hO,hN⟩:=prgV_f (g:=g) (prgS_f3 hqm hbad)
      refine .region<|.c .a<|.c .a<|.nn<|.ret<|ks_r<|kb_r<|ks_r<|kl_r<|kb_r<|ks_r ?_
      refine kf_wret [eD 2 (dNs (insV g)),eT 3 (prgV g)] (Wk.keep [] rfl rfl ⟨ks rfl (.c (Cto.nilE 3 (by first|(rw[hN];rfl)|(rw[hN,hEz];rfl)))),ks rfl (.dt (by first|exact congrArg (fun b=>V.o (bo1 b)) hO.symm|exact congrArg (fun b=>V.o (bo1 b)) (by rw[hO,hEz,decide_eq_decide];simp)|exact congrArg (fun b=>V.o (bo1 b)) (by rw[hO,hEz,decide_eq_decide];omega))),trivial⟩) rfl ?_ nobox
      rfl
     ·try simp only[zs]at g39
      refine .c (.g (.fP 1 0 false))<|.c (.g (.l1 1))<|.c (.g (.ln 66 9 152)) ?_
      refine .c (.gT rfl rfl rfl (.cP [.tmp 42,.const (.int .i64 (1)),.const (.int .i64 (4))] rfl rfl rfl rfl (within_fn _ 1 4) rfl)) ?_
      refine .c (.g .nt)<|.c .pF<|.c .m ?_
      refine AOps.cases 46 _ rfl (fun g46=>?_) (fun g46=>?_)
      ·try simp only[zs]at g46
       refine .c .f<|.c .f<|.c .f<|.c .f<|.c .pT<|.nn ?_
       refine .k1 ?_
       refine .seq ?_
       have hbad:prtV g.1 q=false:=by first|exact prtV_f1 (by assumption)|exact prtV_f2 (fun h=>by simp_all [inB];omega)|(obtain⟨s,hs,hs2⟩:=List.any_eq_true.1 (by assumption);exact prtV_f3 hs (by simpa using hs2))
       obtain⟨hO,hN⟩:=prgV_f (g:=g) (prgS_f3 hqm hbad)
       refine .region<|.c .a<|.c .a<|.nn<|.ret<|ks_r<|kb_r<|ks_r<|kl_r<|kb_r<|ks_r ?_
       refine kf_wret [eD 2 (dNs (insV g)),eT 3 (prgV g)] (Wk.keep [] rfl rfl ⟨ks rfl (.c (Cto.nilE 3 (by first|(rw[hN];rfl)|(rw[hN,hEz];rfl)))),ks rfl (.dt (by first|exact congrArg (fun b=>V.o (bo1 b)) hO.symm|exact congrArg (fun b=>V.o (bo1 b)) (by rw[hO,hEz,decide_eq_decide];simp)|exact congrArg (fun b=>V.o (bo1 b)) (by rw[hO,hEz,decide_eq_decide];omega))),trivial⟩) rfl ?_ nobox
       rfl
      ·try simp only[zs]at g46
       refine .c (.g (.fP 1 0 false))<|.c (.g (.l1 1)) ?_
       refine .c (.gT rfl rfl rfl (St1.makeFunc (xs:=[.tmp 6]) rfl rfl rfl rfl rfl rfl rfl))<|.c (.gT rfl rfl rfl (.cP [.tmp 48,.tmp 49] rfl rfl rfl rfl (cnt_stm (f:=63) (cap:=[rP q]) (by kernel_rfl) (fun s=> !stmtV (q.1.length:Nat) s) q.2 (by omega) (fun s hs=>ins1_fn (by have:=szO_mem (f:=szS) hs;omega))) rfl)) ?_
       refine .c .pF<|.nn ?_
       refine ACode.condT rfl (fun h51=>?_) (fun h51=>?_)
       ·try simp only[zs]at h51
        refine .seq ?_
        have hbad:prtV g.1 q=false:=by first|exact prtV_f1 (by assumption)|exact prtV_f2 (fun h=>by simp_all [inB];omega)|(obtain⟨s,hs,hs2⟩:=List.any_eq_true.1 (by assumption);exact prtV_f3 hs (by simpa using hs2))
        obtain⟨hO,hN⟩:=prgV_f (g:=g) (prgS_f3 hqm hbad)
        refine .region<|.c .a<|.c .a<|.nn<|.ret<|ks_r<|kb_r<|ks_r<|kl_r<|kb_r<|ks_r ?_
        refine kf_wret [eD 2 (dNs (insV g)),eT 3 (prgV g)] (Wk.keep [] rfl rfl ⟨ks rfl (.c (Cto.nilE 3 (by first|(rw[hN];rfl)|(rw[hN,hEz];rfl)))),ks rfl (.dt (by first|exact congrArg (fun b=>V.o (bo1 b)) hO.symm|exact congrArg (fun b=>V.o (bo1 b)) (by rw[hO,hEz,decide_eq_decide];simp)|exact congrArg (fun b=>V.o (bo1 b)) (by rw[hO,hEz,decide_eq_decide];omega))),trivial⟩) rfl ?_ nobox
        rfl
       ·try simp only[zs]at h51
        have hv1:okP q.1=true:=by first|assumption|simp_all
        have hv2:1≤q.2.length∧q.2.length≤4:=by simp_all [inB];omega
        have hv3:∀s∈q.2,stmtV (q.1.length:Nat) s=true:=by simp_all
        refine .skip<|ks_n<|.r<|.c .m<|.c (.ln 43 1 24)<|.c .m<|.nn<|.block ?_
        refine .loopK (fun m σ=>(∃i:Nat,m=(npR q.1).length -i∧(i=0)∧σ=[eP 1 (rG g),(.t 4,.v (.o (.c (nl)))),eN 5 (k:Nat),eP 6 (rP q),eD 24 (dPts g.2),eN 25 (g.2.length:Nat),eN 26 (k:Nat),eD 52 (dPs (npR q.1)),eN 53 ((npR q.1).length:Nat),eN 54 (i:Nat)])∨(∃(i:Nat) (o2:List Ins),m=(npR q.1).length -i∧(i≤(npR q.1).length)∧(∀j p,j<i→(npR q.1)[j]?=some p→ptG' g.1 q.2 p=true)∧([]++insT k q.2.length ((npR q.1).take i)=o2)∧(o2.length≤480 *k+4 *i)∧σ=[eP 1 (rG g),(.t 4,.v (.o (.c (.own 120 3 (o2.length))))),eN 5 (k:Nat),eP 6 (rP q),eD 24 (dPts g.2),eN 25 (g.2.length:Nat),eN 26 (k:Nat),eD 52 (dPs (npR q.1)),eN 53 ((npR q.1).length:Nat),eN 54 (i:Nat),(.b 120,.b 56 3 (dR (o2.map rN))),eU 120])) [] (.inl ⟨0,rfl,rfl,rfl⟩) ⟨kd,kd,kd,kd,kd,kd,kd,kd,kd,kd,trivial⟩ ?_
        rintro m σ (⟨i,hm0,rfl,rfl⟩|⟨i,o2,hm0,hi,hG,hEo,ho2,rfl⟩)
        ·skip
         refine .r<|.c .ls<|.nn<|.seq ?_
         refine .cD rfl (fun h55=>?_) (fun h55=>?_)
         ·skip
          obtain⟨p,hp1⟩:∃x_,(npR q.1)[0]?=some x_:=⟨_,List.getElem?_eq_getElem (by omega)⟩
          have hpm:=List.mem_of_getElem? hp1
          have hpt:=npR_pt hpm
          have hnl:=npR_len q.1
          refine .skip<|ks_n<|.seq<|.block<|.r<|.c (.xL 43 1 24) ?_
          refine .c (.l1 1)<|.c .a<|.nn<|.seq<|.r<|.c .m ?_
          refine .c (.cP [.tmp 58] rfl rfl rfl rfl (isPoint_fn _) rfl) ?_
          refine .c .nt<|.nn ?_
          refine ACode.condT rfl (fun h60=>?_) (fun h60=>?_)
          ·try simp only[zs]at h60
           refine .seq ?_
           obtain⟨hO,hN⟩:=prgV_f (g:=g) (prgS_f3 hqm (prtV_f4 hpm (by assumption)))
           refine .region<|.c .a<|.c .a<|.nn<|.ret<|ks_r<|kb_r<|ks_r<|kl_r<|kb_r<|kb_r<|ks_r<|kl_r<|kb_r<|ks_r ?_
           refine kf_wret [eD 2 (dNs (insV g)),eT 3 (prgV g)] (Wk.keep [] rfl rfl ⟨ks rfl (.c (Cto.nilE 3 (by first|(rw[hN];rfl)|(rw[hN,hEz];rfl)))),ks rfl (.dt (by first|exact congrArg (fun b=>V.o (bo1 b)) hO.symm|exact congrArg (fun b=>V.o (bo1 b)) (by rw[hO,hEz,decide_eq_decide];simp)|exact congrArg (fun b=>V.o (bo1 b)) (by rw[hO,hEz,decide_eq_decide];omega))),trivial⟩) rfl ?_ nobox
           rfl
          ·try simp only[zs]at h60
           refine .skip<|ks_n<|.r<|.c (.fP 1 0 false)<|.c (.l1 1)<|.c (.ln 66 9 152)<|.c .m<|.nn<|.block ?_
           refine .loopK (fun m σ=>(∃j:Nat,m=q.2.length -j∧(j=0)∧σ=[eP 1 (rG g),(.t 4,.v (.o (.c (nl)))),eN 5 (k:Nat),eP 6 (rP q),eD 10 (dIs p),eD 24 (dPts g.2),eN 25 (g.2.length:Nat),eN 26 (k:Nat),eD 52 (dPs (npR q.1)),eN 53 ((npR q.1).length:Nat),eN 54 (0:Nat),eD 62 (dMs q.2),eN 63 (q.2.length:Nat),eN 64 (j:Nat)])∨(∃(j:Nat) (o3:List Ins),m=q.2.length -j∧(j≤q.2.length)∧(∀t s,t<j→q.2[t]?=some s→stmG g.1 s p=true)∧([]++rowI k j p=o3)∧(o3.length≤480 *k+4 *0+j)∧σ=[eP 1 (rG g),(.t 4,.v (.o (.c (.own 130 3 (o3.length))))),eN 5 (k:Nat),eP 6 (rP q),eD 10 (dIs p),eD 24 (dPts g.2),eN 25 (g.2.length:Nat),eN 26 (k:Nat),eD 52 (dPs (npR q.1)),eN 53 ((npR q.1).length:Nat),eN 54 (0:Nat),eD 62 (dMs q.2),eN 63 (q.2.length:Nat),eN 64 (j:Nat),(.b 130,.b 56 3 (dR (o3.map rN))),eU 130])) [] (.inl ⟨0,rfl,rfl,rfl⟩) ⟨kd,kd,kd,kd,kd,kd,kd,kd,kd,kd,kd,kd,kd,kd,trivial⟩ ?_
           rintro m σ (⟨j,hm0,rfl,rfl⟩|⟨j,o3,hm0,hj,hH,hEp,ho3,rfl⟩)
           ·skip
            refine .r<|.c .ls<|.nn<|.seq ?_
            refine .cD rfl (fun h65=>?_) (fun h65=>?_)
            ·skip
             obtain⟨s,hs1⟩:∃x_,q.2[0]?=some x_:=⟨_,List.getElem?_eq_getElem (by omega)⟩
             have hsm:=List.mem_of_getElem? hs1
             have hsv:=hv3 s hsm
             refine .skip<|ks_n<|.seq<|.block<|.r<|.c .m<|.c (.xL 66 9 152) ?_
             refine .c (.lN 9)<|.c (.al 112 [.string ByteArray.empty,.slice none 0 0,.int .i64 0,.int .i64 0,.slice none 0 0,.int .i64 0,.string ByteArray.empty,.slice none 0 0,.slice none 0 0])<|.c .a<|.c (.sT 9 true)<|.nn<|.seq<|.r<|.c (.lN 2)<|.c (.bN 9)<|.c .m ?_
             refine .c (.cP [.tmp 69,.tmp 70,.tmp 71] rfl rfl rfl rfl (sok_fn hA hsv hpt.1 hpt.2) rfl) ?_
             refine .c .nt<|.nn ?_
             refine ACode.condT rfl (fun h73=>?_) (fun h73=>?_)
             ·try simp only[zs]at h73
              refine .seq ?_
              obtain⟨hO,hN⟩:=prgV_f (g:=g) (prgS_f3 hqm (prtV_f5 hpm hsm (by assumption)))
              refine .region<|.c .a<|.c .a<|.nn<|.ret<|ks_r<|kb_r<|ks_r<|kl_r<|kb_r<|kb_r<|ks_r<|kl_r<|kb_r<|kb_r<|ks_r<|kl_r<|kb_r<|ks_r ?_
              refine kf_wret [eD 2 (dNs (insV g)),eT 3 (prgV g)] (Wk.keep [] rfl rfl ⟨ks rfl (.c (Cto.nilE 3 (by first|(rw[hN];rfl)|(rw[hN,hEz];rfl)))),ks rfl (.dt (by first|exact congrArg (fun b=>V.o (bo1 b)) hO.symm|exact congrArg (fun b=>V.o (bo1 b)) (by rw[hO,hEz,decide_eq_decide];simp)|exact congrArg (fun b=>V.o (bo1 b)) (by rw[hO,hEz,decide_eq_decide];omega))),trivial⟩) rfl ?_ nobox
              rfl
             ·try simp only[zs]at h73
              have hST:stmG g.1 s p=true:=by assumption
              refine .skip<|ks_n<|.region<|.c .m<|.c .m<|.c .m<|.c .m ?_
              refine .c (.cP [.tmp 77] rfl rfl rfl rfl (cloneInts_fn p (by omega)) rfl) ?_
              refine .c (.bu [(0,.tmp 75),(1,.tmp 76),(2,.tmp 78)] [(0,1),(1,1),(2,1)] [.int .i64 0,.int .i64 0,.slice none 0 0])<|.c (.li 56 2 0 [.tmp 79]) ?_
              refine .c (St1.appN (k':=181) (e:=56) (sz:=2) (by':=40) rfl rfl rfl rfl rfl (by kernel_rfl) rfl rfl rfl (by simp) (by first|(simp[dR];done)|(simp[dR];omega)) rfl rfl) ?_
              refine .c .a<|.nil<|kb_n<|ks_n<|.region<|.c .pl<|.c .m<|.nil ?_
              refine kl_k [(130,181)] (.inr ⟨1,[((k:Int),((0:Nat):Int),p)],rfl,by omega,fun t s' ht hs'=>(Nat.lt_succ_iff_lt_or_eq.1 ht).elim (fun h=>absurd h (by omega)) (fun h=>by subst h;rw[hs1]at hs';cases hs';exact hST),rfl,by simp,rfl⟩) ⟨kd,kW,kd,kd,kd,kd,kd,kd,kd,kd,kd,kd,kd,kd,kb 181 rfl (.dt rfl (by first|rfl|(simp[dR,rN,dI];done))),trivial⟩
            ·skip
             exfalso;omega
           ·skip
            refine .r<|.c .ls<|.nn<|.seq ?_
            refine .cD rfl (fun h65=>?_) (fun h65=>?_)
            ·skip
             obtain⟨s,hs1⟩:∃x_,q.2[j]?=some x_:=⟨_,List.getElem?_eq_getElem (by omega)⟩
             have hsm:=List.mem_of_getElem? hs1
             have hsv:=hv3 s hsm
             refine .skip<|ks_n<|.seq<|.block<|.r<|.c .m<|.c (.xL 66 9 152) ?_
             refine .c (.lN 9)<|.c (.al 112 [.string ByteArray.empty,.slice none 0 0,.int .i64 0,.int .i64 0,.slice none 0 0,.int .i64 0,.string ByteArray.empty,.slice none 0 0,.slice none 0 0])<|.c .a<|.c (.sT 9 true)<|.nn<|.seq<|.r<|.c (.lN 2)<|.c (.bN 9)<|.c .m ?_
             refine .c (.cP [.tmp 69,.tmp 70,.tmp 71] rfl rfl rfl rfl (sok_fn hA hsv hpt.1 hpt.2) rfl) ?_
             refine .c .nt<|.nn ?_
             refine ACode.condT rfl (fun h73=>?_) (fun h73=>?_)
             ·try simp only[zs]at h73
              refine .seq ?_
              obtain⟨hO,hN⟩:=prgV_f (g:=g) (prgS_f3 hqm (prtV_f5 hpm hsm (by assumption)))
              refine .region<|.c .a<|.c .a<|.nn<|.ret<|ks_r<|kb_r<|ks_r<|kl_r<|kb_r<|kb_r<|ks_r<|kl_r<|kb_r<|kb_r<|ks_r<|kl_r<|kb_r<|ks_r ?_
              refine kf_wret [eD 2 (dNs (insV g)),eT 3 (prgV g)] (Wk.keep [] rfl rfl ⟨ks rfl (.c (Cto.nilE 3 (by first|(rw[hN];rfl)|(rw[hN,hEz];rfl)))),ks rfl (.dt (by first|exact congrArg (fun b=>V.o (bo1 b)) hO.symm|exact congrArg (fun b=>V.o (bo1 b)) (by rw[hO,hEz,decide_eq_decide];simp)|exact congrArg (fun b=>V.o (bo1 b)) (by rw[hO,hEz,decide_eq_decide];omega))),trivial⟩) rfl ?_ nobox
              rfl
             ·try simp only[zs]at h73
              have hST:stmG g.1 s p=true:=by assumption
              refine .skip<|ks_n<|.region<|.c .m<|.c .m<|.c .m<|.c .m ?_
              refine .c (.cP [.tmp 77] rfl rfl rfl rfl (cloneInts_fn p (by omega)) rfl) ?_
              refine .c (.bu [(0,.tmp 75),(1,.tmp 76),(2,.tmp 78)] [(0,1),(1,1),(2,1)] [.int .i64 0,.int .i64 0,.slice none 0 0])<|.c (.li 56 2 0 [.tmp 79]) ?_
              refine .c (St1.appB (k':=181) (e:=56) (sz:=2) (by':=40) rfl rfl rfl rfl rfl (by kernel_rfl) rfl rfl rfl rfl (by first|(simp[dR];done)|(simp[dR];omega)) (by first|(simp[dR];done)|(simp[dR];omega)) rfl rfl rfl) ?_
              refine .c .a<|.nil<|kb_n<|ks_n<|.region<|.c .pl<|.c .m<|.nil ?_
              refine kl_k [(130,181)] (.inr ⟨j+1,o3++[((k:Int),((j:Nat):Int),p)],rfl,by omega,fun t s' ht hs'=>(Nat.lt_succ_iff_lt_or_eq.1 ht).elim (fun h=>hH t s' h hs') (fun h=>by subst h;rw[hs1]at hs';cases hs';exact hST),by rw[rowI_snoc,←List.append_assoc,hEp],by rw[List.length_append,List.length_singleton];omega,rfl⟩) ⟨kd,kW,kd,kd,kd,kd,kd,kd,kd,kd,kd,kd,kd,kd,kb 181 rfl (.dt rfl (by first|rfl|(simp[dR,rN,dI];done))),trivial⟩
            ·skip
             obtain rfl:j=q.2.length:=by omega
             have hPT:ptG' g.1 q.2 p=true:=by rw[ptG',show isPt p=true by assumption,Bool.true_and];exact all_of fun j s h=>hH j s (List.getElem?_eq_some_iff.1 h).1 h
             refine .exit<|ks_e<|kl_e<|kb_hit<|kb_n<|ks_n<|.region<|.c .pl<|.c .m<|.nil ?_
             refine kl_k [(120,130)] (.inr ⟨1,o3,rfl,by omega,fun j p' hj hp'=>(Nat.lt_succ_iff_lt_or_eq.1 hj).elim (fun h=>absurd h (by omega)) (fun h=>by subst h;rw[hp1]at hp';cases hp';exact hPT),by rw[insT_take hp1];exact hEp,by omega,rfl⟩) ⟨kd,kW,kd,kd,kd,kd,kd,kd,kd,kd,kb 130 rfl (.dt rfl (by first|rfl|(simp[dR,rN,dI];done))),trivial⟩
         ·skip
          have hn0:npR q.1=[]:=List.eq_nil_of_length_eq_zero (by omega)
          have hPV:prtV g.1 q=true:=by rw[prtV_eq hv1 hv2 (List.all_eq_true.2 hv3),hn0];rfl
          refine .exit<|ks_e<|kl_e<|kb_hit<|kb_n<|ks_n<|.region<|.c .pl<|.c .m<|.nil ?_
          refine kl_k [] (.inl ⟨k+1,rfl,by omega,fun j q' hj hq'=>(Nat.lt_succ_iff_lt_or_eq.1 hj).elim (fun h=>hF j q' h hq') (fun h=>by subst h;rw[hq1]at hq';cases hq';exact hPV),by rw[insG_take hq1,hE,insP,hn0];rfl,rfl⟩) ⟨kd,kd,kd,kd,kd,trivial⟩
        ·skip
         refine .r<|.c .ls<|.nn<|.seq ?_
         refine .cD rfl (fun h55=>?_) (fun h55=>?_)
         ·skip
          obtain⟨p,hp1⟩:∃x_,(npR q.1)[i]?=some x_:=⟨_,List.getElem?_eq_getElem (by omega)⟩
          have hpm:=List.mem_of_getElem? hp1
          have hpt:=npR_pt hpm
          have hnl:=npR_len q.1
          refine .skip<|ks_n<|.seq<|.block<|.r<|.c (.xL 43 1 24) ?_
          refine .c (.l1 1)<|.c .a<|.nn<|.seq<|.r<|.c .m ?_
          refine .c (.cP [.tmp 58] rfl rfl rfl rfl (isPoint_fn _) rfl) ?_
          refine .c .nt<|.nn ?_
          refine ACode.condT rfl (fun h60=>?_) (fun h60=>?_)
          ·try simp only[zs]at h60
           refine .seq ?_
           obtain⟨hO,hN⟩:=prgV_f (g:=g) (prgS_f3 hqm (prtV_f4 hpm (by assumption)))
           refine .region<|.c .a<|.c .a<|.nn<|.ret<|ks_r<|kb_r<|ks_r<|kl_r<|kb_r<|kb_r<|ks_r<|kl_r<|kb_r<|ks_r ?_
           refine kf_wret [eD 2 (dNs (insV g)),eT 3 (prgV g)] (Wk.keep [] rfl rfl ⟨ks rfl (.c (Cto.nilE 3 (by first|(rw[hN];rfl)|(rw[hN,hEz];rfl)))),ks rfl (.dt (by first|exact congrArg (fun b=>V.o (bo1 b)) hO.symm|exact congrArg (fun b=>V.o (bo1 b)) (by rw[hO,hEz,decide_eq_decide];simp)|exact congrArg (fun b=>V.o (bo1 b)) (by rw[hO,hEz,decide_eq_decide];omega))),trivial⟩) rfl ?_ nobox
           rfl
          ·try simp only[zs]at h60
           refine .skip<|ks_n<|.r<|.c (.fP 1 0 false)<|.c (.l1 1)<|.c (.ln 66 9 152)<|.c .m<|.nn<|.block ?_
           refine .loopK (fun m σ=>(∃(j:Nat) (o3:List Ins),m=q.2.length -j∧(j≤q.2.length)∧(∀t s,t<j→q.2[t]?=some s→stmG g.1 s p=true)∧(o2++rowI k j p=o3)∧(o3.length≤480 *k+4 *i+j)∧σ=[eP 1 (rG g),(.t 4,.v (.o (.c (.own 130 3 (o3.length))))),eN 5 (k:Nat),eP 6 (rP q),eD 10 (dIs p),eD 24 (dPts g.2),eN 25 (g.2.length:Nat),eN 26 (k:Nat),eD 52 (dPs (npR q.1)),eN 53 ((npR q.1).length:Nat),eN 54 (i:Nat),eD 62 (dMs q.2),eN 63 (q.2.length:Nat),eN 64 (j:Nat),(.b 130,.b 56 3 (dR (o3.map rN))),eU 130])) [(130,120)] ⟨0,o2,rfl,by omega,fun t s ht _=>absurd ht (by omega),by simp[rowI_zero],by omega,rfl⟩ ⟨kd,kW,kd,kd,kd,kd,kd,kd,kd,kd,kd,kd,kd,kd,kb 120 rfl (.dt rfl (by first|rfl|(simp[dR,rN,dI];done))),trivial⟩ ?_
           rintro m σ ⟨j,o3,hm0,hj,hH,hEp,ho3,rfl⟩
           refine .r<|.c .ls<|.nn<|.seq ?_
           refine .cD rfl (fun h65=>?_) (fun h65=>?_)
           ·skip
            obtain⟨s,hs1⟩:∃x_,q.2[j]?=some x_:=⟨_,List.getElem?_eq_getElem (by omega)⟩
            have hsm:=List.mem_of_getElem? hs1
            have hsv:=hv3 s hsm
            refine .skip<|ks_n<|.seq<|.block<|.r<|.c .m<|.c (.xL 66 9 152) ?_
            refine .c (.lN 9)<|.c (.al 112 [.string ByteArray.empty,.slice none 0 0,.int .i64 0,.int .i64 0,.slice none 0 0,.int .i64 0,.string ByteArray.empty,.slice none 0 0,.slice none 0 0])<|.c .a<|.c (.sT 9 true)<|.nn<|.seq<|.r<|.c (.lN 2)<|.c (.bN 9)<|.c .m ?_
            refine .c (.cP [.tmp 69,.tmp 70,.tmp 71] rfl rfl rfl rfl (sok_fn hA hsv hpt.1 hpt.2) rfl) ?_
            refine .c .nt<|.nn ?_
            refine ACode.condT rfl (fun h73=>?_) (fun h73=>?_)
            ·try simp only[zs]at h73
             refine .seq ?_
             obtain⟨hO,hN⟩:=prgV_f (g:=g) (prgS_f3 hqm (prtV_f5 hpm hsm (by assumption)))
             refine .region<|.c .a<|.c .a<|.nn<|.ret<|ks_r<|kb_r<|ks_r<|kl_r<|kb_r<|kb_r<|ks_r<|kl_r<|kb_r<|kb_r<|ks_r<|kl_r<|kb_r<|ks_r ?_
             refine kf_wret [eD 2 (dNs (insV g)),eT 3 (prgV g)] (Wk.keep [] rfl rfl ⟨ks rfl (.c (Cto.nilE 3 (by first|(rw[hN];rfl)|(rw[hN,hEz];rfl)))),ks rfl (.dt (by first|exact congrArg (fun b=>V.o (bo1 b)) hO.symm|exact congrArg (fun b=>V.o (bo1 b)) (by rw[hO,hEz,decide_eq_decide];simp)|exact congrArg (fun b=>V.o (bo1 b)) (by rw[hO,hEz,decide_eq_decide];omega))),trivial⟩) rfl ?_ nobox
             rfl
            ·try simp only[zs]at h73
             have hST:stmG g.1 s p=true:=by assumption
             refine .skip<|ks_n<|.region<|.c .m<|.c .m<|.c .m<|.c .m ?_
             refine .c (.cP [.tmp 77] rfl rfl rfl rfl (cloneInts_fn p (by omega)) rfl) ?_
             refine .c (.bu [(0,.tmp 75),(1,.tmp 76),(2,.tmp 78)] [(0,1),(1,1),(2,1)] [.int .i64 0,.int .i64 0,.slice none 0 0])<|.c (.li 56 2 0 [.tmp 79]) ?_
             refine .c (St1.appB (k':=181) (e:=56) (sz:=2) (by':=40) rfl rfl rfl rfl rfl (by kernel_rfl) rfl rfl rfl rfl (by first|(simp[dR];done)|(simp[dR];omega)) (by first|(simp[dR];done)|(simp[dR];omega)) rfl rfl rfl) ?_
             refine .c .a<|.nil<|kb_n<|ks_n<|.region<|.c .pl<|.c .m<|.nil ?_
             refine kl_k [(130,181)] ⟨j+1,o3++[((k:Int),((j:Nat):Int),p)],rfl,by omega,fun t s' ht hs'=>(Nat.lt_succ_iff_lt_or_eq.1 ht).elim (fun h=>hH t s' h hs') (fun h=>by subst h;rw[hs1]at hs';cases hs';exact hST),by rw[rowI_snoc,←List.append_assoc,hEp],by rw[List.length_append,List.length_singleton];omega,rfl⟩ ⟨kd,kW,kd,kd,kd,kd,kd,kd,kd,kd,kd,kd,kd,kd,kb 181 rfl (.dt rfl (by first|rfl|(simp[dR,rN,dI];done))),trivial⟩
           ·skip
            obtain rfl:j=q.2.length:=by omega
            have hPT:ptG' g.1 q.2 p=true:=by rw[ptG',show isPt p=true by assumption,Bool.true_and];exact all_of fun j s h=>hH j s (List.getElem?_eq_some_iff.1 h).1 h
            refine .exit<|ks_e<|kl_e<|kb_hit<|kb_n<|ks_n<|.region<|.c .pl<|.c .m<|.nil ?_
            refine kl_k [(120,130)] (.inr ⟨i+1,o3,rfl,by omega,fun j p' hj hp'=>(Nat.lt_succ_iff_lt_or_eq.1 hj).elim (fun h=>hG j p' h hp') (fun h=>by subst h;rw[hp1]at hp';cases hp';exact hPT),by rw[insT_take hp1,←List.append_assoc,hEo];exact hEp,by omega,rfl⟩) ⟨kd,kW,kd,kd,kd,kd,kd,kd,kd,kd,kb 130 rfl (.dt rfl (by first|rfl|(simp[dR,rN,dI];done))),trivial⟩
         ·skip
          obtain rfl:i=(npR q.1).length:=by omega
          rw[List.take_length]at hEo
          have hPV:prtV g.1 q=true:=by rw[prtV_eq hv1 hv2 (List.all_eq_true.2 hv3)];exact all_of fun j p h=>hG j p (List.getElem?_eq_some_iff.1 h).1 h
          have hnl:=npR_len q.1
          refine .exit<|ks_e<|kl_e<|kb_hit<|kb_n<|ks_n<|.region<|.c .pl<|.c .m<|.nil ?_
          refine kl_k [(110,120)] (.inr ⟨k+1,o2,rfl,by omega,fun j q' hj hq'=>(Nat.lt_succ_iff_lt_or_eq.1 hj).elim (fun h=>hF j q' h hq') (fun h=>by subst h;rw[hq1]at hq';cases hq';exact hPV),by rw[insG_take hq1,hE];exact hEo,by omega,rfl⟩) ⟨kd,kW,kd,kd,kd,kb 120 rfl (.dt rfl (by first|rfl|(simp[dR,rN,dI];done))),trivial⟩
    ·skip
     obtain rfl:k=g.2.length:=by omega
     rw[List.take_length]at hE
     have hEz:=hE
     obtain⟨hO,hN⟩:=prgV_t (prgS_eq hA h4 hF)
     refine .exit<|ks_e<|kl_e<|kb_hit<|ks_n<|.r<|.c .m<|.c .m ?_
     refine .c (St1.lenN (e:=56) (m:=3) (by':=40) rfl rfl rfl rfl rfl (by kernel_rfl) rfl) ?_
     refine .c .le<|.c .a<|.c .a<|.nn<|.ret ?_
     refine kf_wret [eD 2 (dNs (insV g)),eT 3 (prgV g)] (Wk.keep [] rfl rfl ⟨ks rfl (.c (Cto.nilE 3 (by first|(rw[hN];rfl)|(rw[hN,hEz];rfl)))),ks rfl (.dt (by first|exact congrArg (fun b=>V.o (bo1 b)) hO.symm|exact congrArg (fun b=>V.o (bo1 b)) (by rw[hO,hEz,decide_eq_decide];simp)|exact congrArg (fun b=>V.o (bo1 b)) (by rw[hO,hEz,decide_eq_decide];omega))),trivial⟩) rfl ?_ nobox
     rfl
   ·skip
    refine .r<|.c .ls<|.nn<|.seq ?_
    refine .cD rfl (fun h27=>?_) (fun h27=>?_)
    ·skip
     obtain⟨q,hq1⟩:∃x_,g.2[k]?=some x_:=⟨_,List.getElem?_eq_getElem (by omega)⟩
     have hqm:=List.mem_of_getElem? hq1
     have hqs:=szO_mem (f:=szPt) hqm
     have hqe:szPt q=szLs q.1+szO szS q.2:=rfl
     have hbg:=sz_bg (ns:=q.1) (by omega)
     have hql:=szO_len (f:=szS) q.2
     refine .skip<|ks_n<|.seq<|.block<|.r<|.c .m<|.c (.xL 80 2 48) ?_
     refine .c (.lN 2)<|.c (.al 106 [.slice none 0 0,.slice none 0 0])<|.c .a<|.c (.sT 2 true)<|.nn<|.seq ?_
     refine .keep [eP 1 (rG g),(.t 4,.v (.o (.c (.own 770 3 (o.length))))),eN 5 (k:Nat),eP 6 (rP q),eD 24 (dPts g.2),eN 25 (g.2.length:Nat),eN 26 (k:Nat),(.b 770,.b 56 3 (dR (o.map rN))),eU 770] [(770,110)] ⟨kd,kW,kd,ks rfl (.c (.frzP _ _ _ _ _ _ _ _ rfl (show _=dR [rP q]from rfl) rfl rfl rfl)),kd,kd,kd,kb 110 rfl (.dt rfl (by first|rfl|(simp[dR,rN,dI];done))),trivial⟩ ?_
     refine .region<|.c (.fP 0 0 false)<|.c (.l1 1) ?_
     refine .c (.cP [.tmp 33] rfl rfl rfl rfl (implNestPts_B q.1 hbg) rfl) ?_
     refine .c .m<|.c .ex<|.c .ex<|.c .a<|.c .a<|.nn<|.seq<|.r<|.c .m<|.c .nt<|.c .m ?_
     refine AOps.cases 39 _ rfl (fun g39=>?_) (fun g39=>?_)
     ·try simp only[zs]at g39
      refine .c .f<|.c .f<|.c .f<|.c .f<|.c .f<|.c .pT<|.c .m<|.c .f<|.c .f<|.c .f<|.c .f<|.c .pT<|.nn ?_
      refine .k1 ?_
      refine .seq ?_
      have hbad:prtV g.1 q=false:=by first|exact prtV_f1 (by assumption)|exact prtV_f2 (fun h=>by simp_all [inB];omega)|(obtain⟨s,hs,hs2⟩:=List.any_eq_true.1 (by assumption);exact prtV_f3 hs (by simpa using hs2))
      obtain⟨hO,hN⟩:=prgV_f (g:=g) (prgS_f3 hqm hbad)
      refine .region<|.c .a<|.c .a<|.nn<|.ret<|ks_r<|kb_r<|ks_r<|kl_r<|kb_r<|ks_r ?_
      refine kf_wret [eD 2 (dNs (insV g)),eT 3 (prgV g)] (Wk.keep [] rfl rfl ⟨ks rfl (.c (Cto.nilE 3 (by first|(rw[hN];rfl)|(rw[hN,hEz];rfl)))),ks rfl (.dt (by first|exact congrArg (fun b=>V.o (bo1 b)) hO.symm|exact congrArg (fun b=>V.o (bo1 b)) (by rw[hO,hEz,decide_eq_decide];simp)|exact congrArg (fun b=>V.o (bo1 b)) (by rw[hO,hEz,decide_eq_decide];omega))),trivial⟩) rfl ?_ nobox
      rfl
     ·try simp only[zs]at g39
      refine .c (.g (.fP 1 0 false))<|.c (.g (.l1 1))<|.c (.g (.ln 66 9 152)) ?_
      refine .c (.gT rfl rfl rfl (.cP [.tmp 42,.const (.int .i64 (1)),.const (.int .i64 (4))] rfl rfl rfl rfl (within_fn _ 1 4) rfl)) ?_
      refine .c (.g .nt)<|.c .pF<|.c .m ?_
      refine AOps.cases 46 _ rfl (fun g46=>?_) (fun g46=>?_)
      ·try simp only[zs]at g46
       refine .c .f<|.c .f<|.c .f<|.c .f<|.c .pT<|.nn ?_
       refine .k1 ?_
       refine .seq ?_
       have hbad:prtV g.1 q=false:=by first|exact prtV_f1 (by assumption)|exact prtV_f2 (fun h=>by simp_all [inB];omega)|(obtain⟨s,hs,hs2⟩:=List.any_eq_true.1 (by assumption);exact prtV_f3 hs (by simpa using hs2))
       obtain⟨hO,hN⟩:=prgV_f (g:=g) (prgS_f3 hqm hbad)
       refine .region<|.c .a<|.c .a<|.nn<|.ret<|ks_r<|kb_r<|ks_r<|kl_r<|kb_r<|ks_r ?_
       refine kf_wret [eD 2 (dNs (insV g)),eT 3 (prgV g)] (Wk.keep [] rfl rfl ⟨ks rfl (.c (Cto.nilE 3 (by first|(rw[hN];rfl)|(rw[hN,hEz];rfl)))),ks rfl (.dt (by first|exact congrArg (fun b=>V.o (bo1 b)) hO.symm|exact congrArg (fun b=>V.o (bo1 b)) (by rw[hO,hEz,decide_eq_decide];simp)|exact congrArg (fun b=>V.o (bo1 b)) (by rw[hO,hEz,decide_eq_decide];omega))),trivial⟩) rfl ?_ nobox
       rfl
      ·try simp only[zs]at g46
       refine .c (.g (.fP 1 0 false))<|.c (.g (.l1 1)) ?_
       refine .c (.gT rfl rfl rfl (St1.makeFunc (xs:=[.tmp 6]) rfl rfl rfl rfl rfl rfl rfl))<|.c (.gT rfl rfl rfl (.cP [.tmp 48,.tmp 49] rfl rfl rfl rfl (cnt_stm (f:=63) (cap:=[rP q]) (by kernel_rfl) (fun s=> !stmtV (q.1.length:Nat) s) q.2 (by omega) (fun s hs=>ins1_fn (by have:=szO_mem (f:=szS) hs;omega))) rfl)) ?_
       refine .c .pF<|.nn ?_
       refine ACode.condT rfl (fun h51=>?_) (fun h51=>?_)
       ·try simp only[zs]at h51
        refine .seq ?_
        have hbad:prtV g.1 q=false:=by first|exact prtV_f1 (by assumption)|exact prtV_f2 (fun h=>by simp_all [inB];omega)|(obtain⟨s,hs,hs2⟩:=List.any_eq_true.1 (by assumption);exact prtV_f3 hs (by simpa using hs2))
        obtain⟨hO,hN⟩:=prgV_f (g:=g) (prgS_f3 hqm hbad)
        refine .region<|.c .a<|.c .a<|.nn<|.ret<|ks_r<|kb_r<|ks_r<|kl_r<|kb_r<|ks_r ?_
        refine kf_wret [eD 2 (dNs (insV g)),eT 3 (prgV g)] (Wk.keep [] rfl rfl ⟨ks rfl (.c (Cto.nilE 3 (by first|(rw[hN];rfl)|(rw[hN,hEz];rfl)))),ks rfl (.dt (by first|exact congrArg (fun b=>V.o (bo1 b)) hO.symm|exact congrArg (fun b=>V.o (bo1 b)) (by rw[hO,hEz,decide_eq_decide];simp)|exact congrArg (fun b=>V.o (bo1 b)) (by rw[hO,hEz,decide_eq_decide];omega))),trivial⟩) rfl ?_ nobox
        rfl
       ·try simp only[zs]at h51
        have hv1:okP q.1=true:=by first|assumption|simp_all
        have hv2:1≤q.2.length∧q.2.length≤4:=by simp_all [inB];omega
        have hv3:∀s∈q.2,stmtV (q.1.length:Nat) s=true:=by simp_all
        refine .skip<|ks_n<|.r<|.c .m<|.c (.ln 43 1 24)<|.c .m<|.nn<|.block ?_
        refine .loopK (fun m σ=>(∃(i:Nat) (o2:List Ins),m=(npR q.1).length -i∧(i≤(npR q.1).length)∧(∀j p,j<i→(npR q.1)[j]?=some p→ptG' g.1 q.2 p=true)∧(o++insT k q.2.length ((npR q.1).take i)=o2)∧(o2.length≤480 *k+4 *i)∧σ=[eP 1 (rG g),(.t 4,.v (.o (.c (.own 120 3 (o2.length))))),eN 5 (k:Nat),eP 6 (rP q),eD 24 (dPts g.2),eN 25 (g.2.length:Nat),eN 26 (k:Nat),eD 52 (dPs (npR q.1)),eN 53 ((npR q.1).length:Nat),eN 54 (i:Nat),(.b 120,.b 56 3 (dR (o2.map rN))),eU 120])) [(120,770)] ⟨0,o,rfl,by omega,fun j p hj _=>absurd hj (by omega),by simp[insT],by omega,rfl⟩ ⟨kd,kW,kd,kd,kd,kd,kd,kd,kd,kd,kb 770 rfl (.dt rfl (by first|rfl|(simp[dR,rN,dI];done))),trivial⟩ ?_
        rintro m σ ⟨i,o2,hm0,hi,hG,hEo,ho2,rfl⟩
        refine .r<|.c .ls<|.nn<|.seq ?_
        refine .cD rfl (fun h55=>?_) (fun h55=>?_)
        ·skip
         obtain⟨p,hp1⟩:∃x_,(npR q.1)[i]?=some x_:=⟨_,List.getElem?_eq_getElem (by omega)⟩
         have hpm:=List.mem_of_getElem? hp1
         have hpt:=npR_pt hpm
         have hnl:=npR_len q.1
         refine .skip<|ks_n<|.seq<|.block<|.r<|.c (.xL 43 1 24) ?_
         refine .c (.l1 1)<|.c .a<|.nn<|.seq<|.r<|.c .m ?_
         refine .c (.cP [.tmp 58] rfl rfl rfl rfl (isPoint_fn _) rfl) ?_
         refine .c .nt<|.nn ?_
         refine ACode.condT rfl (fun h60=>?_) (fun h60=>?_)
         ·try simp only[zs]at h60
          refine .seq ?_
          obtain⟨hO,hN⟩:=prgV_f (g:=g) (prgS_f3 hqm (prtV_f4 hpm (by assumption)))
          refine .region<|.c .a<|.c .a<|.nn<|.ret<|ks_r<|kb_r<|ks_r<|kl_r<|kb_r<|kb_r<|ks_r<|kl_r<|kb_r<|ks_r ?_
          refine kf_wret [eD 2 (dNs (insV g)),eT 3 (prgV g)] (Wk.keep [] rfl rfl ⟨ks rfl (.c (Cto.nilE 3 (by first|(rw[hN];rfl)|(rw[hN,hEz];rfl)))),ks rfl (.dt (by first|exact congrArg (fun b=>V.o (bo1 b)) hO.symm|exact congrArg (fun b=>V.o (bo1 b)) (by rw[hO,hEz,decide_eq_decide];simp)|exact congrArg (fun b=>V.o (bo1 b)) (by rw[hO,hEz,decide_eq_decide];omega))),trivial⟩) rfl ?_ nobox
          rfl
         ·try simp only[zs]at h60
          refine .skip<|ks_n<|.r<|.c (.fP 1 0 false)<|.c (.l1 1)<|.c (.ln 66 9 152)<|.c .m<|.nn<|.block ?_
          refine .loopK (fun m σ=>(∃(j:Nat) (o3:List Ins),m=q.2.length -j∧(j≤q.2.length)∧(∀t s,t<j→q.2[t]?=some s→stmG g.1 s p=true)∧(o2++rowI k j p=o3)∧(o3.length≤480 *k+4 *i+j)∧σ=[eP 1 (rG g),(.t 4,.v (.o (.c (.own 130 3 (o3.length))))),eN 5 (k:Nat),eP 6 (rP q),eD 10 (dIs p),eD 24 (dPts g.2),eN 25 (g.2.length:Nat),eN 26 (k:Nat),eD 52 (dPs (npR q.1)),eN 53 ((npR q.1).length:Nat),eN 54 (i:Nat),eD 62 (dMs q.2),eN 63 (q.2.length:Nat),eN 64 (j:Nat),(.b 130,.b 56 3 (dR (o3.map rN))),eU 130])) [(130,120)] ⟨0,o2,rfl,by omega,fun t s ht _=>absurd ht (by omega),by simp[rowI_zero],by omega,rfl⟩ ⟨kd,kW,kd,kd,kd,kd,kd,kd,kd,kd,kd,kd,kd,kd,kb 120 rfl (.dt rfl (by first|rfl|(simp[dR,rN,dI];done))),trivial⟩ ?_
          rintro m σ ⟨j,o3,hm0,hj,hH,hEp,ho3,rfl⟩
          refine .r<|.c .ls<|.nn<|.seq ?_
          refine .cD rfl (fun h65=>?_) (fun h65=>?_)
          ·skip
           obtain⟨s,hs1⟩:∃x_,q.2[j]?=some x_:=⟨_,List.getElem?_eq_getElem (by omega)⟩
           have hsm:=List.mem_of_getElem? hs1
           have hsv:=hv3 s hsm
           refine .skip<|ks_n<|.seq<|.block<|.r<|.c .m<|.c (.xL 66 9 152) ?_
           refine .c (.lN 9)<|.c (.al 112 [.string ByteArray.empty,.slice none 0 0,.int .i64 0,.int .i64 0,.slice none 0 0,.int .i64 0,.string ByteArray.empty,.slice none 0 0,.slice none 0 0])<|.c .a<|.c (.sT 9 true)<|.nn<|.seq<|.r<|.c (.lN 2)<|.c (.bN 9)<|.c .m ?_
           refine .c (.cP [.tmp 69,.tmp 70,.tmp 71] rfl rfl rfl rfl (sok_fn hA hsv hpt.1 hpt.2) rfl) ?_
           refine .c .nt<|.nn ?_
           refine ACode.condT rfl (fun h73=>?_) (fun h73=>?_)
           ·try simp only[zs]at h73
            refine .seq ?_
            obtain⟨hO,hN⟩:=prgV_f (g:=g) (prgS_f3 hqm (prtV_f5 hpm hsm (by assumption)))
            refine .region<|.c .a<|.c .a<|.nn<|.ret<|ks_r<|kb_r<|ks_r<|kl_r<|kb_r<|kb_r<|ks_r<|kl_r<|kb_r<|kb_r<|ks_r<|kl_r<|kb_r<|ks_r ?_
            refine kf_wret [eD 2 (dNs (insV g)),eT 3 (prgV g)] (Wk.keep [] rfl rfl ⟨ks rfl (.c (Cto.nilE 3 (by first|(rw[hN];rfl)|(rw[hN,hEz];rfl)))),ks rfl (.dt (by first|exact congrArg (fun b=>V.o (bo1 b)) hO.symm|exact congrArg (fun b=>V.o (bo1 b)) (by rw[hO,hEz,decide_eq_decide];simp)|exact congrArg (fun b=>V.o (bo1 b)) (by rw[hO,hEz,decide_eq_decide];omega))),trivial⟩) rfl ?_ nobox
            rfl
           ·try simp only[zs]at h73
            have hST:stmG g.1 s p=true:=by assumption
            refine .skip<|ks_n<|.region<|.c .m<|.c .m<|.c .m<|.c .m ?_
            refine .c (.cP [.tmp 77] rfl rfl rfl rfl (cloneInts_fn p (by omega)) rfl) ?_
            refine .c (.bu [(0,.tmp 75),(1,.tmp 76),(2,.tmp 78)] [(0,1),(1,1),(2,1)] [.int .i64 0,.int .i64 0,.slice none 0 0])<|.c (.li 56 2 0 [.tmp 79]) ?_
            refine .c (St1.appB (k':=181) (e:=56) (sz:=2) (by':=40) rfl rfl rfl rfl rfl (by kernel_rfl) rfl rfl rfl rfl (by first|(simp[dR];done)|(simp[dR];omega)) (by first|(simp[dR];done)|(simp[dR];omega)) rfl rfl rfl) ?_
            refine .c .a<|.nil<|kb_n<|ks_n<|.region<|.c .pl<|.c .m<|.nil ?_
            refine kl_k [(130,181)] ⟨j+1,o3++[((k:Int),((j:Nat):Int),p)],rfl,by omega,fun t s' ht hs'=>(Nat.lt_succ_iff_lt_or_eq.1 ht).elim (fun h=>hH t s' h hs') (fun h=>by subst h;rw[hs1]at hs';cases hs';exact hST),by rw[rowI_snoc,←List.append_assoc,hEp],by rw[List.length_append,List.length_singleton];omega,rfl⟩ ⟨kd,kW,kd,kd,kd,kd,kd,kd,kd,kd,kd,kd,kd,kd,kb 181 rfl (.dt rfl (by first|rfl|(simp[dR,rN,dI];done))),trivial⟩
          ·skip
           obtain rfl:j=q.2.length:=by omega
           have hPT:ptG' g.1 q.2 p=true:=by rw[ptG',show isPt p=true by assumption,Bool.true_and];exact all_of fun j s h=>hH j s (List.getElem?_eq_some_iff.1 h).1 h
           refine .exit<|ks_e<|kl_e<|kb_hit<|kb_n<|ks_n<|.region<|.c .pl<|.c .m<|.nil ?_
           refine kl_k [(120,130)] ⟨i+1,o3,rfl,by omega,fun j p' hj hp'=>(Nat.lt_succ_iff_lt_or_eq.1 hj).elim (fun h=>hG j p' h hp') (fun h=>by subst h;rw[hp1]at hp';cases hp';exact hPT),by rw[insT_take hp1,←List.append_assoc,hEo];exact hEp,by omega,rfl⟩ ⟨kd,kW,kd,kd,kd,kd,kd,kd,kd,kd,kb 130 rfl (.dt rfl (by first|rfl|(simp[dR,rN,dI];done))),trivial⟩
        ·skip
         obtain rfl:i=(npR q.1).length:=by omega
         rw[List.take_length]at hEo
         have hPV:prtV g.1 q=true:=by rw[prtV_eq hv1 hv2 (List.all_eq_true.2 hv3)];exact all_of fun j p h=>hG j p (List.getElem?_eq_some_iff.1 h).1 h
         have hnl:=npR_len q.1
         refine .exit<|ks_e<|kl_e<|kb_hit<|kb_n<|ks_n<|.region<|.c .pl<|.c .m<|.nil ?_
         refine kl_k [(110,120)] (.inr ⟨k+1,o2,rfl,by omega,fun j q' hj hq'=>(Nat.lt_succ_iff_lt_or_eq.1 hj).elim (fun h=>hF j q' h hq') (fun h=>by subst h;rw[hq1]at hq';cases hq';exact hPV),by rw[insG_take hq1,hE];exact hEo,by omega,rfl⟩) ⟨kd,kW,kd,kd,kd,kb 120 rfl (.dt rfl (by first|rfl|(simp[dR,rN,dI];done))),trivial⟩
    ·skip
     obtain rfl:k=g.2.length:=by omega
     rw[List.take_length]at hE
     have hEz:=hE
     obtain⟨hO,hN⟩:=prgV_t (prgS_eq hA h4 hF)
     refine .exit<|ks_e<|kl_e<|kb_hit<|ks_n<|.r<|.c .m<|.c .m<|.c (.lB 56 3 40)<|.c .le<|.c .a<|.c .a<|.nn<|.ret ?_
     refine kf_wret [eD 2 (dNs (insV g)),eT 3 (prgV g)] (Wk.keep [] rfl rfl ⟨ks rfl (.c (.fz rfl (by first|(rw[hN,hEz];done)|(rw[hN,hEz];rfl)) (by rw[hN,hEz,List.length_map]) (by omega))),ks rfl (.dt (by first|exact congrArg (fun b=>V.o (bo1 b)) hO.symm|exact congrArg (fun b=>V.o (bo1 b)) (by rw[hO,hEz,decide_eq_decide];simp)|exact congrArg (fun b=>V.o (bo1 b)) (by rw[hO,hEz,decide_eq_decide];omega))),trivial⟩) rfl ?_ nobox
     rfl
def clsV (ar:List Arr) (s:Stm) (p:List Int):List Int:=if stmG ar s p=true then(rdE s.2).map fun a=>cellG a p ar 0 else []
def wrV (ar:List Arr) (s:Stm) (p:List Int):Int:=if stmG ar s p=true then cellG s.1 p ar 0 else 0
def cntP (ar:List Arr) (q:Prt):Int:=if prtV ar q=true then(((npR q.1).length *q.2.length:Nat):Int)else 0
theorem cls_no {ar:List Arr} {s:Stm} {p:List Int} (h:stmG ar s p=false):clsV ar s p=[]∧wrV ar s p=0:=⟨if_neg (by rw[h];simp),if_neg (by rw[h];simp)⟩
theorem cls_yes {ar:List Arr} {s:Stm} {p:List Int} (h:stmG ar s p=true):clsV ar s p=(rdE s.2).map (fun a=>cellG a p ar 0)∧wrV ar s p=cellG s.1 p ar 0:=⟨if_pos h,if_pos h⟩
theorem accG_no {ar:List Arr} {p:List Int} {a:Acc} (h:cellG a p ar 0<0):accG ar p a=false:=decide_eq_false (by omega)
theorem accG_yes {ar:List Arr} {p:List Int} {a:Acc} (h:¬cellG a p ar 0<0):accG ar p a=true:=decide_eq_true (by omega)
theorem stmG_r {ar:List Arr} {s:Stm} {p:List Int} {a:Acc} (ha:a∈rdE s.2) (h:cellG a p ar 0<0):stmG ar s p=false:=Bool.eq_false_iff.2 fun h2=>by
  rw[stmG,Bool.and_eq_true]at h2
  have:=List.all_eq_true.1 h2.2 a ha
  rw[accG_no h]at this;cases this
theorem stmG_w {ar:List Arr} {s:Stm} {p:List Int} (h:cellG s.1 p ar 0<0):stmG ar s p=false:=by rw[stmG,accG_no h];rfl
theorem stmG_t {ar:List Arr} {s:Stm} {p:List Int} (h:¬cellG s.1 p ar 0<0) (h2:∀(j:Nat) a,j<(rdE s.2).length→(rdE s.2)[j]?=some a→accG ar p a=true):stmG ar s p=true:=by
  rw[stmG,accG_yes h,Bool.true_and]
  exact all_of fun j a h=>h2 j a (List.getElem?_eq_some_iff.1 h).1 h
theorem cntP_no {ar:List Arr} {q:Prt} (h:prtV ar q=false):cntP ar q=0:=if_neg (by rw[h];simp)
theorem cntP_yes {ar:List Arr} {q:Prt} (h:prtV ar q=true):cntP ar q=(((npR q.1).length *q.2.length:Nat):Int):=if_pos h
theorem cntP_len {ar:List Arr} {q:Prt} (h:prtV ar q=true) (k:Nat):cntP ar q=((insP k q).length:Nat)∧(insP k q).length≤480:=by
  obtain⟨h1,h2⟩:=insP_len (k:=k) (prtV_iff.1 h).2.1.2
  exact⟨by rw[cntP_yes h,h1],h2⟩
theorem np_pts {ns:List Lp} (h:okP ns=true):nsV ns=true∧npR ns=ptsF ns [] []:=by
  have hv:=(okP_iff.1 h).1
  exact⟨hv,(np_yes hv (fun h2=>by rw[np_no1 h2]at h;cases h) (fun h2=>by rw[np_no2 h2]at h;cases h)).2⟩
theorem l4Cells_fn {ar:List Arr} (hv:arrsV ar=true) {D:Int} {s:Stm} {p:List Int} (hs:stmtV D s=true) (hz:szS s≤1073741824) (hS:Small p) (hn:p.length≤4):Fn Tryz.prog 95 [] [vD (dRs ar),ad (rS s),vD (dIs p)] (.tup [vD (dIs (clsV ar s p)),nat1 (wrV ar s p),bo1 (stmG ar s p)]) []:=by
  obtain⟨ha,hr,hrl⟩:=stm_accs hs
  have hz2:szE s.2≤1073741824:=by have:szS s=szC s.1+szE s.2:=rfl;omega
  refine Fn.code0 Tryz.func95 rfl rfl rfl rfl ?_
  refine .r<|.c .bp<|.c .a<|.c .a<|.c .a<|.r ?_
  refine .c (St1.lit0 (k':=114) (e:=3) (sz:=1) (b:=true) rfl rfl rfl rfl (by kernel_rfl) rfl rfl) ?_
  refine .c .a<|.r ?_
  refine .c (St1.lit0 (k':=115) (e:=59) (sz:=2) (b:=true) rfl rfl rfl rfl (by kernel_rfl) rfl rfl) ?_
  refine .c (.fP 2 6 true)<|.c (.lN 7) ?_
  refine .c (.cO [.tmp 15,.tmp 17] [(0,115),(1000,118)] rfl rfl rfl rfl (l3Reads_fn s.2 hz2 [] (by simp;omega)) rfl ⟨rfl,trivial⟩ (hbL_flat _ _) (hbL_flat _ _) (hbL_HB _ _) outS_one) ?_
  refine .c .a<|.nn<|.seq<|.r<|.c .a<|.nn<|.block ?_
  refine .loopK (fun m σ=>(∃i:Nat,m=(rdE s.2).length -i∧(i≤(rdE s.2).length)∧(∀j a,j<i→(rdE s.2)[j]?=some a→accG ar p a=true)∧σ=[eD 0 (dRs ar),eD 2 (dIs p),eP 4 (rS s),(.t 9,.v (.o (.c (.own 110 1 (i))))),eD 10 (dCs (rdE s.2)),eN 11 (i:Nat),(.b 110,.b 3 1 (dR (((rdE s.2).take i).map fun a=>rI (cellG a p ar 0)))),eU 110])) [(110,114)] ⟨0,rfl,by omega,fun j a hj _=>absurd hj (by omega),rfl⟩ ⟨kd,kd,kd,kW,ks rfl (.c (.fz rfl rfl (by simp) (by simp;omega))),kd,kb 114 rfl (.dt rfl (by first|exact dR_take (fun a:Acc=>rI (cellG a p ar 0)) hx1|exact dR_take1 (fun a:Acc=>rI (cellG a p ar 0)) hx1|rfl|(simp[dR];done))),trivial⟩ ?_
  rintro m σ ⟨i,hm0,hi,hF,rfl⟩
  refine .seq<|.r<|.c .m<|.c .m<|.c (.ln 59 2 40)<|.c .ls<|.nn ?_
  refine .cD rfl (fun h22=>?_) (fun h22=>?_)
  · skip
    obtain⟨x,hx1⟩:∃x_,(rdE s.2)[i]?=some x_:=⟨_,List.getElem?_eq_getElem (by omega)⟩
    refine .skip<|ks_n<|.seq<|.block<|.r<|.c .m<|.c .m<|.c .m<|.c (.xL 59 2 40) ?_
    refine .c (.lN 2)<|.c .m ?_
    refine .c (.cP [.tmp 25,.tmp 29,.tmp 30] rfl rfl rfl rfl (l4Cell_fn hv (hr x (List.mem_of_getElem? hx1)) hS hn) rfl) ?_
    refine .c .a<|.nn<|.seq<|.r<|.c .m<|.c .ls<|.nn ?_
    refine .cD rfl (fun h33=>?_) (fun h33=>?_)
    · skip
      refine .seq ?_
      have hG:=stmG_r (List.mem_of_getElem? hx1) h33
      obtain⟨hC,hW⟩:=cls_no hG
      refine .region<|.c (St1.lit0D (e:=3) (sz:=1) (b:=true) rfl rfl rfl rfl (by kernel_rfl)) ?_
      refine .c .a<|.c .a<|.c .a<|.nn<|.ret<|ks_r<|kb_r<|ks_r<|kl_r<|kb_r<|ks_r ?_
      refine kf_wret [eD 6 (dIs (clsV ar s p)),eN 7 (wrV ar s p),eT 8 (stmG ar s p)] (Wk.keep [] rfl rfl ⟨ks rfl (.dt (by rw[hC];rfl)),ks rfl (.dt (by rw[hW])),ks rfl (.dt (by rw[hG])),trivial⟩) rfl ?_ nobox
      rfl
    · skip
      refine .skip<|ks_n<|.region<|.c .m<|.c .m<|.c (.li 3 0 0 [.tmp 36]) ?_
      refine .c (St1.appB (k':=138) (e:=3) (sz:=0) (by':=8) rfl rfl rfl rfl rfl (by kernel_rfl) rfl rfl rfl rfl (by first|(simp[dR];done)|(simp[dR];omega)) (by first|(simp[dR];done)|(simp[dR];omega)) rfl rfl rfl) ?_
      refine .c .a<|.nil<|kb_n<|ks_n<|.region<|.c .m<|.c .pl<|.c .a<|.nil ?_
      refine kl_k [(110,138)] ⟨i+1,rfl,by omega,fun j a' hj h'=>(Nat.lt_succ_iff_lt_or_eq.1 hj).elim (fun h=>hF j a' h h') (fun h=>by subst h;rw[hx1]at h';cases h';exact accG_yes h33),rfl⟩ ⟨kd,kd,kd,kW,kd,kd,kb 138 rfl (.dt rfl (by first|exact dR_take (fun a:Acc=>rI (cellG a p ar 0)) hx1|exact dR_take1 (fun a:Acc=>rI (cellG a p ar 0)) hx1|rfl|(simp[dR];done))),trivial⟩
  · skip
    obtain rfl:i=(rdE s.2).length:=by omega
    refine .exit<|ks_e<|kl_e<|kb_hit<|ks_n<|.r<|.c .m<|.c (.fP 0 1 true)<|.c (.lN 2)<|.c .m ?_
    refine .c (.cP [.tmp 39,.tmp 41,.tmp 42] rfl rfl rfl rfl (l4Cell_fn hv ha hS hn) rfl) ?_
    refine .c .a<|.nn<|.seq<|.r<|.c .m<|.c .ls<|.nn ?_
    refine .cD rfl (fun h45=>?_) (fun h45=>?_)
    · skip
      refine .seq ?_
      have hG:stmG ar s p=false:=stmG_w h45
      obtain⟨hC,hW⟩:=cls_no hG
      refine .region<|.c (St1.lit0D (e:=3) (sz:=1) (b:=true) rfl rfl rfl rfl (by kernel_rfl)) ?_
      refine .c .a<|.c .a<|.c .a<|.nn<|.ret<|ks_r ?_
      refine kf_wret [eD 6 (dIs (clsV ar s p)),eN 7 (wrV ar s p),eT 8 (stmG ar s p)] (Wk.keep [] rfl rfl ⟨ks rfl (.dt (by rw[hC];rfl)),ks rfl (.dt (by rw[hW])),ks rfl (.dt (by rw[hG])),trivial⟩) rfl ?_ nobox
      rfl
    · skip
      refine .skip<|ks_n<|.seq ?_
      have hG:=stmG_t h45 hF
      obtain⟨hC,hW⟩:=cls_yes hG
      refine .region<|.c .m<|.c .m<|.c .a<|.c .a<|.c .a<|.nn<|.ret ?_
      refine kf_wret [eD 6 (dIs (clsV ar s p)),eN 7 (wrV ar s p),eT 8 (stmG ar s p)] (Wk.keep [] rfl rfl ⟨ks rfl (.c (.fz rfl (by rw[hC];first|rfl|(rw[List.take_length,List.map_map];rfl)) (by rw[hC];simp) (by omega))),ks rfl (.dt (by rw[hW])),ks rfl (.dt (by rw[hG])),trivial⟩) rfl ?_ nobox
      rfl
theorem l4Part_fn {ar:List Arr} (hv:arrsV ar=true) {q:Prt} (hs:szPt q≤1073741824):Fn Tryz.prog 52 [] [vD (dRs ar),ad (rP q)] (.tup [nat1 (cntP ar q),bo1 (prtV ar q)]) []:=by
 have hqe:szPt q=szLs q.1+szO szS q.2:=rfl
 have hbg:=sz_bg (ns:=q.1) (by omega)
 have hql:=szO_len (f:=szS) q.2
 have hnl:=npR_len q.1
 refine Fn.code0 Tryz.func52 rfl rfl rfl rfl ?_
 refine .r<|.c .bp<|.c .a<|.c .a<|.r<|.c (.fP 0 0 false)<|.c (.l1 1) ?_
 refine .c (.cP [.tmp 15] rfl rfl rfl rfl (specNestPts_B q.1 hbg) rfl) ?_
 refine .c .m<|.c .ex<|.c .ex<|.c .a<|.c .a<|.nn<|.seq<|.r<|.c .m<|.c .nt<|.c .m ?_
 refine AOps.cases 21 _ rfl (fun g21=>?_) (fun g21=>?_)
 ·try simp only[zs]at g21
  refine .c .f<|.c .f<|.c .f<|.c .f<|.c .pT<|.c .m<|.c .f<|.c .f<|.c .f<|.c .f<|.c .pT<|.nn ?_
  refine .k1 ?_
  refine .seq ?_
  have hP:prtV ar q=false:=by first|exact prtV_f1 (by assumption)|exact prtV_f2 (by omega)
  have hC:=cntP_no hP
  refine .region<|.c .a<|.c .a<|.nn<|.ret<|ks_r ?_
  refine kf_wret [eN 4 (cntP ar q),eT 5 (prtV ar q)] (Wk.keep [] rfl rfl ⟨ks rfl (.dt (by first|(rw[hC];done)|(rw[hC];rfl)|(rw[hC];exact congrArg (fun z=>V.o (nat1 z)) (by rw[Int.natCast_mul])))),ks rfl (.dt (by rw[hP])),trivial⟩) rfl ?_ nobox
  rfl
 ·try simp only[zs]at g21
  refine .c (.g (.fP 1 0 false))<|.c (.g (.l1 1))<|.c (.g (.ln 66 9 152))<|.c (.g .ls)<|.c .pF<|.c .m ?_
  refine AOps.cases 27 _ rfl (fun g27=>?_) (fun g27=>?_)
  ·try simp only[zs]at g27
   refine .c .f<|.c .f<|.c .f<|.c .f<|.c .pT<|.nn ?_
   refine .k1 ?_
   refine .seq ?_
   have hP:prtV ar q=false:=by first|exact prtV_f1 (by assumption)|exact prtV_f2 (by omega)
   have hC:=cntP_no hP
   refine .region<|.c .a<|.c .a<|.nn<|.ret<|ks_r ?_
   refine kf_wret [eN 4 (cntP ar q),eT 5 (prtV ar q)] (Wk.keep [] rfl rfl ⟨ks rfl (.dt (by first|(rw[hC];done)|(rw[hC];rfl)|(rw[hC];exact congrArg (fun z=>V.o (nat1 z)) (by rw[Int.natCast_mul])))),ks rfl (.dt (by rw[hP])),trivial⟩) rfl ?_ nobox
   rfl
  ·try simp only[zs]at g27
   refine .c (.g (.fP 1 0 false))<|.c (.g (.l1 1))<|.c (.g (.ln 66 9 152))<|.c (.g .gt)<|.c .pF<|.nn ?_
   refine ACode.condT rfl (fun h32=>?_) (fun h32=>?_)
   ·try simp only[zs]at h32
    refine .seq ?_
    have hP:prtV ar q=false:=by first|exact prtV_f1 (by assumption)|exact prtV_f2 (by omega)
    have hC:=cntP_no hP
    refine .region<|.c .a<|.c .a<|.nn<|.ret<|ks_r ?_
    refine kf_wret [eN 4 (cntP ar q),eT 5 (prtV ar q)] (Wk.keep [] rfl rfl ⟨ks rfl (.dt (by first|(rw[hC];done)|(rw[hC];rfl)|(rw[hC];exact congrArg (fun z=>V.o (nat1 z)) (by rw[Int.natCast_mul])))),ks rfl (.dt (by rw[hP])),trivial⟩) rfl ?_ nobox
    rfl
   ·try simp only[zs]at h32
    have hv1:okP q.1=true:=by first|assumption|simp_all
    have hv2:1≤q.2.length∧q.2.length≤4:=by omega
    have hmb:=Nat.mul_le_mul hnl hv2.2
    refine .skip<|ks_n<|.seq<|.r<|.c .a<|.nn<|.block ?_
    refine .loopK (fun m σ=>(∃i:Nat,m=q.2.length -i∧(i≤q.2.length)∧(∀j s,j<i→q.2[j]?=some s→stmtV (q.1.length:Nat) s=true∧∀p∈npR q.1,stmG ar s p=true∧isPt p=true)∧σ=[eD 0 (dRs ar),eP 3 (rP q),eD 6 (dPs (npR q.1)),eN 8 (i:Nat)])) [] ⟨0,rfl,by omega,fun j s hj _=>absurd hj (by omega),rfl⟩ ⟨kd,kd,kd,kd,trivial⟩ ?_
    rintro m σ ⟨i,hm0,hi,hF,rfl⟩
    refine .seq<|.r<|.c .m<|.c (.fP 1 0 false)<|.c (.l1 1)<|.c (.ln 66 9 152)<|.c .ls<|.nn ?_
    refine .cD rfl (fun h37=>?_) (fun h37=>?_)
    ·skip
     obtain⟨s,hs1⟩:∃x_,q.2[i]?=some x_:=⟨_,List.getElem?_eq_getElem (by omega)⟩
     have hsm:=List.mem_of_getElem? hs1
     have hss:=szO_mem (f:=szS) hsm
     refine .skip<|ks_n<|.seq<|.block<|.seq<|.seq ?_
     refine ACode.drawK (by kernel_rfl) (by kernel_rfl) ?_
     refine .c (.fP 1 0 false)<|.c (.l1 1)<|.c .m<|.c (.xL 66 9 152) ?_
     refine .c (.lN 9)<|.c (.fP 0 0 false)<|.c (.l1 1)<|.c (.ln 148 2 48) ?_
     refine .c (.cP [.tmp 44,.tmp 47] rfl rfl rfl rfl (specStmtV_fn (q.1.length:Nat) s (by omega)) rfl) ?_
     refine .c .nt ?_
     refine .nil ⟨by kernel_rfl,?_⟩
     refine ks_n ?_
     refine ACode.condT rfl (fun h49=>?_) (fun h49=>?_)
     ·try simp only[zs]at h49
      refine .seq ?_
      have hP:=prtV_f3 (ar:=ar) hsm (by assumption)
      have hC:=cntP_no hP
      refine .region<|.c .a<|.c .a<|.nn<|.ret<|ks_r<|kb_r<|ks_r<|kl_r<|kb_r<|ks_r ?_
      refine kf_wret [eN 4 (cntP ar q),eT 5 (prtV ar q)] (Wk.keep [] rfl rfl ⟨ks rfl (.dt (by first|(rw[hC];done)|(rw[hC];rfl)|(rw[hC];exact congrArg (fun z=>V.o (nat1 z)) (by rw[Int.natCast_mul])))),ks rfl (.dt (by rw[hP])),trivial⟩) rfl ?_ nobox
      rfl
     ·try simp only[zs]at h49
      have hsv:stmtV (q.1.length:Nat) s=true:=by assumption
      refine .skip<|ks_n<|.r<|.c .a<|.nn<|.block ?_
      refine .loopK (fun m σ=>(∃k:Nat,m=(npR q.1).length -k∧(k≤(npR q.1).length)∧(∀j p,j<k→(npR q.1)[j]?=some p→stmG ar s p=true∧isPt p=true)∧σ=[eD 0 (dRs ar),eP 3 (rP q),eD 6 (dPs (npR q.1)),eN 8 (i:Nat),eN 9 (k:Nat)])) [] ⟨0,rfl,by omega,fun j p hj _=>absurd hj (by omega),rfl⟩ ⟨kd,kd,kd,kd,kd,trivial⟩ ?_
      rintro m σ ⟨k,hm0,hk,hG,rfl⟩
      refine .seq<|.r<|.c .m<|.c .m<|.c (.ln 43 1 24)<|.c .ls<|.nn ?_
      refine .cD rfl (fun h53=>?_) (fun h53=>?_)
      ·skip
       obtain⟨p,hp1⟩:∃x_,(npR q.1)[k]?=some x_:=⟨_,List.getElem?_eq_getElem (by omega)⟩
       have hpm:=List.mem_of_getElem? hp1
       have hpt:=npR_pt hpm
       refine .skip<|ks_n<|.seq<|.block<|.seq ?_
       refine ACode.drawK (by kernel_rfl) (by kernel_rfl) ?_
       refine .c .m<|.c (.fP 1 0 false)<|.c (.l1 1)<|.c .m<|.c (.xL 66 9 152) ?_
       refine .c (.lN 9)<|.c .m<|.c .m<|.c (.xL 43 1 24) ?_
       refine .c (.l1 1) ?_
       refine .c (.cP [.tmp 57,.tmp 62,.tmp 66] rfl rfl rfl rfl (l4Cells_fn hv hsv (by omega) hpt.1 hpt.2) rfl) ?_
       refine .c .m<|.c .ex<|.c .ex<|.c .ex<|.c .a<|.c .a<|.c .a ?_
       refine .nil ⟨by kernel_rfl,?_⟩
       refine ks_n<|.r<|.c .m<|.c .nt<|.c .m ?_
       refine AOps.cases 73 _ rfl (fun g73=>?_) (fun g73=>?_)
       ·try simp only[zs]at g73
        refine .c .f<|.c .f<|.c .f<|.c .f<|.c .f<|.c .f<|.c .pT<|.nn ?_
        refine .k1 ?_
        refine .seq ?_
        have hP:prtV ar q=false:=by first|exact prtV_f5 hpm hsm (by assumption)|exact prtV_f4 hpm (by assumption)
        have hC:=cntP_no hP
        refine .region<|.c .a<|.c .a<|.nn<|.ret<|kb_r<|ks_r<|kl_r<|kb_r<|kb_r<|ks_r<|kl_r<|kb_r<|ks_r ?_
        refine kf_wret [eN 4 (cntP ar q),eT 5 (prtV ar q)] (Wk.keep [] rfl rfl ⟨ks rfl (.dt (by first|(rw[hC];done)|(rw[hC];rfl)|(rw[hC];exact congrArg (fun z=>V.o (nat1 z)) (by rw[Int.natCast_mul])))),ks rfl (.dt (by rw[hP])),trivial⟩) rfl ?_ nobox
        rfl
       ·try simp only[zs]at g73
        refine .c (.g .m)<|.c (.g .m)<|.c (.g (.xL 43 1 24)) ?_
        refine .c (.g (.l1 1)) ?_
        refine .c (.gT rfl rfl rfl (.cP [.tmp 77] rfl rfl rfl rfl (l1Point_fn _) rfl)) ?_
        refine .c (.g .nt)<|.c .pF<|.nn ?_
        refine ACode.condT rfl (fun h80=>?_) (fun h80=>?_)
        ·try simp only[zs]at h80
         refine .seq ?_
         have hP:prtV ar q=false:=by first|exact prtV_f5 hpm hsm (by assumption)|exact prtV_f4 hpm (by assumption)
         have hC:=cntP_no hP
         refine .region<|.c .a<|.c .a<|.nn<|.ret<|kb_r<|ks_r<|kl_r<|kb_r<|kb_r<|ks_r<|kl_r<|kb_r<|ks_r ?_
         refine kf_wret [eN 4 (cntP ar q),eT 5 (prtV ar q)] (Wk.keep [] rfl rfl ⟨ks rfl (.dt (by first|(rw[hC];done)|(rw[hC];rfl)|(rw[hC];exact congrArg (fun z=>V.o (nat1 z)) (by rw[Int.natCast_mul])))),ks rfl (.dt (by rw[hP])),trivial⟩) rfl ?_ nobox
         rfl
        ·try simp only[zs]at h80
         have hSG:stmG ar s p=true:=by first|assumption|simp_all
         have hPT:isPt p=true:=by first|assumption|simp_all
         refine .skip<|kb_n<|ks_n<|.region<|.c .m<|.c .pl<|.c .a<|.nil ?_
         refine kl_k [] ⟨k+1,rfl,by omega,fun j p' hj h'=>(Nat.lt_succ_iff_lt_or_eq.1 hj).elim (fun h=>hG j p' h h') (fun h=>by subst h;rw[hp1]at h';cases h';exact⟨hSG,hPT⟩),rfl⟩ ⟨kd,kd,kd,kd,kd,trivial⟩
      ·skip
       have hAll:∀p∈npR q.1,stmG ar s p=true∧isPt p=true:=fun p hp=>by obtain⟨j,hj⟩:=List.mem_iff_getElem?.1 hp;exact hG j p (by have:=(List.getElem?_eq_some_iff.1 hj).1;omega) hj
       refine .exit<|ks_e<|kl_e<|kb_hit<|kb_n<|ks_n<|.region<|.c .m<|.c .pl<|.c .a<|.nil ?_
       refine kl_k [] ⟨i+1,rfl,by omega,fun j s' hj h'=>(Nat.lt_succ_iff_lt_or_eq.1 hj).elim (fun h=>hF j s' h h') (fun h=>by subst h;rw[hs1]at h';cases h';exact⟨hsv,hAll⟩),rfl⟩ ⟨kd,kd,kd,kd,trivial⟩
    ·skip
     have hP:prtV ar q=true:=prtV_iff.2 ⟨hv1,hv2,fun s hs=>by obtain⟨j,hj⟩:=List.mem_iff_getElem?.1 hs;exact(hF j s (by have:=(List.getElem?_eq_some_iff.1 hj).1;omega) hj).1,fun p hp=>⟨by obtain⟨s,hs⟩:∃s,q.2[0]?=some s:=⟨_,List.getElem?_eq_getElem (by omega)⟩;exact((hF 0 s (by omega) hs).2 p hp).2,fun s hs=>by obtain⟨j,hj⟩:=List.mem_iff_getElem?.1 hs;exact((hF j s (by have:=(List.getElem?_eq_some_iff.1 hj).1;omega) hj).2 p hp).1⟩⟩
     have hC:=cntP_yes hP
     refine .exit<|ks_e<|kl_e<|kb_hit<|ks_n<|.r<|.c .m<|.c (.ln 43 1 24)<|.c (.fP 1 0 false)<|.c (.l1 1)<|.c (.ln 66 9 152) ?_
     refine .c (.ml rfl rfl rfl (by omega)) ?_
     refine .c .a<|.c .a<|.nn<|.ret ?_
     refine kf_wret [eN 4 (cntP ar q),eT 5 (prtV ar q)] (Wk.keep [] rfl rfl ⟨ks rfl (.dt (by first|(rw[hC];done)|(rw[hC];rfl)|(rw[hC];exact congrArg (fun z=>V.o (nat1 z)) (by rw[Int.natCast_mul])))),ks rfl (.dt (by rw[hP])),trivial⟩) rfl ?_ nobox
     rfl
theorem specPV_fn {g:Prg} (hs:szG g≤1073741824):Fn Tryz.prog 20 [] [ad (rG g)] (.o (bo1 (prgV g))) []:=by
 have h1:=szO_len (f:=szR) g.1
 have h2:=szO_len (f:=szPt) g.2
 have hsz:szG g=szO szR g.1+szO szPt g.2:=rfl
 refine Fn.code0 Tryz.func20 rfl rfl rfl rfl ?_
 refine .r<|.c .bp<|.c .a<|.nn<|.seq<|.r<|.c (.fP 0 0 false)<|.c (.l1 1) ?_
 refine .c (.cP [.tmp 8] rfl rfl rfl rfl (l4Arrays_fn g.1 (by omega) (fun x hx=>by have:=szO_mem (f:=szR) hx;have e:szR x=x.1.size+x.2.length:=rfl;omega)) rfl) ?_
 refine .c .nt<|.c .m ?_
 refine AOps.cases 11 _ rfl (fun g11=>?_) (fun g11=>?_)
 ·try simp only[zs]at g11
  refine .c .f<|.c .f<|.c .f<|.c .f<|.c .pT<|.nn ?_
  refine .k1 ?_
  refine .seq ?_
  obtain⟨hO,hN⟩:=prgV_f (g:=g) (by first|exact prgS_f2 (show ¬g.2.length≤4 by omega)|exact prgS_f1 (by assumption))
  refine .region<|.c .a<|.nn<|.ret<|ks_r ?_
  refine kf_ret rfl ?_ nobox
  exact leafB (by rw[hO];try (rw[decide_eq_decide];omega))
 ·try simp only[zs]at g11
  refine .c (.g (.fP 1 0 false))<|.c (.g (.l1 1))<|.c (.g (.ln 80 2 48))<|.c (.g .gt)<|.c .pF<|.nn ?_
  refine ACode.condT rfl (fun h16=>?_) (fun h16=>?_)
  ·try simp only[zs]at h16
   refine .seq ?_
   obtain⟨hO,hN⟩:=prgV_f (g:=g) (by first|exact prgS_f2 (show ¬g.2.length≤4 by omega)|exact prgS_f1 (by assumption))
   refine .region<|.c .a<|.nn<|.ret<|ks_r ?_
   refine kf_ret rfl ?_ nobox
   exact leafB (by rw[hO];try (rw[decide_eq_decide];omega))
  ·try simp only[zs]at h16
   have hA:arrsV g.1=true:=by first|assumption|simp_all
   have h4:g.2.length≤4:=by omega
   refine .skip<|ks_n<|.r<|.c .a<|.nn<|.seq<|.r<|.c .a<|.nn<|.block ?_
   refine .loopK (fun m σ=>(∃(k:Nat) (t:Int),m=g.2.length -k∧(k≤g.2.length)∧(∀j q,j<k→g.2[j]?=some q→prtV g.1 q=true)∧(t=((insG 0 (g.2.take k)).length:Nat))∧(0≤t∧t≤480 *k)∧σ=[eP 1 (rG g),eT 2 false,eN 3 t,eN 4 (k:Nat)])) [] ⟨0,0,rfl,by omega,fun j q hj _=>absurd hj (by omega),rfl,by omega,rfl⟩ ⟨kd,kd,kd,kd,trivial⟩ ?_
   rintro m σ ⟨k,t,hm0,hk,hF,hT,hb,rfl⟩
   refine .seq<|.r<|.c .m<|.c (.fP 1 0 false)<|.c (.l1 1)<|.c (.ln 80 2 48)<|.c .ls<|.nn ?_
   refine .cD rfl (fun h21=>?_) (fun h21=>?_)
   ·skip
    obtain⟨q,hq1⟩:∃x_,g.2[k]?=some x_:=⟨_,List.getElem?_eq_getElem (by omega)⟩
    have hqm:=List.mem_of_getElem? hq1
    have hqs:=szO_mem (f:=szPt) hqm
    refine .skip<|ks_n<|.seq<|.block<|.seq ?_
    refine ACode.drawK (by kernel_rfl) (by kernel_rfl) ?_
    refine .c (.fP 0 0 false)<|.c (.l1 1)<|.c (.fP 1 0 false)<|.c (.l1 1)<|.c .m<|.c (.xL 80 2 48) ?_
    refine .c (.lN 2) ?_
    refine .c (.cP [.tmp 26,.tmp 31] rfl rfl rfl rfl (l4Part_fn hA (by omega)) rfl) ?_
    refine .c .m<|.c .ex<|.c .ex<|.c .a<|.c .a ?_
    refine .nil ⟨by kernel_rfl,?_⟩
    refine ks_n<|.seq<|.r<|.c .m<|.c .nt<|.nn ?_
    refine ACode.condT rfl (fun h36=>?_) (fun h36=>?_)
    ·try simp only[zs]at h36
     refine .seq ?_
     obtain⟨hO,hN⟩:=prgV_f (prgS_f3 hqm (by assumption))
     refine .region<|.c .a<|.nn<|.ret<|ks_r<|kb_r<|ks_r<|kl_r<|kb_r<|ks_r ?_
     refine kf_ret rfl ?_ nobox
     exact leafB (by rw[hO];try (rw[decide_eq_decide];omega))
    ·try simp only[zs]at h36
     have hPV:prtV g.1 q=true:=by assumption
     have hcl:=cntP_len hPV k
     refine .skip<|ks_n<|.region<|.c .m<|.c .m<|.c .pl<|.c .a<|.nil<|kb_n<|ks_n<|.region<|.c .m<|.c .pl<|.c .a<|.nil ?_
     refine kl_k [] ⟨k+1,t+cntP g.1 q,rfl,by omega,fun j q' hj h'=>(Nat.lt_succ_iff_lt_or_eq.1 hj).elim (fun h=>hF j q' h h') (fun h=>by subst h;rw[hq1]at h';cases h';exact hPV),by rw[insG_take hq1,List.length_append,hT,hcl.1];omega,by omega,rfl⟩ ⟨kd,kd,kd,kd,trivial⟩
   ·skip
    obtain rfl:k=g.2.length:=by omega
    rw[List.take_length]at hT
    obtain⟨hO,hN⟩:=prgV_t (prgS_eq hA h4 hF)
    refine .exit<|ks_e<|kl_e<|kb_hit<|ks_n<|.r<|.c .m<|.c .le<|.c .a<|.nn<|.ret ?_
    refine kf_ret rfl ?_ nobox
    exact leafB (by rw[hO];try (rw[decide_eq_decide];omega))
theorem l4Instances_fn {g:Prg} (hg:prgS g=true):Fn Tryz.prog 42 [] [ad (rG g)] (.o (vD (dNs (insG 0 g.2)))) []:=by
  obtain⟨hA,h4,hP⟩:=prgS_iff.1 hg
  refine Fn.code0 Tryz.func42 rfl rfl rfl rfl ?_
  refine .r<|.c .bp<|.c .a<|.r ?_
  refine .c (St1.lit0 (k':=108) (e:=56) (sz:=3) (b:=true) rfl rfl rfl rfl (by kernel_rfl) rfl rfl) ?_
  refine .c .a<|.nn<|.seq<|.r<|.c .a<|.nn<|.block ?_
  refine .loopK (fun m σ=>(∃(k:Nat) (o:List Ins),m=g.2.length -k∧(k≤g.2.length)∧(insG 0 (g.2.take k)=o)∧(o.length≤480 *k)∧σ=[eP 1 (rG g),(.t 3,.v (.o (.c (.own 110 3 (o.length))))),eN 4 (k:Nat),(.b 110,.b 56 3 (dR (o.map rN))),eU 110])) [(110,108)] ⟨0,[],rfl,by omega,rfl,by simp,rfl⟩ ⟨kd,kW,kd,kb 108 rfl (.dt rfl (by first|rfl|(simp[dR,rN,dI];done)|(simp[dR,rN,dI];rfl))),trivial⟩ ?_
  rintro m σ ⟨k,o,hm0,hk,hE,ho,rfl⟩
  refine .seq<|.r<|.c .m<|.c (.fP 1 0 false)<|.c (.l1 1)<|.c (.ln 80 2 48)<|.c .ls<|.nn ?_
  refine .cD rfl (fun h13=>?_) (fun h13=>?_)
  · skip
    obtain⟨q,hq1⟩:∃x_,g.2[k]?=some x_:=⟨_,List.getElem?_eq_getElem (by omega)⟩
    have hqm:=List.mem_of_getElem? hq1
    have hqv:=prtV_iff.1 (hP q hqm)
    have hnp:=np_pts hqv.1
    have hnl:=npR_len q.1
    have hq4:=hqv.2.1
    refine .skip<|ks_n<|.seq<|.block<|.r<|.c (St1.lit0 (k':=116) (e:=43) (sz:=1) (b:=true) rfl rfl rfl rfl (by kernel_rfl) rfl rfl) ?_
    refine .c (.fP 1 0 false)<|.c (.l1 1)<|.c .m<|.c (.xL 80 2 48) ?_
    refine .c (.fP 0 0 false)<|.c (.l1 1) ?_
    refine .c (.cO [.tmp 16,.tmp 22,.const (.slice none 0 0)] [(0,116),(1000,123)] rfl rfl rfl rfl (Fn.nilArg (pre:=[.c (.own 0 1 0),vD (dLs q.1)]) (post:=[]) (sz:=1) (l2Points_fn hnp.1 q.1 [] [] rfl (by simp) PB.nil (by simp))) rfl (hbIn_one rfl) (hbPt_flat _ _) (hbPt_flat _ _) (hbPt_HB _ _) outS_one) ?_
    refine .c .a<|.r<|.c .a<|.nn<|.block ?_
    refine .loopK (fun m σ=>(∃(i:Nat) (o2:List Ins),m=(npR q.1).length -i∧(i≤(npR q.1).length)∧(o++insT k q.2.length ((npR q.1).take i)=o2)∧(o2.length≤480 *k+4 *i)∧σ=[eP 1 (rG g),(.t 3,.v (.o (.c (.own 120 3 (o2.length))))),eN 4 (k:Nat),eD 5 (dPs (npR q.1)),eN 6 (i:Nat),(.b 120,.b 56 3 (dR (o2.map rN))),eU 120])) [(120,110)] ⟨0,o,rfl,by omega,by simp[insT],by omega,rfl⟩ ⟨kd,kW,kd,ks rfl (.c (.fz rfl (by first|(rw[hnp.2];done)|(rw[hnp.2];rfl)) (by rw[hnp.2,List.length_map]) (by rw[←hnp.2];omega))),kd,kb 110 rfl (.dt rfl (by first|rfl|(simp[dR,rN,dI];done)|(simp[dR,rN,dI];rfl))),trivial⟩ ?_
    rintro m σ ⟨i,o2,hm0,hi,hEo,ho2,rfl⟩
    refine .seq<|.r<|.c .m<|.c .m<|.c (.ln 43 1 24)<|.c .ls<|.nn ?_
    refine .cD rfl (fun h27=>?_) (fun h27=>?_)
    · skip
      obtain⟨p,hp1⟩:∃x_,(npR q.1)[i]?=some x_:=⟨_,List.getElem?_eq_getElem (by omega)⟩
      have hpt:=npR_pt (List.mem_of_getElem? hp1)
      refine .skip<|ks_n<|.seq<|.block<|.r<|.c .a<|.nn<|.block ?_
      refine .loopK (fun m σ=>(∃(j:Nat) (o3:List Ins),m=q.2.length -j∧(j≤q.2.length)∧(o2++rowI k j p=o3)∧(o3.length≤480 *k+4 *i+j)∧σ=[eP 1 (rG g),(.t 3,.v (.o (.c (.own 130 3 (o3.length))))),eN 4 (k:Nat),eD 5 (dPs (npR q.1)),eN 6 (i:Nat),eN 7 (j:Nat),(.b 130,.b 56 3 (dR (o3.map rN))),eU 130])) [(130,120)] ⟨0,o2,rfl,by omega,by simp[rowI_zero],by omega,rfl⟩ ⟨kd,kW,kd,kd,kd,kd,kb 120 rfl (.dt rfl (by first|rfl|(simp[dR,rN,dI];done)|(simp[dR,rN,dI];rfl))),trivial⟩ ?_
      rintro m σ ⟨j,o3,hm0,hj,hEp,ho3,rfl⟩
      refine .seq<|.r<|.c .m<|.c (.fP 1 0 false)<|.c (.l1 1)<|.c .m<|.c (.xL 80 2 48) ?_
      refine .c (.fP 1 0 false)<|.c (.l1 1)<|.c (.ln 66 9 152)<|.c .ls<|.nn ?_
      refine .cD rfl (fun h38=>?_) (fun h38=>?_)
      · skip
        refine .skip<|ks_n<|.seq<|.block<|.region<|.c .m<|.c .m<|.c .m ?_
        refine .c (St1.lit0 (k':=144) (e:=3) (sz:=1) (b:=true) rfl rfl rfl rfl (by kernel_rfl) rfl rfl) ?_
        refine .c .m<|.c .m<|.c (.xL 43 1 24) ?_
        refine .c (.l1 1) ?_
        refine .c (St1.appD (rows:=[]) (e:=3) (sz:=0) (by':=8) rfl rfl rfl rfl rfl (by kernel_rfl) rfl rfl rfl rfl (by simp) (by simp;omega) rfl) ?_
        refine .c (.bu [(0,.tmp 42),(1,.tmp 43),(2,.tmp 49)] [(0,1),(1,1),(2,1)] [.int .i64 0,.int .i64 0,.slice none 0 0])<|.c (.li 56 2 0 [.tmp 50]) ?_
        refine .c (St1.appB (k':=152) (e:=56) (sz:=2) (by':=40) rfl rfl rfl rfl rfl (by kernel_rfl) rfl rfl rfl rfl (by first|(simp[dR];done)|(simp[dR];omega)) (by first|(simp[dR];done)|(simp[dR];omega)) rfl rfl rfl) ?_
        refine .c .a<|.nil<|kb_n<|ks_n<|.region<|.c .m<|.c .pl<|.c .a<|.nil ?_
        refine kl_k [(130,152)] ⟨j+1,o3++[((k:Int),((j:Nat):Int),p)],rfl,by omega,by rw[rowI_snoc,←List.append_assoc,hEp],by rw[List.length_append,List.length_singleton];omega,rfl⟩ ⟨kd,kW,kd,kd,kd,kd,kb 152 rfl (.dt rfl (by first|rfl|(simp[dR,rN,dI];done)|(simp[dR,rN,dI];rfl))),trivial⟩
      · skip
        obtain rfl:j=q.2.length:=by omega
        refine .exit<|ks_e<|kl_e<|kb_hit<|kb_n<|ks_n<|.region<|.c .m<|.c .pl<|.c .a<|.nil ?_
        refine kl_k [(120,130)] ⟨i+1,o3,rfl,by omega,by rw[insT_take hp1,←List.append_assoc,hEo];exact hEp,by omega,rfl⟩ ⟨kd,kW,kd,kd,kd,kb 130 rfl (.dt rfl (by first|rfl|(simp[dR,rN,dI];done)|(simp[dR,rN,dI];rfl))),trivial⟩
    · skip
      obtain rfl:i=(npR q.1).length:=by omega
      rw[List.take_length]at hEo
      refine .exit<|ks_e<|kl_e<|kb_hit<|kb_n<|ks_n<|.region<|.c .m<|.c .pl<|.c .a<|.nil ?_
      refine kl_k [(110,120)] ⟨k+1,o2,rfl,by omega,by rw[insG_take hq1,hE];exact hEo,by omega,rfl⟩ ⟨kd,kW,kd,kb 120 rfl (.dt rfl (by first|rfl|(simp[dR,rN,dI];done)|(simp[dR,rN,dI];rfl))),trivial⟩
  · skip
    obtain rfl:k=g.2.length:=by omega
    rw[List.take_length]at hE
    refine .exit<|ks_e<|kl_e<|kb_hit<|ks_n<|.r<|.c .m<|.c .a<|.nn<|.ret ?_
    refine kf_wret [eD 2 (dNs (insG 0 g.2))] (Wk.keep [] rfl rfl ⟨ks rfl (.c (.fz rfl (by rw[hE]) (by rw[hE,List.length_map]) (by omega))),trivial⟩) rfl ?_ nobox
    rfl
def stI (g:Prg) (x:Ins):Stm:=match (g.2[x.1.toNat]?).bind fun q=>q.2[x.2.1.toNat]? with |some s=>s|none=>((ByteArray.empty,[]),.mk 0 0 ([],0) (ByteArray.empty,[]) [])
theorem stI_eq {g:Prg} {x:Ins} {k c:Nat} {q:Prt} {s:Stm} (h1:x.1=(k:Int)) (hq:g.2[k]?=some q) (h2:x.2.1=(c:Int)) (hs:q.2[c]?=some s):stI g x=s:=by
  rw[stI,h1,h2,Int.toNat_natCast,Int.toNat_natCast,hq,Option.bind_some,hs]
structure InsOk (g:Prg) (x:Ins) (k c:Nat) (q:Prt):Prop where
  e1:x.1=(k:Int)
  hq:g.2[k]?=some q
  e2:x.2.1=(c:Int)
  hs:q.2[c]?=some (stI g x)
  pt:x.2.2∈npR q.1
  sv:stmtV (q.1.length:Nat) (stI g x)=true
  ok:stmG g.1 (stI g x) x.2.2=true
  ip:isPt x.2.2=true
  hk:k<g.2.length
  hc:c<q.2.length
theorem ins_at {g:Prg} {x:Ins} (hg:prgS g=true) (hx:x∈insG 0 g.2):∃k c q,InsOk g x k c q:=by
  obtain⟨k,q,c,h1,h2,h3,h4,h5⟩:=insG_mem hx
  rw[Nat.zero_add]at h2
  obtain⟨s,hs⟩:∃s,q.2[c]?=some s:=⟨_,List.getElem?_eq_getElem h4⟩
  have e:=stI_eq h2 h1 h3 hs
  have hp:=prtV_iff.1 ((prgS_iff.1 hg).2.2 q (List.mem_of_getElem? h1))
  have hm:=List.mem_of_getElem? hs
  exact⟨k,c,q,h2,h1,h3,by rw[e];exact hs,h5,by rw[e];exact hp.2.2.1 s hm,by rw[e];exact(hp.2.2.2 _ h5).2 s hm,(hp.2.2.2 _ h5).1,(List.getElem?_eq_some_iff.1 h1).1,h4⟩
theorem stI_sz {g:Prg} {x:Ins} {k c:Nat} {q:Prt} (h:InsOk g x k c q):szS (stI g x)≤szG g:=by
  have h1:=szO_mem (f:=szS) (List.mem_of_getElem? h.hs)
  have h2:=szO_mem (f:=szPt) (List.mem_of_getElem? h.hq)
  have e1:szPt q=szLs q.1+szO szS q.2:=rfl
  have e2:szG g=szO szR g.1+szO szPt g.2:=rfl
  omega
theorem stmt_fn {g:Prg} {x:Ins} {k c:Nat} {q:Prt} (h:InsOk g x k c q):Fn Tryz.prog 29 [] [ad (rG g),ad (rN x)] (.o (ad (rS (stI g x)))) []:=by
 refine Fn.code0 Tryz.func29 rfl rfl rfl rfl ?_
 refine .r<|.c .bp<|.c .bp<|.c (.al 104 [.string ByteArray.empty,.slice none 0 0,.int .i64 0,.int .i64 0,.slice none 0 0,.int .i64 0,.string ByteArray.empty,.slice none 0 0,.slice none 0 0])<|.nn<|.seq ?_
 refine ACode.drawK (by kernel_rfl) (by kernel_rfl) ?_
 refine .c (.fP 1 0 false)<|.c (.l1 1)<|.c (.fP 0 0 false)<|.c (.l1 1) ?_
 refine .c (.xL 80 2 48 (i:=k) rfl rfl rfl rfl h.e1 (map_at h.hq)) ?_
 refine .c (.fP 1 0 false)<|.c (.l1 1)<|.c (.fP 1 0 false)<|.c (.l1 1) ?_
 refine .c (.xL 66 9 152 (i:=c) rfl rfl rfl rfl h.e2 (map_at h.hs)) ?_
 refine .c (.lN 9)<|.c (.sT 9 true) ?_
 refine .nil ⟨by kernel_rfl,?_⟩
 refine ks_n<|.ret ?_
 refine kf_ret rfl ?_ nobox
 rfl
def rB (b:Bool):List D:=[dB b]
def dBs (l:List Bool):D:=.list 1 (l.map rB)
def usR (g:Prg) (x:Ins):List Int:=(rdE (stI g x).2).map fun a=>cellG a x.2.2 g.1 0
def usW (g:Prg) (x:Ins):Int:=cellG (stI g x).1 x.2.2 g.1 0
def usRs (g:Prg):Pts:=(insG 0 g.2).map (usR g)
def usWs (g:Prg):List Int:=(insG 0 g.2).map (usW g)
def rU (u:List Int×Int):List D:=[dIs u.1,dI u.2]
def dUs (l:List (List Int×Int)):D:=.list 2 (l.map rU)
def usG (g:Prg) (x:Ins):List Int×Int:=(usR g x,usW g x)
def usL (g:Prg):List (List Int×Int):=(insG 0 g.2).map (usG g)
def rT (g:Prg):List D:=[dRs g.1,dPts g.2,dNs (insG 0 g.2),dPs (usRs g),dIs (usWs g)]
def totN (l:List Arr):Nat:=(l.map fun a=>(sizeA a.2).toNat).sum
theorem totN_take {l:List Arr} {i:Nat} {x:Arr} (h:l[i]?=some x):totN (l.take (i+1))=totN (l.take i)+(sizeA x.2).toNat:=by
  rw[List.take_add_one,h,totN,List.map_append,List.sum_append];simp[totN]
theorem totN_bd {l:List Arr} (h:arrsV l=true):totN l≤144:=by
  have key:∀l:List Arr,(∀a∈l,arrOk a=true)→totN l≤36 *l.length:=by
    intro l
    induction l with
    |nil=>intro _;simp[totN]
    |cons a l ih=>
      intro h
      have h1:=sizeA_bd (h a (by simp))
      have h2:=ih fun b hb=>h b (by simp[hb])
      rw[totN,List.map_cons,List.sum_cons,List.length_cons]
      rw[totN]at h2
      omega
  have h1:=key l fun a ha=>arrsV_at h ha
  have h2:=arrsV_len h
  omega
theorem sizeF_mono {l:List Int}:∀ {a b:Int},0≤a→a≤b→(∀d∈l,1≤d)→sizeF a l≤sizeF b l:=by
  induction l with
  |nil=>intro a b _ h _;exact h
  |cons d l ih=>
    intro a b h0 h hd
    have h1:=hd d (by simp)
    exact ih (Int.mul_nonneg h0 (by omega)) (Int.mul_le_mul_of_nonneg_right h (by omega)) fun e he=>hd e (by simp[he])
theorem atG_bd {p:List Int}:∀ {ds:List Int} {ss:List Aff} {n:Int},0≤n→(∀d∈ds,1≤d)→ss.length=ds.length→atG p ds ss n≠ -1→0≤atG p ds ss n∧atG p ds ss n+1≤sizeF (n+1) ds
  |[],ss,n,h0,_,hl,_=>by
    rw[List.eq_nil_of_length_eq_zero hl,atG]
    ·exact⟨h0,Int.le_refl _⟩
    ·intros;contradiction
  |d::ds,[],n,_,_,hl,_=>by cases hl
  |d::ds,s::ss,n,h0,hd,hl,hne=>by
    rw[atG]at hne ⊢
    split at hne
    · rename_i hin
      rw[if_pos hin]
      have hv:=of_decide_eq_true hin
      have h1:=hd d (by simp)
      have hm:=Int.mul_nonneg h0 (show 0≤d by omega)
      have e:(n+1) *d=n *d+d:=by rw[Int.add_mul,Int.one_mul]
      obtain⟨h2,h3⟩:=atG_bd (p:=p) (ds:=ds) (ss:=ss) (n:=n *d+affEval s p) (by omega) (fun e he=>hd e (by simp[he])) (by simpa using hl) hne
      refine⟨h2,Int.le_trans h3 ?_⟩
      rw[show sizeF (n+1) (d::ds)=sizeF ((n+1) *d) ds from rfl]
      exact sizeF_mono (by omega) (by omega) fun e he=>hd e (by simp[he])
    ·exact absurd rfl hne
theorem cellG_lt {a:Acc} {p:List Int}:∀ {l:List Arr} {b:Int},(∀x∈l,arrOk x=true)→0≤b→cellG a p l b= -1∨(b≤cellG a p l b∧cellG a p l b<b+totN l)
  |[],b,_,_=>.inl rfl
  |x::l,b,h,h0=>by
    have hx:=h x (by simp)
    have hs:=sizeA_bd hx
    obtain⟨hl,hd⟩:=arrOk_at hx
    have e:totN (x::l)=(sizeA x.2).toNat+totN l:=by simp[totN]
    rw[cellG]
    split
    · split
      · rename_i hle
        split
        ·exact .inl rfl
        · rename_i hne
          obtain⟨h1,h2⟩:=atG_bd (p:=p) (n:=0) (Int.le_refl _) (fun d hd'=>(hd d hd').1) hle hne
          have:sizeF (0+1) x.2=sizeA x.2:=rfl
          right;omega
      ·exact .inl rfl
    · rcases cellG_lt (a:=a) (p:=p) (l:=l) (b:=b+sizeA x.2) (fun y hy=>h y (by simp[hy])) (by omega)with h1|h1
      ·exact .inl h1
      ·right;omega
theorem cell_in {ar:List Arr} (hv:arrsV ar=true) {a:Acc} {p:List Int} (h:accG ar p a=true):0≤cellG a p ar 0∧(cellG a p ar 0).toNat<totN ar:=by
  have h1:0≤cellG a p ar 0:=of_decide_eq_true h
  rcases cellG_lt (a:=a) (p:=p) (l:=ar) (b:=0) (fun x hx=>arrsV_at hv hx) (Int.le_refl _)with h2|h2
  ·omega
  ·exact⟨h1,by omega⟩
theorem use_in {g:Prg} {x:Ins} {k c:Nat} {q:Prt} (hv:arrsV g.1=true) (h:InsOk g x k c q):(∀n∈usR g x,0≤n∧n.toNat<totN g.1)∧0≤usW g x∧(usW g x).toNat<totN g.1:=by
  have h1:=h.ok
  rw[stmG,Bool.and_eq_true]at h1
  refine⟨fun n hn=>?_,cell_in hv h1.1⟩
  obtain⟨a,ha,rfl⟩:=List.mem_map.1 hn
  exact cell_in hv (List.all_eq_true.1 h1.2 a ha)
theorem usR_len {g:Prg} {x:Ins} {k c:Nat} {q:Prt} (h:InsOk g x k c q):(usR g x).length≤12:=by
  rw[usR,List.length_map];exact(stm_accs h.sv).2.2
def setB (l:List Bool) (cs:List Int):List Bool:=cs.foldl (fun l c=>l.set c.toNat true) l
def stepF (wr:Bool) (g:Prg) (part:Int) (l:List Bool) (x:Ins):List Bool:=if x.1=part then(if wr=true then l.set (usW g x).toNat true else setB l (usR g x))else l
def flg (wr:Bool) (g:Prg) (part:Int) (n:Nat):List Bool:=((insG 0 g.2).take n).foldl (stepF wr g part) (List.replicate (totN g.1) false)
theorem setB_len:∀ {cs:List Int} {l:List Bool},(setB l cs).length=l.length
  |[],_=>rfl
  |c::cs,l=>by
    have:=setB_len (cs:=cs) (l:=l.set c.toNat true)
    rw[List.length_set]at this;exact this
theorem setB_take {l:List Bool} {cs:List Int} {i:Nat} {c:Int} (h:cs[i]?=some c):setB l (cs.take (i+1))=(setB l (cs.take i)).set c.toNat true:=by
  rw[List.take_add_one,h,setB,List.foldl_append];rfl
theorem stepF_len {wr:Bool} {g:Prg} {part:Int} {l:List Bool} {x:Ins}:(stepF wr g part l x).length=l.length:=by
  rw[stepF]
  split
  · split
    ·rw[List.length_set]
    ·rw[setB_len]
  ·rfl
theorem flg_len {wr:Bool} {g:Prg} {part:Int} {n:Nat}:(flg wr g part n).length=totN g.1:=by
  have key:∀(xs:List Ins) (l:List Bool),(xs.foldl (stepF wr g part) l).length=l.length:=by
    intro xs
    induction xs with
    |nil=>intro l;rfl
    |cons x xs ih=>intro l;rw[List.foldl_cons,ih,stepF_len]
  rw[flg,key,List.length_replicate]
theorem flg_next {wr:Bool} {g:Prg} {part:Int} {n:Nat} {x:Ins} (h:(insG 0 g.2)[n]?=some x):flg wr g part (n+1)=stepF wr g part (flg wr g part n) x:=by
  rw[flg,List.take_add_one,h,List.foldl_append];rfl
theorem step_no {wr:Bool} {g:Prg} {part:Int} {l:List Bool} {x:Ins} (h:¬x.1=part):stepF wr g part l x=l:=if_neg h
theorem step_w {g:Prg} {part:Int} {l:List Bool} {x:Ins} (h:x.1=part):stepF true g part l x=l.set (usW g x).toNat true:=by rw[stepF,if_pos h];rfl
theorem step_r {g:Prg} {part:Int} {l:List Bool} {x:Ins} (h:x.1=part):stepF false g part l x=setB l (usR g x):=by rw[stepF,if_pos h];rfl
theorem dR_setB (l:List Bool) (i:Nat) (x y:Bool):(dR (l.map rB)).set i (place1 ((rB x).map C.d) 0 (bo1 y).cells)=dR ((l.set i y).map rB):=by
  unfold dR
  rw[List.map_set,List.map_set]
  rfl
theorem dR_repB (n:Nat):dR (List.replicate n [dB false])=dR ((List.replicate n false).map rB):=by rw[List.map_replicate];rfl
def flagN (l:List Bool) (n:Nat):List Int:=((List.range n).filter fun i=>l.getD i false).map fun(i:Nat)=>(i:Int)
def flagV (l:List Bool):List Int:=flagN l l.length
theorem flagN_len {l:List Bool} {n:Nat}:(flagN l n).length≤n:=by
  rw[flagN,List.length_map]
  exact Nat.le_trans (List.length_filter_le _ _) (by simp)
theorem flagN_next {l:List Bool} {n:Nat} {b:Bool} (h:l[n]?=some b):flagN l (n+1)=if b=true then flagN l n++[(n:Int)]else flagN l n:=by
  rw[flagN,List.range_succ,List.filter_append,List.map_append]
  have e:l.getD n false=b:=by rw[List.getD,h];rfl
  cases b with
  |true=>rw[if_pos rfl,List.filter_cons_of_pos (by rw[e])];rfl
  |false=>rw[if_neg (by simp),List.filter_cons_of_neg (by rw[e];simp)];simp[flagN]
theorem flagV_mem {l:List Bool} {n:Int}:n∈flagV l↔∃i:Nat,n=(i:Int)∧i<l.length∧l.getD i false=true:=by
  rw[flagV,flagN,List.mem_map]
  constructor
  · rintro⟨i,hi,rfl⟩
    rw[List.mem_filter,List.mem_range]at hi
    exact⟨i,rfl,hi⟩
  · rintro⟨i,rfl,hi⟩
    exact⟨i,by rw[List.mem_filter,List.mem_range];exact hi,rfl⟩
def hasV (l:List Int) (n:Int):Bool:=l.any fun m=>decide (m=n)
theorem hasV_iff {l:List Int} {n:Int}:hasV l n=true↔n∈l:=by
  simp[hasV]
def meetV (a b:List Int):Bool:=a.any (hasV b)
theorem meet_flag {l m:List Bool} (h:l.length=m.length):meetV (flagV l) (flagV m)=(List.range l.length).any fun i=>l.getD i false&&m.getD i false:=by
  rw[Bool.eq_iff_iff,meetV,List.any_eq_true,List.any_eq_true]
  constructor
  · rintro⟨n,hn,h2⟩
    obtain⟨i,rfl,hi,h3⟩:=flagV_mem.1 hn
    obtain⟨j,hj,hj2,h4⟩:=flagV_mem.1 (hasV_iff.1 h2)
    have:i=j:=by omega
    subst this
    exact⟨i,List.mem_range.2 hi,by rw[h3,h4];rfl⟩
  · rintro⟨i,hi,h2⟩
    rw[Bool.and_eq_true]at h2
    have hi':=List.mem_range.1 hi
    exact⟨(i:Int),flagV_mem.2 ⟨i,rfl,hi',h2.1⟩,hasV_iff.2 (flagV_mem.2 ⟨i,rfl,by omega,h2.2⟩)⟩
def clashC (rA wA rB' wB:List Bool) (i:Nat):Bool:=(wA.getD i false&&(rB'.getD i false||wB.getD i false))||(wB.getD i false&&rA.getD i false)
def clashV (g:Prg) (a b:Int):Bool:=(List.range (totN g.1)).any (clashC (flg false g a (insG 0 g.2).length) (flg true g a (insG 0 g.2).length) (flg false g b (insG 0 g.2).length) (flg true g b (insG 0 g.2).length))
def indV (g:Prg) (a b:Int):Bool:=prgV g&&(inB a 0 ((g.2.length:Nat) -1)&&(inB b 0 ((g.2.length:Nat) -1)&&(!decide (a=b)&& !clashV g a b)))
theorem clash_spec {g:Prg} {a b:Int} {n:Nat}:(!(meetV (flagV (flg true g a n)) (flagV (flg true g b n)))&&(!(meetV (flagV (flg true g a n)) (flagV (flg false g b n)))&& !(meetV (flagV (flg true g b n)) (flagV (flg false g a n)))))= !((List.range (totN g.1)).any (clashC (flg false g a n) (flg true g a n) (flg false g b n) (flg true g b n))):=by
  rw[meet_flag (by rw[flg_len,flg_len]),meet_flag (by rw[flg_len,flg_len]),meet_flag (by rw[flg_len,flg_len]),flg_len,flg_len,←Bool.not_or,←Bool.not_or]
  congr 1
  rw[Bool.eq_iff_iff]
  simp only[Bool.or_eq_true,List.any_eq_true,clashC,Bool.and_eq_true]
  constructor
  · rintro (⟨i,h1,h2,h3⟩|⟨i,h1,h2,h3⟩|⟨i,h1,h2,h3⟩)
    ·exact⟨i,h1,.inl ⟨h2,.inr h3⟩⟩
    ·exact⟨i,h1,.inl ⟨h2,.inl h3⟩⟩
    ·exact⟨i,h1,.inr ⟨h2,h3⟩⟩
  · rintro⟨i,h1,⟨h2,h3|h3⟩|⟨h2,h3⟩⟩
    ·exact .inr (.inl ⟨i,h1,h2,h3⟩)
    ·exact .inl ⟨i,h1,h2,h3⟩
    ·exact .inr (.inr ⟨i,h1,h2,h3⟩)
theorem insG_len {g:Prg} (h:prgS g=true):(insG 0 g.2).length≤1920:=by
  obtain⟨_,h4,hP⟩:=prgS_iff.1 h
  have key:∀(l:List Prt) (n:Nat),(∀q∈l,prtV g.1 q=true)→(insG n l).length≤480 *l.length:=by
    intro l
    induction l with
    |nil=>intro n _;simp[insG]
    |cons q l ih=>
      intro n hq
      have h1:=(cntP_len (hq q (by simp)) n).2
      have h2:=ih (n+1) fun q' h'=>hq q' (by simp[h'])
      rw[insG,List.length_append,List.length_cons];omega
  have:=key g.2 0 hP
  omega
theorem cells_fn {g:Prg} (hv:arrsV g.1=true):Fn Tryz.prog 125 [] [ad (rG g)] (.o (nat1 (totN g.1:Nat))) []:=by
  have hl:=arrsV_len hv
  refine Fn.code0 Tryz.func125 rfl rfl rfl rfl ?_
  refine .r<|.c .bp<|.c .a<|.r<|.c .a<|.nn<|.seq<|.r<|.c (.fP 0 0 false)<|.c (.l1 1)<|.c (.ln 45 2 40)<|.c .m<|.nn<|.block ?_
  refine .loopK (fun m σ=>(∃(i:Nat) (t:Int),m=g.1.length -i∧(i≤g.1.length)∧(t=(totN (g.1.take i):Nat))∧(0≤t∧t≤36 *i)∧σ=[eP 1 (rG g),eN 2 0,eN 3 t,eD 7 (dRs g.1),eN 8 (g.1.length:Nat),eN 9 (i:Nat)])) [] ⟨0,0,rfl,by omega,rfl,by omega,rfl⟩ ⟨kd,kd,kd,kd,kd,kd,trivial⟩ ?_
  rintro m σ ⟨i,t,hm0,hi,hT,hb,rfl⟩
  refine .r<|.c .ls<|.nn<|.seq ?_
  refine .cD rfl (fun h10=>?_) (fun h10=>?_)
  · skip
    obtain⟨x,hx1⟩:∃x_,g.1[i]?=some x_:=⟨_,List.getElem?_eq_getElem (by omega)⟩
    have hxo:=arr_mem hv hx1
    have hsb:=sizeA_bd hxo
    refine .skip<|ks_n<|.seq<|.block<|.r<|.c (.xL 45 2 40) ?_
    refine .c (.lN 2)<|.c (.al 105 [.string ByteArray.empty,.slice none 0 0])<|.c (.sT 2 true)<|.nn<|.region<|.c .m<|.c (.bN 2) ?_
    refine .c (.cP [.tmp 14] rfl rfl rfl rfl (size_fn hxo) rfl) ?_
    refine .c .pl<|.c .a<|.nil<|kb_n<|ks_n<|.region<|.c .pl<|.c .m<|.nil ?_
    refine kl_k [] ⟨i+1,t+sizeA x.2,rfl,by omega,by rw[totN_take hx1,hT];omega,by omega,rfl⟩ ⟨kd,kd,kd,kd,kd,kd,trivial⟩
  · skip
    obtain rfl:i=g.1.length:=by omega
    rw[List.take_length]at hT
    refine .exit<|ks_e<|kl_e<|kb_hit<|ks_n<|.r<|.c .m<|.c .a<|.nn<|.ret ?_
    refine kf_ret rfl ?_ nobox
    exact leafI hT
theorem l4Total_fn {g:Prg} (hv:arrsV g.1=true):Fn Tryz.prog 123 [] [ad (rG g)] (.o (nat1 (totN g.1:Nat))) []:=by
  have hl:=arrsV_len hv
  refine Fn.code0 Tryz.func123 rfl rfl rfl rfl ?_
  refine .r<|.c .bp<|.c .a<|.r<|.c .a<|.nn<|.seq<|.r<|.c .a<|.nn<|.block ?_
  refine .loopK (fun m σ=>(∃(i:Nat) (t:Int),m=g.1.length -i∧(i≤g.1.length)∧(t=(totN (g.1.take i):Nat))∧(0≤t∧t≤36 *i)∧σ=[eP 1 (rG g),eN 2 0,eN 3 t,eN 4 (i:Nat)])) [] ⟨0,0,rfl,by omega,rfl,by omega,rfl⟩ ⟨kd,kd,kd,kd,trivial⟩ ?_
  rintro m σ ⟨i,t,hm0,hi,hT,hb,rfl⟩
  refine .seq<|.r<|.c .m<|.c (.fP 0 0 false)<|.c (.l1 1)<|.c (.ln 45 2 40)<|.c .ls<|.nn ?_
  refine .cD rfl (fun h9=>?_) (fun h9=>?_)
  · skip
    obtain⟨x,hx1⟩:∃x_,g.1[i]?=some x_:=⟨_,List.getElem?_eq_getElem (by omega)⟩
    have hxo:=arr_mem hv hx1
    have hsb:=sizeA_bd hxo
    refine .skip<|ks_n<|.seq<|.block<|.region<|.c .m<|.c (.fP 0 0 false)<|.c (.l1 1)<|.c .m<|.c (.xL 45 2 40) ?_
    refine .c (.lN 2) ?_
    refine .c (.cP [.tmp 17] rfl rfl rfl rfl (l4Size_fn hxo) rfl) ?_
    refine .c .pl<|.c .a<|.nil<|kb_n<|ks_n<|.region<|.c .m<|.c .pl<|.c .a<|.nil ?_
    refine kl_k [] ⟨i+1,t+sizeA x.2,rfl,by omega,by rw[totN_take hx1,hT];omega,by omega,rfl⟩ ⟨kd,kd,kd,kd,trivial⟩
  · skip
    obtain rfl:i=g.1.length:=by omega
    rw[List.take_length]at hT
    refine .exit<|ks_e<|kl_e<|kb_hit<|ks_n<|.r<|.c .m<|.c .a<|.nn<|.ret ?_
    refine kf_ret rfl ?_ nobox
    exact leafI hT
theorem touched_fn {g:Prg} (hv:arrsV g.1=true) {x:Ins} {k c:Nat} {q:Prt} (hI:InsOk g x k c q):Fn Tryz.prog 85 [] [ad (rG g),ad (rN x)] (.tup [vD (dIs (usR g x)),nat1 (usW g x)]) []:=by
  obtain⟨ha,hr,hrl⟩:=stm_accs hI.sv
  have hpt:=npR_pt hI.pt
  refine Fn.code0 Tryz.func85 rfl rfl rfl rfl ?_
  refine .r<|.c .bp<|.c .bp<|.c .a<|.c .a<|.r<|.c (.lN 2)<|.c (.lN 3) ?_
  refine .c (.cP [.tmp 10,.tmp 11] rfl rfl rfl rfl (stmt_fn hI) rfl) ?_
  refine .c (.al 106 [.string ByteArray.empty,.slice none 0 0,.int .i64 0,.int .i64 0,.slice none 0 0,.int .i64 0,.string ByteArray.empty,.slice none 0 0,.slice none 0 0])<|.c (.sT 9 true)<|.r<|.c .a<|.nn<|.seq<|.r<|.c (.fB 2 6 true)<|.c (.bN 7) ?_
  refine .c (.cP [.tmp 14] rfl rfl rfl rfl (reads_fn (L:=5) _ (by omega) (stmtV_ex hI.sv).1) rfl) ?_
  refine .c (.ln 59 2 40)<|.c .m<|.nn<|.block ?_
  refine .loopK (fun m σ=>(∃i:Nat,m=(rdE (stI g x).2).length -i∧(i=0)∧σ=[eP 2 (rG g),eP 3 (rN x),eP 6 (rS (stI g x)),(.t 7,.v (.o (.c (nl)))),eD 15 (dCs (rdE (stI g x).2)),eN 16 ((rdE (stI g x).2).length:Nat),eN 17 (i:Nat)])∨(∃i:Nat,m=(rdE (stI g x).2).length -i∧(1≤i)∧(i≤(rdE (stI g x).2).length)∧σ=[eP 2 (rG g),eP 3 (rN x),eP 6 (rS (stI g x)),(.t 7,.v (.o (.c (.own 110 1 (i))))),eD 15 (dCs (rdE (stI g x).2)),eN 16 ((rdE (stI g x).2).length:Nat),eN 17 (i:Nat),(.b 110,.b 3 1 (dR (((rdE (stI g x).2).take i).map (fun a:Acc=>rI (cellG a x.2.2 g.1 0))))),eU 110])) [] (.inl ⟨0,rfl,rfl,rfl⟩) ⟨kd,kd,ks rfl (.c (.frzP _ _ _ _ _ _ _ _ rfl (show _=dR [rS (stI g x)]from rfl) rfl rfl rfl)),kd,kd,kd,kd,trivial⟩ ?_
  rintro m σ (⟨i,hm0,rfl,rfl⟩|⟨i,hm0,hi1,hi,rfl⟩)
  · skip
    refine .r<|.c .ls<|.nn<|.seq ?_
    refine .cD rfl (fun h18=>?_) (fun h18=>?_)
    · skip
      obtain⟨a,ha1⟩:∃x_,(rdE (stI g x).2)[0]?=some x_:=⟨_,List.getElem?_eq_getElem (by omega)⟩
      refine .skip<|ks_n<|.seq<|.block<|.r<|.c (.xL 59 2 40) ?_
      refine .c (.lN 2)<|.c (.al 109 [.string ByteArray.empty,.slice none 0 0])<|.c (.sT 2 true)<|.nn<|.region<|.c .m<|.c (.lN 2)<|.c (.bN 2)<|.c (.fP 2 0 false)<|.c (.l1 1) ?_
      refine .c (.cP [.tmp 22,.tmp 23,.tmp 25] rfl rfl rfl rfl (cell_fn hv (hr a (List.mem_of_getElem? ha1)) hpt.1 hpt.2) rfl) ?_
      refine .c (.li 3 0 0 [.tmp 26]) ?_
      refine .c (St1.appN (k':=128) (e:=3) (sz:=0) (by':=8) rfl rfl rfl rfl rfl (by kernel_rfl) rfl rfl rfl (by simp) (by first|(simp[dR];done)|(simp[dR];omega)) rfl rfl) ?_
      refine .c .a<|.nil<|kb_n<|ks_n<|.region<|.c .pl<|.c .m<|.nil ?_
      refine kl_k [(110,128)] (.inr ⟨1,rfl,by omega,by omega,rfl⟩) ⟨kd,kd,kd,kW,kd,kd,kd,kb 128 rfl (.dt rfl (by first|exact dR_take (fun a:Acc=>rI (cellG a x.2.2 g.1 0)) ha1|exact dR_take1 (fun a:Acc=>rI (cellG a x.2.2 g.1 0)) ha1|rfl|(simp[dR];done))),trivial⟩
    · skip
      have hn:usR g x=[]:=by rw[usR,List.eq_nil_of_length_eq_zero (show (rdE (stI g x).2).length=0 by omega)];rfl
      refine .exit<|ks_e<|kl_e<|kb_hit<|ks_n<|.r<|.c .m<|.c (.lN 2)<|.c (.fP 0 1 true)<|.c (.lN 2)<|.c (.fP 2 0 false)<|.c (.l1 1) ?_
      refine .c (.cP [.tmp 31,.tmp 33,.tmp 35] rfl rfl rfl rfl (cell_fn hv ha hpt.1 hpt.2) rfl) ?_
      refine .c .a<|.c .a<|.nn<|.ret ?_
      refine kf_wret [eD 4 (dIs (usR g x)),eN 5 (usW g x)] (Wk.keep [] rfl rfl ⟨ks rfl (.c (Cto.nilE 1 (by rw[hn];rfl))),kd,trivial⟩) rfl ?_ nobox
      rfl
  · skip
    refine .r<|.c .ls<|.nn<|.seq ?_
    refine .cD rfl (fun h18=>?_) (fun h18=>?_)
    · skip
      obtain⟨a,ha1⟩:∃x_,(rdE (stI g x).2)[i]?=some x_:=⟨_,List.getElem?_eq_getElem (by omega)⟩
      refine .skip<|ks_n<|.seq<|.block<|.r<|.c (.xL 59 2 40) ?_
      refine .c (.lN 2)<|.c (.al 109 [.string ByteArray.empty,.slice none 0 0])<|.c (.sT 2 true)<|.nn<|.region<|.c .m<|.c (.lN 2)<|.c (.bN 2)<|.c (.fP 2 0 false)<|.c (.l1 1) ?_
      refine .c (.cP [.tmp 22,.tmp 23,.tmp 25] rfl rfl rfl rfl (cell_fn hv (hr a (List.mem_of_getElem? ha1)) hpt.1 hpt.2) rfl) ?_
      refine .c (.li 3 0 0 [.tmp 26]) ?_
      refine .c (St1.appB (k':=128) (e:=3) (sz:=0) (by':=8) rfl rfl rfl rfl rfl (by kernel_rfl) rfl rfl rfl rfl (by first|(simp[dR];done)|(simp[dR];omega)) (by first|(simp[dR];done)|(simp[dR];omega)) rfl rfl rfl) ?_
      refine .c .a<|.nil<|kb_n<|ks_n<|.region<|.c .pl<|.c .m<|.nil ?_
      refine kl_k [(110,128)] (.inr ⟨i+1,rfl,by omega,by omega,rfl⟩) ⟨kd,kd,kd,kW,kd,kd,kd,kb 128 rfl (.dt rfl (by first|exact dR_take (fun a:Acc=>rI (cellG a x.2.2 g.1 0)) ha1|exact dR_take1 (fun a:Acc=>rI (cellG a x.2.2 g.1 0)) ha1|rfl|(simp[dR];done))),trivial⟩
    · skip
      obtain rfl:i=(rdE (stI g x).2).length:=by omega
      refine .exit<|ks_e<|kl_e<|kb_hit<|ks_n<|.r<|.c .m<|.c (.lN 2)<|.c (.fP 0 1 true)<|.c (.lN 2)<|.c (.fP 2 0 false)<|.c (.l1 1) ?_
      refine .c (.cP [.tmp 31,.tmp 33,.tmp 35] rfl rfl rfl rfl (cell_fn hv ha hpt.1 hpt.2) rfl) ?_
      refine .c .a<|.c .a<|.nn<|.ret ?_
      refine kf_wret [eD 4 (dIs (usR g x)),eN 5 (usW g x)] (Wk.keep [] rfl rfl ⟨ks rfl (.c (.fz rfl (by rw[List.take_length,usR,List.map_map];rfl) (by simp[usR]) (by omega))),kd,trivial⟩) rfl ?_ nobox
      rfl
theorem trace_no {g:Prg} (hs:szG g≤1073741824) (hV:prgV g=false):Fn Tryz.prog 43 [] [ad (rG g)] (.tup [.c (.d (.val (.pointer none))),bo1 false]) []:=by
 refine Fn.code0 Tryz.func43 rfl rfl rfl rfl ?_
 refine .r<|.c .bp<|.c .a<|.c .a<|.r<|.c (.lN 2) ?_
 refine .c (.cP [.tmp 12] rfl rfl rfl rfl (instances_fn hs) rfl) ?_
 refine .c .m<|.c .ex<|.c .ex<|.c .a<|.c .a<|.nn<|.seq<|.r<|.c .m<|.c .nt<|.nn ?_
 refine ACode.condT rfl (fun h17=>?_) (fun h17=>?_)
 ·try simp only[zs]at h17
  refine .r<|.c .a<|.c .a<|.nn<|.ret<|ks_r ?_
  refine kf_ret rfl ?_ nobox
  rfl
 ·try simp only[zs]at h17
  rw[hV]at h17;cases h17
theorem trace_fn {g:Prg} (hs:szG g≤1073741824) (hV:prgV g=true):Fn Tryz.prog 43 [] [ad (rG g)] (.tup [.c (.ptr (rT g)),bo1 true]) []:=by
 obtain⟨hS,hN,hL⟩:=prgV_s hV
 have hv:=(prgS_iff.1 hS).1
 refine Fn.code0 Tryz.func43 rfl rfl rfl rfl ?_
 refine .r<|.c .bp<|.c .a<|.c .a<|.r<|.c (.lN 2) ?_
 refine .c (.cP [.tmp 12] rfl rfl rfl rfl (instances_fn hs) rfl) ?_
 refine .c .m<|.c .ex<|.c .ex<|.c .a<|.c .a<|.nn<|.seq<|.r<|.c .m<|.c .nt<|.nn ?_
 refine ACode.condT rfl (fun h17=>?_) (fun h17=>?_)
 ·try simp only[zs]at h17
  rw[hV]at h17;cases h17
 ·try simp only[zs]at h17
  rw[hN]
  refine .skip<|ks_n<|.r<|.c (.lN 2)<|.c .m<|.c (.bu [(0,.tmp 18),(1,.tmp 19)] [(0,2),(2,1),(3,1),(4,1)] [.slice none 0 0,.slice none 0 0,.slice none 0 0,.slice none 0 0,.slice none 0 0]) ?_
  refine .c (St1.boxB (k':=121) rfl rfl rfl rfl rfl rfl rfl)<|.c .a<|.nn<|.seq<|.r<|.c .m<|.c (.ln 56 3 40)<|.c .m<|.nn<|.block ?_
  refine .loopK (fun m σ=>(∃i:Nat,m=(insG 0 g.2).length -i∧(i=0)∧σ=[eP 1 (rG g),eB 6 110 5,eD 22 (dNs (insG 0 g.2)),eN 23 ((insG 0 g.2).length:Nat),eN 24 (i:Nat),(.b 110,.b 91 5 [[.d (dRs g.1),.d (dPts g.2),.d (dNs (insG 0 g.2)),nl,nl]]),eU 110])∨(∃i:Nat,m=(insG 0 g.2).length -i∧(1≤i)∧(i≤(insG 0 g.2).length)∧σ=[eP 1 (rG g),eB 6 110 5,eD 22 (dNs (insG 0 g.2)),eN 23 ((insG 0 g.2).length:Nat),eN 24 (i:Nat),(.b 111,.b 43 1 (dR (((insG 0 g.2).take i).map (fun x=>rIs (usR g x))))),eU 111,(.b 112,.b 3 1 (dR (((insG 0 g.2).take i).map (fun x=>rI (usW g x))))),eU 112,(.b 110,.b 91 5 [[.d (dRs g.1),.d (dPts g.2),.d (dNs (insG 0 g.2)),.own 111 1 (i),.own 112 1 (i)]]),eU 110])) [(110,121)] (.inl ⟨0,rfl,rfl,rfl⟩) ⟨kd,kX,kd,kd,kd,kb 121 rfl (.cons (.cons .dt (.cons .dt (.cons .dt (.cons .dt (.cons .dt Ctos.nil))))) .nil),trivial⟩ ?_
  rintro m σ (⟨i,hm0,rfl,rfl⟩|⟨i,hm0,hi1,hi,rfl⟩)
  ·skip
   refine .r<|.c .ls<|.nn<|.seq ?_
   refine .cD rfl (fun h25=>?_) (fun h25=>?_)
   ·skip
    obtain⟨x,hx1⟩:∃x_,(insG 0 g.2)[0]?=some x_:=⟨_,List.getElem?_eq_getElem (by omega)⟩
    obtain⟨k,c,q,hI⟩:=ins_at hS (List.mem_of_getElem? hx1)
    have hsz:=stI_sz hI
    refine .skip<|ks_n<|.seq<|.block<|.r<|.c (.xL 56 3 40) ?_
    refine .c (.lN 3)<|.c (.al 108 [.int .i64 0,.int .i64 0,.slice none 0 0])<|.c (.sT 3 true)<|.r<|.c (.lN 2)<|.c (.bN 3) ?_
    refine .c (.cP [.tmp 29,.tmp 30] rfl rfl rfl rfl (touched_fn hv hI) rfl) ?_
    refine .c .m<|.c .ex<|.c .ex<|.c .a<|.c .a<|.nn ?_
    refine ACode.drawK (by kernel_rfl) (by kernel_rfl) ?_
    refine .c .m<|.c .m<|.c .m<|.c .nB<|.c (.fB 3 0 false)<|.c (.b1 1)<|.c .m<|.c (.li 43 0 0 [.tmp 40]) ?_
    refine .c (St1.appN (k':=142) (e:=43) (sz:=0) (by':=24) rfl rfl rfl rfl rfl (by kernel_rfl) rfl rfl rfl (by simp) (by first|(simp[dR];done)|(simp[dR];omega)) rfl rfl) ?_
    refine .c .m<|.c .nB<|.c (.fB 4 0 false)<|.c (.b1 1)<|.c .m<|.c (.li 3 0 0 [.tmp 47]) ?_
    refine .c (St1.appN (k':=149) (e:=3) (sz:=0) (by':=8) rfl rfl rfl rfl rfl (by kernel_rfl) rfl rfl rfl (by simp) (by first|(simp[dR];done)|(simp[dR];omega)) rfl rfl) ?_
    refine .c .nB<|.c (.fB 3 0 false)<|.c (.sT 1 false)<|.c .nB<|.c (.fB 4 0 false)<|.c (.sT 1 false) ?_
    refine .nil ⟨by kernel_rfl,?_⟩
    refine kb_n<|ks_n<|.region<|.c .pl<|.c .m<|.nil ?_
    refine kl_k [(110,110),(111,142),(112,149)] (.inr ⟨1,rfl,by omega,by omega,rfl⟩) ⟨kd,kX,kd,kd,kd,kb 142 rfl (.dt rfl (by first|exact dR_take (fun x=>rIs (usR g x)) hx1|exact dR_take1 (fun x=>rIs (usR g x)) hx1|rfl|(simp[dR];done))),kb 149 rfl (.dt rfl (by first|exact dR_take (fun x=>rI (usW g x)) hx1|exact dR_take1 (fun x=>rI (usW g x)) hx1|rfl|(simp[dR];done))),kb 110 rfl (.cons (.cons .dt (.cons .dt (.cons .dt (.cons .ow (.cons .ow Ctos.nil))))) .nil),trivial⟩
   ·skip
    have hn:insG 0 g.2=[]:=List.eq_nil_of_length_eq_zero (by omega)
    refine .exit<|ks_e<|kl_e<|kb_hit<|ks_n<|.seq ?_
    refine .keep [eB 6 810 5,(.b 810,.b 91 5 [[.d (dRs g.1),.d (dPts g.2),.d (dNs (insG 0 g.2)),.d (dPs (usRs g)),.d (dIs (usWs g))]]),eU 810] [(810,110)] ⟨kX,kb 110 rfl (.cons (.cons .dt (.cons .dt (.cons .dt (.cons (Cto.nilE 1 (by rw[usRs,hn];rfl)) (.cons (Cto.nilE 1 (by rw[usWs,hn];rfl)) Ctos.nil))))) .nil),trivial⟩ ?_
    refine .region<|.c .m<|.c .a<|.c .a<|.nn<|.ret ?_
    refine kf_wret [eP 2 (rT g),eT 3 true] (Wk.keep [] rfl rfl ⟨ks rfl (.c (.frzP _ _ _ _ _ _ _ _ rfl (show _=dR [rT g]from rfl) rfl rfl rfl)),kd,trivial⟩) rfl ?_ nobox
    rfl
  ·skip
   refine .r<|.c .ls<|.nn<|.seq ?_
   refine .cD rfl (fun h25=>?_) (fun h25=>?_)
   ·skip
    obtain⟨x,hx1⟩:∃x_,(insG 0 g.2)[i]?=some x_:=⟨_,List.getElem?_eq_getElem (by omega)⟩
    obtain⟨k,c,q,hI⟩:=ins_at hS (List.mem_of_getElem? hx1)
    have hsz:=stI_sz hI
    refine .skip<|ks_n<|.seq<|.block<|.r<|.c (.xL 56 3 40) ?_
    refine .c (.lN 3)<|.c (.al 108 [.int .i64 0,.int .i64 0,.slice none 0 0])<|.c (.sT 3 true)<|.r<|.c (.lN 2)<|.c (.bN 3) ?_
    refine .c (.cP [.tmp 29,.tmp 30] rfl rfl rfl rfl (touched_fn hv hI) rfl) ?_
    refine .c .m<|.c .ex<|.c .ex<|.c .a<|.c .a<|.nn ?_
    refine ACode.drawK (by kernel_rfl) (by kernel_rfl) ?_
    refine .c .m<|.c .m<|.c .m<|.c .nB<|.c (.fB 3 0 false)<|.c (.b1 1)<|.c .m<|.c (.li 43 0 0 [.tmp 40]) ?_
    refine .c (St1.appB (k':=142) (e:=43) (sz:=0) (by':=24) rfl rfl rfl rfl rfl (by kernel_rfl) rfl rfl rfl rfl (by first|(simp[dR];done)|(simp[dR];omega)) (by first|(simp[dR];done)|(simp[dR];omega)) rfl rfl rfl) ?_
    refine .c .m<|.c .nB<|.c (.fB 4 0 false)<|.c (.b1 1)<|.c .m<|.c (.li 3 0 0 [.tmp 47]) ?_
    refine .c (St1.appB (k':=149) (e:=3) (sz:=0) (by':=8) rfl rfl rfl rfl rfl (by kernel_rfl) rfl rfl rfl rfl (by first|(simp[dR];done)|(simp[dR];omega)) (by first|(simp[dR];done)|(simp[dR];omega)) rfl rfl rfl) ?_
    refine .c .nB<|.c (.fB 3 0 false)<|.c (.sT 1 false)<|.c .nB<|.c (.fB 4 0 false)<|.c (.sT 1 false) ?_
    refine .nil ⟨by kernel_rfl,?_⟩
    refine kb_n<|ks_n<|.region<|.c .pl<|.c .m<|.nil ?_
    refine kl_k [(110,110),(111,142),(112,149)] (.inr ⟨i+1,rfl,by omega,by omega,rfl⟩) ⟨kd,kX,kd,kd,kd,kb 142 rfl (.dt rfl (by first|exact dR_take (fun x=>rIs (usR g x)) hx1|exact dR_take1 (fun x=>rIs (usR g x)) hx1|rfl|(simp[dR];done))),kb 149 rfl (.dt rfl (by first|exact dR_take (fun x=>rI (usW g x)) hx1|exact dR_take1 (fun x=>rI (usW g x)) hx1|rfl|(simp[dR];done))),kb 110 rfl (.cons (.cons .dt (.cons .dt (.cons .dt (.cons .ow (.cons .ow Ctos.nil))))) .nil),trivial⟩
   ·skip
    obtain rfl:i=(insG 0 g.2).length:=by omega
    refine .exit<|ks_e<|kl_e<|kb_hit<|ks_n<|.seq ?_
    refine .keep [eB 6 810 5,(.b 810,.b 91 5 [[.d (dRs g.1),.d (dPts g.2),.d (dNs (insG 0 g.2)),.d (dPs (usRs g)),.d (dIs (usWs g))]]),eU 810] [(810,110)] ⟨kX,kb 110 rfl (.cons (.cons .dt (.cons .dt (.cons .dt (.cons (.fz rfl (by rw[List.take_length,usRs,List.map_map];rfl) (by simp[usRs]) (by omega)) (.cons (.fz rfl (by rw[List.take_length,usWs,List.map_map];rfl) (by simp[usWs]) (by omega)) Ctos.nil))))) .nil),trivial⟩ ?_
    refine .region<|.c .m<|.c .a<|.c .a<|.nn<|.ret ?_
    refine kf_wret [eP 2 (rT g),eT 3 true] (Wk.keep [] rfl rfl ⟨ks rfl (.c (.frzP _ _ _ _ _ _ _ _ rfl (show _=dR [rT g]from rfl) rfl rfl rfl)),kd,trivial⟩) rfl ?_ nobox
    rfl
theorem l6Uses_fn {g:Prg} (hs:szG g≤1073741824) (hS:prgS g=true):Fn Tryz.prog 81 [] [ad (rG g)] (.o (vD (dUs (usL g)))) []:=by
 have hL:=insG_len hS
 have hv:=(prgS_iff.1 hS).1
 refine Fn.code0 Tryz.func81 rfl rfl rfl rfl ?_
 refine .r<|.c .bp<|.c .a<|.r ?_
 refine .c (St1.lit0 (k':=109) (e:=134) (sz:=2) (b:=true) rfl rfl rfl rfl (by kernel_rfl) rfl rfl) ?_
 refine .c .a<|.r<|.c (.lN 2) ?_
 refine .c (.cP [.tmp 10] rfl rfl rfl rfl (l4Instances_fn hS) rfl) ?_
 refine .c .a<|.nn<|.seq<|.r<|.c .a<|.nn<|.block ?_
 refine .loopK (fun m σ=>(∃i:Nat,m=(insG 0 g.2).length -i∧(i≤(insG 0 g.2).length)∧(True)∧σ=[eP 1 (rG g),(.t 3,.v (.o (.c (.own 110 2 (i))))),eD 4 (dNs (insG 0 g.2)),eN 5 (i:Nat),(.b 110,.b 134 2 (dR (((insG 0 g.2).take i).map (fun x=>rU (usG g x))))),eU 110])) [(110,109)] ⟨0,rfl,by omega,trivial,rfl⟩ ⟨kd,kW,kd,kd,kb 109 rfl (.dt rfl (by first|exact dR_take (fun x=>rU (usG g x)) hx1|exact dR_take1 (fun x=>rU (usG g x)) hx1|rfl|(simp[dR];done))),trivial⟩ ?_
 rintro m σ ⟨i,hm0,hi,hF,rfl⟩
 refine .seq<|.r<|.c .m<|.c .m<|.c (.ln 56 3 40)<|.c .ls<|.nn ?_
 refine .cD rfl (fun h15=>?_) (fun h15=>?_)
 ·skip
  obtain⟨x,hx1⟩:∃x_,(insG 0 g.2)[i]?=some x_:=⟨_,List.getElem?_eq_getElem (by omega)⟩
  obtain⟨k,c,q,hI⟩:=ins_at hS (List.mem_of_getElem? hx1)
  have hsz:=stI_sz hI
  have hpt:=npR_pt hI.pt
  obtain⟨hC,hW⟩:=cls_yes hI.ok
  refine .skip<|ks_n<|.seq<|.block<|.seq ?_
  refine ACode.drawK (by kernel_rfl) (by kernel_rfl) ?_
  refine .c (.fP 0 0 false)<|.c (.l1 1)<|.c (.fP 1 0 false)<|.c (.l1 1)<|.c .m<|.c .m<|.c (.xL 56 3 40) ?_
  refine .c (.fP 0 0 false)<|.c (.l1 1) ?_
  refine .c (.xL 80 2 48 (i:=k) rfl rfl rfl rfl hI.e1 (map_at hI.hq)) ?_
  refine .c (.fP 1 0 false)<|.c (.l1 1)<|.c .m<|.c .m<|.c (.xL 56 3 40) ?_
  refine .c (.fP 1 0 false)<|.c (.l1 1) ?_
  refine .c (.xL 66 9 152 (i:=c) rfl rfl rfl rfl hI.e2 (map_at hI.hs)) ?_
  refine .c (.lN 9)<|.c .m<|.c .m<|.c (.xL 56 3 40) ?_
  refine .c (.fP 2 0 false)<|.c (.l1 1) ?_
  refine .c (.cP [.tmp 20,.tmp 37,.tmp 42] rfl rfl rfl rfl (l4Cells_fn hv hI.sv (by omega) hpt.1 hpt.2) rfl) ?_
  refine .c .m<|.c .ex<|.c .ex<|.c .ex<|.c .a<|.c .a<|.c .a ?_
  refine .nil ⟨by kernel_rfl,?_⟩
  refine ks_n ?_
  refine .keep [eP 1 (rG g),(.t 3,.v (.o (.c (.own 770 2 (i))))),eD 4 (dNs (insG 0 g.2)),eN 5 (i:Nat),eD 6 (dIs (usR g x)),eN 7 (usW g x),(.b 770,.b 134 2 (dR (((insG 0 g.2).take i).map (fun x=>rU (usG g x))))),eU 770] [(770,110)] ⟨kd,kW,kd,kd,ks rfl (.dt (by rw[hC];rfl)),ks rfl (.dt (by rw[hW];rfl)),kb 110 rfl (.dt rfl (by first|exact dR_take (fun x=>rU (usG g x)) hx1|exact dR_take1 (fun x=>rU (usG g x)) hx1|rfl|(simp[dR];done))),trivial⟩ ?_
  refine .region<|.c .m<|.c .m<|.c .m<|.c (.bu [(0,.tmp 48),(1,.tmp 49)] [(0,1),(1,1)] [.slice none 0 0,.int .i64 0])<|.c (.li 134 1 0 [.tmp 50]) ?_
  refine .c (St1.appB (k':=152) (e:=134) (sz:=1) (by':=32) rfl rfl rfl rfl rfl (by kernel_rfl) rfl rfl rfl rfl (by first|(simp[dR];done)|(simp[dR];omega)) (by first|(simp[dR];done)|(simp[dR];omega)) rfl rfl rfl) ?_
  refine .c .a<|.nil<|kb_n<|ks_n<|.region<|.c .m<|.c .pl<|.c .a<|.nil ?_
  refine kl_k [(110,152)] ⟨i+1,rfl,by omega,trivial,rfl⟩ ⟨kd,kW,kd,kd,kb 152 rfl (.dt rfl (by first|exact dR_take (fun x=>rU (usG g x)) hx1|exact dR_take1 (fun x=>rU (usG g x)) hx1|rfl|(simp[dR];done))),trivial⟩
 ·skip
  obtain rfl:i=(insG 0 g.2).length:=by omega
  refine .exit<|ks_e<|kl_e<|kb_hit<|ks_n<|.r<|.c .m<|.c .a<|.nn<|.ret ?_
  refine kf_wret [eD 2 (dUs (usL g))] (Wk.keep [] rfl rfl ⟨ks rfl (.c (.fz rfl (by rw[List.take_length,usL,List.map_map];rfl) (by simp[usL]) (by omega))),trivial⟩) rfl ?_ nobox
  rfl
theorem cellsOf_fn {g:Prg} (hS:prgS g=true) (part:Int):Fn Tryz.prog 80 [] [.c (.ptr (rT g)),nat1 part] (.tup [vD (dBs (flg false g part (insG 0 g.2).length)),vD (dBs (flg true g part (insG 0 g.2).length))]) []:=by
 have hv:=(prgS_iff.1 hS).1
 have hL:=insG_len hS
 have htb:=totN_bd hv
 refine Fn.code0 Tryz.func80 rfl rfl rfl rfl ?_
 refine .r<|.c .a<|.c .a<|.nn<|.seq ?_
 refine ACode.drawK (by kernel_rfl) (by kernel_rfl) ?_
 refine .c .m<|.c .nP<|.c (.fP 0 1 true)<|.c (.lN 2) ?_
 refine .c (.cP [.tmp 15] rfl rfl rfl rfl (cells_fn hv) rfl) ?_
 refine .c (.mk 117 4 1 1 [.bool false] rfl rfl rfl (by omega) rfl rfl) ?_
 refine .c .m<|.c .nP<|.c (.fP 0 1 true)<|.c (.lN 2) ?_
 refine .c (.cP [.tmp 21] rfl rfl rfl rfl (cells_fn hv) rfl) ?_
 refine .c (.mk 123 4 1 1 [.bool false] rfl rfl rfl (by omega) rfl rfl) ?_
 refine .c .a<|.c .a ?_
 refine .nil ⟨by kernel_rfl,?_⟩
 refine ks_n<|.seq<|.r<|.c .m<|.c .nP<|.c (.fP 2 0 false)<|.c (.l1 1)<|.c (.ln 56 3 40)<|.c .m<|.nn<|.block ?_
 refine .loopK (fun m σ=>(∃i:Nat,m=(insG 0 g.2).length -i∧(i≤(insG 0 g.2).length)∧(True)∧σ=[eP 0 (rT g),eN 1 part,(.t 6,.v (.o (.c (.own 110 1 (totN g.1))))),(.t 7,.v (.o (.c (.own 111 1 (totN g.1))))),eD 27 (dNs (insG 0 g.2)),eN 28 ((insG 0 g.2).length:Nat),eN 29 (i:Nat),(.b 110,.b 4 1 (dR ((flg false g part i).map rB))),eU 110,(.b 111,.b 4 1 (dR ((flg true g part i).map rB))),eU 111])) [(110,117),(111,123)] ⟨0,rfl,by omega,trivial,rfl⟩ ⟨kd,kd,kW,kW,kd,kd,kd,kb 117 rfl (.dt rfl (by first|rfl|exact dR_repB _|(rw[hf1];done))),kb 123 rfl (.dt rfl (by first|rfl|exact dR_repB _|(rw[hf2];done)|(rw[hf2];exact dR_setB _ _ _ _))),trivial⟩ ?_
 rintro m σ ⟨i,hm0,hi,hF,rfl⟩
 refine .r<|.c .ls<|.nn<|.seq ?_
 refine .cD rfl (fun h30=>?_) (fun h30=>?_)
 ·skip
  obtain⟨x,hx1⟩:∃x_,(insG 0 g.2)[i]?=some x_:=⟨_,List.getElem?_eq_getElem (by omega)⟩
  obtain⟨k,c,q,hI⟩:=ins_at hS (List.mem_of_getElem? hx1)
  have hsz:=stI_sz hI
  obtain⟨hur,huw0,huw⟩:=use_in hv hI
  have hul:=usR_len hI
  have hR1:(usRs g)[i]?=some (usR g x):=by rw[usRs,List.getElem?_map,hx1];rfl
  have hW1:(usWs g)[i]?=some (usW g x):=by rw[usWs,List.getElem?_map,hx1];rfl
  have hfr:=flg_next (wr:=false) (part:=part) hx1
  have hfw:=flg_next (wr:=true) (part:=part) hx1
  refine .skip<|ks_n<|.seq<|.block<|.r<|.c .m<|.c (.xL 56 3 40) ?_
  refine .c (.lN 3)<|.c (.al 109 [.int .i64 0,.int .i64 0,.slice none 0 0])<|.c .a<|.c (.sT 3 true)<|.nn<|.seq<|.r<|.c (.fB 0 0 false)<|.c (.b1 1)<|.c .m<|.c .ne<|.nn ?_
  refine .cND rfl (fun h37=>?_) (fun h37=>?_)
  ·skip
   have hne:¬x.1=part:=by omega
   have hf1:flg false g part (i+1)=flg false g part i:=by rw[hfr,step_no hne]
   have hf2:flg true g part (i+1)=flg true g part i:=by rw[hfw,step_no hne]
   refine .exit<|ks_e<|kb_hit<|ks_n<|.region<|.c .pl<|.c .m<|.nil ?_
   refine kl_k [(110,110),(111,111)] ⟨i+1,rfl,by omega,trivial,rfl⟩ ⟨kd,kd,kW,kW,kd,kd,kd,kb 110 rfl (.dt rfl (by first|rfl|exact dR_repB _|(rw[hf1];done))),kb 111 rfl (.dt rfl (by first|rfl|exact dR_repB _|(rw[hf2];done)|(rw[hf2];exact dR_setB _ _ _ _))),trivial⟩
  ·skip
   have heq:x.1=part:=by omega
   have hf1:flg false g part (i+1)=setB (flg false g part i) (usR g x):=by rw[hfr,step_r heq]
   have hf2:flg true g part (i+1)=(flg true g part i).set (usW g x).toNat true:=by rw[hfw,step_w heq]
   obtain⟨bw,hbw⟩:∃b,(flg true g part i)[(usW g x).toNat]?=some b:=⟨_,List.getElem?_eq_getElem (by rw[flg_len];omega)⟩
   refine .skip<|ks_n<|.seq<|.r<|.c .m<|.c .nP<|.c (.fP 3 0 false)<|.c (.l1 1)<|.c .m ?_
   refine .c (.xL 43 1 24 rfl rfl rfl rfl rfl (map_at hR1)) ?_
   refine .c (.l1 1)<|.c (.ln 3 1 8)<|.c .m<|.nn<|.block ?_
   refine .loopK (fun m σ=>(∃j:Nat,m=(usR g x).length -j∧(j≤(usR g x).length)∧(True)∧σ=[eP 0 (rT g),eN 1 part,(.t 6,.v (.o (.c (.own 120 1 (totN g.1))))),(.t 7,.v (.o (.c (.own 121 1 (totN g.1))))),eN 8 (i:Nat),eP 9 (rN x),eD 27 (dNs (insG 0 g.2)),eN 28 ((insG 0 g.2).length:Nat),eN 29 (i:Nat),eD 44 (dIs (usR g x)),eN 45 ((usR g x).length:Nat),eN 46 (j:Nat),(.b 120,.b 4 1 (dR ((setB (flg false g part i) ((usR g x).take j)).map rB))),eU 120,(.b 121,.b 4 1 (dR ((flg true g part i).map rB))),eU 121])) [(120,110),(121,111)] ⟨0,rfl,by omega,trivial,rfl⟩ ⟨kd,kd,kW,kW,kd,ks rfl (.c (.frzP _ _ _ _ _ _ _ _ rfl (show _=dR [rN x]from rfl) rfl rfl rfl)),kd,kd,kd,kd,kd,kd,kb 110 rfl (.dt rfl (by first|rfl|(rw[setB_take hn1];exact dR_setB _ _ _ _))),kb 111 rfl (.dt rfl rfl),trivial⟩ ?_
   rintro m σ ⟨j,hm0,hj,hG,rfl⟩
   refine .r<|.c .ls<|.nn<|.seq ?_
   refine .cD rfl (fun h47=>?_) (fun h47=>?_)
   ·skip
    obtain⟨n,hn1⟩:∃x_,(usR g x)[j]?=some x_:=⟨_,List.getElem?_eq_getElem (by omega)⟩
    have hnb:=hur n (List.mem_of_getElem? hn1)
    obtain⟨b0,hb0⟩:∃b,(setB (flg false g part i) ((usR g x).take j))[n.toNat]?=some b:=⟨_,List.getElem?_eq_getElem (by rw[setB_len,flg_len];omega)⟩
    refine .skip<|ks_n<|.seq<|.block<|.r<|.c (.xL 3 1 8) ?_
    refine .c (.l1 1)<|.c .a<|.nn<|.region<|.c .m<|.c .m ?_
    refine .c (.xB 4 1 1 (i:=n.toNat) rfl rfl rfl rfl rfl (by omega) (by omega)) ?_
    refine .c (.sT 1 false rfl rfl rfl rfl (dR_at (map_at hb0)) rfl rfl)<|.nil<|kb_n<|ks_n<|.region<|.c .pl<|.c .m<|.nil ?_
    refine kl_k [(120,120),(121,121)] ⟨j+1,rfl,by omega,trivial,rfl⟩ ⟨kd,kd,kW,kW,kd,kd,kd,kd,kd,kd,kd,kd,kb 120 rfl (.dt rfl (by first|rfl|(rw[setB_take hn1];exact dR_setB _ _ _ _))),kb 121 rfl (.dt rfl rfl),trivial⟩
   ·skip
    obtain rfl:j=(usR g x).length:=by omega
    rw[List.take_length]
    refine .exit<|ks_e<|kl_e<|kb_hit<|ks_n<|.region<|.c .m<|.c .m<|.c .nP<|.c (.fP 4 0 false)<|.c (.l1 1)<|.c .m ?_
    refine .c (.xL 3 1 8 rfl rfl rfl rfl rfl (map_at hW1)) ?_
    refine .c (.l1 1) ?_
    refine .c (.xB 4 1 1 (i:=(usW g x).toNat) rfl rfl rfl rfl rfl (by omega) (by omega)) ?_
    refine .c (.sT 1 false rfl rfl rfl rfl (dR_at (map_at hbw)) rfl rfl)<|.nil<|kb_n<|ks_n<|.region<|.c .pl<|.c .m<|.nil ?_
    refine kl_k [(110,120),(111,121)] ⟨i+1,rfl,by omega,trivial,rfl⟩ ⟨kd,kd,kW,kW,kd,kd,kd,kb 120 rfl (.dt rfl (by first|rfl|exact dR_repB _|(rw[hf1];done))),kb 121 rfl (.dt rfl (by first|rfl|exact dR_repB _|(rw[hf2];done)|(rw[hf2];exact dR_setB _ _ _ _))),trivial⟩
 ·skip
  obtain rfl:i=(insG 0 g.2).length:=by omega
  refine .exit<|ks_e<|kl_e<|kb_hit<|ks_n<|.r<|.c .m<|.c .m<|.c .a<|.c .a<|.nn<|.ret ?_
  refine kf_wret [eD 4 (dBs (flg false g part (insG 0 g.2).length)),eD 5 (dBs (flg true g part (insG 0 g.2).length))] (Wk.keep [] rfl rfl ⟨ks rfl (.c (.fz rfl rfl (by rw[List.length_map,flg_len]) (by omega))),ks rfl (.c (.fz rfl rfl (by rw[List.length_map,flg_len]) (by omega))),trivial⟩) rfl ?_ nobox
  rfl
theorem any_no {α:Type} {l:List α} {p:α→Bool} (h:∀(j:Nat) m,j<l.length→l[j]?=some m→p m=false):l.any p=false:=by
  rw[Bool.eq_false_iff]
  intro h2
  obtain⟨m,hm,h3⟩:=List.any_eq_true.1 h2
  obtain⟨j,hj⟩:=List.mem_iff_getElem?.1 hm
  rw[h j m (List.getElem?_eq_some_iff.1 hj).1 hj]at h3;cases h3
theorem any_yes {α:Type} {l:List α} {p:α→Bool} {j:Nat} {m:α} (h:l[j]?=some m) (h2:p m=true):l.any p=true:=List.any_eq_true.2 ⟨m,List.mem_of_getElem? h,h2⟩
theorem l11Flags_fn {g:Prg} (hs:szG g≤1073741824) (hS:prgS g=true) (part:Int) (wr:Bool) (hFl:∀l:List Bool,l.length≤1000000→Fn Tryz.prog 83 [] [vD (dBs l)] (.o (vD (dIs (flagV l)))) []):Fn Tryz.prog 78 [] [ad (rG g),nat1 part,bo1 wr] (.o (vD (dIs (flagV (flg wr g part (insG 0 g.2).length))))) []:=by
 have hv:=(prgS_iff.1 hS).1
 have hL:=insG_len hS
 have htb:=totN_bd hv
 refine Fn.code0 Tryz.func78 rfl rfl rfl rfl ?_
 refine .r<|.c .bp<|.c .a<|.r<|.c (.lN 2) ?_
 refine .c (.cP [.tmp 12] rfl rfl rfl rfl (l4Total_fn hv) rfl) ?_
 refine .c (.mk 114 4 1 1 [.bool false] rfl rfl rfl (by omega) rfl rfl) ?_
 refine .c .a<|.r<|.c (.lN 2) ?_
 refine .c (.cP [.tmp 15] rfl rfl rfl rfl (l4Instances_fn hS) rfl) ?_
 refine .c .a<|.r<|.c (.lN 2) ?_
 refine .c (.cP [.tmp 17] rfl rfl rfl rfl (l6Uses_fn hs hS) rfl) ?_
 refine .c .a<|.nn<|.seq<|.r<|.c .a<|.nn<|.block ?_
 refine .loopK (fun m σ=>(∃i:Nat,m=(insG 0 g.2).length -i∧(i≤(insG 0 g.2).length)∧(True)∧σ=[eN 1 part,eT 2 wr,eP 3 (rG g),(.t 7,.v (.o (.c (.own 110 1 (totN g.1))))),eD 8 (dNs (insG 0 g.2)),eD 9 (dUs (usL g)),eN 10 (i:Nat),(.b 110,.b 4 1 (dR ((flg wr g part i).map rB))),eU 110])) [(110,114)] ⟨0,rfl,by omega,trivial,rfl⟩ ⟨kd,kd,kd,kW,kd,kd,kd,kb 114 rfl (.dt rfl (by first|rfl|exact dR_repB _|(rw[hf];done)|(rw[hf];exact dR_setB _ _ _ _))),trivial⟩ ?_
 rintro m σ ⟨i,hm0,hi,hF,rfl⟩
 refine .seq<|.r<|.c .m<|.c .m<|.c (.ln 56 3 40)<|.c .ls<|.nn ?_
 refine .cD rfl (fun h22=>?_) (fun h22=>?_)
 ·skip
  obtain⟨x,hx1⟩:∃x_,(insG 0 g.2)[i]?=some x_:=⟨_,List.getElem?_eq_getElem (by omega)⟩
  obtain⟨k,c,q,hI⟩:=ins_at hS (List.mem_of_getElem? hx1)
  have hsz:=stI_sz hI
  obtain⟨hur,huw0,huw⟩:=use_in hv hI
  have hul:=usR_len hI
  have hU1:(usL g)[i]?=some (usG g x):=by rw[usL,List.getElem?_map,hx1];rfl
  have hfr:=flg_next (wr:=wr) (part:=part) hx1
  refine .skip<|ks_n<|.seq<|.block<|.seq<|.r<|.c .m<|.c .m<|.c (.xL 56 3 40) ?_
  refine .c (.fP 0 0 false)<|.c (.l1 1)<|.c .m<|.c .ne<|.nn ?_
  refine .cND rfl (fun h31=>?_) (fun h31=>?_)
  ·skip
   have hne:¬x.1=part:=by omega
   have hf:flg wr g part (i+1)=flg wr g part i:=by rw[hfr,step_no hne]
   refine .exit<|ks_e<|kb_hit<|ks_n<|.region<|.c .m<|.c .pl<|.c .a<|.nil ?_
   refine kl_k [(110,110)] ⟨i+1,rfl,by omega,trivial,rfl⟩ ⟨kd,kd,kd,kW,kd,kd,kd,kb 110 rfl (.dt rfl (by first|rfl|exact dR_repB _|(rw[hf];done)|(rw[hf];exact dR_setB _ _ _ _))),trivial⟩
  ·skip
   have heq:x.1=part:=by omega
   refine .skip<|ks_n<|.seq<|.r<|.c .m<|.nn ?_
   refine ACode.condT rfl (fun h32=>?_) (fun h32=>?_)
   ·try simp only[zs]at h32
    have hf:flg wr g part (i+1)=(flg wr g part i).set (usW g x).toNat true:=by rw[hfr,stepF,if_pos heq,if_pos h32]
    obtain⟨bw,hbw⟩:∃b,(flg wr g part i)[(usW g x).toNat]?=some b:=⟨_,List.getElem?_eq_getElem (by rw[flg_len];omega)⟩
    refine .r<|.c .m<|.c .m<|.c .m ?_
    refine .c (.xL 134 2 32 rfl rfl rfl rfl rfl (map_at hU1)) ?_
    refine .c (.fP 1 0 false)<|.c (.l1 1) ?_
    refine .c (.xB 4 1 1 (i:=(usW g x).toNat) rfl rfl rfl rfl rfl (by first|omega|(show usW g x=_;omega)) (by omega)) ?_
    refine .c (.sT 1 false rfl rfl rfl rfl (dR_at (map_at hbw)) rfl rfl)<|.nn<|.exit<|ks_e<|kb_hit<|ks_n<|.region<|.c .m<|.c .pl<|.c .a<|.nil ?_
    refine kl_k [(110,110)] ⟨i+1,rfl,by omega,trivial,rfl⟩ ⟨kd,kd,kd,kW,kd,kd,kd,kb 110 rfl (.dt rfl (by first|rfl|exact dR_repB _|(rw[hf];done)|(rw[hf];exact dR_setB _ _ _ _))),trivial⟩
   ·try simp only[zs]at h32
    have hf:flg wr g part (i+1)=setB (flg wr g part i) (usR g x):=by rw[hfr,stepF,if_pos heq,if_neg (by rw[h32];simp)]
    refine .skip<|ks_n<|.r<|.c .a<|.nn<|.block ?_
    refine .loopK (fun m σ=>(∃j:Nat,m=(usR g x).length -j∧(j≤(usR g x).length)∧(True)∧σ=[eN 1 part,eT 2 wr,eP 3 (rG g),(.t 7,.v (.o (.c (.own 120 1 (totN g.1))))),eD 8 (dNs (insG 0 g.2)),eD 9 (dUs (usL g)),eN 10 (i:Nat),eN 11 (j:Nat),(.b 120,.b 4 1 (dR ((setB (flg wr g part i) ((usR g x).take j)).map rB))),eU 120])) [(120,110)] ⟨0,rfl,by omega,trivial,rfl⟩ ⟨kd,kd,kd,kW,kd,kd,kd,kd,kb 110 rfl (.dt rfl (by first|rfl|(rw[setB_take hn1];exact dR_setB _ _ _ _))),trivial⟩ ?_
    rintro m σ ⟨j,hm0,hj,hG,rfl⟩
    refine .seq<|.r<|.c .m<|.c .m<|.c .m ?_
    refine .c (.xL 134 2 32 rfl rfl rfl rfl rfl (map_at hU1)) ?_
    refine .c (.fP 0 0 false)<|.c (.l1 1)<|.c (.ln 3 1 8)<|.c .ls<|.nn ?_
    refine .cD rfl (fun h47=>?_) (fun h47=>?_)
    ·skip
     replace h47:(j:Int)<((usR g x).length:Nat):=h47
     obtain⟨n,hn1⟩:∃x_,(usR g x)[j]?=some x_:=⟨_,List.getElem?_eq_getElem (by omega)⟩
     have hnb:=hur n (List.mem_of_getElem? hn1)
     obtain⟨b0,hb0⟩:∃b,(setB (flg wr g part i) ((usR g x).take j))[n.toNat]?=some b:=⟨_,List.getElem?_eq_getElem (by rw[setB_len,flg_len];omega)⟩
     refine .skip<|ks_n<|.seq<|.block<|.region<|.c .m<|.c .m<|.c .m ?_
     refine .c (.xL 134 2 32 rfl rfl rfl rfl rfl (map_at hU1)) ?_
     refine .c (.fP 0 0 false)<|.c (.l1 1)<|.c .m<|.c (.xL 3 1 8) ?_
     refine .c (.l1 1) ?_
     refine .c (.xB 4 1 1 (i:=n.toNat) rfl rfl rfl rfl rfl (by omega) (by omega)) ?_
     refine .c (.sT 1 false rfl rfl rfl rfl (dR_at (map_at hb0)) rfl rfl)<|.nil<|kb_n<|ks_n<|.region<|.c .m<|.c .pl<|.c .a<|.nil ?_
     refine kl_k [(120,120)] ⟨j+1,rfl,by omega,trivial,rfl⟩ ⟨kd,kd,kd,kW,kd,kd,kd,kd,kb 120 rfl (.dt rfl (by first|rfl|(rw[setB_take hn1];exact dR_setB _ _ _ _))),trivial⟩
    ·skip
     replace h47:¬(j:Int)<((usR g x).length:Nat):=h47
     obtain rfl:j=(usR g x).length:=by omega
     rw[List.take_length]
     refine .exit<|ks_e<|kl_e<|kb_hit<|kb_n<|ks_n<|.region<|.c .m<|.c .pl<|.c .a<|.nil ?_
     refine kl_k [(110,120)] ⟨i+1,rfl,by omega,trivial,rfl⟩ ⟨kd,kd,kd,kW,kd,kd,kd,kb 120 rfl (.dt rfl (by first|rfl|exact dR_repB _|(rw[hf];done)|(rw[hf];exact dR_setB _ _ _ _))),trivial⟩
 ·skip
  obtain rfl:i=(insG 0 g.2).length:=by omega
  refine .exit<|ks_e<|kl_e<|kb_hit<|ks_n<|.seq ?_
  refine .keep [eD 7 (dBs (flg wr g part (insG 0 g.2).length))] [] ⟨ks rfl (.c (.fz rfl rfl (by rw[List.length_map,flg_len]) (by omega))),trivial⟩ ?_
  refine .region<|.c .m ?_
  refine .c (.cP [.tmp 60] rfl rfl rfl rfl (hFl _ (by rw[flg_len];omega)) rfl) ?_
  refine .c .a<|.nn<|.ret ?_
  refine kf_ret rfl ?_ nobox
  rfl
theorem l5Flagged_fn (l:List Bool) (hl:l.length≤1000000):Fn Tryz.prog 83 [] [vD (dBs l)] (.o (vD (dIs (flagV l)))) []:=by
 refine Fn.code0 Tryz.func83 rfl rfl rfl rfl ?_
 refine .r<|.c .a<|.r ?_
 refine .c (St1.lit0 (k':=105) (e:=3) (sz:=1) (b:=true) rfl rfl rfl rfl (by kernel_rfl) rfl rfl) ?_
 refine .c .a<|.nn<|.seq<|.r<|.c .a<|.nn<|.block ?_
 refine .loopK (fun m σ=>(∃(i:Nat) (o:List Int),m=l.length -i∧(i≤l.length)∧(flagN l i=o)∧(o.length≤i)∧σ=[eD 0 (dBs l),(.t 3,.v (.o (.c (.own 110 1 (o.length))))),eN 4 (i:Nat),(.b 110,.b 3 1 (dR (o.map rI))),eU 110])) [(110,105)] ⟨0,[],rfl,by omega,rfl,by simp,rfl⟩ ⟨kd,kW,kd,kb 105 rfl (.dt rfl (by first|rfl|(simp[dR,rI,dI];done)|(simp[dR,rI];done)|(simp[dR];rfl))),trivial⟩ ?_
 rintro m σ ⟨i,o,hm0,hi,hE,ho,rfl⟩
 refine .seq<|.r<|.c .m<|.c .m<|.c (.ln 4 1 1)<|.c .ls<|.nn ?_
 refine .cD rfl (fun h9=>?_) (fun h9=>?_)
 ·skip
  obtain⟨b,hb1⟩:∃x_,l[i]?=some x_:=⟨_,List.getElem?_eq_getElem (by omega)⟩
  refine .skip<|ks_n<|.seq<|.block<|.r<|.c .m<|.c .m ?_
  refine .c (.xL 4 1 1 rfl rfl rfl rfl rfl (map_at hb1)) ?_
  refine .c (.l1 1)<|.nn ?_
  refine ACode.condT rfl (fun h15=>?_) (fun h15=>?_)
  ·try simp only[zs]at h15
   refine .region<|.c .m<|.c .m<|.c (.li 3 0 0 [.tmp 17]) ?_
   refine .c (St1.appB (k':=119) (e:=3) (sz:=0) (by':=8) rfl rfl rfl rfl rfl (by kernel_rfl) rfl rfl rfl rfl (by first|(simp[dR];done)|(simp[dR];omega)) (by first|(simp[dR];done)|(simp[dR];omega)) rfl rfl rfl) ?_
   refine .c .a<|.nil<|kb_n<|ks_n<|.region<|.c .m<|.c .pl<|.c .a<|.nil ?_
   refine kl_k [(110,119)] ⟨i+1,o++[(i:Int)],rfl,by omega,by rw[flagN_next hb1,if_pos h15,hE],by rw[List.length_append,List.length_singleton];omega,rfl⟩ ⟨kd,kW,kd,kb 119 rfl (.dt rfl (by first|rfl|(simp[dR,rI,dI];done)|(simp[dR,rI];done)|(simp[dR];rfl))),trivial⟩
  ·try simp only[zs]at h15
   refine .skip<|kb_n<|ks_n<|.region<|.c .m<|.c .pl<|.c .a<|.nil ?_
   refine kl_k [(110,110)] ⟨i+1,o,rfl,by omega,by rw[flagN_next hb1,if_neg (by rw[h15];simp),hE],by omega,rfl⟩ ⟨kd,kW,kd,kb 110 rfl (.dt rfl (by first|rfl|(simp[dR,rI,dI];done)|(simp[dR,rI];done)|(simp[dR];rfl))),trivial⟩
 ·skip
  obtain rfl:i=l.length:=by omega
  refine .exit<|ks_e<|kl_e<|kb_hit<|ks_n<|.r<|.c .m<|.c .a<|.nn<|.ret ?_
  refine kf_wret [eD 2 (dIs (flagV l))] (Wk.keep [] rfl rfl ⟨ks rfl (.c (.fz rfl (by rw[flagV,hE]) (by rw[flagV,hE,List.length_map]) (by omega))),trivial⟩) rfl ?_ nobox
  rfl
theorem l11Cells_fn {g:Prg} (hs:szG g≤1073741824) (hS:prgS g=true) (part:Int) (wr:Bool):Fn Tryz.prog 78 [] [ad (rG g),nat1 part,bo1 wr] (.o (vD (dIs (flagV (flg wr g part (insG 0 g.2).length))))) []:=l11Flags_fn hs hS part wr l5Flagged_fn
theorem l6Has_fn (l:List Int) (n:Int) (hl:l.length≤1099511627776):Fn Tryz.prog 124 [] [vD (dIs l),nat1 n] (.o (bo1 (hasV l n))) []:=by
  refine Fn.code0 Tryz.func124 rfl rfl rfl rfl ?_
  refine .r<|.c .a<|.nn<|.seq<|.r<|.c .a<|.nn<|.block ?_
  refine .loopK (fun m σ=>(∃i:Nat,m=l.length -i∧(i≤l.length)∧(∀j m,j<i→l[j]?=some m→decide (m=n)=false)∧σ=[eD 0 (dIs l),eN 1 n,eT 4 false,eN 5 (i:Nat)])) [] ⟨0,rfl,by omega,fun j m hj _=>absurd hj (by omega),rfl⟩ ⟨kd,kd,kd,kd,trivial⟩ ?_
  rintro m σ ⟨i,hm0,hi,hF,rfl⟩
  refine .seq<|.r<|.c .m<|.c .m<|.c (.ln 3 1 8)<|.c .ls<|.nn ?_
  refine .cD rfl (fun h9=>?_) (fun h9=>?_)
  · skip
    obtain⟨x,hx1⟩:∃x_,l[i]?=some x_:=⟨_,List.getElem?_eq_getElem (by omega)⟩
    refine .skip<|ks_n<|.seq<|.block<|.r<|.c .m<|.c .m<|.c (.xL 3 1 8) ?_
    refine .c (.l1 1)<|.c .m<|.c .eq<|.nn ?_
    refine .cD rfl (fun h17=>?_) (fun h17=>?_)
    · skip
      refine .r<|.c .a<|.nn<|.ret<|kb_r<|ks_r<|kl_r<|kb_r<|ks_r ?_
      refine kf_ret rfl ?_ nobox
      exact leafB (any_yes hx1 (decide_eq_true (by omega))).symm
    · skip
      refine .skip<|kb_n<|ks_n<|.region<|.c .m<|.c .pl<|.c .a<|.nil ?_
      refine kl_k [] ⟨i+1,rfl,by omega,fun j m hj hm=>(Nat.lt_succ_iff_lt_or_eq.1 hj).elim (fun h=>hF j m h hm) (fun h=>by subst h;rw[hx1]at hm;cases hm;exact decide_eq_false (by omega)),rfl⟩ ⟨kd,kd,kd,kd,trivial⟩
  · skip
    refine .exit<|ks_e<|kl_e<|kb_hit<|ks_n<|.r<|.c .a<|.nn<|.ret ?_
    refine kf_ret rfl ?_ nobox
    exact leafB (any_no fun j m hj hm=>hF j m (by omega) hm).symm
theorem l11Meet_fn (a b:List Int) (ha:a.length≤1099511627776) (hb:b.length≤1099511627776):Fn Tryz.prog 79 [] [vD (dIs a),vD (dIs b)] (.o (bo1 (meetV a b))) []:=by
 refine Fn.code0 Tryz.func79 rfl rfl rfl rfl ?_
 refine .r<|.c .a<|.nn<|.seq<|.r<|.c .a<|.nn<|.block ?_
 refine .loopK (fun m σ=>(∃i:Nat,m=a.length -i∧(i≤a.length)∧(∀j m,j<i→a[j]?=some m→hasV b m=false)∧σ=[eD 0 (dIs a),eD 1 (dIs b),eT 4 false,eN 5 (i:Nat)])) [] ⟨0,rfl,by omega,fun j m hj _=>absurd hj (by omega),rfl⟩ ⟨kd,kd,kd,kd,trivial⟩ ?_
 rintro m σ ⟨i,hm0,hi,hF,rfl⟩
 refine .seq<|.r<|.c .m<|.c .m<|.c (.ln 3 1 8)<|.c .ls<|.nn ?_
 refine .cD rfl (fun h9=>?_) (fun h9=>?_)
 ·skip
  obtain⟨x,hx1⟩:∃x_,a[i]?=some x_:=⟨_,List.getElem?_eq_getElem (by omega)⟩
  refine .skip<|ks_n<|.seq<|.block<|.r<|.c .m<|.c .m<|.c .m<|.c (.xL 3 1 8) ?_
  refine .c (.l1 1) ?_
  refine .c (.cP [.tmp 12,.tmp 16] rfl rfl rfl rfl (l6Has_fn b x hb) rfl) ?_
  refine .nn ?_
  refine ACode.condT rfl (fun h17=>?_) (fun h17=>?_)
  ·try simp only[zs]at h17
   refine .r<|.c .a<|.nn<|.ret<|kb_r<|ks_r<|kl_r<|kb_r<|ks_r ?_
   refine kf_ret rfl ?_ nobox
   exact leafB (any_yes hx1 h17).symm
  ·try simp only[zs]at h17
   refine .skip<|kb_n<|ks_n<|.region<|.c .m<|.c .pl<|.c .a<|.nil ?_
   refine kl_k [] ⟨i+1,rfl,by omega,fun j m hj hm=>(Nat.lt_succ_iff_lt_or_eq.1 hj).elim (fun h=>hF j m h hm) (fun h=>by subst h;rw[hx1]at hm;cases hm;exact h17),rfl⟩ ⟨kd,kd,kd,kd,trivial⟩
 ·skip
  refine .exit<|ks_e<|kl_e<|kb_hit<|ks_n<|.r<|.c .a<|.nn<|.ret ?_
  refine kf_ret rfl ?_ nobox
  exact leafB (any_no fun j m hj hm=>hF j m (by omega) hm).symm
theorem isPart_fn {g:Prg} (hl:g.2.length≤1099511627776) (n:Int):Fn Tryz.prog 44 [] [ad (rG g),nat1 n] (.o (bo1 (inB n 0 ((g.2.length:Nat) -1)))) []:=by
  refine Fn.code0 Tryz.func44 rfl rfl rfl rfl ?_
  refine .r<|.c .bp<|.c .a<|.r<|.c .m<|.c (.fP 1 0 false)<|.c (.l1 1)<|.c (.ln 80 2 48)<|.c .sb ?_
  refine .c (.cP [.tmp 5,.const (.int .i64 (0)),.tmp 9] rfl rfl rfl rfl (within_fn _ 0 _) rfl) ?_
  refine .c .a<|.nn<|.ret ?_
  refine kf_ret rfl ?_ nobox
  rfl
theorem flag_len {wr:Bool} {g:Prg} {part:Int} {n:Nat} (h:arrsV g.1=true):(flagV (flg wr g part n)).length≤144:=by
  have h1:=flagN_len (l:=flg wr g part n) (n:=(flg wr g part n).length)
  rw[flg_len]at h1
  have h2:=totN_bd h
  rw[flagV,flg_len];omega
theorem ind_no {g:Prg} {a b:Int} (h:¬(prgV g=true∧inB a 0 ((g.2.length:Nat) -1)=true∧inB b 0 ((g.2.length:Nat) -1)=true∧¬a=b)):indV g a b=false:=by
  rw[Bool.eq_false_iff]
  intro h2
  rw[indV,Bool.and_eq_true,Bool.and_eq_true,Bool.and_eq_true,Bool.and_eq_true]at h2
  exact h ⟨h2.1,h2.2.1,h2.2.2.1,by simpa using h2.2.2.2.1⟩
theorem ind_yes {g:Prg} {a b:Int} (h1:prgV g=true) (h2:inB a 0 ((g.2.length:Nat) -1)=true) (h3:inB b 0 ((g.2.length:Nat) -1)=true) (h4:¬a=b):indV g a b= !clashV g a b:=by
  rw[indV,h1,h2,h3,decide_eq_false h4];rfl
theorem implInd_no {g:Prg} (hs:szG g≤1073741824) (a b:Int) (hV:prgV g=false):Fn Tryz.prog 40 [] [ad (rG g),nat1 a,nat1 b] (.o (bo1 (indV g a b))) []:=by
 refine Fn.code0 Tryz.func40 rfl rfl rfl rfl ?_
 refine .r<|.c .bp<|.c .a<|.r<|.c (.lN 2) ?_
 refine .c (.cP [.tmp 15] rfl rfl rfl rfl (trace_no hs hV) rfl) ?_
 refine .c .m<|.c .ex<|.c .ex<|.c .a<|.c .a<|.nn<|.seq<|.r<|.c .m<|.c .nt<|.c .m ?_
 refine AOps.cases 21 _ rfl (fun g21=>?_) (fun g21=>?_)
 ·try simp only[zs]at g21
  refine .c .f<|.c .f<|.c .f<|.c .f<|.c .pT<|.c .m<|.c .f<|.c .f<|.c .f<|.c .f<|.c .pT<|.c .m<|.c .f<|.c .f<|.c .f<|.c .pT<|.nn ?_
  refine .k1 ?_
  refine .r<|.c .a<|.nn<|.ret<|ks_r ?_
  refine kf_ret rfl ?_ nobox
  exact leafB (ind_no fun h=>by rw[hV]at h;cases h.1).symm
 ·try simp only[zs]at g21
  cases g21
theorem implInd_yes {g:Prg} (hs:szG g≤1073741824) (a b:Int) (hV:prgV g=true):Fn Tryz.prog 40 [] [ad (rG g),nat1 a,nat1 b] (.o (bo1 (indV g a b))) []:=by
 obtain⟨hS,hN,hL⟩:=prgV_s hV
 have h4:=(prgS_iff.1 hS).2.1
 have hfl:∀wr p n,(flg wr g p n).length=totN g.1:=fun _ _ _=>flg_len
 have htb:=totN_bd (prgS_iff.1 hS).1
 refine Fn.code0 Tryz.func40 rfl rfl rfl rfl ?_
 refine .r<|.c .bp<|.c .a<|.r<|.c (.lN 2) ?_
 refine .c (.cP [.tmp 15] rfl rfl rfl rfl (trace_fn hs hV) rfl) ?_
 refine .c .m<|.c .ex<|.c .ex<|.c .a<|.c .a<|.nn<|.seq<|.r<|.c .m<|.c .nt<|.c .m ?_
 refine AOps.cases 21 _ rfl (fun g21=>?_) (fun g21=>?_)
 ·try simp only[zs]at g21
  cases g21
 ·try simp only[zs]at g21
  refine .c (.g (.lN 2))<|.c (.g .m) ?_
  refine .c (.gT rfl rfl rfl (.cP [.tmp 22,.tmp 23] rfl rfl rfl rfl (isPart_fn (by omega) a) rfl)) ?_
  refine .c (.g .nt)<|.c .pF<|.c .m ?_
  refine AOps.cases 27 _ rfl (fun g27=>?_) (fun g27=>?_)
  ·try simp only[zs]at g27
   refine .c .f<|.c .f<|.c .f<|.c .f<|.c .pT<|.c .m<|.c .f<|.c .f<|.c .f<|.c .pT<|.nn ?_
   refine .k1 ?_
   refine .r<|.c .a<|.nn<|.ret<|ks_r ?_
   refine kf_ret rfl ?_ nobox
   exact leafB (ind_no fun h=>by simp_all).symm
  ·try simp only[zs]at g27
   refine .c (.g (.lN 2))<|.c (.g .m) ?_
   refine .c (.gT rfl rfl rfl (.cP [.tmp 28,.tmp 29] rfl rfl rfl rfl (isPart_fn (by omega) b) rfl)) ?_
   refine .c (.g .nt)<|.c .pF<|.c .m ?_
   refine AOps.cases 33 _ rfl (fun g33=>?_) (fun g33=>?_)
   ·try simp only[zs]at g33
    refine .c .f<|.c .f<|.c .f<|.c .pT<|.nn ?_
    refine .k1 ?_
    refine .r<|.c .a<|.nn<|.ret<|ks_r ?_
    refine kf_ret rfl ?_ nobox
    exact leafB (ind_no fun h=>by simp_all).symm
   ·try simp only[zs]at g33
    refine .c (.g .m)<|.c (.g .m)<|.c (.g .eq)<|.c .pF<|.nn ?_
    refine ACode.condT rfl (fun h37=>?_) (fun h37=>?_)
    ·try simp only[zs]at h37
     refine .r<|.c .a<|.nn<|.ret<|ks_r ?_
     refine kf_ret rfl ?_ nobox
     exact leafB (ind_no fun h=>by simp_all).symm
    ·try simp only[zs]at h37
     have hne:¬a=b:=by omega
     have hpa:inB a 0 ((g.2.length:Nat) -1)=true:=by simp_all
     have hpb:inB b 0 ((g.2.length:Nat) -1)=true:=by simp_all
     refine .skip<|ks_n<|.r<|.c .m<|.c .m ?_
     refine .c (.cP [.tmp 39,.tmp 40] rfl rfl rfl rfl (cellsOf_fn hS a) rfl) ?_
     refine .c .m<|.c .ex<|.c .ex<|.c .a<|.c .a<|.r<|.c .m<|.c .m ?_
     refine .c (.cP [.tmp 45,.tmp 46] rfl rfl rfl rfl (cellsOf_fn hS b) rfl) ?_
     refine .c .m<|.c .ex<|.c .ex<|.c .a<|.c .a<|.nn<|.seq<|.r<|.c .m<|.c (.ln 4 1 1)<|.c .m<|.nn<|.block ?_
     refine .loopK (fun m σ=>(∃i:Nat,m=totN g.1 -i∧(i≤totN g.1)∧(∀j,j<i→clashC (flg false g a (insG 0 g.2).length) (flg true g a (insG 0 g.2).length) (flg false g b (insG 0 g.2).length) (flg true g b (insG 0 g.2).length) j=false)∧σ=[eT 6 false,eD 9 (dBs (flg false g a (insG 0 g.2).length)),eD 10 (dBs (flg true g a (insG 0 g.2).length)),eD 11 (dBs (flg false g b (insG 0 g.2).length)),eD 12 (dBs (flg true g b (insG 0 g.2).length)),eN 51 ((flg false g a (insG 0 g.2).length).length:Nat),eN 52 (i:Nat)])) [] ⟨0,rfl,by omega,fun j hj=>absurd hj (by omega),rfl⟩ ⟨kd,kd,kd,kd,kd,kd,kd,trivial⟩ ?_
     rintro m σ ⟨i,hm0,hi,hF,rfl⟩
     refine .r<|.c .ls<|.nn<|.seq ?_
     refine .cD rfl (fun h53=>?_) (fun h53=>?_)
     ·skip
      rw[hfl]at h53
      obtain⟨ra,hra⟩:∃z,(flg false g a (insG 0 g.2).length)[i]?=some z:=⟨_,List.getElem?_eq_getElem (by rw[flg_len];omega)⟩
      obtain⟨wa,hwa⟩:∃z,(flg true g a (insG 0 g.2).length)[i]?=some z:=⟨_,List.getElem?_eq_getElem (by rw[flg_len];omega)⟩
      obtain⟨rb,hrb⟩:∃z,(flg false g b (insG 0 g.2).length)[i]?=some z:=⟨_,List.getElem?_eq_getElem (by rw[flg_len];omega)⟩
      obtain⟨wb,hwb⟩:∃z,(flg true g b (insG 0 g.2).length)[i]?=some z:=⟨_,List.getElem?_eq_getElem (by rw[flg_len];omega)⟩
      have hcl:clashC (flg false g a (insG 0 g.2).length) (flg true g a (insG 0 g.2).length) (flg false g b (insG 0 g.2).length) (flg true g b (insG 0 g.2).length) i=((wa&&(rb||wb))||(wb&&ra)):=by simp only[clashC,List.getD,hra,hwa,hrb,hwb,Option.getD_some]
      refine .skip<|ks_n<|.seq<|.block<|.r<|.c .m<|.c .a<|.r<|.c .m<|.c .m ?_
      refine .c (.xL 4 1 1 rfl rfl rfl rfl rfl (map_at hwa)) ?_
      refine .c (.l1 1)<|.c .m ?_
      refine AOps.cases 59 _ rfl (fun g59=>?_) (fun g59=>?_)
      ·try simp only[zs]at g59
       refine .c (.g .m)<|.c (.g .m) ?_
       refine .c (.gT rfl rfl rfl (.xL 4 1 1 rfl rfl rfl rfl rfl (map_at hrb))) ?_
       refine .c (.g (.l1 1))<|.c (.g .m) ?_
       refine AOps.cases 64 _ rfl (fun g64=>?_) (fun g64=>?_)
       ·try simp only[zs]at g64
        refine .c .f<|.c .f<|.c .f<|.c .f<|.c (.g .pT)<|.c .pT<|.c .m<|.c .f<|.c .f<|.c .f<|.c .f<|.c .f<|.c .gU<|.c .gU<|.c .gU<|.c .gU<|.c .f<|.c .pT<|.nn ?_
        refine .k1 ?_
        refine .r<|.c .a<|.nn<|.ret<|kb_r<|ks_r<|kl_r<|kb_r<|ks_r ?_
        refine kf_ret rfl ?_ nobox
        exact leafB (by rw[ind_yes hV hpa hpb hne,clashV,show (List.range (totN g.1)).any (clashC (flg false g a (insG 0 g.2).length) (flg true g a (insG 0 g.2).length) (flg false g b (insG 0 g.2).length) (flg true g b (insG 0 g.2).length))=true from List.any_eq_true.2 ⟨i,List.mem_range.2 (by omega),by rw[hcl];simp_all⟩];rfl)
       ·try simp only[zs]at g64
        refine .c (.g .m)<|.c (.g .m) ?_
        refine .c (.gT rfl rfl rfl (.xL 4 1 1 rfl rfl rfl rfl rfl (map_at hwb))) ?_
        refine .c (.g (.l1 1))<|.c (.g .pF)<|.c .pT<|.c .m ?_
        refine AOps.cases 71 _ rfl (fun g71=>?_) (fun g71=>?_)
        ·try simp only[zs]at g71
         refine .c .f<|.c .f<|.c .f<|.c .f<|.c .f<|.c .gU<|.c .gU<|.c .gU<|.c .gU<|.c .f<|.c .pT<|.nn ?_
         refine .k1 ?_
         refine .r<|.c .a<|.nn<|.ret<|kb_r<|ks_r<|kl_r<|kb_r<|ks_r ?_
         refine kf_ret rfl ?_ nobox
         exact leafB (by rw[ind_yes hV hpa hpb hne,clashV,show (List.range (totN g.1)).any (clashC (flg false g a (insG 0 g.2).length) (flg true g a (insG 0 g.2).length) (flg false g b (insG 0 g.2).length) (flg true g b (insG 0 g.2).length))=true from List.any_eq_true.2 ⟨i,List.mem_range.2 (by omega),by rw[hcl];simp_all⟩];rfl)
        ·try simp only[zs]at g71
         refine .c (.g .m)<|.c (.g .m) ?_
         refine .c (.gT rfl rfl rfl (.xL 4 1 1 rfl rfl rfl rfl rfl (map_at hwb))) ?_
         refine .c (.g (.l1 1))<|.c (.g .m) ?_
         refine AOps.cases 76 _ rfl (fun g76=>?_) (fun g76=>?_)
         ·try simp only[zs]at g76
          refine .c (.g .m)<|.c (.g .m) ?_
          refine .c (.gT rfl rfl rfl (.xL 4 1 1 rfl rfl rfl rfl rfl (map_at hra))) ?_
          refine .c (.g (.l1 1))<|.c (.g .pT)<|.c .pF<|.nn ?_
          refine ACode.condT rfl (fun h82=>?_) (fun h82=>?_)
          ·try simp only[zs]at h82
           refine .r<|.c .a<|.nn<|.ret<|kb_r<|ks_r<|kl_r<|kb_r<|ks_r ?_
           refine kf_ret rfl ?_ nobox
           exact leafB (by rw[ind_yes hV hpa hpb hne,clashV,show (List.range (totN g.1)).any (clashC (flg false g a (insG 0 g.2).length) (flg true g a (insG 0 g.2).length) (flg false g b (insG 0 g.2).length) (flg true g b (insG 0 g.2).length))=true from List.any_eq_true.2 ⟨i,List.mem_range.2 (by omega),by rw[hcl];simp_all⟩];rfl)
          ·try simp only[zs]at h82
           refine .skip<|kb_n<|ks_n<|.region<|.c .pl<|.c .m<|.nil ?_
           refine kl_k [] ⟨i+1,rfl,by omega,fun j hj=>(Nat.lt_succ_iff_lt_or_eq.1 hj).elim (fun h=>hF j h) (fun h=>by rw[h,hcl];simp_all),rfl⟩ ⟨kd,kd,kd,kd,kd,kd,kd,trivial⟩
         ·try simp only[zs]at g76
          refine .c .f<|.c .f<|.c .f<|.c .f<|.c (.g .pF)<|.c .pF<|.nn ?_
          refine .k0 ?_
          refine .skip<|kb_n<|ks_n<|.region<|.c .pl<|.c .m<|.nil ?_
          refine kl_k [] ⟨i+1,rfl,by omega,fun j hj=>(Nat.lt_succ_iff_lt_or_eq.1 hj).elim (fun h=>hF j h) (fun h=>by rw[h,hcl];simp_all),rfl⟩ ⟨kd,kd,kd,kd,kd,kd,kd,trivial⟩
      ·try simp only[zs]at g59
       refine .c .f<|.c .f<|.c .f<|.c .f<|.c .f<|.c .gU<|.c .gU<|.c .gU<|.c .gU<|.c .f<|.c .pF<|.c .m<|.c (.g .m)<|.c (.g .m) ?_
       refine .c (.gT rfl rfl rfl (.xL 4 1 1 rfl rfl rfl rfl rfl (map_at hwb))) ?_
       refine .c (.g (.l1 1))<|.c (.g .m) ?_
       refine AOps.cases 76 _ rfl (fun g76=>?_) (fun g76=>?_)
       ·try simp only[zs]at g76
        refine .c (.g .m)<|.c (.g .m) ?_
        refine .c (.gT rfl rfl rfl (.xL 4 1 1 rfl rfl rfl rfl rfl (map_at hra))) ?_
        refine .c (.g (.l1 1))<|.c (.g .pT)<|.c .pF<|.nn ?_
        refine ACode.condT rfl (fun h82=>?_) (fun h82=>?_)
        ·try simp only[zs]at h82
         refine .r<|.c .a<|.nn<|.ret<|kb_r<|ks_r<|kl_r<|kb_r<|ks_r ?_
         refine kf_ret rfl ?_ nobox
         exact leafB (by rw[ind_yes hV hpa hpb hne,clashV,show (List.range (totN g.1)).any (clashC (flg false g a (insG 0 g.2).length) (flg true g a (insG 0 g.2).length) (flg false g b (insG 0 g.2).length) (flg true g b (insG 0 g.2).length))=true from List.any_eq_true.2 ⟨i,List.mem_range.2 (by omega),by rw[hcl];simp_all⟩];rfl)
        ·try simp only[zs]at h82
         refine .skip<|kb_n<|ks_n<|.region<|.c .pl<|.c .m<|.nil ?_
         refine kl_k [] ⟨i+1,rfl,by omega,fun j hj=>(Nat.lt_succ_iff_lt_or_eq.1 hj).elim (fun h=>hF j h) (fun h=>by rw[h,hcl];simp_all),rfl⟩ ⟨kd,kd,kd,kd,kd,kd,kd,trivial⟩
       ·try simp only[zs]at g76
        refine .c .f<|.c .f<|.c .f<|.c .f<|.c (.g .pF)<|.c .pF<|.nn ?_
        refine .k0 ?_
        refine .skip<|kb_n<|ks_n<|.region<|.c .pl<|.c .m<|.nil ?_
        refine kl_k [] ⟨i+1,rfl,by omega,fun j hj=>(Nat.lt_succ_iff_lt_or_eq.1 hj).elim (fun h=>hF j h) (fun h=>by rw[h,hcl];simp_all),rfl⟩ ⟨kd,kd,kd,kd,kd,kd,kd,trivial⟩
     ·skip
      rw[hfl]at h53
      refine .exit<|ks_e<|kl_e<|kb_hit<|ks_n<|.r<|.c .a<|.nn<|.ret ?_
      refine kf_ret rfl ?_ nobox
      exact leafB (by rw[ind_yes hV hpa hpb hne,clashV,show (List.range (totN g.1)).any (clashC (flg false g a (insG 0 g.2).length) (flg true g a (insG 0 g.2).length) (flg false g b (insG 0 g.2).length) (flg true g b (insG 0 g.2).length))=false from any_no fun j m hj hm=>by rw[List.getElem?_range (by simpa using hj)]at hm;cases hm;exact hF j (by simp at hj;omega)];rfl)
theorem specInd_fn {g:Prg} (hs:szG g≤1073741824) (a b:Int):Fn Tryz.prog 38 [] [ad (rG g),nat1 a,nat1 b] (.o (bo1 (indV g a b))) []:=by
 refine Fn.code0 Tryz.func38 rfl rfl rfl rfl ?_
 refine .r<|.c .bp<|.c .a<|.nn<|.seq<|.r<|.c (.lN 2) ?_
 refine .c (.cP [.tmp 9] rfl rfl rfl rfl (specPV_fn hs) rfl) ?_
 refine .c .nt<|.c .m ?_
 refine AOps.cases 12 _ rfl (fun g12=>?_) (fun g12=>?_)
 ·try simp only[zs]at g12
  refine .c .f<|.c .f<|.c .pT<|.c .m<|.c .f<|.c .f<|.c .pT<|.c .m<|.c .f<|.c .f<|.c .f<|.c .f<|.c .f<|.c .pT<|.c .m<|.c .f<|.c .f<|.c .f<|.c .f<|.c .f<|.c .pT<|.c .m<|.c .f<|.c .f<|.c .f<|.c .pT<|.nn ?_
  refine .k1 ?_
  refine .r<|.c .a<|.nn<|.ret<|ks_r ?_
  refine kf_ret rfl ?_ nobox
  exact leafB (ind_no fun⟨e1,e2,e3,e4⟩=>by have e5:=of_decide_eq_true e2;have e6:=of_decide_eq_true e3;first|omega|simp_all).symm
 ·try simp only[zs]at g12
  refine .c (.g .m)<|.c (.g .ls)<|.c .pF<|.c .m ?_
  refine AOps.cases 16 _ rfl (fun g16=>?_) (fun g16=>?_)
  ·try simp only[zs]at g16
   refine .c .f<|.c .f<|.c .pT<|.c .m<|.c .f<|.c .f<|.c .f<|.c .f<|.c .f<|.c .pT<|.c .m<|.c .f<|.c .f<|.c .f<|.c .f<|.c .f<|.c .pT<|.c .m<|.c .f<|.c .f<|.c .f<|.c .pT<|.nn ?_
   refine .k1 ?_
   refine .r<|.c .a<|.nn<|.ret<|ks_r ?_
   refine kf_ret rfl ?_ nobox
   exact leafB (ind_no fun⟨e1,e2,e3,e4⟩=>by have e5:=of_decide_eq_true e2;have e6:=of_decide_eq_true e3;first|omega|simp_all).symm
  ·try simp only[zs]at g16
   refine .c (.g .m)<|.c (.g .ls)<|.c .pF<|.c .m ?_
   refine AOps.cases 20 _ rfl (fun g20=>?_) (fun g20=>?_)
   ·try simp only[zs]at g20
    refine .c .f<|.c .f<|.c .f<|.c .f<|.c .f<|.c .pT<|.c .m<|.c .f<|.c .f<|.c .f<|.c .f<|.c .f<|.c .pT<|.c .m<|.c .f<|.c .f<|.c .f<|.c .pT<|.nn ?_
    refine .k1 ?_
    refine .r<|.c .a<|.nn<|.ret<|ks_r ?_
    refine kf_ret rfl ?_ nobox
    exact leafB (ind_no fun⟨e1,e2,e3,e4⟩=>by have e5:=of_decide_eq_true e2;have e6:=of_decide_eq_true e3;first|omega|simp_all).symm
   ·try simp only[zs]at g20
    refine .c (.g .m)<|.c (.g (.fP 1 0 false))<|.c (.g (.l1 1))<|.c (.g (.ln 80 2 48))<|.c (.g .ge)<|.c .pF<|.c .m ?_
    refine AOps.cases 27 _ rfl (fun g27=>?_) (fun g27=>?_)
    ·try simp only[zs]at g27
     refine .c .f<|.c .f<|.c .f<|.c .f<|.c .f<|.c .pT<|.c .m<|.c .f<|.c .f<|.c .f<|.c .pT<|.nn ?_
     refine .k1 ?_
     refine .r<|.c .a<|.nn<|.ret<|ks_r ?_
     refine kf_ret rfl ?_ nobox
     exact leafB (ind_no fun⟨e1,e2,e3,e4⟩=>by have e5:=of_decide_eq_true e2;have e6:=of_decide_eq_true e3;first|omega|simp_all).symm
    ·try simp only[zs]at g27
     refine .c (.g .m)<|.c (.g (.fP 1 0 false))<|.c (.g (.l1 1))<|.c (.g (.ln 80 2 48))<|.c (.g .ge)<|.c .pF<|.c .m ?_
     refine AOps.cases 34 _ rfl (fun g34=>?_) (fun g34=>?_)
     ·try simp only[zs]at g34
      refine .c .f<|.c .f<|.c .f<|.c .pT<|.nn ?_
      refine .k1 ?_
      refine .r<|.c .a<|.nn<|.ret<|ks_r ?_
      refine kf_ret rfl ?_ nobox
      exact leafB (ind_no fun⟨e1,e2,e3,e4⟩=>by have e5:=of_decide_eq_true e2;have e6:=of_decide_eq_true e3;first|omega|simp_all).symm
     ·try simp only[zs]at g34
      refine .c (.g .m)<|.c (.g .m)<|.c (.g .eq)<|.c .pF<|.nn ?_
      refine ACode.condT rfl (fun h38=>?_) (fun h38=>?_)
      ·try simp only[zs]at h38
       refine .r<|.c .a<|.nn<|.ret<|ks_r ?_
       refine kf_ret rfl ?_ nobox
       exact leafB (ind_no fun⟨e1,e2,e3,e4⟩=>by have e5:=of_decide_eq_true e2;have e6:=of_decide_eq_true e3;first|omega|simp_all).symm
      ·try simp only[zs]at h38
       have hV:prgV g=true:=by first|assumption|simp_all
       obtain⟨hS,hN,hL⟩:=prgV_s hV
       have hv:=(prgS_iff.1 hS).1
       have hne:¬a=b:=by omega
       have hpa:inB a 0 ((g.2.length:Nat) -1)=true:=decide_eq_true (by omega)
       have hpb:inB b 0 ((g.2.length:Nat) -1)=true:=decide_eq_true (by omega)
       have hcs:=clash_spec (g:=g) (a:=a) (b:=b) (n:=(insG 0 g.2).length)
       refine .skip<|ks_n<|.r<|.c (.lN 2)<|.c .m ?_
       refine .c (.cP [.tmp 39,.tmp 40,.const (.bool true)] rfl rfl rfl rfl (l11Cells_fn hs hS a true) rfl) ?_
       refine .c .a<|.r<|.c (.lN 2)<|.c .m ?_
       refine .c (.cP [.tmp 42,.tmp 43,.const (.bool true)] rfl rfl rfl rfl (l11Cells_fn hs hS b true) rfl) ?_
       refine .c .a<|.r<|.c .m<|.c .m ?_
       refine .c (.cP [.tmp 45,.tmp 46] rfl rfl rfl rfl (l11Meet_fn _ _ (by have:=flag_len (wr:=true) (part:=a) (n:=(insG 0 g.2).length) hv;omega) (by have:=flag_len (wr:=true) (part:=b) (n:=(insG 0 g.2).length) hv;omega)) rfl) ?_
       refine .c .nt<|.c .m ?_
       refine AOps.cases 49 _ rfl (fun g49=>?_) (fun g49=>?_)
       ·try simp only[zs]at g49
        refine .c (.g .m)<|.c (.g (.lN 2))<|.c (.g .m) ?_
        refine .c (.gT rfl rfl rfl (.cP [.tmp 51,.tmp 52,.const (.bool false)] rfl rfl rfl rfl (l11Cells_fn hs hS b false) rfl)) ?_
        refine .c (.gT rfl rfl rfl (.cP [.tmp 50,.tmp 53] rfl rfl rfl rfl (l11Meet_fn _ _ (by have:=flag_len (wr:=true) (part:=a) (n:=(insG 0 g.2).length) hv;omega) (by have:=flag_len (wr:=false) (part:=b) (n:=(insG 0 g.2).length) hv;omega)) rfl)) ?_
        refine .c (.g .nt)<|.c .pT<|.c .m ?_
        refine AOps.cases 57 _ rfl (fun g57=>?_) (fun g57=>?_)
        ·try simp only[zs]at g57
         refine .c (.g .m)<|.c (.g (.lN 2))<|.c (.g .m) ?_
         refine .c (.gT rfl rfl rfl (.cP [.tmp 59,.tmp 60,.const (.bool false)] rfl rfl rfl rfl (l11Cells_fn hs hS a false) rfl)) ?_
         refine .c (.gT rfl rfl rfl (.cP [.tmp 58,.tmp 61] rfl rfl rfl rfl (l11Meet_fn _ _ (by have:=flag_len (wr:=true) (part:=b) (n:=(insG 0 g.2).length) hv;omega) (by have:=flag_len (wr:=false) (part:=a) (n:=(insG 0 g.2).length) hv;omega)) rfl)) ?_
         refine .c (.g .nt)<|.c .pT<|.c .a<|.nn<|.ret ?_
         refine kf_ret rfl ?_ nobox
         exact leafB (by rw[ind_yes hV hpa hpb hne,clashV,←hcs];simp_all)
        ·try simp only[zs]at g57
         refine .c .f<|.c .f<|.c .f<|.c .f<|.c .f<|.c .f<|.c .pF<|.c .a<|.nn<|.ret ?_
         refine kf_ret rfl ?_ nobox
         exact leafB (by rw[ind_yes hV hpa hpb hne,clashV,←hcs];simp_all)
       ·try simp only[zs]at g49
        refine .c .f<|.c .f<|.c .f<|.c .f<|.c .f<|.c .f<|.c .pF<|.c .m<|.c .f<|.c .f<|.c .f<|.c .f<|.c .f<|.c .f<|.c .pF<|.c .a<|.nn<|.ret ?_
        refine kf_ret rfl ?_ nobox
        exact leafB (by rw[ind_yes hV hpa hpb hne,clashV,←hcs];simp_all)
theorem implInd_fn {g:Prg} (hs:szG g≤1073741824) (a b:Int):Fn Tryz.prog 40 [] [ad (rG g),nat1 a,nat1 b] (.o (bo1 (indV g a b))) []:=by
  cases hV:prgV g with
  |true=>exact implInd_yes hs a b hV
  |false=>exact implInd_no hs a b hV
def swp {α:Type} (l:List α) (i:Nat):List α:=match l[i]?,l[i+1]? with
  |some x,some y=>(l.set i y).set (i+1) x
  |_,_=>l
theorem swp_eq {α:Type} {l:List α} {i:Nat} {x y:α} (hx:l[i]?=some x) (hy:l[i+1]?=some y):swp l i=(l.set i y).set (i+1) x:=by rw[swp,hx,hy]
theorem swp_len {α:Type} (l:List α) (i:Nat):(swp l i).length=l.length:=by unfold swp;split<;>simp
theorem swp_map {α β:Type} (f:α→β) (l:List α) (i:Nat):(swp l i).map f=swp (l.map f) i:=by
  unfold swp
  simp only[List.getElem?_map]
  cases l[i]?<;>cases l[i+1]?<;>simp[List.map_set]
def swapG (g:Prg) (a:Int):Prg×Bool:=if indV g a (a+1)=true then((g.1,swp g.2 a.toNat),true)else(([],[]),false)
theorem swapG_no {g:Prg} {a:Int} (h:indV g a (a+1)=false):swapG g a=(([],[]),false):=if_neg (by rw[h];decide)
theorem swapG_yes {g:Prg} {i:Nat} (h:indV g (i:Int) ((i:Int)+1)=true):swapG g (i:Int)=((g.1,swp g.2 i),true):=by rw[swapG,if_pos h,Int.toNat_natCast]
theorem indV_in {g:Prg} {a:Int} (h:indV g a (a+1)=true):prgV g=true∧0≤a∧a+1<(g.2.length:Nat):=by
  simp only[indV,Bool.and_eq_true,inB,decide_eq_true_eq]at h
  exact⟨h.1,by omega,by omega⟩
theorem indV_out {g:Prg} {a:Int} (h:¬(0≤a∧a<(g.2.length:Nat))):indV g a (a+1)=false:=by
  cases e:indV g a (a+1)with
  |false=>rfl
  |true=>have:=indV_in e;omega
def swF (F:Nat→Nat→Nat→Prop) (i:Nat):Nat→Nat→Nat→Prop:=fun q=>if q=i then F (i+1)else if q=i+1 then F i else F q
theorem tagRs_ext {F:Nat→Nat→Nat→Prop} {l:List (List D)} {m:List (List D)} (hl:m.length=l.length) (h:∀(q:Nat) r,l[q]?=some r→m[q]?=some (tagL (F q) 0 r)):m=tagRs F 0 l:=by
  refine List.ext_getElem? fun q=>?_
  cases hq:l[q]? with
  |some r=>rw[h q r hq,tagRs_at hq,Nat.zero_add]
  |none=>
    rw[List.getElem?_eq_none_iff]at hq
    rw[List.getElem?_eq_none (by omega),List.getElem?_eq_none (by rw[tagRs_len];omega)]
theorem tag_swp {F:Nat→Nat→Nat→Prop} {l:List (List D)} {i:Nat} {x y:List D} (hx:l[i]?=some x) (hy:l[i+1]?=some y):
    ((tagRs F 0 l).set i (tagL (F (i+1)) 0 y)).set (i+1) (tagL (F i) 0 x)=tagRs (swF F i) 0 (swp l i):=by
  refine tagRs_ext (by simp[swp_len,tagRs_len]) fun q r hr=>?_
  have hil:=(List.getElem?_eq_some_iff.1 hx).1
  have hjl:=(List.getElem?_eq_some_iff.1 hy).1
  rw[swp_eq hx hy]at hr
  rw[List.getElem?_set,List.getElem?_set]at hr ⊢
  simp only[List.length_set,tagRs_len]at hr ⊢
  by_cases h1:i+1=q
  · subst h1
    rw[if_pos rfl,if_pos hjl]at hr ⊢
    cases hr
    simp[swF]
  · rw[if_neg h1]at hr ⊢
    by_cases h2:i=q
    · subst h2
      rw[if_pos rfl,if_pos hil]at hr ⊢
      cases hr
      simp[swF]
    · rw[if_neg h2]at hr ⊢
      rw[tagRs_at hr,Nat.zero_add]
      show _=some (tagL (if q=i then F (i+1)else if q=i+1 then F i else F q) 0 r)
      rw[if_neg (fun e=>h2 e.symm),if_neg (fun e=>h1 e.symm)]
def swN (i q:Nat):Nat:=if q=i then i+1 else if q=i+1 then i else q
theorem swF_eq (F:Nat→Nat→Nat→Prop) (i q:Nat):swF F i q=F (swN i q):=by
  unfold swF swN
  split
  ·rfl
  ·split<;>rfl
theorem swN_lt {i q n:Nat} (hi:i+1<n) (hq:q<n):swN i q<n:=by unfold swN;split<;>(try split)<;>omega
theorem swN_inj {i q q':Nat} (h:swN i q=swN i q'):q=q':=by
  unfold swN at h
  split at h<;>split at h<;>(try split at h)<;>(try split at h)<;>omega
theorem FD.sub {U U' L:Nat→Prop} {n:Nat} {F:Nat→Nat→Nat→Prop} (h:FD U L n F) (hs:∀b,U' b→U b):FD U' L n F:=⟨h.dis,fun a c b ha hc h1 h2=>h.out a c b ha hc h1 (hs b h2)⟩
theorem FD.swap {U L:Nat→Prop} {n i:Nat} {F:Nat→Nat→Nat→Prop} (h:FD U L n F) (hi:i+1<n):FD U L n (swF F i):=by
  refine⟨fun a c a' c' b ha ha' hc hc' h1 h2=>?_,fun a c b ha hc h1=>?_⟩
  · rw[swF_eq]at h1 h2
    have:=h.dis _ c _ c' b (swN_lt hi ha) (swN_lt hi ha') hc hc' h1 h2
    exact⟨swN_inj this.1,this.2⟩
  · rw[swF_eq]at h1
    exact h.out _ c b (swN_lt hi ha) hc h1
theorem tg_map {F:Nat→Nat→Nat→Prop} {l:List Prt} {i:Nat} {x:Prt} (h:l[i]?=some x):(dR (tagRs F 0 (l.map rP)))[i]?=some ((tagL (F i) 0 (rP x)).map C.d):=by
  rw[dR,List.getElem?_map,tagRs_at (show (l.map rP)[i]?=some (rP x)by rw[List.getElem?_map,h];rfl),Nat.zero_add];rfl
theorem tg_set {F:Nat→Nat→Nat→Prop} {l:List Prt} {i j:Nat} {x:Prt} {r:List C} (h:l[i]?=some x) (hne:j≠i):((dR (tagRs F 0 (l.map rP))).set j r)[i]?=some ((tagL (F i) 0 (rP x)).map C.d):=by
  rw[List.getElem?_set_ne hne];exact tg_map h
theorem SwapParts_T (g:Prg) (a:Int) (hs:szG g≤1073741824) (hl:g.2.length≤1073741824) (hG:prgV g=true→OwnG g):FnT Tryz.prog 14 [ad (rG g),nat1 a] (none') (.strB (rG (swapG g a).1) (swapG g a).2):=by
 refine FnT.of_code Tryz.func14 rfl rfl rfl (fun O=>?_)
 refine .r<|.c .bp<|.c (.al 104 [.slice none 0 0,.slice none 0 0])<|.c .a<|.nn<|.seq<|.seq ?_
 refine ACode.cut [eN 1 a,eP 2 (rG g),eB 4 810 2,eT 5 false,eT 23 (!indV g a (a+1)),(.t 9999,.v (.gh O)),(.b 810,.b 30 2 [[nl,nl]]),eU 810] ?_ ?_
 ·skip
  refine .region<|.c .m<|.c .ls<|.c .m ?_
  refine .cD 9 rfl (fun g9=>?_) (fun g9=>?_)
  ·skip
   refine .c .f<|.c .f<|.c .f<|.c .f<|.c .f<|.c .pT<|.c .m<|.c .f<|.c .f<|.c .f<|.c .f<|.c .f<|.c .f<|.c .pT<|.nil ?_
   exact kc_n (Wk.keep [(810,104)] rfl rfl ⟨kd,kd,kX,kd,ks rfl (.dt (vB (by first|(simp[*];done)|(rw[indV_out (by omega)];done)|(rw[indV_out (by omega)];rfl)|grind))),kd,kb 104 rfl (.r2 .dt .dt),trivial⟩)
  ·skip
   refine .c (.g .m)<|.c (.g (.fP 1 0 false))<|.c (.g (.l1 1))<|.c (.g (.ln 80 2 48))<|.c (.g .ge)<|.c .pF<|.c .m ?_
   refine AOps.cases 16 _ rfl (fun g16=>?_) (fun g16=>?_)
   ·try simp only[zs]at g16
    refine .c .f<|.c .f<|.c .f<|.c .f<|.c .f<|.c .f<|.c .pT<|.nil ?_
    exact kc_n (Wk.keep [(810,104)] rfl rfl ⟨kd,kd,kX,kd,ks rfl (.dt (vB (by first|(simp[*];done)|(rw[indV_out (by omega)];done)|(rw[indV_out (by omega)];rfl)|grind))),kd,kb 104 rfl (.r2 .dt .dt),trivial⟩)
   ·try simp only[zs]at g16
    refine .c (.g (.lN 2))<|.c (.g .m)<|.c (.g .m)<|.c (.g .pl) ?_
    refine .c (.gT rfl rfl rfl (.cP [.tmp 17,.tmp 18,.tmp 20] rfl rfl rfl rfl (implInd_fn hs a (a+1)) rfl)) ?_
    refine .c (.g .nt)<|.c .pF<|.nil ?_
    exact kc_n (Wk.keep [(810,104)] rfl rfl ⟨kd,kd,kX,kd,ks rfl (.dt (vB (by first|(simp[*];done)|(rw[indV_out (by omega)];done)|(rw[indV_out (by omega)];rfl)|grind))),kd,kb 104 rfl (.r2 .dt .dt),trivial⟩)
 refine ks_n ?_
 refine ACode.condT rfl (fun h23=>?_) (fun h23=>?_)
 ·try simp only[zs]at h23
  refine .r<|.c (.bu [] [(0,1),(1,1)] [.slice none 0 0,.slice none 0 0])<|.c (.sT 2 true)<|.c .a<|.nn<|.ret<|ks_r ?_
  refine kt_wret (nthS [none',none']) [eB 4 100 2,eT 5 false,(.b 100,.b 30 2 [[(.d (.tree none' (dRs []))),(.d (.tree none' (dPts [])))]]),eU 100] (Wk.keep [(100,810)] rfl rfl ⟨kX,kd,kb 810 rfl (.r2 (Cto.nilTE 2 rfl) (Cto.nilTE 2 rfl)),trivial⟩) rfl ?_ ?_ ?_
  ·rw[swapG_no h23];rfl
  ·exact nthS_dis (by first|(simp only[List.pairwise_cons,List.forall_mem_cons,List.not_mem_nil,false_implies,implies_true,and_true,List.Pairwise.nil];done)|(simp only[List.pairwise_cons,List.forall_mem_cons,List.not_mem_nil,false_implies,implies_true,and_true,List.Pairwise.nil];simp[none'];done))
  ·exact nthS_all (by simp only[List.forall_mem_cons,List.not_mem_nil,false_implies,implies_true,and_true];exact⟨(fun b h=>h.elim),(fun b h=>h.elim)⟩)
 ·try simp only[zs]at h23
  obtain⟨hv,ha0,ha1⟩:=indV_in h23
  obtain⟨i,rfl⟩:∃i:Nat,a=i:=⟨a.toNat,by omega⟩
  obtain⟨x,hx⟩:∃x,g.2[i]?=some x:=⟨_,List.getElem?_eq_getElem (by omega)⟩
  obtain⟨y,hy⟩:∃y,g.2[i+1]?=some y:=⟨_,List.getElem?_eq_getElem (by omega)⟩
  refine .skip<|ks_n<|.r<|.c (.lN 2) ?_
  refine AOps.callB 126 [.tmp 25] rfl rfl rfl rfl rfl rfl (by kernel_rfl) rfl (own_B g (hG hv) (by omega)) rfl (fun i k hk=>List.mem_singleton.1 hk) rfl rfl (fun i26 O26 hf26 hO26=>?_)
  have hA:=hf26.1
  have hOO:=hO26 O (gh_has rfl)
  have hFD:=((hf26.2).sub (U':=or2 O i26.1) (fun b h=>h.imp (hOO b) id)).swap (i:=i) (by omega)
  refine .c (.al 106 [.slice none 0 0,.slice none 0 0])<|.c (.sT 2 true)<|.nn<|.seq ?_
  refine ACode.drawK (by kernel_rfl) (by kernel_rfl) ?_
  refine .c (.fB 1 0 false)<|.c (.b1 1)<|.c .m<|.c (.fB 1 0 false)<|.c (.b1 1)<|.c .m<|.c .pl<|.c (.fB 1 0 false)<|.c (.b1 1)<|.c .m<|.c .pl ?_
  refine .c (.xB 80 2 48 (i:=(i+1)) rfl rfl rfl rfl rfl (by first|rfl|omega) (by omega)) ?_
  refine .c (.bN 2 rfl rfl rfl rfl (by first|exact tg_map hx|exact tg_map hy|exact tg_set hy (by omega)|exact tg_set hx (by omega)) rfl) ?_
  refine .c (.fB 1 0 false)<|.c (.b1 1)<|.c .m ?_
  refine .c (.xB 80 2 48 (i:=i) rfl rfl rfl rfl rfl (by first|rfl|omega) (by omega)) ?_
  refine .c (.bN 2 rfl rfl rfl rfl (by first|exact tg_map hx|exact tg_map hy|exact tg_set hy (by omega)|exact tg_set hx (by omega)) rfl) ?_
  refine .c (.xB 80 2 48 (i:=i) rfl rfl rfl rfl rfl (by first|rfl|omega) (by omega)) ?_
  refine .c (.sT 2 true rfl rfl rfl rfl (by first|exact tg_map hx|exact tg_map hy|exact tg_set hy (by omega)|exact tg_set hx (by omega)) rfl rfl) ?_
  refine .c (.xB 80 2 48 (i:=(i+1)) rfl rfl rfl rfl rfl (by first|rfl|omega) (by omega)) ?_
  refine .c (.sT 2 true rfl rfl rfl rfl (by first|exact tg_map hx|exact tg_map hy|exact tg_set hy (by omega)|exact tg_set hx (by omega)) rfl rfl) ?_
  refine .nil ⟨by kernel_rfl,?_⟩
  refine ks_n<|.seq ?_
  refine .keep [eB 4 570 2,eT 5 false,eB 6 571 2,(.t 9999,.v (.gh O)),(.b 570,.b 30 2 [[nl,nl]]),eU 570,(.b 572,.b 80 2 (dR (tagRs (swF i26.2 i) 0 ((swp g.2 i).map rP)))),eU 572,(.b 571,.b 30 2 [[.d (.tree i26.1 (dRs g.1)),.own 572 2 (((swp g.2 i).map rP).length)]]),eU 571] [(570,810),(571,106),(572,126)] ⟨kX,kd,kX,kd,kb 810 rfl (.r2 .dt .dt),kb 126 rfl (.dt rfl (by rw[swp_map,←tag_swp (map_at hx) (map_at hy)];simp only[dR,List.map_set];rfl)),kb 106 rfl (.r2 .dt (.ow (by rw[List.length_map,swp_len]))),trivial⟩ ?_
  refine ACode.packB 571 0 1 572 (rows:=(swp g.2 i).map rP) (F:=swF i26.2 i) rfl rfl rfl rfl rfl (plain_map plP) (hFD.pos (by rw[List.length_map,swp_len]) (fun i j h=>isPos_L posP h)) (by rw[List.length_map,swp_len];omega) (fun N hN=>?_)
  have hNO:=hN.outE ((HasE.of (gh_has rfl)).or (.of (Has.box (i:=0) (j:=0) 571 rfl rfl rfl (.d (.tree _))))) hFD (by rw[List.length_map,swp_len]) (fun i j h=>isPos_L posP h)
  refine .region<|.c (.bN 2)<|.c (.sT 2 true)<|.c .a<|.nn<|.ret ?_
  refine kt_ret (nthS [i26.1,N]) rfl ?_ ?_ ?_
  ·rw[swapG_yes h23];rfl
  ·exact nthS_dis (List.Pairwise.cons (by simp only[List.forall_mem_cons,List.not_mem_nil,false_implies,implies_true,and_true];exact fun b h1 h2=>hNO b h2 (.inr h1)) (List.pairwise_singleton _ _))
  ·exact nthS_all (by simp only[List.forall_mem_cons,List.not_mem_nil,false_implies,implies_true,and_true];exact⟨(fun b h=>.inr (fun h2=>hA b h (hOO b h2))),(fun b h=>.inr (fun hO=>hNO b h (.inl hO)))⟩)
theorem l4Copy_fn (g:Prg) (h1:g.1.length≤1073741824) (h2:g.2.length≤1073741824) (hA:∀x∈g.1,x.2.length≤1073741824) (hP:∀x∈g.2,smN x.1∧x.2.length≤1073741824∧∀y∈x.2,szS y≤1073741824):Fn Tryz.prog 21 [] [ad (rG g)] (.o (ad (rG g))) []:=by
 refine Fn.code0 Tryz.func21 rfl rfl rfl rfl ?_
 refine .r<|.c .bp<|.c (.al 102 [.slice none 0 0,.slice none 0 0])<|.r<|.c (.bu [] [(0,1),(1,1)] [.slice none 0 0,.slice none 0 0])<|.c (.al 103 [.slice none 0 0,.slice none 0 0])<|.c (.sT 2 true)<|.nn<|.seq<|.r<|.c .a<|.nn<|.block ?_
 refine .loopK (fun m σ=>(∃i:Nat,m=g.1.length -i∧(i=0)∧σ=[eP 1 (rG g),eB 2 110 2,eB 3 111 2,eN 4 (i:Nat),(.b 110,.b 30 2 [[nl,nl]]),eU 110,(.b 111,.b 30 2 [[nl,nl]]),eU 111])∨(∃i:Nat,m=g.1.length -i∧(1≤i)∧(i≤g.1.length)∧σ=[eP 1 (rG g),eB 2 110 2,eB 3 111 2,eN 4 (i:Nat),(.b 110,.b 30 2 [[nl,nl]]),eU 110,(.b 112,.b 45 2 (dR ((g.1.take i).map rR))),eU 112,(.b 111,.b 30 2 [[.own 112 2 (i),nl]]),eU 111])) [(110,102),(111,103)] (.inl ⟨0,rfl,rfl,rfl⟩) ⟨kd,kX,kX,kd,kb 102 rfl (.r2 .dt .dt),kb 103 rfl (.r2 .dt .dt),trivial⟩ ?_
 rintro m σ (⟨i,hm0,rfl,rfl⟩|⟨i,hm0,hi1,hi2,rfl⟩)
 ·skip
  refine .seq<|.r<|.c .m<|.c (.fP 0 0 false)<|.c (.l1 1)<|.c (.ln 45 2 40)<|.c .ls<|.nn ?_
  refine .cD rfl (fun h13=>?_) (fun h13=>?_)
  ·skip
   obtain⟨x,hx1⟩:∃u,g.1[0]?=some u:=⟨_,List.getElem?_eq_getElem (by omega)⟩
   have hxb:=hA _ (List.mem_of_getElem? hx1)
   refine .skip<|ks_n<|.seq<|.block ?_
   refine ACode.drawK (by kernel_rfl) (by kernel_rfl) ?_
   refine .c (.fB 0 0 false)<|.c (.b1 1)<|.c (.fP 0 0 false)<|.c (.l1 1)<|.c .m ?_
   refine .c (.xL 45 2 40 rfl rfl rfl rfl rfl (map_at hx1)) ?_
   refine .c (.fP 0 0 false)<|.c (.l1 1) ?_
   refine .c (St1.lit0 (k':=124) (e:=3) (sz:=1) (b:=true) rfl rfl rfl rfl (by kernel_rfl) rfl rfl) ?_
   refine .c (.fP 0 0 false)<|.c (.l1 1)<|.c .m ?_
   refine .c (.xL 45 2 40 rfl rfl rfl rfl rfl (map_at hx1)) ?_
   refine .c (.fP 1 0 false)<|.c (.l1 1) ?_
   refine .c (St1.appD (rows:=[]) (e:=3) (sz:=0) (by':=8) rfl rfl rfl rfl rfl (by kernel_rfl) rfl rfl rfl rfl rfl (by simp;omega) rfl) ?_
   refine .c (.bu [(0,.tmp 23),(1,.tmp 31)] [(0,1),(1,1)] [.string ByteArray.empty,.slice none 0 0])<|.c (.li 45 1 0 [.tmp 32]) ?_
   refine .c (St1.appN (k':=134) (e:=45) (sz:=1) (by':=40) rfl rfl rfl rfl rfl (by kernel_rfl) rfl rfl rfl (by simp) (by first|(simp[dR];done)|(simp[dR];omega)) rfl rfl) ?_
   refine .c (.fB 0 0 false)<|.c (.sT 1 false) ?_
   refine .nil ⟨by kernel_rfl,?_⟩
   refine kb_n<|ks_n<|.region<|.c .m<|.c .pl<|.c .a<|.nil ?_
   refine kl_k [(110,110),(111,111),(112,134)] (.inr ⟨1,rfl,by omega,by omega,rfl⟩) ⟨kd,kX,kX,kd,kb 110 rfl (.r2 .dt .dt),kb 134 rfl (.dt rfl (by first|exact dR_take (rR) hx1|exact dR_take1 (rR) hx1|rfl|(simp[dR];done))),kb 111 rfl (.r2 .ow .dt),trivial⟩
  ·skip
   have hnA:g.1=[]:=List.eq_nil_of_length_eq_zero (by omega)
   refine .exit<|ks_e<|kl_e<|kb_hit<|ks_n<|.seq<|.seq ?_
   refine .keep [eP 1 (rG g),eB 2 760 2,eB 3 761 2,(.b 760,.b 30 2 [[nl,nl]]),eU 760,(.b 761,.b 30 2 [[.d (dRs g.1),nl]]),eU 761] [(760,110),(761,111)] ⟨kd,kX,kX,kb 110 rfl (.r2 .dt .dt),kb 111 rfl (.r2 (Cto.nilE 2 (by rw[hnA];rfl)) .dt),trivial⟩ ?_
   refine .region<|.c .a<|.nn<|.block ?_
   refine .loopK (fun m σ=>(∃j:Nat,m=g.2.length -j∧(j=0)∧σ=[eP 1 (rG g),eB 2 120 2,eB 3 121 2,eN 5 (j:Nat),(.b 120,.b 30 2 [[nl,nl]]),eU 120,(.b 121,.b 30 2 [[.d (dRs g.1),nl]]),eU 121])∨(∃j:Nat,m=g.2.length -j∧(1≤j)∧(j≤g.2.length)∧σ=[eP 1 (rG g),eB 2 120 2,eB 3 121 2,eN 5 (j:Nat),(.b 120,.b 30 2 [[nl,nl]]),eU 120,(.b 122,.b 80 2 (dR ((g.2.take j).map rP))),eU 122,(.b 121,.b 30 2 [[.d (dRs g.1),.own 122 2 (j)]]),eU 121])) [(120,760),(121,761)] (.inl ⟨0,rfl,rfl,rfl⟩) ⟨kd,kX,kX,kd,kb 760 rfl (.r2 .dt .dt),kb 761 rfl (.r2 .dt .dt),trivial⟩ ?_
   rintro m σ (⟨j,hm0,rfl,rfl⟩|⟨j,hm0,hj1,hj2,rfl⟩)
   ·skip
    refine .seq<|.r<|.c .m<|.c (.fP 1 0 false)<|.c (.l1 1)<|.c (.ln 80 2 48)<|.c .ls<|.nn ?_
    refine .cD rfl (fun h40=>?_) (fun h40=>?_)
    ·skip
     obtain⟨x,hx1⟩:∃u,g.2[0]?=some u:=⟨_,List.getElem?_eq_getElem (by omega)⟩
     obtain⟨hsm,hpb,hps⟩:=hP _ (List.mem_of_getElem? hx1)
     have hsl:=hsm.1
     refine .skip<|ks_n<|.seq<|.block<|.r<|.c (.fP 1 0 false)<|.c (.l1 1)<|.c .m ?_
     refine .c (.xL 80 2 48 rfl rfl rfl rfl rfl (map_at hx1)) ?_
     refine .c (.fP 0 0 false)<|.c (.l1 1) ?_
     refine .c (.cO [.tmp 48] [(100,149)] rfl rfl rfl rfl (l2Copy_own (hP x (List.mem_of_getElem? hx1)).1) rfl trivial flatS.nil (flatS.nil.cons rfl) HB.nil.data outS_one) ?_
     refine .c (.bu [(0,.tmp 49)] [(0,1),(1,1)] [.slice none 0 0,.slice none 0 0])<|.c (.al 106 [.slice none 0 0,.slice none 0 0])<|.c (.sT 2 true)<|.nn<|.seq<|.r<|.c .a<|.nn<|.block ?_
     refine .loopK (fun m σ=>(∃k:Nat,m=x.2.length -k∧(k=0)∧σ=[eP 1 (rG g),eB 2 130 2,eB 3 131 2,eN 5 (0:Nat),eB 6 132 2,eN 7 (k:Nat),(.b 130,.b 30 2 [[nl,nl]]),eU 130,(.b 131,.b 30 2 [[.d (dRs g.1),nl]]),eU 131,(.b 133,.b 148 2 (dR (x.1.map rL))),eU 133,(.b 132,.b 80 2 [[.own 133 2 (x.1.length),nl]]),eU 132])∨(∃k:Nat,m=x.2.length -k∧(1≤k)∧(k≤x.2.length)∧σ=[eP 1 (rG g),eB 2 130 2,eB 3 131 2,eN 5 (0:Nat),eB 6 132 2,eN 7 (k:Nat),(.b 130,.b 30 2 [[nl,nl]]),eU 130,(.b 131,.b 30 2 [[.d (dRs g.1),nl]]),eU 131,(.b 133,.b 148 2 (dR (x.1.map rL))),eU 133,(.b 134,.b 66 9 (dR ((x.2.take k).map rS))),eU 134,(.b 132,.b 80 2 [[.own 133 2 (x.1.length),.own 134 9 (k)]]),eU 132])) [(130,120),(131,121),(132,106),(133,149)] (.inl ⟨0,rfl,rfl,rfl⟩) ⟨kd,kX,kX,kd,kX,kd,kb 120 rfl (.r2 .dt .dt),kb 121 rfl (.r2 .dt .dt),kb 149 rfl (.dt rfl),kb 106 rfl (.r2 .ow .dt),trivial⟩ ?_
     rintro m σ (⟨k,hm0,rfl,rfl⟩|⟨k,hm0,hk1,hk2,rfl⟩)
     ·skip
      refine .seq<|.r<|.c .m<|.c (.fP 1 0 false)<|.c (.l1 1)<|.c .m ?_
      refine .c (.xL 80 2 48 rfl rfl rfl rfl rfl (map_at hx1)) ?_
      refine .c (.fP 1 0 false)<|.c (.l1 1)<|.c (.ln 66 9 152)<|.c .ls<|.nn ?_
      refine .cD rfl (fun h59=>?_) (fun h59=>?_)
      ·skip
       obtain⟨y,hy1⟩:∃u,x.2[0]?=some u:=⟨_,List.getElem?_eq_getElem (by omega)⟩
       refine .skip<|ks_n<|.seq<|.block ?_
       refine ACode.drawK (by kernel_rfl) (by kernel_rfl) ?_
       refine .c (.fB 1 0 false)<|.c (.b1 1)<|.c (.fP 1 0 false)<|.c (.l1 1)<|.c .m ?_
       refine .c (.xL 80 2 48 rfl rfl rfl rfl rfl (map_at hx1)) ?_
       refine .c (.fP 1 0 false)<|.c (.l1 1)<|.c .m ?_
       refine .c (.xL 66 9 152 rfl rfl rfl rfl rfl (map_at hy1)) ?_
       refine .c (.lN 9) ?_
       refine .c (.cP [.tmp 72] rfl rfl rfl rfl (l3Copy_fn y ((hP x (List.mem_of_getElem? hx1)).2.2 y (List.mem_of_getElem? hy1))) rfl) ?_
       refine .c (.li 66 8 0 [.tmp 73]) ?_
       refine .c (St1.appN (k':=175) (e:=66) (sz:=8) (by':=152) rfl rfl rfl rfl rfl (by kernel_rfl) rfl rfl rfl (by simp) (by first|(simp[dR];done)|(simp[dR];omega)) rfl rfl) ?_
       refine .c (.fB 1 0 false)<|.c (.sT 1 false) ?_
       refine .nil ⟨by kernel_rfl,?_⟩
       refine kb_n<|ks_n<|.region<|.c .m<|.c .pl<|.c .a<|.nil ?_
       refine kl_k [(130,130),(131,131),(132,132),(133,133),(134,175)] (.inr ⟨1,rfl,by omega,by omega,rfl⟩) ⟨kd,kX,kX,kd,kX,kd,kb 130 rfl (.r2 .dt .dt),kb 131 rfl (.r2 .dt .dt),kb 133 rfl (.dt rfl),kb 175 rfl (.dt rfl (by first|exact dR_take (rS) hy1|exact dR_take1 (rS) hy1|rfl|(simp[dR];done))),kb 132 rfl (.r2 .ow .ow),trivial⟩
      ·skip
       have hnS:x.2=[]:=List.eq_nil_of_length_eq_zero (by omega)
       refine .exit<|ks_e<|kl_e<|kb_hit<|ks_n ?_
       refine .keep [eP 1 (rG g),eB 2 840 2,eB 3 841 2,eN 5 (0:Nat),eB 6 842 2,(.b 840,.b 30 2 [[nl,nl]]),eU 840,(.b 841,.b 30 2 [[.d (dRs g.1),nl]]),eU 841,(.b 842,.b 80 2 [[.d (dLs x.1),.d (dMs x.2)]]),eU 842] [(840,130),(841,131),(842,132)] ⟨kd,kX,kX,kd,kX,kb 130 rfl (.r2 .dt .dt),kb 131 rfl (.r2 .dt .dt),kb 132 rfl (.r2 (.fz rfl (by first|rfl|(rw[List.take_length];done)|(rw[List.take_length];rfl)) (by first|rfl|(simp;done)|(simp;omega)) (by omega)) (Cto.nilE 9 (by rw[hnS];rfl))),trivial⟩ ?_
       refine .region<|.c (.fB 1 0 false)<|.c (.b1 1)<|.c (.bN 2)<|.c (.li 80 1 0 [.tmp 79]) ?_
       refine .c (St1.appN (k':=181) (e:=80) (sz:=1) (by':=48) rfl rfl rfl rfl rfl (by kernel_rfl) rfl rfl rfl (by simp) (by first|(simp[dR];done)|(simp[dR];omega)) rfl rfl) ?_
       refine .c (.fB 1 0 false)<|.c (.sT 1 false)<|.nil<|kb_n<|ks_n<|.region<|.c .m<|.c .pl<|.c .a<|.nil ?_
       refine kl_k [(120,840),(121,841),(122,181)] (.inr ⟨1,rfl,by omega,by omega,rfl⟩) ⟨kd,kX,kX,kd,kb 840 rfl (.r2 .dt .dt),kb 181 rfl (.dt rfl (by first|exact dR_take (rP) hx1|exact dR_take1 (rP) hx1|rfl|(simp[dR];done))),kb 841 rfl (.r2 .dt .ow),trivial⟩
     ·skip
      refine .seq<|.r<|.c .m<|.c (.fP 1 0 false)<|.c (.l1 1)<|.c .m ?_
      refine .c (.xL 80 2 48 rfl rfl rfl rfl rfl (map_at hx1)) ?_
      refine .c (.fP 1 0 false)<|.c (.l1 1)<|.c (.ln 66 9 152)<|.c .ls<|.nn ?_
      refine .cD rfl (fun h59=>?_) (fun h59=>?_)
      ·skip
       obtain⟨y,hy1⟩:∃u,x.2[k]?=some u:=⟨_,List.getElem?_eq_getElem (by omega)⟩
       refine .skip<|ks_n<|.seq<|.block ?_
       refine ACode.drawK (by kernel_rfl) (by kernel_rfl) ?_
       refine .c (.fB 1 0 false)<|.c (.b1 1)<|.c (.fP 1 0 false)<|.c (.l1 1)<|.c .m ?_
       refine .c (.xL 80 2 48 rfl rfl rfl rfl rfl (map_at hx1)) ?_
       refine .c (.fP 1 0 false)<|.c (.l1 1)<|.c .m ?_
       refine .c (.xL 66 9 152 rfl rfl rfl rfl rfl (map_at hy1)) ?_
       refine .c (.lN 9) ?_
       refine .c (.cP [.tmp 72] rfl rfl rfl rfl (l3Copy_fn y ((hP x (List.mem_of_getElem? hx1)).2.2 y (List.mem_of_getElem? hy1))) rfl) ?_
       refine .c (.li 66 8 0 [.tmp 73]) ?_
       refine .c (St1.appB (k':=175) (e:=66) (sz:=8) (by':=152) rfl rfl rfl rfl rfl (by kernel_rfl) rfl rfl rfl rfl (by first|(simp[dR];done)|(simp[dR];omega)) (by first|(simp[dR];done)|(simp[dR];omega)) rfl rfl rfl) ?_
       refine .c (.fB 1 0 false)<|.c (.sT 1 false) ?_
       refine .nil ⟨by kernel_rfl,?_⟩
       refine kb_n<|ks_n<|.region<|.c .m<|.c .pl<|.c .a<|.nil ?_
       refine kl_k [(130,130),(131,131),(132,132),(133,133),(134,175)] (.inr ⟨k+1,rfl,by omega,by omega,rfl⟩) ⟨kd,kX,kX,kd,kX,kd,kb 130 rfl (.r2 .dt .dt),kb 131 rfl (.r2 .dt .dt),kb 133 rfl (.dt rfl),kb 175 rfl (.dt rfl (by first|exact dR_take (rS) hy1|exact dR_take1 (rS) hy1|rfl|(simp[dR];done))),kb 132 rfl (.r2 .ow .ow),trivial⟩
      ·skip
       obtain rfl:k=x.2.length:=by omega
       refine .exit<|ks_e<|kl_e<|kb_hit<|ks_n ?_
       refine .keep [eP 1 (rG g),eB 2 840 2,eB 3 841 2,eN 5 (0:Nat),eB 6 842 2,(.b 840,.b 30 2 [[nl,nl]]),eU 840,(.b 841,.b 30 2 [[.d (dRs g.1),nl]]),eU 841,(.b 842,.b 80 2 [[.d (dLs x.1),.d (dMs x.2)]]),eU 842] [(840,130),(841,131),(842,132)] ⟨kd,kX,kX,kd,kX,kb 130 rfl (.r2 .dt .dt),kb 131 rfl (.r2 .dt .dt),kb 132 rfl (.r2 (.fz rfl (by first|rfl|(rw[List.take_length];done)|(rw[List.take_length];rfl)) (by first|rfl|(simp;done)|(simp;omega)) (by omega)) (.fz rfl (by first|rfl|(rw[List.take_length];done)|(rw[List.take_length];rfl)) (by first|rfl|(simp;done)|(simp;omega)) (by omega))),trivial⟩ ?_
       refine .region<|.c (.fB 1 0 false)<|.c (.b1 1)<|.c (.bN 2)<|.c (.li 80 1 0 [.tmp 79]) ?_
       refine .c (St1.appN (k':=181) (e:=80) (sz:=1) (by':=48) rfl rfl rfl rfl rfl (by kernel_rfl) rfl rfl rfl (by simp) (by first|(simp[dR];done)|(simp[dR];omega)) rfl rfl) ?_
       refine .c (.fB 1 0 false)<|.c (.sT 1 false)<|.nil<|kb_n<|ks_n<|.region<|.c .m<|.c .pl<|.c .a<|.nil ?_
       refine kl_k [(120,840),(121,841),(122,181)] (.inr ⟨1,rfl,by omega,by omega,rfl⟩) ⟨kd,kX,kX,kd,kb 840 rfl (.r2 .dt .dt),kb 181 rfl (.dt rfl (by first|exact dR_take (rP) hx1|exact dR_take1 (rP) hx1|rfl|(simp[dR];done))),kb 841 rfl (.r2 .dt .ow),trivial⟩
    ·skip
     have hnP:g.2=[]:=List.eq_nil_of_length_eq_zero (by omega)
     refine .exit<|ks_e<|kl_e<|kb_hit<|ks_n<|.r<|.c (.bN 2)<|.c (.sT 2 true)<|.nn<|.ret ?_
     refine kf_wret [eB 2 100 2,(.b 100,.b 30 2 [[.d (dRs g.1),.d (dPts g.2)]]),eU 100] (Wk.keep [(100,120)] rfl rfl ⟨kX,kb 120 rfl (.r2 .dt (Cto.nilE 2 (by rw[hnP];rfl))),trivial⟩) rfl ?_ nobox
     rfl
   ·skip
    refine .seq<|.r<|.c .m<|.c (.fP 1 0 false)<|.c (.l1 1)<|.c (.ln 80 2 48)<|.c .ls<|.nn ?_
    refine .cD rfl (fun h40=>?_) (fun h40=>?_)
    ·skip
     obtain⟨x,hx1⟩:∃u,g.2[j]?=some u:=⟨_,List.getElem?_eq_getElem (by omega)⟩
     obtain⟨hsm,hpb,hps⟩:=hP _ (List.mem_of_getElem? hx1)
     have hsl:=hsm.1
     refine .skip<|ks_n<|.seq<|.block<|.r<|.c (.fP 1 0 false)<|.c (.l1 1)<|.c .m ?_
     refine .c (.xL 80 2 48 rfl rfl rfl rfl rfl (map_at hx1)) ?_
     refine .c (.fP 0 0 false)<|.c (.l1 1) ?_
     refine .c (.cO [.tmp 48] [(100,149)] rfl rfl rfl rfl (l2Copy_own (hP x (List.mem_of_getElem? hx1)).1) rfl trivial flatS.nil (flatS.nil.cons rfl) HB.nil.data outS_one) ?_
     refine .c (.bu [(0,.tmp 49)] [(0,1),(1,1)] [.slice none 0 0,.slice none 0 0])<|.c (.al 106 [.slice none 0 0,.slice none 0 0])<|.c (.sT 2 true)<|.nn<|.seq<|.r<|.c .a<|.nn<|.block ?_
     refine .loopK (fun m σ=>(∃k:Nat,m=x.2.length -k∧(k=0)∧σ=[eP 1 (rG g),eB 2 130 2,eB 3 131 2,eN 5 (j:Nat),eB 6 133 2,eN 7 (k:Nat),(.b 130,.b 30 2 [[nl,nl]]),eU 130,(.b 132,.b 80 2 (dR ((g.2.take j).map rP))),eU 132,(.b 131,.b 30 2 [[.d (dRs g.1),.own 132 2 (j)]]),eU 131,(.b 134,.b 148 2 (dR (x.1.map rL))),eU 134,(.b 133,.b 80 2 [[.own 134 2 (x.1.length),nl]]),eU 133])∨(∃k:Nat,m=x.2.length -k∧(1≤k)∧(k≤x.2.length)∧σ=[eP 1 (rG g),eB 2 130 2,eB 3 131 2,eN 5 (j:Nat),eB 6 133 2,eN 7 (k:Nat),(.b 130,.b 30 2 [[nl,nl]]),eU 130,(.b 132,.b 80 2 (dR ((g.2.take j).map rP))),eU 132,(.b 131,.b 30 2 [[.d (dRs g.1),.own 132 2 (j)]]),eU 131,(.b 134,.b 148 2 (dR (x.1.map rL))),eU 134,(.b 135,.b 66 9 (dR ((x.2.take k).map rS))),eU 135,(.b 133,.b 80 2 [[.own 134 2 (x.1.length),.own 135 9 (k)]]),eU 133])) [(130,120),(131,121),(132,122),(133,106),(134,149)] (.inl ⟨0,rfl,rfl,rfl⟩) ⟨kd,kX,kX,kd,kX,kd,kb 120 rfl (.r2 .dt .dt),kb 122 rfl (.dt rfl),kb 121 rfl (.r2 .dt .ow),kb 149 rfl (.dt rfl),kb 106 rfl (.r2 .ow .dt),trivial⟩ ?_
     rintro m σ (⟨k,hm0,rfl,rfl⟩|⟨k,hm0,hk1,hk2,rfl⟩)
     ·skip
      refine .seq<|.r<|.c .m<|.c (.fP 1 0 false)<|.c (.l1 1)<|.c .m ?_
      refine .c (.xL 80 2 48 rfl rfl rfl rfl rfl (map_at hx1)) ?_
      refine .c (.fP 1 0 false)<|.c (.l1 1)<|.c (.ln 66 9 152)<|.c .ls<|.nn ?_
      refine .cD rfl (fun h59=>?_) (fun h59=>?_)
      ·skip
       obtain⟨y,hy1⟩:∃u,x.2[0]?=some u:=⟨_,List.getElem?_eq_getElem (by omega)⟩
       refine .skip<|ks_n<|.seq<|.block ?_
       refine ACode.drawK (by kernel_rfl) (by kernel_rfl) ?_
       refine .c (.fB 1 0 false)<|.c (.b1 1)<|.c (.fP 1 0 false)<|.c (.l1 1)<|.c .m ?_
       refine .c (.xL 80 2 48 rfl rfl rfl rfl rfl (map_at hx1)) ?_
       refine .c (.fP 1 0 false)<|.c (.l1 1)<|.c .m ?_
       refine .c (.xL 66 9 152 rfl rfl rfl rfl rfl (map_at hy1)) ?_
       refine .c (.lN 9) ?_
       refine .c (.cP [.tmp 72] rfl rfl rfl rfl (l3Copy_fn y ((hP x (List.mem_of_getElem? hx1)).2.2 y (List.mem_of_getElem? hy1))) rfl) ?_
       refine .c (.li 66 8 0 [.tmp 73]) ?_
       refine .c (St1.appN (k':=175) (e:=66) (sz:=8) (by':=152) rfl rfl rfl rfl rfl (by kernel_rfl) rfl rfl rfl (by simp) (by first|(simp[dR];done)|(simp[dR];omega)) rfl rfl) ?_
       refine .c (.fB 1 0 false)<|.c (.sT 1 false) ?_
       refine .nil ⟨by kernel_rfl,?_⟩
       refine kb_n<|ks_n<|.region<|.c .m<|.c .pl<|.c .a<|.nil ?_
       refine kl_k [(130,130),(131,131),(132,132),(133,133),(134,134),(135,175)] (.inr ⟨1,rfl,by omega,by omega,rfl⟩) ⟨kd,kX,kX,kd,kX,kd,kb 130 rfl (.r2 .dt .dt),kb 132 rfl (.dt rfl),kb 131 rfl (.r2 .dt .ow),kb 134 rfl (.dt rfl),kb 175 rfl (.dt rfl (by first|exact dR_take (rS) hy1|exact dR_take1 (rS) hy1|rfl|(simp[dR];done))),kb 133 rfl (.r2 .ow .ow),trivial⟩
      ·skip
       have hnS:x.2=[]:=List.eq_nil_of_length_eq_zero (by omega)
       refine .exit<|ks_e<|kl_e<|kb_hit<|ks_n ?_
       refine .keep [eP 1 (rG g),eB 2 840 2,eB 3 841 2,eN 5 (j:Nat),eB 6 843 2,(.b 840,.b 30 2 [[nl,nl]]),eU 840,(.b 842,.b 80 2 (dR ((g.2.take j).map rP))),eU 842,(.b 841,.b 30 2 [[.d (dRs g.1),.own 842 2 (j)]]),eU 841,(.b 843,.b 80 2 [[.d (dLs x.1),.d (dMs x.2)]]),eU 843] [(840,130),(841,131),(842,132),(843,133)] ⟨kd,kX,kX,kd,kX,kb 130 rfl (.r2 .dt .dt),kb 132 rfl (.dt rfl),kb 131 rfl (.r2 .dt .ow),kb 133 rfl (.r2 (.fz rfl (by first|rfl|(rw[List.take_length];done)|(rw[List.take_length];rfl)) (by first|rfl|(simp;done)|(simp;omega)) (by omega)) (Cto.nilE 9 (by rw[hnS];rfl))),trivial⟩ ?_
       refine .region<|.c (.fB 1 0 false)<|.c (.b1 1)<|.c (.bN 2)<|.c (.li 80 1 0 [.tmp 79]) ?_
       refine .c (St1.appB (k':=181) (e:=80) (sz:=1) (by':=48) rfl rfl rfl rfl rfl (by kernel_rfl) rfl rfl rfl rfl (by first|(simp[dR];done)|(simp[dR];omega)) (by first|(simp[dR];done)|(simp[dR];omega)) rfl rfl rfl) ?_
       refine .c (.fB 1 0 false)<|.c (.sT 1 false)<|.nil<|kb_n<|ks_n<|.region<|.c .m<|.c .pl<|.c .a<|.nil ?_
       refine kl_k [(120,840),(121,841),(122,181)] (.inr ⟨j+1,rfl,by omega,by omega,rfl⟩) ⟨kd,kX,kX,kd,kb 840 rfl (.r2 .dt .dt),kb 181 rfl (.dt rfl (by first|exact dR_take (rP) hx1|exact dR_take1 (rP) hx1|rfl|(simp[dR];done))),kb 841 rfl (.r2 .dt .ow),trivial⟩
     ·skip
      refine .seq<|.r<|.c .m<|.c (.fP 1 0 false)<|.c (.l1 1)<|.c .m ?_
      refine .c (.xL 80 2 48 rfl rfl rfl rfl rfl (map_at hx1)) ?_
      refine .c (.fP 1 0 false)<|.c (.l1 1)<|.c (.ln 66 9 152)<|.c .ls<|.nn ?_
      refine .cD rfl (fun h59=>?_) (fun h59=>?_)
      ·skip
       obtain⟨y,hy1⟩:∃u,x.2[k]?=some u:=⟨_,List.getElem?_eq_getElem (by omega)⟩
       refine .skip<|ks_n<|.seq<|.block ?_
       refine ACode.drawK (by kernel_rfl) (by kernel_rfl) ?_
       refine .c (.fB 1 0 false)<|.c (.b1 1)<|.c (.fP 1 0 false)<|.c (.l1 1)<|.c .m ?_
       refine .c (.xL 80 2 48 rfl rfl rfl rfl rfl (map_at hx1)) ?_
       refine .c (.fP 1 0 false)<|.c (.l1 1)<|.c .m ?_
       refine .c (.xL 66 9 152 rfl rfl rfl rfl rfl (map_at hy1)) ?_
       refine .c (.lN 9) ?_
       refine .c (.cP [.tmp 72] rfl rfl rfl rfl (l3Copy_fn y ((hP x (List.mem_of_getElem? hx1)).2.2 y (List.mem_of_getElem? hy1))) rfl) ?_
       refine .c (.li 66 8 0 [.tmp 73]) ?_
       refine .c (St1.appB (k':=175) (e:=66) (sz:=8) (by':=152) rfl rfl rfl rfl rfl (by kernel_rfl) rfl rfl rfl rfl (by first|(simp[dR];done)|(simp[dR];omega)) (by first|(simp[dR];done)|(simp[dR];omega)) rfl rfl rfl) ?_
       refine .c (.fB 1 0 false)<|.c (.sT 1 false) ?_
       refine .nil ⟨by kernel_rfl,?_⟩
       refine kb_n<|ks_n<|.region<|.c .m<|.c .pl<|.c .a<|.nil ?_
       refine kl_k [(130,130),(131,131),(132,132),(133,133),(134,134),(135,175)] (.inr ⟨k+1,rfl,by omega,by omega,rfl⟩) ⟨kd,kX,kX,kd,kX,kd,kb 130 rfl (.r2 .dt .dt),kb 132 rfl (.dt rfl),kb 131 rfl (.r2 .dt .ow),kb 134 rfl (.dt rfl),kb 175 rfl (.dt rfl (by first|exact dR_take (rS) hy1|exact dR_take1 (rS) hy1|rfl|(simp[dR];done))),kb 133 rfl (.r2 .ow .ow),trivial⟩
      ·skip
       obtain rfl:k=x.2.length:=by omega
       refine .exit<|ks_e<|kl_e<|kb_hit<|ks_n ?_
       refine .keep [eP 1 (rG g),eB 2 840 2,eB 3 841 2,eN 5 (j:Nat),eB 6 843 2,(.b 840,.b 30 2 [[nl,nl]]),eU 840,(.b 842,.b 80 2 (dR ((g.2.take j).map rP))),eU 842,(.b 841,.b 30 2 [[.d (dRs g.1),.own 842 2 (j)]]),eU 841,(.b 843,.b 80 2 [[.d (dLs x.1),.d (dMs x.2)]]),eU 843] [(840,130),(841,131),(842,132),(843,133)] ⟨kd,kX,kX,kd,kX,kb 130 rfl (.r2 .dt .dt),kb 132 rfl (.dt rfl),kb 131 rfl (.r2 .dt .ow),kb 133 rfl (.r2 (.fz rfl (by first|rfl|(rw[List.take_length];done)|(rw[List.take_length];rfl)) (by first|rfl|(simp;done)|(simp;omega)) (by omega)) (.fz rfl (by first|rfl|(rw[List.take_length];done)|(rw[List.take_length];rfl)) (by first|rfl|(simp;done)|(simp;omega)) (by omega))),trivial⟩ ?_
       refine .region<|.c (.fB 1 0 false)<|.c (.b1 1)<|.c (.bN 2)<|.c (.li 80 1 0 [.tmp 79]) ?_
       refine .c (St1.appB (k':=181) (e:=80) (sz:=1) (by':=48) rfl rfl rfl rfl rfl (by kernel_rfl) rfl rfl rfl rfl (by first|(simp[dR];done)|(simp[dR];omega)) (by first|(simp[dR];done)|(simp[dR];omega)) rfl rfl rfl) ?_
       refine .c (.fB 1 0 false)<|.c (.sT 1 false)<|.nil<|kb_n<|ks_n<|.region<|.c .m<|.c .pl<|.c .a<|.nil ?_
       refine kl_k [(120,840),(121,841),(122,181)] (.inr ⟨j+1,rfl,by omega,by omega,rfl⟩) ⟨kd,kX,kX,kd,kb 840 rfl (.r2 .dt .dt),kb 181 rfl (.dt rfl (by first|exact dR_take (rP) hx1|exact dR_take1 (rP) hx1|rfl|(simp[dR];done))),kb 841 rfl (.r2 .dt .ow),trivial⟩
    ·skip
     obtain rfl:j=g.2.length:=by omega
     refine .exit<|ks_e<|kl_e<|kb_hit<|ks_n<|.r<|.c (.bN 2)<|.c (.sT 2 true)<|.nn<|.ret ?_
     refine kf_wret [eB 2 100 2,(.b 100,.b 30 2 [[.d (dRs g.1),.d (dPts g.2)]]),eU 100] (Wk.keep [(100,120)] rfl rfl ⟨kX,kb 120 rfl (.r2 .dt (.fz rfl (by first|rfl|(rw[List.take_length];done)|(rw[List.take_length];rfl)) (by first|rfl|(simp;done)|(simp;omega)) (by omega))),trivial⟩) rfl ?_ nobox
     rfl
 ·skip
  refine .seq<|.r<|.c .m<|.c (.fP 0 0 false)<|.c (.l1 1)<|.c (.ln 45 2 40)<|.c .ls<|.nn ?_
  refine .cD rfl (fun h13=>?_) (fun h13=>?_)
  ·skip
   obtain⟨x,hx1⟩:∃u,g.1[i]?=some u:=⟨_,List.getElem?_eq_getElem (by omega)⟩
   have hxb:=hA _ (List.mem_of_getElem? hx1)
   refine .skip<|ks_n<|.seq<|.block ?_
   refine ACode.drawK (by kernel_rfl) (by kernel_rfl) ?_
   refine .c (.fB 0 0 false)<|.c (.b1 1)<|.c (.fP 0 0 false)<|.c (.l1 1)<|.c .m ?_
   refine .c (.xL 45 2 40 rfl rfl rfl rfl rfl (map_at hx1)) ?_
   refine .c (.fP 0 0 false)<|.c (.l1 1) ?_
   refine .c (St1.lit0 (k':=124) (e:=3) (sz:=1) (b:=true) rfl rfl rfl rfl (by kernel_rfl) rfl rfl) ?_
   refine .c (.fP 0 0 false)<|.c (.l1 1)<|.c .m ?_
   refine .c (.xL 45 2 40 rfl rfl rfl rfl rfl (map_at hx1)) ?_
   refine .c (.fP 1 0 false)<|.c (.l1 1) ?_
   refine .c (St1.appD (rows:=[]) (e:=3) (sz:=0) (by':=8) rfl rfl rfl rfl rfl (by kernel_rfl) rfl rfl rfl rfl rfl (by simp;omega) rfl) ?_
   refine .c (.bu [(0,.tmp 23),(1,.tmp 31)] [(0,1),(1,1)] [.string ByteArray.empty,.slice none 0 0])<|.c (.li 45 1 0 [.tmp 32]) ?_
   refine .c (St1.appB (k':=134) (e:=45) (sz:=1) (by':=40) rfl rfl rfl rfl rfl (by kernel_rfl) rfl rfl rfl rfl (by first|(simp[dR];done)|(simp[dR];omega)) (by first|(simp[dR];done)|(simp[dR];omega)) rfl rfl rfl) ?_
   refine .c (.fB 0 0 false)<|.c (.sT 1 false) ?_
   refine .nil ⟨by kernel_rfl,?_⟩
   refine kb_n<|ks_n<|.region<|.c .m<|.c .pl<|.c .a<|.nil ?_
   refine kl_k [(110,110),(111,111),(112,134)] (.inr ⟨i+1,rfl,by omega,by omega,rfl⟩) ⟨kd,kX,kX,kd,kb 110 rfl (.r2 .dt .dt),kb 134 rfl (.dt rfl (by first|exact dR_take (rR) hx1|exact dR_take1 (rR) hx1|rfl|(simp[dR];done))),kb 111 rfl (.r2 .ow .dt),trivial⟩
  ·skip
   obtain rfl:i=g.1.length:=by omega
   refine .exit<|ks_e<|kl_e<|kb_hit<|ks_n<|.seq<|.seq ?_
   refine .keep [eP 1 (rG g),eB 2 760 2,eB 3 761 2,(.b 760,.b 30 2 [[nl,nl]]),eU 760,(.b 761,.b 30 2 [[.d (dRs g.1),nl]]),eU 761] [(760,110),(761,111)] ⟨kd,kX,kX,kb 110 rfl (.r2 .dt .dt),kb 111 rfl (.r2 (.fz rfl (by first|rfl|(rw[List.take_length];done)|(rw[List.take_length];rfl)) (by first|rfl|(simp;done)|(simp;omega)) (by omega)) .dt),trivial⟩ ?_
   refine .region<|.c .a<|.nn<|.block ?_
   refine .loopK (fun m σ=>(∃j:Nat,m=g.2.length -j∧(j=0)∧σ=[eP 1 (rG g),eB 2 120 2,eB 3 121 2,eN 5 (j:Nat),(.b 120,.b 30 2 [[nl,nl]]),eU 120,(.b 121,.b 30 2 [[.d (dRs g.1),nl]]),eU 121])∨(∃j:Nat,m=g.2.length -j∧(1≤j)∧(j≤g.2.length)∧σ=[eP 1 (rG g),eB 2 120 2,eB 3 121 2,eN 5 (j:Nat),(.b 120,.b 30 2 [[nl,nl]]),eU 120,(.b 122,.b 80 2 (dR ((g.2.take j).map rP))),eU 122,(.b 121,.b 30 2 [[.d (dRs g.1),.own 122 2 (j)]]),eU 121])) [(120,760),(121,761)] (.inl ⟨0,rfl,rfl,rfl⟩) ⟨kd,kX,kX,kd,kb 760 rfl (.r2 .dt .dt),kb 761 rfl (.r2 .dt .dt),trivial⟩ ?_
   rintro m σ (⟨j,hm0,rfl,rfl⟩|⟨j,hm0,hj1,hj2,rfl⟩)
   ·skip
    refine .seq<|.r<|.c .m<|.c (.fP 1 0 false)<|.c (.l1 1)<|.c (.ln 80 2 48)<|.c .ls<|.nn ?_
    refine .cD rfl (fun h40=>?_) (fun h40=>?_)
    ·skip
     obtain⟨x,hx1⟩:∃u,g.2[0]?=some u:=⟨_,List.getElem?_eq_getElem (by omega)⟩
     obtain⟨hsm,hpb,hps⟩:=hP _ (List.mem_of_getElem? hx1)
     have hsl:=hsm.1
     refine .skip<|ks_n<|.seq<|.block<|.r<|.c (.fP 1 0 false)<|.c (.l1 1)<|.c .m ?_
     refine .c (.xL 80 2 48 rfl rfl rfl rfl rfl (map_at hx1)) ?_
     refine .c (.fP 0 0 false)<|.c (.l1 1) ?_
     refine .c (.cO [.tmp 48] [(100,149)] rfl rfl rfl rfl (l2Copy_own (hP x (List.mem_of_getElem? hx1)).1) rfl trivial flatS.nil (flatS.nil.cons rfl) HB.nil.data outS_one) ?_
     refine .c (.bu [(0,.tmp 49)] [(0,1),(1,1)] [.slice none 0 0,.slice none 0 0])<|.c (.al 106 [.slice none 0 0,.slice none 0 0])<|.c (.sT 2 true)<|.nn<|.seq<|.r<|.c .a<|.nn<|.block ?_
     refine .loopK (fun m σ=>(∃k:Nat,m=x.2.length -k∧(k=0)∧σ=[eP 1 (rG g),eB 2 130 2,eB 3 131 2,eN 5 (0:Nat),eB 6 132 2,eN 7 (k:Nat),(.b 130,.b 30 2 [[nl,nl]]),eU 130,(.b 131,.b 30 2 [[.d (dRs g.1),nl]]),eU 131,(.b 133,.b 148 2 (dR (x.1.map rL))),eU 133,(.b 132,.b 80 2 [[.own 133 2 (x.1.length),nl]]),eU 132])∨(∃k:Nat,m=x.2.length -k∧(1≤k)∧(k≤x.2.length)∧σ=[eP 1 (rG g),eB 2 130 2,eB 3 131 2,eN 5 (0:Nat),eB 6 132 2,eN 7 (k:Nat),(.b 130,.b 30 2 [[nl,nl]]),eU 130,(.b 131,.b 30 2 [[.d (dRs g.1),nl]]),eU 131,(.b 133,.b 148 2 (dR (x.1.map rL))),eU 133,(.b 134,.b 66 9 (dR ((x.2.take k).map rS))),eU 134,(.b 132,.b 80 2 [[.own 133 2 (x.1.length),.own 134 9 (k)]]),eU 132])) [(130,120),(131,121),(132,106),(133,149)] (.inl ⟨0,rfl,rfl,rfl⟩) ⟨kd,kX,kX,kd,kX,kd,kb 120 rfl (.r2 .dt .dt),kb 121 rfl (.r2 .dt .dt),kb 149 rfl (.dt rfl),kb 106 rfl (.r2 .ow .dt),trivial⟩ ?_
     rintro m σ (⟨k,hm0,rfl,rfl⟩|⟨k,hm0,hk1,hk2,rfl⟩)
     ·skip
      refine .seq<|.r<|.c .m<|.c (.fP 1 0 false)<|.c (.l1 1)<|.c .m ?_
      refine .c (.xL 80 2 48 rfl rfl rfl rfl rfl (map_at hx1)) ?_
      refine .c (.fP 1 0 false)<|.c (.l1 1)<|.c (.ln 66 9 152)<|.c .ls<|.nn ?_
      refine .cD rfl (fun h59=>?_) (fun h59=>?_)
      ·skip
       obtain⟨y,hy1⟩:∃u,x.2[0]?=some u:=⟨_,List.getElem?_eq_getElem (by omega)⟩
       refine .skip<|ks_n<|.seq<|.block ?_
       refine ACode.drawK (by kernel_rfl) (by kernel_rfl) ?_
       refine .c (.fB 1 0 false)<|.c (.b1 1)<|.c (.fP 1 0 false)<|.c (.l1 1)<|.c .m ?_
       refine .c (.xL 80 2 48 rfl rfl rfl rfl rfl (map_at hx1)) ?_
       refine .c (.fP 1 0 false)<|.c (.l1 1)<|.c .m ?_
       refine .c (.xL 66 9 152 rfl rfl rfl rfl rfl (map_at hy1)) ?_
       refine .c (.lN 9) ?_
       refine .c (.cP [.tmp 72] rfl rfl rfl rfl (l3Copy_fn y ((hP x (List.mem_of_getElem? hx1)).2.2 y (List.mem_of_getElem? hy1))) rfl) ?_
       refine .c (.li 66 8 0 [.tmp 73]) ?_
       refine .c (St1.appN (k':=175) (e:=66) (sz:=8) (by':=152) rfl rfl rfl rfl rfl (by kernel_rfl) rfl rfl rfl (by simp) (by first|(simp[dR];done)|(simp[dR];omega)) rfl rfl) ?_
       refine .c (.fB 1 0 false)<|.c (.sT 1 false) ?_
       refine .nil ⟨by kernel_rfl,?_⟩
       refine kb_n<|ks_n<|.region<|.c .m<|.c .pl<|.c .a<|.nil ?_
       refine kl_k [(130,130),(131,131),(132,132),(133,133),(134,175)] (.inr ⟨1,rfl,by omega,by omega,rfl⟩) ⟨kd,kX,kX,kd,kX,kd,kb 130 rfl (.r2 .dt .dt),kb 131 rfl (.r2 .dt .dt),kb 133 rfl (.dt rfl),kb 175 rfl (.dt rfl (by first|exact dR_take (rS) hy1|exact dR_take1 (rS) hy1|rfl|(simp[dR];done))),kb 132 rfl (.r2 .ow .ow),trivial⟩
      ·skip
       have hnS:x.2=[]:=List.eq_nil_of_length_eq_zero (by omega)
       refine .exit<|ks_e<|kl_e<|kb_hit<|ks_n ?_
       refine .keep [eP 1 (rG g),eB 2 840 2,eB 3 841 2,eN 5 (0:Nat),eB 6 842 2,(.b 840,.b 30 2 [[nl,nl]]),eU 840,(.b 841,.b 30 2 [[.d (dRs g.1),nl]]),eU 841,(.b 842,.b 80 2 [[.d (dLs x.1),.d (dMs x.2)]]),eU 842] [(840,130),(841,131),(842,132)] ⟨kd,kX,kX,kd,kX,kb 130 rfl (.r2 .dt .dt),kb 131 rfl (.r2 .dt .dt),kb 132 rfl (.r2 (.fz rfl (by first|rfl|(rw[List.take_length];done)|(rw[List.take_length];rfl)) (by first|rfl|(simp;done)|(simp;omega)) (by omega)) (Cto.nilE 9 (by rw[hnS];rfl))),trivial⟩ ?_
       refine .region<|.c (.fB 1 0 false)<|.c (.b1 1)<|.c (.bN 2)<|.c (.li 80 1 0 [.tmp 79]) ?_
       refine .c (St1.appN (k':=181) (e:=80) (sz:=1) (by':=48) rfl rfl rfl rfl rfl (by kernel_rfl) rfl rfl rfl (by simp) (by first|(simp[dR];done)|(simp[dR];omega)) rfl rfl) ?_
       refine .c (.fB 1 0 false)<|.c (.sT 1 false)<|.nil<|kb_n<|ks_n<|.region<|.c .m<|.c .pl<|.c .a<|.nil ?_
       refine kl_k [(120,840),(121,841),(122,181)] (.inr ⟨1,rfl,by omega,by omega,rfl⟩) ⟨kd,kX,kX,kd,kb 840 rfl (.r2 .dt .dt),kb 181 rfl (.dt rfl (by first|exact dR_take (rP) hx1|exact dR_take1 (rP) hx1|rfl|(simp[dR];done))),kb 841 rfl (.r2 .dt .ow),trivial⟩
     ·skip
      refine .seq<|.r<|.c .m<|.c (.fP 1 0 false)<|.c (.l1 1)<|.c .m ?_
      refine .c (.xL 80 2 48 rfl rfl rfl rfl rfl (map_at hx1)) ?_
      refine .c (.fP 1 0 false)<|.c (.l1 1)<|.c (.ln 66 9 152)<|.c .ls<|.nn ?_
      refine .cD rfl (fun h59=>?_) (fun h59=>?_)
      ·skip
       obtain⟨y,hy1⟩:∃u,x.2[k]?=some u:=⟨_,List.getElem?_eq_getElem (by omega)⟩
       refine .skip<|ks_n<|.seq<|.block ?_
       refine ACode.drawK (by kernel_rfl) (by kernel_rfl) ?_
       refine .c (.fB 1 0 false)<|.c (.b1 1)<|.c (.fP 1 0 false)<|.c (.l1 1)<|.c .m ?_
       refine .c (.xL 80 2 48 rfl rfl rfl rfl rfl (map_at hx1)) ?_
       refine .c (.fP 1 0 false)<|.c (.l1 1)<|.c .m ?_
       refine .c (.xL 66 9 152 rfl rfl rfl rfl rfl (map_at hy1)) ?_
       refine .c (.lN 9) ?_
       refine .c (.cP [.tmp 72] rfl rfl rfl rfl (l3Copy_fn y ((hP x (List.mem_of_getElem? hx1)).2.2 y (List.mem_of_getElem? hy1))) rfl) ?_
       refine .c (.li 66 8 0 [.tmp 73]) ?_
       refine .c (St1.appB (k':=175) (e:=66) (sz:=8) (by':=152) rfl rfl rfl rfl rfl (by kernel_rfl) rfl rfl rfl rfl (by first|(simp[dR];done)|(simp[dR];omega)) (by first|(simp[dR];done)|(simp[dR];omega)) rfl rfl rfl) ?_
       refine .c (.fB 1 0 false)<|.c (.sT 1 false) ?_
       refine .nil ⟨by kernel_rfl,?_⟩
       refine kb_n<|ks_n<|.region<|.c .m<|.c .pl<|.c .a<|.nil ?_
       refine kl_k [(130,130),(131,131),(132,132),(133,133),(134,175)] (.inr ⟨k+1,rfl,by omega,by omega,rfl⟩) ⟨kd,kX,kX,kd,kX,kd,kb 130 rfl (.r2 .dt .dt),kb 131 rfl (.r2 .dt .dt),kb 133 rfl (.dt rfl),kb 175 rfl (.dt rfl (by first|exact dR_take (rS) hy1|exact dR_take1 (rS) hy1|rfl|(simp[dR];done))),kb 132 rfl (.r2 .ow .ow),trivial⟩
      ·skip
       obtain rfl:k=x.2.length:=by omega
       refine .exit<|ks_e<|kl_e<|kb_hit<|ks_n ?_
       refine .keep [eP 1 (rG g),eB 2 840 2,eB 3 841 2,eN 5 (0:Nat),eB 6 842 2,(.b 840,.b 30 2 [[nl,nl]]),eU 840,(.b 841,.b 30 2 [[.d (dRs g.1),nl]]),eU 841,(.b 842,.b 80 2 [[.d (dLs x.1),.d (dMs x.2)]]),eU 842] [(840,130),(841,131),(842,132)] ⟨kd,kX,kX,kd,kX,kb 130 rfl (.r2 .dt .dt),kb 131 rfl (.r2 .dt .dt),kb 132 rfl (.r2 (.fz rfl (by first|rfl|(rw[List.take_length];done)|(rw[List.take_length];rfl)) (by first|rfl|(simp;done)|(simp;omega)) (by omega)) (.fz rfl (by first|rfl|(rw[List.take_length];done)|(rw[List.take_length];rfl)) (by first|rfl|(simp;done)|(simp;omega)) (by omega))),trivial⟩ ?_
       refine .region<|.c (.fB 1 0 false)<|.c (.b1 1)<|.c (.bN 2)<|.c (.li 80 1 0 [.tmp 79]) ?_
       refine .c (St1.appN (k':=181) (e:=80) (sz:=1) (by':=48) rfl rfl rfl rfl rfl (by kernel_rfl) rfl rfl rfl (by simp) (by first|(simp[dR];done)|(simp[dR];omega)) rfl rfl) ?_
       refine .c (.fB 1 0 false)<|.c (.sT 1 false)<|.nil<|kb_n<|ks_n<|.region<|.c .m<|.c .pl<|.c .a<|.nil ?_
       refine kl_k [(120,840),(121,841),(122,181)] (.inr ⟨1,rfl,by omega,by omega,rfl⟩) ⟨kd,kX,kX,kd,kb 840 rfl (.r2 .dt .dt),kb 181 rfl (.dt rfl (by first|exact dR_take (rP) hx1|exact dR_take1 (rP) hx1|rfl|(simp[dR];done))),kb 841 rfl (.r2 .dt .ow),trivial⟩
    ·skip
     have hnP:g.2=[]:=List.eq_nil_of_length_eq_zero (by omega)
     refine .exit<|ks_e<|kl_e<|kb_hit<|ks_n<|.r<|.c (.bN 2)<|.c (.sT 2 true)<|.nn<|.ret ?_
     refine kf_wret [eB 2 100 2,(.b 100,.b 30 2 [[.d (dRs g.1),.d (dPts g.2)]]),eU 100] (Wk.keep [(100,120)] rfl rfl ⟨kX,kb 120 rfl (.r2 .dt (Cto.nilE 2 (by rw[hnP];rfl))),trivial⟩) rfl ?_ nobox
     rfl
   ·skip
    refine .seq<|.r<|.c .m<|.c (.fP 1 0 false)<|.c (.l1 1)<|.c (.ln 80 2 48)<|.c .ls<|.nn ?_
    refine .cD rfl (fun h40=>?_) (fun h40=>?_)
    ·skip
     obtain⟨x,hx1⟩:∃u,g.2[j]?=some u:=⟨_,List.getElem?_eq_getElem (by omega)⟩
     obtain⟨hsm,hpb,hps⟩:=hP _ (List.mem_of_getElem? hx1)
     have hsl:=hsm.1
     refine .skip<|ks_n<|.seq<|.block<|.r<|.c (.fP 1 0 false)<|.c (.l1 1)<|.c .m ?_
     refine .c (.xL 80 2 48 rfl rfl rfl rfl rfl (map_at hx1)) ?_
     refine .c (.fP 0 0 false)<|.c (.l1 1) ?_
     refine .c (.cO [.tmp 48] [(100,149)] rfl rfl rfl rfl (l2Copy_own (hP x (List.mem_of_getElem? hx1)).1) rfl trivial flatS.nil (flatS.nil.cons rfl) HB.nil.data outS_one) ?_
     refine .c (.bu [(0,.tmp 49)] [(0,1),(1,1)] [.slice none 0 0,.slice none 0 0])<|.c (.al 106 [.slice none 0 0,.slice none 0 0])<|.c (.sT 2 true)<|.nn<|.seq<|.r<|.c .a<|.nn<|.block ?_
     refine .loopK (fun m σ=>(∃k:Nat,m=x.2.length -k∧(k=0)∧σ=[eP 1 (rG g),eB 2 130 2,eB 3 131 2,eN 5 (j:Nat),eB 6 133 2,eN 7 (k:Nat),(.b 130,.b 30 2 [[nl,nl]]),eU 130,(.b 132,.b 80 2 (dR ((g.2.take j).map rP))),eU 132,(.b 131,.b 30 2 [[.d (dRs g.1),.own 132 2 (j)]]),eU 131,(.b 134,.b 148 2 (dR (x.1.map rL))),eU 134,(.b 133,.b 80 2 [[.own 134 2 (x.1.length),nl]]),eU 133])∨(∃k:Nat,m=x.2.length -k∧(1≤k)∧(k≤x.2.length)∧σ=[eP 1 (rG g),eB 2 130 2,eB 3 131 2,eN 5 (j:Nat),eB 6 133 2,eN 7 (k:Nat),(.b 130,.b 30 2 [[nl,nl]]),eU 130,(.b 132,.b 80 2 (dR ((g.2.take j).map rP))),eU 132,(.b 131,.b 30 2 [[.d (dRs g.1),.own 132 2 (j)]]),eU 131,(.b 134,.b 148 2 (dR (x.1.map rL))),eU 134,(.b 135,.b 66 9 (dR ((x.2.take k).map rS))),eU 135,(.b 133,.b 80 2 [[.own 134 2 (x.1.length),.own 135 9 (k)]]),eU 133])) [(130,120),(131,121),(132,122),(133,106),(134,149)] (.inl ⟨0,rfl,rfl,rfl⟩) ⟨kd,kX,kX,kd,kX,kd,kb 120 rfl (.r2 .dt .dt),kb 122 rfl (.dt rfl),kb 121 rfl (.r2 .dt .ow),kb 149 rfl (.dt rfl),kb 106 rfl (.r2 .ow .dt),trivial⟩ ?_
     rintro m σ (⟨k,hm0,rfl,rfl⟩|⟨k,hm0,hk1,hk2,rfl⟩)
     ·skip
      refine .seq<|.r<|.c .m<|.c (.fP 1 0 false)<|.c (.l1 1)<|.c .m ?_
      refine .c (.xL 80 2 48 rfl rfl rfl rfl rfl (map_at hx1)) ?_
      refine .c (.fP 1 0 false)<|.c (.l1 1)<|.c (.ln 66 9 152)<|.c .ls<|.nn ?_
      refine .cD rfl (fun h59=>?_) (fun h59=>?_)
      ·skip
       obtain⟨y,hy1⟩:∃u,x.2[0]?=some u:=⟨_,List.getElem?_eq_getElem (by omega)⟩
       refine .skip<|ks_n<|.seq<|.block ?_
       refine ACode.drawK (by kernel_rfl) (by kernel_rfl) ?_
       refine .c (.fB 1 0 false)<|.c (.b1 1)<|.c (.fP 1 0 false)<|.c (.l1 1)<|.c .m ?_
       refine .c (.xL 80 2 48 rfl rfl rfl rfl rfl (map_at hx1)) ?_
       refine .c (.fP 1 0 false)<|.c (.l1 1)<|.c .m ?_
       refine .c (.xL 66 9 152 rfl rfl rfl rfl rfl (map_at hy1)) ?_
       refine .c (.lN 9) ?_
       refine .c (.cP [.tmp 72] rfl rfl rfl rfl (l3Copy_fn y ((hP x (List.mem_of_getElem? hx1)).2.2 y (List.mem_of_getElem? hy1))) rfl) ?_
       refine .c (.li 66 8 0 [.tmp 73]) ?_
       refine .c (St1.appN (k':=175) (e:=66) (sz:=8) (by':=152) rfl rfl rfl rfl rfl (by kernel_rfl) rfl rfl rfl (by simp) (by first|(simp[dR];done)|(simp[dR];omega)) rfl rfl) ?_
       refine .c (.fB 1 0 false)<|.c (.sT 1 false) ?_
       refine .nil ⟨by kernel_rfl,?_⟩
       refine kb_n<|ks_n<|.region<|.c .m<|.c .pl<|.c .a<|.nil ?_
       refine kl_k [(130,130),(131,131),(132,132),(133,133),(134,134),(135,175)] (.inr ⟨1,rfl,by omega,by omega,rfl⟩) ⟨kd,kX,kX,kd,kX,kd,kb 130 rfl (.r2 .dt .dt),kb 132 rfl (.dt rfl),kb 131 rfl (.r2 .dt .ow),kb 134 rfl (.dt rfl),kb 175 rfl (.dt rfl (by first|exact dR_take (rS) hy1|exact dR_take1 (rS) hy1|rfl|(simp[dR];done))),kb 133 rfl (.r2 .ow .ow),trivial⟩
      ·skip
       have hnS:x.2=[]:=List.eq_nil_of_length_eq_zero (by omega)
       refine .exit<|ks_e<|kl_e<|kb_hit<|ks_n ?_
       refine .keep [eP 1 (rG g),eB 2 840 2,eB 3 841 2,eN 5 (j:Nat),eB 6 843 2,(.b 840,.b 30 2 [[nl,nl]]),eU 840,(.b 842,.b 80 2 (dR ((g.2.take j).map rP))),eU 842,(.b 841,.b 30 2 [[.d (dRs g.1),.own 842 2 (j)]]),eU 841,(.b 843,.b 80 2 [[.d (dLs x.1),.d (dMs x.2)]]),eU 843] [(840,130),(841,131),(842,132),(843,133)] ⟨kd,kX,kX,kd,kX,kb 130 rfl (.r2 .dt .dt),kb 132 rfl (.dt rfl),kb 131 rfl (.r2 .dt .ow),kb 133 rfl (.r2 (.fz rfl (by first|rfl|(rw[List.take_length];done)|(rw[List.take_length];rfl)) (by first|rfl|(simp;done)|(simp;omega)) (by omega)) (Cto.nilE 9 (by rw[hnS];rfl))),trivial⟩ ?_
       refine .region<|.c (.fB 1 0 false)<|.c (.b1 1)<|.c (.bN 2)<|.c (.li 80 1 0 [.tmp 79]) ?_
       refine .c (St1.appB (k':=181) (e:=80) (sz:=1) (by':=48) rfl rfl rfl rfl rfl (by kernel_rfl) rfl rfl rfl rfl (by first|(simp[dR];done)|(simp[dR];omega)) (by first|(simp[dR];done)|(simp[dR];omega)) rfl rfl rfl) ?_
       refine .c (.fB 1 0 false)<|.c (.sT 1 false)<|.nil<|kb_n<|ks_n<|.region<|.c .m<|.c .pl<|.c .a<|.nil ?_
       refine kl_k [(120,840),(121,841),(122,181)] (.inr ⟨j+1,rfl,by omega,by omega,rfl⟩) ⟨kd,kX,kX,kd,kb 840 rfl (.r2 .dt .dt),kb 181 rfl (.dt rfl (by first|exact dR_take (rP) hx1|exact dR_take1 (rP) hx1|rfl|(simp[dR];done))),kb 841 rfl (.r2 .dt .ow),trivial⟩
     ·skip
      refine .seq<|.r<|.c .m<|.c (.fP 1 0 false)<|.c (.l1 1)<|.c .m ?_
      refine .c (.xL 80 2 48 rfl rfl rfl rfl rfl (map_at hx1)) ?_
      refine .c (.fP 1 0 false)<|.c (.l1 1)<|.c (.ln 66 9 152)<|.c .ls<|.nn ?_
      refine .cD rfl (fun h59=>?_) (fun h59=>?_)
      ·skip
       obtain⟨y,hy1⟩:∃u,x.2[k]?=some u:=⟨_,List.getElem?_eq_getElem (by omega)⟩
       refine .skip<|ks_n<|.seq<|.block ?_
       refine ACode.drawK (by kernel_rfl) (by kernel_rfl) ?_
       refine .c (.fB 1 0 false)<|.c (.b1 1)<|.c (.fP 1 0 false)<|.c (.l1 1)<|.c .m ?_
       refine .c (.xL 80 2 48 rfl rfl rfl rfl rfl (map_at hx1)) ?_
       refine .c (.fP 1 0 false)<|.c (.l1 1)<|.c .m ?_
       refine .c (.xL 66 9 152 rfl rfl rfl rfl rfl (map_at hy1)) ?_
       refine .c (.lN 9) ?_
       refine .c (.cP [.tmp 72] rfl rfl rfl rfl (l3Copy_fn y ((hP x (List.mem_of_getElem? hx1)).2.2 y (List.mem_of_getElem? hy1))) rfl) ?_
       refine .c (.li 66 8 0 [.tmp 73]) ?_
       refine .c (St1.appB (k':=175) (e:=66) (sz:=8) (by':=152) rfl rfl rfl rfl rfl (by kernel_rfl) rfl rfl rfl rfl (by first|(simp[dR];done)|(simp[dR];omega)) (by first|(simp[dR];done)|(simp[dR];omega)) rfl rfl rfl) ?_
       refine .c (.fB 1 0 false)<|.c (.sT 1 false) ?_
       refine .nil ⟨by kernel_rfl,?_⟩
       refine kb_n<|ks_n<|.region<|.c .m<|.c .pl<|.c .a<|.nil ?_
       refine kl_k [(130,130),(131,131),(132,132),(133,133),(134,134),(135,175)] (.inr ⟨k+1,rfl,by omega,by omega,rfl⟩) ⟨kd,kX,kX,kd,kX,kd,kb 130 rfl (.r2 .dt .dt),kb 132 rfl (.dt rfl),kb 131 rfl (.r2 .dt .ow),kb 134 rfl (.dt rfl),kb 175 rfl (.dt rfl (by first|exact dR_take (rS) hy1|exact dR_take1 (rS) hy1|rfl|(simp[dR];done))),kb 133 rfl (.r2 .ow .ow),trivial⟩
      ·skip
       obtain rfl:k=x.2.length:=by omega
       refine .exit<|ks_e<|kl_e<|kb_hit<|ks_n ?_
       refine .keep [eP 1 (rG g),eB 2 840 2,eB 3 841 2,eN 5 (j:Nat),eB 6 843 2,(.b 840,.b 30 2 [[nl,nl]]),eU 840,(.b 842,.b 80 2 (dR ((g.2.take j).map rP))),eU 842,(.b 841,.b 30 2 [[.d (dRs g.1),.own 842 2 (j)]]),eU 841,(.b 843,.b 80 2 [[.d (dLs x.1),.d (dMs x.2)]]),eU 843] [(840,130),(841,131),(842,132),(843,133)] ⟨kd,kX,kX,kd,kX,kb 130 rfl (.r2 .dt .dt),kb 132 rfl (.dt rfl),kb 131 rfl (.r2 .dt .ow),kb 133 rfl (.r2 (.fz rfl (by first|rfl|(rw[List.take_length];done)|(rw[List.take_length];rfl)) (by first|rfl|(simp;done)|(simp;omega)) (by omega)) (.fz rfl (by first|rfl|(rw[List.take_length];done)|(rw[List.take_length];rfl)) (by first|rfl|(simp;done)|(simp;omega)) (by omega))),trivial⟩ ?_
       refine .region<|.c (.fB 1 0 false)<|.c (.b1 1)<|.c (.bN 2)<|.c (.li 80 1 0 [.tmp 79]) ?_
       refine .c (St1.appB (k':=181) (e:=80) (sz:=1) (by':=48) rfl rfl rfl rfl rfl (by kernel_rfl) rfl rfl rfl rfl (by first|(simp[dR];done)|(simp[dR];omega)) (by first|(simp[dR];done)|(simp[dR];omega)) rfl rfl rfl) ?_
       refine .c (.fB 1 0 false)<|.c (.sT 1 false)<|.nil<|kb_n<|ks_n<|.region<|.c .m<|.c .pl<|.c .a<|.nil ?_
       refine kl_k [(120,840),(121,841),(122,181)] (.inr ⟨j+1,rfl,by omega,by omega,rfl⟩) ⟨kd,kX,kX,kd,kb 840 rfl (.r2 .dt .dt),kb 181 rfl (.dt rfl (by first|exact dR_take (rP) hx1|exact dR_take1 (rP) hx1|rfl|(simp[dR];done))),kb 841 rfl (.r2 .dt .ow),trivial⟩
    ·skip
     obtain rfl:j=g.2.length:=by omega
     refine .exit<|ks_e<|kl_e<|kb_hit<|ks_n<|.r<|.c (.bN 2)<|.c (.sT 2 true)<|.nn<|.ret ?_
     refine kf_wret [eB 2 100 2,(.b 100,.b 30 2 [[.d (dRs g.1),.d (dPts g.2)]]),eU 100] (Wk.keep [(100,120)] rfl rfl ⟨kX,kb 120 rfl (.r2 .dt (.fz rfl (by first|rfl|(rw[List.take_length];done)|(rw[List.take_length];rfl)) (by first|rfl|(simp;done)|(simp;omega)) (by omega))),trivial⟩) rfl ?_ nobox
     rfl
theorem o16Aff_fn (x:Aff) (hx:x.1.length≤1073741824):Fn Tryz.prog 196 [] [ad (rA x)] (.o (ad (rA x))) []:=by
  refine Fn.code0 Tryz.func196 rfl rfl rfl rfl ?_
  refine .r<|.c (St1.boxB (k':=101) rfl rfl rfl rfl rfl rfl rfl)<|.c (.al 102 [.slice none 0 0,.int .i64 0])<|.r ?_
  refine .c (St1.lit0 (k':=103) (e:=3) (sz:=1) (b:=true) rfl rfl rfl rfl (by kernel_rfl) rfl rfl) ?_
  refine .c (.fB 0 0 false)<|.c (.b1 1) ?_
  refine .c (St1.appB (k':=106) (e:=3) (sz:=0) (by':=8) rfl rfl rfl rfl rfl (by kernel_rfl) rfl rfl rfl rfl (by first|(simp[dR];done)|(simp[dR];omega)) (by first|(simp[dR];done)|(simp[dR];omega)) rfl rfl rfl) ?_
  refine .c (.fB 0 0 false)<|.c (.sT 1 false)<|.r<|.c (.bN 2)<|.c (.sT 2 true)<|.nn<|.ret ?_
  refine kf_wret [eB 2 100 2,(.b 100,.b 61 2 [[.d (dIs x.1),.d (dI x.2)]]),eU 100] (Wk.keep [(100,102)] rfl rfl ⟨kX,kb 102 rfl (.r2 (.fz rfl (by rfl) (by simp[dIs]) (by rw[List.length_map];omega)) .dt),trivial⟩) rfl ?_ nobox
  rfl
theorem o16Affs_fn (l:List Aff) (hl:l.length≤1073741824) (hs:∀x∈l,x.1.length≤1073741824):Fn Tryz.prog 186 [] [vD (dAs l)] (.o (vD (dAs l))) []:=by
  refine Fn.code0 Tryz.func186 rfl rfl rfl rfl ?_
  refine .r<|.c .a<|.r ?_
  refine .c (St1.lit0 (k':=106) (e:=61) (sz:=2) (b:=true) rfl rfl rfl rfl (by kernel_rfl) rfl rfl) ?_
  refine .c .a<|.nn<|.seq<|.r<|.c .m<|.c (.ln 61 2 32)<|.c .m<|.nn<|.block ?_
  refine .loopK (fun m σ=>(∃i:Nat,m=l.length -i∧(i≤l.length)∧σ=[(.t 3,.v (.o (.c (.own 110 2 (i))))),eD 7 (dAs l),eN 8 (l.length:Nat),eN 9 (i:Nat),(.b 110,.b 61 2 (dR ((l.take i).map rA))),eU 110])) [(110,106)] ⟨0,rfl,by omega,rfl⟩ ⟨kW,kd,kd,kd,kb 106 rfl (.dt rfl (by first|exact dR_take (rA) hx1|exact dR_take1 (rA) hx1|rfl|(simp[dR];done))),trivial⟩ ?_
  rintro m σ ⟨i,hm0,hi,rfl⟩
  refine .r<|.c .ls<|.nn<|.seq ?_
  refine .cD rfl (fun h10=>?_) (fun h10=>?_)
  · skip
    obtain⟨x,hx1⟩:∃x_,l[i]?=some x_:=⟨_,List.getElem?_eq_getElem (by omega)⟩
    refine .skip<|ks_n<|.seq<|.block<|.r<|.c (.xL 61 2 32 rfl rfl rfl rfl rfl (map_at hx1)) ?_
    refine .c (.lN 2)<|.c (.al 105 [.slice none 0 0,.int .i64 0])<|.c (.sT 2 true)<|.nn<|.region<|.c .m<|.c (.bN 2) ?_
    refine .c (.cP [.tmp 14] rfl rfl rfl rfl (o16Aff_fn x (by have:=hs x (List.mem_of_getElem? hx1);omega)) rfl) ?_
    refine .c (.li 61 1 0 [.tmp 15]) ?_
    refine .c (St1.appB (k':=117) (e:=61) (sz:=1) (by':=32) rfl rfl rfl rfl rfl (by kernel_rfl) rfl rfl rfl rfl (by first|(simp[dR];done)|(simp[dR];omega)) (by first|(simp[dR];done)|(simp[dR];omega)) rfl rfl rfl) ?_
    refine .c .a<|.nil<|kb_n<|ks_n<|.region<|.c .pl<|.c .m<|.nil ?_
    refine kl_k [(110,117)] ⟨i+1,rfl,by omega,rfl⟩ ⟨kW,kd,kd,kd,kb 117 rfl (.dt rfl (by first|exact dR_take (rA) hx1|exact dR_take1 (rA) hx1|rfl|(simp[dR];done))),trivial⟩
  · skip
    obtain rfl:i=l.length:=by omega
    refine .exit<|ks_e<|kl_e<|kb_hit<|ks_n<|.r<|.c .m<|.c .a<|.nn<|.ret ?_
    refine kf_wret [eD 2 (dAs l)] (Wk.keep [] rfl rfl ⟨ks rfl (.c (.fz rfl (by first|(rw[List.take_length];done)|(rw[List.take_length];rfl)) (by simp) (by omega))),trivial⟩) rfl ?_ nobox
    rfl
theorem o16Acc_fn (x:Acc) (hx:szAs x.2≤1073741824):Fn Tryz.prog 187 [] [ad (rC x)] (.o (ad (rC x))) []:=by
  refine Fn.code0 Tryz.func187 rfl rfl rfl rfl ?_
  refine .r<|.c (St1.boxB (k':=101) rfl rfl rfl rfl rfl rfl rfl)<|.c (.al 102 [.string ByteArray.empty,.slice none 0 0])<|.r<|.c (.fB 1 0 false)<|.c (.b1 1) ?_
  refine .c (.cP [.tmp 4] rfl rfl rfl rfl (o16Affs_fn x.2 (by have:=szAs_len x.2;omega) (fun y hy=>by have:=szAs_mem hy;omega)) rfl) ?_
  refine .c (.fB 1 0 false)<|.c (.sT 1 false)<|.r<|.c (.bN 2)<|.c (.sT 2 true)<|.nn<|.ret ?_
  refine kf_ret rfl ?_ nobox
  rfl
theorem o16Loop_fn (x:Lp) (hx:szL x≤1073741824):Fn Tryz.prog 164 [] [ad (rL x)] (.o (ad (rL x))) []:=by
  rw[szL]at hx
  refine Fn.code0 Tryz.func164 rfl rfl rfl rfl ?_
  refine .r<|.c (St1.boxB (k':=101) rfl rfl rfl rfl rfl rfl rfl)<|.c (.al 102 [.slice none 0 0,.slice none 0 0])<|.r<|.c (.fB 0 0 false)<|.c (.b1 1) ?_
  refine .c (.cP [.tmp 4] rfl rfl rfl rfl (o16Affs_fn x.1 (by have:=szAs_len x.1;omega) (fun y hy=>by have:=szAs_mem hy;omega)) rfl) ?_
  refine .c (.fB 0 0 false)<|.c (.sT 1 false)<|.r<|.c (.fB 1 0 false)<|.c (.b1 1) ?_
  refine .c (.cP [.tmp 8] rfl rfl rfl rfl (o16Affs_fn x.2 (by have:=szAs_len x.2;omega) (fun y hy=>by have:=szAs_mem hy;omega)) rfl) ?_
  refine .c (.fB 1 0 false)<|.c (.sT 1 false)<|.r<|.c (.bN 2)<|.c (.sT 2 true)<|.nn<|.ret ?_
  refine kf_ret rfl ?_ nobox
  rfl
theorem o16Loops_fn (l:List Lp) (hl:l.length≤1073741824) (hs:∀x∈l,szL x≤1073741824):Fn Tryz.prog 130 [] [vD (dLs l)] (.o (vD (dLs l))) []:=by
  refine Fn.code0 Tryz.func130 rfl rfl rfl rfl ?_
  refine .r<|.c .a<|.r ?_
  refine .c (St1.lit0 (k':=106) (e:=148) (sz:=2) (b:=true) rfl rfl rfl rfl (by kernel_rfl) rfl rfl) ?_
  refine .c .a<|.nn<|.seq<|.r<|.c .m<|.c (.ln 148 2 48)<|.c .m<|.nn<|.block ?_
  refine .loopK (fun m σ=>(∃i:Nat,m=l.length -i∧(i≤l.length)∧σ=[(.t 3,.v (.o (.c (.own 110 2 (i))))),eD 7 (dLs l),eN 8 (l.length:Nat),eN 9 (i:Nat),(.b 110,.b 148 2 (dR ((l.take i).map rL))),eU 110])) [(110,106)] ⟨0,rfl,by omega,rfl⟩ ⟨kW,kd,kd,kd,kb 106 rfl (.dt rfl (by first|exact dR_take (rL) hx1|exact dR_take1 (rL) hx1|rfl|(simp[dR];done))),trivial⟩ ?_
  rintro m σ ⟨i,hm0,hi,rfl⟩
  refine .r<|.c .ls<|.nn<|.seq ?_
  refine .cD rfl (fun h10=>?_) (fun h10=>?_)
  · skip
    obtain⟨x,hx1⟩:∃x_,l[i]?=some x_:=⟨_,List.getElem?_eq_getElem (by omega)⟩
    refine .skip<|ks_n<|.seq<|.block<|.r<|.c (.xL 148 2 48 rfl rfl rfl rfl rfl (map_at hx1)) ?_
    refine .c (.lN 2)<|.c (.al 105 [.slice none 0 0,.slice none 0 0])<|.c (.sT 2 true)<|.nn<|.region<|.c .m<|.c (.bN 2) ?_
    refine .c (.cP [.tmp 14] rfl rfl rfl rfl (o16Loop_fn x (by have:=hs x (List.mem_of_getElem? hx1);omega)) rfl) ?_
    refine .c (.li 148 1 0 [.tmp 15]) ?_
    refine .c (St1.appB (k':=117) (e:=148) (sz:=1) (by':=48) rfl rfl rfl rfl rfl (by kernel_rfl) rfl rfl rfl rfl (by first|(simp[dR];done)|(simp[dR];omega)) (by first|(simp[dR];done)|(simp[dR];omega)) rfl rfl rfl) ?_
    refine .c .a<|.nil<|kb_n<|ks_n<|.region<|.c .pl<|.c .m<|.nil ?_
    refine kl_k [(110,117)] ⟨i+1,rfl,by omega,rfl⟩ ⟨kW,kd,kd,kd,kb 117 rfl (.dt rfl (by first|exact dR_take (rL) hx1|exact dR_take1 (rL) hx1|rfl|(simp[dR];done))),trivial⟩
  · skip
    obtain rfl:i=l.length:=by omega
    refine .exit<|ks_e<|kl_e<|kb_hit<|ks_n<|.r<|.c .m<|.c .a<|.nn<|.ret ?_
    refine kf_wret [eD 2 (dLs l)] (Wk.keep [] rfl rfl ⟨ks rfl (.c (.fz rfl (by first|(rw[List.take_length];done)|(rw[List.take_length];rfl)) (by simp) (by omega))),trivial⟩) rfl ?_ nobox
    rfl
theorem szC_le (c:Acc):szAs c.2≤szC c:=by rw[szC];omega
theorem o16Expr_fn1 (e:Ex) (h1:e.i.1.length≤1073741824) (h2:szAs e.r.2≤1073741824) (ih:Fn Tryz.prog 197 [] [vD (dEs e.ks)] (.o (vD (dEs e.ks))) []):Fn Tryz.prog 188 [] [ad (rX e)] (.o (ad (rX e))) []:=by
  refine Fn.code0 Tryz.func188 rfl rfl rfl rfl ?_
  refine .r<|.c (St1.boxB (k':=101) rfl rfl rfl rfl rfl rfl rfl)<|.c (.al 102 [.int .i64 0,.int .i64 0,.slice none 0 0,.int .i64 0,.string ByteArray.empty,.slice none 0 0,.slice none 0 0])<|.r<|.c (.fB 2 1 true)<|.c (.bN 2) ?_
  refine .c (.cP [.tmp 4] rfl rfl rfl rfl (o16Aff_fn e.i h1) rfl) ?_
  refine .c (.fB 2 1 true)<|.c (.sT 2 true)<|.r<|.c (.fB 4 1 true)<|.c (.bN 2) ?_
  refine .c (.cP [.tmp 8] rfl rfl rfl rfl (o16Acc_fn e.r h2) rfl) ?_
  refine .c (.fB 4 1 true)<|.c (.sT 2 true)<|.r<|.c (.fB 6 0 false)<|.c (.b1 1) ?_
  refine .c (.cP [.tmp 12] rfl rfl rfl rfl (ih) rfl) ?_
  refine .c (.fB 6 0 false)<|.c (.sT 1 false)<|.r<|.c (.bN 7)<|.c (.sT 7 true)<|.nn<|.ret ?_
  refine kf_ret rfl ?_ nobox
  rfl
theorem o16Exprs_fn1 (l:List Ex) (hl:l.length≤1073741824) (ih:∀x∈l,Fn Tryz.prog 188 [] [ad (rX x)] (.o (ad (rX x))) []):Fn Tryz.prog 197 [] [vD (dEs l)] (.o (vD (dEs l))) []:=by
  refine Fn.code0 Tryz.func197 rfl rfl rfl rfl ?_
  refine .r<|.c .a<|.r ?_
  refine .c (St1.lit0 (k':=106) (e:=64) (sz:=7) (b:=true) rfl rfl rfl rfl (by kernel_rfl) rfl rfl) ?_
  refine .c .a<|.nn<|.seq<|.r<|.c .m<|.c (.ln 64 7 112)<|.c .m<|.nn<|.block ?_
  refine .loopK (fun m σ=>(∃i:Nat,m=l.length -i∧(i≤l.length)∧σ=[(.t 3,.v (.o (.c (.own 110 7 (i))))),eD 7 (dEs l),eN 8 (l.length:Nat),eN 9 (i:Nat),(.b 110,.b 64 7 (dR ((l.take i).map rX))),eU 110])) [(110,106)] ⟨0,rfl,by omega,rfl⟩ ⟨kW,kd,kd,kd,kb 106 rfl (.dt rfl (by first|exact dR_take (rX) hx1|exact dR_take1 (rX) hx1|rfl|(simp[dR];done))),trivial⟩ ?_
  rintro m σ ⟨i,hm0,hi,rfl⟩
  refine .r<|.c .ls<|.nn<|.seq ?_
  refine .cD rfl (fun h10=>?_) (fun h10=>?_)
  · skip
    obtain⟨x,hx1⟩:∃x_,l[i]?=some x_:=⟨_,List.getElem?_eq_getElem (by omega)⟩
    refine .skip<|ks_n<|.seq<|.block<|.r<|.c (.xL 64 7 112 rfl rfl rfl rfl rfl (rE_at hx1)) ?_
    refine .c (.lN 7)<|.c (.al 105 [.int .i64 0,.int .i64 0,.slice none 0 0,.int .i64 0,.string ByteArray.empty,.slice none 0 0,.slice none 0 0])<|.c (.sT 7 true)<|.nn<|.region<|.c .m<|.c (.bN 7) ?_
    refine .c (.cP [.tmp 14] rfl rfl rfl rfl (ih x (List.mem_of_getElem? hx1)) rfl) ?_
    refine .c (.li 64 6 0 [.tmp 15]) ?_
    refine .c (St1.appB (k':=117) (e:=64) (sz:=6) (by':=112) rfl rfl rfl rfl rfl (by kernel_rfl) rfl rfl rfl rfl (by first|(simp[dR];done)|(simp[dR];omega)) (by first|(simp[dR];done)|(simp[dR];omega)) rfl rfl rfl) ?_
    refine .c .a<|.nil<|kb_n<|ks_n<|.region<|.c .pl<|.c .m<|.nil ?_
    refine kl_k [(110,117)] ⟨i+1,rfl,by omega,rfl⟩ ⟨kW,kd,kd,kd,kb 117 rfl (.dt rfl (by first|exact dR_take (rX) hx1|exact dR_take1 (rX) hx1|rfl|(simp[dR];done))),trivial⟩
  · skip
    obtain rfl:i=l.length:=by omega
    refine .exit<|ks_e<|kl_e<|kb_hit<|ks_n<|.r<|.c .m<|.c .a<|.nn<|.ret ?_
    refine kf_wret [eD 2 (dEs l)] (Wk.keep [] rfl rfl ⟨ks rfl (.c (.fz rfl (by rw[List.take_length];first|rfl|exact List.map_congr_left fun x _=>(rE_eq x)|exact List.map_congr_left fun x _=>(rE_eq x).symm|exact congrArg dR (List.map_congr_left fun x _=>(rE_eq x).symm)|exact congrArg dR (List.map_congr_left fun x _=>(rE_eq x))) (by simp) (by omega))),trivial⟩) rfl ?_ nobox
    rfl
theorem o16Exprs_fn:∀(m:Nat) (l:List Ex),(∀e∈l,szE e<m)→l.length≤1073741824→szEs l≤1073741824→Fn Tryz.prog 197 [] [vD (dEs l)] (.o (vD (dEs l))) []
  |0,l,h,hl,hz=>o16Exprs_fn1 l hl fun x hx=>absurd (h x hx) (by omega)
  |m+1,l,h,hl,hz=>o16Exprs_fn1 l hl fun x hx=>by
    have h1:=h x hx
    have h2:=szEs_mem hx
    rw[szE_eq]at h1 h2
    have h3:=szC_le x.r
    exact o16Expr_fn1 x (by omega) (by omega) (o16Exprs_fn m x.ks (fun y hy=>by have:=szEs_mem hy;have:=List.length_pos_of_mem hy;omega) (by omega) (by omega))
theorem o16Expr_fn (e:Ex) (he:szE e≤1073741824):Fn Tryz.prog 188 [] [ad (rX e)] (.o (ad (rX e))) []:=by
  rw[szE_eq]at he
  have h3:=szC_le e.r
  exact o16Expr_fn1 e (by omega) (by omega) (o16Exprs_fn (szEs e.ks+1) e.ks (fun y hy=>by have:=szEs_mem hy;omega) (by omega) (by omega))
theorem o16Stmt_fn (s:Stm) (hs:szS s≤1073741824):Fn Tryz.prog 165 [] [ad (rS s)] (.o (ad (rS s))) []:=by
  rw[szS]at hs
  have h3:=szC_le s.1
  refine Fn.code0 Tryz.func165 rfl rfl rfl rfl ?_
  refine .r<|.c (St1.boxB (k':=101) rfl rfl rfl rfl rfl rfl rfl)<|.c (.al 102 [.string ByteArray.empty,.slice none 0 0,.int .i64 0,.int .i64 0,.slice none 0 0,.int .i64 0,.string ByteArray.empty,.slice none 0 0,.slice none 0 0])<|.r<|.c (.fB 0 1 true)<|.c (.bN 2) ?_
  refine .c (.cP [.tmp 4] rfl rfl rfl rfl (o16Acc_fn s.1 (by omega)) rfl) ?_
  refine .c (.fB 0 1 true)<|.c (.sT 2 true)<|.r<|.c (.fB 2 6 true)<|.c (.bN 7) ?_
  refine .c (.cP [.tmp 8] rfl rfl rfl rfl (o16Expr_fn s.2 (by omega)) rfl) ?_
  refine .c (.fB 2 6 true)<|.c (.sT 7 true)<|.r<|.c (.bN 9)<|.c (.sT 9 true)<|.nn<|.ret ?_
  refine kf_ret rfl ?_ nobox
  rfl
theorem o16Stmts_fn (l:List Stm) (hl:l.length≤1073741824) (hs:∀x∈l,szS x≤1073741824):Fn Tryz.prog 131 [] [vD (dMs l)] (.o (vD (dMs l))) []:=by
  refine Fn.code0 Tryz.func131 rfl rfl rfl rfl ?_
  refine .r<|.c .a<|.r ?_
  refine .c (St1.lit0 (k':=106) (e:=66) (sz:=9) (b:=true) rfl rfl rfl rfl (by kernel_rfl) rfl rfl) ?_
  refine .c .a<|.nn<|.seq<|.r<|.c .m<|.c (.ln 66 9 152)<|.c .m<|.nn<|.block ?_
  refine .loopK (fun m σ=>(∃i:Nat,m=l.length -i∧(i≤l.length)∧σ=[(.t 3,.v (.o (.c (.own 110 9 (i))))),eD 7 (dMs l),eN 8 (l.length:Nat),eN 9 (i:Nat),(.b 110,.b 66 9 (dR ((l.take i).map rS))),eU 110])) [(110,106)] ⟨0,rfl,by omega,rfl⟩ ⟨kW,kd,kd,kd,kb 106 rfl (.dt rfl (by first|exact dR_take (rS) hx1|exact dR_take1 (rS) hx1|rfl|(simp[dR];done))),trivial⟩ ?_
  rintro m σ ⟨i,hm0,hi,rfl⟩
  refine .r<|.c .ls<|.nn<|.seq ?_
  refine .cD rfl (fun h10=>?_) (fun h10=>?_)
  · skip
    obtain⟨x,hx1⟩:∃x_,l[i]?=some x_:=⟨_,List.getElem?_eq_getElem (by omega)⟩
    refine .skip<|ks_n<|.seq<|.block<|.r<|.c (.xL 66 9 152 rfl rfl rfl rfl rfl (map_at hx1)) ?_
    refine .c (.lN 9)<|.c (.al 105 [.string ByteArray.empty,.slice none 0 0,.int .i64 0,.int .i64 0,.slice none 0 0,.int .i64 0,.string ByteArray.empty,.slice none 0 0,.slice none 0 0])<|.c (.sT 9 true)<|.nn<|.region<|.c .m<|.c (.bN 9) ?_
    refine .c (.cP [.tmp 14] rfl rfl rfl rfl (o16Stmt_fn x (hs x (List.mem_of_getElem? hx1))) rfl) ?_
    refine .c (.li 66 8 0 [.tmp 15]) ?_
    refine .c (St1.appB (k':=117) (e:=66) (sz:=8) (by':=152) rfl rfl rfl rfl rfl (by kernel_rfl) rfl rfl rfl rfl (by first|(simp[dR];done)|(simp[dR];omega)) (by first|(simp[dR];done)|(simp[dR];omega)) rfl rfl rfl) ?_
    refine .c .a<|.nil<|kb_n<|ks_n<|.region<|.c .pl<|.c .m<|.nil ?_
    refine kl_k [(110,117)] ⟨i+1,rfl,by omega,rfl⟩ ⟨kW,kd,kd,kd,kb 117 rfl (.dt rfl (by first|exact dR_take (rS) hx1|exact dR_take1 (rS) hx1|rfl|(simp[dR];done))),trivial⟩
  · skip
    obtain rfl:i=l.length:=by omega
    refine .exit<|ks_e<|kl_e<|kb_hit<|ks_n<|.r<|.c .m<|.c .a<|.nn<|.ret ?_
    refine kf_wret [eD 2 (dMs l)] (Wk.keep [] rfl rfl ⟨ks rfl (.c (.fz rfl (by first|(rw[List.take_length];done)|(rw[List.take_length];rfl)) (by simp) (by omega))),trivial⟩) rfl ?_ nobox
    rfl
theorem o16Part_fn (q:Prt) (h1:szLs q.1≤1073741824) (h2:q.2.length≤1073741824) (h3:∀x∈q.2,szS x≤1073741824):Fn Tryz.prog 92 [] [ad (rP q)] (.o (ad (rP q))) []:=by
  have hz:q.1.length≤szLs q.1:=by rw[szLs];omega
  refine Fn.code0 Tryz.func92 rfl rfl rfl rfl ?_
  refine .r<|.c (St1.boxB (k':=101) rfl rfl rfl rfl rfl rfl rfl)<|.c (.al 102 [.slice none 0 0,.slice none 0 0])<|.r<|.c (.fB 0 0 false)<|.c (.b1 1) ?_
  refine .c (.cP [.tmp 4] rfl rfl rfl rfl (o16Loops_fn q.1 (by omega) (fun x hx=>by have:=szLs_mem hx;omega)) rfl) ?_
  refine .c (.fB 0 0 false)<|.c (.sT 1 false)<|.r<|.c (.fB 1 0 false)<|.c (.b1 1) ?_
  refine .c (.cP [.tmp 8] rfl rfl rfl rfl (o16Stmts_fn q.2 h2 h3) rfl) ?_
  refine .c (.fB 1 0 false)<|.c (.sT 1 false)<|.r<|.c (.bN 2)<|.c (.sT 2 true)<|.nn<|.ret ?_
  refine kf_ret rfl ?_ nobox
  rfl
theorem o16Parts_fn (l:List Prt) (hl:l.length≤1073741824) (hs:∀x∈l,szLs x.1≤1073741824∧x.2.length≤1073741824∧∀y∈x.2,szS y≤1073741824):Fn Tryz.prog 50 [] [vD (dPts l)] (.o (vD (dPts l))) []:=by
  refine Fn.code0 Tryz.func50 rfl rfl rfl rfl ?_
  refine .r<|.c .a<|.r ?_
  refine .c (St1.lit0 (k':=106) (e:=80) (sz:=2) (b:=true) rfl rfl rfl rfl (by kernel_rfl) rfl rfl) ?_
  refine .c .a<|.nn<|.seq<|.r<|.c .m<|.c (.ln 80 2 48)<|.c .m<|.nn<|.block ?_
  refine .loopK (fun m σ=>(∃i:Nat,m=l.length -i∧(i≤l.length)∧σ=[(.t 3,.v (.o (.c (.own 110 2 (i))))),eD 7 (dPts l),eN 8 (l.length:Nat),eN 9 (i:Nat),(.b 110,.b 80 2 (dR ((l.take i).map rP))),eU 110])) [(110,106)] ⟨0,rfl,by omega,rfl⟩ ⟨kW,kd,kd,kd,kb 106 rfl (.dt rfl (by first|exact dR_take (rP) hx1|exact dR_take1 (rP) hx1|rfl|(simp[dR];done))),trivial⟩ ?_
  rintro m σ ⟨i,hm0,hi,rfl⟩
  refine .r<|.c .ls<|.nn<|.seq ?_
  refine .cD rfl (fun h10=>?_) (fun h10=>?_)
  · skip
    obtain⟨x,hx1⟩:∃x_,l[i]?=some x_:=⟨_,List.getElem?_eq_getElem (by omega)⟩
    refine .skip<|ks_n<|.seq<|.block<|.r<|.c (.xL 80 2 48 rfl rfl rfl rfl rfl (map_at hx1)) ?_
    refine .c (.lN 2)<|.c (.al 105 [.slice none 0 0,.slice none 0 0])<|.c (.sT 2 true)<|.nn<|.region<|.c .m<|.c (.bN 2) ?_
    refine .c (.cP [.tmp 14] rfl rfl rfl rfl (o16Part_fn x (hs x (List.mem_of_getElem? hx1)).1 (hs x (List.mem_of_getElem? hx1)).2.1 (hs x (List.mem_of_getElem? hx1)).2.2) rfl) ?_
    refine .c (.li 80 1 0 [.tmp 15]) ?_
    refine .c (St1.appB (k':=117) (e:=80) (sz:=1) (by':=48) rfl rfl rfl rfl rfl (by kernel_rfl) rfl rfl rfl rfl (by first|(simp[dR];done)|(simp[dR];omega)) (by first|(simp[dR];done)|(simp[dR];omega)) rfl rfl rfl) ?_
    refine .c .a<|.nil<|kb_n<|ks_n<|.region<|.c .pl<|.c .m<|.nil ?_
    refine kl_k [(110,117)] ⟨i+1,rfl,by omega,rfl⟩ ⟨kW,kd,kd,kd,kb 117 rfl (.dt rfl (by first|exact dR_take (rP) hx1|exact dR_take1 (rP) hx1|rfl|(simp[dR];done))),trivial⟩
  · skip
    obtain rfl:i=l.length:=by omega
    refine .exit<|ks_e<|kl_e<|kb_hit<|ks_n<|.r<|.c .m<|.c .a<|.nn<|.ret ?_
    refine kf_wret [eD 2 (dPts l)] (Wk.keep [] rfl rfl ⟨ks rfl (.c (.fz rfl (by first|(rw[List.take_length];done)|(rw[List.take_length];rfl)) (by simp) (by omega))),trivial⟩) rfl ?_ nobox
    rfl
theorem o16Arr_fn (x:Arr) (hx:x.2.length≤1073741824):Fn Tryz.prog 91 [] [ad (rR x)] (.o (ad (rR x))) []:=by
  refine Fn.code0 Tryz.func91 rfl rfl rfl rfl ?_
  refine .r<|.c (St1.boxB (k':=101) rfl rfl rfl rfl rfl rfl rfl)<|.c (.al 102 [.string ByteArray.empty,.slice none 0 0])<|.r ?_
  refine .c (St1.lit0 (k':=103) (e:=3) (sz:=1) (b:=true) rfl rfl rfl rfl (by kernel_rfl) rfl rfl) ?_
  refine .c (.fB 1 0 false)<|.c (.b1 1) ?_
  refine .c (St1.appB (k':=106) (e:=3) (sz:=0) (by':=8) rfl rfl rfl rfl rfl (by kernel_rfl) rfl rfl rfl rfl (by first|(simp[dR];done)|(simp[dR];omega)) (by first|(simp[dR];done)|(simp[dR];omega)) rfl rfl rfl) ?_
  refine .c (.fB 1 0 false)<|.c (.sT 1 false)<|.r<|.c (.bN 2)<|.c (.sT 2 true)<|.nn<|.ret ?_
  refine kf_wret [eB 2 100 2,(.b 100,.b 45 2 [[.d (dS x.1),.d (dIs x.2)]]),eU 100] (Wk.keep [(100,102)] rfl rfl ⟨kX,kb 102 rfl (.r2 .dt (.fz rfl (by rfl) (by simp[dIs]) (by rw[List.length_map];omega))),trivial⟩) rfl ?_ nobox
  rfl
theorem o16Arrs_fn (l:List Arr) (hl:l.length≤1073741824) (hs:∀x∈l,x.2.length≤1073741824):Fn Tryz.prog 49 [] [vD (dRs l)] (.o (vD (dRs l))) []:=by
  refine Fn.code0 Tryz.func49 rfl rfl rfl rfl ?_
  refine .r<|.c .a<|.r ?_
  refine .c (St1.lit0 (k':=106) (e:=45) (sz:=2) (b:=true) rfl rfl rfl rfl (by kernel_rfl) rfl rfl) ?_
  refine .c .a<|.nn<|.seq<|.r<|.c .m<|.c (.ln 45 2 40)<|.c .m<|.nn<|.block ?_
  refine .loopK (fun m σ=>(∃i:Nat,m=l.length -i∧(i≤l.length)∧σ=[(.t 3,.v (.o (.c (.own 110 2 (i))))),eD 7 (dRs l),eN 8 (l.length:Nat),eN 9 (i:Nat),(.b 110,.b 45 2 (dR ((l.take i).map rR))),eU 110])) [(110,106)] ⟨0,rfl,by omega,rfl⟩ ⟨kW,kd,kd,kd,kb 106 rfl (.dt rfl (by first|exact dR_take (rR) hx1|exact dR_take1 (rR) hx1|rfl|(simp[dR];done))),trivial⟩ ?_
  rintro m σ ⟨i,hm0,hi,rfl⟩
  refine .r<|.c .ls<|.nn<|.seq ?_
  refine .cD rfl (fun h10=>?_) (fun h10=>?_)
  · skip
    obtain⟨x,hx1⟩:∃x_,l[i]?=some x_:=⟨_,List.getElem?_eq_getElem (by omega)⟩
    refine .skip<|ks_n<|.seq<|.block<|.r<|.c (.xL 45 2 40 rfl rfl rfl rfl rfl (map_at hx1)) ?_
    refine .c (.lN 2)<|.c (.al 105 [.string ByteArray.empty,.slice none 0 0])<|.c (.sT 2 true)<|.nn<|.region<|.c .m<|.c (.bN 2) ?_
    refine .c (.cP [.tmp 14] rfl rfl rfl rfl (o16Arr_fn x (by have:=hs x (List.mem_of_getElem? hx1);omega)) rfl) ?_
    refine .c (.li 45 1 0 [.tmp 15]) ?_
    refine .c (St1.appB (k':=117) (e:=45) (sz:=1) (by':=40) rfl rfl rfl rfl rfl (by kernel_rfl) rfl rfl rfl rfl (by first|(simp[dR];done)|(simp[dR];omega)) (by first|(simp[dR];done)|(simp[dR];omega)) rfl rfl rfl) ?_
    refine .c .a<|.nil<|kb_n<|ks_n<|.region<|.c .pl<|.c .m<|.nil ?_
    refine kl_k [(110,117)] ⟨i+1,rfl,by omega,rfl⟩ ⟨kW,kd,kd,kd,kb 117 rfl (.dt rfl (by first|exact dR_take (rR) hx1|exact dR_take1 (rR) hx1|rfl|(simp[dR];done))),trivial⟩
  · skip
    obtain rfl:i=l.length:=by omega
    refine .exit<|ks_e<|kl_e<|kb_hit<|ks_n<|.r<|.c .m<|.c .a<|.nn<|.ret ?_
    refine kf_wret [eD 2 (dRs l)] (Wk.keep [] rfl rfl ⟨ks rfl (.c (.fz rfl (by first|(rw[List.take_length];done)|(rw[List.take_length];rfl)) (by simp) (by omega))),trivial⟩) rfl ?_ nobox
    rfl
structure OwnG0 (g:Prg):Prop where
  n1:g.1.length≤1073741824
  n2:g.2.length≤1073741824
  arr:∀x∈g.1,x.2.length≤1073741824
  part:∀x∈g.2,szLs x.1≤1073741824∧x.2.length≤1073741824∧∀y∈x.2,szS y≤1073741824
theorem o16Prg_fn (g:Prg) (hG:OwnG0 g):Fn Tryz.prog 19 [] [ad (rG g)] (.o (ad (rG g))) []:=by
  refine Fn.code0 Tryz.func19 rfl rfl rfl rfl ?_
  refine .r<|.c (St1.boxB (k':=101) rfl rfl rfl rfl rfl rfl rfl)<|.c (.al 102 [.slice none 0 0,.slice none 0 0])<|.r<|.c (.fB 0 0 false)<|.c (.b1 1) ?_
  refine .c (.cP [.tmp 4] rfl rfl rfl rfl (o16Arrs_fn g.1 hG.n1 hG.arr) rfl) ?_
  refine .c (.fB 0 0 false)<|.c (.sT 1 false)<|.r<|.c (.fB 1 0 false)<|.c (.b1 1) ?_
  refine .c (.cP [.tmp 8] rfl rfl rfl rfl (o16Parts_fn g.2 hG.n2 hG.part) rfl) ?_
  refine .c (.fB 1 0 false)<|.c (.sT 1 false)<|.r<|.c (.bN 2)<|.c (.sT 2 true)<|.nn<|.ret ?_
  refine kf_ret rfl ?_ nobox
  rfl
theorem swp_parts {α:Type} {l:List α} {i:Nat} {x y:α} (hx:l[i]?=some x) (hy:l[i+1]?=some y):swp l i=l.take i++([y,x]++l.drop (i+2)):=by
  have h1:=(List.getElem?_eq_some_iff.1 hx).1
  have h2:=(List.getElem?_eq_some_iff.1 hy).1
  rw[swp_eq hx hy]
  refine List.ext_getElem? fun q=>?_
  rw[List.getElem?_set,List.getElem?_set,List.getElem?_append,List.length_take,Nat.min_eq_left (by omega)]
  simp only[List.length_set]
  by_cases e1:q<i
  ·rw[if_pos e1,if_neg (by omega),if_neg (by omega),List.getElem?_take,if_pos e1]
  · rw[if_neg e1]
    by_cases e2:q=i
    ·subst e2;rw[if_neg (by omega),if_pos rfl,if_pos h1,Nat.sub_self];rfl
    · by_cases e3:q=i+1
      ·subst e3;rw[if_pos rfl,if_pos h2,show i+1 -i=1 by omega];rfl
      · rw[if_neg (by omega),if_neg (by omega),List.getElem?_append_right (by simp;omega),List.getElem?_drop]
        congr 1;simp;omega
theorem swp_mem {α:Type} {l:List α} {i:Nat} {z:α} (h:z∈swp l i):z∈l:=by
  unfold swp at h
  split at h
  · rename_i x y hx hy
    rcases List.mem_or_eq_of_mem_set h with h|rfl
    · rcases List.mem_or_eq_of_mem_set h with h|rfl
      ·exact h
      ·exact List.mem_of_getElem? hy
    ·exact List.mem_of_getElem? hx
  ·exact h
theorem insG_sum:∀(l:List Prt) (n:Nat),(insG n l).length=(l.map fun q=>(npR q.1).length *q.2.length).sum
  |[],n=>rfl
  |q::l,n=>by rw[insG,List.length_append,insG_sum l (n+1),insP,insT_len];rfl
theorem swp_sum {l:List Prt} {i:Nat} {x y:Prt} (hx:l[i]?=some x) (hy:l[i+1]?=some y) (f:Prt→Nat):((swp l i).map f).sum=(l.map f).sum:=by
  have h2:l=l.take i++([x,y]++l.drop (i+2)):=by
    have h1:=(List.getElem?_eq_some_iff.1 hx)
    have h3:=(List.getElem?_eq_some_iff.1 hy)
    obtain⟨h1,e1⟩:=h1
    obtain⟨h3,e3⟩:=h3
    conv=>lhs;rw[←List.take_append_drop i l]
    rw[List.drop_eq_getElem_cons h1,List.drop_eq_getElem_cons h3,e1,e3];rfl
  rw[swp_parts hx hy]
  conv=>rhs;rw[h2]
  simp only[List.map_append,List.sum_append,List.map_cons,List.map_nil,List.sum_cons,List.sum_nil]
  omega
theorem prgV_swp {g:Prg} {i:Nat} {x y:Prt} (hx:g.2[i]?=some x) (hy:g.2[i+1]?=some y) (h:prgV g=true):prgV (g.1,swp g.2 i)=true:=by
  unfold prgV prgS at h ⊢
  simp only[Bool.and_eq_true,decide_eq_true_eq,List.all_eq_true]at h ⊢
  refine⟨⟨h.1.1,by rw[swp_len];exact h.1.2.1,fun q hq=>h.1.2.2 q (swp_mem hq)⟩,?_⟩
  rw[insG_sum,swp_sum hx hy,←insG_sum g.2 0]
  exact h.2
theorem l8With_fn {g:Prg} {i:Nat} {x y:Prt} (hx:g.2[i]?=some x) (hy:g.2[i+1]?=some y) (hs:szG g≤1073741824) (hs2:szG (g.1,swp g.2 i)≤1073741824) (hl:g.2.length≤1073741824) (hv:prgV g=true) (hC:∀g:Prg,prgV g=true→szG g≤1073741824→Fn Tryz.prog 21 [] [ad (rG g)] (.o (ad (rG g))) [])  :Fn Tryz.prog 39 [] [ad (rG g),nat1 (i:Nat),nat1 2,vD (dPts [y,x])] (.tup [ad (rG (g.1,swp g.2 i)),bo1 true]) []:=by
 have hi:=(List.getElem?_eq_some_iff.1 hy).1
 have hsw:=prgV_swp hx hy hv
 refine Fn.code0 Tryz.func39 rfl rfl rfl rfl ?_
 refine .r<|.c .bp<|.c (.al 108 [.slice none 0 0,.slice none 0 0])<|.c .a<|.r<|.c (.lN 2) ?_
 refine .c (.cP [.tmp 12] rfl rfl rfl rfl (hC g hv hs) rfl) ?_
 refine .c (.al 110 [.slice none 0 0,.slice none 0 0])<|.c (.sT 2 true)<|.r<|.c (.fB 0 0 false)<|.c (.b1 1)<|.c (.bu [(0,.tmp 15)] [(0,1),(1,1)] [.slice none 0 0,.slice none 0 0])<|.c (.al 111 [.slice none 0 0,.slice none 0 0])<|.c (.sT 2 true)<|.nn<|.seq ?_
 refine ACode.drawK (by kernel_rfl) (by kernel_rfl) ?_
 refine .c (St1.lit0 (k':=117) (e:=80) (sz:=2) (b:=true) rfl rfl rfl rfl (by kernel_rfl) rfl rfl) ?_
 refine .c (.fB 1 0 false)<|.c (.b1 1)<|.c .m ?_
 refine .c (St1.sliceTo (e:=80) (sz:=2) (by':=48) (k:=i) rfl rfl rfl rfl (by kernel_rfl) rfl rfl rfl (by first|rfl|omega) (by simp;omega)) ?_
 refine .c (St1.appB (k':=122) (e:=80) (sz:=1) (by':=48) rfl rfl rfl rfl rfl (by kernel_rfl) rfl rfl rfl rfl (by first|(simp[dR];done)|(simp[dR];omega)) (by first|(simp[dR];done)|(simp[dR];omega)) rfl rfl rfl) ?_
 refine .c .m ?_
 refine .c (St1.appB (k':=124) (e:=80) (sz:=1) (by':=48) rfl rfl rfl rfl rfl (by kernel_rfl) rfl rfl rfl rfl (by first|(simp[dR];done)|(simp[dR];omega)) (by first|(simp[dR];done)|(simp[dR];omega)) rfl rfl rfl) ?_
 refine .c (.fB 1 0 false)<|.c (.b1 1)<|.c .m<|.c .m<|.c .pl ?_
 refine .c (St1.sliceFrom (e:=80) (sz:=2) (by':=48) (k:=(i+2)) rfl rfl rfl rfl (by kernel_rfl) rfl rfl rfl (by first|rfl|omega) (by simp;omega)) ?_
 refine .c (St1.appB (k':=131) (e:=80) (sz:=1) (by':=48) rfl rfl rfl rfl rfl (by kernel_rfl) rfl rfl rfl rfl (by first|(simp[dR];done)|(simp[dR];omega)) (by first|(simp[dR];done)|(simp[dR];omega)) rfl rfl rfl) ?_
 refine .c (.fB 1 0 false)<|.c (.sT 1 false) ?_
 refine .nil ⟨by kernel_rfl,?_⟩
 refine ks_n<|.seq<|.seq ?_
 refine .keep [eB 8 740 2,eT 9 false,eB 11 741 2,(.b 740,.b 30 2 [[nl,nl]]),eU 740,(.b 741,.b 30 2 [[.d (dRs g.1),.d (dPts (swp g.2 i))]]),eU 741] [(740,108),(741,111)] ⟨kX,kd,kX,kb 108 rfl (.r2 .dt .dt),kb 111 rfl (.r2 .dt (.fz rfl (by rw[swp_map,swp_parts (map_at hx) (map_at hy)];simp[dR]) (by first|(simp[swp_len];omega)|simp) (by first|omega|(simp;omega)))),trivial⟩ ?_
 refine .region<|.c (.bN 2) ?_
 refine .c (.cP [.tmp 33] rfl rfl rfl rfl (hsw▸specPV_fn hs2) rfl) ?_
 refine .c .nt<|.nn ?_
 refine ACode.condT rfl (fun h35=>?_) (fun h35=>?_)
 ·try simp only[zs]at h35
  cases h35
 ·try simp only[zs]at h35
  refine .skip<|ks_n<|.r<|.c (.bN 2) ?_
  refine .c (.cP [.tmp 37] rfl rfl rfl rfl (hC _ hsw hs2) rfl) ?_
  refine .c (.sT 2 true)<|.c .a<|.nn<|.ret ?_
  refine kf_ret rfl ?_ nobox
  rfl
theorem szG_swp {g:Prg} {i:Nat} {x y:Prt} (hx:g.2[i]?=some x) (hy:g.2[i+1]?=some y):szG (g.1,swp g.2 i)=szG g:=by
  rw[szG,szG,szO,szO,szO,swp_len,swp_sum hx hy]
theorem wrap_ind {g:Prg} {a:Int} (hl:g.2.length≤1073741824):indV g a (IntKind.i64.wrap (a+1))=indV g a (a+1):=by
  by_cases h: -9223372036854775808≤a+1∧a+1≤9223372036854775807
  ·rw[IntWalk.i64_in _ h]
  · have h0:inB a 0 ((g.2.length:Nat) -1)=false:=by rw[inB,decide_eq_false_iff_not];omega
    rw[indV,indV,h0,Bool.false_and,Bool.false_and]
theorem specIndW {g:Prg} (hs:szG g≤1073741824) (hl:g.2.length≤1073741824) (a:Int):Fn Tryz.prog 38 [] [ad (rG g),nat1 a,nat1 (IntKind.i64.wrap (a+1))] (.o (bo1 (indV g a (a+1)))) []:=by
  have h:=specInd_fn hs a (IntKind.i64.wrap (a+1))
  rw[wrap_ind hl]at h
  exact h
theorem specSwap_fn (g:Prg) (a:Int) (hs:szG g≤1073741824) (hl:g.2.length≤1073741824) (hG:OwnG0 g) (hC:∀g:Prg,prgV g=true→szG g≤1073741824→Fn Tryz.prog 21 [] [ad (rG g)] (.o (ad (rG g))) [])  :Fn Tryz.prog 13 [] [ad (rG g),nat1 a] (.tup [ad (rG (swapG g a).1),bo1 (swapG g a).2]) []:=by
 refine Fn.code0 Tryz.func13 rfl rfl rfl rfl ?_
 refine .r<|.c (St1.boxB (k':=102) rfl rfl rfl rfl rfl rfl rfl)<|.c (.al 104 [.slice none 0 0,.slice none 0 0])<|.c .a<|.r<|.c (.bN 2) ?_
 refine .c (.cP [.tmp 6] rfl rfl rfl rfl (o16Prg_fn g hG) rfl) ?_
 refine .c (.sT 2 true)<|.nn<|.seq<|.r<|.c (.bN 2)<|.c .m<|.c .m ?_
 refine .c (St1.addW rfl rfl rfl rfl rfl rfl)<|.c (.cP [.tmp 8,.tmp 9,.tmp 11] rfl rfl rfl rfl (specIndW hs hl a) rfl) ?_
 refine .c .nt<|.nn ?_
 refine ACode.condT rfl (fun h13=>?_) (fun h13=>?_)
 ·try simp only[zs]at h13
  refine .r<|.c (.bu [] [(0,1),(1,1)] [.slice none 0 0,.slice none 0 0])<|.c (.sT 2 true)<|.c .a<|.nn<|.ret<|ks_r ?_
  refine kf_wret [eB 4 100 2,eT 5 false,(.b 100,.b 30 2 [[.d (dRs []),.d (dPts [])]]),eU 100] (Wk.keep [(100,104)] rfl rfl ⟨kX,kd,kb 104 rfl (.r2 (Cto.nil _) (Cto.nil _)),trivial⟩) rfl ?_ nobox
  rw[swapG_no h13];rfl
 ·try simp only[zs]at h13
  obtain⟨hv,ha0,ha1⟩:=indV_in h13
  obtain⟨i,rfl⟩:∃i:Nat,a=i:=⟨a.toNat,by omega⟩
  obtain⟨x,hx⟩:∃x,g.2[i]?=some x:=⟨_,List.getElem?_eq_getElem (by omega)⟩
  obtain⟨y,hy⟩:∃y,g.2[i+1]?=some y:=⟨_,List.getElem?_eq_getElem (by omega)⟩
  refine .skip<|ks_n<|.seq ?_
  refine ACode.drawK (by kernel_rfl) (by kernel_rfl) ?_
  refine .c (.bN 2)<|.c .m<|.c (.fB 1 0 false)<|.c (.b1 1)<|.c .m<|.c .pl ?_
  refine .c (.xL 80 2 48 (i:=(i+1)) rfl rfl rfl rfl (by first|rfl|omega) (map_at hy)) ?_
  refine .c (.lN 2)<|.c (.fB 1 0 false)<|.c (.b1 1)<|.c .m ?_
  refine .c (.xL 80 2 48 (i:=i) rfl rfl rfl rfl (by first|rfl|omega) (map_at hx)) ?_
  refine .c (.lN 2)<|.c (.li 80 1 1 [.tmp 22,.tmp 27]) ?_
  refine .c (.cP [.tmp 15,.tmp 16,.const (.int .i64 (2)),.tmp 28] rfl rfl rfl rfl (l8With_fn hx hy hs (by rw[szG_swp hx hy];exact hs) hl hv hC) rfl) ?_
  refine .c .ex<|.c .ex<|.c (.sT 2 true)<|.c .a ?_
  refine .nil ⟨by kernel_rfl,?_⟩
  refine ks_n<|.ret ?_
  refine kf_ret rfl ?_ nobox
  rw[swapG_yes h13];rfl
theorem rG_plain (s:Prg):(rG s).all noTree=true:=rfl
theorem rG_nsl (s:Prg):∀v,D.val v∈rG s→nsl v=true:=fun v hv=>by
  have:rG s=[dRs s.1,dPts s.2]:=rfl
  rw[this]at hv
  simp[dRs,dPts]at hv
theorem sum_le {α:Type} {f:α→Nat} {l:List α} {x:α} (h:x∈l):f x≤(l.map f).sum:=by
  induction l with
  |nil=>cases h
  |cons y l ih=>
    rw[List.map_cons,List.sum_cons]
    rcases List.mem_cons.1 h with rfl|h
    ·omega
    ·have:=ih h;omega
theorem szG_parts {g:Prg} {m:Nat} (h:szG g≤m):g.1.length≤m∧g.2.length≤m∧(∀x∈g.1,x.2.length≤m)∧∀x∈g.2,szLs x.1≤m∧x.2.length≤m∧∀y∈x.2,szS y≤m:=by
  rw[szG,szO,szO]at h
  refine⟨by omega,by omega,fun x hx=>?_,fun x hx=>?_⟩
  · have h1:szR x≤(g.1.map szR).sum:=sum_le hx
    simp only[szR]at h1
    omega
  · have h1:szPt x≤(g.2.map szPt).sum:=sum_le hx
    rw[szPt,szO]at h1
    exact⟨by omega,by omega,fun y hy=>by have h2:szS y≤(x.2.map szS).sum:=sum_le hy;omega⟩
theorem heldG_ok {g:Prg} (h:szG g≤1048576):Fn Tryz.prog 12 [] [ad (mkV mTx 1 (rG g)),nat1 1] (.o (nat1 (1+(wgtV (rG g):Nat)))) []:=by
  obtain⟨h1,h2,h3,h4⟩:=szG_parts h
  have hw:wgtV (rG g)≤5 *szG g:=wgt_prg g
  exact heldG_fn g (heldArrs (by omega) fun x hx=>by have:=h3 x hx;omega) (heldPts (by omega) fun x hx=>⟨by have:=(h4 x hx).1;omega,by have:=(h4 x hx).2.1;omega,fun y hy=>by have:=(h4 x hx).2.2 y hy;omega⟩) (by omega)
set_option maxHeartbeats 3200000 in
theorem markPrgV_u (x:Prg):MarkVU Tryz.prog 11 (rG x):=by
  intro S w vs k h hS hk0 hw
  obtain⟨u0,l0,rfl,hl0⟩:=len_cons h.1
  obtain⟨u1,l1,rfl,hl1⟩:=len_cons hl0
  obtain rfl:=len_zero hl1
  clear hl0 hl1
  have ew:wgtV (rG x)=wgt (dRs x.1)+(wgt (dPts x.2)):=rfl
  have em:mkV mTx k (rG x)=[mkD mTx (k) (dRs x.1)]++([mkD mTx (k+(wgt (dRs x.1):Nat)) (dPts x.2)]):=rfl
  rw[ew]at hw ⊢
  rw[em]
  obtain⟨c0,hc0,q0⟩:∃c,wgt (dRs x.1)=c∧MarkU Tryz.prog mTx 34 (dRs x.1) c:=⟨_,rfl,markArrs_u x.1⟩
  obtain⟨c1,hc1,q1⟩:∃c,wgt (dPts x.2)=c∧MarkU Tryz.prog mTx 35 (dPts x.2) c:=⟨_,rfl,markPts_u x.2⟩
  rw[hc0,hc1]at hw ⊢
  have M0:=marked_of ((Below.refl w.heap.size w).alloc (Nat.le_refl _) (.cells #[u0,u1] 30)) S
  have HM0:=hid M0;have HB:=hid (heap_alloc_new w (.cells #[u0,u1] 30))
  have HS:=hid hS
  have HU0:=hid (h.fwd ((Below.refl w.heap.size w).alloc (Nat.le_refl _) (.cells #[u0,u1] 30)))
  have HW:=hid hw;clear hw
  clear h hS M0 ew em
  go_enter Tryz.func11,Tryz.ntmps11
  go_wp2_with fail
  obtain⟨T0,d0,s0,p0⟩:=HU0.out.part (j:=0) rfl rfl
  refine(q0 T0 _ _ _ d0 (by have:=HW.out;omega) (by have:=HW.out;omega)).mono ?_
  rintro e w1 ⟨rfl,m0,y0⟩
  have HU1:=hid (p0 _ _ m0 y0)
  have HM1:=hid (HM0.out.trans (m0.sub s0))
  have HB1:=hid ((m0.old w.heap.size (by simp) (fun h=>absurd (HS.out _ (s0 _ h)) (by omega))).trans HB.out)
  have e0:w1.cell? ⟨w.heap.size,0,none⟩=some u0:=by rw[cell_of_row w1 _ _ _ _ _ HB1.out];rfl
  have e1:w1.cell? ⟨w.heap.size,1,none⟩=some u1:=by rw[cell_of_row w1 _ _ _ _ _ HB1.out];rfl
  clear m0 y0 p0 d0
  go_wp2_with fail
  clear e0 e1
  obtain⟨T1,d1,s1,p1⟩:=HU1.out.part (j:=1) rfl rfl
  refine(q1 T1 _ _ _ d1 (by have:=HW.out;omega) (by have:=HW.out;omega)).mono ?_
  rintro e w2 ⟨rfl,m1,y1⟩
  have HU2:=hid (p1 _ _ m1 y1)
  have HM2:=hid (HM1.out.trans (m1.sub s1))
  clear m1 y1 p1 d1
  go_wp2_with fail
  go_ret
  have hw:=HW.out
  exact⟨ret_int (by omega),HM2.out,HU2.out⟩
set_option maxHeartbeats 3200000 in
theorem markPrgV_k (x:Prg):MarkVK Tryz.prog 11 (rG x):=by
  intro S w vs k h hS hk0 hw
  obtain⟨u0,l0,rfl,hl0⟩:=len_cons h.1
  obtain⟨u1,l1,rfl,hl1⟩:=len_cons hl0
  obtain rfl:=len_zero hl1
  clear hl0 hl1
  have ew:wgtV (rG x)=wgt (dRs x.1)+(wgt (dPts x.2)):=rfl
  rw[ew]at hw ⊢
  obtain⟨c0,hc0,q0⟩:∃c,wgt (dRs x.1)=c∧MarkN Tryz.prog 34 (dRs x.1) c:=⟨_,rfl,markArrs_k x.1⟩
  obtain⟨c1,hc1,q1⟩:∃c,wgt (dPts x.2)=c∧MarkN Tryz.prog 35 (dPts x.2) c:=⟨_,rfl,markPts_k x.2⟩
  have M0:=marked_of ((Below.refl w.heap.size w).alloc (Nat.le_refl _) (.cells #[u0,u1] 30)) S
  have HM0:=hid M0;have HB:=hid (heap_alloc_new w (.cells #[u0,u1] 30))
  have HS:=hid hS
  have HU0:=hid (DrKs.mark h M0)
  have HW:=hid hw;clear hw
  clear h hS M0 ew
  go_enter Tryz.func11,Tryz.ntmps11
  go_wp2_with fail
  refine(q0 S _ _ _ (HU0.out.2 0 _ _ rfl rfl) (by have:=HW.out;omega) (by have:=HW.out;omega)).mono ?_
  rintro e w1 ⟨rfl,m0⟩
  have HU1:=hid (DrKs.mark HU0.out m0)
  have HM1:=hid (HM0.out.trans m0)
  have HB1:=hid ((m0.old w.heap.size (by simp) (fun h=>absurd (HS.out _ h) (by omega))).trans HB.out)
  have e0:w1.cell? ⟨w.heap.size,0,none⟩=some u0:=by rw[cell_of_row w1 _ _ _ _ _ HB1.out];rfl
  have e1:w1.cell? ⟨w.heap.size,1,none⟩=some u1:=by rw[cell_of_row w1 _ _ _ _ _ HB1.out];rfl
  clear m0
  go_wp2_with fail
  clear e0 e1
  refine(q1 S _ _ _ (HU1.out.2 1 _ _ rfl rfl) (by have:=HW.out;omega) (by have:=HW.out;omega)).mono ?_
  rintro e w2 ⟨rfl,m1⟩
  have HU2:=hid (DrKs.mark HU1.out m1)
  have HM2:=hid (HM1.out.trans m1)
  clear m1
  go_wp2_with fail
  go_ret
  have hw:=HW.out
  exact⟨ret_int (by omega),HM2.out⟩
set_option maxHeartbeats 12800000 in
theorem lawXswap {s r:Prg} {a:Int} {b:Bool} (ho:okPrg s) (qs:szG s≤1048576→Fn Tryz.prog 13 [] [ad (rG s),nat1 a] (.tup [ad (rG r),bo1 b]) []) (qi:szG s≤1048576→FnT Tryz.prog 14 [ad (rG s),nat1 a] none' (.strB (rG r) b)) (hr:szG s≤1048576→szG r≤1048576)
    {w:World} {us:List Value} (d:Drs (fun b=>b<w.heap.size) w (rG s) us):Truth Tryz.prog 4 #[.agg us.toArray,.int .i64 a] w:=by
  obtain⟨u0,l0,rfl,hl0⟩:=len_cons d.1
  obtain⟨u1,l1,rfl,hl1⟩:=len_cons hl0
  obtain rfl:=len_zero hl1;clear hl0 hl1
  have HB:=hid (Bxs.add (w:=w) (l:=[]) (fun b hb=>by cases hb) [u0,u1] 25)
  have HL:=hid (show Below w.heap.size w (w.alloc (.cells [u0,u1].toArray 25))from(Below.refl _ _).alloc (Nat.le_refl _) _)
  have HD:=hid d;clear d
  have hz:=szPrg_fn (l:=1048576) (by omega) ho
  by_cases hs:szG s≤1048576
  case neg=>
    rw[subZ_no (by omega)]at hz
    have HZ:=hid hz;clear hz qs qi ho hr
    go_enter Tryz.func4,Tryz.ntmps4
    go_wp2_with fail
    refine(HZ.out.callsI (vs:=[_,_]) (vals2_mk (HD.out.fwd HL.out).v (Dr.val (.int .i64 1048576) rfl))).mono ?_
    rintro e wA ⟨rfl,bA⟩
    have HLA:=hid (HL.out.trans (bA.mono HL.out.size));clear bA
    go_wp2_with fail
    go_ret
    exact⟨rfl,HLA.out⟩
  rw[subZ_yes (by omega)]at hz
  have qs:=hid (qs hs);have qi:=hid (qi hs);have hr0:=hr hs;have HR:=hid hr0
  have hcp:=hid (copyPrg hs);have heq:=hid (eqPrg_fn r r (by omega));have hes:=hid (eqPrg_fn s s (by omega))
  have w1:wgtV (rG s)≤5 *szG s:=wgt_prg s;have w2:wgtV (rG r)≤5 *szG r:=wgt_prg r
  have WS:=hid (show wgtV (rG s)≤10485760 by omega);have WR:=hid (show wgtV (rG r)≤10485760 by omega)
  have hhd:=hid (heldG_ok hr0)
  have HZ:=hid hz
  have hz0:(0:Int)≤1048576 -(szG s:Nat):=by omega
  obtain⟨z,hz1⟩:∃z:Int,z=1048576 -(szG s:Nat):=⟨_,rfl⟩
  rw[←hz1]at HZ hz0
  obtain⟨kS,hkS⟩:∃k:Nat,k=wgtV (rG s):=⟨_,rfl⟩
  obtain⟨kR,hkR⟩:∃k:Nat,k=wgtV (rG r):=⟨_,rfl⟩
  have mks:=hid (markPrgV_k s);have mku:=hid (markPrgV_u r)
  have EK:=hid hkS;have ER:=hid hkR
  rw[←hkR]at hhd
  clear hz1 hz ho hr hs hr0 w1 w2 hkS hkR
  go_enter Tryz.func4,Tryz.ntmps4
  go_wp2_with fail
  refine(HZ.out.callsI (vs:=[_,_]) (vals2_mk (HD.out.fwd HL.out).v (Dr.val (.int .i64 1048576) rfl))).mono ?_
  rintro e wA ⟨rfl,bA⟩
  have HBA:=hid (HB.out.fwd bA)
  have HLA:=hid (HL.out.trans (bA.mono HL.out.size))
  clear bA
  have u0':=HBA.out.c 0 rfl 0 rfl
  have u1':=HBA.out.c 0 rfl 1 rfl
  go_wp2_with fail
  clear u0' u1'
  refine(hcp.out _ _ [u0,u1] rfl (HD.out.fwd HLA.out).2).mono ?_
  rintro e wB ⟨vs,rfl,bwB,hv⟩
  obtain⟨v0,l0,rfl,hl0⟩:=len_cons hv.1
  obtain⟨v1,l1,rfl,hl1⟩:=len_cons hl0
  obtain rfl:=len_zero hl1;clear hl0 hl1
  have NB:=hid hv;clear hv
  have HBB:=hid (HBA.out.fwd bwB)
  have HLB:=hid (HLA.out.trans (bwB.mono HLA.out.size))
  clear bwB
  go_wp2_with fail
  refine(qs.out.callsS (vs:=[_,_]) (B:=fun _=>True) (vals2_mk NB.out.drs.v (Dr.val (.int .i64 a) rfl))).mono ?_
  rintro e wC ⟨ys,rfl,bC,hy⟩
  clear NB
  obtain⟨y0,l0,rfl,hl0⟩:=len_cons hy.1
  obtain⟨y1,l1,rfl,hl1⟩:=len_cons hl0
  obtain rfl:=len_zero hl1;clear hl0 hl1
  have HBC:=hid (HBB.out.fwd bC)
  have HLC:=hid (HLB.out.trans (bC.mono HLB.out.size))
  have DWC:=hid hy;clear hy bC
  have s0:=fun a m w=>run_store Tryz.prog w a y0 m (DWC.out.2 0 _ _ rfl rfl).one
  have s1:=fun a m w=>run_store Tryz.prog w a y1 m (DWC.out.2 1 _ _ rfl rfl).one
  have ALc:=hid (show Below wC.heap.size wC (wC.alloc (.cells [y0,y1].toArray 30))from(Below.refl _ _).alloc (Nat.le_refl _) _)
  have HBc:=hid (HBC.out.add [y0,y1] 30)
  have HLc:=hid (HLC.out.trans (ALc.out.mono HLC.out.size))
  have DWc:=hid (DWC.out.fwd ALc.out)
  have u0':=HBc.out.c 1 rfl 0 rfl
  have u1':=HBc.out.c 1 rfl 1 rfl
  go_wp2_with fail
  clear s0 s1
  clear u0' u1'
  refine(hcp.out _ _ [u0,u1] rfl (HD.out.fwd HLc.out).2).mono ?_
  rintro e wD ⟨vs,rfl,bwD,hv⟩
  obtain⟨x0,l0,rfl,hl0⟩:=len_cons hv.1
  obtain⟨x1,l1,rfl,hl1⟩:=len_cons hl0
  obtain rfl:=len_zero hl1;clear hl0 hl1
  have NX:=hid hv;clear hv
  have HBD:=hid (HBc.out.fwd bwD)
  have HLD:=hid (HLc.out.trans (bwD.mono HLc.out.size))
  have DWD:=hid (DWc.out.fwd bwD)
  have DXD:=hid (NX.out.k (S:=fun c=>(wC.alloc (.cells [y0,y1].toArray 30)).heap.size≤c∧c<wD.heap.size) fun c h1 h2=>⟨h1,h2⟩);have SZD:=hid bwD.size;clear bwD
  have NXD:=hid NX.out.drs
  have s0:=fun a m w=>run_store Tryz.prog w a x0 m (NXD.out.2 0 _ _ rfl rfl).one
  have s1:=fun a m w=>run_store Tryz.prog w a x1 m (NXD.out.2 1 _ _ rfl rfl).one
  have ALd:=hid (show Below wD.heap.size wD (wD.alloc (.cells [x0,x1].toArray 30))from(Below.refl _ _).alloc (Nat.le_refl _) _)
  have HBd:=hid (HBD.out.add [x0,x1] 30)
  have HLd:=hid (HLD.out.trans (ALd.out.mono HLD.out.size))
  have DWd:=hid (DWD.out.fwd ALd.out)
  have DXd:=hid (DXD.out.mark (marked_of ALd.out _))
  have NXd:=hid (NXD.out.fwd ALd.out)
  go_wp2_with fail
  clear s0 s1
  refine(FnT.callsS qi.out (rG_plain r) (rG_nsl r) (vs:=[_,_]) (vals2_mk NXd.out.v (Dr.val (.int .i64 a) rfl))).mono ?_
  rintro e wE ⟨gs,SG,rfl,bwE,hSG,hg⟩
  obtain⟨g0,l0,rfl,hl0⟩:=len_cons hg.1
  obtain⟨g1,l1,rfl,hl1⟩:=len_cons hl0
  obtain rfl:=len_zero hl1;clear hl0 hl1
  have HBE:=hid (HBd.out.fwd bwE)
  have HLE:=hid (HLd.out.trans (bwE.mono HLd.out.size))
  have DWE:=hid (DWd.out.fwd bwE)
  have DXE:=hid (DXd.out.mark (marked_of bwE _))
  have NXE:=hid (NXd.out.fwd bwE)
  have DGE:=hid hg;have HSG:=hid hSG;have SZE:=hid bwE.size;clear hg hSG bwE
  have s0:=fun a m w=>run_store Tryz.prog w a g0 m (DGE.out.drs.2 0 _ _ rfl rfl).one
  have s1:=fun a m w=>run_store Tryz.prog w a g1 m (DGE.out.drs.2 1 _ _ rfl rfl).one
  have ALe:=hid (show Below wE.heap.size wE (wE.alloc (.cells [g0,g1].toArray 30))from(Below.refl _ _).alloc (Nat.le_refl _) _)
  have HBe:=hid (HBE.out.add [g0,g1] 30)
  have HLe:=hid (HLE.out.trans (ALe.out.mono HLE.out.size))
  have DWe:=hid (DWE.out.fwd ALe.out)
  have DXe:=hid (DXE.out.mark (marked_of ALe.out _))
  have NXe:=hid (NXE.out.fwd ALe.out)
  have DGe:=hid (DGE.out.fwd ALe.out)
  have y0':=HBe.out.c 2 rfl 0 rfl
  have y1':=HBe.out.c 2 rfl 1 rfl
  go_wp2_with fail
  clear s0 s1
  clear y0' y1'
  refine(heq.out.callsB (vs:=[_,_]) (B:=fun _=>True) (vals2_mk DGe.out.drs.v (DWe.out.mono fun _ _ _=>trivial).v)).mono ?_
  rintro e wF ⟨rfl,bwF⟩
  rw[show sameG r r=true from sameG_refl _]
  have HBF:=hid (HBe.out.fwd bwF)
  have HLF:=hid (HLe.out.trans (bwF.mono HLe.out.size))
  have DWF:=hid (DWe.out.fwd bwF)
  have DXF:=hid (DXe.out.mark (marked_of bwF _))
  have NXF:=hid (NXe.out.fwd bwF)
  have DGF:=hid (DGe.out.fwd bwF)
  clear bwF
  have u0':=HBF.out.c 3 rfl 0 rfl
  have u1':=HBF.out.c 3 rfl 1 rfl
  have x0':=HBF.out.c 1 rfl 0 rfl
  have x1':=HBF.out.c 1 rfl 1 rfl
  go_wp2_with fail
  go_region_held3 (fun wq=>wq.cell? ⟨w.heap.size,0,none⟩=some u0∧wq.cell? ⟨w.heap.size,1,none⟩=some u1∧wq.cell? ⟨wD.heap.size,0,none⟩=some x0∧wq.cell? ⟨wD.heap.size,1,none⟩=some x1)
    ((repeat' apply And.intro)<;>first|assumption|go_keep)
    (first
    | (go_at_call 8
       refine(hcp.out _ _ [u0,u1] rfl (HD.out.fwd (HLF.out.drew)).2).mono ?_
       rintro e wG ⟨vs,rfl,bG,hv⟩
       obtain⟨z0,l0,rfl,hl0⟩:=len_cons hv.1
       obtain⟨z1,l1,rfl,hl1⟩:=len_cons hl0
       obtain rfl:=len_zero hl1
       have NG:=hid hv
       have HFG:=hid (show Below wF.heap.size wF wG from(Below.refl _ _).drew.trans bG)
       clear hv bG hl0 hl1
       have u0':=(HBF.out.fwd HFG.out).c 3 rfl 0 rfl
       have u1':=(HBF.out.fwd HFG.out).c 3 rfl 1 rfl
       have x0':=(HBF.out.fwd HFG.out).c 1 rfl 0 rfl
       have x1':=(HBF.out.fwd HFG.out).c 1 rfl 1 rfl)
    | (go_at_call 10
       refine(hes.out.callsB (vs:=[_,_]) (B:=fun _=>True) (vals2_mk (NXF.out.fwd HFG.out).v NG.out.drs.v)).mono ?_
       rintro e wH ⟨rfl,bH⟩
       rw[show sameG s s=true from sameG_refl _]
       have HFH:=hid (HFG.out.trans (bH.mono HFG.out.size))
       clear bH
       have u0':=(HBF.out.fwd HFH.out).c 3 rfl 0 rfl
       have u1':=(HBF.out.fwd HFH.out).c 3 rfl 1 rfl
       have x0':=(HBF.out.fwd HFH.out).c 1 rfl 0 rfl
       have x1':=(HBF.out.fwd HFH.out).c 1 rfl 1 rfl))
  have HBH:=hid (HBF.out.fwd HFH.out)
  have HLH:=hid (HLF.out.trans (HFH.out.mono HLF.out.size))
  have DWH:=hid (DWF.out.fwd HFH.out)
  have DXH:=hid (DXF.out.mark (marked_of HFH.out _))
  have NXH:=hid (NXF.out.fwd HFH.out)
  have DGH:=hid (DGF.out.fwd HFH.out)
  clear NG HFG HFH
  go_wp2_with fail
  clear u0' u1' x0' x1'
  have zH:wD.heap.size≤wH.heap.size:=Nat.le_of_lt (HBH.out.lt (b:=(wD.heap.size,_,_)) (List.mem_of_getElem? (i:=1) rfl))
  refine(mks.out _ _ [x0,x1] 1 DXH.out (fun c h=>Nat.lt_of_lt_of_le h.2 zH) (by omega) (by have:=WS.out;have:=EK.out;omega)).mono ?_
  rw[←EK.out]
  rintro e wI ⟨rfl,mI⟩
  have e1:=SZE.out;have e2:=HLC.out.size;have e3:(wC.alloc (.cells [y0,y1].toArray 30)).heap.size=wC.heap.size+1:=by simp
  have e4:(wD.alloc (.cells [x0,x1].toArray 30)).heap.size=wD.heap.size+1:=by simp
  have e8:=SZD.out;rw[e3]at e8
  have e5:=HBC.out.lt (b:=(w.heap.size,_,_)) (List.mem_of_getElem? (i:=0) rfl)
  have e6:=HLH.out.size
  have e7:=HBH.out.lt (b:=(wE.heap.size,_,_)) (List.mem_of_getElem? (i:=0) rfl)
  have SZS:=hid (And.intro e1 (And.intro e2 (And.intro e3 (And.intro e4 e5))))
  dsimp only at e5 e7
  have HBI:=hid (HBH.out.mark mI (fun c hc h=>by
    have h1:=h.1;have h2:=h.2
    rw[e3]at h1;rw[e4]at e1
    simp only[List.mem_cons,List.not_mem_nil,or_false]at hc
    rcases hc with rfl|rfl|rfl|rfl<;>dsimp only at h1 h2<;>omega))
  have bI:=mI.below (n:=wC.heap.size) (fun c h=>by have h1:=h.1;rw[e3]at h1;omega) (by omega)
  have HLI:=hid (HLH.out.trans (bI.mono (by omega)));have DWI:=hid (DWH.out.lo bI)
  have DGI:=hid (DGH.out.frame fun c hc hl=>mI.old c hl fun h=>by have h1:=(HSG.out c hc).1;have h2:=h.2;rw[e4]at h1;omega)
  clear mI bI e6 e7 zH
  have h2:decide ((1:Int)+(kS:Nat)<0)=false:=by simp;omega
  have g0':=HBI.out.c 0 rfl 0 rfl
  have g1':=HBI.out.c 0 rfl 1 rfl
  have y0':=HBI.out.c 2 rfl 0 rfl
  have y1':=HBI.out.c 2 rfl 1 rfl
  go_wp2_with fail
  clear h2
  clear g0' g1' y0' y1'
  refine(heq.out.callsB (vs:=[_,_]) (B:=fun _=>True) (vals2_mk DGI.out.drs.v (DWI.out.mono fun _ _ _=>trivial).v)).mono ?_
  rintro e wJ ⟨rfl,bwJ⟩
  rw[show sameG r r=true from sameG_refl _]
  have HBJ:=hid (HBI.out.fwd bwJ)
  have HLJ:=hid (HLI.out.trans (bwJ.mono HLI.out.size))
  have DWJ:=hid (DWI.out.fwd bwJ)
  have DGJ:=hid (DGI.out.fwd bwJ)
  clear bwJ
  have g0':=HBJ.out.c 0 rfl 0 rfl
  have g1':=HBJ.out.c 0 rfl 1 rfl
  go_wp2_with fail
  clear g0' g1'
  have e7:=HBJ.out.lt (b:=(wE.heap.size,_,_)) (List.mem_of_getElem? (i:=0) rfl)
  dsimp only at e7
  refine(mku.out SG _ [g0,g1] 1 DGJ.out (fun c h=>Nat.lt_trans (HSG.out c h).2 e7) (by omega) (by have:=WR.out;have:=ER.out;omega)).mono ?_
  rw[←ER.out]
  rintro e wK ⟨rfl,mK,gK⟩
  have HBK:=hid (HBJ.out.mark mK (fun c hc h=>by
    have h1:=(HSG.out _ h).1;have h2:=(HSG.out _ h).2
    rw[e4]at h1 e1
    simp only[List.mem_cons,List.not_mem_nil,or_false]at hc
    rcases hc with rfl|rfl|rfl|rfl<;>dsimp only at h1 h2<;>omega))
  have bK:=mK.below (n:=wC.heap.size) (fun c h=>by have h1:=(HSG.out _ h).1;rw[e4]at h1;omega) (by omega)
  have HLK:=hid (HLJ.out.trans (bK.mono (by omega)));have DWK:=hid (DWJ.out.lo bK);have DGK:=hid gK;clear mK bK gK e7
  have g0':=HBK.out.c 0 rfl 0 rfl
  have g1':=HBK.out.c 0 rfl 1 rfl
  go_wp2_with fail
  clear g0' g1'
  refine(hhd.out.callsI (vs:=[_,_]) (B:=fun _=>True) (vals2_mk DGK.out.drs.v (Dr.val (.int .i64 1) rfl))).mono ?_
  rintro e wL ⟨rfl,bwL⟩
  have HBL:=hid (HBK.out.fwd bwL)
  have HLL:=hid (HLK.out.trans (bwL.mono HLK.out.size))
  have DWL:=hid (DWK.out.fwd bwL)
  have DGL:=hid (DGK.out.fwd bwL)
  clear bwL
  have h3:decide ((1:Int)+(kR:Nat)<0)=false:=by simp;omega
  have u0':=HBL.out.c 3 rfl 0 rfl
  have u1':=HBL.out.c 3 rfl 1 rfl
  go_wp2_with fail
  clear u0' u1'
  refine(hcp.out _ _ [u0,u1] rfl (HD.out.fwd HLL.out).2).mono ?_
  rintro e wM ⟨vs,rfl,bwM,hv⟩
  obtain⟨m0,l0,rfl,hl0⟩:=len_cons hv.1
  obtain⟨m1,l1,rfl,hl1⟩:=len_cons hl0
  obtain rfl:=len_zero hl1;clear hl0 hl1
  have NM:=hid hv;clear hv
  have HBM:=hid (HBL.out.fwd bwM)
  have HLM:=hid (HLL.out.trans (bwM.mono HLL.out.size))
  have DWM:=hid (DWL.out.fwd bwM)
  have DGM:=hid (DGL.out.fwd bwM)
  clear bwM
  go_wp2_with fail
  refine(FnT.callsS qi.out (rG_plain r) (rG_nsl r) (vs:=[_,_]) (vals2_mk NM.out.drs.v (Dr.val (.int .i64 a) rfl))).mono ?_
  rintro e wN ⟨gs,SH,rfl,bwN,hSH,hg⟩
  obtain⟨h0,l0,rfl,hl0⟩:=len_cons hg.1
  obtain⟨h1,l1,rfl,hl1⟩:=len_cons hl0
  obtain rfl:=len_zero hl1;clear hl0 hl1
  have HBN:=hid (HBM.out.fwd bwN)
  have HLN:=hid (HLM.out.trans (bwN.mono HLM.out.size))
  have DWN:=hid (DWM.out.fwd bwN)
  have DGN:=hid (DGM.out.fwd bwN)
  have DHN:=hid hg;clear hg hSH bwN NM
  have s0:=fun a m w=>run_store Tryz.prog w a h0 m (DHN.out.drs.2 0 _ _ rfl rfl).one
  have s1:=fun a m w=>run_store Tryz.prog w a h1 m (DHN.out.drs.2 1 _ _ rfl rfl).one
  have ALn:=hid (show Below wN.heap.size wN (wN.alloc (.cells [h0,h1].toArray 30))from(Below.refl _ _).alloc (Nat.le_refl _) _)
  have HBn:=hid (HBN.out.add [h0,h1] 30)
  have HLn:=hid (HLN.out.trans (ALn.out.mono HLN.out.size))
  have DWn:=hid (DWN.out.fwd ALn.out)
  have DGn:=hid (DGN.out.fwd ALn.out)
  have DHn:=hid (DHN.out.fwd ALn.out)
  have y0':=HBn.out.c 3 rfl 0 rfl
  have y1':=HBn.out.c 3 rfl 1 rfl
  go_wp2_with fail
  clear s0 s1
  clear y0' y1'
  refine(heq.out.callsB (vs:=[_,_]) (B:=fun _=>True) (vals2_mk DHn.out.drs.v (DWn.out.mono fun _ _ _=>trivial).v)).mono ?_
  rintro e wO ⟨rfl,bwO⟩
  rw[show sameG r r=true from sameG_refl _]
  have HBO:=hid (HBn.out.fwd bwO)
  have HLO:=hid (HLn.out.trans (bwO.mono HLn.out.size))
  have DWO:=hid (DWn.out.fwd bwO)
  have DGO:=hid (DGn.out.fwd bwO)
  have DHO:=hid (DHn.out.fwd bwO)
  clear bwO
  have g0':=HBO.out.c 1 rfl 0 rfl
  have g1':=HBO.out.c 1 rfl 1 rfl
  go_wp2_with fail
  clear g0' g1'
  refine(hhd.out.callsI (vs:=[_,_]) (B:=fun _=>True) (vals2_mk DGO.out.drs.v (Dr.val (.int .i64 1) rfl))).mono ?_
  rintro e wP ⟨rfl,bwP⟩
  have HBP:=hid (HBO.out.fwd bwP)
  have HLP:=hid (HLO.out.trans (bwP.mono HLO.out.size))
  have DWP:=hid (DWO.out.fwd bwP)
  have DGP:=hid (DGO.out.fwd bwP)
  have DHP:=hid (DHO.out.fwd bwP)
  clear bwP
  go_wp2_with fail
  go_ret
  exact⟨rfl,HLP.out⟩
theorem prgV_part {g:Prg} (h:prgV g=true) {x:Prt} (hx:x∈g.2):prtV g.1 x=true:=by
  unfold prgV prgS at h
  simp only[Bool.and_eq_true,decide_eq_true_eq,List.all_eq_true]at h
  exact h.1.2.2 x hx
theorem own_of {g:Prg} (hs:szG g≤1048576) (hv:prgV g=true):OwnG g:=by
  obtain⟨h1,h2,h3,h4⟩:=szG_parts hs
  refine⟨by omega,by omega,fun x hx=>by have:=h3 x hx;omega,fun x hx=>⟨by have:=(h4 x hx).1;omega,by have:=(h4 x hx).2.1;omega,fun y hy=>by have:=(h4 x hx).2.2 y hy;omega,fun y hy=>mapS_id ((prtV_iff.1 (prgV_part hv hx)).2.2.1 y hy)⟩⟩
theorem own0_of {g:Prg} (hs:szG g≤1048576):OwnG0 g:=by
  obtain⟨h1,h2,h3,h4⟩:=szG_parts hs
  exact⟨by omega,by omega,fun x hx=>by have:=h3 x hx;omega,fun x hx=>⟨by have:=(h4 x hx).1;omega,by have:=(h4 x hx).2.1;omega,fun y hy=>by have:=(h4 x hx).2.2 y hy;omega⟩⟩
theorem copy_of (g:Prg) (hv:prgV g=true) (hs:szG g≤1073741824):Fn Tryz.prog 21 [] [ad (rG g)] (.o (ad (rG g))) []:=by
  obtain⟨h1,h2,h3,h4⟩:=szG_parts hs
  exact l4Copy_fn g h1 h2 h3 fun x hx=>⟨smN_of (okP_iff.1 (prtV_iff.1 (prgV_part hv hx)).1).1,(h4 x hx).2.1,(h4 x hx).2.2⟩
theorem swapG_sz {g:Prg} {a:Int} {m:Nat} (h:szG g≤m):szG (swapG g a).1≤m:=by
  unfold swapG
  split
  · rename_i h2
    obtain⟨_,h3,h4⟩:=indV_in h2
    obtain⟨i,rfl⟩:∃i:Nat,a=i:=⟨a.toNat,by omega⟩
    rw[Int.toNat_natCast]
    have hx:g.2[i]?=some _:=List.getElem?_eq_getElem (by omega)
    have hy:g.2[i+1]?=some _:=List.getElem?_eq_getElem (by omega)
    rw[szG_swp hx hy];exact h
  · show szO szR []+szO szPt []≤m
    simp[szO]
theorem lawEswap {g:Prg} (ho:okPrg g) (a:Int) {w:World} {v:Value} (e0:V1r bx0 al0 (fun b=>b<w.heap.size) w (ad (rG g)) v):Truth Tryz.prog 4 #[v,.int .i64 a] w:=by
  obtain⟨us,rfl,d⟩:=e0_drs e0
  exact lawXswap ho (fun hs=>specSwap_fn g a (by omega) (by have:=(szG_parts hs).2.1;omega) (own0_of hs) copy_of) (fun hs=>SwapParts_T g a (by omega) (by have:=(szG_parts hs).2.1;omega) (fun hv=>own_of hs hv)) (fun hs=>swapG_sz hs) d
end Go.Proofs.YtollooimmfngjaaGreat
