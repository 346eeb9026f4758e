/- Part 7 of 7 of the proof: laws on memory and data, then what the functions compute, in the order in which they build on each other; conditions: those that each theorem names. -/
import Derived.Test.YtollooimmfngjaaGreatP6
set_option maxRecDepth 100000
set_option maxHeartbeats 1600000

namespace Go.Proofs.YtollooimmfngjaaGreat
set_option linter.unusedVariables false
set_option linter.unusedSimpArgs false
open Go.RowKit
def hitAt (g:Prg) (a:Int) (j:Nat):Bool:=(liveV g).getD j false&&match (insG 0 g.2)[j]? with
  |some x=>decide (x.1=a)
  |none=>false
theorem hitAt_eq {g:Prg} {a:Int} {j:Nat} {b:Bool} {x:Ins} (hb:(liveV g)[j]?=some b) (hx:(insG 0 g.2)[j]?=some x):hitAt g a j=(b&&decide (x.1=a)):=by rw[hitAt,List.getD,hb,hx];rfl
def hitV (g:Prg) (a:Int):Bool:=(List.range (insG 0 g.2).length).any (hitAt g a)
theorem hitV_yes {g:Prg} {a:Int} {j:Nat} (hj:j<(insG 0 g.2).length) (h:hitAt g a j=true):hitV g a=true:=List.any_eq_true.2 ⟨j,List.mem_range.2 hj,h⟩
theorem hitV_no {g:Prg} {a:Int} (h:∀j,j<(insG 0 g.2).length→hitAt g a j=false):hitV g a=false:=by
  rw[hitV,List.any_eq_false]
  intro j hj
  rw[h j (List.mem_range.1 hj)];decide
def delG (g:Prg) (i:Nat):Prg:=(g.1,g.2.take i++g.2.drop (i+1))
theorem delG_len {g:Prg} {i:Nat} (h:i<g.2.length):(delG g i).2.length=g.2.length -1:=by simp[delG];omega
def dropG (g:Prg) (a:Int):Prg×Bool:=if prgV g=true∧inB a 0 ((g.2.length:Nat) -1)=true∧hitV g a=false then(delG g a.toNat,true)else(([],[]),false)
theorem dropG_no {g:Prg} {a:Int} (h:¬(prgV g=true∧inB a 0 ((g.2.length:Nat) -1)=true∧hitV g a=false)):dropG g a=(([],[]),false):=if_neg h
theorem dropG_yes {g:Prg} {i:Nat} (h1:prgV g=true) (h2:inB (i:Int) 0 ((g.2.length:Nat) -1)=true) (h3:hitV g (i:Int)=false):dropG g (i:Int)=(delG g i,true):=by rw[dropG,if_pos ⟨h1,h2,h3⟩,Int.toNat_natCast]
def deN (i q:Nat):Nat:=if q<i then q else q+1
def deF (F:Nat→Nat→Nat→Prop) (i:Nat):Nat→Nat→Nat→Prop:=fun q=>F (deN i q)
theorem tag_del {F:Nat→Nat→Nat→Prop} {l:List (List D)} {i:Nat} (hi:i<l.length):(tagRs F 0 l).take i++(tagRs F 0 l).drop (i+1)=tagRs (deF F i) 0 (l.take i++l.drop (i+1)):=by
  refine tagRs_ext (by simp[tagRs_len]) fun q r hr=>?_
  rw[List.getElem?_append,List.length_take,tagRs_len,Nat.min_eq_left (by omega)]
  rw[List.getElem?_append,List.length_take,Nat.min_eq_left (by omega)]at hr
  unfold deF deN
  split
  · rename_i h
    rw[if_pos h,List.getElem?_take,if_pos h]at hr
    rw[List.getElem?_take,if_pos h,tagRs_at hr,Nat.zero_add]
  · rename_i h
    rw[if_neg h,List.getElem?_drop]at hr
    rw[List.getElem?_drop,tagRs_at hr,Nat.zero_add,show i+1+(q -i)=q+1 by omega]
theorem FD.del {U L:Nat→Prop} {n i:Nat} {F:Nat→Nat→Nat→Prop} (h:FD U L n F) (hi:i<n):FD U L (n -1) (deF F i):=by
  have hl:∀q,q<n -1→deN i q<n:=fun q hq=>by unfold deN;split<;>omega
  refine⟨fun a c a' c' b ha ha' hc hc' h1 h2=>?_,fun a c b ha hc h1=>h.out _ c b (hl a ha) hc h1⟩
  have:=h.dis _ c _ c' b (hl a ha) (hl a' ha') hc hc' h1 h2
  refine⟨?_,this.2⟩
  have e:=this.1
  unfold deN at e
  split at e<;>split at e<;>omega
theorem deleteG {g:Prg} {F:Nat→Nat→Nat→Prop} {i:Nat} (hi:i<g.2.length) (hn:g.2.length≤1048576):Fn Tryz.prog 46 [(.b 0,.b 80 2 (dR (tagRs F 0 (g.2.map rP)))),(.u 0,.u)] [.c (.own 0 2 g.2.length),nat1 (i:Nat),nat1 ((i:Nat)+1)] (.o (.c (.own 0 2 (g.2.length -1)))) [(.b 0,.b 80 2 (dR (tagRs (deF F i) 0 ((delG g i).2.map rP)))),(.u 0,.u)]:=by
  have h:=delete_fn (rows:=tagRs F 0 (g.2.map rP)) (i:=i) (by rw[tagRs_len,List.length_map];exact hi) (by rw[tagRs_len,List.length_map];exact hn)
  rw[tagRs_len,List.length_map,tag_del (by rw[List.length_map];exact hi),←List.map_take,←List.map_drop,←List.map_append]at h
  exact h
theorem DropPart_no (g:Prg) (a:Int) (hs:szG g≤1073741824) (hl:g.2.length≤1048576) (hV:prgV g=false):FnT Tryz.prog 16 [ad (rG g),nat1 a] (none') (.strB (rG (dropG g a).1) (dropG g a).2):=by
 refine FnT.of_code Tryz.func16 rfl rfl rfl (fun O=>?_)
 refine .r<|.c .bp<|.c (.al 104 [.slice none 0 0,.slice none 0 0])<|.c .a<|.r<|.c (.lN 2) ?_
 refine .c (.cP [.tmp 12] rfl rfl rfl rfl (trace_no hs hV) rfl) ?_
 refine .c .m<|.c .ex<|.c .ex<|.c .a<|.c .a<|.nn<|.seq<|.r<|.c .m<|.c .nt<|.c .m ?_
 refine AOps.cases 18 _ rfl (fun g18=>?_) (fun g18=>?_)
 ·try simp only[zs]at g18
  refine .c .f<|.c .f<|.c .f<|.c .f<|.c .pT<|.nn ?_
  refine .k1 ?_
  refine .r<|.c (.bu [] [(0,1),(1,1)] [.slice none 0 0,.slice none 0 0])<|.c (.sT 2 true)<|.c .a<|.nn<|.ret<|ks_r ?_
  refine kt_wret (nthS [none',none']) [eB 4 100 2,eT 5 false,(.b 100,.b 30 2 [[(.d (.tree none' (dRs []))),(.d (.tree none' (dPts [])))]]),eU 100] (Wk.keep [(100,104)] rfl rfl ⟨kX,kd,kb 104 rfl (.r2 (Cto.nilTE 2 rfl) (Cto.nilTE 2 rfl)),trivial⟩) rfl ?_ ?_ ?_
  ·rw[dropG_no (fun h=>by rw[hV]at h;cases h.1)];rfl
  ·exact nthS_dis (by first|(simp only[List.pairwise_cons,List.forall_mem_cons,List.not_mem_nil,false_implies,implies_true,and_true,List.Pairwise.nil];done)|(simp only[List.pairwise_cons,List.forall_mem_cons,List.not_mem_nil,false_implies,implies_true,and_true,List.Pairwise.nil];simp[none'];done))
  ·exact nthS_all (by simp only[List.forall_mem_cons,List.not_mem_nil,false_implies,implies_true,and_true];exact⟨(fun b h=>h.elim),(fun b h=>h.elim)⟩)
 ·try simp only[zs]at g18
  cases g18
theorem DropPart_yes (g:Prg) (a:Int) (hs:szG g≤1073741824) (hl:g.2.length≤1048576) (hV:prgV g=true) (hG:OwnG g):FnT Tryz.prog 16 [ad (rG g),nat1 a] (none') (.strB (rG (dropG g a).1) (dropG g a).2):=by
 obtain⟨hS,hN,hL⟩:=prgV_s hV
 have hll:(liveV g).length=(insG 0 g.2).length:=lvN_len
 refine FnT.of_code Tryz.func16 rfl rfl rfl (fun O=>?_)
 refine .r<|.c .bp<|.c (.al 104 [.slice none 0 0,.slice none 0 0])<|.c .a<|.r<|.c (.lN 2) ?_
 refine .c (.cP [.tmp 12] rfl rfl rfl rfl (trace_fn hs hV) rfl) ?_
 refine .c .m<|.c .ex<|.c .ex<|.c .a<|.c .a<|.nn<|.seq<|.r<|.c .m<|.c .nt<|.c .m ?_
 refine AOps.cases 18 _ rfl (fun g18=>?_) (fun g18=>?_)
 ·try simp only[zs]at g18
  cases g18
 ·try simp only[zs]at g18
  refine .c (.g (.lN 2))<|.c (.g .m) ?_
  refine .c (.gT rfl rfl rfl (.cP [.tmp 19,.tmp 20] rfl rfl rfl rfl (isPart_fn (by omega) a) rfl)) ?_
  refine .c (.g .nt)<|.c .pF<|.nn ?_
  refine ACode.condT rfl (fun h23=>?_) (fun h23=>?_)
  ·try simp only[zs]at h23
   refine .r<|.c (.bu [] [(0,1),(1,1)] [.slice none 0 0,.slice none 0 0])<|.c (.sT 2 true)<|.c .a<|.nn<|.ret<|ks_r ?_
   refine kt_wret (nthS [none',none']) [eB 4 100 2,eT 5 false,(.b 100,.b 30 2 [[(.d (.tree none' (dRs []))),(.d (.tree none' (dPts [])))]]),eU 100] (Wk.keep [(100,104)] rfl rfl ⟨kX,kd,kb 104 rfl (.r2 (Cto.nilTE 2 rfl) (Cto.nilTE 2 rfl)),trivial⟩) rfl ?_ ?_ ?_
   ·rw[dropG_no (fun h=>by simp_all)];rfl
   ·exact nthS_dis (by first|(simp only[List.pairwise_cons,List.forall_mem_cons,List.not_mem_nil,false_implies,implies_true,and_true,List.Pairwise.nil];done)|(simp only[List.pairwise_cons,List.forall_mem_cons,List.not_mem_nil,false_implies,implies_true,and_true,List.Pairwise.nil];simp[none'];done))
   ·exact nthS_all (by simp only[List.forall_mem_cons,List.not_mem_nil,false_implies,implies_true,and_true];exact⟨(fun b h=>h.elim),(fun b h=>h.elim)⟩)
  ·try simp only[zs]at h23
   have hp:inB a 0 ((g.2.length:Nat) -1)=true:=by simp_all
   refine .skip<|ks_n<|.seq<|.r<|.c .m ?_
   refine .c (.cP [.tmp 25] rfl rfl rfl rfl (live_fn hS) rfl) ?_
   refine .c (.ln 4 1 1)<|.c .m<|.nn<|.block ?_
   refine .loopK (fun m σ=>(∃i:Nat,m=(insG 0 g.2).length -i∧(i≤(insG 0 g.2).length)∧(∀j,j<i→hitAt g a j=false)∧σ=[eN 1 a,eP 2 (rG g),eB 4 110 2,eT 5 false,eP 6 (rT g),eD 26 (dBs (liveV g)),eN 27 ((insG 0 g.2).length:Nat),eN 28 (i:Nat),(.t 9999,.v (.gh O)),(.b 110,.b 30 2 [[nl,nl]]),eU 110])) [(110,104)] ⟨0,rfl,by omega,fun j hj=>absurd hj (by omega),rfl⟩ ⟨kd,kd,kX,kd,kd,kd,kd,kd,kd,kb 104 rfl (.r2 .dt .dt),trivial⟩ ?_
   rintro m σ ⟨i,hm0,hi,hF,rfl⟩
   refine .r<|.c .ls<|.nn<|.seq ?_
   refine .cD rfl (fun h29=>?_) (fun h29=>?_)
   ·skip
    obtain⟨b,hb1⟩:∃x_,(liveV g)[i]?=some x_:=⟨_,List.getElem?_eq_getElem (by omega)⟩
    obtain⟨x,hx1⟩:∃x_,(insG 0 g.2)[i]?=some x_:=⟨_,List.getElem?_eq_getElem (by omega)⟩
    have hht:=hitAt_eq (a:=a) hb1 hx1
    refine .skip<|ks_n<|.seq<|.block<|.r<|.c .m ?_
    refine .c (.xL 4 1 1 rfl rfl rfl rfl rfl (map_at hb1)) ?_
    refine .c (.l1 1)<|.c .a<|.c .a<|.r<|.c .m<|.c .m ?_
    refine AOps.cases 34 _ rfl (fun g34=>?_) (fun g34=>?_)
    ·try simp only[zs]at g34
     refine .c (.g .m)<|.c (.g .nP)<|.c (.g (.fP 2 0 false))<|.c (.g (.l1 1))<|.c (.g .m) ?_
     refine .c (.gT rfl rfl rfl (.xL 56 3 40 (i:=i) rfl rfl rfl rfl rfl (map_at hx1))) ?_
     refine .c (.g (.fP 0 0 false))<|.c (.g (.l1 1))<|.c (.g .m)<|.c (.g .eq)<|.c .pT<|.nn ?_
     refine ACode.condT rfl (fun h45=>?_) (fun h45=>?_)
     ·try simp only[zs]at h45
      refine .r<|.c (.bu [] [(0,1),(1,1)] [.slice none 0 0,.slice none 0 0])<|.c (.sT 2 true)<|.c .a<|.nn<|.ret<|kb_r<|ks_r<|kl_r<|kb_r<|ks_r ?_
      refine kt_wret (nthS [none',none']) [eB 4 100 2,eT 5 false,(.b 100,.b 30 2 [[(.d (.tree none' (dRs []))),(.d (.tree none' (dPts [])))]]),eU 100] (Wk.keep [(100,110)] rfl rfl ⟨kX,kd,kb 110 rfl (.r2 (Cto.nilTE 2 rfl) (Cto.nilTE 2 rfl)),trivial⟩) rfl ?_ ?_ ?_
      ·rw[dropG_no (fun h=>by have:=hitV_yes (g:=g) (a:=a) (j:=i) (by omega) (by rw[hht];simp_all);rw[this]at h;cases h.2.2)];rfl
      ·exact nthS_dis (by first|(simp only[List.pairwise_cons,List.forall_mem_cons,List.not_mem_nil,false_implies,implies_true,and_true,List.Pairwise.nil];done)|(simp only[List.pairwise_cons,List.forall_mem_cons,List.not_mem_nil,false_implies,implies_true,and_true,List.Pairwise.nil];simp[none'];done))
      ·exact nthS_all (by simp only[List.forall_mem_cons,List.not_mem_nil,false_implies,implies_true,and_true];exact⟨(fun b h=>h.elim),(fun b h=>h.elim)⟩)
     ·try simp only[zs]at h45
      refine .skip<|kb_n<|ks_n<|.region<|.c .pl<|.c .m<|.nil ?_
      refine kl_k [(110,110)] ⟨i+1,rfl,by omega,fun j hj=>(Nat.lt_succ_iff_lt_or_eq.1 hj).elim (fun h=>hF j h) (fun h=>by rw[h,hht];simp_all),rfl⟩ ⟨kd,kd,kX,kd,kd,kd,kd,kd,kd,kb 110 rfl (.r2 .dt .dt),trivial⟩
    ·try simp only[zs]at g34
     refine .c .f<|.c .f<|.c .f<|.c .f<|.c .f<|.c .f<|.c .f<|.c .f<|.c .f<|.c .f<|.c .pF<|.nn ?_
     refine .k0 ?_
     refine .skip<|kb_n<|ks_n<|.region<|.c .pl<|.c .m<|.nil ?_
     refine kl_k [(110,110)] ⟨i+1,rfl,by omega,fun j hj=>(Nat.lt_succ_iff_lt_or_eq.1 hj).elim (fun h=>hF j h) (fun h=>by rw[h,hht];simp_all),rfl⟩ ⟨kd,kd,kX,kd,kd,kd,kd,kd,kd,kb 110 rfl (.r2 .dt .dt),trivial⟩
   ·skip
    obtain rfl:i=(insG 0 g.2).length:=by omega
    have hhv:hitV g a=false:=hitV_no hF
    have hpp:=of_decide_eq_true hp
    obtain⟨i,rfl⟩:∃i:Nat,a=i:=⟨a.toNat,by omega⟩
    have hi:i<g.2.length:=by omega
    refine .exit<|ks_e<|kl_e<|kb_hit<|ks_n<|.seq ?_
    refine .keep [eN 1 (i:Nat),eP 2 (rG g),eB 4 800 2,eT 5 false,(.t 9999,.v (.gh O)),(.b 800,.b 30 2 [[nl,nl]]),eU 800] [(800,110)] ⟨kd,kd,kX,kd,kd,kb 110 rfl (.r2 .dt .dt),trivial⟩ ?_
    refine .region<|.c (.lN 2) ?_
    refine AOps.callB 149 [.tmp 48] rfl rfl rfl rfl rfl rfl (by kernel_rfl) rfl (own_B g hG (by omega)) rfl (fun i k hk=>List.mem_singleton.1 hk) rfl rfl (fun i49 O49 hf49 hO49=>?_)
    have hA:=hf49.1
    have hOO:=hO49 O (gh_has rfl)
    have hFD:=((hf49.2).sub (U':=or2 O i49.1) (fun b h=>h.imp (hOO b) id)).del (i:=i) hi
    refine .c (.al 110 [.slice none 0 0,.slice none 0 0])<|.c (.sT 2 true)<|.r<|.c (.fB 1 0 false)<|.c (.b1 1)<|.c .m<|.c .m<|.c .pl ?_
    refine .c (.cO [.tmp 51,.tmp 52,.tmp 54] [(0,149)] rfl rfl rfl rfl (deleteG hi hl) rfl ⟨by rw[renR_dR];rfl,trivial⟩ (.cons .nil rfl) (.cons .nil rfl) (.data .nil) outS_one) ?_
    refine .c (.fB 1 0 false)<|.c (.sT 1 false)<|.nn<|.seq ?_
    refine .keep [eB 4 570 2,eT 5 false,eB 10 571 2,(.t 9999,.v (.gh O)),(.b 570,.b 30 2 [[nl,nl]]),eU 570,(.b 572,.b 80 2 (dR (tagRs (deF i49.2 i) 0 ((delG g i).2.map rP)))),eU 572,(.b 571,.b 30 2 [[.d (.tree i49.1 (dRs g.1)),.own 572 2 (((delG g i).2.map rP).length)]]),eU 571] [(570,800),(571,110),(572,149)] ⟨kX,kd,kX,kd,kb 800 rfl (.r2 .dt .dt),kb 149 rfl (.dt rfl rfl),kb 110 rfl (.r2 .dt (.ow (by rw[List.length_map,delG_len hi]))),trivial⟩ ?_
    refine ACode.packB 571 0 1 572 (rows:=(delG g i).2.map rP) (F:=deF i49.2 i) rfl rfl rfl rfl rfl (plain_map plP) (hFD.pos (by rw[List.length_map,delG_len hi]) (fun i j h=>isPos_L posP h)) (by rw[List.length_map,delG_len hi];omega) (fun N hN=>?_)
    have hNO:=hN.outE ((HasE.of (gh_has rfl)).or (.of (Has.box (i:=0) (j:=0) 571 rfl rfl rfl (.d (.tree _))))) hFD (by rw[List.length_map,delG_len hi]) (fun i j h=>isPos_L posP h)
    refine .region<|.c (.bN 2)<|.c (.sT 2 true)<|.c .a<|.nn<|.ret ?_
    refine kt_ret (nthS [i49.1,N]) rfl ?_ ?_ ?_
    ·rw[dropG_yes hV hp hhv];rfl
    ·exact nthS_dis (List.Pairwise.cons (by simp only[List.forall_mem_cons,List.not_mem_nil,false_implies,implies_true,and_true];exact fun b h1 h2=>hNO b h2 (.inr h1)) (List.pairwise_singleton _ _))
    ·exact nthS_all (by simp only[List.forall_mem_cons,List.not_mem_nil,false_implies,implies_true,and_true];exact⟨(fun b h=>.inr (fun h2=>hA b h (hOO b h2))),(fun b h=>.inr (fun hO=>hNO b h (.inl hO)))⟩)
theorem DropPart_T (g:Prg) (a:Int) (hs:szG g≤1073741824) (hl:g.2.length≤1048576) (hG:prgV g=true→OwnG g):FnT Tryz.prog 16 [ad (rG g),nat1 a] (none') (.strB (rG (dropG g a).1) (dropG g a).2):=by
  cases h:prgV g with
  |false=>exact DropPart_no g a hs hl h
  |true=>exact DropPart_yes g a hs hl h (hG h)
theorem sum_del {l:List Prt} {i:Nat} (f:Prt→Nat):((l.take i++l.drop (i+1)).map f).sum≤(l.map f).sum:=by
  conv=>rhs;rw[←List.take_append_drop i l]
  rw[List.map_append,List.map_append,List.sum_append,List.sum_append]
  have:((l.drop (i+1)).map f).sum≤((l.drop i).map f).sum:=by
    cases h:l.drop i with
    |nil=>rw[←List.tail_drop,h];exact Nat.le_refl _
    |cons x m=>rw[←List.tail_drop,h,List.tail_cons,List.map_cons,List.sum_cons];omega
  omega
theorem mem_del {α:Type} {l:List α} {i:Nat} {x:α} (h:x∈l.take i++l.drop (i+1)):x∈l:=by
  rcases List.mem_append.1 h with h|h
  ·exact List.mem_of_mem_take h
  ·exact List.mem_of_mem_drop h
theorem prgV_del {g:Prg} {i:Nat} (h:prgV g=true):prgV (delG g i)=true:=by
  unfold delG
  unfold prgV prgS at h ⊢
  simp only[Bool.and_eq_true,decide_eq_true_eq,List.all_eq_true]at h ⊢
  refine⟨⟨h.1.1,by have:=h.1.2.1;simp;omega,fun q hq=>h.1.2.2 q (mem_del hq)⟩,?_⟩
  have:=h.2
  rw[insG_sum]at this ⊢
  exact Nat.le_trans (sum_del _) this
theorem szG_del {g:Prg} {i:Nat}:szG (delG g i)≤szG g:=by
  unfold delG
  rw[szG,szG,szO,szO,szO]
  have h1:=sum_del (l:=g.2) (i:=i) szPt
  have h2:(g.2.take i++g.2.drop (i+1)).length≤g.2.length:=by simp;omega
  simp only at h1 h2 ⊢
  omega
theorem l8Drop_fn {g:Prg} {i:Nat} (hi:i<g.2.length) (hs:szG g≤1073741824) (hl:g.2.length≤1073741824) (hv:prgV g=true) (hC:∀g:Prg,prgV g=true→szG g≤1073741824→Fn Tryz.prog 21 [] [ad (rG g)] (.o (ad (rG g))) [])  :Fn Tryz.prog 39 [] [ad (rG g),nat1 (i:Nat),nat1 1,vD (dPts [])] (.tup [ad (rG (delG g i)),bo1 true]) []:=by
 have hsw:=prgV_del (i:=i) hv
 have hs2:szG (delG g i)≤1073741824:=Nat.le_trans szG_del hs
 refine Fn.code0 Tryz.func39 rfl rfl rfl rfl ?_
 refine .r<|.c .bp<|.c (.al 108 [.slice none 0 0,.slice none 0 0])<|.c .a<|.r<|.c (.lN 2) ?_
 refine .c (.cP [.tmp 12] rfl rfl rfl rfl (hC g hv hs) rfl) ?_
 refine .c (.al 110 [.slice none 0 0,.slice none 0 0])<|.c (.sT 2 true)<|.r<|.c (.fB 0 0 false)<|.c (.b1 1)<|.c (.bu [(0,.tmp 15)] [(0,1),(1,1)] [.slice none 0 0,.slice none 0 0])<|.c (.al 111 [.slice none 0 0,.slice none 0 0])<|.c (.sT 2 true)<|.nn<|.seq ?_
 refine ACode.drawK (by kernel_rfl) (by kernel_rfl) ?_
 refine .c (St1.lit0 (k':=117) (e:=80) (sz:=2) (b:=true) rfl rfl rfl rfl (by kernel_rfl) rfl rfl) ?_
 refine .c (.fB 1 0 false)<|.c (.b1 1)<|.c .m ?_
 refine .c (St1.sliceTo (e:=80) (sz:=2) (by':=48) (k:=i) rfl rfl rfl rfl (by kernel_rfl) rfl rfl rfl (by first|rfl|omega) (by simp;omega)) ?_
 refine .c (St1.appB (k':=122) (e:=80) (sz:=1) (by':=48) rfl rfl rfl rfl rfl (by kernel_rfl) rfl rfl rfl rfl (by first|(simp[dR];done)|(simp[dR];omega)) (by first|(simp[dR];done)|(simp[dR];omega)) rfl rfl rfl) ?_
 refine .c .m ?_
 refine .c (St1.appB (k':=124) (e:=80) (sz:=1) (by':=48) rfl rfl rfl rfl rfl (by kernel_rfl) rfl rfl rfl rfl (by first|(simp[dR];done)|(simp[dR];omega)) (by first|(simp[dR];done)|(simp[dR];omega)) rfl rfl rfl) ?_
 refine .c (.fB 1 0 false)<|.c (.b1 1)<|.c .m<|.c .m<|.c .pl ?_
 refine .c (St1.sliceFrom (e:=80) (sz:=2) (by':=48) (k:=(i+1)) rfl rfl rfl rfl (by kernel_rfl) rfl rfl rfl (by first|rfl|omega) (by simp;omega)) ?_
 refine .c (St1.appB (k':=131) (e:=80) (sz:=1) (by':=48) rfl rfl rfl rfl rfl (by kernel_rfl) rfl rfl rfl rfl (by first|(simp[dR];done)|(simp[dR];omega)) (by first|(simp[dR];done)|(simp[dR];omega)) rfl rfl rfl) ?_
 refine .c (.fB 1 0 false)<|.c (.sT 1 false) ?_
 refine .nil ⟨by kernel_rfl,?_⟩
 refine ks_n<|.seq<|.seq ?_
 refine .keep [eB 8 740 2,eT 9 false,eB 11 741 2,(.b 740,.b 30 2 [[nl,nl]]),eU 740,(.b 741,.b 30 2 [[.d (dRs g.1),.d (dPts (delG g i).2)]]),eU 741] [(740,108),(741,111)] ⟨kX,kd,kX,kb 108 rfl (.r2 .dt .dt),kb 111 rfl (.r2 .dt (.fz rfl (by simp[dR,delG]) (by first|(simp[delG];omega)|simp[delG]) (by first|omega|(simp;omega)))),trivial⟩ ?_
 refine .region<|.c (.bN 2) ?_
 refine .c (.cP [.tmp 33] rfl rfl rfl rfl (hsw▸specPV_fn hs2) rfl) ?_
 refine .c .nt<|.nn ?_
 refine ACode.condT rfl (fun h35=>?_) (fun h35=>?_)
 ·try simp only[zs]at h35
  cases h35
 ·try simp only[zs]at h35
  refine .skip<|ks_n<|.r<|.c (.bN 2) ?_
  refine .c (.cP [.tmp 37] rfl rfl rfl rfl (hC _ hsw hs2) rfl) ?_
  refine .c (.sT 2 true)<|.c .a<|.nn<|.ret ?_
  refine kf_ret rfl ?_ nobox
  rfl
theorem hit_flag {g:Prg} {a n:Int} {j:Nat} (hj:(flagV (liveV g))[j]?=some n):∃i:Nat,n=(i:Int)∧i<(insG 0 g.2).length∧(liveV g)[i]?=some true:=by
  obtain⟨i,e,h1,h2⟩:=flagV_mem.1 (List.mem_of_getElem? hj)
  refine⟨i,e,by rwa[liveV,lvN_len]at h1,?_⟩
  obtain⟨b,hb⟩:∃b,(liveV g)[i]?=some b:=⟨_,List.getElem?_eq_getElem h1⟩
  rw[List.getD,hb]at h2
  rw[hb];exact congrArg some h2
theorem hitV_flag {g:Prg} {a:Int} (h:∀(j:Nat) n,j<(flagV (liveV g)).length→(flagV (liveV g))[j]?=some n→hitAt g a n.toNat=false):hitV g a=false:=hitV_no fun i hi=>by
  cases e:hitAt g a i with
  |false=>rfl
  |true=>
    have h1:(liveV g).getD i false=true:=by rw[hitAt,Bool.and_eq_true]at e;exact e.1
    have hm:(i:Int)∈flagV (liveV g):=flagV_mem.2 ⟨i,rfl,by rw[liveV,lvN_len];exact hi,h1⟩
    obtain⟨j,hj⟩:=List.mem_iff_getElem?.1 hm
    have:=h j i (List.getElem?_eq_some_iff.1 hj).1 hj
    rw[Int.toNat_natCast,e]at this;cases this
theorem specDrop_fn (g:Prg) (a:Int) (hs:szG g≤1073741824) (hl:g.2.length≤1048576) (hG:OwnG0 g) (hC:∀g:Prg,prgV g=true→szG g≤1073741824→Fn Tryz.prog 21 [] [ad (rG g)] (.o (ad (rG g))) [])  :Fn Tryz.prog 15 [] [ad (rG g),nat1 a] (.tup [ad (rG (dropG g a).1),bo1 (dropG g a).2]) []:=by
 have hfl:(flagV (liveV g)).length≤(liveV g).length:=flagN_len
 have hll:(liveV g).length=(insG 0 g.2).length:=lvN_len
 refine Fn.code0 Tryz.func15 rfl rfl rfl rfl ?_
 refine .r<|.c (St1.boxB (k':=102) rfl rfl rfl rfl rfl rfl rfl)<|.c (.al 104 [.slice none 0 0,.slice none 0 0])<|.c .a<|.r<|.c (.bN 2) ?_
 refine .c (.cP [.tmp 9] rfl rfl rfl rfl (o16Prg_fn g hG) rfl) ?_
 refine .c (.sT 2 true)<|.nn<|.seq<|.r<|.c (.bN 2) ?_
 refine .c (.cP [.tmp 11] rfl rfl rfl rfl (specPV_fn hs) rfl) ?_
 refine .c .nt<|.c .m ?_
 refine AOps.cases 14 _ rfl (fun g14=>?_) (fun g14=>?_)
 ·try simp only[zs]at g14
  refine .c .f<|.c .f<|.c .pT<|.c .m<|.c .f<|.c .f<|.c .f<|.c .f<|.c .f<|.c .pT<|.nn ?_
  refine .k1 ?_
  refine .r<|.c (.bu [] [(0,1),(1,1)] [.slice none 0 0,.slice none 0 0])<|.c (.sT 2 true)<|.c .a<|.nn<|.ret<|ks_r ?_
  refine kf_wret [eB 4 100 2,eT 5 false,(.b 100,.b 30 2 [[.d (dRs []),.d (dPts [])]]),eU 100] (Wk.keep [(100,104)] rfl rfl ⟨kX,kd,kb 104 rfl (.r2 (Cto.nil _) (Cto.nil _)),trivial⟩) rfl ?_ nobox
  rw[dropG_no (fun h=>by have:=of_decide_eq_true h.2.1;first|omega|(simp_all;done)|(simp_all;omega))];rfl
 ·try simp only[zs]at g14
  refine .c (.g .m)<|.c (.g .ls)<|.c .pF<|.c .m ?_
  refine AOps.cases 18 _ rfl (fun g18=>?_) (fun g18=>?_)
  ·try simp only[zs]at g18
   refine .c .f<|.c .f<|.c .f<|.c .f<|.c .f<|.c .pT<|.nn ?_
   refine .k1 ?_
   refine .r<|.c (.bu [] [(0,1),(1,1)] [.slice none 0 0,.slice none 0 0])<|.c (.sT 2 true)<|.c .a<|.nn<|.ret<|ks_r ?_
   refine kf_wret [eB 4 100 2,eT 5 false,(.b 100,.b 30 2 [[.d (dRs []),.d (dPts [])]]),eU 100] (Wk.keep [(100,104)] rfl rfl ⟨kX,kd,kb 104 rfl (.r2 (Cto.nil _) (Cto.nil _)),trivial⟩) rfl ?_ nobox
   rw[dropG_no (fun h=>by have:=of_decide_eq_true h.2.1;first|omega|(simp_all;done)|(simp_all;omega))];rfl
  ·try simp only[zs]at g18
   refine .c (.g .m)<|.c (.g (.fB 1 0 false))<|.c (.g (.b1 1))<|.c (.g (.ln 80 2 48))<|.c (.g .ge)<|.c .pF<|.nn ?_
   refine ACode.condT rfl (fun h24=>?_) (fun h24=>?_)
   ·try simp only[zs]at h24
    refine .r<|.c (.bu [] [(0,1),(1,1)] [.slice none 0 0,.slice none 0 0])<|.c (.sT 2 true)<|.c .a<|.nn<|.ret<|ks_r ?_
    refine kf_wret [eB 4 100 2,eT 5 false,(.b 100,.b 30 2 [[.d (dRs []),.d (dPts [])]]),eU 100] (Wk.keep [(100,104)] rfl rfl ⟨kX,kd,kb 104 rfl (.r2 (Cto.nil _) (Cto.nil _)),trivial⟩) rfl ?_ nobox
    rw[dropG_no (fun h=>by have:=of_decide_eq_true h.2.1;first|omega|(simp_all;done)|(simp_all;omega))];rfl
   ·try simp only[zs]at h24
    have hV:prgV g=true:=by simp_all
    obtain⟨hS,hN,hL⟩:=prgV_s hV
    have hp:inB a 0 ((g.2.length:Nat) -1)=true:=decide_eq_true (by first|omega|(simp_all;omega))
    refine .skip<|ks_n<|.r<|.c (.bN 2) ?_
    refine .c (.cP [.tmp 26] rfl rfl rfl rfl (specLive_fn hs hV) rfl) ?_
    refine .c .a<|.r<|.c (.bN 2) ?_
    refine .c (.cP [.tmp 28] rfl rfl rfl rfl (l4Instances_fn hS) rfl) ?_
    refine .c .a<|.nn<|.seq<|.r<|.c .a<|.nn<|.block ?_
    refine .loopK (fun m σ=>(∃j:Nat,m=(flagV (liveV g)).length -j∧(j≤(flagV (liveV g)).length)∧(∀(q:Nat) n,q<j→(flagV (liveV g))[q]?=some n→hitAt g a n.toNat=false)∧σ=[eN 1 a,eB 2 110 2,eB 4 111 2,eT 5 false,eD 6 (dIs (flagV (liveV g))),eD 7 (dNs (insG 0 g.2)),eN 8 (j:Nat),(.b 110,.b 30 2 [[.d (dRs g.1),.d (dPts g.2)]]),eU 110,(.b 111,.b 30 2 [[nl,nl]]),eU 111])) [(110,102),(111,104)] ⟨0,rfl,by omega,fun q n hq=>absurd hq (by omega),rfl⟩ ⟨kd,kX,kX,kd,kd,kd,kd,kb 102 rfl (.r2 .dt .dt),kb 104 rfl (.r2 .dt .dt),trivial⟩ ?_
    rintro m σ ⟨j,hm0,hj,hF,rfl⟩
    refine .seq<|.r<|.c .m<|.c .m<|.c (.ln 3 1 8)<|.c .ls<|.nn ?_
    refine .cD rfl (fun h33=>?_) (fun h33=>?_)
    ·skip
     obtain⟨n,hn1⟩:∃x_,(flagV (liveV g))[j]?=some x_:=⟨_,List.getElem?_eq_getElem (by omega)⟩
     obtain⟨i,rfl,hi1,hb1⟩:=hit_flag (a:=a) hn1
     obtain⟨x,hx1⟩:∃x_,(insG 0 g.2)[i]?=some x_:=⟨_,List.getElem?_eq_getElem (by omega)⟩
     have hht:=hitAt_eq (a:=a) hb1 hx1
     refine .skip<|ks_n<|.seq<|.block<|.r<|.c .m<|.c .m<|.c .m ?_
     refine .c (.xL 3 1 8 (i:=j) rfl rfl rfl rfl rfl (map_at hn1)) ?_
     refine .c (.l1 1) ?_
     refine .c (.xL 56 3 40 (i:=i) rfl rfl rfl rfl rfl (map_at hx1)) ?_
     refine .c (.fP 0 0 false)<|.c (.l1 1)<|.c .m<|.c .eq<|.nn ?_
     refine .cD rfl (fun h45=>?_) (fun h45=>?_)
     ·skip
      refine .r<|.c (.bu [] [(0,1),(1,1)] [.slice none 0 0,.slice none 0 0])<|.c (.sT 2 true)<|.c .a<|.nn<|.ret<|kb_r<|ks_r<|kl_r<|kb_r<|ks_r ?_
      refine kf_wret [eB 4 100 2,eT 5 false,(.b 100,.b 30 2 [[.d (dRs []),.d (dPts [])]]),eU 100] (Wk.keep [(100,111)] rfl rfl ⟨kX,kd,kb 111 rfl (.r2 (Cto.nil _) (Cto.nil _)),trivial⟩) rfl ?_ nobox
      rw[dropG_no (fun h=>by have:=hitV_yes (g:=g) (a:=a) (j:=i) hi1 (by rw[hht];simp_all);rw[this]at h;cases h.2.2)];rfl
     ·skip
      refine .skip<|kb_n<|ks_n<|.region<|.c .m<|.c .pl<|.c .a<|.nil ?_
      refine kl_k [(110,110),(111,111)] ⟨j+1,rfl,by omega,fun q m hq hm=>(Nat.lt_succ_iff_lt_or_eq.1 hq).elim (fun h=>hF q m h hm) (fun h=>by subst h;rw[hn1]at hm;cases hm;rw[Int.toNat_natCast,hht];simp_all),rfl⟩ ⟨kd,kX,kX,kd,kd,kd,kd,kb 110 rfl (.r2 .dt .dt),kb 111 rfl (.r2 .dt .dt),trivial⟩
    ·skip
     obtain rfl:j=(flagV (liveV g)).length:=by omega
     have hhv:hitV g a=false:=hitV_flag hF
     have hpp:=of_decide_eq_true hp
     obtain⟨i,rfl⟩:∃i:Nat,a=i:=⟨a.toNat,by omega⟩
     have hi:i<g.2.length:=by omega
     refine .exit<|ks_e<|kl_e<|kb_hit<|ks_n<|.r<|.c (.bN 2)<|.c .m ?_
     refine .c (St1.lit0D (e:=80) (sz:=2) (b:=true) rfl rfl rfl rfl (by kernel_rfl)) ?_
     refine .c (.cP [.tmp 47,.tmp 48,.const (.int .i64 (1)),.tmp 49] rfl rfl rfl rfl (l8Drop_fn hi hs (by omega) hV hC) rfl) ?_
     refine .c .ex<|.c .ex<|.c (.sT 2 true)<|.c .a<|.nn<|.ret ?_
     refine kf_ret rfl ?_ nobox
     rw[dropG_yes hV hp hhv];rfl
set_option maxHeartbeats 12800000 in
theorem lawXdrop {s r:Prg} {a:Int} {b:Bool} (ho:okPrg s) (qs:szG s≤1048576→Fn Tryz.prog 15 [] [ad (rG s),nat1 a] (.tup [ad (rG r),bo1 b]) []) (qi:szG s≤1048576→FnT Tryz.prog 16 [ad (rG s),nat1 a] none' (.strB (rG r) b)) (hr:szG s≤1048576→szG r≤1048576)
    {w:World} {us:List Value} (d:Drs (fun b=>b<w.heap.size) w (rG s) us):Truth Tryz.prog 5 #[.agg us.toArray,.int .i64 a] w:=by
  obtain⟨u0,l0,rfl,hl0⟩:=len_cons d.1
  obtain⟨u1,l1,rfl,hl1⟩:=len_cons hl0
  obtain rfl:=len_zero hl1;clear hl0 hl1
  have HB:=hid (Bxs.add (w:=w) (l:=[]) (fun b hb=>by cases hb) [u0,u1] 25)
  have HL:=hid (show Below w.heap.size w (w.alloc (.cells [u0,u1].toArray 25))from(Below.refl _ _).alloc (Nat.le_refl _) _)
  have HD:=hid d;clear d
  have hz:=szPrg_fn (l:=1048576) (by omega) ho
  by_cases hs:szG s≤1048576
  case neg=>
    rw[subZ_no (by omega)]at hz
    have HZ:=hid hz;clear hz qs qi ho hr
    go_enter Tryz.func5,Tryz.ntmps5
    go_wp2_with fail
    refine(HZ.out.callsI (vs:=[_,_]) (vals2_mk (HD.out.fwd HL.out).v (Dr.val (.int .i64 1048576) rfl))).mono ?_
    rintro e wA ⟨rfl,bA⟩
    have HLA:=hid (HL.out.trans (bA.mono HL.out.size));clear bA
    go_wp2_with fail
    go_ret
    exact⟨rfl,HLA.out⟩
  rw[subZ_yes (by omega)]at hz
  have qs:=hid (qs hs);have qi:=hid (qi hs);have hr0:=hr hs;have HR:=hid hr0
  have hcp:=hid (copyPrg hs);have heq:=hid (eqPrg_fn r r (by omega));have hes:=hid (eqPrg_fn s s (by omega))
  have w1:wgtV (rG s)≤5 *szG s:=wgt_prg s;have w2:wgtV (rG r)≤5 *szG r:=wgt_prg r
  have WS:=hid (show wgtV (rG s)≤10485760 by omega);have WR:=hid (show wgtV (rG r)≤10485760 by omega)
  have hhd:=hid (heldG_ok hr0)
  have HZ:=hid hz
  have hz0:(0:Int)≤1048576 -(szG s:Nat):=by omega
  obtain⟨z,hz1⟩:∃z:Int,z=1048576 -(szG s:Nat):=⟨_,rfl⟩
  rw[←hz1]at HZ hz0
  obtain⟨kS,hkS⟩:∃k:Nat,k=wgtV (rG s):=⟨_,rfl⟩
  obtain⟨kR,hkR⟩:∃k:Nat,k=wgtV (rG r):=⟨_,rfl⟩
  have mks:=hid (markPrgV_k s);have mku:=hid (markPrgV_u r)
  have EK:=hid hkS;have ER:=hid hkR
  rw[←hkR]at hhd
  clear hz1 hz ho hr hs hr0 w1 w2 hkS hkR
  go_enter Tryz.func5,Tryz.ntmps5
  go_wp2_with fail
  refine(HZ.out.callsI (vs:=[_,_]) (vals2_mk (HD.out.fwd HL.out).v (Dr.val (.int .i64 1048576) rfl))).mono ?_
  rintro e wA ⟨rfl,bA⟩
  have HBA:=hid (HB.out.fwd bA)
  have HLA:=hid (HL.out.trans (bA.mono HL.out.size))
  clear bA
  have u0':=HBA.out.c 0 rfl 0 rfl
  have u1':=HBA.out.c 0 rfl 1 rfl
  go_wp2_with fail
  clear u0' u1'
  refine(hcp.out _ _ [u0,u1] rfl (HD.out.fwd HLA.out).2).mono ?_
  rintro e wB ⟨vs,rfl,bwB,hv⟩
  obtain⟨v0,l0,rfl,hl0⟩:=len_cons hv.1
  obtain⟨v1,l1,rfl,hl1⟩:=len_cons hl0
  obtain rfl:=len_zero hl1;clear hl0 hl1
  have NB:=hid hv;clear hv
  have HBB:=hid (HBA.out.fwd bwB)
  have HLB:=hid (HLA.out.trans (bwB.mono HLA.out.size))
  clear bwB
  go_wp2_with fail
  refine(qs.out.callsS (vs:=[_,_]) (B:=fun _=>True) (vals2_mk NB.out.drs.v (Dr.val (.int .i64 a) rfl))).mono ?_
  rintro e wC ⟨ys,rfl,bC,hy⟩
  clear NB
  obtain⟨y0,l0,rfl,hl0⟩:=len_cons hy.1
  obtain⟨y1,l1,rfl,hl1⟩:=len_cons hl0
  obtain rfl:=len_zero hl1;clear hl0 hl1
  have HBC:=hid (HBB.out.fwd bC)
  have HLC:=hid (HLB.out.trans (bC.mono HLB.out.size))
  have DWC:=hid hy;clear hy bC
  have s0:=fun a m w=>run_store Tryz.prog w a y0 m (DWC.out.2 0 _ _ rfl rfl).one
  have s1:=fun a m w=>run_store Tryz.prog w a y1 m (DWC.out.2 1 _ _ rfl rfl).one
  have ALc:=hid (show Below wC.heap.size wC (wC.alloc (.cells [y0,y1].toArray 30))from(Below.refl _ _).alloc (Nat.le_refl _) _)
  have HBc:=hid (HBC.out.add [y0,y1] 30)
  have HLc:=hid (HLC.out.trans (ALc.out.mono HLC.out.size))
  have DWc:=hid (DWC.out.fwd ALc.out)
  have u0':=HBc.out.c 1 rfl 0 rfl
  have u1':=HBc.out.c 1 rfl 1 rfl
  go_wp2_with fail
  clear s0 s1
  clear u0' u1'
  refine(hcp.out _ _ [u0,u1] rfl (HD.out.fwd HLc.out).2).mono ?_
  rintro e wD ⟨vs,rfl,bwD,hv⟩
  obtain⟨x0,l0,rfl,hl0⟩:=len_cons hv.1
  obtain⟨x1,l1,rfl,hl1⟩:=len_cons hl0
  obtain rfl:=len_zero hl1;clear hl0 hl1
  have NX:=hid hv;clear hv
  have HBD:=hid (HBc.out.fwd bwD)
  have HLD:=hid (HLc.out.trans (bwD.mono HLc.out.size))
  have DWD:=hid (DWc.out.fwd bwD)
  have DXD:=hid (NX.out.k (S:=fun c=>(wC.alloc (.cells [y0,y1].toArray 30)).heap.size≤c∧c<wD.heap.size) fun c h1 h2=>⟨h1,h2⟩);have SZD:=hid bwD.size;clear bwD
  have NXD:=hid NX.out.drs
  have s0:=fun a m w=>run_store Tryz.prog w a x0 m (NXD.out.2 0 _ _ rfl rfl).one
  have s1:=fun a m w=>run_store Tryz.prog w a x1 m (NXD.out.2 1 _ _ rfl rfl).one
  have ALd:=hid (show Below wD.heap.size wD (wD.alloc (.cells [x0,x1].toArray 30))from(Below.refl _ _).alloc (Nat.le_refl _) _)
  have HBd:=hid (HBD.out.add [x0,x1] 30)
  have HLd:=hid (HLD.out.trans (ALd.out.mono HLD.out.size))
  have DWd:=hid (DWD.out.fwd ALd.out)
  have DXd:=hid (DXD.out.mark (marked_of ALd.out _))
  have NXd:=hid (NXD.out.fwd ALd.out)
  go_wp2_with fail
  clear s0 s1
  refine(FnT.callsS qi.out (rG_plain r) (rG_nsl r) (vs:=[_,_]) (vals2_mk NXd.out.v (Dr.val (.int .i64 a) rfl))).mono ?_
  rintro e wE ⟨gs,SG,rfl,bwE,hSG,hg⟩
  obtain⟨g0,l0,rfl,hl0⟩:=len_cons hg.1
  obtain⟨g1,l1,rfl,hl1⟩:=len_cons hl0
  obtain rfl:=len_zero hl1;clear hl0 hl1
  have HBE:=hid (HBd.out.fwd bwE)
  have HLE:=hid (HLd.out.trans (bwE.mono HLd.out.size))
  have DWE:=hid (DWd.out.fwd bwE)
  have DXE:=hid (DXd.out.mark (marked_of bwE _))
  have NXE:=hid (NXd.out.fwd bwE)
  have DGE:=hid hg;have HSG:=hid hSG;have SZE:=hid bwE.size;clear hg hSG bwE
  have s0:=fun a m w=>run_store Tryz.prog w a g0 m (DGE.out.drs.2 0 _ _ rfl rfl).one
  have s1:=fun a m w=>run_store Tryz.prog w a g1 m (DGE.out.drs.2 1 _ _ rfl rfl).one
  have ALe:=hid (show Below wE.heap.size wE (wE.alloc (.cells [g0,g1].toArray 30))from(Below.refl _ _).alloc (Nat.le_refl _) _)
  have HBe:=hid (HBE.out.add [g0,g1] 30)
  have HLe:=hid (HLE.out.trans (ALe.out.mono HLE.out.size))
  have DWe:=hid (DWE.out.fwd ALe.out)
  have DXe:=hid (DXE.out.mark (marked_of ALe.out _))
  have NXe:=hid (NXE.out.fwd ALe.out)
  have DGe:=hid (DGE.out.fwd ALe.out)
  have y0':=HBe.out.c 2 rfl 0 rfl
  have y1':=HBe.out.c 2 rfl 1 rfl
  go_wp2_with fail
  clear s0 s1
  clear y0' y1'
  refine(heq.out.callsB (vs:=[_,_]) (B:=fun _=>True) (vals2_mk DGe.out.drs.v (DWe.out.mono fun _ _ _=>trivial).v)).mono ?_
  rintro e wF ⟨rfl,bwF⟩
  rw[show sameG r r=true from sameG_refl _]
  have HBF:=hid (HBe.out.fwd bwF)
  have HLF:=hid (HLe.out.trans (bwF.mono HLe.out.size))
  have DWF:=hid (DWe.out.fwd bwF)
  have DXF:=hid (DXe.out.mark (marked_of bwF _))
  have NXF:=hid (NXe.out.fwd bwF)
  have DGF:=hid (DGe.out.fwd bwF)
  clear bwF
  have u0':=HBF.out.c 3 rfl 0 rfl
  have u1':=HBF.out.c 3 rfl 1 rfl
  have x0':=HBF.out.c 1 rfl 0 rfl
  have x1':=HBF.out.c 1 rfl 1 rfl
  go_wp2_with fail
  go_region_held3 (fun wq=>wq.cell? ⟨w.heap.size,0,none⟩=some u0∧wq.cell? ⟨w.heap.size,1,none⟩=some u1∧wq.cell? ⟨wD.heap.size,0,none⟩=some x0∧wq.cell? ⟨wD.heap.size,1,none⟩=some x1)
    ((repeat' apply And.intro)<;>first|assumption|go_keep)
    (first
    | (go_at_call 8
       refine(hcp.out _ _ [u0,u1] rfl (HD.out.fwd (HLF.out.drew)).2).mono ?_
       rintro e wG ⟨vs,rfl,bG,hv⟩
       obtain⟨z0,l0,rfl,hl0⟩:=len_cons hv.1
       obtain⟨z1,l1,rfl,hl1⟩:=len_cons hl0
       obtain rfl:=len_zero hl1
       have NG:=hid hv
       have HFG:=hid (show Below wF.heap.size wF wG from(Below.refl _ _).drew.trans bG)
       clear hv bG hl0 hl1
       have u0':=(HBF.out.fwd HFG.out).c 3 rfl 0 rfl
       have u1':=(HBF.out.fwd HFG.out).c 3 rfl 1 rfl
       have x0':=(HBF.out.fwd HFG.out).c 1 rfl 0 rfl
       have x1':=(HBF.out.fwd HFG.out).c 1 rfl 1 rfl)
    | (go_at_call 10
       refine(hes.out.callsB (vs:=[_,_]) (B:=fun _=>True) (vals2_mk (NXF.out.fwd HFG.out).v NG.out.drs.v)).mono ?_
       rintro e wH ⟨rfl,bH⟩
       rw[show sameG s s=true from sameG_refl _]
       have HFH:=hid (HFG.out.trans (bH.mono HFG.out.size))
       clear bH
       have u0':=(HBF.out.fwd HFH.out).c 3 rfl 0 rfl
       have u1':=(HBF.out.fwd HFH.out).c 3 rfl 1 rfl
       have x0':=(HBF.out.fwd HFH.out).c 1 rfl 0 rfl
       have x1':=(HBF.out.fwd HFH.out).c 1 rfl 1 rfl))
  have HBH:=hid (HBF.out.fwd HFH.out)
  have HLH:=hid (HLF.out.trans (HFH.out.mono HLF.out.size))
  have DWH:=hid (DWF.out.fwd HFH.out)
  have DXH:=hid (DXF.out.mark (marked_of HFH.out _))
  have NXH:=hid (NXF.out.fwd HFH.out)
  have DGH:=hid (DGF.out.fwd HFH.out)
  clear NG HFG HFH
  go_wp2_with fail
  clear u0' u1' x0' x1'
  have zH:wD.heap.size≤wH.heap.size:=Nat.le_of_lt (HBH.out.lt (b:=(wD.heap.size,_,_)) (List.mem_of_getElem? (i:=1) rfl))
  refine(mks.out _ _ [x0,x1] 1 DXH.out (fun c h=>Nat.lt_of_lt_of_le h.2 zH) (by omega) (by have:=WS.out;have:=EK.out;omega)).mono ?_
  rw[←EK.out]
  rintro e wI ⟨rfl,mI⟩
  have e1:=SZE.out;have e2:=HLC.out.size;have e3:(wC.alloc (.cells [y0,y1].toArray 30)).heap.size=wC.heap.size+1:=by simp
  have e4:(wD.alloc (.cells [x0,x1].toArray 30)).heap.size=wD.heap.size+1:=by simp
  have e8:=SZD.out;rw[e3]at e8
  have e5:=HBC.out.lt (b:=(w.heap.size,_,_)) (List.mem_of_getElem? (i:=0) rfl)
  have e6:=HLH.out.size
  have e7:=HBH.out.lt (b:=(wE.heap.size,_,_)) (List.mem_of_getElem? (i:=0) rfl)
  have SZS:=hid (And.intro e1 (And.intro e2 (And.intro e3 (And.intro e4 e5))))
  dsimp only at e5 e7
  have HBI:=hid (HBH.out.mark mI (fun c hc h=>by
    have h1:=h.1;have h2:=h.2
    rw[e3]at h1;rw[e4]at e1
    simp only[List.mem_cons,List.not_mem_nil,or_false]at hc
    rcases hc with rfl|rfl|rfl|rfl<;>dsimp only at h1 h2<;>omega))
  have bI:=mI.below (n:=wC.heap.size) (fun c h=>by have h1:=h.1;rw[e3]at h1;omega) (by omega)
  have HLI:=hid (HLH.out.trans (bI.mono (by omega)));have DWI:=hid (DWH.out.lo bI)
  have DGI:=hid (DGH.out.frame fun c hc hl=>mI.old c hl fun h=>by have h1:=(HSG.out c hc).1;have h2:=h.2;rw[e4]at h1;omega)
  clear mI bI e6 e7 zH
  have h2:decide ((1:Int)+(kS:Nat)<0)=false:=by simp;omega
  have g0':=HBI.out.c 0 rfl 0 rfl
  have g1':=HBI.out.c 0 rfl 1 rfl
  have y0':=HBI.out.c 2 rfl 0 rfl
  have y1':=HBI.out.c 2 rfl 1 rfl
  go_wp2_with fail
  clear h2
  clear g0' g1' y0' y1'
  refine(heq.out.callsB (vs:=[_,_]) (B:=fun _=>True) (vals2_mk DGI.out.drs.v (DWI.out.mono fun _ _ _=>trivial).v)).mono ?_
  rintro e wJ ⟨rfl,bwJ⟩
  rw[show sameG r r=true from sameG_refl _]
  have HBJ:=hid (HBI.out.fwd bwJ)
  have HLJ:=hid (HLI.out.trans (bwJ.mono HLI.out.size))
  have DWJ:=hid (DWI.out.fwd bwJ)
  have DGJ:=hid (DGI.out.fwd bwJ)
  clear bwJ
  have g0':=HBJ.out.c 0 rfl 0 rfl
  have g1':=HBJ.out.c 0 rfl 1 rfl
  go_wp2_with fail
  clear g0' g1'
  have e7:=HBJ.out.lt (b:=(wE.heap.size,_,_)) (List.mem_of_getElem? (i:=0) rfl)
  dsimp only at e7
  refine(mku.out SG _ [g0,g1] 1 DGJ.out (fun c h=>Nat.lt_trans (HSG.out c h).2 e7) (by omega) (by have:=WR.out;have:=ER.out;omega)).mono ?_
  rw[←ER.out]
  rintro e wK ⟨rfl,mK,gK⟩
  have HBK:=hid (HBJ.out.mark mK (fun c hc h=>by
    have h1:=(HSG.out _ h).1;have h2:=(HSG.out _ h).2
    rw[e4]at h1 e1
    simp only[List.mem_cons,List.not_mem_nil,or_false]at hc
    rcases hc with rfl|rfl|rfl|rfl<;>dsimp only at h1 h2<;>omega))
  have bK:=mK.below (n:=wC.heap.size) (fun c h=>by have h1:=(HSG.out _ h).1;rw[e4]at h1;omega) (by omega)
  have HLK:=hid (HLJ.out.trans (bK.mono (by omega)));have DWK:=hid (DWJ.out.lo bK);have DGK:=hid gK;clear mK bK gK e7
  have g0':=HBK.out.c 0 rfl 0 rfl
  have g1':=HBK.out.c 0 rfl 1 rfl
  go_wp2_with fail
  clear g0' g1'
  refine(hhd.out.callsI (vs:=[_,_]) (B:=fun _=>True) (vals2_mk DGK.out.drs.v (Dr.val (.int .i64 1) rfl))).mono ?_
  rintro e wL ⟨rfl,bwL⟩
  have HBL:=hid (HBK.out.fwd bwL)
  have HLL:=hid (HLK.out.trans (bwL.mono HLK.out.size))
  have DWL:=hid (DWK.out.fwd bwL)
  have DGL:=hid (DGK.out.fwd bwL)
  clear bwL
  have h3:decide ((1:Int)+(kR:Nat)<0)=false:=by simp;omega
  have u0':=HBL.out.c 3 rfl 0 rfl
  have u1':=HBL.out.c 3 rfl 1 rfl
  go_wp2_with fail
  clear u0' u1'
  refine(hcp.out _ _ [u0,u1] rfl (HD.out.fwd HLL.out).2).mono ?_
  rintro e wM ⟨vs,rfl,bwM,hv⟩
  obtain⟨m0,l0,rfl,hl0⟩:=len_cons hv.1
  obtain⟨m1,l1,rfl,hl1⟩:=len_cons hl0
  obtain rfl:=len_zero hl1;clear hl0 hl1
  have NM:=hid hv;clear hv
  have HBM:=hid (HBL.out.fwd bwM)
  have HLM:=hid (HLL.out.trans (bwM.mono HLL.out.size))
  have DWM:=hid (DWL.out.fwd bwM)
  have DGM:=hid (DGL.out.fwd bwM)
  clear bwM
  go_wp2_with fail
  refine(FnT.callsS qi.out (rG_plain r) (rG_nsl r) (vs:=[_,_]) (vals2_mk NM.out.drs.v (Dr.val (.int .i64 a) rfl))).mono ?_
  rintro e wN ⟨gs,SH,rfl,bwN,hSH,hg⟩
  obtain⟨h0,l0,rfl,hl0⟩:=len_cons hg.1
  obtain⟨h1,l1,rfl,hl1⟩:=len_cons hl0
  obtain rfl:=len_zero hl1;clear hl0 hl1
  have HBN:=hid (HBM.out.fwd bwN)
  have HLN:=hid (HLM.out.trans (bwN.mono HLM.out.size))
  have DWN:=hid (DWM.out.fwd bwN)
  have DGN:=hid (DGM.out.fwd bwN)
  have DHN:=hid hg;clear hg hSH bwN NM
  have s0:=fun a m w=>run_store Tryz.prog w a h0 m (DHN.out.drs.2 0 _ _ rfl rfl).one
  have s1:=fun a m w=>run_store Tryz.prog w a h1 m (DHN.out.drs.2 1 _ _ rfl rfl).one
  have ALn:=hid (show Below wN.heap.size wN (wN.alloc (.cells [h0,h1].toArray 30))from(Below.refl _ _).alloc (Nat.le_refl _) _)
  have HBn:=hid (HBN.out.add [h0,h1] 30)
  have HLn:=hid (HLN.out.trans (ALn.out.mono HLN.out.size))
  have DWn:=hid (DWN.out.fwd ALn.out)
  have DGn:=hid (DGN.out.fwd ALn.out)
  have DHn:=hid (DHN.out.fwd ALn.out)
  have y0':=HBn.out.c 3 rfl 0 rfl
  have y1':=HBn.out.c 3 rfl 1 rfl
  go_wp2_with fail
  clear s0 s1
  clear y0' y1'
  refine(heq.out.callsB (vs:=[_,_]) (B:=fun _=>True) (vals2_mk DHn.out.drs.v (DWn.out.mono fun _ _ _=>trivial).v)).mono ?_
  rintro e wO ⟨rfl,bwO⟩
  rw[show sameG r r=true from sameG_refl _]
  have HBO:=hid (HBn.out.fwd bwO)
  have HLO:=hid (HLn.out.trans (bwO.mono HLn.out.size))
  have DWO:=hid (DWn.out.fwd bwO)
  have DGO:=hid (DGn.out.fwd bwO)
  have DHO:=hid (DHn.out.fwd bwO)
  clear bwO
  have g0':=HBO.out.c 1 rfl 0 rfl
  have g1':=HBO.out.c 1 rfl 1 rfl
  go_wp2_with fail
  clear g0' g1'
  refine(hhd.out.callsI (vs:=[_,_]) (B:=fun _=>True) (vals2_mk DGO.out.drs.v (Dr.val (.int .i64 1) rfl))).mono ?_
  rintro e wP ⟨rfl,bwP⟩
  have HBP:=hid (HBO.out.fwd bwP)
  have HLP:=hid (HLO.out.trans (bwP.mono HLO.out.size))
  have DWP:=hid (DWO.out.fwd bwP)
  have DGP:=hid (DGO.out.fwd bwP)
  have DHP:=hid (DHO.out.fwd bwP)
  clear bwP
  go_wp2_with fail
  go_ret
  exact⟨rfl,HLP.out⟩
theorem dropG_sz {g:Prg} {a:Int} {m:Nat} (h:szG g≤m):szG (dropG g a).1≤m:=by
  unfold dropG
  split
  ·exact Nat.le_trans szG_del h
  · show szO szR []+szO szPt []≤m
    simp[szO]
theorem lawEdrop {g:Prg} (ho:okPrg g) (a:Int) {w:World} {v:Value} (e0:V1r bx0 al0 (fun b=>b<w.heap.size) w (ad (rG g)) v):Truth Tryz.prog 5 #[v,.int .i64 a] w:=by
  obtain⟨us,rfl,d⟩:=e0_drs e0
  exact lawXdrop ho (fun hs=>specDrop_fn g a (by omega) (by have:=(szG_parts hs).2.1;omega) (own0_of hs) copy_of) (fun hs=>DropPart_T g a (by omega) (by have:=(szG_parts hs).2.1;omega) (fun hv=>own_of hs hv)) (fun hs=>dropG_sz hs) d
end Go.Proofs.YtollooimmfngjaaGreat
