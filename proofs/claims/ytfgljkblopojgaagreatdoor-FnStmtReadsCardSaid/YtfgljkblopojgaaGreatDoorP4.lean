/- Part 4 of 4 of the proof: laws on memory and data, then what the functions compute, in the order in which they build on each other; conditions: those that each theorem names. -/
import Derived.Test.YtfgljkblopojgaaGreatDoorP3
set_option maxRecDepth 100000
set_option maxHeartbeats 1600000

namespace Go.Proofs.YtfgljkblopojgaaGreatDoor
set_option linter.unusedVariables false
set_option linter.unusedSimpArgs false
open Go.RowKit
def bl (s:ByteArray):List UInt8:=s.data.toList
theorem bl_app (a b:ByteArray):bl (a++b)=bl a++bl b:=by rw[bl,ByteArray.data_append,Array.toList_append];rfl
theorem ex_eta (e:Ex):e= .mk e.k e.n e.i e.r e.ks:=by cases e;rfl
def tA (x:Aff):List UInt8:=bl (txtA x)
def tset:List UInt8:=alpha++[105,106,107,108]
theorem tA_mem {x:Aff} (h:affV x=true) {z:UInt8} (hz:z∈tA x):z∈tset:=by
  unfold tA txtA at hz
  split at hz
  · have:z=48:=by simpa [bl]using hz
    subst this;decide
  · rw[bl,raw_G h]at hz
    rcases mem_G _ _ _ (fun p hp=>affV_coef h _ (List.of_mem_zip hp).2) (affV_const h) hz with h1|h1
    ·exact List.mem_append_left _ h1
    · obtain⟨p,hp,rfl⟩:=List.mem_map.1 h1
      exact List.mem_append_right _ (List.of_mem_zip hp).1
theorem tA_no {x:Aff} (h:affV x=true) {z:UInt8} (hz:z∉tset):z∉tA x:=fun h1=>hz (tA_mem h h1)
theorem bl_jn (l:List Aff):bl (jnT l)=Lib.join (l.map tA) [44]:=by
  rw[jnT,jnL,bl,List.map_map];rfl
theorem jn_one (x:Aff):bl (jnT [x])=tA x:=by rw[bl_jn];simp[Lib.join,List.intercalate]
theorem jn_two (x y:Aff):bl (jnT [x,y])=tA x++44::tA y:=by rw[bl_jn];simp[Lib.join,List.intercalate]
theorem one_two {l:List Aff} (h:1≤l.length∧l.length≤2):(∃x,l=[x])∨∃x y,l=[x,y]:=by
  match l,h with
  |[x],_=>exact .inl ⟨x,rfl⟩
  |[x,y],_=>exact .inr ⟨x,y,rfl⟩
theorem jn_no {l:List Aff} (hl:1≤l.length∧l.length≤2) (h:∀x∈l,affV x=true) {z:UInt8} (hz:z∉44::tset):z∉bl (jnT l):=by
  rw[List.mem_cons,not_or]at hz
  rcases one_two hl with⟨x,rfl⟩|⟨x,y,rfl⟩
  ·rw[jn_one];exact tA_no (h x (by simp)) hz.2
  · rw[jn_two,List.mem_append,List.mem_cons]
    rintro (h1|h1|h1)
    ·exact tA_no (h x (by simp)) hz.2 h1
    ·exact hz.1 h1
    ·exact tA_no (h y (by simp)) hz.2 h1
theorem name_bl {d:Nat} {a:Acc} (h:accV d a=true):∃b,bl a.1=[b]∧arrB b=true:=by
  rw[accV,Bool.and_eq_true]at h
  have h1:=h.1
  unfold arrV at h1
  split at h1
  ·rename_i b hb;exact⟨b,hb,h1⟩
  ·cases h1
theorem bl_ac (a:Acc):bl (acQ a)=bl a.1++91::(bl (jnT a.2)++[93]):=by
  rw[acQ,bl_app,bl_app,bl_app]
  show bl a.1++[91]++bl (jnT a.2)++[93]=_
  simp
inductive ShT (d L:Nat):Ex→List UInt8→Prop
  |num (n:Int) (h0:0≤n) (h1:n≤99):ShT d L (.mk 1 n ([],0) zC []) (dec1 n.natAbs)
  |ind (i:Aff) (h:affV i=true):ShT d L (.mk 2 0 i zC []) (123::(tA i++[125]))
  |rd (r:Acc) (h:accV d r=true):ShT d L (.mk 3 0 ([],0) r []) (bl (acQ r))
  |op (k:Int) (s:UInt8) (a b:Ex) (hk:(k=4∧s=43)∨(k=5∧s=45)∨(k=6∧s=42)) (ha:exV d L a=true) (hb:exV d L b=true):ShT d L (.mk k 0 ([],0) zC [a,b]) (40::(bl (exQ L a)++s::(bl (exQ L b)++[41])))
theorem nonA_eq {x:Aff} (h:nonA x=true):x=([],0):=by
  simp only[nonA,Bool.and_eq_true,decide_eq_true_eq]at h
  exact Prod.ext (List.eq_nil_of_length_eq_zero h.1) h.2
theorem nonC_eq {x:Acc} (h:nonC x=true):x=zC:=by
  simp only[nonC,Bool.and_eq_true,decide_eq_true_eq,sEq_iff]at h
  exact Prod.ext h.1 (List.eq_nil_of_length_eq_zero h.2)
theorem ex_mk {e:Ex} {k n:Int} {i:Aff} {r:Acc} {ks:List Ex} (h1:e.k=k) (h2:e.n=n) (h3:e.i=i) (h4:e.r=r) (h5:e.ks=ks):Ex.mk k n i r ks=e:=by subst h1 h2 h3 h4 h5;exact(ex_eta e).symm
theorem sh_of {d L:Nat} {e:Ex} (h:exV d (L+1) e=true):ShT d L e (bl (exQ (L+1) e)):=by
  obtain⟨h1,h2,h3⟩:=exV_un h
  have hn:=exV_n h
  rw[exQ]
  by_cases k1:e.k=1
  · rw[k1]at h1 h2
    simp only[fldV,if_pos,Bool.and_eq_true]at h2
    simp[kidV]at h1
    rw[if_pos k1,bl,L_dec (by omega)]
    have:=ShT.num (d:=d) (L:=L) e.n hn.1 hn.2
    rwa[ex_mk k1 rfl (nonA_eq h2.1.2) (nonC_eq h2.2) h1]at this
  · rw[if_neg k1]
    by_cases k2:e.k=2
    · rw[k2]at h1 h2
      simp[fldV]at h2
      simp[kidV]at h1
      rw[if_pos k2,bl_app,bl_app]
      have e1:(bl ⟨#[123]⟩++bl (txtA e.i)++bl ⟨#[125]⟩)=123::(tA e.i++[125]):=by
        show [123]++bl (txtA e.i)++[125]=_
        simp[tA]
      rw[e1]
      have:=ShT.ind (d:=d) (L:=L) e.i h2.1.2.1
      rwa[ex_mk k2 h2.1.1 rfl (nonC_eq h2.2) h1]at this
    · rw[if_neg k2]
      by_cases k3:e.k=3
      · rw[k3]at h1 h2
        simp[fldV]at h2
        simp[kidV]at h1
        rw[if_pos k3]
        have:=ShT.rd (d:=d) (L:=L) e.r h2.2
        rwa[ex_mk k3 h2.1.1 (nonA_eq h2.1.2) rfl h1]at this
      · obtain⟨q1,q2,q3⟩:=kid_op h1 k1 k2 k3
        simp only[fldV,if_neg k1,if_neg k2,if_neg k3,Bool.and_eq_true,decide_eq_true_eq]at h2
        rw[if_neg k3]
        obtain⟨a,b,hab⟩:∃a b,e.ks=[a,b]:=by
          generalize e.ks=ks at q3
          match ks,q3 with
          |[a,b],_=>exact⟨a,b,rfl⟩
        have ha:=h3 a (by rw[hab];simp)
        have hb:=h3 b (by rw[hab];simp)
        have e0:e.ks.getD 0 exZ=a:=by rw[hab];rfl
        have e1:e.ks.getD 1 exZ=b:=by rw[hab];rfl
        rw[e0,e1]
        have key:∀s:UInt8,opsT.extract (e.k -4).toNat ((e.k -4).toNat+1)=⟨#[s]⟩→bl (⟨#[40]⟩++exQ L a++opsT.extract (e.k -4).toNat ((e.k -4).toNat+1)++exQ L b++⟨#[41]⟩)=40::(bl (exQ L a)++s::(bl (exQ L b)++[41])):=fun s hs=>by
          rw[hs,bl_app,bl_app,bl_app,bl_app]
          show [40]++bl (exQ L a)++[s]++bl (exQ L b)++[41]=_
          simp
        have hc:e.k=4∨e.k=5∨e.k=6:=by omega
        have fin:∀(k:Int) (s:UInt8),e.k=k→(k=4∧s=43)∨(k=5∧s=45)∨(k=6∧s=42)→opsT.extract (e.k -4).toNat ((e.k -4).toNat+1)=⟨#[s]⟩→ShT d L e (bl (⟨#[40]⟩++exQ L a++opsT.extract (e.k -4).toNat ((e.k -4).toNat+1)++exQ L b++⟨#[41]⟩)):=fun k s hk hs ho=>by
          rw[key s ho]
          have:=ShT.op (d:=d) (L:=L) k s a b hs ha hb
          rwa[ex_mk hk h2.1.1 (nonA_eq h2.1.2) (nonC_eq h2.2) hab]at this
        rcases hc with hc|hc|hc
        ·exact fin 4 43 hc (.inl ⟨rfl,rfl⟩) (by rw[hc];rfl)
        ·exact fin 5 45 hc (.inr (.inl ⟨rfl,rfl⟩)) (by rw[hc];rfl)
        ·exact fin 6 42 hc (.inr (.inr ⟨rfl,rfl⟩)) (by rw[hc];rfl)
def dg:List UInt8:=[48,49,50,51,52,53,54,55,56,57]
theorem dec_dg:∀i:Fin 100,(dec1 i.val).all (fun z=>dg.contains z)=true∧dec1 i.val≠[]:=by decide +kernel
theorem arrB_mem {b:UInt8} (h:arrB b=true):b∈([65,66,67,68]:List UInt8):=by
  unfold arrB at h
  have h:=of_decide_eq_true h
  have hc:b.toNat=65∨b.toNat=66∨b.toNat=67∨b.toNat=68:=by omega
  rcases hc with hc|hc|hc|hc
  ·rw[show b=65 from UInt8.toNat_inj.1 hc];decide
  ·rw[show b=66 from UInt8.toNat_inj.1 hc];decide
  ·rw[show b=67 from UInt8.toNat_inj.1 hc];decide
  ·rw[show b=68 from UInt8.toNat_inj.1 hc];decide
theorem bl_st (s:Stm):bl (stQ s)=bl (acQ s.1)++61::bl (exQ 5 s.2):=by
  rw[stQ,bl_app,bl_app]
  show bl (acQ s.1)++[61]++bl (exQ 5 s.2)=_
  simp
theorem stQ_ne {s:Stm} (h:stmtV 4 s=true):stQ s≠⟨#[]⟩:=fun e=>by
  have:bl (stQ s)=[]:=by rw[e];rfl
  rw[bl_st]at this
  simp at this
/-! ### Brackets -/
theorem ac_cnt {d:Nat} {a:Acc} (h:accV d a=true):(bl (acQ a)).count 91=1:=by
  obtain⟨c,q1,q2⟩:=name_bl h
  obtain⟨_,h2,h3⟩:=accV_two h
  have hc:c≠91:=fun e=>by subst e;exact absurd (arrB_mem q2) (by decide)
  have hj:(bl (jnT a.2)).count 91=0:=List.count_eq_zero.2 (jn_no h2 h3 (by decide))
  rw[bl_ac,q1]
  simp[List.count_append,List.count_cons,hj,hc]
theorem ex_cnt {d:Nat}:∀ {L:Nat} {e:Ex},exV d L e=true→(bl (exQ L e)).count 91=(rdE e).length
  |0,e,h=>by cases h
  |L+1,e,h=>by
    have s1:=sh_of h
    generalize bl (exQ (L+1) e)=t at s1
    cases s1 with
    |num n h0 h1=>
      have h2:=dec_dg ⟨n.natAbs,by omega⟩
      have:(dec1 n.natAbs).count 91=0:=List.count_eq_zero.2 fun hm=>by
        have:=List.contains_iff_mem.1 (List.all_eq_true.1 h2.1 91 hm)
        exact absurd this (by decide)
      rw[this];rfl
    |ind i hi=>
      have:(tA i).count 91=0:=List.count_eq_zero.2 (tA_no hi (by decide))
      simp[List.count_append,List.count_cons,this,rdE,rdEs]
    |rd r hr=>rw[ac_cnt hr];simp[rdE,rdEs]
    |op k s a b hk ha hb=>
      have hs:s≠91:=by rcases hk with⟨_,rfl⟩|⟨_,rfl⟩|⟨_,rfl⟩<;>decide
      have hk3:¬k=3:=by omega
      simp[List.count_append,List.count_cons,ex_cnt ha,ex_cnt hb,hs,rdE,rdEs,hk3]
theorem st_cnt {s:Stm} (h:stmtV 4 s=true):(bl (stQ s)).count 91=(rdE s.2).length+1:=by
  have h1:=stmtV_ex h
  rw[bl_st,List.count_append,List.count_cons,ac_cnt h1.2.1,ex_cnt h1.1]
  simp;omega
theorem two_boxT {σ:St} {k1 k2:Nat} {e1 e2:TypeId} {s1 s2:Nat} {r1 r2:List (List C)} (h1:lk σ (.b k1)= .b e1 s1 r1) (h2:lk σ (.b k2)= .b e2 s2 r2):∀k e sz rows,lk [(.b k1,.b e1 s1 r1),(.u k1,.u),(.b k2,.b e2 s2 r2),(.u k2,.u)] (.b k)= .b e sz rows→lk σ (.b k)= .b e sz rows:=fun k e sz rows h=>by
  by_cases hk:k=k1
  ·subst hk;rw[lk_same]at h;rw[h1];exact h
  · rw[lk_other _ _ _ _ (by simpa using fun e=>hk e.symm),lk_other _ _ _ _ (by simp)]at h
    exact one_box h2 k e sz rows h
theorem two_numT {σ:St} {k1 k2:Nat} {e1 e2:TypeId} {s1 s2:Nat} {r1 r2:List (List C)} (hk:(Nat.ble 100 k1&&Nat.ble 100 k2)=true):∀k,k<100→Al (lk [(.b k1,.b e1 s1 r1),(.u k1,.u),(.b k2,.b e2 s2 r2),(.u k2,.u)]) k→Al (lk σ) k:=fun k h ⟨e,sz,rows,h1⟩=>by
  rw[Bool.and_eq_true]at hk
  have a1:=Nat.le_of_ble_eq_true hk.1
  rw[lk_other _ _ _ _ (by simp;omega),lk_other _ _ _ _ (by simp)]at h1
  exact one_num hk.2 k h ⟨e,sz,rows,h1⟩
theorem outS_two {inv:Inv} {k1 k2:Nat} {e1 e2:TypeId} {s1 s2:Nat} {r1 r2:List (List D)}:outS inv [(.b k1,.b e1 s1 (dR r1)),(.u k1,.u),(.b k2,.b e2 s2 (dR r2)),(.u k2,.u)]=[(.b (asc inv k1),.b e1 s1 (dR r1)),(.u (asc inv k1),.u),(.b (asc inv k2),.b e2 s2 (dR r2)),(.u (asc inv k2),.u)]:=by simp[outS,renR_dR]
theorem l3CopyAcc_own (a:Acc) (h0:0<a.2.length) (ha:a.2.length≤1073741824) (hq:∀x∈a.2,x.1.length≤1073741824):Fn Tryz.prog 48 [] [ad (rC a)] (.o (.agg [.d (dS a.1),.own 101 2 a.2.length])) [(.b 101,.b 28 2 (dR (a.2.map rA))),(.u 101,.u)]:=by
 refine Fn.of_code Tryz.func48 rfl rfl HB.nil rfl rfl HB.nil.data rfl (one_num rfl) ?_
 refine .r<|.c .bp<|.c (.al 102 [.string ByteArray.empty,.slice none 0 0])<|.r<|.c (.fP 0 0 false)<|.c (.l1 1)<|.c (.bu [(0,.tmp 6)] [(0,1),(1,1)] [.string ByteArray.empty,.slice none 0 0])<|.c (.al 103 [.string ByteArray.empty,.slice none 0 0])<|.c (.sT 2 true)<|.nn<|.seq<|.r<|.c .a<|.nn<|.block ?_
 refine .loopK (fun m σ=>(∃i:Nat,m=a.2.length -i∧(i=0)∧σ=[eP 1 (rC a),eB 2 110 2,eB 3 111 2,eN 4 (i:Nat),(.b 110,.b 25 2 [[.d (dS ByteArray.empty),nl]]),eU 110,(.b 111,.b 25 2 [[.d (dS a.1),nl]]),eU 111])∨(∃i:Nat,m=a.2.length -i∧(1≤i)∧(i≤a.2.length)∧σ=[eP 1 (rC a),eB 2 110 2,eB 3 111 2,eN 4 (i:Nat),(.b 110,.b 25 2 [[.d (dS ByteArray.empty),nl]]),eU 110,(.b 112,.b 28 2 (dR ((a.2.take i).map rA))),eU 112,(.b 111,.b 25 2 [[.d (dS a.1),.own 112 2 (i)]]),eU 111])) [(110,102),(111,103)] (.inl ⟨0,rfl,rfl,rfl⟩) ⟨kd,kX,kX,kd,kb 102 rfl (.r2 .dt .dt),kb 103 rfl (.r2 .dt .dt),trivial⟩ ?_
 rintro m σ (⟨i,hm0,rfl,rfl⟩|⟨i,hm0,hi1,hi2,rfl⟩)
 ·skip
  refine .seq<|.r<|.c .m<|.c (.fP 1 0 false)<|.c (.l1 1)<|.c (.ln 28 2 32)<|.c .ls<|.nn ?_
  refine .cD rfl (fun h12=>?_) (fun h12=>?_)
  ·skip
   obtain⟨x,hx1⟩:∃x,a.2[0]?=some x:=⟨_,List.getElem?_eq_getElem (by omega)⟩
   refine .skip<|ks_n<|.seq<|.block ?_
   refine ACode.drawK (by kernel_rfl) (by kernel_rfl) ?_
   refine .c (.fB 1 0 false)<|.c (.b1 1)<|.c (.fP 1 0 false)<|.c (.l1 1)<|.c .m<|.c (.xL 28 2 32) ?_
   refine .c (.lN 2) ?_
   refine .c (.cP [.tmp 21] rfl rfl rfl rfl (l3CopyAff_fn (hq x (List.mem_of_getElem? hx1))) rfl) ?_
   refine .c (.li 28 1 0 [.tmp 22]) ?_
   refine .c (St1.appN (k':=124) (e:=28) (sz:=1) (by':=32) rfl rfl rfl rfl rfl (by kernel_rfl) rfl rfl rfl (by simp) (by first|(simp[dR];done)|(simp[dR];omega)) rfl rfl) ?_
   refine .c (.fB 1 0 false)<|.c (.sT 1 false) ?_
   refine .nil ⟨by kernel_rfl,?_⟩
   refine kb_n<|ks_n<|.region<|.c .m<|.c .pl<|.c .a<|.nil ?_
   refine kl_k [(110,110),(111,111),(112,124)] (.inr ⟨1,rfl,by omega,by omega,rfl⟩) ⟨kd,kX,kX,kd,kb 110 rfl (.r2 .dt .dt),kb 124 rfl (.dt rfl (by first|exact dR_take (rA) hx1|exact dR_take1 (rA) hx1|rfl|(simp[dR];done))),kb 111 rfl (.r2 .dt .ow),trivial⟩
  ·skip
   omega
 ·skip
  refine .seq<|.r<|.c .m<|.c (.fP 1 0 false)<|.c (.l1 1)<|.c (.ln 28 2 32)<|.c .ls<|.nn ?_
  refine .cD rfl (fun h12=>?_) (fun h12=>?_)
  ·skip
   obtain⟨x,hx1⟩:∃x,a.2[i]?=some x:=⟨_,List.getElem?_eq_getElem (by omega)⟩
   refine .skip<|ks_n<|.seq<|.block ?_
   refine ACode.drawK (by kernel_rfl) (by kernel_rfl) ?_
   refine .c (.fB 1 0 false)<|.c (.b1 1)<|.c (.fP 1 0 false)<|.c (.l1 1)<|.c .m<|.c (.xL 28 2 32) ?_
   refine .c (.lN 2) ?_
   refine .c (.cP [.tmp 21] rfl rfl rfl rfl (l3CopyAff_fn (hq x (List.mem_of_getElem? hx1))) rfl) ?_
   refine .c (.li 28 1 0 [.tmp 22]) ?_
   refine .c (St1.appB (k':=124) (e:=28) (sz:=1) (by':=32) rfl rfl rfl rfl rfl (by kernel_rfl) rfl rfl rfl rfl (by first|(simp[dR];done)|(simp[dR];omega)) (by first|(simp[dR];done)|(simp[dR];omega)) rfl rfl rfl) ?_
   refine .c (.fB 1 0 false)<|.c (.sT 1 false) ?_
   refine .nil ⟨by kernel_rfl,?_⟩
   refine kb_n<|ks_n<|.region<|.c .m<|.c .pl<|.c .a<|.nil ?_
   refine kl_k [(110,110),(111,111),(112,124)] (.inr ⟨i+1,rfl,by omega,by omega,rfl⟩) ⟨kd,kX,kX,kd,kb 110 rfl (.r2 .dt .dt),kb 124 rfl (.dt rfl (by first|exact dR_take (rA) hx1|exact dR_take1 (rA) hx1|rfl|(simp[dR];done))),kb 111 rfl (.r2 .dt .ow),trivial⟩
  ·skip
   obtain rfl:i=a.2.length:=by omega
   refine .exit<|ks_e<|kl_e<|kb_hit<|ks_n<|.r<|.c (.bN 2)<|.c (.sT 2 true)<|.nn<|.ret ?_
   refine kf_wret [eB 2 100 2,(.b 101,.b 28 2 (dR (a.2.map rA))),eU 101,(.b 100,.b 25 2 [[.d (dS a.1),.own 101 2 (a.2.length)]]),eU 100] (Wk.keep [(100,110),(101,112)] rfl rfl ⟨kX,kb 112 rfl (.dt rfl (by rw[List.take_length])),kb 110 rfl (.r2 .dt .ow),trivial⟩) rfl ?_ (one_box rfl)
   rfl
theorem l3CopyEx_own (e:Ex) (hi:e.i.1.length≤1073741824) (hr:e.r.2.length≤1073741824) (hq:∀x∈e.r.2,x.1.length≤1073741824) (hk:e.ks.length≤1073741824) (hz:∀x∈e.ks,szE x≤1073741824) (h0:0<e.ks.length):Fn Tryz.prog 52 [] [ad (rX e)] (.o (.agg [.d (dI e.k),.d (dI e.n),.d (dIs e.i.1),.d (dI e.i.2),.d (dS e.r.1),.d (dAs e.r.2),.own 101 7 e.ks.length])) [(.b 101,.b 31 7 (dR (e.ks.map rE))),(.u 101,.u)]:=by
 refine Fn.of_code Tryz.func52 rfl rfl HB.nil rfl rfl HB.nil.data rfl (one_num rfl) ?_
 refine .r<|.c .bp<|.c (.al 102 [.int .i64 0,.int .i64 0,.slice none 0 0,.int .i64 0,.string ByteArray.empty,.slice none 0 0,.slice none 0 0])<|.nn<|.seq ?_
 refine ACode.drawK (by kernel_rfl) (by kernel_rfl) ?_
 refine .c (.fP 0 0 false)<|.c (.l1 1)<|.c (.fP 1 0 false)<|.c (.l1 1)<|.c (.fP 2 1 true)<|.c (.lN 2) ?_
 refine .c (.cP [.tmp 10] rfl rfl rfl rfl (l3CopyAff_fn hi) rfl) ?_
 refine .c (.fP 4 1 true)<|.c (.lN 2) ?_
 refine .c (.cP [.tmp 13] rfl rfl rfl rfl (l3CopyAcc_fn e.r hr hq) rfl) ?_
 refine .c (.bu [(0,.tmp 6),(1,.tmp 8),(2,.tmp 11),(3,.tmp 14)] [(0,1),(1,1),(2,2),(4,2),(6,1)] [.int .i64 0,.int .i64 0,.slice none 0 0,.int .i64 0,.string ByteArray.empty,.slice none 0 0,.slice none 0 0])<|.c (.al 103 [.int .i64 0,.int .i64 0,.slice none 0 0,.int .i64 0,.string ByteArray.empty,.slice none 0 0,.slice none 0 0])<|.c (.sT 7 true) ?_
 refine .nil ⟨by kernel_rfl,?_⟩
 refine ks_n<|.seq<|.r<|.c .a<|.nn<|.block ?_
 refine .loopK (fun m σ=>(∃i:Nat,m=e.ks.length -i∧(i=0)∧σ=[eP 1 (rX e),eB 2 110 7,eB 3 111 7,eN 4 (i:Nat),(.b 110,.b 31 7 [[.d (dI 0),.d (dI 0),nl,.d (dI 0),.d (dS ByteArray.empty),nl,nl]]),eU 110,(.b 111,.b 31 7 [[.d (dI e.k),.d (dI e.n),.d (dIs e.i.1),.d (dI e.i.2),.d (dS e.r.1),.d (dAs e.r.2),nl]]),eU 111])∨(∃i:Nat,m=e.ks.length -i∧(1≤i)∧(i≤e.ks.length)∧σ=[eP 1 (rX e),eB 2 110 7,eB 3 111 7,eN 4 (i:Nat),(.b 110,.b 31 7 [[.d (dI 0),.d (dI 0),nl,.d (dI 0),.d (dS ByteArray.empty),nl,nl]]),eU 110,(.b 112,.b 31 7 (dR ((e.ks.take i).map fun x=>rX x))),eU 112,(.b 111,.b 31 7 [[.d (dI e.k),.d (dI e.n),.d (dIs e.i.1),.d (dI e.i.2),.d (dS e.r.1),.d (dAs e.r.2),.own 112 7 (i)]]),eU 111])) [(110,102),(111,103)] (.inl ⟨0,rfl,rfl,rfl⟩) ⟨kd,kX,kX,kd,kb 102 rfl (.cons (.cons .dt (.cons .dt (.cons .dt (.cons .dt (.cons .dt (.cons .dt (.cons .dt Ctos.nil))))))) .nil),kb 103 rfl (.cons (.cons .dt (.cons .dt (.cons .dt (.cons .dt (.cons .dt (.cons .dt (.cons .dt Ctos.nil))))))) .nil),trivial⟩ ?_
 rintro m σ (⟨i,hm0,rfl,rfl⟩|⟨i,hm0,hi1,hi2,rfl⟩)
 ·skip
  refine .seq<|.r<|.c .m<|.c (.fP 6 0 false)<|.c (.l1 1)<|.c (.ln 31 7 112)<|.c .ls<|.nn ?_
  refine .cD rfl (fun h20=>?_) (fun h20=>?_)
  ·skip
   obtain⟨x,hx1⟩:∃x,e.ks[0]?=some x:=⟨_,List.getElem?_eq_getElem (by omega)⟩
   refine .skip<|ks_n<|.seq<|.block ?_
   refine ACode.drawK (by kernel_rfl) (by kernel_rfl) ?_
   refine .c (.fB 6 0 false)<|.c (.b1 1)<|.c (.fP 6 0 false)<|.c (.l1 1)<|.c .m ?_
   refine .c (.xL 31 7 112 rfl rfl rfl rfl rfl (rE_at hx1)) ?_
   refine .c (.lN 7) ?_
   refine .c (.cP [.tmp 29] rfl rfl rfl rfl (l3CopyEx_fn x (hz x (List.mem_of_getElem? hx1))) rfl) ?_
   refine .c (.li 31 6 0 [.tmp 30]) ?_
   refine .c (St1.appN (k':=132) (e:=31) (sz:=6) (by':=112) rfl rfl rfl rfl rfl (by kernel_rfl) rfl rfl rfl (by simp) (by first|(simp[dR];done)|(simp[dR];omega)) rfl rfl) ?_
   refine .c (.fB 6 0 false)<|.c (.sT 1 false) ?_
   refine .nil ⟨by kernel_rfl,?_⟩
   refine kb_n<|ks_n<|.region<|.c .m<|.c .pl<|.c .a<|.nil ?_
   refine kl_k [(110,110),(111,111),(112,132)] (.inr ⟨1,rfl,by omega,by omega,rfl⟩) ⟨kd,kX,kX,kd,kb 110 rfl (.cons (.cons .dt (.cons .dt (.cons .dt (.cons .dt (.cons .dt (.cons .dt (.cons .dt Ctos.nil))))))) .nil),kb 132 rfl (.dt rfl (by first|exact dR_take (fun x=>rX x) hx1|exact dR_take1 (fun x=>rX x) hx1|rfl|(simp[dR];done))),kb 111 rfl (.cons (.cons .dt (.cons .dt (.cons .dt (.cons .dt (.cons .dt (.cons .dt (.cons .ow Ctos.nil))))))) .nil),trivial⟩
  ·skip
   omega
 ·skip
  refine .seq<|.r<|.c .m<|.c (.fP 6 0 false)<|.c (.l1 1)<|.c (.ln 31 7 112)<|.c .ls<|.nn ?_
  refine .cD rfl (fun h20=>?_) (fun h20=>?_)
  ·skip
   obtain⟨x,hx1⟩:∃x,e.ks[i]?=some x:=⟨_,List.getElem?_eq_getElem (by omega)⟩
   refine .skip<|ks_n<|.seq<|.block ?_
   refine ACode.drawK (by kernel_rfl) (by kernel_rfl) ?_
   refine .c (.fB 6 0 false)<|.c (.b1 1)<|.c (.fP 6 0 false)<|.c (.l1 1)<|.c .m ?_
   refine .c (.xL 31 7 112 rfl rfl rfl rfl rfl (rE_at hx1)) ?_
   refine .c (.lN 7) ?_
   refine .c (.cP [.tmp 29] rfl rfl rfl rfl (l3CopyEx_fn x (hz x (List.mem_of_getElem? hx1))) rfl) ?_
   refine .c (.li 31 6 0 [.tmp 30]) ?_
   refine .c (St1.appB (k':=132) (e:=31) (sz:=6) (by':=112) rfl rfl rfl rfl rfl (by kernel_rfl) rfl rfl rfl rfl (by first|(simp[dR];done)|(simp[dR];omega)) (by first|(simp[dR];done)|(simp[dR];omega)) rfl rfl rfl) ?_
   refine .c (.fB 6 0 false)<|.c (.sT 1 false) ?_
   refine .nil ⟨by kernel_rfl,?_⟩
   refine kb_n<|ks_n<|.region<|.c .m<|.c .pl<|.c .a<|.nil ?_
   refine kl_k [(110,110),(111,111),(112,132)] (.inr ⟨i+1,rfl,by omega,by omega,rfl⟩) ⟨kd,kX,kX,kd,kb 110 rfl (.cons (.cons .dt (.cons .dt (.cons .dt (.cons .dt (.cons .dt (.cons .dt (.cons .dt Ctos.nil))))))) .nil),kb 132 rfl (.dt rfl (by first|exact dR_take (fun x=>rX x) hx1|exact dR_take1 (fun x=>rX x) hx1|rfl|(simp[dR];done))),kb 111 rfl (.cons (.cons .dt (.cons .dt (.cons .dt (.cons .dt (.cons .dt (.cons .dt (.cons .ow Ctos.nil))))))) .nil),trivial⟩
  ·skip
   obtain rfl:i=e.ks.length:=by omega
   refine .exit<|ks_e<|kl_e<|kb_hit<|ks_n<|.r<|.c (.bN 7)<|.c (.sT 7 true)<|.nn<|.ret ?_
   refine kf_wret [eB 2 100 7,(.b 101,.b 31 7 (dR (e.ks.map rE))),eU 101,(.b 100,.b 31 7 [[.d (dI e.k),.d (dI e.n),.d (dIs e.i.1),.d (dI e.i.2),.d (dS e.r.1),.d (dAs e.r.2),.own 101 7 (e.ks.length)]]),eU 100] (Wk.keep [(100,110),(101,112)] rfl rfl ⟨kX,kb 112 rfl (.dt rfl (by first|exact(dR_ex id _).trans (by rw[List.map_id])|(rw[List.take_length];done))),kb 110 rfl (.cons (.cons .dt (.cons .dt (.cons .dt (.cons .dt (.cons .dt (.cons .dt (.cons .ow Ctos.nil))))))) .nil),trivial⟩) rfl ?_ (one_box rfl)
   rfl
theorem l3CopyEx_nil (e:Ex) (hi:e.i.1.length≤1073741824) (hr:e.r.2.length≤1073741824) (hq:∀x∈e.r.2,x.1.length≤1073741824) (hk:e.ks.length≤1073741824) (hz:∀x∈e.ks,szE x≤1073741824) (h0:e.ks.length=0):Fn Tryz.prog 52 [] [ad (rX e)] (.o (.agg [.d (dI e.k),.d (dI e.n),.d (dIs e.i.1),.d (dI e.i.2),.d (dS e.r.1),.d (dAs e.r.2),.d (.val (.slice none 0 0))])) []:=by
 refine Fn.code0 Tryz.func52 rfl rfl rfl rfl ?_
 refine .r<|.c .bp<|.c (.al 102 [.int .i64 0,.int .i64 0,.slice none 0 0,.int .i64 0,.string ByteArray.empty,.slice none 0 0,.slice none 0 0])<|.nn<|.seq ?_
 refine ACode.drawK (by kernel_rfl) (by kernel_rfl) ?_
 refine .c (.fP 0 0 false)<|.c (.l1 1)<|.c (.fP 1 0 false)<|.c (.l1 1)<|.c (.fP 2 1 true)<|.c (.lN 2) ?_
 refine .c (.cP [.tmp 10] rfl rfl rfl rfl (l3CopyAff_fn hi) rfl) ?_
 refine .c (.fP 4 1 true)<|.c (.lN 2) ?_
 refine .c (.cP [.tmp 13] rfl rfl rfl rfl (l3CopyAcc_fn e.r hr hq) rfl) ?_
 refine .c (.bu [(0,.tmp 6),(1,.tmp 8),(2,.tmp 11),(3,.tmp 14)] [(0,1),(1,1),(2,2),(4,2),(6,1)] [.int .i64 0,.int .i64 0,.slice none 0 0,.int .i64 0,.string ByteArray.empty,.slice none 0 0,.slice none 0 0])<|.c (.al 103 [.int .i64 0,.int .i64 0,.slice none 0 0,.int .i64 0,.string ByteArray.empty,.slice none 0 0,.slice none 0 0])<|.c (.sT 7 true) ?_
 refine .nil ⟨by kernel_rfl,?_⟩
 refine ks_n<|.seq<|.r<|.c .a<|.nn<|.block ?_
 refine .loopK (fun m σ=>(∃i:Nat,m=e.ks.length -i∧(i=0)∧σ=[eP 1 (rX e),eB 2 110 7,eB 3 111 7,eN 4 (i:Nat),(.b 110,.b 31 7 [[.d (dI 0),.d (dI 0),nl,.d (dI 0),.d (dS ByteArray.empty),nl,nl]]),eU 110,(.b 111,.b 31 7 [[.d (dI e.k),.d (dI e.n),.d (dIs e.i.1),.d (dI e.i.2),.d (dS e.r.1),.d (dAs e.r.2),nl]]),eU 111])∨(∃i:Nat,m=e.ks.length -i∧(1≤i)∧(i≤e.ks.length)∧σ=[eP 1 (rX e),eB 2 110 7,eB 3 111 7,eN 4 (i:Nat),(.b 110,.b 31 7 [[.d (dI 0),.d (dI 0),nl,.d (dI 0),.d (dS ByteArray.empty),nl,nl]]),eU 110,(.b 112,.b 31 7 (dR ((e.ks.take i).map fun x=>rX x))),eU 112,(.b 111,.b 31 7 [[.d (dI e.k),.d (dI e.n),.d (dIs e.i.1),.d (dI e.i.2),.d (dS e.r.1),.d (dAs e.r.2),.own 112 7 (i)]]),eU 111])) [(110,102),(111,103)] (.inl ⟨0,rfl,rfl,rfl⟩) ⟨kd,kX,kX,kd,kb 102 rfl (.cons (.cons .dt (.cons .dt (.cons .dt (.cons .dt (.cons .dt (.cons .dt (.cons .dt Ctos.nil))))))) .nil),kb 103 rfl (.cons (.cons .dt (.cons .dt (.cons .dt (.cons .dt (.cons .dt (.cons .dt (.cons .dt Ctos.nil))))))) .nil),trivial⟩ ?_
 rintro m σ (⟨i,hm0,rfl,rfl⟩|⟨i,hm0,hi1,hi2,rfl⟩)
 ·skip
  refine .seq<|.r<|.c .m<|.c (.fP 6 0 false)<|.c (.l1 1)<|.c (.ln 31 7 112)<|.c .ls<|.nn ?_
  refine .cD rfl (fun h20=>?_) (fun h20=>?_)
  ·skip
   omega
  ·skip
   have hn:e.ks=[]:=List.eq_nil_of_length_eq_zero (by omega)
   refine .exit<|ks_e<|kl_e<|kb_hit<|ks_n<|.r<|.c (.bN 7)<|.c (.sT 7 true)<|.nn<|.ret ?_
   refine kf_wret [eB 2 100 7,(.b 100,.b 31 7 [[.d (dI e.k),.d (dI e.n),.d (dIs e.i.1),.d (dI e.i.2),.d (dS e.r.1),.d (dAs e.r.2),nl]]),eU 100] (Wk.keep [(100,110)] rfl rfl ⟨kX,kb 110 rfl (.cons (.cons .dt (.cons .dt (.cons .dt (.cons .dt (.cons .dt (.cons .dt (.cons .dt Ctos.nil))))))) .nil),trivial⟩) rfl ?_ nobox
   rfl
 ·skip
  refine .seq<|.r<|.c .m<|.c (.fP 6 0 false)<|.c (.l1 1)<|.c (.ln 31 7 112)<|.c .ls<|.nn ?_
  refine .cD rfl (fun h20=>?_) (fun h20=>?_)
  ·skip
   omega
  ·skip
   omega
theorem l3Copy_nil (s:Stm) (hs:szS s≤1073741824) (h1:0<s.1.2.length) (h0:s.2.ks.length=0):Fn Tryz.prog 31 [] [ad (rS s)] (.o (.agg [.d (dS s.1.1),.own 101 2 s.1.2.length,.d (dI s.2.k),.d (dI s.2.n),.d (dIs s.2.i.1),.d (dI s.2.i.2),.d (dS s.2.r.1),.d (dAs s.2.r.2),.d (.val (.slice none 0 0))])) [(.b 101,.b 28 2 (dR (s.1.2.map rA))),(.u 101,.u)]:=by
 have hs3:=hs
 rw[szS,szC]at hs
 have hl:=szAs_len s.1.2
 have hE:=szE_eq s.2
 have hC:szC s.2.r=s.2.r.1.size+szAs s.2.r.2:=rfl
 have hl2:=szAs_len s.2.r.2
 refine Fn.of_code Tryz.func31 rfl rfl HB.nil rfl rfl HB.nil.data rfl (one_num rfl) ?_
 refine .r<|.c .bp<|.c (.al 102 [.string ByteArray.empty,.slice none 0 0,.int .i64 0,.int .i64 0,.slice none 0 0,.int .i64 0,.string ByteArray.empty,.slice none 0 0,.slice none 0 0])<|.nn<|.seq ?_
 refine ACode.drawK (by kernel_rfl) (by kernel_rfl) ?_
 refine .c (.fP 0 1 true)<|.c (.lN 2) ?_
 refine .c (.cO [.tmp 4] [(101,605)] rfl rfl rfl rfl (l3CopyAcc_own s.1 h1 (by omega) (fun x hx=>by have:=szAs_mem hx;omega)) rfl trivial flatS.nil (flatS.nil.cons rfl) HB.nil.data outS_one) ?_
 refine .c (.fP 2 6 true)<|.c (.lN 7) ?_
 refine .c (.cP [.tmp 7] rfl rfl rfl rfl (l3CopyEx_nil s.2 (by omega) (by omega) (fun x hx=>by have:=szAs_mem hx;omega) (by omega) (fun x hx=>by have:=szEs_mem hx;omega) h0) rfl) ?_
 refine .c (.bu [(0,.tmp 5),(1,.tmp 8)] [(0,2),(2,7)] [.string ByteArray.empty,.slice none 0 0,.int .i64 0,.int .i64 0,.slice none 0 0,.int .i64 0,.string ByteArray.empty,.slice none 0 0,.slice none 0 0])<|.c (.sT 9 true) ?_
 refine .nil ⟨by kernel_rfl,?_⟩
 refine ks_n<|.ret ?_
 refine kf_wret [eB 2 100 9,(.b 101,.b 28 2 (dR (s.1.2.map rA))),eU 101,(.b 100,.b 33 9 [[.d (dS s.1.1),.own 101 2 (s.1.2.length),.d (dI s.2.k),.d (dI s.2.n),.d (dIs s.2.i.1),.d (dI s.2.i.2),.d (dS s.2.r.1),.d (dAs s.2.r.2),nl]]),eU 100] (Wk.keep [(100,102),(101,605)] rfl rfl ⟨kX,kb 605 rfl (.dt rfl),kb 102 rfl (.cons (.cons .dt (.cons .ow (.cons .dt (.cons .dt (.cons .dt (.cons .dt (.cons .dt (.cons .dt (.cons .dt Ctos.nil))))))))) .nil),trivial⟩) rfl ?_ (one_box rfl)
 rfl
theorem l3Copy_own (s:Stm) (hs:szS s≤1073741824) (h1:0<s.1.2.length) (h0:0<s.2.ks.length):Fn Tryz.prog 31 [] [ad (rS s)] (.o (.agg [.d (dS s.1.1),.own 101 2 s.1.2.length,.d (dI s.2.k),.d (dI s.2.n),.d (dIs s.2.i.1),.d (dI s.2.i.2),.d (dS s.2.r.1),.d (dAs s.2.r.2),.own 102 7 s.2.ks.length])) [(.b 101,.b 28 2 (dR (s.1.2.map rA))),(.u 101,.u),(.b 102,.b 31 7 (dR (s.2.ks.map rE))),(.u 102,.u)]:=by
 have hs3:=hs
 rw[szS,szC]at hs
 have hl:=szAs_len s.1.2
 have hE:=szE_eq s.2
 have hC:szC s.2.r=s.2.r.1.size+szAs s.2.r.2:=rfl
 have hl2:=szAs_len s.2.r.2
 refine Fn.of_code Tryz.func31 rfl rfl HB.nil rfl rfl (HB.nil.data).data rfl (two_numT rfl) ?_
 refine .r<|.c .bp<|.c (.al 102 [.string ByteArray.empty,.slice none 0 0,.int .i64 0,.int .i64 0,.slice none 0 0,.int .i64 0,.string ByteArray.empty,.slice none 0 0,.slice none 0 0])<|.nn<|.seq ?_
 refine ACode.drawK (by kernel_rfl) (by kernel_rfl) ?_
 refine .c (.fP 0 1 true)<|.c (.lN 2) ?_
 refine .c (.cO [.tmp 4] [(101,605)] rfl rfl rfl rfl (l3CopyAcc_own s.1 h1 (by omega) (fun x hx=>by have:=szAs_mem hx;omega)) rfl trivial flatS.nil (flatS.nil.cons rfl) HB.nil.data outS_one) ?_
 refine .c (.fP 2 6 true)<|.c (.lN 7) ?_
 refine .c (.cO [.tmp 7] [(101,708)] rfl rfl rfl rfl (l3CopyEx_own s.2 (by omega) (by omega) (fun x hx=>by have:=szAs_mem hx;omega) (by omega) (fun x hx=>by have:=szEs_mem hx;omega) h0) rfl trivial flatS.nil (flatS.nil.cons rfl) HB.nil.data outS_one) ?_
 refine .c (.bu [(0,.tmp 5),(1,.tmp 8)] [(0,2),(2,7)] [.string ByteArray.empty,.slice none 0 0,.int .i64 0,.int .i64 0,.slice none 0 0,.int .i64 0,.string ByteArray.empty,.slice none 0 0,.slice none 0 0])<|.c (.sT 9 true) ?_
 refine .nil ⟨by kernel_rfl,?_⟩
 refine ks_n<|.ret ?_
 refine kf_wret [eB 2 100 9,(.b 101,.b 28 2 (dR (s.1.2.map rA))),eU 101,(.b 102,.b 31 7 (dR (s.2.ks.map rE))),eU 102,(.b 100,.b 33 9 [[.d (dS s.1.1),.own 101 2 (s.1.2.length),.d (dI s.2.k),.d (dI s.2.n),.d (dIs s.2.i.1),.d (dI s.2.i.2),.d (dS s.2.r.1),.d (dAs s.2.r.2),.own 102 7 (s.2.ks.length)]]),eU 100] (Wk.keep [(100,102),(101,605),(102,708)] rfl rfl ⟨kX,kb 605 rfl (.dt rfl),kb 708 rfl (.dt rfl),kb 102 rfl (.cons (.cons .dt (.cons .ow (.cons .dt (.cons .dt (.cons .dt (.cons .dt (.cons .dt (.cons .dt (.cons .ow Ctos.nil))))))))) .nil),trivial⟩) rfl ?_ (two_boxT rfl rfl)
 rfl
def setK (e:Ex) (k:Int):Ex:=.mk k e.n e.i e.r e.ks
def setN (e:Ex) (n:Int):Ex:=.mk e.k n e.i e.r e.ks
def addK (e:Ex) (x:Ex):Ex:=.mk e.k e.n e.i e.r (e.ks++[x])
def mutD (bs:List Int) (p:Nat) (s:Stm):Stm×Nat:=
  if pickV bs p 40=0 then(((ofV bs (p+1) [⟨#[69]⟩,ByteArray.empty,⟨#[65,66]⟩,⟨#[97]⟩],s.1.2),s.2),p+1+1)
  else if pickV bs p 40=1 then(((s.1.1,s.1.2++[varA 3,zA]),s.2),p+1)
  else if pickV bs p 40=2 then((s.1,setK s.2 (numV bs (p+1) [0,7,1,4,2])),p+1+1)
  else if pickV bs p 40=3 then((s.1,setN s.2 (numV bs (p+1) [100, -1,1])),p+1+1)
  else if pickV bs p 40=4 then((s.1,addK s.2 (.mk 1 0 zA0 zC0 [])),p+1)
  else(s,p+1)
theorem mut_nil {bs:List Int} (hb:Bytes bs) {p:Nat} (hp:p≤100000000) (s:Stm) (hs:szS s≤1073741824) (h1:0<s.1.2.length) (h0:s.2.ks.length=0):Fn Tryz.prog 15 (hbR bs p) [vR,ad (rS s)] (.o (ad (rS (mutD bs p s).1))) (hbR bs (mutD bs p s).2):=by
 have hsz:=hs
 rw[szS,szC]at hsz
 have hl:=szAs_len s.1.2
 have hE:=szE_eq s.2
 obtain⟨r,hr⟩:∃r,r=mutD bs p s:=⟨_,rfl⟩
 rw[←hr]
 have hR:=hr
 unfold mutD at hR
 refine Fn.of_code Tryz.func15 rfl rfl (hbR_HB _ _) rfl rfl (hbR_HB _ _) rfl (hbR_num _ _ _) ?_
 refine .r<|.c .bp<|.c (.al 104 [.string ByteArray.empty,.slice none 0 0,.int .i64 0,.int .i64 0,.slice none 0 0,.int .i64 0,.string ByteArray.empty,.slice none 0 0,.slice none 0 0])<|.r<|.c (.lN 9) ?_
 refine .c (.cO [.tmp 6] [(101,107)] rfl rfl rfl rfl (l3Copy_nil s hs h1 h0) rfl trivial flatS.nil (flatS.nil.cons rfl) HB.nil.data outS_one) ?_
 refine .c (.al 105 [.string ByteArray.empty,.slice none 0 0,.int .i64 0,.int .i64 0,.slice none 0 0,.int .i64 0,.string ByteArray.empty,.slice none 0 0,.slice none 0 0])<|.c (.sT 9 true)<|.nn<|.seq<|.r<|.c .m ?_
 refine .c (.cR [.tmp 8,.const (.int .i64 (40))] 0 rfl rfl rfl rfl (pick_fn hb (by omega) 40) rfl ⟨rfl,trivial⟩) ?_
 refine .nn<|.block<|.r<|.c .eq<|.c .a<|.nn ?_
 refine .cD rfl (fun h10=>?_) (fun h10=>?_)
 ·skip
  refine .region<|.c .m<|.c (.li 9 0 3 [.const (.string ⟨#[69]⟩),.const (.string ⟨#[]⟩),.const (.string ⟨#[65,66]⟩),.const (.string ⟨#[97]⟩)]) ?_
  refine .c (.cR [.tmp 12,.tmp 13] 0 rfl rfl rfl rfl (of_fn hb (by omega) [⟨#[69]⟩,ByteArray.empty,⟨#[65,66]⟩,⟨#[97]⟩] (by simp)) rfl ⟨rfl,trivial⟩) ?_
  refine .c (.fB 0 1 true)<|.c (.fB 0 0 false)<|.c (.sT 1 false)<|.nil<|kb_n<|ks_n<|.r<|.c (.bN 9)<|.c (.sT 9 true)<|.nn<|.ret ?_
  first|rw[if_pos h10]at hR|rw[if_neg h10,if_pos h17]at hR|rw[if_neg h10,if_neg h17,if_pos h28]at hR|rw[if_neg h10,if_neg h17,if_neg h28,if_pos h35]at hR|rw[if_neg h10,if_neg h17,if_neg h28,if_neg h35,if_pos h42]at hR|rw[if_neg h10,if_neg h17,if_neg h28,if_neg h35,if_neg h42]at hR
  refine kf_wret [eB 4 100 9,(.b 0,.b 55 2 (dR ([rRd bs r.2]))),eU 0,(.b 100,.b 33 9 [[.d (dS r.1.1.1),.d (dAs r.1.1.2),.d (dI r.1.2.k),.d (dI r.1.2.n),.d (dIs r.1.2.i.1),.d (dI r.1.2.i.2),.d (dS r.1.2.r.1),.d (dAs r.1.2.r.2),.d (dEs r.1.2.ks)]]),eU 100] (Wk.keep [(0,0),(100,104)] rfl rfl ⟨kX,kb 0 rfl (.dt rfl (by first|rfl|(rw[hR];done)|(rw[hR];rfl))),kb 104 rfl (.cons (.cons (.dt (by first|rfl|(rw[hR];done)|(rw[hR];rfl))) (.cons (.fz rfl (by first|(rw[hR];exact(dR_app _ [rA (varA 3),rA zA]).trans (by rw[List.map_append];rfl))|(rw[hR];show _=dR ((s.2.ks++[_]).map rE);rw[List.map_append,rE_one,←dR_app];rfl)|(rw[hR];show _=dR ((s.2.ks++[_]).map rE);rw[List.eq_nil_of_length_eq_zero h0,List.nil_append,rE_one];rfl)|(rw[hR];done)|(rw[hR];rfl)|(rw[hR];simp[dR];done)|(rw[hR];simp[dR];rfl)|(rw[hR];rw[dR_app];simp;done)|(rw[hR];simp[setK,setN];rfl)) (by first|(rw[hR];show _=((s.2.ks++[_]).map rE).length;rw[List.length_map,List.length_append];first|rfl|(rw[h0];rfl))|(rw[hR];rfl)|(rw[hR];simp;done)|(rw[hR];simp;rfl)|(rw[hR];simp[setK,setN,addK,Ex.ks];done)) (by first|omega|(simp;done)|(simp;omega))) (.cons (.dt (by first|rfl|(rw[hR];done)|(rw[hR];rfl))) (.cons (.dt (by first|rfl|(rw[hR];done)|(rw[hR];rfl))) (.cons (.dt (by first|rfl|(rw[hR];done)|(rw[hR];rfl))) (.cons (.dt (by first|rfl|(rw[hR];done)|(rw[hR];rfl))) (.cons (.dt (by first|rfl|(rw[hR];done)|(rw[hR];rfl))) (.cons (.dt (by first|rfl|(rw[hR];done)|(rw[hR];rfl))) (.cons (Cto.nilE 7 (by first|(rw[hR];done)|(rw[hR];rfl)|(rw[hR];show dEs s.2.ks=_;rw[List.eq_nil_of_length_eq_zero h0];rfl))) Ctos.nil))))))))) .nil),trivial⟩) rfl ?_ (hbR_box rfl)
  rfl
 ·skip
  refine .r<|.c .eq<|.c .a<|.nn ?_
  refine .cD rfl (fun h17=>?_) (fun h17=>?_)
  ·skip
   refine ACode.drawK (by kernel_rfl) (by kernel_rfl) ?_
   refine .c (.fB 0 1 true)<|.c (.fB 1 0 false)<|.c (.b1 1) ?_
   refine .c (.cP [.const (.int .i64 (3))] rfl rfl rfl rfl (l1Var_fn 3 (by omega)) rfl) ?_
   refine .c (.cP [] rfl rfl rfl rfl (l1Zero_fn) rfl) ?_
   refine .c (.li 28 1 1 [.tmp 22,.tmp 23]) ?_
   refine .c (St1.appB (k':=125) (e:=28) (sz:=1) (by':=32) rfl rfl rfl rfl rfl (by kernel_rfl) rfl rfl rfl rfl (by simp[dR]) (by simp[dR];omega) rfl rfl rfl) ?_
   refine .c (.fB 0 1 true)<|.c (.fB 1 0 false)<|.c (.sT 1 false) ?_
   refine .nil ⟨by kernel_rfl,?_⟩
   refine kb_n<|ks_n<|.r<|.c (.bN 9)<|.c (.sT 9 true)<|.nn<|.ret ?_
   first|rw[if_pos h10]at hR|rw[if_neg h10,if_pos h17]at hR|rw[if_neg h10,if_neg h17,if_pos h28]at hR|rw[if_neg h10,if_neg h17,if_neg h28,if_pos h35]at hR|rw[if_neg h10,if_neg h17,if_neg h28,if_neg h35,if_pos h42]at hR|rw[if_neg h10,if_neg h17,if_neg h28,if_neg h35,if_neg h42]at hR
   refine kf_wret [eB 4 100 9,(.b 0,.b 55 2 (dR ([rRd bs r.2]))),eU 0,(.b 100,.b 33 9 [[.d (dS r.1.1.1),.d (dAs r.1.1.2),.d (dI r.1.2.k),.d (dI r.1.2.n),.d (dIs r.1.2.i.1),.d (dI r.1.2.i.2),.d (dS r.1.2.r.1),.d (dAs r.1.2.r.2),.d (dEs r.1.2.ks)]]),eU 100] (Wk.keep [(0,0),(100,104)] rfl rfl ⟨kX,kb 0 rfl (.dt rfl (by first|rfl|(rw[hR];done)|(rw[hR];rfl))),kb 104 rfl (.cons (.cons (.dt (by first|rfl|(rw[hR];done)|(rw[hR];rfl))) (.cons (.fz rfl (by first|(rw[hR];exact(dR_app _ [rA (varA 3),rA zA]).trans (by rw[List.map_append];rfl))|(rw[hR];show _=dR ((s.2.ks++[_]).map rE);rw[List.map_append,rE_one,←dR_app];rfl)|(rw[hR];show _=dR ((s.2.ks++[_]).map rE);rw[List.eq_nil_of_length_eq_zero h0,List.nil_append,rE_one];rfl)|(rw[hR];done)|(rw[hR];rfl)|(rw[hR];simp[dR];done)|(rw[hR];simp[dR];rfl)|(rw[hR];rw[dR_app];simp;done)|(rw[hR];simp[setK,setN];rfl)) (by first|(rw[hR];show _=((s.2.ks++[_]).map rE).length;rw[List.length_map,List.length_append];first|rfl|(rw[h0];rfl))|(rw[hR];rfl)|(rw[hR];simp;done)|(rw[hR];simp;rfl)|(rw[hR];simp[setK,setN,addK,Ex.ks];done)) (by first|omega|(simp;done)|(simp;omega))) (.cons (.dt (by first|rfl|(rw[hR];done)|(rw[hR];rfl))) (.cons (.dt (by first|rfl|(rw[hR];done)|(rw[hR];rfl))) (.cons (.dt (by first|rfl|(rw[hR];done)|(rw[hR];rfl))) (.cons (.dt (by first|rfl|(rw[hR];done)|(rw[hR];rfl))) (.cons (.dt (by first|rfl|(rw[hR];done)|(rw[hR];rfl))) (.cons (.dt (by first|rfl|(rw[hR];done)|(rw[hR];rfl))) (.cons (Cto.nilE 7 (by first|(rw[hR];done)|(rw[hR];rfl)|(rw[hR];show dEs s.2.ks=_;rw[List.eq_nil_of_length_eq_zero h0];rfl))) Ctos.nil))))))))) .nil),trivial⟩) rfl ?_ (hbR_box rfl)
   rfl
  ·skip
   refine .r<|.c .eq<|.c .a<|.nn ?_
   refine .cD rfl (fun h28=>?_) (fun h28=>?_)
   ·skip
    refine .region<|.c .m<|.c (.li 3 0 4 [.const (.int .i64 (0)),.const (.int .i64 (7)),.const (.int .i64 (1)),.const (.int .i64 (4)),.const (.int .i64 (2))]) ?_
    refine .c (.cR [.tmp 30,.tmp 31] 0 rfl rfl rfl rfl (num_fn hb (by omega) [0,7,1,4,2] (by simp)) rfl ⟨rfl,trivial⟩) ?_
    refine .c (.fB 2 6 true)<|.c (.fB 0 0 false)<|.c (.sT 1 false)<|.nil<|kb_n<|ks_n<|.r<|.c (.bN 9)<|.c (.sT 9 true)<|.nn<|.ret ?_
    first|rw[if_pos h10]at hR|rw[if_neg h10,if_pos h17]at hR|rw[if_neg h10,if_neg h17,if_pos h28]at hR|rw[if_neg h10,if_neg h17,if_neg h28,if_pos h35]at hR|rw[if_neg h10,if_neg h17,if_neg h28,if_neg h35,if_pos h42]at hR|rw[if_neg h10,if_neg h17,if_neg h28,if_neg h35,if_neg h42]at hR
    refine kf_wret [eB 4 100 9,(.b 0,.b 55 2 (dR ([rRd bs r.2]))),eU 0,(.b 100,.b 33 9 [[.d (dS r.1.1.1),.d (dAs r.1.1.2),.d (dI r.1.2.k),.d (dI r.1.2.n),.d (dIs r.1.2.i.1),.d (dI r.1.2.i.2),.d (dS r.1.2.r.1),.d (dAs r.1.2.r.2),.d (dEs r.1.2.ks)]]),eU 100] (Wk.keep [(0,0),(100,104)] rfl rfl ⟨kX,kb 0 rfl (.dt rfl (by first|rfl|(rw[hR];done)|(rw[hR];rfl))),kb 104 rfl (.cons (.cons (.dt (by first|rfl|(rw[hR];done)|(rw[hR];rfl))) (.cons (.fz rfl (by first|(rw[hR];exact(dR_app _ [rA (varA 3),rA zA]).trans (by rw[List.map_append];rfl))|(rw[hR];show _=dR ((s.2.ks++[_]).map rE);rw[List.map_append,rE_one,←dR_app];rfl)|(rw[hR];show _=dR ((s.2.ks++[_]).map rE);rw[List.eq_nil_of_length_eq_zero h0,List.nil_append,rE_one];rfl)|(rw[hR];done)|(rw[hR];rfl)|(rw[hR];simp[dR];done)|(rw[hR];simp[dR];rfl)|(rw[hR];rw[dR_app];simp;done)|(rw[hR];simp[setK,setN];rfl)) (by first|(rw[hR];show _=((s.2.ks++[_]).map rE).length;rw[List.length_map,List.length_append];first|rfl|(rw[h0];rfl))|(rw[hR];rfl)|(rw[hR];simp;done)|(rw[hR];simp;rfl)|(rw[hR];simp[setK,setN,addK,Ex.ks];done)) (by first|omega|(simp;done)|(simp;omega))) (.cons (.dt (by first|rfl|(rw[hR];done)|(rw[hR];rfl))) (.cons (.dt (by first|rfl|(rw[hR];done)|(rw[hR];rfl))) (.cons (.dt (by first|rfl|(rw[hR];done)|(rw[hR];rfl))) (.cons (.dt (by first|rfl|(rw[hR];done)|(rw[hR];rfl))) (.cons (.dt (by first|rfl|(rw[hR];done)|(rw[hR];rfl))) (.cons (.dt (by first|rfl|(rw[hR];done)|(rw[hR];rfl))) (.cons (Cto.nilE 7 (by first|(rw[hR];done)|(rw[hR];rfl)|(rw[hR];show dEs s.2.ks=_;rw[List.eq_nil_of_length_eq_zero h0];rfl))) Ctos.nil))))))))) .nil),trivial⟩) rfl ?_ (hbR_box rfl)
    rfl
   ·skip
    refine .r<|.c .eq<|.c .a<|.nn ?_
    refine .cD rfl (fun h35=>?_) (fun h35=>?_)
    ·skip
     refine .region<|.c .m<|.c (.li 3 0 2 [.const (.int .i64 (100)),.const (.int .i64 (-1)),.const (.int .i64 (1))]) ?_
     refine .c (.cR [.tmp 37,.tmp 38] 0 rfl rfl rfl rfl (num_fn hb (by omega) [100, -1,1] (by simp)) rfl ⟨rfl,trivial⟩) ?_
     refine .c (.fB 2 6 true)<|.c (.fB 1 0 false)<|.c (.sT 1 false)<|.nil<|kb_n<|ks_n<|.r<|.c (.bN 9)<|.c (.sT 9 true)<|.nn<|.ret ?_
     first|rw[if_pos h10]at hR|rw[if_neg h10,if_pos h17]at hR|rw[if_neg h10,if_neg h17,if_pos h28]at hR|rw[if_neg h10,if_neg h17,if_neg h28,if_pos h35]at hR|rw[if_neg h10,if_neg h17,if_neg h28,if_neg h35,if_pos h42]at hR|rw[if_neg h10,if_neg h17,if_neg h28,if_neg h35,if_neg h42]at hR
     refine kf_wret [eB 4 100 9,(.b 0,.b 55 2 (dR ([rRd bs r.2]))),eU 0,(.b 100,.b 33 9 [[.d (dS r.1.1.1),.d (dAs r.1.1.2),.d (dI r.1.2.k),.d (dI r.1.2.n),.d (dIs r.1.2.i.1),.d (dI r.1.2.i.2),.d (dS r.1.2.r.1),.d (dAs r.1.2.r.2),.d (dEs r.1.2.ks)]]),eU 100] (Wk.keep [(0,0),(100,104)] rfl rfl ⟨kX,kb 0 rfl (.dt rfl (by first|rfl|(rw[hR];done)|(rw[hR];rfl))),kb 104 rfl (.cons (.cons (.dt (by first|rfl|(rw[hR];done)|(rw[hR];rfl))) (.cons (.fz rfl (by first|(rw[hR];exact(dR_app _ [rA (varA 3),rA zA]).trans (by rw[List.map_append];rfl))|(rw[hR];show _=dR ((s.2.ks++[_]).map rE);rw[List.map_append,rE_one,←dR_app];rfl)|(rw[hR];show _=dR ((s.2.ks++[_]).map rE);rw[List.eq_nil_of_length_eq_zero h0,List.nil_append,rE_one];rfl)|(rw[hR];done)|(rw[hR];rfl)|(rw[hR];simp[dR];done)|(rw[hR];simp[dR];rfl)|(rw[hR];rw[dR_app];simp;done)|(rw[hR];simp[setK,setN];rfl)) (by first|(rw[hR];show _=((s.2.ks++[_]).map rE).length;rw[List.length_map,List.length_append];first|rfl|(rw[h0];rfl))|(rw[hR];rfl)|(rw[hR];simp;done)|(rw[hR];simp;rfl)|(rw[hR];simp[setK,setN,addK,Ex.ks];done)) (by first|omega|(simp;done)|(simp;omega))) (.cons (.dt (by first|rfl|(rw[hR];done)|(rw[hR];rfl))) (.cons (.dt (by first|rfl|(rw[hR];done)|(rw[hR];rfl))) (.cons (.dt (by first|rfl|(rw[hR];done)|(rw[hR];rfl))) (.cons (.dt (by first|rfl|(rw[hR];done)|(rw[hR];rfl))) (.cons (.dt (by first|rfl|(rw[hR];done)|(rw[hR];rfl))) (.cons (.dt (by first|rfl|(rw[hR];done)|(rw[hR];rfl))) (.cons (Cto.nilE 7 (by first|(rw[hR];done)|(rw[hR];rfl)|(rw[hR];show dEs s.2.ks=_;rw[List.eq_nil_of_length_eq_zero h0];rfl))) Ctos.nil))))))))) .nil),trivial⟩) rfl ?_ (hbR_box rfl)
     rfl
    ·skip
     refine .r<|.c .eq<|.c .a<|.nn ?_
     refine .cD rfl (fun h42=>?_) (fun h42=>?_)
     ·skip
      refine .region<|.c (.fB 2 6 true)<|.c (.fB 6 0 false)<|.c (.b1 1) ?_
      refine .c (.buZ [(0,.const (.int .i64 (1)))] [(0,1),(1,1),(2,2),(4,2),(6,1)] [.int .i64 0,.int .i64 0,.slice none 0 0,.int .i64 0,.string ByteArray.empty,.slice none 0 0,.slice none 0 0] [dI 0,dI 0,.list 1 [],dI 0,dS ByteArray.empty,.list 2 [],.list 7 []] rfl rfl (.val rfl (.val rfl (.list _ (.val rfl (.val rfl (.list _ (.list _ ZR.nil))))))) rfl rfl)<|.c (.li 31 6 0 [.tmp 47]) ?_
      refine .c (St1.appN (k':=149) (e:=31) (sz:=6) (by':=112) rfl rfl rfl rfl rfl (by kernel_rfl) rfl rfl rfl (by simp) (by simp) rfl rfl) ?_
      refine .c (.fB 2 6 true)<|.c (.fB 6 0 false)<|.c (.sT 1 false)<|.nil<|kb_n<|ks_n<|.r<|.c (.bN 9)<|.c (.sT 9 true)<|.nn<|.ret ?_
      first|rw[if_pos h10]at hR|rw[if_neg h10,if_pos h17]at hR|rw[if_neg h10,if_neg h17,if_pos h28]at hR|rw[if_neg h10,if_neg h17,if_neg h28,if_pos h35]at hR|rw[if_neg h10,if_neg h17,if_neg h28,if_neg h35,if_pos h42]at hR|rw[if_neg h10,if_neg h17,if_neg h28,if_neg h35,if_neg h42]at hR
      refine kf_wret [eB 4 100 9,(.b 0,.b 55 2 (dR ([rRd bs r.2]))),eU 0,(.b 100,.b 33 9 [[.d (dS r.1.1.1),.d (dAs r.1.1.2),.d (dI r.1.2.k),.d (dI r.1.2.n),.d (dIs r.1.2.i.1),.d (dI r.1.2.i.2),.d (dS r.1.2.r.1),.d (dAs r.1.2.r.2),.d (dEs r.1.2.ks)]]),eU 100] (Wk.keep [(0,0),(100,104)] rfl rfl ⟨kX,kb 0 rfl (.dt rfl (by first|rfl|(rw[hR];done)|(rw[hR];rfl))),kb 104 rfl (.cons (.cons (.dt (by first|rfl|(rw[hR];done)|(rw[hR];rfl))) (.cons (.fz rfl (by first|(rw[hR];exact(dR_app _ [rA (varA 3),rA zA]).trans (by rw[List.map_append];rfl))|(rw[hR];show _=dR ((s.2.ks++[_]).map rE);rw[List.map_append,rE_one,←dR_app];rfl)|(rw[hR];show _=dR ((s.2.ks++[_]).map rE);rw[List.eq_nil_of_length_eq_zero h0,List.nil_append,rE_one];rfl)|(rw[hR];done)|(rw[hR];rfl)|(rw[hR];simp[dR];done)|(rw[hR];simp[dR];rfl)|(rw[hR];rw[dR_app];simp;done)|(rw[hR];simp[setK,setN];rfl)) (by first|(rw[hR];show _=((s.2.ks++[_]).map rE).length;rw[List.length_map,List.length_append];first|rfl|(rw[h0];rfl))|(rw[hR];rfl)|(rw[hR];simp;done)|(rw[hR];simp;rfl)|(rw[hR];simp[setK,setN,addK,Ex.ks];done)) (by first|omega|(simp;done)|(simp;omega))) (.cons (.dt (by first|rfl|(rw[hR];done)|(rw[hR];rfl))) (.cons (.dt (by first|rfl|(rw[hR];done)|(rw[hR];rfl))) (.cons (.dt (by first|rfl|(rw[hR];done)|(rw[hR];rfl))) (.cons (.dt (by first|rfl|(rw[hR];done)|(rw[hR];rfl))) (.cons (.dt (by first|rfl|(rw[hR];done)|(rw[hR];rfl))) (.cons (.dt (by first|rfl|(rw[hR];done)|(rw[hR];rfl))) (.cons (.fz rfl (by first|(rw[hR];exact(dR_app _ [rA (varA 3),rA zA]).trans (by rw[List.map_append];rfl))|(rw[hR];show _=dR ((s.2.ks++[_]).map rE);rw[List.map_append,rE_one,←dR_app];rfl)|(rw[hR];show _=dR ((s.2.ks++[_]).map rE);rw[List.eq_nil_of_length_eq_zero h0,List.nil_append,rE_one];rfl)|(rw[hR];done)|(rw[hR];rfl)|(rw[hR];simp[dR];done)|(rw[hR];simp[dR];rfl)|(rw[hR];rw[dR_app];simp;done)|(rw[hR];simp[setK,setN];rfl)) (by first|(rw[hR];show _=((s.2.ks++[_]).map rE).length;rw[List.length_map,List.length_append];first|rfl|(rw[h0];rfl))|(rw[hR];rfl)|(rw[hR];simp;done)|(rw[hR];simp;rfl)|(rw[hR];simp[setK,setN,addK,Ex.ks];done)) (by first|omega|(simp;done)|(simp;omega))) Ctos.nil))))))))) .nil),trivial⟩) rfl ?_ (hbR_box rfl)
      rfl
     ·skip
      refine .skip<|kb_n<|ks_n<|.r<|.c (.bN 9)<|.c (.sT 9 true)<|.nn<|.ret ?_
      first|rw[if_pos h10]at hR|rw[if_neg h10,if_pos h17]at hR|rw[if_neg h10,if_neg h17,if_pos h28]at hR|rw[if_neg h10,if_neg h17,if_neg h28,if_pos h35]at hR|rw[if_neg h10,if_neg h17,if_neg h28,if_neg h35,if_pos h42]at hR|rw[if_neg h10,if_neg h17,if_neg h28,if_neg h35,if_neg h42]at hR
      refine kf_wret [eB 4 100 9,(.b 0,.b 55 2 (dR ([rRd bs r.2]))),eU 0,(.b 100,.b 33 9 [[.d (dS r.1.1.1),.d (dAs r.1.1.2),.d (dI r.1.2.k),.d (dI r.1.2.n),.d (dIs r.1.2.i.1),.d (dI r.1.2.i.2),.d (dS r.1.2.r.1),.d (dAs r.1.2.r.2),.d (dEs r.1.2.ks)]]),eU 100] (Wk.keep [(0,0),(100,104)] rfl rfl ⟨kX,kb 0 rfl (.dt rfl (by first|rfl|(rw[hR];done)|(rw[hR];rfl))),kb 104 rfl (.cons (.cons (.dt (by first|rfl|(rw[hR];done)|(rw[hR];rfl))) (.cons (.fz rfl (by first|(rw[hR];exact(dR_app _ [rA (varA 3),rA zA]).trans (by rw[List.map_append];rfl))|(rw[hR];show _=dR ((s.2.ks++[_]).map rE);rw[List.map_append,rE_one,←dR_app];rfl)|(rw[hR];show _=dR ((s.2.ks++[_]).map rE);rw[List.eq_nil_of_length_eq_zero h0,List.nil_append,rE_one];rfl)|(rw[hR];done)|(rw[hR];rfl)|(rw[hR];simp[dR];done)|(rw[hR];simp[dR];rfl)|(rw[hR];rw[dR_app];simp;done)|(rw[hR];simp[setK,setN];rfl)) (by first|(rw[hR];show _=((s.2.ks++[_]).map rE).length;rw[List.length_map,List.length_append];first|rfl|(rw[h0];rfl))|(rw[hR];rfl)|(rw[hR];simp;done)|(rw[hR];simp;rfl)|(rw[hR];simp[setK,setN,addK,Ex.ks];done)) (by first|omega|(simp;done)|(simp;omega))) (.cons (.dt (by first|rfl|(rw[hR];done)|(rw[hR];rfl))) (.cons (.dt (by first|rfl|(rw[hR];done)|(rw[hR];rfl))) (.cons (.dt (by first|rfl|(rw[hR];done)|(rw[hR];rfl))) (.cons (.dt (by first|rfl|(rw[hR];done)|(rw[hR];rfl))) (.cons (.dt (by first|rfl|(rw[hR];done)|(rw[hR];rfl))) (.cons (.dt (by first|rfl|(rw[hR];done)|(rw[hR];rfl))) (.cons (Cto.nilE 7 (by first|(rw[hR];done)|(rw[hR];rfl)|(rw[hR];show dEs s.2.ks=_;rw[List.eq_nil_of_length_eq_zero h0];rfl))) Ctos.nil))))))))) .nil),trivial⟩) rfl ?_ (hbR_box rfl)
      rfl
theorem mut_own {bs:List Int} (hb:Bytes bs) {p:Nat} (hp:p≤100000000) (s:Stm) (hs:szS s≤1073741824) (h1:0<s.1.2.length) (h0:0<s.2.ks.length):Fn Tryz.prog 15 (hbR bs p) [vR,ad (rS s)] (.o (ad (rS (mutD bs p s).1))) (hbR bs (mutD bs p s).2):=by
 have hsz:=hs
 rw[szS,szC]at hsz
 have hl:=szAs_len s.1.2
 have hE:=szE_eq s.2
 obtain⟨r,hr⟩:∃r,r=mutD bs p s:=⟨_,rfl⟩
 rw[←hr]
 have hR:=hr
 unfold mutD at hR
 refine Fn.of_code Tryz.func15 rfl rfl (hbR_HB _ _) rfl rfl (hbR_HB _ _) rfl (hbR_num _ _ _) ?_
 refine .r<|.c .bp<|.c (.al 104 [.string ByteArray.empty,.slice none 0 0,.int .i64 0,.int .i64 0,.slice none 0 0,.int .i64 0,.string ByteArray.empty,.slice none 0 0,.slice none 0 0])<|.r<|.c (.lN 9) ?_
 refine .c (.cO [.tmp 6] [(101,107),(102,607)] rfl rfl rfl rfl (l3Copy_own s hs h1 h0) rfl trivial flatS.nil ((flatS.nil.cons rfl).cons rfl) (HB.nil.data).data outS_two) ?_
 refine .c (.al 105 [.string ByteArray.empty,.slice none 0 0,.int .i64 0,.int .i64 0,.slice none 0 0,.int .i64 0,.string ByteArray.empty,.slice none 0 0,.slice none 0 0])<|.c (.sT 9 true)<|.nn<|.seq<|.r<|.c .m ?_
 refine .c (.cR [.tmp 8,.const (.int .i64 (40))] 0 rfl rfl rfl rfl (pick_fn hb (by omega) 40) rfl ⟨rfl,trivial⟩) ?_
 refine .nn<|.block<|.r<|.c .eq<|.c .a<|.nn ?_
 refine .cD rfl (fun h10=>?_) (fun h10=>?_)
 ·skip
  refine .region<|.c .m<|.c (.li 9 0 3 [.const (.string ⟨#[69]⟩),.const (.string ⟨#[]⟩),.const (.string ⟨#[65,66]⟩),.const (.string ⟨#[97]⟩)]) ?_
  refine .c (.cR [.tmp 12,.tmp 13] 0 rfl rfl rfl rfl (of_fn hb (by omega) [⟨#[69]⟩,ByteArray.empty,⟨#[65,66]⟩,⟨#[97]⟩] (by simp)) rfl ⟨rfl,trivial⟩) ?_
  refine .c (.fB 0 1 true)<|.c (.fB 0 0 false)<|.c (.sT 1 false)<|.nil<|kb_n<|ks_n<|.r<|.c (.bN 9)<|.c (.sT 9 true)<|.nn<|.ret ?_
  first|rw[if_pos h10]at hR|rw[if_neg h10,if_pos h17]at hR|rw[if_neg h10,if_neg h17,if_pos h28]at hR|rw[if_neg h10,if_neg h17,if_neg h28,if_pos h35]at hR|rw[if_neg h10,if_neg h17,if_neg h28,if_neg h35,if_pos h42]at hR|rw[if_neg h10,if_neg h17,if_neg h28,if_neg h35,if_neg h42]at hR
  refine kf_wret [eB 4 100 9,(.b 0,.b 55 2 (dR ([rRd bs r.2]))),eU 0,(.b 100,.b 33 9 [[.d (dS r.1.1.1),.d (dAs r.1.1.2),.d (dI r.1.2.k),.d (dI r.1.2.n),.d (dIs r.1.2.i.1),.d (dI r.1.2.i.2),.d (dS r.1.2.r.1),.d (dAs r.1.2.r.2),.d (dEs r.1.2.ks)]]),eU 100] (Wk.keep [(0,0),(100,104)] rfl rfl ⟨kX,kb 0 rfl (.dt rfl (by first|rfl|(rw[hR];done)|(rw[hR];rfl))),kb 104 rfl (.cons (.cons (.dt (by first|rfl|(rw[hR];done)|(rw[hR];rfl))) (.cons (.fz rfl (by first|(rw[hR];exact(dR_app _ [rA (varA 3),rA zA]).trans (by rw[List.map_append];rfl))|(rw[hR];show _=dR ((s.2.ks++[_]).map rE);rw[List.map_append,rE_one,←dR_app];rfl)|(rw[hR];show _=dR ((s.2.ks++[_]).map rE);rw[List.eq_nil_of_length_eq_zero h0,List.nil_append,rE_one];rfl)|(rw[hR];done)|(rw[hR];rfl)|(rw[hR];simp[dR];done)|(rw[hR];simp[dR];rfl)|(rw[hR];rw[dR_app];simp;done)|(rw[hR];simp[setK,setN];rfl)) (by first|(rw[hR];show _=((s.2.ks++[_]).map rE).length;rw[List.length_map,List.length_append];first|rfl|(rw[h0];rfl))|(rw[hR];rfl)|(rw[hR];simp;done)|(rw[hR];simp;rfl)|(rw[hR];simp[setK,setN,addK,Ex.ks];done)) (by first|omega|(simp;done)|(simp;omega))) (.cons (.dt (by first|rfl|(rw[hR];done)|(rw[hR];rfl))) (.cons (.dt (by first|rfl|(rw[hR];done)|(rw[hR];rfl))) (.cons (.dt (by first|rfl|(rw[hR];done)|(rw[hR];rfl))) (.cons (.dt (by first|rfl|(rw[hR];done)|(rw[hR];rfl))) (.cons (.dt (by first|rfl|(rw[hR];done)|(rw[hR];rfl))) (.cons (.dt (by first|rfl|(rw[hR];done)|(rw[hR];rfl))) (.cons (.fz rfl (by first|(rw[hR];exact(dR_app _ [rA (varA 3),rA zA]).trans (by rw[List.map_append];rfl))|(rw[hR];show _=dR ((s.2.ks++[_]).map rE);rw[List.map_append,rE_one,←dR_app];rfl)|(rw[hR];show _=dR ((s.2.ks++[_]).map rE);rw[List.eq_nil_of_length_eq_zero h0,List.nil_append,rE_one];rfl)|(rw[hR];done)|(rw[hR];rfl)|(rw[hR];simp[dR];done)|(rw[hR];simp[dR];rfl)|(rw[hR];rw[dR_app];simp;done)|(rw[hR];simp[setK,setN];rfl)) (by first|(rw[hR];show _=((s.2.ks++[_]).map rE).length;rw[List.length_map,List.length_append];first|rfl|(rw[h0];rfl))|(rw[hR];rfl)|(rw[hR];simp;done)|(rw[hR];simp;rfl)|(rw[hR];simp[setK,setN,addK,Ex.ks];done)) (by first|omega|(simp;done)|(simp;omega))) Ctos.nil))))))))) .nil),trivial⟩) rfl ?_ (hbR_box rfl)
  rfl
 ·skip
  refine .r<|.c .eq<|.c .a<|.nn ?_
  refine .cD rfl (fun h17=>?_) (fun h17=>?_)
  ·skip
   refine ACode.drawK (by kernel_rfl) (by kernel_rfl) ?_
   refine .c (.fB 0 1 true)<|.c (.fB 1 0 false)<|.c (.b1 1) ?_
   refine .c (.cP [.const (.int .i64 (3))] rfl rfl rfl rfl (l1Var_fn 3 (by omega)) rfl) ?_
   refine .c (.cP [] rfl rfl rfl rfl (l1Zero_fn) rfl) ?_
   refine .c (.li 28 1 1 [.tmp 22,.tmp 23]) ?_
   refine .c (St1.appB (k':=125) (e:=28) (sz:=1) (by':=32) rfl rfl rfl rfl rfl (by kernel_rfl) rfl rfl rfl rfl (by simp[dR]) (by simp[dR];omega) rfl rfl rfl) ?_
   refine .c (.fB 0 1 true)<|.c (.fB 1 0 false)<|.c (.sT 1 false) ?_
   refine .nil ⟨by kernel_rfl,?_⟩
   refine kb_n<|ks_n<|.r<|.c (.bN 9)<|.c (.sT 9 true)<|.nn<|.ret ?_
   first|rw[if_pos h10]at hR|rw[if_neg h10,if_pos h17]at hR|rw[if_neg h10,if_neg h17,if_pos h28]at hR|rw[if_neg h10,if_neg h17,if_neg h28,if_pos h35]at hR|rw[if_neg h10,if_neg h17,if_neg h28,if_neg h35,if_pos h42]at hR|rw[if_neg h10,if_neg h17,if_neg h28,if_neg h35,if_neg h42]at hR
   refine kf_wret [eB 4 100 9,(.b 0,.b 55 2 (dR ([rRd bs r.2]))),eU 0,(.b 100,.b 33 9 [[.d (dS r.1.1.1),.d (dAs r.1.1.2),.d (dI r.1.2.k),.d (dI r.1.2.n),.d (dIs r.1.2.i.1),.d (dI r.1.2.i.2),.d (dS r.1.2.r.1),.d (dAs r.1.2.r.2),.d (dEs r.1.2.ks)]]),eU 100] (Wk.keep [(0,0),(100,104)] rfl rfl ⟨kX,kb 0 rfl (.dt rfl (by first|rfl|(rw[hR];done)|(rw[hR];rfl))),kb 104 rfl (.cons (.cons (.dt (by first|rfl|(rw[hR];done)|(rw[hR];rfl))) (.cons (.fz rfl (by first|(rw[hR];exact(dR_app _ [rA (varA 3),rA zA]).trans (by rw[List.map_append];rfl))|(rw[hR];show _=dR ((s.2.ks++[_]).map rE);rw[List.map_append,rE_one,←dR_app];rfl)|(rw[hR];show _=dR ((s.2.ks++[_]).map rE);rw[List.eq_nil_of_length_eq_zero h0,List.nil_append,rE_one];rfl)|(rw[hR];done)|(rw[hR];rfl)|(rw[hR];simp[dR];done)|(rw[hR];simp[dR];rfl)|(rw[hR];rw[dR_app];simp;done)|(rw[hR];simp[setK,setN];rfl)) (by first|(rw[hR];show _=((s.2.ks++[_]).map rE).length;rw[List.length_map,List.length_append];first|rfl|(rw[h0];rfl))|(rw[hR];rfl)|(rw[hR];simp;done)|(rw[hR];simp;rfl)|(rw[hR];simp[setK,setN,addK,Ex.ks];done)) (by first|omega|(simp;done)|(simp;omega))) (.cons (.dt (by first|rfl|(rw[hR];done)|(rw[hR];rfl))) (.cons (.dt (by first|rfl|(rw[hR];done)|(rw[hR];rfl))) (.cons (.dt (by first|rfl|(rw[hR];done)|(rw[hR];rfl))) (.cons (.dt (by first|rfl|(rw[hR];done)|(rw[hR];rfl))) (.cons (.dt (by first|rfl|(rw[hR];done)|(rw[hR];rfl))) (.cons (.dt (by first|rfl|(rw[hR];done)|(rw[hR];rfl))) (.cons (.fz rfl (by first|(rw[hR];exact(dR_app _ [rA (varA 3),rA zA]).trans (by rw[List.map_append];rfl))|(rw[hR];show _=dR ((s.2.ks++[_]).map rE);rw[List.map_append,rE_one,←dR_app];rfl)|(rw[hR];show _=dR ((s.2.ks++[_]).map rE);rw[List.eq_nil_of_length_eq_zero h0,List.nil_append,rE_one];rfl)|(rw[hR];done)|(rw[hR];rfl)|(rw[hR];simp[dR];done)|(rw[hR];simp[dR];rfl)|(rw[hR];rw[dR_app];simp;done)|(rw[hR];simp[setK,setN];rfl)) (by first|(rw[hR];show _=((s.2.ks++[_]).map rE).length;rw[List.length_map,List.length_append];first|rfl|(rw[h0];rfl))|(rw[hR];rfl)|(rw[hR];simp;done)|(rw[hR];simp;rfl)|(rw[hR];simp[setK,setN,addK,Ex.ks];done)) (by first|omega|(simp;done)|(simp;omega))) Ctos.nil))))))))) .nil),trivial⟩) rfl ?_ (hbR_box rfl)
   rfl
  ·skip
   refine .r<|.c .eq<|.c .a<|.nn ?_
   refine .cD rfl (fun h28=>?_) (fun h28=>?_)
   ·skip
    refine .region<|.c .m<|.c (.li 3 0 4 [.const (.int .i64 (0)),.const (.int .i64 (7)),.const (.int .i64 (1)),.const (.int .i64 (4)),.const (.int .i64 (2))]) ?_
    refine .c (.cR [.tmp 30,.tmp 31] 0 rfl rfl rfl rfl (num_fn hb (by omega) [0,7,1,4,2] (by simp)) rfl ⟨rfl,trivial⟩) ?_
    refine .c (.fB 2 6 true)<|.c (.fB 0 0 false)<|.c (.sT 1 false)<|.nil<|kb_n<|ks_n<|.r<|.c (.bN 9)<|.c (.sT 9 true)<|.nn<|.ret ?_
    first|rw[if_pos h10]at hR|rw[if_neg h10,if_pos h17]at hR|rw[if_neg h10,if_neg h17,if_pos h28]at hR|rw[if_neg h10,if_neg h17,if_neg h28,if_pos h35]at hR|rw[if_neg h10,if_neg h17,if_neg h28,if_neg h35,if_pos h42]at hR|rw[if_neg h10,if_neg h17,if_neg h28,if_neg h35,if_neg h42]at hR
    refine kf_wret [eB 4 100 9,(.b 0,.b 55 2 (dR ([rRd bs r.2]))),eU 0,(.b 100,.b 33 9 [[.d (dS r.1.1.1),.d (dAs r.1.1.2),.d (dI r.1.2.k),.d (dI r.1.2.n),.d (dIs r.1.2.i.1),.d (dI r.1.2.i.2),.d (dS r.1.2.r.1),.d (dAs r.1.2.r.2),.d (dEs r.1.2.ks)]]),eU 100] (Wk.keep [(0,0),(100,104)] rfl rfl ⟨kX,kb 0 rfl (.dt rfl (by first|rfl|(rw[hR];done)|(rw[hR];rfl))),kb 104 rfl (.cons (.cons (.dt (by first|rfl|(rw[hR];done)|(rw[hR];rfl))) (.cons (.fz rfl (by first|(rw[hR];exact(dR_app _ [rA (varA 3),rA zA]).trans (by rw[List.map_append];rfl))|(rw[hR];show _=dR ((s.2.ks++[_]).map rE);rw[List.map_append,rE_one,←dR_app];rfl)|(rw[hR];show _=dR ((s.2.ks++[_]).map rE);rw[List.eq_nil_of_length_eq_zero h0,List.nil_append,rE_one];rfl)|(rw[hR];done)|(rw[hR];rfl)|(rw[hR];simp[dR];done)|(rw[hR];simp[dR];rfl)|(rw[hR];rw[dR_app];simp;done)|(rw[hR];simp[setK,setN];rfl)) (by first|(rw[hR];show _=((s.2.ks++[_]).map rE).length;rw[List.length_map,List.length_append];first|rfl|(rw[h0];rfl))|(rw[hR];rfl)|(rw[hR];simp;done)|(rw[hR];simp;rfl)|(rw[hR];simp[setK,setN,addK,Ex.ks];done)) (by first|omega|(simp;done)|(simp;omega))) (.cons (.dt (by first|rfl|(rw[hR];done)|(rw[hR];rfl))) (.cons (.dt (by first|rfl|(rw[hR];done)|(rw[hR];rfl))) (.cons (.dt (by first|rfl|(rw[hR];done)|(rw[hR];rfl))) (.cons (.dt (by first|rfl|(rw[hR];done)|(rw[hR];rfl))) (.cons (.dt (by first|rfl|(rw[hR];done)|(rw[hR];rfl))) (.cons (.dt (by first|rfl|(rw[hR];done)|(rw[hR];rfl))) (.cons (.fz rfl (by first|(rw[hR];exact(dR_app _ [rA (varA 3),rA zA]).trans (by rw[List.map_append];rfl))|(rw[hR];show _=dR ((s.2.ks++[_]).map rE);rw[List.map_append,rE_one,←dR_app];rfl)|(rw[hR];show _=dR ((s.2.ks++[_]).map rE);rw[List.eq_nil_of_length_eq_zero h0,List.nil_append,rE_one];rfl)|(rw[hR];done)|(rw[hR];rfl)|(rw[hR];simp[dR];done)|(rw[hR];simp[dR];rfl)|(rw[hR];rw[dR_app];simp;done)|(rw[hR];simp[setK,setN];rfl)) (by first|(rw[hR];show _=((s.2.ks++[_]).map rE).length;rw[List.length_map,List.length_append];first|rfl|(rw[h0];rfl))|(rw[hR];rfl)|(rw[hR];simp;done)|(rw[hR];simp;rfl)|(rw[hR];simp[setK,setN,addK,Ex.ks];done)) (by first|omega|(simp;done)|(simp;omega))) Ctos.nil))))))))) .nil),trivial⟩) rfl ?_ (hbR_box rfl)
    rfl
   ·skip
    refine .r<|.c .eq<|.c .a<|.nn ?_
    refine .cD rfl (fun h35=>?_) (fun h35=>?_)
    ·skip
     refine .region<|.c .m<|.c (.li 3 0 2 [.const (.int .i64 (100)),.const (.int .i64 (-1)),.const (.int .i64 (1))]) ?_
     refine .c (.cR [.tmp 37,.tmp 38] 0 rfl rfl rfl rfl (num_fn hb (by omega) [100, -1,1] (by simp)) rfl ⟨rfl,trivial⟩) ?_
     refine .c (.fB 2 6 true)<|.c (.fB 1 0 false)<|.c (.sT 1 false)<|.nil<|kb_n<|ks_n<|.r<|.c (.bN 9)<|.c (.sT 9 true)<|.nn<|.ret ?_
     first|rw[if_pos h10]at hR|rw[if_neg h10,if_pos h17]at hR|rw[if_neg h10,if_neg h17,if_pos h28]at hR|rw[if_neg h10,if_neg h17,if_neg h28,if_pos h35]at hR|rw[if_neg h10,if_neg h17,if_neg h28,if_neg h35,if_pos h42]at hR|rw[if_neg h10,if_neg h17,if_neg h28,if_neg h35,if_neg h42]at hR
     refine kf_wret [eB 4 100 9,(.b 0,.b 55 2 (dR ([rRd bs r.2]))),eU 0,(.b 100,.b 33 9 [[.d (dS r.1.1.1),.d (dAs r.1.1.2),.d (dI r.1.2.k),.d (dI r.1.2.n),.d (dIs r.1.2.i.1),.d (dI r.1.2.i.2),.d (dS r.1.2.r.1),.d (dAs r.1.2.r.2),.d (dEs r.1.2.ks)]]),eU 100] (Wk.keep [(0,0),(100,104)] rfl rfl ⟨kX,kb 0 rfl (.dt rfl (by first|rfl|(rw[hR];done)|(rw[hR];rfl))),kb 104 rfl (.cons (.cons (.dt (by first|rfl|(rw[hR];done)|(rw[hR];rfl))) (.cons (.fz rfl (by first|(rw[hR];exact(dR_app _ [rA (varA 3),rA zA]).trans (by rw[List.map_append];rfl))|(rw[hR];show _=dR ((s.2.ks++[_]).map rE);rw[List.map_append,rE_one,←dR_app];rfl)|(rw[hR];show _=dR ((s.2.ks++[_]).map rE);rw[List.eq_nil_of_length_eq_zero h0,List.nil_append,rE_one];rfl)|(rw[hR];done)|(rw[hR];rfl)|(rw[hR];simp[dR];done)|(rw[hR];simp[dR];rfl)|(rw[hR];rw[dR_app];simp;done)|(rw[hR];simp[setK,setN];rfl)) (by first|(rw[hR];show _=((s.2.ks++[_]).map rE).length;rw[List.length_map,List.length_append];first|rfl|(rw[h0];rfl))|(rw[hR];rfl)|(rw[hR];simp;done)|(rw[hR];simp;rfl)|(rw[hR];simp[setK,setN,addK,Ex.ks];done)) (by first|omega|(simp;done)|(simp;omega))) (.cons (.dt (by first|rfl|(rw[hR];done)|(rw[hR];rfl))) (.cons (.dt (by first|rfl|(rw[hR];done)|(rw[hR];rfl))) (.cons (.dt (by first|rfl|(rw[hR];done)|(rw[hR];rfl))) (.cons (.dt (by first|rfl|(rw[hR];done)|(rw[hR];rfl))) (.cons (.dt (by first|rfl|(rw[hR];done)|(rw[hR];rfl))) (.cons (.dt (by first|rfl|(rw[hR];done)|(rw[hR];rfl))) (.cons (.fz rfl (by first|(rw[hR];exact(dR_app _ [rA (varA 3),rA zA]).trans (by rw[List.map_append];rfl))|(rw[hR];show _=dR ((s.2.ks++[_]).map rE);rw[List.map_append,rE_one,←dR_app];rfl)|(rw[hR];show _=dR ((s.2.ks++[_]).map rE);rw[List.eq_nil_of_length_eq_zero h0,List.nil_append,rE_one];rfl)|(rw[hR];done)|(rw[hR];rfl)|(rw[hR];simp[dR];done)|(rw[hR];simp[dR];rfl)|(rw[hR];rw[dR_app];simp;done)|(rw[hR];simp[setK,setN];rfl)) (by first|(rw[hR];show _=((s.2.ks++[_]).map rE).length;rw[List.length_map,List.length_append];first|rfl|(rw[h0];rfl))|(rw[hR];rfl)|(rw[hR];simp;done)|(rw[hR];simp;rfl)|(rw[hR];simp[setK,setN,addK,Ex.ks];done)) (by first|omega|(simp;done)|(simp;omega))) Ctos.nil))))))))) .nil),trivial⟩) rfl ?_ (hbR_box rfl)
     rfl
    ·skip
     refine .r<|.c .eq<|.c .a<|.nn ?_
     refine .cD rfl (fun h42=>?_) (fun h42=>?_)
     ·skip
      refine .region<|.c (.fB 2 6 true)<|.c (.fB 6 0 false)<|.c (.b1 1) ?_
      refine .c (.buZ [(0,.const (.int .i64 (1)))] [(0,1),(1,1),(2,2),(4,2),(6,1)] [.int .i64 0,.int .i64 0,.slice none 0 0,.int .i64 0,.string ByteArray.empty,.slice none 0 0,.slice none 0 0] [dI 0,dI 0,.list 1 [],dI 0,dS ByteArray.empty,.list 2 [],.list 7 []] rfl rfl (.val rfl (.val rfl (.list _ (.val rfl (.val rfl (.list _ (.list _ ZR.nil))))))) rfl rfl)<|.c (.li 31 6 0 [.tmp 47]) ?_
      refine .c (St1.appB (k':=149) (e:=31) (sz:=6) (by':=112) rfl rfl rfl rfl rfl (by kernel_rfl) rfl rfl rfl rfl (by simp[dR]) (by simp[dR];omega) rfl rfl rfl) ?_
      refine .c (.fB 2 6 true)<|.c (.fB 6 0 false)<|.c (.sT 1 false)<|.nil<|kb_n<|ks_n<|.r<|.c (.bN 9)<|.c (.sT 9 true)<|.nn<|.ret ?_
      first|rw[if_pos h10]at hR|rw[if_neg h10,if_pos h17]at hR|rw[if_neg h10,if_neg h17,if_pos h28]at hR|rw[if_neg h10,if_neg h17,if_neg h28,if_pos h35]at hR|rw[if_neg h10,if_neg h17,if_neg h28,if_neg h35,if_pos h42]at hR|rw[if_neg h10,if_neg h17,if_neg h28,if_neg h35,if_neg h42]at hR
      refine kf_wret [eB 4 100 9,(.b 0,.b 55 2 (dR ([rRd bs r.2]))),eU 0,(.b 100,.b 33 9 [[.d (dS r.1.1.1),.d (dAs r.1.1.2),.d (dI r.1.2.k),.d (dI r.1.2.n),.d (dIs r.1.2.i.1),.d (dI r.1.2.i.2),.d (dS r.1.2.r.1),.d (dAs r.1.2.r.2),.d (dEs r.1.2.ks)]]),eU 100] (Wk.keep [(0,0),(100,104)] rfl rfl ⟨kX,kb 0 rfl (.dt rfl (by first|rfl|(rw[hR];done)|(rw[hR];rfl))),kb 104 rfl (.cons (.cons (.dt (by first|rfl|(rw[hR];done)|(rw[hR];rfl))) (.cons (.fz rfl (by first|(rw[hR];exact(dR_app _ [rA (varA 3),rA zA]).trans (by rw[List.map_append];rfl))|(rw[hR];show _=dR ((s.2.ks++[_]).map rE);rw[List.map_append,rE_one,←dR_app];rfl)|(rw[hR];show _=dR ((s.2.ks++[_]).map rE);rw[List.eq_nil_of_length_eq_zero h0,List.nil_append,rE_one];rfl)|(rw[hR];done)|(rw[hR];rfl)|(rw[hR];simp[dR];done)|(rw[hR];simp[dR];rfl)|(rw[hR];rw[dR_app];simp;done)|(rw[hR];simp[setK,setN];rfl)) (by first|(rw[hR];show _=((s.2.ks++[_]).map rE).length;rw[List.length_map,List.length_append];first|rfl|(rw[h0];rfl))|(rw[hR];rfl)|(rw[hR];simp;done)|(rw[hR];simp;rfl)|(rw[hR];simp[setK,setN,addK,Ex.ks];done)) (by first|omega|(simp;done)|(simp;omega))) (.cons (.dt (by first|rfl|(rw[hR];done)|(rw[hR];rfl))) (.cons (.dt (by first|rfl|(rw[hR];done)|(rw[hR];rfl))) (.cons (.dt (by first|rfl|(rw[hR];done)|(rw[hR];rfl))) (.cons (.dt (by first|rfl|(rw[hR];done)|(rw[hR];rfl))) (.cons (.dt (by first|rfl|(rw[hR];done)|(rw[hR];rfl))) (.cons (.dt (by first|rfl|(rw[hR];done)|(rw[hR];rfl))) (.cons (.fz rfl (by first|(rw[hR];exact(dR_app _ [rA (varA 3),rA zA]).trans (by rw[List.map_append];rfl))|(rw[hR];show _=dR ((s.2.ks++[_]).map rE);rw[List.map_append,rE_one,←dR_app];rfl)|(rw[hR];show _=dR ((s.2.ks++[_]).map rE);rw[List.eq_nil_of_length_eq_zero h0,List.nil_append,rE_one];rfl)|(rw[hR];done)|(rw[hR];rfl)|(rw[hR];simp[dR];done)|(rw[hR];simp[dR];rfl)|(rw[hR];rw[dR_app];simp;done)|(rw[hR];simp[setK,setN];rfl)) (by first|(rw[hR];show _=((s.2.ks++[_]).map rE).length;rw[List.length_map,List.length_append];first|rfl|(rw[h0];rfl))|(rw[hR];rfl)|(rw[hR];simp;done)|(rw[hR];simp;rfl)|(rw[hR];simp[setK,setN,addK,Ex.ks];done)) (by first|omega|(simp;done)|(simp;omega))) Ctos.nil))))))))) .nil),trivial⟩) rfl ?_ (hbR_box rfl)
      rfl
     ·skip
      refine .skip<|kb_n<|ks_n<|.r<|.c (.bN 9)<|.c (.sT 9 true)<|.nn<|.ret ?_
      first|rw[if_pos h10]at hR|rw[if_neg h10,if_pos h17]at hR|rw[if_neg h10,if_neg h17,if_pos h28]at hR|rw[if_neg h10,if_neg h17,if_neg h28,if_pos h35]at hR|rw[if_neg h10,if_neg h17,if_neg h28,if_neg h35,if_pos h42]at hR|rw[if_neg h10,if_neg h17,if_neg h28,if_neg h35,if_neg h42]at hR
      refine kf_wret [eB 4 100 9,(.b 0,.b 55 2 (dR ([rRd bs r.2]))),eU 0,(.b 100,.b 33 9 [[.d (dS r.1.1.1),.d (dAs r.1.1.2),.d (dI r.1.2.k),.d (dI r.1.2.n),.d (dIs r.1.2.i.1),.d (dI r.1.2.i.2),.d (dS r.1.2.r.1),.d (dAs r.1.2.r.2),.d (dEs r.1.2.ks)]]),eU 100] (Wk.keep [(0,0),(100,104)] rfl rfl ⟨kX,kb 0 rfl (.dt rfl (by first|rfl|(rw[hR];done)|(rw[hR];rfl))),kb 104 rfl (.cons (.cons (.dt (by first|rfl|(rw[hR];done)|(rw[hR];rfl))) (.cons (.fz rfl (by first|(rw[hR];exact(dR_app _ [rA (varA 3),rA zA]).trans (by rw[List.map_append];rfl))|(rw[hR];show _=dR ((s.2.ks++[_]).map rE);rw[List.map_append,rE_one,←dR_app];rfl)|(rw[hR];show _=dR ((s.2.ks++[_]).map rE);rw[List.eq_nil_of_length_eq_zero h0,List.nil_append,rE_one];rfl)|(rw[hR];done)|(rw[hR];rfl)|(rw[hR];simp[dR];done)|(rw[hR];simp[dR];rfl)|(rw[hR];rw[dR_app];simp;done)|(rw[hR];simp[setK,setN];rfl)) (by first|(rw[hR];show _=((s.2.ks++[_]).map rE).length;rw[List.length_map,List.length_append];first|rfl|(rw[h0];rfl))|(rw[hR];rfl)|(rw[hR];simp;done)|(rw[hR];simp;rfl)|(rw[hR];simp[setK,setN,addK,Ex.ks];done)) (by first|omega|(simp;done)|(simp;omega))) (.cons (.dt (by first|rfl|(rw[hR];done)|(rw[hR];rfl))) (.cons (.dt (by first|rfl|(rw[hR];done)|(rw[hR];rfl))) (.cons (.dt (by first|rfl|(rw[hR];done)|(rw[hR];rfl))) (.cons (.dt (by first|rfl|(rw[hR];done)|(rw[hR];rfl))) (.cons (.dt (by first|rfl|(rw[hR];done)|(rw[hR];rfl))) (.cons (.dt (by first|rfl|(rw[hR];done)|(rw[hR];rfl))) (.cons (.fz rfl (by first|(rw[hR];exact(dR_app _ [rA (varA 3),rA zA]).trans (by rw[List.map_append];rfl))|(rw[hR];show _=dR ((s.2.ks++[_]).map rE);rw[List.map_append,rE_one,←dR_app];rfl)|(rw[hR];show _=dR ((s.2.ks++[_]).map rE);rw[List.eq_nil_of_length_eq_zero h0,List.nil_append,rE_one];rfl)|(rw[hR];done)|(rw[hR];rfl)|(rw[hR];simp[dR];done)|(rw[hR];simp[dR];rfl)|(rw[hR];rw[dR_app];simp;done)|(rw[hR];simp[setK,setN];rfl)) (by first|(rw[hR];show _=((s.2.ks++[_]).map rE).length;rw[List.length_map,List.length_append];first|rfl|(rw[h0];rfl))|(rw[hR];rfl)|(rw[hR];simp;done)|(rw[hR];simp;rfl)|(rw[hR];simp[setK,setN,addK,Ex.ks];done)) (by first|omega|(simp;done)|(simp;omega))) Ctos.nil))))))))) .nil),trivial⟩) rfl ?_ (hbR_box rfl)
      rfl
theorem l3Mutate_fn {bs:List Int} (hb:Bytes bs) {p:Nat} (hp:p≤100000000) (s:Stm) (hs:szS s≤1073741824) (h1:0<s.1.2.length):Fn Tryz.prog 15 (hbR bs p) [vR,ad (rS s)] (.o (ad (rS (mutD bs p s).1))) (hbR bs (mutD bs p s).2):=by
  by_cases h:s.2.ks.length=0
  ·exact mut_nil hb hp s hs h1 h
  ·exact mut_own hb hp s hs h1 (by omega)
theorem szA_mut (bs:List Int) (p:Nat) (s:Stm):p≤(mutD bs p s).2∧(mutD bs p s).2≤p+2∧szS (mutD bs p s).1≤szS s+20∧s.1.2.length≤(mutD bs p s).1.1.2.length:=by
  have hE:=szE_eq s.2
  have key:∀(a:List Ex) (x:Ex),szEs (a++[x])=szEs a+szE x:=by
    intro a x
    induction a with
    |nil=>simp[szEs]
    |cons y a ih=>rw[List.cons_append,szEs,szEs,ih];omega
  unfold mutD
  split
  · refine⟨by dsimp only;omega,by dsimp only;omega,?_,Nat.le_refl _⟩
    have h:=ofV_size bs (p+1) [⟨#[69]⟩,ByteArray.empty,⟨#[65,66]⟩,⟨#[97]⟩] (by decide)
    simp only[szS,szC];omega
  · split
    · refine⟨by dsimp only;omega,by dsimp only;omega,?_,by simp⟩
      simp only[szS,szC,szAs,List.length_append,List.map_append,List.sum_append,List.length_cons,List.length_nil,List.map_cons,List.map_nil,List.sum_cons,List.sum_nil,varA,zA,List.length_set];omega
    · split
      · refine⟨by dsimp only;omega,by dsimp only;omega,?_,Nat.le_refl _⟩
        simp only[szS,setK,szE_mk];omega
      · split
        · refine⟨by dsimp only;omega,by dsimp only;omega,?_,Nat.le_refl _⟩
          simp only[szS,setN,szE_mk];omega
        · split
          · refine⟨by dsimp only;omega,by dsimp only;omega,?_,Nat.le_refl _⟩
            have h0:szC zC0=0:=by decide
            have h1:zA0.1.length=0:=rfl
            simp only[szS,addK,szE_mk,key,List.length_append,List.length_cons,List.length_nil,szEs,h0,h1]
            omega
          ·exact⟨by dsimp only;omega,by dsimp only;omega,by dsimp only;omega,Nat.le_refl _⟩
theorem stm_ok {bs:List Int} (hb:Bytes bs) {d:Nat} (hd:d≤4) {p:Nat} (hp:p≤50000000):∃(s:Stm) (q:Nat),p≤q∧q≤p+300∧szS s≤300∧0<s.1.2.length∧Fn Tryz.prog 13 (hbR bs p) [vR,nat1 (d:Nat)] (.o (ad (rS s))) (hbR bs q):=by
  obtain⟨h1,h2,h3,h4⟩:=stmD_bd hb hd p (by omega)
  exact⟨_,_,h1,by omega,by omega,h4,l3Stmt_fn hb (by omega) d hd⟩
theorem mut_ok {bs:List Int} (hb:Bytes bs) {p:Nat} (hp:p≤100000000) {s:Stm} {m:Nat} (hs:szS s≤m) (hm:m≤1000000) (h1:0<s.1.2.length):∃(t:Stm) (q:Nat),p≤q∧q≤p+2∧szS t≤m+20∧0<t.1.2.length∧Fn Tryz.prog 15 (hbR bs p) [vR,ad (rS s)] (.o (ad (rS t))) (hbR bs q):=by
  obtain⟨a1,a2,a3,a4⟩:=szA_mut bs p s
  exact⟨_,_,a1,a2,by omega,by omega,l3Mutate_fn hb hp s (by omega) h1⟩
theorem pick4 {bs:List Int} (hb:Bytes bs) (p:Nat) (hp:p≤1099511627776):∃d:Nat,pickV bs p 4=(d:Int)∧d≤4:=by
  have h:=pickV_bd hb hp 4
  have h2:=h.2 (by omega)
  exact⟨(pickV bs p 4).toNat,by omega,by omega⟩
theorem drawSV_core {bs:List Int} (hb:Bytes (bs.take 2000)) {s t:Stm} {q q2:Nat} {d:Nat} (hd:pickV (bs.take 2000) 0 4=(d:Int)) (hq:q2≤1000000) (hF:Fn Tryz.prog 13 (hbR (bs.take 2000) 1) [vR,nat1 (d:Nat)] (.o (ad (rS s))) (hbR (bs.take 2000) q)) (hM:Fn Tryz.prog 15 (hbR (bs.take 2000) q) [vR,ad (rS s)] (.o (ad (rS t))) (hbR (bs.take 2000) q2)):Fn Tryz.prog 42 [] [vD (dYs bs)] (.tup [ad (rS t),nat1 (numV (bs.take 2000) q2 [2,1,3,0,4, -1,5])]) []:=by
 refine Fn.code0 Tryz.func42 rfl rfl rfl rfl ?_
 refine .r<|.c (.al 102 [.string ByteArray.empty,.slice none 0 0,.int .i64 0,.int .i64 0,.slice none 0 0,.int .i64 0,.string ByteArray.empty,.slice none 0 0,.slice none 0 0])<|.c .a<|.r<|.c .m ?_
 refine .c (.cO [.tmp 6] [(100,107)] rfl rfl rfl rfl (l16Open_fn bs) rfl trivial flatS.nil (flatS.nil.cons rfl) HB.nil.data outS_one) ?_
 refine .c .a<|.r<|.c .m<|.c .m<|.c .m ?_
 refine .c (.cR [.tmp 10,.const (.int .i64 (4))] 107 rfl rfl rfl rfl (hd▸pick_fn hb (p:=0) (by omega) 4) rfl ⟨rfl,trivial⟩) ?_
 refine .c (.cR [.tmp 9,.tmp 11] 107 rfl rfl rfl rfl (hF) rfl ⟨rfl,trivial⟩) ?_
 refine .c (.cR [.tmp 8,.tmp 12] 107 rfl rfl rfl rfl (hM) rfl ⟨rfl,trivial⟩) ?_
 refine .c (.al 105 [.string ByteArray.empty,.slice none 0 0,.int .i64 0,.int .i64 0,.slice none 0 0,.int .i64 0,.string ByteArray.empty,.slice none 0 0,.slice none 0 0])<|.c (.sT 9 true)<|.nn<|.seq ?_
 refine ACode.drawK (by kernel_rfl) (by kernel_rfl) ?_
 refine .c (.bN 9)<|.c .m<|.c (.li 3 0 6 [.const (.int .i64 (2)),.const (.int .i64 (1)),.const (.int .i64 (3)),.const (.int .i64 (0)),.const (.int .i64 (4)),.const (.int .i64 (-1)),.const (.int .i64 (5))]) ?_
 refine .c (.cR [.tmp 15,.tmp 16] 107 rfl rfl rfl rfl (num_fn hb (by omega) [2,1,3,0,4, -1,5] (by simp)) rfl ⟨rfl,trivial⟩) ?_
 refine .c (.sT 9 true)<|.c .a ?_
 refine .nil ⟨by kernel_rfl,?_⟩
 refine ks_n<|.ret ?_
 refine kf_ret rfl ?_ nobox
 rfl
theorem drawSV_fn {bs:List Int} (hb:Bytes (bs.take 2000)):∃(t:Stm) (d:Int),szS t≤400∧0<t.1.2.length∧(-1≤d∧d≤5)∧Fn Tryz.prog 42 [] [vD (dYs bs)] (.tup [ad (rS t),nat1 d]) []:=by
  obtain⟨d,hd,hd4⟩:=pick4 hb 0 (by omega)
  obtain⟨s,q,h1,h2,h3,h4,hF⟩:=stm_ok hb hd4 (p:=1) (by omega)
  obtain⟨t,q2,g1,g2,g3,g4,hM⟩:=mut_ok hb (p:=q) (by omega) h3 (by omega) h4
  have hm:=numV_mem hb (p:=q2) (by omega) (xs:=[2,1,3,0,4, -1,5]) (by simp)
  simp only[List.mem_cons,List.not_mem_nil,or_false]at hm
  exact⟨t,_,by omega,g4,by omega,drawSV_core hb hd (by omega) hF hM⟩
theorem drawFS_core {bs:List Int} {t:Stm} {d:Int} (hD:Fn Tryz.prog 42 [] [vD (dYs bs)] (.tup [ad (rS t),nat1 d]) []):Fn Tryz.prog 22 [] [vD (dYs bs)] (.o (ad (rS t))) []:=by
  refine Fn.code0 Tryz.func22 rfl rfl rfl rfl ?_
  refine .r<|.c (.al 102 [.string ByteArray.empty,.slice none 0 0,.int .i64 0,.int .i64 0,.slice none 0 0,.int .i64 0,.string ByteArray.empty,.slice none 0 0,.slice none 0 0])<|.r<|.c .m ?_
  refine .c (.cP [.tmp 6] rfl rfl rfl rfl (hD) rfl) ?_
  refine .c .m<|.c .ex<|.c .ex<|.c (.al 103 [.string ByteArray.empty,.slice none 0 0,.int .i64 0,.int .i64 0,.slice none 0 0,.int .i64 0,.string ByteArray.empty,.slice none 0 0,.slice none 0 0])<|.c (.sT 9 true)<|.c .a<|.r<|.c (.bN 9)<|.c (.sT 9 true)<|.nn<|.ret ?_
  refine kf_ret rfl ?_ nobox
  rfl
theorem drawSR_core {bs:List Int} {t:Stm} (hD:Fn Tryz.prog 22 [] [vD (dYs bs)] (.o (ad (rS t))) []):Fn Tryz.prog 9 [] [vD (dYs bs)] (.o (ad (rS t))) []:=by
  refine Fn.code0 Tryz.func9 rfl rfl rfl rfl ?_
  refine .r<|.c (.al 102 [.string ByteArray.empty,.slice none 0 0,.int .i64 0,.int .i64 0,.slice none 0 0,.int .i64 0,.string ByteArray.empty,.slice none 0 0,.slice none 0 0])<|.r<|.c .m ?_
  refine .c (.cP [.tmp 3] rfl rfl rfl rfl (hD) rfl) ?_
  refine .c (.sT 9 true)<|.nn<|.ret ?_
  refine kf_ret rfl ?_ nobox
  rfl
theorem drawSR_fn {bs:List Int} (hb:Bytes (bs.take 2000)):∃t:Stm,szS t≤400∧0<t.1.2.length∧Fn Tryz.prog 9 [] [vD (dYs bs)] (.o (ad (rS t))) []:=by
  obtain⟨t,d,h1,h2,_,hD⟩:=drawSV_fn hb
  exact⟨t,h1,h2,drawSR_core (drawFS_core hD)⟩
theorem chr_bl {s:ByteArray} {i:Nat} {b:UInt8} (h:(bl s)[i]?=some b):chr s i=(b.toNat:Int):=by
  have h2:s.data[i]?=some b:=by rw[bl,Array.getElem?_toList]at h;exact h
  have h3:s[i]?=some b:=h2
  rw[chr,h3]
theorem cnt_next {l:List UInt8} {i:Nat} {b:UInt8} (h:l[i]?=some b):(l.take (i+1)).count 91=(l.take i).count 91+if b=91 then 1 else 0:=by
  rw[List.take_add_one,h,List.count_append]
  simp[List.count_cons]
theorem bl_len (s:ByteArray):(bl s).length=s.size:=by rw[bl,Array.length_toList];rfl
theorem cnt_len (l:List UInt8) (i:Nat):(l.take i).count 91≤i:=Nat.le_trans List.count_le_length (by rw[List.length_take];omega)
def accZ (z:Acc):Stm:=(z,.mk 0 0 ([],0) (ByteArray.empty,[]) [])
theorem accZ_sz {s:Stm} {a:Acc} (h:a∈rdS s):szS (accZ a)≤szS s:=by
  rw[rdS]at h
  split at h
  · have:=rdE_sz _ h
    have e:szS (accZ a)=szC a:=by simp[szS,accZ,szE,szEs,szC,szAs]
    rw[e,szS];omega
  ·cases h
theorem sameZ (s:Stm):sameS s s=true:=sameS_iff.2 rfl
theorem fmtQ_len (s:Stm):(fmtQ s).size≤1000000:=by
  unfold fmtQ
  split
  · rename_i h
    have hV:=stmtV_ex h
    have b1:=acQ_len hV.2.1
    have b2:=exQ_len hV.1
    have b3:=bT5
    rw[stQ];simp only[ByteArray.size_append,bsz1];omega
  ·show 0≤_;omega
theorem fmt_yes {s:Stm} (h:stmtV 4 s=true):fmtQ s≠⟨#[]⟩∧(bl (fmtQ s)).count 91=(rdS s).length+1:=by
  rw[fmtQ,if_pos h,rdS,if_pos h];exact⟨stQ_ne h,st_cnt h⟩
theorem fmt_no {s:Stm} (h:¬stmtV 4 s=true):fmtQ s=⟨#[]⟩∧(bl (fmtQ s)).count 91=0:=by
  rw[fmtQ,if_neg h];exact⟨rfl,rfl⟩
theorem stmtReads_core {bs:List Int} (hl:bs.length≤1048576) {s:Stm} (hs:szS s≤400) (hD:Fn Tryz.prog 9 [] [vD (dYs bs)] (.o (ad (rS s))) [])  :Fn Tryz.prog 4 [] [vD (dYs bs)] (.o (bo1 true)) []:=by
 have z2:=rdS_len s
 have z3:=fmtQ_len s
 have z4:=bl_len (fmtQ s)
 refine Fn.code0 Tryz.func4 rfl rfl rfl rfl ?_
 refine .r<|.c .a<|.nn<|.seq<|.r<|.c .m<|.c (.ln 5 1 1)<|.c .gt<|.nn ?_
 refine .cD rfl (fun h12=>?_) (fun h12=>?_)
 ·skip
  omega
 ·skip
  refine .skip<|ks_n<|.r<|.c .m ?_
  refine .c (.cP [.tmp 13] rfl rfl rfl rfl (hD) rfl) ?_
  refine .c (.al 103 [.string ByteArray.empty,.slice none 0 0,.int .i64 0,.int .i64 0,.slice none 0 0,.int .i64 0,.string ByteArray.empty,.slice none 0 0,.slice none 0 0])<|.c (.sT 9 true)<|.r<|.c (.bN 9) ?_
  refine .c (.cP [.tmp 15] rfl rfl rfl rfl (implReads_fn s (by omega)) rfl) ?_
  refine .c .a<|.r<|.c (.bN 9) ?_
  refine .c (.cP [.tmp 17] rfl rfl rfl rfl (specReads_fn s (by omega)) rfl) ?_
  refine .c .a<|.r<|.c (.bN 9) ?_
  refine .c (.cP [.tmp 19] rfl rfl rfl rfl (fmtQ_fn (s:=s) (by omega)) rfl) ?_
  refine .c .a<|.r<|.c .a<|.nn<|.seq<|.r<|.c .a<|.nn<|.block ?_
  refine .loopK (fun m σ=>(∃i:Nat,m=(fmtQ s).size -i∧(i≤(fmtQ s).size)∧(True)∧σ=[eD 4 (dCs (rdS s)),eD 5 (dCs (rdS s)),(.t 6,.v (.o (st1 (fmtQ s)))),eN 7 ((((bl (fmtQ s)).take i).count 91:Nat):Int),eN 8 (i:Nat)])) [] ⟨0,rfl,by omega,trivial,rfl⟩ ⟨kd,kd,kd,ks rfl (.dt (vI (by first|rfl|(rw[hcn,if_pos hb];omega)|(rw[hcn,if_neg hb];omega)))),kd,trivial⟩ ?_
  rintro m σ ⟨i,hm0,hi,hF,rfl⟩
  refine .seq<|.r<|.c .m<|.c .m ?_
  refine .c (St1.lenS rfl rfl rfl rfl rfl (by kernel_rfl) rfl) ?_
  refine .c .ls<|.nn ?_
  refine .cD rfl (fun h24=>?_) (fun h24=>?_)
  ·skip
   obtain⟨b,hb1⟩:∃b_,(bl (fmtQ s))[i]?=some b_:=⟨_,List.getElem?_eq_getElem (by omega)⟩
   have hcn:=cnt_next hb1
   have hch:=chr_bl hb1
   have hcl:=cnt_len (bl (fmtQ s)) i
   refine .skip<|ks_n<|.seq<|.block<|.r<|.c .m<|.c .m ?_
   refine .c (St1.idxS (i:=i) rfl Tryz.underlying9 rfl rfl rfl (by omega)) ?_
   refine .c (St1.eqU rfl rfl rfl)<|.nn ?_
   refine .cD rfl (fun h30=>?_) (fun h30=>?_)
   ·skip
    have hb:b=91:=UInt8.toNat_inj.1 (by show b.toNat=91;omega)
    refine .region<|.c .m ?_
    refine .c (.pl rfl rfl rfl (by omega)) ?_
    refine .c .a<|.nil<|kb_n<|ks_n<|.region<|.c .m<|.c .pl<|.c .a<|.nil ?_
    refine kl_k [] ⟨i+1,rfl,by omega,trivial,rfl⟩ ⟨kd,kd,kd,ks rfl (.dt (vI (by first|rfl|(rw[hcn,if_pos hb];omega)|(rw[hcn,if_neg hb];omega)))),kd,trivial⟩
   ·skip
    have hb:¬b=91:=fun e=>by subst e;exact absurd hch (fun h=>h30 h)
    refine .skip<|kb_n<|ks_n<|.region<|.c .m<|.c .pl<|.c .a<|.nil ?_
    refine kl_k [] ⟨i+1,rfl,by omega,trivial,rfl⟩ ⟨kd,kd,kd,ks rfl (.dt (vI (by first|rfl|(rw[hcn,if_pos hb];omega)|(rw[hcn,if_neg hb];omega)))),kd,trivial⟩
  ·skip
   obtain rfl:i=(fmtQ s).size:=by omega
   have hcn:((bl (fmtQ s)).take (fmtQ s).size).count 91=(bl (fmtQ s)).count 91:=by rw[List.take_of_length_le (by omega)]
   refine .exit<|ks_e<|kl_e<|kb_hit<|ks_n<|.seq<|.r<|.c .a<|.nn<|.block ?_
   refine .loopK (fun m σ=>(∃i:Nat,m=(rdS s).length -i∧(i≤(rdS s).length)∧(True)∧σ=[eD 4 (dCs (rdS s)),eD 5 (dCs (rdS s)),(.t 6,.v (.o (st1 (fmtQ s)))),eN 7 (((bl (fmtQ s)).count 91:Nat):Int),eN 9 (i:Nat)])) [] ⟨0,rfl,by omega,trivial,rfl⟩ ⟨kd,kd,kd,ks rfl (.dt (vI (by first|rfl|(rw[hcn];done)))),kd,trivial⟩ ?_
   rintro m σ ⟨i,hm0,hi,hF,rfl⟩
   refine .seq<|.r<|.c .m<|.c .m<|.c (.ln 25 2 40)<|.c .ls<|.c .m ?_
   refine .cD 37 rfl (fun g37=>?_) (fun g37=>?_)
   ·skip
    refine .c (.g .m)<|.c (.g (.ln 25 2 40))<|.c (.g .m)<|.c (.g (.ln 25 2 40))<|.c (.g .eq)<|.c .pT<|.nn ?_
    refine ACode.condT rfl (fun h43=>?_) (fun h43=>?_)
    ·try simp only[zs]at h43
     obtain⟨z,hx1⟩:∃x_,(rdS s)[i]?=some x_:=⟨_,List.getElem?_eq_getElem (by omega)⟩
     refine .skip<|ks_n<|.seq<|.block<|.seq ?_
     refine ACode.drawK (by kernel_rfl) (by kernel_rfl) ?_
     refine .c .m<|.c .m ?_
     refine .c (.xL 25 2 40 rfl rfl rfl rfl rfl (map_at hx1)) ?_
     refine .c (.lN 2) ?_
     refine .c (.buZ [(0,.tmp 49)] [(0,2),(2,7)] [.string ByteArray.empty,.slice none 0 0,.int .i64 0,.int .i64 0,.slice none 0 0,.int .i64 0,.string ByteArray.empty,.slice none 0 0,.slice none 0 0] [dS ByteArray.empty,.list 2 [],dI 0,dI 0,.list 1 [],dI 0,dS ByteArray.empty,.list 2 [],.list 7 []] rfl rfl (.val rfl (.list _ (.val rfl (.val rfl (.list _ (.val rfl (.val rfl (.list _ (.list _ ZR.nil))))))))) rfl rfl)<|.c .m<|.c .m ?_
     refine .c (.xL 25 2 40 rfl rfl rfl rfl rfl (map_at hx1)) ?_
     refine .c (.lN 2) ?_
     refine .c (.buZ [(0,.tmp 54)] [(0,2),(2,7)] [.string ByteArray.empty,.slice none 0 0,.int .i64 0,.int .i64 0,.slice none 0 0,.int .i64 0,.string ByteArray.empty,.slice none 0 0,.slice none 0 0] [dS ByteArray.empty,.list 2 [],dI 0,dI 0,.list 1 [],dI 0,dS ByteArray.empty,.list 2 [],.list 7 []] rfl rfl (.val rfl (.list _ (.val rfl (.val rfl (.list _ (.val rfl (.val rfl (.list _ (.list _ ZR.nil))))))))) rfl rfl)<|.c (.cP [.tmp 50,.tmp 55] rfl rfl rfl rfl (implStmtSame_fn (accZ z) (accZ z) (by have:=accZ_sz (List.mem_of_getElem? hx1);omega)) rfl) ?_
     refine .c .nt ?_
     refine .nil ⟨by kernel_rfl,?_⟩
     refine ks_n ?_
     refine ACode.condT rfl (fun h57=>?_) (fun h57=>?_)
     ·try simp only[zs]at h57
      exact absurd (sameZ (accZ z)) (by simp_all)
     ·try simp only[zs]at h57
      refine .skip<|kb_n<|ks_n<|.region<|.c .m<|.c .pl<|.c .a<|.nil ?_
      refine kl_k [] ⟨i+1,rfl,by omega,trivial,rfl⟩ ⟨kd,kd,kd,ks rfl (.dt (vI (by first|rfl|(rw[hcn];done)))),kd,trivial⟩
    ·try simp only[zs]at h43
     refine .exit<|ks_e<|kl_e<|kb_hit<|ks_n<|.seq ?_
     by_cases hsp:stmtV 4 s=true
     ·skip
      obtain⟨hfa,hfb⟩:=fmt_yes hsp
      refine .region<|.c .m<|.c (.ln 25 2 40)<|.c .m<|.c (.ln 25 2 40)<|.c .eq<|.c .m ?_
      refine .cD 63 rfl (fun g63=>?_) (fun g63=>?_)
      ·skip
       refine .c (.g .m) ?_
       refine .c (.gT rfl rfl rfl (St1.eqS rfl rfl rfl))<|.c (.g .m) ?_
       refine AOps.cases 66 _ rfl (fun g66=>?_) (fun g66=>?_)
       ·try simp only[zs]at g66
        exact absurd (sEq_iff.1 g66) hfa
       ·try simp only[zs]at g66
        refine .c .f<|.c .f<|.c (.g .pF)<|.c (.g .m)<|.c (.g .m)<|.c (.g .m)<|.c (.g (.ln 25 2 40))<|.c (.g .pl)<|.c (.g .eq)<|.c (.g .pF)<|.c .pT<|.c .a<|.nn<|.ret ?_
        refine kf_ret rfl ?_ nobox
        first|rfl|exact leafB (decide_eq_true (by omega))|exact leafB (by simp[*])|grind
      ·skip
       exact absurd g63 (by omega)
     ·skip
      obtain⟨hfa,hfb⟩:=fmt_no hsp
      refine .region<|.c .m<|.c (.ln 25 2 40)<|.c .m<|.c (.ln 25 2 40)<|.c .eq<|.c .m ?_
      refine .cD 63 rfl (fun g63=>?_) (fun g63=>?_)
      ·skip
       refine .c (.g .m) ?_
       refine .c (.gT rfl rfl rfl (St1.eqS rfl rfl rfl))<|.c (.g .m) ?_
       refine AOps.cases 66 _ rfl (fun g66=>?_) (fun g66=>?_)
       ·try simp only[zs]at g66
        refine .c (.g .m)<|.c (.g .eq)<|.c (.g .pT)<|.c (.g .m) ?_
        refine AOps.cases 70 _ rfl (fun g70=>?_) (fun g70=>?_)
        ·try simp only[zs]at g70
         refine .c .f<|.c .f<|.c .f<|.c .f<|.c .f<|.c (.g .pT)<|.c .pT<|.c .a<|.nn<|.ret ?_
         refine kf_ret rfl ?_ nobox
         first|rfl|exact leafB (decide_eq_true (by omega))|exact leafB (by simp[*])|grind
        ·try simp only[zs]at g70
         exact absurd g70 (by omega)
       ·try simp only[zs]at g66
        exact absurd (sEq_iff.2 hfa) (by rw[g66];decide)
      ·skip
       exact absurd g63 (by omega)
   ·skip
    refine .c .f<|.c .f<|.c .f<|.c .f<|.c .f<|.c .pF<|.nn ?_
    refine .k0 ?_
    refine .exit<|ks_e<|kl_e<|kb_hit<|ks_n<|.seq ?_
    by_cases hsp:stmtV 4 s=true
    ·skip
     obtain⟨hfa,hfb⟩:=fmt_yes hsp
     refine .region<|.c .m<|.c (.ln 25 2 40)<|.c .m<|.c (.ln 25 2 40)<|.c .eq<|.c .m ?_
     refine .cD 63 rfl (fun g63=>?_) (fun g63=>?_)
     ·skip
      refine .c (.g .m) ?_
      refine .c (.gT rfl rfl rfl (St1.eqS rfl rfl rfl))<|.c (.g .m) ?_
      refine AOps.cases 66 _ rfl (fun g66=>?_) (fun g66=>?_)
      ·try simp only[zs]at g66
       exact absurd (sEq_iff.1 g66) hfa
      ·try simp only[zs]at g66
       refine .c .f<|.c .f<|.c (.g .pF)<|.c (.g .m)<|.c (.g .m)<|.c (.g .m)<|.c (.g (.ln 25 2 40))<|.c (.g .pl)<|.c (.g .eq)<|.c (.g .pF)<|.c .pT<|.c .a<|.nn<|.ret ?_
       refine kf_ret rfl ?_ nobox
       first|rfl|exact leafB (decide_eq_true (by omega))|exact leafB (by simp[*])|grind
     ·skip
      exact absurd g63 (by omega)
    ·skip
     obtain⟨hfa,hfb⟩:=fmt_no hsp
     refine .region<|.c .m<|.c (.ln 25 2 40)<|.c .m<|.c (.ln 25 2 40)<|.c .eq<|.c .m ?_
     refine .cD 63 rfl (fun g63=>?_) (fun g63=>?_)
     ·skip
      refine .c (.g .m) ?_
      refine .c (.gT rfl rfl rfl (St1.eqS rfl rfl rfl))<|.c (.g .m) ?_
      refine AOps.cases 66 _ rfl (fun g66=>?_) (fun g66=>?_)
      ·try simp only[zs]at g66
       refine .c (.g .m)<|.c (.g .eq)<|.c (.g .pT)<|.c (.g .m) ?_
       refine AOps.cases 70 _ rfl (fun g70=>?_) (fun g70=>?_)
       ·try simp only[zs]at g70
        refine .c .f<|.c .f<|.c .f<|.c .f<|.c .f<|.c (.g .pT)<|.c .pT<|.c .a<|.nn<|.ret ?_
        refine kf_ret rfl ?_ nobox
        first|rfl|exact leafB (decide_eq_true (by omega))|exact leafB (by simp[*])|grind
       ·try simp only[zs]at g70
        exact absurd g70 (by omega)
      ·try simp only[zs]at g66
       exact absurd (sEq_iff.2 hfa) (by rw[g66];decide)
     ·skip
      exact absurd g63 (by omega)
theorem stmtReads_big (a:Option Addr) (n c:Nat) (hn:1048576<n):Fn Tryz.prog 4 [] [vX a n c] (.o (bo1 true)) []:=by
  refine Fn.code0 Tryz.func4 rfl rfl rfl rfl ?_
  refine .r<|.c .a<|.nn<|.seq<|.r<|.c .m ?_
  refine .c (St1.lenN (e:=5) (m:=1) (by':=1) rfl rfl rfl rfl rfl (by kernel_rfl) rfl) ?_
  refine .c .gt<|.nn ?_
  refine .cD rfl (fun h12=>?_) (fun h12=>?_)
  · skip
    refine .r<|.c .a<|.nn<|.ret<|ks_r ?_
    refine kf_ret rfl ?_ nobox
    rfl
  · skip
    omega
theorem lawStmtReads (a:Option Addr) (n c:Nat) (bs:List Int) (w:World) (hx:n≤1048576→Sl Sh.byte (fun b=>b<w.heap.size) w (.slice a n c) bs) (hbs:∀x∈bs,0≤x∧x≤255):Truth Tryz.prog 4 #[.slice a n c] w:=
  law1 ⟨hx,hbs⟩ (fun h=>stmtReads_big a n c h) (fun hl hb=>by
    obtain⟨s,h1,h2,h3⟩:=drawSR_fn hb
    exact stmtReads_core hl h1 h3)
end Go.Proofs.YtfgljkblopojgaaGreatDoor
