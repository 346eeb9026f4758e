/- Part 7 of 7 of the proof: laws on memory and data, then what the functions compute, in the order in which they build on each other; conditions: those that each theorem names. -/
import Derived.Test.YtollooimmfngjaaGreatP6
set_option maxRecDepth 100000
set_option maxHeartbeats 1600000

namespace Go.Proofs.YtollooimmfngjaaGreat
set_option linter.unusedVariables false
set_option linter.unusedSimpArgs false
open Go.RowKit
def rwD (l:List Arr) (k m:Nat) (nm:ByteArray) (len:Nat):List (List C):=(dR (l.map rR)).set k [.d (dS nm),.own m 1 len]
theorem rwD_len {l:List Arr} {k m:Nat} {nm:ByteArray} {len:Nat}:(rwD l k m nm len).length=l.length:=by rw[rwD,List.length_set,dR_len,List.length_map]
theorem rwD_at {l:List Arr} {k m:Nat} {nm:ByteArray} {len:Nat} (h:k<l.length):(rwD l k m nm len)[k]?=some [.d (dS nm),.own m 1 len]:=by
  rw[rwD,List.getElem?_set_self (by rw[dR_len,List.length_map];exact h)]
theorem rwD_other {l:List Arr} {k m q:Nat} {nm:ByteArray} {len:Nat} {x:Arr} (hx:l[q]?=some x) (hq:q≠k):(rwD l k m nm len)[q]?=some [.d (dS x.1),.d (dIs x.2)]:=by
  rw[rwD,List.getElem?_set_ne (fun e=>hq e.symm),dR,List.map_map,List.getElem?_map,hx];rfl
theorem rwD_ren {l:List Arr} {k m:Nat} {nm:ByteArray} {len:Nat} {ρ:Nat→Nat}:renR ρ (rwD l k m nm len)=rwD l k (ρ m) nm len:=renR_set
theorem rwD_refs {l:List Arr} {k m:Nat} {nm:ByteArray} {len:Nat}:∀r∈rwD l k m nm len,∀c∈r,∀q∈c.refs,q=m:=fun r hr c hc q hq=>by
  rcases List.mem_or_eq_of_mem_set hr with h|rfl
  ·exact(dR_refs h hc hq).elim
  · simp only[List.mem_cons,List.not_mem_nil,or_false]at hc
    rcases hc with rfl|rfl
    ·cases hq
    ·simpa [C.refs]using hq
theorem dR_takeR {l:List Arr} {i:Nat} {x:Arr} (hx:l[i]?=some x):dR ((l.take (i+1)).map rR)=dR ((l.take i).map rR)++[[.d (dS x.1),.d (dIs x.2)]]:=by
  have hil:=(List.getElem?_eq_some_iff.1 hx)
  rw[List.take_succ_eq_append_getElem hil.1,hil.2,List.map_append,dR,dR,List.map_append];rfl
theorem rwD_app {l:List Arr} {i k m:Nat} {nm:ByteArray} {len:Nat} {x:Arr} (hx:l[i]?=some x) (hk:k<i):rwD (l.take i) k m nm len++[[.d (dS x.1),.d (dIs x.2)]]=rwD (l.take (i+1)) k m nm len:=by
  have hil:=(List.getElem?_eq_some_iff.1 hx).1
  rw[rwD,rwD,dR_takeR hx,List.set_append,if_pos (by rw[dR_len,List.length_map,List.length_take];omega)]
theorem rwD_own {l:List Arr} {i k m n:Nat} {x:Arr} (hk:i=k) (hx:l[i]?=some x) (hn:n=x.2.length):dR ((l.take i).map rR)++[[.d (dS x.1),.own m 1 n]]=rwD (l.take (i+1)) k m x.1 x.2.length:=by
  subst hk hn
  have hil:=(List.getElem?_eq_some_iff.1 hx).1
  have hl:(dR ((l.take i).map rR)).length=i:=by rw[dR_len,List.length_map,List.length_take];omega
  rw[rwD,dR_takeR hx,List.set_append,if_neg (by omega),hl,Nat.sub_self];rfl
theorem rwD_own0 {l:List Arr} {k m n:Nat} {x:Arr} (hk:0=k) (hx:l[0]?=some x) (hn:n=x.2.length):[[.d (dS x.1),.own m 1 n]]=rwD (l.take (0+1)) k m x.1 x.2.length:=by
  rw[←rwD_own hk hx hn];rfl
theorem lk_uNo {a b:Nat} {B:St}:lk ((.u a,.u)::B) (.u b)= .no→lk B (.u b)= .no:=fun h=>by
  rw[lk_cons]at h
  by_cases e:a=b
  ·subst e;rw[upd_same]at h;cases h
  ·rwa[upd_other _ _ (by simpa using fun h=>e h.symm)]at h
def hbG (a b:Nat) (l:List Arr) (k:Nat) (y:Arr) (ds:List Int):St:=[(.b a,.b 45 2 (rwD l k b y.1 y.2.length)),(.u a,.u),(.b b,.b 3 1 (dR (ds.map rI))),(.u b,.u)]
theorem hbG_HB (a b:Nat) (l:List Arr) (k:Nat) (y:Arr) (ds:List Int):HB (hbG a b l k y ds):=HB.cons HB.nil.data fun r hr c hc q hq=>by
  rw[rwD_refs r hr c hc q hq]
  intro h
  have:=lk_uNo h
  rw[lk_cons,upd_other _ _ (by simp),lk_cons,upd_same]at this
  cases this
theorem two_boxG {σ:St} {k1 k2:Nat} {e1 e2:TypeId} {s1 s2:Nat} {r1 r2:List (List C)} (h1:lk σ (.b k1)= .b e1 s1 r1) (h2:lk σ (.b k2)= .b e2 s2 r2):∀k e sz rows,lk [(.b k1,.b e1 s1 r1),(.u k1,.u),(.b k2,.b e2 s2 r2),(.u k2,.u)] (.b k)= .b e sz rows→lk σ (.b k)= .b e sz rows:=fun k e sz rows h=>by
  by_cases hk:k=k1
  ·subst hk;rw[lk_same]at h;rw[h1];exact h
  · rw[lk_other _ _ _ _ (by simpa using fun e=>hk e.symm),lk_other _ _ _ _ (by simp)]at h
    exact one_box h2 k e sz rows h
theorem two_numG {σ:St} {k1 k2:Nat} {e1 e2:TypeId} {s1 s2:Nat} {r1 r2:List (List C)} (hk:(Nat.ble 100 k1&&Nat.ble 100 k2)=true):∀k,k<100→Al (lk [(.b k1,.b e1 s1 r1),(.u k1,.u),(.b k2,.b e2 s2 r2),(.u k2,.u)]) k→Al (lk σ) k:=fun k h ⟨e,sz,rows,h1⟩=>by
  rw[Bool.and_eq_true]at hk
  have a1:=Nat.le_of_ble_eq_true hk.1
  rw[lk_other _ _ _ _ (by simp;omega),lk_other _ _ _ _ (by simp)]at h1
  exact one_num hk.2 k h ⟨e,sz,rows,h1⟩
theorem l4Copy_H {g:Prg} (h1:g.1.length≤1073741824) (h2:g.2.length≤1073741824) (hA:∀x∈g.1,x.2.length≤1073741824) (hP:∀x∈g.2,smN x.1∧x.2.length≤1073741824∧∀y∈x.2,szS y≤1073741824) {k:Nat} {y:Arr} (hy:g.1[k]?=some y) (h0:0<y.2.length):Fn Tryz.prog 21 [] [ad (rG g)] (.o (.agg [.own 101 2 g.1.length,.d (dPts g.2)])) (hbG 101 102 g.1 k y y.2):=by
 have hkl:=(List.getElem?_eq_some_iff.1 hy).1
 refine Fn.of_code Tryz.func21 rfl rfl HB.nil rfl rfl (hbG_HB _ _ _ _ _ _) rfl (two_numG rfl) ?_
 refine .r<|.c .bp<|.c (.al 102 [.slice none 0 0,.slice none 0 0])<|.r<|.c (.bu [] [(0,1),(1,1)] [.slice none 0 0,.slice none 0 0])<|.c (.al 103 [.slice none 0 0,.slice none 0 0])<|.c (.sT 2 true)<|.nn<|.seq<|.r<|.c .a<|.nn<|.block ?_
 refine .loopK (fun m σ=>(∃i:Nat,m=g.1.length -i∧(i=0)∧σ=[eP 1 (rG g),eB 2 110 2,eB 3 111 2,eN 4 (i:Nat),(.b 110,.b 30 2 [[nl,nl]]),eU 110,(.b 111,.b 30 2 [[nl,nl]]),eU 111])∨(∃i:Nat,m=g.1.length -i∧(1≤i)∧(i≤g.1.length)∧(i≤k)∧σ=[eP 1 (rG g),eB 2 110 2,eB 3 111 2,eN 4 (i:Nat),(.b 110,.b 30 2 [[nl,nl]]),eU 110,(.b 112,.b 45 2 (dR ((g.1.take i).map rR))),eU 112,(.b 111,.b 30 2 [[.own 112 2 (i),nl]]),eU 111])∨(∃i:Nat,m=g.1.length -i∧(k<i)∧(i≤g.1.length)∧σ=[eP 1 (rG g),eB 2 110 2,eB 3 111 2,eN 4 (i:Nat),(.b 110,.b 30 2 [[nl,nl]]),eU 110,(.b 112,.b 45 2 (rwD (g.1.take i) k 113 y.1 y.2.length)),eU 112,(.b 113,.b 3 1 (dR (y.2.map rI))),eU 113,(.b 111,.b 30 2 [[.own 112 2 (i),nl]]),eU 111])) [(110,102),(111,103)] (.inl ⟨0,rfl,rfl,rfl⟩) ⟨kd,kX,kX,kd,kb 102 rfl (.r2 .dt .dt),kb 103 rfl (.r2 .dt .dt),trivial⟩ ?_
 rintro m σ (⟨i,hm0,rfl,rfl⟩|⟨i,hm0,hi1,hi2,hik,rfl⟩|⟨i,hm0,hi1,hi2,rfl⟩)
 ·skip
  refine .seq<|.r<|.c .m<|.c (.fP 0 0 false)<|.c (.l1 1)<|.c (.ln 45 2 40)<|.c .ls<|.nn ?_
  refine .cD rfl (fun h13=>?_) (fun h13=>?_)
  ·skip
   obtain⟨x,hx1⟩:∃x,g.1[0]?=some x:=⟨_,List.getElem?_eq_getElem (by omega)⟩
   have hxb:=hA _ (List.mem_of_getElem? hx1)
   refine .skip<|ks_n<|.seq<|.block ?_
   by_cases hsp:0=k
   ·skip
    obtain rfl:y=x:=by rw[hsp]at hx1;exact Option.some.inj (hy.symm.trans hx1)
    refine ACode.drawK (by kernel_rfl) (by kernel_rfl) ?_
    refine .c (.fB 0 0 false)<|.c (.b1 1)<|.c (.fP 0 0 false)<|.c (.l1 1)<|.c .m ?_
    refine .c (.xL 45 2 40 rfl rfl rfl rfl rfl (map_at hx1)) ?_
    refine .c (.fP 0 0 false)<|.c (.l1 1) ?_
    refine .c (St1.lit0 (k':=124) (e:=3) (sz:=1) (b:=true) rfl rfl rfl rfl (by kernel_rfl) rfl rfl) ?_
    refine .c (.fP 0 0 false)<|.c (.l1 1)<|.c .m ?_
    refine .c (.xL 45 2 40 rfl rfl rfl rfl rfl (map_at hx1)) ?_
    refine .c (.fP 1 0 false)<|.c (.l1 1) ?_
    refine .c (St1.appB (k':=131) (e:=3) (sz:=0) (by':=8) rfl rfl rfl rfl rfl (by kernel_rfl) rfl rfl rfl rfl (by first|rfl|simp) (by simp;omega) rfl rfl rfl) ?_
    refine .c (.bu [(0,.tmp 23),(1,.tmp 31)] [(0,1),(1,1)] [.string ByteArray.empty,.slice none 0 0]) ?_
    refine .c (St1.litB (k':=133) (e:=45) (sz:=1) (m:=0) (xs:=[.tmp 32]) rfl rfl rfl rfl rfl (by kernel_rfl) rfl rfl rfl rfl rfl) ?_
    refine .c (St1.appNB (k':=134) (e:=45) (sz:=1) (by':=40) rfl rfl rfl rfl rfl (by kernel_rfl) rfl rfl rfl rfl rfl (by decide) (by decide) rfl rfl) ?_
    refine .c (.fB 0 0 false)<|.c (.sT 1 false) ?_
    refine .nil ⟨by kernel_rfl,?_⟩
    refine kb_n<|ks_n<|.region<|.c .m<|.c .pl<|.c .a<|.nil ?_
    refine kl_k [(110,110),(111,111),(112,134),(113,131)] (.inr (.inr ⟨1,rfl,by omega,by omega,rfl⟩)) ⟨kd,kX,kX,kd,kb 110 rfl (.r2 .dt .dt),kb 134 rfl ((by first|exact .setR rfl (.cons .dt (.cons .ow .nil))|(refine Rto.eq ?_ rfl (.setR rfl (.cons .dt (.cons (.ow (k:=131)) .nil)));first|exact rwD_app hx1 (by omega)|exact rwD_own hsp hx1 (by simp)|exact rwD_own0 hsp hx1 (by simp)))),kb 131 rfl (.dt rfl),kb 111 rfl (.r2 .ow .dt),trivial⟩
   ·skip
    refine ACode.drawK (by kernel_rfl) (by kernel_rfl) ?_
    refine .c (.fB 0 0 false)<|.c (.b1 1)<|.c (.fP 0 0 false)<|.c (.l1 1)<|.c .m ?_
    refine .c (.xL 45 2 40 rfl rfl rfl rfl rfl (map_at hx1)) ?_
    refine .c (.fP 0 0 false)<|.c (.l1 1) ?_
    refine .c (St1.lit0 (k':=124) (e:=3) (sz:=1) (b:=true) rfl rfl rfl rfl (by kernel_rfl) rfl rfl) ?_
    refine .c (.fP 0 0 false)<|.c (.l1 1)<|.c .m ?_
    refine .c (.xL 45 2 40 rfl rfl rfl rfl rfl (map_at hx1)) ?_
    refine .c (.fP 1 0 false)<|.c (.l1 1) ?_
    refine .c (St1.appD (rows:=[]) (e:=3) (sz:=0) (by':=8) rfl rfl rfl rfl rfl (by kernel_rfl) rfl rfl rfl rfl rfl (by simp;omega) rfl) ?_
    refine .c (.bu [(0,.tmp 23),(1,.tmp 31)] [(0,1),(1,1)] [.string ByteArray.empty,.slice none 0 0])<|.c (.li 45 1 0 [.tmp 32]) ?_
    refine .c (St1.appN (k':=134) (e:=45) (sz:=1) (by':=40) rfl rfl rfl rfl rfl (by kernel_rfl) rfl rfl rfl (by simp) (by first|(simp[dR];done)|(simp[dR];omega)) rfl rfl) ?_
    refine .c (.fB 0 0 false)<|.c (.sT 1 false) ?_
    refine .nil ⟨by kernel_rfl,?_⟩
    refine kb_n<|ks_n<|.region<|.c .m<|.c .pl<|.c .a<|.nil ?_
    refine kl_k [(110,110),(111,111),(112,134)] (.inr (.inl ⟨1,rfl,by omega,by omega,by omega,rfl⟩)) ⟨kd,kX,kX,kd,kb 110 rfl (.r2 .dt .dt),kb 134 rfl (.dt rfl (by first|exact dR_take (rR) hx1|exact dR_take1 (rR) hx1|rfl|(simp[dR];done))),kb 111 rfl (.r2 .ow .dt),trivial⟩
  ·skip
   omega
 ·skip
  refine .seq<|.r<|.c .m<|.c (.fP 0 0 false)<|.c (.l1 1)<|.c (.ln 45 2 40)<|.c .ls<|.nn ?_
  refine .cD rfl (fun h13=>?_) (fun h13=>?_)
  ·skip
   obtain⟨x,hx1⟩:∃x,g.1[i]?=some x:=⟨_,List.getElem?_eq_getElem (by omega)⟩
   have hxb:=hA _ (List.mem_of_getElem? hx1)
   refine .skip<|ks_n<|.seq<|.block ?_
   by_cases hsp:i=k
   ·skip
    obtain rfl:y=x:=by rw[hsp]at hx1;exact Option.some.inj (hy.symm.trans hx1)
    refine ACode.drawK (by kernel_rfl) (by kernel_rfl) ?_
    refine .c (.fB 0 0 false)<|.c (.b1 1)<|.c (.fP 0 0 false)<|.c (.l1 1)<|.c .m ?_
    refine .c (.xL 45 2 40 rfl rfl rfl rfl rfl (map_at hx1)) ?_
    refine .c (.fP 0 0 false)<|.c (.l1 1) ?_
    refine .c (St1.lit0 (k':=124) (e:=3) (sz:=1) (b:=true) rfl rfl rfl rfl (by kernel_rfl) rfl rfl) ?_
    refine .c (.fP 0 0 false)<|.c (.l1 1)<|.c .m ?_
    refine .c (.xL 45 2 40 rfl rfl rfl rfl rfl (map_at hx1)) ?_
    refine .c (.fP 1 0 false)<|.c (.l1 1) ?_
    refine .c (St1.appB (k':=131) (e:=3) (sz:=0) (by':=8) rfl rfl rfl rfl rfl (by kernel_rfl) rfl rfl rfl rfl (by first|rfl|simp) (by simp;omega) rfl rfl rfl) ?_
    refine .c (.bu [(0,.tmp 23),(1,.tmp 31)] [(0,1),(1,1)] [.string ByteArray.empty,.slice none 0 0]) ?_
    refine .c (St1.litB (k':=133) (e:=45) (sz:=1) (m:=0) (xs:=[.tmp 32]) rfl rfl rfl rfl rfl (by kernel_rfl) rfl rfl rfl rfl rfl) ?_
    refine .c (St1.appBB (k':=134) (e:=45) (sz:=1) (by':=40) rfl rfl rfl rfl rfl (by kernel_rfl) rfl rfl rfl rfl rfl (by first|(simp[dR];done)|(simp[dR];omega)) rfl (by first|(simp[dR];done)|(simp[dR];omega)) rfl rfl rfl) ?_
    refine .c (.fB 0 0 false)<|.c (.sT 1 false) ?_
    refine .nil ⟨by kernel_rfl,?_⟩
    refine kb_n<|ks_n<|.region<|.c .m<|.c .pl<|.c .a<|.nil ?_
    refine kl_k [(110,110),(111,111),(112,134),(113,131)] (.inr (.inr ⟨i+1,rfl,by omega,by omega,rfl⟩)) ⟨kd,kX,kX,kd,kb 110 rfl (.r2 .dt .dt),kb 134 rfl ((by first|exact .setR rfl (.cons .dt (.cons .ow .nil))|(refine Rto.eq ?_ rfl (.setR rfl (.cons .dt (.cons (.ow (k:=131)) .nil)));first|exact rwD_app hx1 (by omega)|exact rwD_own hsp hx1 (by simp)|exact rwD_own0 hsp hx1 (by simp)))),kb 131 rfl (.dt rfl),kb 111 rfl (.r2 .ow .dt),trivial⟩
   ·skip
    refine ACode.drawK (by kernel_rfl) (by kernel_rfl) ?_
    refine .c (.fB 0 0 false)<|.c (.b1 1)<|.c (.fP 0 0 false)<|.c (.l1 1)<|.c .m ?_
    refine .c (.xL 45 2 40 rfl rfl rfl rfl rfl (map_at hx1)) ?_
    refine .c (.fP 0 0 false)<|.c (.l1 1) ?_
    refine .c (St1.lit0 (k':=124) (e:=3) (sz:=1) (b:=true) rfl rfl rfl rfl (by kernel_rfl) rfl rfl) ?_
    refine .c (.fP 0 0 false)<|.c (.l1 1)<|.c .m ?_
    refine .c (.xL 45 2 40 rfl rfl rfl rfl rfl (map_at hx1)) ?_
    refine .c (.fP 1 0 false)<|.c (.l1 1) ?_
    refine .c (St1.appD (rows:=[]) (e:=3) (sz:=0) (by':=8) rfl rfl rfl rfl rfl (by kernel_rfl) rfl rfl rfl rfl rfl (by simp;omega) rfl) ?_
    refine .c (.bu [(0,.tmp 23),(1,.tmp 31)] [(0,1),(1,1)] [.string ByteArray.empty,.slice none 0 0])<|.c (.li 45 1 0 [.tmp 32]) ?_
    refine .c (St1.appB (k':=134) (e:=45) (sz:=1) (by':=40) rfl rfl rfl rfl rfl (by kernel_rfl) rfl rfl rfl rfl (by first|(simp[dR];done)|(simp[dR];omega)) (by first|(simp[dR];done)|(simp[dR];omega)) rfl rfl rfl) ?_
    refine .c (.fB 0 0 false)<|.c (.sT 1 false) ?_
    refine .nil ⟨by kernel_rfl,?_⟩
    refine kb_n<|ks_n<|.region<|.c .m<|.c .pl<|.c .a<|.nil ?_
    refine kl_k [(110,110),(111,111),(112,134)] (.inr (.inl ⟨i+1,rfl,by omega,by omega,by omega,rfl⟩)) ⟨kd,kX,kX,kd,kb 110 rfl (.r2 .dt .dt),kb 134 rfl (.dt rfl (by first|exact dR_take (rR) hx1|exact dR_take1 (rR) hx1|rfl|(simp[dR];done))),kb 111 rfl (.r2 .ow .dt),trivial⟩
  ·skip
   omega
 ·skip
  refine .seq<|.r<|.c .m<|.c (.fP 0 0 false)<|.c (.l1 1)<|.c (.ln 45 2 40)<|.c .ls<|.nn ?_
  refine .cD rfl (fun h13=>?_) (fun h13=>?_)
  ·skip
   obtain⟨x,hx1⟩:∃x,g.1[i]?=some x:=⟨_,List.getElem?_eq_getElem (by omega)⟩
   have hxb:=hA _ (List.mem_of_getElem? hx1)
   refine .skip<|ks_n<|.seq<|.block ?_
   refine ACode.drawK (by kernel_rfl) (by kernel_rfl) ?_
   refine .c (.fB 0 0 false)<|.c (.b1 1)<|.c (.fP 0 0 false)<|.c (.l1 1)<|.c .m ?_
   refine .c (.xL 45 2 40 rfl rfl rfl rfl rfl (map_at hx1)) ?_
   refine .c (.fP 0 0 false)<|.c (.l1 1) ?_
   refine .c (St1.lit0 (k':=124) (e:=3) (sz:=1) (b:=true) rfl rfl rfl rfl (by kernel_rfl) rfl rfl) ?_
   refine .c (.fP 0 0 false)<|.c (.l1 1)<|.c .m ?_
   refine .c (.xL 45 2 40 rfl rfl rfl rfl rfl (map_at hx1)) ?_
   refine .c (.fP 1 0 false)<|.c (.l1 1) ?_
   refine .c (St1.appD (rows:=[]) (e:=3) (sz:=0) (by':=8) rfl rfl rfl rfl rfl (by kernel_rfl) rfl rfl rfl rfl rfl (by simp;omega) rfl) ?_
   refine .c (.bu [(0,.tmp 23),(1,.tmp 31)] [(0,1),(1,1)] [.string ByteArray.empty,.slice none 0 0])<|.c (.li 45 1 0 [.tmp 32]) ?_
   refine .c (St1.appB (k':=134) (e:=45) (sz:=1) (by':=40) rfl rfl rfl rfl rfl (by kernel_rfl) rfl rfl rfl rfl (by rw[rwD_len,List.length_take];omega) (by rw[rwD_len,List.length_take];simp;omega) rfl rfl rfl) ?_
   refine .c (.fB 0 0 false)<|.c (.sT 1 false) ?_
   refine .nil ⟨by kernel_rfl,?_⟩
   refine kb_n<|ks_n<|.region<|.c .m<|.c .pl<|.c .a<|.nil ?_
   refine kl_k [(110,110),(111,111),(112,134),(113,113)] (.inr (.inr ⟨i+1,rfl,by omega,by omega,rfl⟩)) ⟨kd,kX,kX,kd,kb 110 rfl (.r2 .dt .dt),kb 134 rfl ((by first|exact .setR rfl (.cons .dt (.cons .ow .nil))|(refine Rto.eq ?_ rfl (.setR rfl (.cons .dt (.cons (.ow (k:=113)) .nil)));first|exact rwD_app hx1 (by omega)|exact rwD_own hsp hx1 (by simp)|exact rwD_own0 hsp hx1 (by simp)))),kb 113 rfl (.dt rfl),kb 111 rfl (.r2 .ow .dt),trivial⟩
  ·skip
   obtain rfl:i=g.1.length:=by omega
   refine .exit<|ks_e<|kl_e<|kb_hit<|ks_n<|.seq<|.seq ?_
   refine .keep [eP 1 (rG g),eB 2 760 2,eB 3 761 2,(.b 760,.b 30 2 [[nl,nl]]),eU 760,(.b 762,.b 45 2 (rwD g.1 k 763 y.1 y.2.length)),eU 762,(.b 763,.b 3 1 (dR (y.2.map rI))),eU 763,(.b 761,.b 30 2 [[.own 762 2 (g.1.length),nl]]),eU 761] [(760,110),(761,111),(762,112),(763,113)] ⟨kd,kX,kX,kb 110 rfl (.r2 .dt .dt),kb 112 rfl ((by first|exact .setR rfl (.cons .dt (.cons .ow .nil))|(rw[List.take_length];exact .setR rfl (.cons .dt (.cons .ow .nil))))),kb 113 rfl (.dt rfl),kb 111 rfl (.r2 .ow .dt),trivial⟩ ?_
   refine .region<|.c .a<|.nn<|.block ?_
   refine .loopK (fun m σ=>(∃j:Nat,m=g.2.length -j∧(j=0)∧σ=[eP 1 (rG g),eB 2 120 2,eB 3 121 2,eN 5 (j:Nat),(.b 120,.b 30 2 [[nl,nl]]),eU 120,(.b 122,.b 45 2 (rwD g.1 k 123 y.1 y.2.length)),eU 122,(.b 123,.b 3 1 (dR (y.2.map rI))),eU 123,(.b 121,.b 30 2 [[.own 122 2 (g.1.length),nl]]),eU 121])∨(∃j:Nat,m=g.2.length -j∧(1≤j)∧(j≤g.2.length)∧σ=[eP 1 (rG g),eB 2 120 2,eB 3 121 2,eN 5 (j:Nat),(.b 120,.b 30 2 [[nl,nl]]),eU 120,(.b 122,.b 45 2 (rwD g.1 k 123 y.1 y.2.length)),eU 122,(.b 123,.b 3 1 (dR (y.2.map rI))),eU 123,(.b 124,.b 80 2 (dR ((g.2.take j).map rP))),eU 124,(.b 121,.b 30 2 [[.own 122 2 (g.1.length),.own 124 2 (j)]]),eU 121])) [(120,760),(121,761),(122,762),(123,763)] (.inl ⟨0,rfl,rfl,rfl⟩) ⟨kd,kX,kX,kd,kb 760 rfl (.r2 .dt .dt),kb 762 rfl ((by first|exact .setR rfl (.cons .dt (.cons .ow .nil))|(rw[List.take_length];exact .setR rfl (.cons .dt (.cons .ow .nil))))),kb 763 rfl (.dt rfl),kb 761 rfl (.r2 .ow .dt),trivial⟩ ?_
   rintro m σ (⟨j,hm0,rfl,rfl⟩|⟨j,hm0,hj1,hj2,rfl⟩)
   ·skip
    refine .seq<|.r<|.c .m<|.c (.fP 1 0 false)<|.c (.l1 1)<|.c (.ln 80 2 48)<|.c .ls<|.nn ?_
    refine .cD rfl (fun h40=>?_) (fun h40=>?_)
    ·skip
     obtain⟨x,hx1⟩:∃u,g.2[0]?=some u:=⟨_,List.getElem?_eq_getElem (by omega)⟩
     obtain⟨hsm,hpb,hps⟩:=hP _ (List.mem_of_getElem? hx1)
     have hsl:=hsm.1
     refine .skip<|ks_n<|.seq<|.block<|.r<|.c (.fP 1 0 false)<|.c (.l1 1)<|.c .m ?_
     refine .c (.xL 80 2 48 rfl rfl rfl rfl rfl (map_at hx1)) ?_
     refine .c (.fP 0 0 false)<|.c (.l1 1) ?_
     refine .c (.cO [.tmp 48] [(100,149)] rfl rfl rfl rfl (l2Copy_own (hP x (List.mem_of_getElem? hx1)).1) rfl trivial flatS.nil (flatS.nil.cons rfl) HB.nil.data outS_one) ?_
     refine .c (.bu [(0,.tmp 49)] [(0,1),(1,1)] [.slice none 0 0,.slice none 0 0])<|.c (.al 106 [.slice none 0 0,.slice none 0 0])<|.c (.sT 2 true)<|.nn<|.seq<|.r<|.c .a<|.nn<|.block ?_
     refine .loopK (fun m σ=>(∃k2:Nat,m=x.2.length -k2∧(k2=0)∧σ=[eP 1 (rG g),eB 2 130 2,eB 3 131 2,eN 5 (0:Nat),eB 6 134 2,eN 7 (k2:Nat),(.b 130,.b 30 2 [[nl,nl]]),eU 130,(.b 132,.b 45 2 (rwD g.1 k 133 y.1 y.2.length)),eU 132,(.b 133,.b 3 1 (dR (y.2.map rI))),eU 133,(.b 131,.b 30 2 [[.own 132 2 (g.1.length),nl]]),eU 131,(.b 135,.b 148 2 (dR (x.1.map rL))),eU 135,(.b 134,.b 80 2 [[.own 135 2 (x.1.length),nl]]),eU 134])∨(∃k2:Nat,m=x.2.length -k2∧(1≤k2)∧(k2≤x.2.length)∧σ=[eP 1 (rG g),eB 2 130 2,eB 3 131 2,eN 5 (0:Nat),eB 6 134 2,eN 7 (k2:Nat),(.b 130,.b 30 2 [[nl,nl]]),eU 130,(.b 132,.b 45 2 (rwD g.1 k 133 y.1 y.2.length)),eU 132,(.b 133,.b 3 1 (dR (y.2.map rI))),eU 133,(.b 131,.b 30 2 [[.own 132 2 (g.1.length),nl]]),eU 131,(.b 135,.b 148 2 (dR (x.1.map rL))),eU 135,(.b 136,.b 66 9 (dR ((x.2.take k2).map rS))),eU 136,(.b 134,.b 80 2 [[.own 135 2 (x.1.length),.own 136 9 (k2)]]),eU 134])) [(130,120),(131,121),(132,122),(133,123),(134,106),(135,149)] (.inl ⟨0,rfl,rfl,rfl⟩) ⟨kd,kX,kX,kd,kX,kd,kb 120 rfl (.r2 .dt .dt),kb 122 rfl ((by first|exact .setR rfl (.cons .dt (.cons .ow .nil))|(rw[List.take_length];exact .setR rfl (.cons .dt (.cons .ow .nil))))),kb 123 rfl (.dt rfl),kb 121 rfl (.r2 .ow .dt),kb 149 rfl (.dt rfl),kb 106 rfl (.r2 .ow .dt),trivial⟩ ?_
     rintro m σ (⟨k2,hm0,rfl,rfl⟩|⟨k2,hm0,hk21,hk22,rfl⟩)
     ·skip
      refine .seq<|.r<|.c .m<|.c (.fP 1 0 false)<|.c (.l1 1)<|.c .m ?_
      refine .c (.xL 80 2 48 rfl rfl rfl rfl rfl (map_at hx1)) ?_
      refine .c (.fP 1 0 false)<|.c (.l1 1)<|.c (.ln 66 9 152)<|.c .ls<|.nn ?_
      refine .cD rfl (fun h59=>?_) (fun h59=>?_)
      ·skip
       obtain⟨z,hz1⟩:∃u,x.2[0]?=some u:=⟨_,List.getElem?_eq_getElem (by omega)⟩
       refine .skip<|ks_n<|.seq<|.block ?_
       refine ACode.drawK (by kernel_rfl) (by kernel_rfl) ?_
       refine .c (.fB 1 0 false)<|.c (.b1 1)<|.c (.fP 1 0 false)<|.c (.l1 1)<|.c .m ?_
       refine .c (.xL 80 2 48 rfl rfl rfl rfl rfl (map_at hx1)) ?_
       refine .c (.fP 1 0 false)<|.c (.l1 1)<|.c .m ?_
       refine .c (.xL 66 9 152 rfl rfl rfl rfl rfl (map_at hz1)) ?_
       refine .c (.lN 9) ?_
       refine .c (.cP [.tmp 72] rfl rfl rfl rfl (l3Copy_fn z ((hP x (List.mem_of_getElem? hx1)).2.2 z (List.mem_of_getElem? hz1))) rfl) ?_
       refine .c (.li 66 8 0 [.tmp 73]) ?_
       refine .c (St1.appN (k':=175) (e:=66) (sz:=8) (by':=152) rfl rfl rfl rfl rfl (by kernel_rfl) rfl rfl rfl (by simp) (by first|(simp[dR];done)|(simp[dR];omega)) rfl rfl) ?_
       refine .c (.fB 1 0 false)<|.c (.sT 1 false) ?_
       refine .nil ⟨by kernel_rfl,?_⟩
       refine kb_n<|ks_n<|.region<|.c .m<|.c .pl<|.c .a<|.nil ?_
       refine kl_k [(130,130),(131,131),(132,132),(133,133),(134,134),(135,135),(136,175)] (.inr ⟨1,rfl,by omega,by omega,rfl⟩) ⟨kd,kX,kX,kd,kX,kd,kb 130 rfl (.r2 .dt .dt),kb 132 rfl ((by first|exact .setR rfl (.cons .dt (.cons .ow .nil))|(rw[List.take_length];exact .setR rfl (.cons .dt (.cons .ow .nil))))),kb 133 rfl (.dt rfl),kb 131 rfl (.r2 .ow .dt),kb 135 rfl (.dt rfl),kb 175 rfl (.dt rfl (by first|exact dR_take (rS) hz1|exact dR_take1 (rS) hz1|rfl|(simp[dR];done))),kb 134 rfl (.r2 .ow .ow),trivial⟩
      ·skip
       have hnS:x.2=[]:=List.eq_nil_of_length_eq_zero (by omega)
       refine .exit<|ks_e<|kl_e<|kb_hit<|ks_n ?_
       refine .keep [eP 1 (rG g),eB 2 840 2,eB 3 841 2,eN 5 (0:Nat),eB 6 844 2,(.b 840,.b 30 2 [[nl,nl]]),eU 840,(.b 842,.b 45 2 (rwD g.1 k 843 y.1 y.2.length)),eU 842,(.b 843,.b 3 1 (dR (y.2.map rI))),eU 843,(.b 841,.b 30 2 [[.own 842 2 (g.1.length),nl]]),eU 841,(.b 844,.b 80 2 [[.d (dLs x.1),.d (dMs x.2)]]),eU 844] [(840,130),(841,131),(842,132),(843,133),(844,134)] ⟨kd,kX,kX,kd,kX,kb 130 rfl (.r2 .dt .dt),kb 132 rfl ((by first|exact .setR rfl (.cons .dt (.cons .ow .nil))|(rw[List.take_length];exact .setR rfl (.cons .dt (.cons .ow .nil))))),kb 133 rfl (.dt rfl),kb 131 rfl (.r2 .ow .dt),kb 134 rfl (.r2 (.fz rfl (by first|rfl|(rw[List.take_length];done)|(rw[List.take_length];rfl)) (by first|rfl|(simp;done)|(simp;omega)) (by omega)) (Cto.nilE 9 (by rw[hnS];rfl))),trivial⟩ ?_
       refine .region<|.c (.fB 1 0 false)<|.c (.b1 1)<|.c (.bN 2)<|.c (.li 80 1 0 [.tmp 79]) ?_
       refine .c (St1.appN (k':=181) (e:=80) (sz:=1) (by':=48) rfl rfl rfl rfl rfl (by kernel_rfl) rfl rfl rfl (by simp) (by first|(simp[dR];done)|(simp[dR];omega)) rfl rfl) ?_
       refine .c (.fB 1 0 false)<|.c (.sT 1 false)<|.nil<|kb_n<|ks_n<|.region<|.c .m<|.c .pl<|.c .a<|.nil ?_
       refine kl_k [(120,840),(121,841),(122,842),(123,843),(124,181)] (.inr ⟨1,rfl,by omega,by omega,rfl⟩) ⟨kd,kX,kX,kd,kb 840 rfl (.r2 .dt .dt),kb 842 rfl ((by first|exact .setR rfl (.cons .dt (.cons .ow .nil))|(rw[List.take_length];exact .setR rfl (.cons .dt (.cons .ow .nil))))),kb 843 rfl (.dt rfl),kb 181 rfl (.dt rfl (by first|exact dR_take (rP) hx1|exact dR_take1 (rP) hx1|rfl|(simp[dR];done))),kb 841 rfl (.r2 .ow .ow),trivial⟩
     ·skip
      refine .seq<|.r<|.c .m<|.c (.fP 1 0 false)<|.c (.l1 1)<|.c .m ?_
      refine .c (.xL 80 2 48 rfl rfl rfl rfl rfl (map_at hx1)) ?_
      refine .c (.fP 1 0 false)<|.c (.l1 1)<|.c (.ln 66 9 152)<|.c .ls<|.nn ?_
      refine .cD rfl (fun h59=>?_) (fun h59=>?_)
      ·skip
       obtain⟨z,hz1⟩:∃u,x.2[k2]?=some u:=⟨_,List.getElem?_eq_getElem (by omega)⟩
       refine .skip<|ks_n<|.seq<|.block ?_
       refine ACode.drawK (by kernel_rfl) (by kernel_rfl) ?_
       refine .c (.fB 1 0 false)<|.c (.b1 1)<|.c (.fP 1 0 false)<|.c (.l1 1)<|.c .m ?_
       refine .c (.xL 80 2 48 rfl rfl rfl rfl rfl (map_at hx1)) ?_
       refine .c (.fP 1 0 false)<|.c (.l1 1)<|.c .m ?_
       refine .c (.xL 66 9 152 rfl rfl rfl rfl rfl (map_at hz1)) ?_
       refine .c (.lN 9) ?_
       refine .c (.cP [.tmp 72] rfl rfl rfl rfl (l3Copy_fn z ((hP x (List.mem_of_getElem? hx1)).2.2 z (List.mem_of_getElem? hz1))) rfl) ?_
       refine .c (.li 66 8 0 [.tmp 73]) ?_
       refine .c (St1.appB (k':=175) (e:=66) (sz:=8) (by':=152) rfl rfl rfl rfl rfl (by kernel_rfl) rfl rfl rfl rfl (by first|(simp[dR];done)|(simp[dR];omega)) (by first|(simp[dR];done)|(simp[dR];omega)) rfl rfl rfl) ?_
       refine .c (.fB 1 0 false)<|.c (.sT 1 false) ?_
       refine .nil ⟨by kernel_rfl,?_⟩
       refine kb_n<|ks_n<|.region<|.c .m<|.c .pl<|.c .a<|.nil ?_
       refine kl_k [(130,130),(131,131),(132,132),(133,133),(134,134),(135,135),(136,175)] (.inr ⟨k2+1,rfl,by omega,by omega,rfl⟩) ⟨kd,kX,kX,kd,kX,kd,kb 130 rfl (.r2 .dt .dt),kb 132 rfl ((by first|exact .setR rfl (.cons .dt (.cons .ow .nil))|(rw[List.take_length];exact .setR rfl (.cons .dt (.cons .ow .nil))))),kb 133 rfl (.dt rfl),kb 131 rfl (.r2 .ow .dt),kb 135 rfl (.dt rfl),kb 175 rfl (.dt rfl (by first|exact dR_take (rS) hz1|exact dR_take1 (rS) hz1|rfl|(simp[dR];done))),kb 134 rfl (.r2 .ow .ow),trivial⟩
      ·skip
       obtain rfl:k2=x.2.length:=by omega
       refine .exit<|ks_e<|kl_e<|kb_hit<|ks_n ?_
       refine .keep [eP 1 (rG g),eB 2 840 2,eB 3 841 2,eN 5 (0:Nat),eB 6 844 2,(.b 840,.b 30 2 [[nl,nl]]),eU 840,(.b 842,.b 45 2 (rwD g.1 k 843 y.1 y.2.length)),eU 842,(.b 843,.b 3 1 (dR (y.2.map rI))),eU 843,(.b 841,.b 30 2 [[.own 842 2 (g.1.length),nl]]),eU 841,(.b 844,.b 80 2 [[.d (dLs x.1),.d (dMs x.2)]]),eU 844] [(840,130),(841,131),(842,132),(843,133),(844,134)] ⟨kd,kX,kX,kd,kX,kb 130 rfl (.r2 .dt .dt),kb 132 rfl ((by first|exact .setR rfl (.cons .dt (.cons .ow .nil))|(rw[List.take_length];exact .setR rfl (.cons .dt (.cons .ow .nil))))),kb 133 rfl (.dt rfl),kb 131 rfl (.r2 .ow .dt),kb 134 rfl (.r2 (.fz rfl (by first|rfl|(rw[List.take_length];done)|(rw[List.take_length];rfl)) (by first|rfl|(simp;done)|(simp;omega)) (by omega)) (.fz rfl (by first|rfl|(rw[List.take_length];done)|(rw[List.take_length];rfl)) (by first|rfl|(simp;done)|(simp;omega)) (by omega))),trivial⟩ ?_
       refine .region<|.c (.fB 1 0 false)<|.c (.b1 1)<|.c (.bN 2)<|.c (.li 80 1 0 [.tmp 79]) ?_
       refine .c (St1.appN (k':=181) (e:=80) (sz:=1) (by':=48) rfl rfl rfl rfl rfl (by kernel_rfl) rfl rfl rfl (by simp) (by first|(simp[dR];done)|(simp[dR];omega)) rfl rfl) ?_
       refine .c (.fB 1 0 false)<|.c (.sT 1 false)<|.nil<|kb_n<|ks_n<|.region<|.c .m<|.c .pl<|.c .a<|.nil ?_
       refine kl_k [(120,840),(121,841),(122,842),(123,843),(124,181)] (.inr ⟨1,rfl,by omega,by omega,rfl⟩) ⟨kd,kX,kX,kd,kb 840 rfl (.r2 .dt .dt),kb 842 rfl ((by first|exact .setR rfl (.cons .dt (.cons .ow .nil))|(rw[List.take_length];exact .setR rfl (.cons .dt (.cons .ow .nil))))),kb 843 rfl (.dt rfl),kb 181 rfl (.dt rfl (by first|exact dR_take (rP) hx1|exact dR_take1 (rP) hx1|rfl|(simp[dR];done))),kb 841 rfl (.r2 .ow .ow),trivial⟩
    ·skip
     have hnP:g.2=[]:=List.eq_nil_of_length_eq_zero (by omega)
     refine .exit<|ks_e<|kl_e<|kb_hit<|ks_n<|.r<|.c (.bN 2)<|.c (.sT 2 true)<|.nn<|.ret ?_
     refine kf_wret [eB 2 100 2,(.b 101,.b 45 2 (rwD g.1 k 102 y.1 y.2.length)),eU 101,(.b 102,.b 3 1 (dR (y.2.map rI))),eU 102,(.b 100,.b 30 2 [[.own 101 2 (g.1.length),.d (dPts g.2)]]),eU 100] (Wk.keep [(100,120),(101,122),(102,123)] rfl rfl ⟨kX,kb 122 rfl ((by first|exact .setR rfl (.cons .dt (.cons .ow .nil))|(rw[List.take_length];exact .setR rfl (.cons .dt (.cons .ow .nil))))),kb 123 rfl (.dt rfl),kb 120 rfl (.r2 .ow (Cto.nilE 2 (by rw[hnP];rfl))),trivial⟩) rfl ?_ (two_boxG rfl rfl)
     rfl
   ·skip
    refine .seq<|.r<|.c .m<|.c (.fP 1 0 false)<|.c (.l1 1)<|.c (.ln 80 2 48)<|.c .ls<|.nn ?_
    refine .cD rfl (fun h40=>?_) (fun h40=>?_)
    ·skip
     obtain⟨x,hx1⟩:∃u,g.2[j]?=some u:=⟨_,List.getElem?_eq_getElem (by omega)⟩
     obtain⟨hsm,hpb,hps⟩:=hP _ (List.mem_of_getElem? hx1)
     have hsl:=hsm.1
     refine .skip<|ks_n<|.seq<|.block<|.r<|.c (.fP 1 0 false)<|.c (.l1 1)<|.c .m ?_
     refine .c (.xL 80 2 48 rfl rfl rfl rfl rfl (map_at hx1)) ?_
     refine .c (.fP 0 0 false)<|.c (.l1 1) ?_
     refine .c (.cO [.tmp 48] [(100,149)] rfl rfl rfl rfl (l2Copy_own (hP x (List.mem_of_getElem? hx1)).1) rfl trivial flatS.nil (flatS.nil.cons rfl) HB.nil.data outS_one) ?_
     refine .c (.bu [(0,.tmp 49)] [(0,1),(1,1)] [.slice none 0 0,.slice none 0 0])<|.c (.al 106 [.slice none 0 0,.slice none 0 0])<|.c (.sT 2 true)<|.nn<|.seq<|.r<|.c .a<|.nn<|.block ?_
     refine .loopK (fun m σ=>(∃k2:Nat,m=x.2.length -k2∧(k2=0)∧σ=[eP 1 (rG g),eB 2 130 2,eB 3 131 2,eN 5 (j:Nat),eB 6 135 2,eN 7 (k2:Nat),(.b 130,.b 30 2 [[nl,nl]]),eU 130,(.b 132,.b 45 2 (rwD g.1 k 133 y.1 y.2.length)),eU 132,(.b 133,.b 3 1 (dR (y.2.map rI))),eU 133,(.b 134,.b 80 2 (dR ((g.2.take j).map rP))),eU 134,(.b 131,.b 30 2 [[.own 132 2 (g.1.length),.own 134 2 (j)]]),eU 131,(.b 136,.b 148 2 (dR (x.1.map rL))),eU 136,(.b 135,.b 80 2 [[.own 136 2 (x.1.length),nl]]),eU 135])∨(∃k2:Nat,m=x.2.length -k2∧(1≤k2)∧(k2≤x.2.length)∧σ=[eP 1 (rG g),eB 2 130 2,eB 3 131 2,eN 5 (j:Nat),eB 6 135 2,eN 7 (k2:Nat),(.b 130,.b 30 2 [[nl,nl]]),eU 130,(.b 132,.b 45 2 (rwD g.1 k 133 y.1 y.2.length)),eU 132,(.b 133,.b 3 1 (dR (y.2.map rI))),eU 133,(.b 134,.b 80 2 (dR ((g.2.take j).map rP))),eU 134,(.b 131,.b 30 2 [[.own 132 2 (g.1.length),.own 134 2 (j)]]),eU 131,(.b 136,.b 148 2 (dR (x.1.map rL))),eU 136,(.b 137,.b 66 9 (dR ((x.2.take k2).map rS))),eU 137,(.b 135,.b 80 2 [[.own 136 2 (x.1.length),.own 137 9 (k2)]]),eU 135])) [(130,120),(131,121),(132,122),(133,123),(134,124),(135,106),(136,149)] (.inl ⟨0,rfl,rfl,rfl⟩) ⟨kd,kX,kX,kd,kX,kd,kb 120 rfl (.r2 .dt .dt),kb 122 rfl ((by first|exact .setR rfl (.cons .dt (.cons .ow .nil))|(rw[List.take_length];exact .setR rfl (.cons .dt (.cons .ow .nil))))),kb 123 rfl (.dt rfl),kb 124 rfl (.dt rfl),kb 121 rfl (.r2 .ow .ow),kb 149 rfl (.dt rfl),kb 106 rfl (.r2 .ow .dt),trivial⟩ ?_
     rintro m σ (⟨k2,hm0,rfl,rfl⟩|⟨k2,hm0,hk21,hk22,rfl⟩)
     ·skip
      refine .seq<|.r<|.c .m<|.c (.fP 1 0 false)<|.c (.l1 1)<|.c .m ?_
      refine .c (.xL 80 2 48 rfl rfl rfl rfl rfl (map_at hx1)) ?_
      refine .c (.fP 1 0 false)<|.c (.l1 1)<|.c (.ln 66 9 152)<|.c .ls<|.nn ?_
      refine .cD rfl (fun h59=>?_) (fun h59=>?_)
      ·skip
       obtain⟨z,hz1⟩:∃u,x.2[0]?=some u:=⟨_,List.getElem?_eq_getElem (by omega)⟩
       refine .skip<|ks_n<|.seq<|.block ?_
       refine ACode.drawK (by kernel_rfl) (by kernel_rfl) ?_
       refine .c (.fB 1 0 false)<|.c (.b1 1)<|.c (.fP 1 0 false)<|.c (.l1 1)<|.c .m ?_
       refine .c (.xL 80 2 48 rfl rfl rfl rfl rfl (map_at hx1)) ?_
       refine .c (.fP 1 0 false)<|.c (.l1 1)<|.c .m ?_
       refine .c (.xL 66 9 152 rfl rfl rfl rfl rfl (map_at hz1)) ?_
       refine .c (.lN 9) ?_
       refine .c (.cP [.tmp 72] rfl rfl rfl rfl (l3Copy_fn z ((hP x (List.mem_of_getElem? hx1)).2.2 z (List.mem_of_getElem? hz1))) rfl) ?_
       refine .c (.li 66 8 0 [.tmp 73]) ?_
       refine .c (St1.appN (k':=175) (e:=66) (sz:=8) (by':=152) rfl rfl rfl rfl rfl (by kernel_rfl) rfl rfl rfl (by simp) (by first|(simp[dR];done)|(simp[dR];omega)) rfl rfl) ?_
       refine .c (.fB 1 0 false)<|.c (.sT 1 false) ?_
       refine .nil ⟨by kernel_rfl,?_⟩
       refine kb_n<|ks_n<|.region<|.c .m<|.c .pl<|.c .a<|.nil ?_
       refine kl_k [(130,130),(131,131),(132,132),(133,133),(134,134),(135,135),(136,136),(137,175)] (.inr ⟨1,rfl,by omega,by omega,rfl⟩) ⟨kd,kX,kX,kd,kX,kd,kb 130 rfl (.r2 .dt .dt),kb 132 rfl ((by first|exact .setR rfl (.cons .dt (.cons .ow .nil))|(rw[List.take_length];exact .setR rfl (.cons .dt (.cons .ow .nil))))),kb 133 rfl (.dt rfl),kb 134 rfl (.dt rfl),kb 131 rfl (.r2 .ow .ow),kb 136 rfl (.dt rfl),kb 175 rfl (.dt rfl (by first|exact dR_take (rS) hz1|exact dR_take1 (rS) hz1|rfl|(simp[dR];done))),kb 135 rfl (.r2 .ow .ow),trivial⟩
      ·skip
       have hnS:x.2=[]:=List.eq_nil_of_length_eq_zero (by omega)
       refine .exit<|ks_e<|kl_e<|kb_hit<|ks_n ?_
       refine .keep [eP 1 (rG g),eB 2 840 2,eB 3 841 2,eN 5 (j:Nat),eB 6 845 2,(.b 840,.b 30 2 [[nl,nl]]),eU 840,(.b 842,.b 45 2 (rwD g.1 k 843 y.1 y.2.length)),eU 842,(.b 843,.b 3 1 (dR (y.2.map rI))),eU 843,(.b 844,.b 80 2 (dR ((g.2.take j).map rP))),eU 844,(.b 841,.b 30 2 [[.own 842 2 (g.1.length),.own 844 2 (j)]]),eU 841,(.b 845,.b 80 2 [[.d (dLs x.1),.d (dMs x.2)]]),eU 845] [(840,130),(841,131),(842,132),(843,133),(844,134),(845,135)] ⟨kd,kX,kX,kd,kX,kb 130 rfl (.r2 .dt .dt),kb 132 rfl ((by first|exact .setR rfl (.cons .dt (.cons .ow .nil))|(rw[List.take_length];exact .setR rfl (.cons .dt (.cons .ow .nil))))),kb 133 rfl (.dt rfl),kb 134 rfl (.dt rfl),kb 131 rfl (.r2 .ow .ow),kb 135 rfl (.r2 (.fz rfl (by first|rfl|(rw[List.take_length];done)|(rw[List.take_length];rfl)) (by first|rfl|(simp;done)|(simp;omega)) (by omega)) (Cto.nilE 9 (by rw[hnS];rfl))),trivial⟩ ?_
       refine .region<|.c (.fB 1 0 false)<|.c (.b1 1)<|.c (.bN 2)<|.c (.li 80 1 0 [.tmp 79]) ?_
       refine .c (St1.appB (k':=181) (e:=80) (sz:=1) (by':=48) rfl rfl rfl rfl rfl (by kernel_rfl) rfl rfl rfl rfl (by first|(simp[dR];done)|(simp[dR];omega)) (by first|(simp[dR];done)|(simp[dR];omega)) rfl rfl rfl) ?_
       refine .c (.fB 1 0 false)<|.c (.sT 1 false)<|.nil<|kb_n<|ks_n<|.region<|.c .m<|.c .pl<|.c .a<|.nil ?_
       refine kl_k [(120,840),(121,841),(122,842),(123,843),(124,181)] (.inr ⟨j+1,rfl,by omega,by omega,rfl⟩) ⟨kd,kX,kX,kd,kb 840 rfl (.r2 .dt .dt),kb 842 rfl ((by first|exact .setR rfl (.cons .dt (.cons .ow .nil))|(rw[List.take_length];exact .setR rfl (.cons .dt (.cons .ow .nil))))),kb 843 rfl (.dt rfl),kb 181 rfl (.dt rfl (by first|exact dR_take (rP) hx1|exact dR_take1 (rP) hx1|rfl|(simp[dR];done))),kb 841 rfl (.r2 .ow .ow),trivial⟩
     ·skip
      refine .seq<|.r<|.c .m<|.c (.fP 1 0 false)<|.c (.l1 1)<|.c .m ?_
      refine .c (.xL 80 2 48 rfl rfl rfl rfl rfl (map_at hx1)) ?_
      refine .c (.fP 1 0 false)<|.c (.l1 1)<|.c (.ln 66 9 152)<|.c .ls<|.nn ?_
      refine .cD rfl (fun h59=>?_) (fun h59=>?_)
      ·skip
       obtain⟨z,hz1⟩:∃u,x.2[k2]?=some u:=⟨_,List.getElem?_eq_getElem (by omega)⟩
       refine .skip<|ks_n<|.seq<|.block ?_
       refine ACode.drawK (by kernel_rfl) (by kernel_rfl) ?_
       refine .c (.fB 1 0 false)<|.c (.b1 1)<|.c (.fP 1 0 false)<|.c (.l1 1)<|.c .m ?_
       refine .c (.xL 80 2 48 rfl rfl rfl rfl rfl (map_at hx1)) ?_
       refine .c (.fP 1 0 false)<|.c (.l1 1)<|.c .m ?_
       refine .c (.xL 66 9 152 rfl rfl rfl rfl rfl (map_at hz1)) ?_
       refine .c (.lN 9) ?_
       refine .c (.cP [.tmp 72] rfl rfl rfl rfl (l3Copy_fn z ((hP x (List.mem_of_getElem? hx1)).2.2 z (List.mem_of_getElem? hz1))) rfl) ?_
       refine .c (.li 66 8 0 [.tmp 73]) ?_
       refine .c (St1.appB (k':=175) (e:=66) (sz:=8) (by':=152) rfl rfl rfl rfl rfl (by kernel_rfl) rfl rfl rfl rfl (by first|(simp[dR];done)|(simp[dR];omega)) (by first|(simp[dR];done)|(simp[dR];omega)) rfl rfl rfl) ?_
       refine .c (.fB 1 0 false)<|.c (.sT 1 false) ?_
       refine .nil ⟨by kernel_rfl,?_⟩
       refine kb_n<|ks_n<|.region<|.c .m<|.c .pl<|.c .a<|.nil ?_
       refine kl_k [(130,130),(131,131),(132,132),(133,133),(134,134),(135,135),(136,136),(137,175)] (.inr ⟨k2+1,rfl,by omega,by omega,rfl⟩) ⟨kd,kX,kX,kd,kX,kd,kb 130 rfl (.r2 .dt .dt),kb 132 rfl ((by first|exact .setR rfl (.cons .dt (.cons .ow .nil))|(rw[List.take_length];exact .setR rfl (.cons .dt (.cons .ow .nil))))),kb 133 rfl (.dt rfl),kb 134 rfl (.dt rfl),kb 131 rfl (.r2 .ow .ow),kb 136 rfl (.dt rfl),kb 175 rfl (.dt rfl (by first|exact dR_take (rS) hz1|exact dR_take1 (rS) hz1|rfl|(simp[dR];done))),kb 135 rfl (.r2 .ow .ow),trivial⟩
      ·skip
       obtain rfl:k2=x.2.length:=by omega
       refine .exit<|ks_e<|kl_e<|kb_hit<|ks_n ?_
       refine .keep [eP 1 (rG g),eB 2 840 2,eB 3 841 2,eN 5 (j:Nat),eB 6 845 2,(.b 840,.b 30 2 [[nl,nl]]),eU 840,(.b 842,.b 45 2 (rwD g.1 k 843 y.1 y.2.length)),eU 842,(.b 843,.b 3 1 (dR (y.2.map rI))),eU 843,(.b 844,.b 80 2 (dR ((g.2.take j).map rP))),eU 844,(.b 841,.b 30 2 [[.own 842 2 (g.1.length),.own 844 2 (j)]]),eU 841,(.b 845,.b 80 2 [[.d (dLs x.1),.d (dMs x.2)]]),eU 845] [(840,130),(841,131),(842,132),(843,133),(844,134),(845,135)] ⟨kd,kX,kX,kd,kX,kb 130 rfl (.r2 .dt .dt),kb 132 rfl ((by first|exact .setR rfl (.cons .dt (.cons .ow .nil))|(rw[List.take_length];exact .setR rfl (.cons .dt (.cons .ow .nil))))),kb 133 rfl (.dt rfl),kb 134 rfl (.dt rfl),kb 131 rfl (.r2 .ow .ow),kb 135 rfl (.r2 (.fz rfl (by first|rfl|(rw[List.take_length];done)|(rw[List.take_length];rfl)) (by first|rfl|(simp;done)|(simp;omega)) (by omega)) (.fz rfl (by first|rfl|(rw[List.take_length];done)|(rw[List.take_length];rfl)) (by first|rfl|(simp;done)|(simp;omega)) (by omega))),trivial⟩ ?_
       refine .region<|.c (.fB 1 0 false)<|.c (.b1 1)<|.c (.bN 2)<|.c (.li 80 1 0 [.tmp 79]) ?_
       refine .c (St1.appB (k':=181) (e:=80) (sz:=1) (by':=48) rfl rfl rfl rfl rfl (by kernel_rfl) rfl rfl rfl rfl (by first|(simp[dR];done)|(simp[dR];omega)) (by first|(simp[dR];done)|(simp[dR];omega)) rfl rfl rfl) ?_
       refine .c (.fB 1 0 false)<|.c (.sT 1 false)<|.nil<|kb_n<|ks_n<|.region<|.c .m<|.c .pl<|.c .a<|.nil ?_
       refine kl_k [(120,840),(121,841),(122,842),(123,843),(124,181)] (.inr ⟨j+1,rfl,by omega,by omega,rfl⟩) ⟨kd,kX,kX,kd,kb 840 rfl (.r2 .dt .dt),kb 842 rfl ((by first|exact .setR rfl (.cons .dt (.cons .ow .nil))|(rw[List.take_length];exact .setR rfl (.cons .dt (.cons .ow .nil))))),kb 843 rfl (.dt rfl),kb 181 rfl (.dt rfl (by first|exact dR_take (rP) hx1|exact dR_take1 (rP) hx1|rfl|(simp[dR];done))),kb 841 rfl (.r2 .ow .ow),trivial⟩
    ·skip
     obtain rfl:j=g.2.length:=by omega
     refine .exit<|ks_e<|kl_e<|kb_hit<|ks_n<|.r<|.c (.bN 2)<|.c (.sT 2 true)<|.nn<|.ret ?_
     refine kf_wret [eB 2 100 2,(.b 101,.b 45 2 (rwD g.1 k 102 y.1 y.2.length)),eU 101,(.b 102,.b 3 1 (dR (y.2.map rI))),eU 102,(.b 100,.b 30 2 [[.own 101 2 (g.1.length),.d (dPts g.2)]]),eU 100] (Wk.keep [(100,120),(101,122),(102,123)] rfl rfl ⟨kX,kb 122 rfl ((by first|exact .setR rfl (.cons .dt (.cons .ow .nil))|(rw[List.take_length];exact .setR rfl (.cons .dt (.cons .ow .nil))))),kb 123 rfl (.dt rfl),kb 120 rfl (.r2 .ow (.fz rfl (by first|rfl|(rw[List.take_length];done)|(rw[List.take_length];rfl)) (by first|rfl|(simp;done)|(simp;omega)) (by omega))),trivial⟩) rfl ?_ (two_boxG rfl rfl)
     rfl
def wrS (M l:List Int):Nat→List Int
  |0=>l
  |i+1=>(wrS M l i).set i (M.getD i 0+1)
theorem wrS_len {M l:List Int}:∀ {i:Nat},(wrS M l i).length=l.length
  |0=>rfl
  |i+1=>by rw[wrS,List.length_set];exact wrS_len
theorem wrS_at {M l:List Int} (hM:M.length=l.length):∀ {i q:Nat},i≤l.length→(wrS M l i)[q]?=if q<i then(M.map (· +1))[q]? else l[q]?
  |0,q,_=>by rw[if_neg (by omega)];rfl
  |i+1,q,h=>by
    rw[wrS,List.getElem?_set,wrS_len]
    by_cases e:i=q
    ·subst e;rw[if_pos rfl,if_pos (by omega),if_pos (by omega),List.getElem?_map,List.getD_eq_getElem?_getD,List.getElem?_eq_getElem (by omega)];rfl
    · rw[if_neg e,wrS_at hM (by omega)]
      by_cases h2:q<i
      ·rw[if_pos h2,if_pos (by omega)]
      ·rw[if_neg h2,if_neg (by omega)]
theorem wrS_all {M l:List Int} (hM:M.length=l.length):wrS M l l.length=M.map (· +1):=by
  refine List.ext_getElem? fun q=>?_
  rw[wrS_at hM (Nat.le_refl _)]
  split
  ·rfl
  ·rw[List.getElem?_eq_none (by omega),List.getElem?_eq_none (by rw[List.length_map];omega)]
theorem shr_eq {g:Prg} {nm:ByteArray} {kA:Nat} {y:Arr} (hS:prgS g=true) (hs:szG g≤1073741824) (hy:g.1[kA]?=some y) (hnm:y.1=nm) (hfk:∀(j:Nat) z,j<kA→g.1[j]?=some z→sEq z.1 nm=false):
    wrS (insD fS g nm y.2.length 0 (insG 0 g.2).length) y.2 y.2.length=shrD g nm y.2.length:=by
  have hv:=(prgS_iff.1 hS).1
  rw[wrS_all insD_len,shrD,insD_hom]
  intro x hx a ha hn
  obtain⟨k,c,q,hI⟩:=ins_at hS hx
  obtain⟨hd1,_⟩:=acc_dims hv hy (by rw[sEq_iff.1 hn,hnm]) (by rw[hnm];exact hfk) (all_ok hI ha).1
  omega
theorem fS_b {d n:Int} (h:0≤d∧d≤5) (h':0≤n∧n≤5):0≤fS d n∧fS d n≤5:=by unfold fS;split<;>omega
theorem updN_inR {p:List Int} {ss:List Aff} {ds:List Int} (h:InR 0 5 ds) (hs:∀s∈ss,0≤affEval s p∧affEval s p≤5):∀ {i:Nat},InR 0 5 (updN fS p ss ds i)
  |0=>h
  |i+1=>by
    rw[updN]
    split
    · rename_i s hx
      by_cases hi:i<(updN fS p ss ds i).length
      · refine(updN_inR h hs).set ?_
        have h1:=(updN_inR h hs (i:=i)).getD hi
        have h2:=hs s (List.mem_of_getElem? hx)
        exact fS_b h1 h2
      ·rw[List.set_eq_of_length_le (by omega)];exact updN_inR h hs
    ·exact updN_inR h hs
theorem accD_inR {g:Prg} {nm:ByteArray} {x:Ins} {ds:List Int} (h:InR 0 5 ds) (hs:∀a∈allA g x,sEq a.1 nm=true→∀s∈a.2,0≤affEval s x.2.2∧affEval s x.2.2≤5):∀ {j:Nat},InR 0 5 (accD fS g nm x ds j)
  |0=>h
  |j+1=>by
    rw[accD]
    split
    · rename_i a ha
      split
      ·rename_i hn;exact updN_inR (accD_inR h hs) (hs a (List.mem_of_getElem? ha) hn)
      ·exact accD_inR h hs
    ·exact accD_inR h hs
theorem insD_inR {g:Prg} {nm:ByteArray} {m:Nat} (hs:∀x∈insG 0 g.2,∀a∈allA g x,sEq a.1 nm=true→∀s∈a.2,0≤affEval s x.2.2∧affEval s x.2.2≤5):∀ {i:Nat},InR 0 5 (insD fS g nm m 0 i)
  |0=>fun d hd=>by rw[insD,List.mem_replicate]at hd;omega
  |i+1=>by
    rw[insD]
    split
    ·rename_i x hx;exact accD_inR (insD_inR hs) (hs x (List.mem_of_getElem? hx))
    ·exact insD_inR hs
theorem most_inR {g:Prg} {nm:ByteArray} {kA:Nat} {y:Arr} (hS:prgS g=true) (hy:g.1[kA]?=some y) (hnm:y.1=nm) (hfk:∀(j:Nat) z,j<kA→g.1[j]?=some z→sEq z.1 nm=false) {m i:Nat}:InR 0 5 (insD fS g nm m 0 i):=insD_inR fun x hx a ha hn s hs=>by
  obtain⟨k,c,q,hI⟩:=ins_at hS hx
  obtain⟨_,hd⟩:=acc_dims (prgS_iff.1 hS).1 hy (by rw[sEq_iff.1 hn,hnm]) (by rw[hnm];exact hfk) (all_ok hI ha).1
  obtain⟨i,hi⟩:=List.mem_iff_getElem?.1 hs
  exact hd i s hi
theorem rwD_fin {l:List Arr} {k:Nat} {nm:ByteArray} {ds:List Int} (hk:k<l.length):dR ((l.set k (nm,ds)).map rR)=(dR (l.map rR)).set k [.d (dS nm),.d (dIs ds)]:=by
  rw[List.map_set,dR,dR,List.map_set];rfl
theorem outS_G {inv:Inv} {a b:Nat} {l:List Arr} {k:Nat} {y:Arr} {ds:List Int}:outS inv (hbG a b l k y ds)=hbG (asc inv a) (asc inv b) l k y ds:=by simp[outS,hbG,rwD_ren,renR_dR]
theorem specShrink_no (g:Prg) (nm:ByteArray) (hs:szG g≤1073741824) (hG:OwnG0 g) (hl:g.1.length≤1073741824) (hC:∀g:Prg,prgV g=true→szG g≤1073741824→Fn Tryz.prog 21 [] [ad (rG g)] (.o (ad (rG g))) []) (h0:¬(prgV g=true∧0≤ixA nm g.1)) (hno:prgV g=true→∀x∈g.1,sEq x.1 nm=false):Fn Tryz.prog 7 [] [ad (rG g),st1 nm] (.tup [ad (rG (shrG g nm).1),bo1 (shrG g nm).2]) []:=by
 refine Fn.code0 Tryz.func7 rfl rfl rfl rfl ?_
 refine .r<|.c (St1.boxB (k':=102) rfl rfl rfl rfl rfl rfl rfl)<|.c (.al 104 [.slice none 0 0,.slice none 0 0])<|.c .a<|.r<|.c (.bN 2) ?_
 refine .c (.cP [.tmp 10] rfl rfl rfl rfl (o16Prg_fn g hG) rfl) ?_
 refine .c (.sT 2 true)<|.nn<|.seq<|.r<|.c (.bN 2) ?_
 refine .c (.cP [.tmp 12] rfl rfl rfl rfl (specPV_fn hs) rfl) ?_
 refine .c .nt<|.nn ?_
 refine ACode.condT rfl (fun h14=>?_) (fun h14=>?_)
 ·try simp only[zs]at h14
  refine .r<|.c (.bu [] [(0,1),(1,1)] [.slice none 0 0,.slice none 0 0])<|.c (.sT 2 true)<|.c .a<|.nn<|.ret<|ks_r ?_
  refine kf_wret [eB 4 100 2,eT 5 false,(.b 100,.b 30 2 [[.d (dRs []),.d (dPts [])]]),eU 100] (Wk.keep [(100,104)] rfl rfl ⟨kX,kd,kb 104 rfl (.r2 (Cto.nil _) (Cto.nil _)),trivial⟩) rfl ?_ nobox
  rw[shrG_no h0];rfl
 ·try simp only[zs]at h14
  have hV:prgV g=true:=by simp_all
  refine .skip<|ks_n<|.r<|.c (.bN 2) ?_
  refine .c (.cP [.tmp 16] rfl rfl rfl rfl (hC g hV hs) rfl) ?_
  refine .c (.al 106 [.slice none 0 0,.slice none 0 0])<|.c (.sT 2 true)<|.nn<|.seq<|.r<|.c .a<|.nn<|.block ?_
  refine .loopK (fun m σ=>(∃i:Nat,m=g.1.length -i∧(i≤g.1.length)∧σ=[(.t 1,.v (.o (st1 nm))),eB 2 110 2,eB 4 111 2,eT 5 false,eB 6 112 2,eN 7 (i:Nat),(.b 110,.b 30 2 [[.d (dRs g.1),.d (dPts g.2)]]),eU 110,(.b 111,.b 30 2 [[nl,nl]]),eU 111,(.b 112,.b 30 2 [[.d (dRs g.1),.d (dPts g.2)]]),eU 112])) [(110,102),(111,104),(112,106)] ⟨0,rfl,Nat.zero_le _,rfl⟩ ⟨kd,kX,kX,kd,kX,kd,kb 102 rfl (.r2 .dt .dt),kb 104 rfl (.r2 .dt .dt),kb 106 rfl (.r2 .dt .dt),trivial⟩ ?_
  rintro m σ ⟨i,hm0,hi,rfl⟩
  refine .seq<|.r<|.c .m<|.c (.fB 0 0 false)<|.c (.b1 1)<|.c (.ln 45 2 40)<|.c .ls<|.nn ?_
  refine .cD rfl (fun h22=>?_) (fun h22=>?_)
  ·skip
   obtain⟨x,hx1⟩:∃x_,g.1[i]?=some x_:=⟨_,List.getElem?_eq_getElem (by omega)⟩
   have hxn:=hno hV x (List.mem_of_getElem? hx1)
   refine .skip<|ks_n<|.seq<|.block<|.seq<|.r<|.c (.fB 0 0 false)<|.c (.b1 1)<|.c .m ?_
   refine .c (.xL 45 2 40 (i:=i) rfl rfl rfl rfl rfl (map_at hx1)) ?_
   refine .c (.fP 0 0 false)<|.c (.l1 1)<|.c .m ?_
   refine .c (St1.neS rfl rfl rfl)<|.nn ?_
   refine ACode.condT rfl (fun h32=>?_) (fun h32=>?_)
   ·try simp only[zs]at h32
    refine .exit<|ks_e<|kb_hit<|ks_n<|.region<|.c .m<|.c .pl<|.c .a<|.nil ?_
    refine kl_k [(110,110),(111,111),(112,112)] ⟨i+1,rfl,by omega,rfl⟩ ⟨kd,kX,kX,kd,kX,kd,kb 110 rfl (.r2 .dt .dt),kb 111 rfl (.r2 .dt .dt),kb 112 rfl (.r2 .dt .dt),trivial⟩
   ·try simp only[zs]at h32
    simp_all
  ·skip
   refine .exit<|ks_e<|kl_e<|kb_hit<|ks_n<|.r<|.c (.bu [] [(0,1),(1,1)] [.slice none 0 0,.slice none 0 0])<|.c (.sT 2 true)<|.c .a<|.nn<|.ret ?_
   refine kf_wret [eB 4 100 2,eT 5 false,(.b 100,.b 30 2 [[.d (dRs []),.d (dPts [])]]),eU 100] (Wk.keep [(100,111)] rfl rfl ⟨kX,kd,kb 111 rfl (.r2 (Cto.nil _) (Cto.nil _)),trivial⟩) rfl ?_ nobox
   rw[shrG_no h0];rfl
theorem specShrink_yes (g:Prg) (nm:ByteArray) (hs:szG g≤1073741824) (hG:OwnG0 g) (hl:g.1.length≤1073741824) {kA:Nat} {y:Arr} (hC:Fn Tryz.prog 21 [] [ad (rG g)] (.o (.agg [.own 101 2 g.1.length,.d (dPts g.2)])) (hbG 101 102 g.1 kA y y.2)) (hk:ixA nm g.1=(kA:Int)) (hy:g.1[kA]?=some y) (hnm:y.1=nm) (hfk:∀(j:Nat) z,j<kA→g.1[j]?=some z→sEq z.1 nm=false) (hV:prgV g=true):Fn Tryz.prog 7 [] [ad (rG g),st1 nm] (.tup [ad (rG (shrG g nm).1),bo1 (shrG g nm).2]) []:=by
 obtain⟨hS,hN,hL⟩:=prgV_s hV
 have hv:=(prgS_iff.1 hS).1
 have hkl:=(List.getElem?_eq_some_iff.1 hy).1
 have hyo:=arrsV_at hv (List.mem_of_getElem? hy)
 have hy0:1≤y.2.length∧y.2.length≤2:=by rw[arrOk,Bool.and_eq_true,Bool.and_eq_true,decide_eq_true_eq]at hyo;exact hyo.2.1
 have hM:(insD fS g nm y.2.length 0 (insG 0 g.2).length).length=y.2.length:=insD_len
 refine Fn.code0 Tryz.func7 rfl rfl rfl rfl ?_
 refine .r<|.c (St1.boxB (k':=102) rfl rfl rfl rfl rfl rfl rfl)<|.c (.al 104 [.slice none 0 0,.slice none 0 0])<|.c .a<|.r<|.c (.bN 2) ?_
 refine .c (.cP [.tmp 10] rfl rfl rfl rfl (o16Prg_fn g hG) rfl) ?_
 refine .c (.sT 2 true)<|.nn<|.seq<|.r<|.c (.bN 2) ?_
 refine .c (.cP [.tmp 12] rfl rfl rfl rfl (specPV_fn hs) rfl) ?_
 refine .c .nt<|.nn ?_
 refine ACode.condT rfl (fun h14=>?_) (fun h14=>?_)
 ·try simp only[zs]at h14
  simp_all
 ·try simp only[zs]at h14
  refine .skip<|ks_n<|.r<|.c (.bN 2) ?_
  refine .c (.cO [.tmp 16] [(101,117),(102,118)] rfl rfl rfl rfl (hC) rfl trivial flatS.nil ((flatS.nil.cons rfl).cons rfl) (hbG_HB _ _ _ _ _ _) outS_G) ?_
  refine .c (.al 106 [.slice none 0 0,.slice none 0 0])<|.c (.sT 2 true)<|.nn<|.seq<|.r<|.c .a<|.nn<|.block ?_
  refine .loopK (fun m σ=>(∃i:Nat,m=g.1.length -i∧(i≤kA)∧σ=[(.t 1,.v (.o (st1 nm))),eB 2 110 2,eB 4 111 2,eT 5 false,eB 6 112 2,eN 7 (i:Nat),(.b 110,.b 30 2 [[.d (dRs g.1),.d (dPts g.2)]]),eU 110,(.b 111,.b 30 2 [[nl,nl]]),eU 111,(.b 112,.b 30 2 [[.own 117 2 (g.1.length),.d (dPts g.2)]]),eU 112,(.b 117,.b 45 2 (rwD g.1 kA 118 y.1 y.2.length)),eU 117,(.b 118,.b 3 1 (dR ((y.2).map rI))),eU 118])) [(110,102),(111,104),(112,106),(117,117),(118,118)] ⟨0,rfl,Nat.zero_le _,rfl⟩ ⟨kd,kX,kX,kd,kX,kd,kb 102 rfl (.r2 .dt .dt),kb 104 rfl (.r2 .dt .dt),kb 106 rfl (.r2 .ow .dt),kb 117 rfl (.setR rfl (.cons .dt (.cons .ow .nil))),kb 118 rfl (.dt rfl),trivial⟩ ?_
  rintro m σ ⟨i,hm0,hi,rfl⟩
  refine .seq<|.r<|.c .m<|.c (.fB 0 0 false)<|.c (.b1 1)<|.c (.lB 45 2 40)<|.c .ls<|.nn ?_
  refine .cD rfl (fun h22=>?_) (fun h22=>?_)
  ·skip
   refine .skip<|ks_n<|.seq<|.block<|.seq<|.seq ?_
   by_cases hsp:i=kA
   ·skip
    obtain rfl:kA=i:=hsp.symm
    refine .region<|.c (.fB 0 0 false)<|.c (.b1 1)<|.c .m ?_
    refine .c (.xB 45 2 40 (i:=kA) rfl rfl rfl rfl rfl rfl (by omega)) ?_
    refine .c (.fB 0 0 false) ?_
    refine .c (.b1 1 rfl rfl rfl rfl (rwD_at hkl) rfl)<|.c .m ?_
    refine .c (St1.neS rfl rfl rfl)<|.nn ?_
    refine ACode.condT rfl (fun h32=>?_) (fun h32=>?_)
    ·try simp only[zs]at h32
     exfalso;have:=sEq_iff.2 hnm;simp_all
    ·try simp only[zs]at h32
     refine .skip<|ks_n<|.seq ?_
     refine ACode.drawK (by kernel_rfl) (by kernel_rfl) ?_
     refine .c (.bN 2)<|.c .m<|.c (.fB 0 0 false)<|.c (.b1 1)<|.c .m ?_
     refine .c (.xB 45 2 40 (i:=kA) rfl rfl rfl rfl rfl rfl hkl) ?_
     refine .c (.fB 1 0 false) ?_
     refine .c (.b1 1 rfl rfl rfl rfl (rwD_at hkl) rfl)<|.c (.lB 3 1 8) ?_
     refine .c (.cP [.tmp 33,.tmp 34,.tmp 41] rfl rfl rfl rfl (most_fn hS hs hy hnm hfk) rfl) ?_
     refine .c .a ?_
     refine .nil ⟨by kernel_rfl,?_⟩
     refine ks_n<|.seq<|.r<|.c .a<|.nn<|.block ?_
     refine .loopK (fun m σ=>(∃d:Nat,m=y.2.length -d∧(d≤y.2.length)∧σ=[(.t 1,.v (.o (st1 nm))),eB 2 120 2,eB 4 121 2,eT 5 false,eB 6 122 2,eN 7 (kA:Nat),eD 8 (dIs (insD fS g nm y.2.length 0 (insG 0 g.2).length)),eN 9 (d:Nat),(.b 120,.b 30 2 [[.d (dRs g.1),.d (dPts g.2)]]),eU 120,(.b 121,.b 30 2 [[nl,nl]]),eU 121,(.b 122,.b 30 2 [[.own 117 2 (g.1.length),.d (dPts g.2)]]),eU 122,(.b 117,.b 45 2 (rwD g.1 kA 118 y.1 y.2.length)),eU 117,(.b 118,.b 3 1 (dR ((wrS (insD fS g nm y.2.length 0 (insG 0 g.2).length) y.2 d).map rI))),eU 118])) [(120,110),(121,111),(122,112),(117,117),(118,118)] ⟨0,rfl,Nat.zero_le _,rfl⟩ ⟨kd,kX,kX,kd,kX,kd,kd,kd,kb 110 rfl (.r2 .dt .dt),kb 111 rfl (.r2 .dt .dt),kb 112 rfl (.r2 .ow .dt),kb 117 rfl (.setR rfl (.cons .dt (.cons .ow .nil))),kb 118 rfl (.dt rfl (by first|rfl|(rw[wrS,getD_of hm1];exact dR_setI _ _ _ _))),trivial⟩ ?_
     rintro m σ ⟨d,hm0,hd,rfl⟩
     refine .seq<|.r<|.c .m<|.c .m<|.c (.ln 3 1 8)<|.c .ls<|.nn ?_
     refine .cD rfl (fun h46=>?_) (fun h46=>?_)
     ·skip
      obtain⟨m0,hm1⟩:∃x_,(insD fS g nm y.2.length 0 (insG 0 g.2).length)[d]?=some x_:=⟨_,List.getElem?_eq_getElem (by omega)⟩
      have hmb:=most_inR hS hy hnm hfk _ (List.mem_of_getElem? hm1)
      obtain⟨b0,hb0⟩:∃b,(wrS (insD fS g nm y.2.length 0 (insG 0 g.2).length) y.2 d)[d]?=some b:=⟨_,List.getElem?_eq_getElem (by rw[wrS_len];omega)⟩
      refine .skip<|ks_n<|.seq<|.block ?_
      refine ACode.drawK (by kernel_rfl) (by kernel_rfl) ?_
      refine .c (.fB 0 0 false)<|.c (.b1 1)<|.c .m ?_
      refine .c (.xB 45 2 40 (i:=kA) rfl rfl rfl rfl rfl rfl hkl) ?_
      refine .c (.fB 1 0 false) ?_
      refine .c (.b1 1 rfl rfl rfl rfl (rwD_at hkl) rfl)<|.c .m<|.c .m<|.c .m ?_
      refine .c (.xL 3 1 8 (i:=d) rfl rfl rfl rfl rfl (map_at hm1)) ?_
      refine .c (.l1 1)<|.c .pl ?_
      refine .c (.xB 3 1 8 (i:=d) rfl rfl rfl rfl rfl rfl (by omega)) ?_
      refine .c (.sT 1 false rfl rfl rfl rfl (dR_at (map_at hb0)) rfl rfl) ?_
      refine .nil ⟨by kernel_rfl,?_⟩
      refine kb_n<|ks_n<|.region<|.c .m<|.c .pl<|.c .a<|.nil ?_
      refine kl_k [(120,120),(121,121),(122,122),(117,117),(118,118)] ⟨d+1,rfl,by omega,rfl⟩ ⟨kd,kX,kX,kd,kX,kd,kd,kd,kb 120 rfl (.r2 .dt .dt),kb 121 rfl (.r2 .dt .dt),kb 122 rfl (.r2 .ow .dt),kb 117 rfl (.setR rfl (.cons .dt (.cons .ow .nil))),kb 118 rfl (.dt rfl (by first|rfl|(rw[wrS,getD_of hm1];exact dR_setI _ _ _ _))),trivial⟩
     ·skip
      obtain rfl:d=y.2.length:=by omega
      refine .exit<|ks_e<|kl_e<|kb_hit<|ks_n<|.seq ?_
      refine .keep [eB 4 570 2,eT 5 false,eB 6 571 2,(.b 570,.b 30 2 [[nl,nl]]),eU 570,(.b 571,.b 30 2 [[.own 117 2 (g.1.length),.d (dPts g.2)]]),eU 571,(.b 117,.b 45 2 (dR ((g.1.set kA (y.1,shrD g nm y.2.length)).map rR))),eU 117] [(570,121),(571,122),(117,117)] ⟨kX,kd,kX,kb 121 rfl (.r2 .dt .dt),kb 122 rfl (.r2 .ow .dt),kb 117 rfl (.eq rfl (rwD_fin hkl) (.setR rfl (.cons .dt (.cons (.fz rfl (by rw[shr_eq hS hs hy hnm hfk]) (by rw[List.length_map,shrD_len]) (by omega)) .nil)))),trivial⟩ ?_
      refine .keep [eB 4 680 2,eT 5 false,eB 6 681 2,(.b 680,.b 30 2 [[nl,nl]]),eU 680,(.b 681,.b 30 2 [[.d (dRs (g.1.set kA (y.1,shrD g nm y.2.length))),.d (dPts g.2)]]),eU 681] [(680,570),(681,571)] ⟨kX,kd,kX,kb 570 rfl (.r2 .dt .dt),kb 571 rfl (.r2 (.fz rfl rfl (by rw[List.length_map,List.length_set]) (by omega)) .dt),trivial⟩ ?_
      refine .region<|.c (.bN 2)<|.c (.sT 2 true)<|.c .a<|.nn<|.ret<|kb_r<|ks_r<|kl_r<|kb_r<|ks_r ?_
      refine kf_ret rfl ?_ nobox
      rw[shrG_yes hV hk hy hnm];rfl
   ·skip
    have hne:i≠kA:=hsp
    have hlt:i<kA:=by omega
    obtain⟨x,hx1⟩:∃x_,g.1[i]?=some x_:=⟨_,List.getElem?_eq_getElem (by omega)⟩
    have hxn:=hfk i x hlt hx1
    refine .region<|.c (.fB 0 0 false)<|.c (.b1 1)<|.c .m ?_
    refine .c (.xB 45 2 40 (i:=i) rfl rfl rfl rfl rfl rfl (by omega)) ?_
    refine .c (.fB 0 0 false) ?_
    refine .c (.b1 1 rfl rfl rfl rfl (rwD_other hx1 hne) rfl)<|.c .m ?_
    refine .c (St1.neS rfl rfl rfl)<|.nn ?_
    refine ACode.condT rfl (fun h32=>?_) (fun h32=>?_)
    ·try simp only[zs]at h32
     refine .exit<|ks_e<|kb_hit<|ks_n<|.region<|.c .m<|.c .pl<|.c .a<|.nil ?_
     refine kl_k [(110,110),(111,111),(112,112),(117,117),(118,118)] ⟨i+1,rfl,by omega,rfl⟩ ⟨kd,kX,kX,kd,kX,kd,kb 110 rfl (.r2 .dt .dt),kb 111 rfl (.r2 .dt .dt),kb 112 rfl (.r2 .ow .dt),kb 117 rfl (.setR rfl (.cons .dt (.cons .ow .nil))),kb 118 rfl (.dt rfl),trivial⟩
    ·try simp only[zs]at h32
     exfalso;simp_all
  ·skip
   omega
set_option maxHeartbeats 12800000 in
theorem lawXshr {s r:Prg} {a:ByteArray} {b:Bool} (ho:okPrg s) (qs:szG s≤1048576→Fn Tryz.prog 7 [] [ad (rG s),st1 a] (.tup [ad (rG r),bo1 b]) []) (qi:szG s≤1048576→FnT Tryz.prog 9 [ad (rG s),st1 a] none' (.strB (rG r) b)) (hr:szG s≤1048576→szG r≤1048576)
    {w:World} {us:List Value} (d:Drs (fun b=>b<w.heap.size) w (rG s) us):Truth Tryz.prog 3 #[.agg us.toArray,.string a] w:=by
  by_cases hgd:1048576<a.size
  case pos=>
    clear qs qi ho hr d
    have h9:decide ((a.size:Int)>1048576)=true:=by simp;omega
    go_enter Tryz.func3,Tryz.ntmps3
    go_wp2_with fail
    go_ret
    exact⟨rfl,(Below.refl _ _).alloc (Nat.le_refl _) _⟩
  have h9:decide ((a.size:Int)>1048576)=false:=by simp;omega
  clear hgd
  obtain⟨u0,l0,rfl,hl0⟩:=len_cons d.1
  obtain⟨u1,l1,rfl,hl1⟩:=len_cons hl0
  obtain rfl:=len_zero hl1;clear hl0 hl1
  have HB:=hid (Bxs.add (w:=w) (l:=[]) (fun b hb=>by cases hb) [u0,u1] 25)
  have HL:=hid (show Below w.heap.size w (w.alloc (.cells [u0,u1].toArray 25))from(Below.refl _ _).alloc (Nat.le_refl _) _)
  have HD:=hid d;clear d
  have hz:=szPrg_fn (l:=1048576) (by omega) ho
  by_cases hs:szG s≤1048576
  case neg=>
    rw[subZ_no (by omega)]at hz
    have HZ:=hid hz;clear hz qs qi ho hr
    go_enter Tryz.func3,Tryz.ntmps3
    go_wp2_with fail
    refine(HZ.out.callsI (vs:=[_,_]) (vals2_mk (HD.out.fwd HL.out).v (Dr.val (.int .i64 1048576) rfl))).mono ?_
    rintro e wA ⟨rfl,bA⟩
    have HLA:=hid (HL.out.trans (bA.mono HL.out.size));clear bA
    go_wp2_with fail
    go_ret
    exact⟨rfl,HLA.out⟩
  rw[subZ_yes (by omega)]at hz
  have qs:=hid (qs hs);have qi:=hid (qi hs);have hr0:=hr hs;have HR:=hid hr0
  have hcp:=hid (copyPrg hs);have heq:=hid (eqPrg_fn r r (by omega));have hes:=hid (eqPrg_fn s s (by omega))
  have w1:wgtV (rG s)≤5 *szG s:=wgt_prg s;have w2:wgtV (rG r)≤5 *szG r:=wgt_prg r
  have WS:=hid (show wgtV (rG s)≤10485760 by omega);have WR:=hid (show wgtV (rG r)≤10485760 by omega)
  have hhd:=hid (heldG_ok hr0)
  have HZ:=hid hz
  have hz0:(0:Int)≤1048576 -(szG s:Nat):=by omega
  obtain⟨z,hz1⟩:∃z:Int,z=1048576 -(szG s:Nat):=⟨_,rfl⟩
  rw[←hz1]at HZ hz0
  obtain⟨kS,hkS⟩:∃k:Nat,k=wgtV (rG s):=⟨_,rfl⟩
  obtain⟨kR,hkR⟩:∃k:Nat,k=wgtV (rG r):=⟨_,rfl⟩
  have mks:=hid (markPrgV_k s);have mku:=hid (markPrgV_u r)
  have EK:=hid hkS;have ER:=hid hkR
  rw[←hkR]at hhd
  clear hz1 hz ho hr hs hr0 w1 w2 hkS hkR
  go_enter Tryz.func3,Tryz.ntmps3
  go_wp2_with fail
  refine(HZ.out.callsI (vs:=[_,_]) (vals2_mk (HD.out.fwd HL.out).v (Dr.val (.int .i64 1048576) rfl))).mono ?_
  rintro e wA ⟨rfl,bA⟩
  have HBA:=hid (HB.out.fwd bA)
  have HLA:=hid (HL.out.trans (bA.mono HL.out.size))
  clear bA
  have u0':=HBA.out.c 0 rfl 0 rfl
  have u1':=HBA.out.c 0 rfl 1 rfl
  go_wp2_with fail
  clear u0' u1'
  refine(hcp.out _ _ [u0,u1] rfl (HD.out.fwd HLA.out).2).mono ?_
  rintro e wB ⟨vs,rfl,bwB,hv⟩
  obtain⟨v0,l0,rfl,hl0⟩:=len_cons hv.1
  obtain⟨v1,l1,rfl,hl1⟩:=len_cons hl0
  obtain rfl:=len_zero hl1;clear hl0 hl1
  have NB:=hid hv;clear hv
  have HBB:=hid (HBA.out.fwd bwB)
  have HLB:=hid (HLA.out.trans (bwB.mono HLA.out.size))
  clear bwB
  go_wp2_with fail
  refine(qs.out.callsS (vs:=[_,_]) (B:=fun _=>True) (vals2_mk NB.out.drs.v (Dr.val (.string a) rfl))).mono ?_
  rintro e wC ⟨ys,rfl,bC,hy⟩
  clear NB
  obtain⟨y0,l0,rfl,hl0⟩:=len_cons hy.1
  obtain⟨y1,l1,rfl,hl1⟩:=len_cons hl0
  obtain rfl:=len_zero hl1;clear hl0 hl1
  have HBC:=hid (HBB.out.fwd bC)
  have HLC:=hid (HLB.out.trans (bC.mono HLB.out.size))
  have DWC:=hid hy;clear hy bC
  have s0:=fun a m w=>run_store Tryz.prog w a y0 m (DWC.out.2 0 _ _ rfl rfl).one
  have s1:=fun a m w=>run_store Tryz.prog w a y1 m (DWC.out.2 1 _ _ rfl rfl).one
  have ALc:=hid (show Below wC.heap.size wC (wC.alloc (.cells [y0,y1].toArray 30))from(Below.refl _ _).alloc (Nat.le_refl _) _)
  have HBc:=hid (HBC.out.add [y0,y1] 30)
  have HLc:=hid (HLC.out.trans (ALc.out.mono HLC.out.size))
  have DWc:=hid (DWC.out.fwd ALc.out)
  have u0':=HBc.out.c 1 rfl 0 rfl
  have u1':=HBc.out.c 1 rfl 1 rfl
  go_wp2_with fail
  clear s0 s1
  clear u0' u1'
  refine(hcp.out _ _ [u0,u1] rfl (HD.out.fwd HLc.out).2).mono ?_
  rintro e wD ⟨vs,rfl,bwD,hv⟩
  obtain⟨x0,l0,rfl,hl0⟩:=len_cons hv.1
  obtain⟨x1,l1,rfl,hl1⟩:=len_cons hl0
  obtain rfl:=len_zero hl1;clear hl0 hl1
  have NX:=hid hv;clear hv
  have HBD:=hid (HBc.out.fwd bwD)
  have HLD:=hid (HLc.out.trans (bwD.mono HLc.out.size))
  have DWD:=hid (DWc.out.fwd bwD)
  have DXD:=hid (NX.out.k (S:=fun c=>(wC.alloc (.cells [y0,y1].toArray 30)).heap.size≤c∧c<wD.heap.size) fun c h1 h2=>⟨h1,h2⟩);have SZD:=hid bwD.size;clear bwD
  have NXD:=hid NX.out.drs
  have s0:=fun a m w=>run_store Tryz.prog w a x0 m (NXD.out.2 0 _ _ rfl rfl).one
  have s1:=fun a m w=>run_store Tryz.prog w a x1 m (NXD.out.2 1 _ _ rfl rfl).one
  have ALd:=hid (show Below wD.heap.size wD (wD.alloc (.cells [x0,x1].toArray 30))from(Below.refl _ _).alloc (Nat.le_refl _) _)
  have HBd:=hid (HBD.out.add [x0,x1] 30)
  have HLd:=hid (HLD.out.trans (ALd.out.mono HLD.out.size))
  have DWd:=hid (DWD.out.fwd ALd.out)
  have DXd:=hid (DXD.out.mark (marked_of ALd.out _))
  have NXd:=hid (NXD.out.fwd ALd.out)
  go_wp2_with fail
  clear s0 s1
  refine(FnT.callsS qi.out (rG_plain r) (rG_nsl r) (vs:=[_,_]) (vals2_mk NXd.out.v (Dr.val (.string a) rfl))).mono ?_
  rintro e wE ⟨gs,SG,rfl,bwE,hSG,hg⟩
  obtain⟨g0,l0,rfl,hl0⟩:=len_cons hg.1
  obtain⟨g1,l1,rfl,hl1⟩:=len_cons hl0
  obtain rfl:=len_zero hl1;clear hl0 hl1
  have HBE:=hid (HBd.out.fwd bwE)
  have HLE:=hid (HLd.out.trans (bwE.mono HLd.out.size))
  have DWE:=hid (DWd.out.fwd bwE)
  have DXE:=hid (DXd.out.mark (marked_of bwE _))
  have NXE:=hid (NXd.out.fwd bwE)
  have DGE:=hid hg;have HSG:=hid hSG;have SZE:=hid bwE.size;clear hg hSG bwE
  have s0:=fun a m w=>run_store Tryz.prog w a g0 m (DGE.out.drs.2 0 _ _ rfl rfl).one
  have s1:=fun a m w=>run_store Tryz.prog w a g1 m (DGE.out.drs.2 1 _ _ rfl rfl).one
  have ALe:=hid (show Below wE.heap.size wE (wE.alloc (.cells [g0,g1].toArray 30))from(Below.refl _ _).alloc (Nat.le_refl _) _)
  have HBe:=hid (HBE.out.add [g0,g1] 30)
  have HLe:=hid (HLE.out.trans (ALe.out.mono HLE.out.size))
  have DWe:=hid (DWE.out.fwd ALe.out)
  have DXe:=hid (DXE.out.mark (marked_of ALe.out _))
  have NXe:=hid (NXE.out.fwd ALe.out)
  have DGe:=hid (DGE.out.fwd ALe.out)
  have y0':=HBe.out.c 2 rfl 0 rfl
  have y1':=HBe.out.c 2 rfl 1 rfl
  go_wp2_with fail
  clear s0 s1
  clear y0' y1'
  refine(heq.out.callsB (vs:=[_,_]) (B:=fun _=>True) (vals2_mk DGe.out.drs.v (DWe.out.mono fun _ _ _=>trivial).v)).mono ?_
  rintro e wF ⟨rfl,bwF⟩
  rw[show sameG r r=true from sameG_refl _]
  have HBF:=hid (HBe.out.fwd bwF)
  have HLF:=hid (HLe.out.trans (bwF.mono HLe.out.size))
  have DWF:=hid (DWe.out.fwd bwF)
  have DXF:=hid (DXe.out.mark (marked_of bwF _))
  have NXF:=hid (NXe.out.fwd bwF)
  have DGF:=hid (DGe.out.fwd bwF)
  clear bwF
  have u0':=HBF.out.c 3 rfl 0 rfl
  have u1':=HBF.out.c 3 rfl 1 rfl
  have x0':=HBF.out.c 1 rfl 0 rfl
  have x1':=HBF.out.c 1 rfl 1 rfl
  go_wp2_with fail
  go_region_held3 (fun wq=>wq.cell? ⟨w.heap.size,0,none⟩=some u0∧wq.cell? ⟨w.heap.size,1,none⟩=some u1∧wq.cell? ⟨wD.heap.size,0,none⟩=some x0∧wq.cell? ⟨wD.heap.size,1,none⟩=some x1)
    ((repeat' apply And.intro)<;>first|assumption|go_keep)
    (first
    | (go_at_call 8
       refine(hcp.out _ _ [u0,u1] rfl (HD.out.fwd (HLF.out.drew)).2).mono ?_
       rintro e wG ⟨vs,rfl,bG,hv⟩
       obtain⟨z0,l0,rfl,hl0⟩:=len_cons hv.1
       obtain⟨z1,l1,rfl,hl1⟩:=len_cons hl0
       obtain rfl:=len_zero hl1
       have NG:=hid hv
       have HFG:=hid (show Below wF.heap.size wF wG from(Below.refl _ _).drew.trans bG)
       clear hv bG hl0 hl1
       have u0':=(HBF.out.fwd HFG.out).c 3 rfl 0 rfl
       have u1':=(HBF.out.fwd HFG.out).c 3 rfl 1 rfl
       have x0':=(HBF.out.fwd HFG.out).c 1 rfl 0 rfl
       have x1':=(HBF.out.fwd HFG.out).c 1 rfl 1 rfl)
    | (go_at_call 10
       refine(hes.out.callsB (vs:=[_,_]) (B:=fun _=>True) (vals2_mk (NXF.out.fwd HFG.out).v NG.out.drs.v)).mono ?_
       rintro e wH ⟨rfl,bH⟩
       rw[show sameG s s=true from sameG_refl _]
       have HFH:=hid (HFG.out.trans (bH.mono HFG.out.size))
       clear bH
       have u0':=(HBF.out.fwd HFH.out).c 3 rfl 0 rfl
       have u1':=(HBF.out.fwd HFH.out).c 3 rfl 1 rfl
       have x0':=(HBF.out.fwd HFH.out).c 1 rfl 0 rfl
       have x1':=(HBF.out.fwd HFH.out).c 1 rfl 1 rfl))
  have HBH:=hid (HBF.out.fwd HFH.out)
  have HLH:=hid (HLF.out.trans (HFH.out.mono HLF.out.size))
  have DWH:=hid (DWF.out.fwd HFH.out)
  have DXH:=hid (DXF.out.mark (marked_of HFH.out _))
  have NXH:=hid (NXF.out.fwd HFH.out)
  have DGH:=hid (DGF.out.fwd HFH.out)
  clear NG HFG HFH
  go_wp2_with fail
  clear u0' u1' x0' x1'
  have zH:wD.heap.size≤wH.heap.size:=Nat.le_of_lt (HBH.out.lt (b:=(wD.heap.size,_,_)) (List.mem_of_getElem? (i:=1) rfl))
  refine(mks.out _ _ [x0,x1] 1 DXH.out (fun c h=>Nat.lt_of_lt_of_le h.2 zH) (by omega) (by have:=WS.out;have:=EK.out;omega)).mono ?_
  rw[←EK.out]
  rintro e wI ⟨rfl,mI⟩
  have e1:=SZE.out;have e2:=HLC.out.size;have e3:(wC.alloc (.cells [y0,y1].toArray 30)).heap.size=wC.heap.size+1:=by simp
  have e4:(wD.alloc (.cells [x0,x1].toArray 30)).heap.size=wD.heap.size+1:=by simp
  have e8:=SZD.out;rw[e3]at e8
  have e5:=HBC.out.lt (b:=(w.heap.size,_,_)) (List.mem_of_getElem? (i:=0) rfl)
  have e6:=HLH.out.size
  have e7:=HBH.out.lt (b:=(wE.heap.size,_,_)) (List.mem_of_getElem? (i:=0) rfl)
  have SZS:=hid (And.intro e1 (And.intro e2 (And.intro e3 (And.intro e4 e5))))
  dsimp only at e5 e7
  have HBI:=hid (HBH.out.mark mI (fun c hc h=>by
    have h1:=h.1;have h2:=h.2
    rw[e3]at h1;rw[e4]at e1
    simp only[List.mem_cons,List.not_mem_nil,or_false]at hc
    rcases hc with rfl|rfl|rfl|rfl<;>dsimp only at h1 h2<;>omega))
  have bI:=mI.below (n:=wC.heap.size) (fun c h=>by have h1:=h.1;rw[e3]at h1;omega) (by omega)
  have HLI:=hid (HLH.out.trans (bI.mono (by omega)));have DWI:=hid (DWH.out.lo bI)
  have DGI:=hid (DGH.out.frame fun c hc hl=>mI.old c hl fun h=>by have h1:=(HSG.out c hc).1;have h2:=h.2;rw[e4]at h1;omega)
  clear mI bI e6 e7 zH
  have h2:decide ((1:Int)+(kS:Nat)<0)=false:=by simp;omega
  have g0':=HBI.out.c 0 rfl 0 rfl
  have g1':=HBI.out.c 0 rfl 1 rfl
  have y0':=HBI.out.c 2 rfl 0 rfl
  have y1':=HBI.out.c 2 rfl 1 rfl
  go_wp2_with fail
  clear h2
  clear g0' g1' y0' y1'
  refine(heq.out.callsB (vs:=[_,_]) (B:=fun _=>True) (vals2_mk DGI.out.drs.v (DWI.out.mono fun _ _ _=>trivial).v)).mono ?_
  rintro e wJ ⟨rfl,bwJ⟩
  rw[show sameG r r=true from sameG_refl _]
  have HBJ:=hid (HBI.out.fwd bwJ)
  have HLJ:=hid (HLI.out.trans (bwJ.mono HLI.out.size))
  have DWJ:=hid (DWI.out.fwd bwJ)
  have DGJ:=hid (DGI.out.fwd bwJ)
  clear bwJ
  have g0':=HBJ.out.c 0 rfl 0 rfl
  have g1':=HBJ.out.c 0 rfl 1 rfl
  go_wp2_with fail
  clear g0' g1'
  have e7:=HBJ.out.lt (b:=(wE.heap.size,_,_)) (List.mem_of_getElem? (i:=0) rfl)
  dsimp only at e7
  refine(mku.out SG _ [g0,g1] 1 DGJ.out (fun c h=>Nat.lt_trans (HSG.out c h).2 e7) (by omega) (by have:=WR.out;have:=ER.out;omega)).mono ?_
  rw[←ER.out]
  rintro e wK ⟨rfl,mK,gK⟩
  have HBK:=hid (HBJ.out.mark mK (fun c hc h=>by
    have h1:=(HSG.out _ h).1;have h2:=(HSG.out _ h).2
    rw[e4]at h1 e1
    simp only[List.mem_cons,List.not_mem_nil,or_false]at hc
    rcases hc with rfl|rfl|rfl|rfl<;>dsimp only at h1 h2<;>omega))
  have bK:=mK.below (n:=wC.heap.size) (fun c h=>by have h1:=(HSG.out _ h).1;rw[e4]at h1;omega) (by omega)
  have HLK:=hid (HLJ.out.trans (bK.mono (by omega)));have DWK:=hid (DWJ.out.lo bK);have DGK:=hid gK;clear mK bK gK e7
  have g0':=HBK.out.c 0 rfl 0 rfl
  have g1':=HBK.out.c 0 rfl 1 rfl
  go_wp2_with fail
  clear g0' g1'
  refine(hhd.out.callsI (vs:=[_,_]) (B:=fun _=>True) (vals2_mk DGK.out.drs.v (Dr.val (.int .i64 1) rfl))).mono ?_
  rintro e wL ⟨rfl,bwL⟩
  have HBL:=hid (HBK.out.fwd bwL)
  have HLL:=hid (HLK.out.trans (bwL.mono HLK.out.size))
  have DWL:=hid (DWK.out.fwd bwL)
  have DGL:=hid (DGK.out.fwd bwL)
  clear bwL
  have h3:decide ((1:Int)+(kR:Nat)<0)=false:=by simp;omega
  have u0':=HBL.out.c 3 rfl 0 rfl
  have u1':=HBL.out.c 3 rfl 1 rfl
  go_wp2_with fail
  clear u0' u1'
  refine(hcp.out _ _ [u0,u1] rfl (HD.out.fwd HLL.out).2).mono ?_
  rintro e wM ⟨vs,rfl,bwM,hv⟩
  obtain⟨m0,l0,rfl,hl0⟩:=len_cons hv.1
  obtain⟨m1,l1,rfl,hl1⟩:=len_cons hl0
  obtain rfl:=len_zero hl1;clear hl0 hl1
  have NM:=hid hv;clear hv
  have HBM:=hid (HBL.out.fwd bwM)
  have HLM:=hid (HLL.out.trans (bwM.mono HLL.out.size))
  have DWM:=hid (DWL.out.fwd bwM)
  have DGM:=hid (DGL.out.fwd bwM)
  clear bwM
  go_wp2_with fail
  refine(FnT.callsS qi.out (rG_plain r) (rG_nsl r) (vs:=[_,_]) (vals2_mk NM.out.drs.v (Dr.val (.string a) rfl))).mono ?_
  rintro e wN ⟨gs,SH,rfl,bwN,hSH,hg⟩
  obtain⟨h0,l0,rfl,hl0⟩:=len_cons hg.1
  obtain⟨h1,l1,rfl,hl1⟩:=len_cons hl0
  obtain rfl:=len_zero hl1;clear hl0 hl1
  have HBN:=hid (HBM.out.fwd bwN)
  have HLN:=hid (HLM.out.trans (bwN.mono HLM.out.size))
  have DWN:=hid (DWM.out.fwd bwN)
  have DGN:=hid (DGM.out.fwd bwN)
  have DHN:=hid hg;clear hg hSH bwN NM
  have s0:=fun a m w=>run_store Tryz.prog w a h0 m (DHN.out.drs.2 0 _ _ rfl rfl).one
  have s1:=fun a m w=>run_store Tryz.prog w a h1 m (DHN.out.drs.2 1 _ _ rfl rfl).one
  have ALn:=hid (show Below wN.heap.size wN (wN.alloc (.cells [h0,h1].toArray 30))from(Below.refl _ _).alloc (Nat.le_refl _) _)
  have HBn:=hid (HBN.out.add [h0,h1] 30)
  have HLn:=hid (HLN.out.trans (ALn.out.mono HLN.out.size))
  have DWn:=hid (DWN.out.fwd ALn.out)
  have DGn:=hid (DGN.out.fwd ALn.out)
  have DHn:=hid (DHN.out.fwd ALn.out)
  have y0':=HBn.out.c 3 rfl 0 rfl
  have y1':=HBn.out.c 3 rfl 1 rfl
  go_wp2_with fail
  clear s0 s1
  clear y0' y1'
  refine(heq.out.callsB (vs:=[_,_]) (B:=fun _=>True) (vals2_mk DHn.out.drs.v (DWn.out.mono fun _ _ _=>trivial).v)).mono ?_
  rintro e wO ⟨rfl,bwO⟩
  rw[show sameG r r=true from sameG_refl _]
  have HBO:=hid (HBn.out.fwd bwO)
  have HLO:=hid (HLn.out.trans (bwO.mono HLn.out.size))
  have DWO:=hid (DWn.out.fwd bwO)
  have DGO:=hid (DGn.out.fwd bwO)
  have DHO:=hid (DHn.out.fwd bwO)
  clear bwO
  have g0':=HBO.out.c 1 rfl 0 rfl
  have g1':=HBO.out.c 1 rfl 1 rfl
  go_wp2_with fail
  clear g0' g1'
  refine(hhd.out.callsI (vs:=[_,_]) (B:=fun _=>True) (vals2_mk DGO.out.drs.v (Dr.val (.int .i64 1) rfl))).mono ?_
  rintro e wP ⟨rfl,bwP⟩
  have HBP:=hid (HBO.out.fwd bwP)
  have HLP:=hid (HLO.out.trans (bwP.mono HLO.out.size))
  have DWP:=hid (DWO.out.fwd bwP)
  have DGP:=hid (DGO.out.fwd bwP)
  have DHP:=hid (DHO.out.fwd bwP)
  clear bwP
  go_wp2_with fail
  go_ret
  exact⟨rfl,HLP.out⟩
theorem map_setS {α:Type} {f:α→Nat} {l:List α} {k:Nat} {y z:α} (h:l[k]?=some y) (hz:f z=f y):(l.set k z).map f=l.map f:=by
  refine List.ext_getElem? fun q=>?_
  rw[List.getElem?_map,List.getElem?_map,List.getElem?_set]
  split
  · rename_i e
    subst e
    rw[if_pos (List.getElem?_eq_some_iff.1 h).1,h,Option.map_some,Option.map_some,hz]
  ·rfl
theorem shrG_sz {g:Prg} {nm:ByteArray} {m:Nat} (h:szG g≤m):szG (shrG g nm).1≤m:=by
  by_cases h0:prgV g=true∧0≤ixA nm g.1
  · rcases ixA_spec nm g.1 with⟨h1,_⟩|⟨k,y,h1,h2,h3,h4⟩
    ·omega
    · rw[shrG_yes h0.1 h1 h2 h3]
      show szO szR (g.1.set k (y.1,shrD g nm y.2.length))+szO szPt g.2≤m
      rw[szO,map_setS h2 (by rw[szR,szR,shrD_len]),List.length_set]
      exact h
  · rw[shrG_no h0]
    show szO szR []+szO szPt []≤m
    simp[szO]
theorem copyH_of {g:Prg} (hv:prgV g=true) (hs:szG g≤1073741824) {k:Nat} {y:Arr} (hy:g.1[k]?=some y):Fn Tryz.prog 21 [] [ad (rG g)] (.o (.agg [.own 101 2 g.1.length,.d (dPts g.2)])) (hbG 101 102 g.1 k y y.2):=by
  obtain⟨h1,h2,h3,h4⟩:=szG_parts hs
  have hyo:=arrsV_at (prgS_iff.1 (prgV_s hv).1).1 (List.mem_of_getElem? hy)
  rw[arrOk,Bool.and_eq_true,Bool.and_eq_true,decide_eq_true_eq]at hyo
  exact l4Copy_H h1 h2 h3 (fun x hx=>⟨smN_of (okP_iff.1 (prtV_iff.1 (prgV_part hv hx)).1).1,(h4 x hx).2.1,(h4 x hx).2.2⟩) hy (by have:=hyo.2.1;omega)
theorem specShrink_fn (g:Prg) (nm:ByteArray) (hs:szG g≤1048576):Fn Tryz.prog 7 [] [ad (rG g),st1 nm] (.tup [ad (rG (shrG g nm).1),bo1 (shrG g nm).2]) []:=by
  have hl:g.1.length≤1073741824:=by have:=(szG_parts hs).1;omega
  rcases ixA_spec nm g.1 with⟨h1,h2⟩|⟨k,y,h1,h2,h3,h4⟩
  ·exact specShrink_no g nm (by omega) (own0_of hs) hl copy_of (fun h=>by have:=h.2;omega) (fun _=>h2)
  · by_cases hV:prgV g=true
    ·exact specShrink_yes g nm (by omega) (own0_of hs) hl (copyH_of hV (by omega) h2) h1 h2 h3 h4 hV
    ·exact specShrink_no g nm (by omega) (own0_of hs) hl copy_of (fun h=>hV h.1) (fun h=>absurd h hV)
theorem lawEshr {g:Prg} (ho:okPrg g) (a:ByteArray) {w:World} {v:Value} (e0:V1r bx0 al0 (fun b=>b<w.heap.size) w (ad (rG g)) v):Truth Tryz.prog 3 #[v,.string a] w:=by
  obtain⟨us,rfl,d⟩:=e0_drs e0
  exact lawXshr ho (fun hs=>specShrink_fn g a hs) (fun hs=>ShrinkArray_T g a (by omega) (by have:=(szG_parts hs).1;omega) (fun hv=>own_of hs hv)) (fun hs=>shrG_sz hs) d
end Go.Proofs.YtollooimmfngjaaGreat
