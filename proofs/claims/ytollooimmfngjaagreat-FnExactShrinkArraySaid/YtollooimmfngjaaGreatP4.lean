/- Part 4 of 7 of the proof: laws on memory and data, then what the functions compute, in the order in which they build on each other; conditions: those that each theorem names. -/
import Derived.Laws.MakeOwn
import Derived.Test.YtollooimmfngjaaGreatP3
set_option maxRecDepth 100000
set_option maxHeartbeats 1600000

namespace Go.Proofs.YtollooimmfngjaaGreat
set_option linter.unusedVariables false
set_option linter.unusedSimpArgs false
open Go.RowKit
def szAs (l:List Aff):Nat:=l.length+(l.map fun a=>a.1.length).sum
theorem szAs_mem {l:List Aff} {a:Aff} (h:a∈l):l.length+a.1.length≤szAs l:=by
  rw[szAs]
  have:∀(l:List Nat) (n:Nat),n∈l→n≤l.sum:=by
    intro l
    induction l with
    |nil=>intro n h;cases h
    |cons m l ih=>
      intro n h
      rw[List.sum_cons]
      rcases List.mem_cons.1 h with rfl|h
      ·omega
      ·have:=ih n h;omega
  have:=this _ _ (List.mem_map_of_mem (f:=fun a:Aff=>a.1.length) h)
  omega
theorem szAs_len (l:List Aff):l.length≤szAs l:=Nat.le_add_right _ _
def okA (x:Aff):Prop:=x.1.length≤17592186044416
def okAs (l:List Aff):Prop:=l.length≤17592186044416∧∀x∈l,okA x
def szC (a:Acc):Nat:=a.1.size+szAs a.2
mutual
def szE:Ex→Nat
  | .mk _ _ i r ks=>i.1.length+szC r+ks.length+szEs ks
def szEs:List Ex→Nat
  |[]=>0
  |e::l=>szE e+szEs l
end
def szS (s:Stm):Nat:=szC s.1+szE s.2
theorem szEs_mem:∀ {l:List Ex} {e:Ex},e∈l→szE e≤szEs l
  |x::l,e,h=>by
    rw[szEs]
    rcases List.mem_cons.1 h with rfl|h
    ·omega
    ·have:=szEs_mem h;omega
/-! ### Validity -/
def accV (d:Nat) (a:Acc):Bool:=arrV a.1&&sideV d a.2
def nonA (x:Aff):Bool:=decide (x.1.length=0)&&decide (x.2=0)
def nonC (a:Acc):Bool:=sEq a.1 ByteArray.empty&&decide (a.2.length=0)
def fldV (d:Nat) (k n:Int) (i:Aff) (r:Acc):Bool:=
  if k=1 then inB n 0 99&&nonA i&&nonC r
  else if k=2 then decide (n=0)&&(affV i&&decide (affDepth i≤d))&&nonC r
  else if k=3 then decide (n=0)&&nonA i&&accV d r
  else decide (n=0)&&nonA i&&nonC r
def kidV (k:Int) (n:Nat):Bool:=if 1≤k∧k≤3 then decide (n=0)else if 4≤k∧k≤6 then decide (n=2)else false
def exV (d:Nat):Nat→Ex→Bool
  |0,_=>false
  |L+1,e=>kidV e.k e.ks.length&&fldV d e.k e.n e.i e.r&&e.ks.all (exV d L)
mutual
def cntE:Ex→Nat
  | .mk _ _ _ _ ks=>1+cntEs ks
def cntEs:List Ex→Nat
  |[]=>0
  |e::l=>cntE e+cntEs l
end
def stmtV (d:Int) (s:Stm):Bool:=inB d 0 4&&(accV d.toNat s.1&&exV d.toNat 5 s.2&&decide (cntE s.2≤12))
theorem cntE_eq (e:Ex):cntE e=1+cntEs e.ks:=by cases e;rw[cntE];rfl
def scanK (f:Nat→Ex→Bool×Nat):Nat→List Ex→Bool×Nat
  |c,[]=>(true,c)
  |c,x::l=>if (f c x).1=true then scanK f (f c x).2 l else(false,(f c x).2)
def scanV (d:Nat):Nat→Nat→Ex→Bool×Nat
  |0,c,_=>(false,c+1)
  |L+1,c,e=>if 12<c+1 then(false,c+1)else if (kidV e.k e.ks.length&&fldV d e.k e.n e.i e.r)=true then scanK (scanV d L) (c+1) e.ks else(false,c+1)
theorem kidV_len {k:Int} {n:Nat} (h:kidV k n=true):n=0∨n=2:=by
  unfold kidV at h
  split at h
  ·exact .inl (of_decide_eq_true h)
  · split at h
    ·exact .inr (of_decide_eq_true h)
    ·cases h
def ScanOk (f:Nat→Ex→Bool×Nat) (v:Ex→Bool):Prop:=
  ∀c e,((f c e).1=true↔v e=true∧c+cntE e≤12)∧((f c e).1=true→(f c e).2=c+cntE e)∧(f c e).2≤max 13 (c+1)∧c+1≤(f c e).2
theorem scanK_iff {f:Nat→Ex→Bool×Nat} {v:Ex→Bool} (h:ScanOk f v):∀(l:List Ex) (c:Nat),c≤12→((scanK f c l).1=true↔l.all v=true∧c+cntEs l≤12)∧((scanK f c l).1=true→(scanK f c l).2=c+cntEs l)∧(scanK f c l).2≤13∧c≤(scanK f c l).2
  |[],c,hc=>by
    rw[scanK,cntEs]
    exact⟨⟨fun _=>⟨rfl,by omega⟩,fun _=>rfl⟩,fun _=>rfl,by show c≤13;omega,Nat.le_refl _⟩
  |x::l,c,hc=>by
    obtain⟨a1,a2,a3,a4⟩:=h c x
    rw[scanK,cntEs,List.all_cons,Bool.and_eq_true]
    by_cases h1:(f c x).1=true
    · rw[if_pos h1]
      obtain⟨h2,h3⟩:=a1.1 h1
      have h4:=a2 h1
      obtain⟨b1,b2,b3,b4⟩:=scanK_iff h l (f c x).2 (by omega)
      rw[h4]at b1 b2 b3 b4 ⊢
      exact⟨b1.trans ⟨fun⟨p,q⟩=>⟨⟨h2,p⟩,by omega⟩,fun⟨p,q⟩=>⟨p.2,by omega⟩⟩,fun h=>(b2 h).trans (by omega),b3,by omega⟩
    · rw[if_neg h1]
      exact⟨⟨fun h=>(by cases h),fun⟨p,q⟩=>absurd (a1.2 ⟨p.1,by omega⟩) h1⟩,fun h=>(by cases h),by show (f c x).2≤13;omega,by show c≤(f c x).2;omega⟩
theorem scanV_iff (d:Nat):∀L:Nat,ScanOk (scanV d L) (exV d L)
  |0,c,e=>⟨⟨fun h=>(by cases h),fun h=>(by cases h.1)⟩,fun h=>(by cases h),by show c+1≤_;omega,Nat.le_refl _⟩
  |L+1,c,e=>by
    have hf:∀ {b:Prop},((false,c+1):Bool×Nat).1=true→b:=fun h=>by cases h
    rw[scanV,exV,cntE_eq]
    by_cases h1:12<c+1
    · rw[if_pos h1]
      exact⟨⟨hf,fun h=>by omega⟩,hf,by show c+1≤_;omega,Nat.le_refl _⟩
    · rw[if_neg h1]
      by_cases h2:(kidV e.k e.ks.length&&fldV d e.k e.n e.i e.r)=true
      · rw[if_pos h2]
        obtain⟨b1,b2,b3,b4⟩:=scanK_iff (scanV_iff d L) e.ks (c+1) (by omega)
        exact⟨b1.trans ⟨fun⟨p,q⟩=>⟨by rw[h2,p];rfl,by omega⟩,fun⟨p,q⟩=>⟨by rw[h2]at p;exact p,by omega⟩⟩,fun h=>(b2 h).trans (by omega),by omega,b4⟩
      · rw[if_neg h2]
        exact⟨⟨hf,fun h=>absurd (Bool.and_eq_true_iff.1 h.1).1 h2⟩,hf,by show c+1≤_;omega,Nat.le_refl _⟩
/-! ### Equality -/
mutual
def sameE:Ex→Ex→Bool
  | .mk k n i r ks,.mk k' n' i' r' ks'=>decide (k=k')&&decide (n=n')&&decide (i=i')&&decide (r.2=r'.2)&&sEq r.1 r'.1&&sameEs ks ks'
def sameEs:List Ex→List Ex→Bool
  |[],[]=>true
  |x::l,y::m=>sameE x y&&sameEs l m
  |_,_=>false
end
mutual
theorem sameE_iff:∀x y:Ex,sameE x y=true↔x=y
  | .mk k n i r ks,.mk k' n' i' r' ks'=>by
    rw[sameE]
    simp only[Bool.and_eq_true,decide_eq_true_eq,sEq_iff,sameEs_iff ks ks',Ex.mk.injEq,Prod.ext_iff (x:=r)]
    constructor
    ·rintro⟨⟨⟨⟨⟨h1,h2⟩,h3⟩,h4⟩,h5⟩,h6⟩;exact⟨h1,h2,h3,⟨h5,h4⟩,h6⟩
    ·rintro⟨h1,h2,h3,⟨h5,h4⟩,h6⟩;exact⟨⟨⟨⟨⟨h1,h2⟩,h3⟩,h4⟩,h5⟩,h6⟩
theorem sameEs_iff:∀l m:List Ex,sameEs l m=true↔l=m
  |[],[]=>by simp[sameEs]
  |[],_::_=>by simp[sameEs]
  |_::_,[]=>by simp[sameEs]
  |x::l,y::m=>by rw[sameEs,Bool.and_eq_true,sameE_iff x y,sameEs_iff l m,List.cons.injEq]
end
def sameC (a b:Acc):Bool:=sEq a.1 b.1&&decide (a.2=b.2)
theorem sameC_iff {a b:Acc}:sameC a b=true↔a=b:=by rw[sameC,Bool.and_eq_true,sEq_iff,decide_eq_true_eq,Prod.ext_iff]
def sameS (s t:Stm):Bool:=sameC s.1 t.1&&sameE s.2 t.2
theorem sameS_iff {s t:Stm}:sameS s t=true↔s=t:=by
  rw[sameS,Bool.and_eq_true,sameC_iff,sameE_iff]
  exact⟨fun⟨h1,h2⟩=>Prod.ext h1 h2,fun h=>⟨congrArg Prod.fst h,congrArg Prod.snd h⟩⟩
/-! ### Reads, replacements, depth -/
mutual
def rdE:Ex→List Acc
  | .mk k _ _ r ks=>(if k=3 then [r]else [])++rdEs ks
def rdEs:List Ex→List Acc
  |[]=>[]
  |e::l=>rdE e++rdEs l
end
def mapC (g:Aff→Aff) (a:Acc):Acc:=(a.1,a.2.map g)
mutual
def mapE (g:Aff→Aff):Ex→Ex
  | .mk k n i r ks=>.mk k n (if k=2 then g i else([],0)) (if k=3 then mapC g r else(ByteArray.empty,[])) (mapEs g ks)
def mapEs (g:Aff→Aff):List Ex→List Ex
  |[]=>[]
  |e::l=>mapE g e::mapEs g l
end
def mapS (g:Aff→Aff) (s:Stm):Stm:=(mapC g s.1,mapE g s.2)
theorem mapEs_map (g:Aff→Aff):∀l:List Ex,mapEs g l=l.map (mapE g)
  |[]=>rfl
  |e::l=>by rw[mapEs,mapEs_map g l];rfl
end Go.Proofs.YtollooimmfngjaaGreat
namespace Go.Proofs.YtollooimmfngjaaGreat
set_option linter.unusedVariables false
set_option linter.unusedSimpArgs false
open Go.ChangeShapes Go.WideShapes Go.ChangeAt Go.RowKit
section
variable {H : Type} {enc : TypeId × Value → H} {w : World} {spare : Nat → Bool} {held : Bool}
theorem opAff (n:Nat):OpF enc Tryz.prog w spare held n 182 rA okA:=
  OpF.mono (f:=rA) (n:=n+1) (opStruct2 (enc:=enc) (w:=w) (spare:=spare) (held:=held) (t:=182) Tryz.underlying182 (by kernel_rfl) (opSlice (n:=n) 1 8 Tryz.underlying43 (by kernel_rfl) (by kernel_rfl) (by rfl) (opInt Tryz.underlying3)) (opInt Tryz.underlying3)) (by omega) fun a h=>h.1.1
end
section
variable {H : Type} {enc : TypeId × Value → H} {w : World} {spare : Nat → Bool} {held : Bool}
theorem opAffs (n:Nat):OpF enc Tryz.prog w spare held n 176 (fun l:List Aff=>[dAs l]) okAs:=
  OpF.mono (f:=fun l:List Aff=>[dAs l]) (n:=n+1) (opSlice (enc:=enc) (w:=w) (spare:=spare) (held:=held) (n:=n) (t:=176) 2 32 Tryz.underlying176 (by kernel_rfl) (by kernel_rfl) (by rfl) (opAff n)) (by omega) fun a h=>h
end
def okLp (l:Lp):Prop:=okAs l.1∧okAs l.2
def okLps (l:List Lp):Prop:=l.length≤17592186044416∧∀x∈l,okLp x
section
variable {H : Type} {enc : TypeId × Value → H} {w : World} {spare : Nat → Bool} {held : Bool}
theorem opLoop (n:Nat):OpF enc Tryz.prog w spare held n 178 rL okLp:=
  OpF.mono (f:=rL) (n:=n) (opStruct2 (enc:=enc) (w:=w) (spare:=spare) (held:=held) (n:=n) (t:=178) Tryz.underlying178 (by kernel_rfl) (opAffs n) (opAffs n)) (by omega) fun a h=>h
theorem opLoops (n:Nat):OpF enc Tryz.prog w spare held n 96 (fun l:List Lp=>[dLs l]) okLps:=
  OpF.mono (f:=fun l:List Lp=>[dLs l]) (n:=n+1) (opSlice (enc:=enc) (w:=w) (spare:=spare) (held:=held) (n:=n) (t:=96) 2 48 Tryz.underlying96 (by kernel_rfl) (by kernel_rfl) (by rfl) (opLoop n)) (by omega) fun a h=>h
end
def okC (a:Acc):Prop:=a.1.size≤140737488351232∧okAs a.2
mutual
def okE:Ex→Prop
  | .mk _ _ i r ks=>okA i∧okC r∧ks.length≤17592186044416∧okEs ks
def okEs:List Ex→Prop
  |[]=>True
  |e::l=>okE e∧okEs l
end
theorem okEs_all:∀ {l:List Ex},(∀x∈l,okE x)→okEs l
  |[],_=>trivial
  |e::l,h=>⟨h e (by simp),okEs_all fun x hx=>h x (by simp[hx])⟩
theorem okEs_mem:∀ {l:List Ex},okEs l→∀x∈l,okE x
  |e::l,h,x,hx=>by
    rcases List.mem_cons.1 hx with rfl|hx
    ·exact h.1
    ·exact okEs_mem h.2 x hx
theorem okE_eq {e:Ex}:okE e↔okA e.i∧okC e.r∧e.ks.length≤17592186044416∧∀x∈e.ks,okE x:=by
  cases e with
  |mk k n i r ks=>exact⟨fun h=>⟨h.1,h.2.1,h.2.2.1,okEs_mem h.2.2.2⟩,fun h=>⟨h.1,h.2.1,h.2.2.1,okEs_all h.2.2.2⟩⟩
def okS (s:Stm):Prop:=okC s.1∧okE s.2
section
variable {H : Type} {enc : TypeId × Value → H} {w : World} {spare : Nat → Bool} {held : Bool}
theorem opAcc (n:Nat):OpF enc Tryz.prog w spare held n 181 rC okC:=
  OpF.mono (f:=rC) (n:=n) (opStruct2 (enc:=enc) (w:=w) (spare:=spare) (held:=held) (n:=n) (t:=181) Tryz.underlying181 (by kernel_rfl) (opStr Tryz.underlying9) (opAffs n)) (by omega) fun a h=>h
theorem opEx:∀n:Nat,OpF enc Tryz.prog w spare held n 185 rX okE
  |0=>fun fuel hf cs x h _=>by
    obtain rfl:fuel=0:=by omega
    cases h
  |n+1=>fun fuel hf cs x h hw=>by
    have hk:=opSlice (enc:=enc) (w:=w) (spare:=spare) (held:=held) (n:=n) (t:=183) 7 112 Tryz.underlying183 (by kernel_rfl) (by kernel_rfl) (by rfl) (opEx n)
    obtain⟨a,b,c,d,e,⟨_,_,h2,h3,h4⟩,hr⟩:=opStruct5 (enc:=enc) (w:=w) (spare:=spare) (held:=held) (n:=n) (t:=185) Tryz.underlying185 1 1 2 2 1 (by kernel_rfl) (by kernel_rfl) (opInt Tryz.underlying3) (opInt Tryz.underlying3) (opAff n) (opAcc n) (hk.mono (by omega) fun _ h=>h) fuel hf cs x h hw
    refine⟨.mk a b c d e,okE_eq.2 ⟨h2,h3,h4.1,h4.2⟩,?_⟩
    have:rX (.mk a b c d e)=rI a++(rI b++(rA c++(rC d++[D.list 7 (e.map rX)]))):=by
      rw[show e.map rX=e.map rE from List.map_congr_left fun x _=>(rE_eq x).symm];rfl
    rw[this];exact hr
theorem opStm (n:Nat):OpF enc Tryz.prog w spare held n 187 rS okS:=
  OpF.mono (f:=rS) (n:=n) (opStruct2 (enc:=enc) (w:=w) (spare:=spare) (held:=held) (n:=n) (t:=187) Tryz.underlying187 (by kernel_rfl) (opAcc n) (opEx n)) (by omega) fun a h=>h
end
end Go.Proofs.YtollooimmfngjaaGreat
namespace Go.Proofs.YtollooimmfngjaaGreat
set_option linter.unusedVariables false
set_option linter.unusedSimpArgs false
open Go.RowKit
def hbI (c:Int):St:=[(.b 0,.b 3 1 (dR [rI c])),(.u 0,.u)]
theorem hbI_HB (c:Int):HB (hbI c):=HB.nil.data
theorem hbI_flat (c:Int):flatS (hbI c):=flatS.nil.cons rfl
theorem hbI_num (c d:Int):∀k,k<100→Al (lk (hbI d)) k→Al (lk (hbI c)) k:=fun k _ ⟨e,sz,rows,h⟩=>by
  by_cases hk:k=0
  ·subst hk;exact⟨_,_,_,rfl⟩
  ·rw[hbI,lk_other _ _ _ _ (by simpa using fun e=>hk e.symm),lk_other _ _ _ _ (by simp)]at h;cases h
theorem hbI_box {σ:St} {c:Int} (h:lk σ (.b 0)= .b 3 1 (dR [rI c])):∀k e sz rows,lk (hbI c) (.b k)= .b e sz rows→lk σ (.b k)= .b e sz rows:=one_box h
theorem acc_len {d:Nat} {xs:List Aff} (h:inB (xs.length:Nat) 1 2=false):false=sideV d xs:=by
  rw[Bool.eq_iff_iff]
  simp only[inB,Bool.and_eq_false_iff,decide_eq_false_iff_not,sideV,Bool.and_eq_true,decide_eq_true_eq,Bool.false_eq_true,false_iff]at h ⊢
  omega
theorem acc_any {d:Nat} {xs:List Aff} (h:inB (xs.length:Nat) 1 2=true):(!xs.any fun x=> !bndV d x)=sideV d xs:=by
  simp only[inB,Bool.and_eq_true,decide_eq_true_eq]at h
  rw[nany,sideV,decide_eq_true (show 1≤xs.length by omega),decide_eq_true (show xs.length≤2 by omega),Bool.and_true,Bool.and_true]
theorem implNoA_fn (x:Aff):Fn Tryz.prog 150 [] [ad (rA x)] (.o (bo1 (nonA x))) []:=by
  refine Fn.code0 Tryz.func150 rfl rfl rfl rfl ?_
  refine .r<|.c .bp<|.c .a<|.r<|.c (.fP 0 0 false)<|.c (.l1 1)<|.c (.ln 3 1 8)<|.c .eq<|.c .m ?_
  refine .cD 7 rfl (fun g7=>?_) (fun g7=>?_)
  · skip
    refine .c (.g (.fP 1 0 false))<|.c (.g (.l1 1))<|.c (.g .eq)<|.c .pT<|.c .a<|.nn<|.ret ?_
    refine kf_ret rfl ?_ nobox
    exact leafB (by rw[nonA];first|rfl|grind)
  · skip
    refine .c .f<|.c .f<|.c .f<|.c .pF<|.c .a<|.nn<|.ret ?_
    refine kf_ret rfl ?_ nobox
    exact leafB (by rw[nonA];first|rfl|grind)
theorem l3None_fn (x:Aff):Fn Tryz.prog 190 [] [ad (rA x)] (.o (bo1 (nonA x))) []:=by
  refine Fn.code0 Tryz.func190 rfl rfl rfl rfl ?_
  refine .r<|.c .bp<|.c .a<|.r<|.c (.fP 0 0 false)<|.c (.l1 1)<|.c (.ln 3 1 8)<|.c .eq<|.c .m ?_
  refine .cD 7 rfl (fun g7=>?_) (fun g7=>?_)
  · skip
    refine .c (.g (.fP 1 0 false))<|.c (.g (.l1 1))<|.c (.g .eq)<|.c .pT<|.c .a<|.nn<|.ret ?_
    refine kf_ret rfl ?_ nobox
    exact leafB (by rw[nonA];first|rfl|grind)
  · skip
    refine .c .f<|.c .f<|.c .f<|.c .pF<|.c .a<|.nn<|.ret ?_
    refine kf_ret rfl ?_ nobox
    exact leafB (by rw[nonA];first|rfl|grind)
theorem implNoC_fn (a:Acc):Fn Tryz.prog 151 [] [ad (rC a)] (.o (bo1 (nonC a))) []:=by
  refine Fn.code0 Tryz.func151 rfl rfl rfl rfl ?_
  refine .r<|.c .bp<|.c .a<|.r<|.c (.fP 0 0 false)<|.c (.l1 1) ?_
  refine .c (St1.eqS rfl rfl rfl)<|.c .m ?_
  refine AOps.cases 6 _ rfl (fun g6=>?_) (fun g6=>?_)
  · try simp only[zs]at g6
    have g:=g6
    refine .c (.g (.fP 1 0 false))<|.c (.g (.l1 1))<|.c (.g (.ln 61 2 32))<|.c (.g .eq)<|.c .pT<|.c .a<|.nn<|.ret ?_
    refine kf_ret rfl ?_ nobox
    exact leafB (by rw[nonC,show sEq a.1 ByteArray.empty=_ from g];first|rfl|(rw[Bool.eq_iff_iff];simp only[Bool.and_eq_true,Bool.or_eq_true,Bool.not_eq_true',Bool.and_eq_false_iff,Bool.or_eq_false_iff,decide_eq_true_eq,decide_eq_false_iff_not,Bool.false_eq_true,Bool.true_eq_false,false_iff,true_iff,iff_false,iff_true,false_and,and_false,true_and,and_true,not_false_eq_true,not_true_eq_false,ne_eq];omega))
  · try simp only[zs]at g6
    have g:=g6
    refine .c .f<|.c .f<|.c .f<|.c .f<|.c .pF<|.c .a<|.nn<|.ret ?_
    refine kf_ret rfl ?_ nobox
    exact leafB (by rw[nonC,show sEq a.1 ByteArray.empty=_ from g];first|rfl|(rw[Bool.eq_iff_iff];simp only[Bool.and_eq_true,Bool.or_eq_true,Bool.not_eq_true',Bool.and_eq_false_iff,Bool.or_eq_false_iff,decide_eq_true_eq,decide_eq_false_iff_not,Bool.false_eq_true,Bool.true_eq_false,false_iff,true_iff,iff_false,iff_true,false_and,and_false,true_and,and_true,not_false_eq_true,not_true_eq_false,ne_eq];omega))
theorem l3Empty_fn (a:Acc):Fn Tryz.prog 189 [] [ad (rC a)] (.o (bo1 (nonC a))) []:=by
  refine Fn.code0 Tryz.func189 rfl rfl rfl rfl ?_
  refine .r<|.c .bp<|.c .a<|.r<|.c (.fP 0 0 false)<|.c (.l1 1) ?_
  refine .c (St1.eqS rfl rfl rfl)<|.c .m ?_
  refine AOps.cases 6 _ rfl (fun g6=>?_) (fun g6=>?_)
  · try simp only[zs]at g6
    have g:=g6
    refine .c (.g (.fP 1 0 false))<|.c (.g (.l1 1))<|.c (.g (.ln 61 2 32))<|.c (.g .eq)<|.c .pT<|.c .a<|.nn<|.ret ?_
    refine kf_ret rfl ?_ nobox
    exact leafB (by rw[nonC,show sEq a.1 ByteArray.empty=_ from g];first|rfl|(rw[Bool.eq_iff_iff];simp only[Bool.and_eq_true,Bool.or_eq_true,Bool.not_eq_true',Bool.and_eq_false_iff,Bool.or_eq_false_iff,decide_eq_true_eq,decide_eq_false_iff_not,Bool.false_eq_true,Bool.true_eq_false,false_iff,true_iff,iff_false,iff_true,false_and,and_false,true_and,and_true,not_false_eq_true,not_true_eq_false,ne_eq];omega))
  · try simp only[zs]at g6
    have g:=g6
    refine .c .f<|.c .f<|.c .f<|.c .f<|.c .pF<|.c .a<|.nn<|.ret ?_
    refine kf_ret rfl ?_ nobox
    exact leafB (by rw[nonC,show sEq a.1 ByteArray.empty=_ from g];first|rfl|(rw[Bool.eq_iff_iff];simp only[Bool.and_eq_true,Bool.or_eq_true,Bool.not_eq_true',Bool.and_eq_false_iff,Bool.or_eq_false_iff,decide_eq_true_eq,decide_eq_false_iff_not,Bool.false_eq_true,Bool.true_eq_false,false_iff,true_iff,iff_false,iff_true,false_and,and_false,true_and,and_true,not_false_eq_true,not_true_eq_false,ne_eq];omega))
theorem isArray_fn (s:ByteArray):Fn Tryz.prog 102 [] [st1 s] (.o (bo1 (arrV s))) []:=by
  refine Fn.code0 Tryz.func102 rfl rfl rfl rfl ?_
  refine .r<|.c .a<|.r<|.c .m ?_
  refine .c (St1.lenS rfl rfl rfl rfl rfl (by kernel_rfl) rfl) ?_
  refine .c .eq<|.c .m ?_
  refine .cD 6 rfl (fun g6=>?_) (fun g6=>?_)
  · skip
    refine .c (.g .m) ?_
    refine .c (.gT rfl rfl rfl (.cP [.const (.string ⟨#[65,66,67,68]⟩),.tmp 7] rfl rfl rfl rfl (contains1_fn s (by omega)) rfl)) ?_
    refine .c .pT<|.c .a<|.nn<|.ret ?_
    refine kf_ret rfl ?_ nobox
    first|rfl|exact leafB (arrV_size (by omega)).symm
  · skip
    refine .c .f<|.c .f<|.c .pF<|.c .a<|.nn<|.ret ?_
    refine kf_ret rfl ?_ nobox
    first|rfl|exact leafB (arrV_size (by omega)).symm
theorem isOp_fn (k:Int):Fn Tryz.prog 152 [] [nat1 k] (.o (bo1 (inB k 4 6))) []:=by
  refine Fn.code0 Tryz.func152 rfl rfl rfl rfl ?_
  refine .r<|.c .a<|.r<|.c .m ?_
  refine .c (.cP [.tmp 3,.const (.int .i64 (4)),.const (.int .i64 (6))] rfl rfl rfl rfl (within_fn _ 4 6) rfl) ?_
  refine .c .a<|.nn<|.ret ?_
  refine kf_ret rfl ?_ nobox
  rfl
theorem accOk1_fn (d:Nat) (x:Aff):Fn Tryz.prog 147 [] [ad (rA x),.c (.ptr [dI (d:Nat)])] (.o (bo1 (!bndV d x))) []:=by
 refine Fn.code0 Tryz.func147 rfl rfl rfl rfl ?_
 refine .r<|.c .bp<|.c .a<|.nn<|.seq ?_
 refine ACode.drawK (by kernel_rfl) (by kernel_rfl) ?_
 refine .c (.lN 2) ?_
 refine .c (.cP [.tmp 4] rfl rfl rfl rfl (implAffV_fn x) rfl) ?_
 refine .c .nt<|.c .m ?_
 refine RunK.cases 7 _ rfl (fun g7=>?_) (fun g7=>?_)
 ·try simp only[zs]at g7
  refine .c .f<|.c .f<|.c .f<|.c .f<|.c .pT<|.c .a ?_
  refine .nil ⟨by kernel_rfl,?_⟩
  refine ks_n<|.ret ?_
  refine kf_ret rfl ?_ nobox
  first|exact leafB (by rw[bnd_no (.inl (by simpa using g7))];rfl)|exact leafB (by rw[bndV,show affV x=true by simpa using g7,Bool.true_and,Bool.eq_iff_iff];simp)
 ·try simp only[zs]at g7
  refine .c (.g (.lN 2)) ?_
  refine .c (.gT rfl rfl rfl (.cP [.tmp 8] rfl rfl rfl rfl (depth_fn x) rfl)) ?_
  refine .c (.g (.l1 1))<|.c (.g .gt)<|.c .pF<|.c .a ?_
  refine .nil ⟨by kernel_rfl,?_⟩
  refine ks_n<|.ret ?_
  refine kf_ret rfl ?_ nobox
  first|exact leafB (by rw[bnd_no (.inl (by simpa using g7))];rfl)|exact leafB (by rw[bndV,show affV x=true by simpa using g7,Bool.true_and,Bool.eq_iff_iff];simp)
theorem accOk_fn (d:Nat) (a:Acc) (ha:a.2.length≤1099511627776):Fn Tryz.prog 108 [] [ad (rC a),nat1 (d:Nat)] (.o (bo1 (accV d a))) []:=by
  refine Fn.code0 Tryz.func108 rfl rfl rfl rfl ?_
  refine .r<|.c .bp<|.c .bp<|.c .a<|.r<|.c (.fP 0 0 false)<|.c (.l1 1) ?_
  refine .c (.cP [.tmp 6] rfl rfl rfl rfl (isArray_fn _) rfl) ?_
  refine .c .m ?_
  refine AOps.cases 8 _ rfl (fun g8=>?_) (fun g8=>?_)
  · try simp only[zs]at g8
    refine .c (.g (.fP 1 0 false))<|.c (.g (.l1 1))<|.c (.g (.ln 61 2 32)) ?_
    refine .c (.gT rfl rfl rfl (.cP [.tmp 11,.const (.int .i64 (1)),.const (.int .i64 (2))] rfl rfl rfl rfl (within_fn _ 1 2) rfl)) ?_
    refine .c .pT<|.c .m ?_
    refine AOps.cases 14 _ rfl (fun g14=>?_) (fun g14=>?_)
    · try simp only[zs]at g14
      refine .c (.g (.fP 1 0 false))<|.c (.g (.l1 1)) ?_
      refine .c (.gT rfl rfl rfl (St1.makeFunc (xs:=[.tmp 3]) rfl rfl rfl rfl rfl rfl rfl))<|.c (.gT rfl rfl rfl (.cP [.tmp 16,.tmp 17] rfl rfl rfl rfl (cnt_aff (f:=147) (cap:=[[dI (d:Nat)]]) (by kernel_rfl) (fun x=> !bndV d x) a.2 ha (fun x _=>accOk1_fn d x)) rfl)) ?_
      refine .c (.g .nt)<|.c .pT<|.c .a<|.nn<|.ret ?_
      refine kf_ret rfl ?_ nobox
      first|exact leafB (by rw[accV,g8];rfl)|exact leafB (by rw[accV,g8,Bool.true_and];exact acc_len g14)|exact leafB (by rw[accV,g8,Bool.true_and];exact acc_any g14)
    · try simp only[zs]at g14
      refine .c .f<|.c .f<|.c .f<|.c .f<|.c .f<|.c .pF<|.c .a<|.nn<|.ret ?_
      refine kf_ret rfl ?_ nobox
      first|exact leafB (by rw[accV,g8];rfl)|exact leafB (by rw[accV,g8,Bool.true_and];exact acc_len g14)|exact leafB (by rw[accV,g8,Bool.true_and];exact acc_any g14)
  · try simp only[zs]at g8
    refine .c .f<|.c .f<|.c .f<|.c .f<|.c .pF<|.c .m<|.c .f<|.c .f<|.c .f<|.c .f<|.c .f<|.c .pF<|.c .a<|.nn<|.ret ?_
    refine kf_ret rfl ?_ nobox
    first|exact leafB (by rw[accV,g8];rfl)|exact leafB (by rw[accV,g8,Bool.true_and];exact acc_len g14)|exact leafB (by rw[accV,g8,Bool.true_and];exact acc_any g14)
def hdV (e:Ex):Bool:=(decide (e.k=1)||decide (e.n=0))&&(decide (e.k=2)||nonA e.i)&&(decide (e.k=3)||nonC e.r)
theorem scan_z (d c:Nat) (e:Ex):scanV d 0 c e=(false,c+1):=rfl
theorem scan_many {d L c:Nat} {e:Ex} (h:12<c+1):scanV d (L+1) c e=(false,c+1):=by rw[scanV,if_pos h]
theorem scan_hd {d L c:Nat} {e:Ex} (h:hdV e=false):scanV d (L+1) c e=(false,c+1):=by
  rw[scanV]
  split
  ·rfl
  · rw[if_neg]
    intro h2
    have h3:=(Bool.and_eq_true_iff.1 h2).2
    unfold fldV at h3
    unfold hdV at h
    cases hA:nonA e.i<;>cases hC:nonC e.r<;>simp only[hA,hC]at h h3<;>(split at h3<;>first|(split at h3<;>first|(split at h3<;>simp_all;done)|(simp_all;done))|(simp_all;done))
theorem hd_rest {e:Ex} (h:hdV e=true):(e.k=1∨e.n=0)∧(e.k=2∨nonA e.i=true)∧(e.k=3∨nonC e.r=true):=by
  simp only[hdV,Bool.and_eq_true,Bool.or_eq_true,decide_eq_true_eq]at h
  exact⟨h.1.1,h.1.2,h.2⟩
theorem scan_leaf {d L c:Nat} {e:Ex} (hk:1≤e.k∧e.k≤3) (hc:¬ 12<c+1):scanV d (L+1) c e=(decide (e.ks.length=0)&&fldV d e.k e.n e.i e.r,c+1):=by
  rw[scanV,if_neg hc,kidV,if_pos hk]
  split
  · rename_i h
    rw[h]
    have:=of_decide_eq_true (Bool.and_eq_true_iff.1 h).1
    rw[List.eq_nil_of_length_eq_zero this];rfl
  · rename_i h
    rw[Bool.eq_false_iff.2 h]
theorem scan1 {d L c:Nat} {e:Ex} (hk:e.k=1) (hh:hdV e=true) (hc:¬ 12<c+1):scanV d (L+1) c e=(inB e.n 0 99&&decide (e.ks.length=0),c+1):=by
  obtain⟨h1,h2,h3⟩:=hd_rest hh
  rw[scan_leaf (by omega) hc,fldV,if_pos hk,h2.resolve_left (by omega),h3.resolve_left (by omega),Bool.and_true,Bool.and_true,Bool.and_comm]
theorem scan2 {d L c:Nat} {e:Ex} (hk:e.k=2) (hh:hdV e=true) (hc:¬ 12<c+1):scanV d (L+1) c e=(affV e.i&&decide (affDepth e.i≤d)&&decide (e.ks.length=0),c+1):=by
  obtain⟨h1,h2,h3⟩:=hd_rest hh
  rw[scan_leaf (by omega) hc,fldV,if_neg (by omega),if_pos hk,h3.resolve_left (by omega),decide_eq_true (h1.resolve_left (by omega)),Bool.and_true,Bool.true_and,Bool.and_comm]
theorem scan3 {d L c:Nat} {e:Ex} (hk:e.k=3) (hh:hdV e=true) (hc:¬ 12<c+1):scanV d (L+1) c e=(accV d e.r&&decide (e.ks.length=0),c+1):=by
  obtain⟨h1,h2,h3⟩:=hd_rest hh
  rw[scan_leaf (by omega) hc,fldV,if_neg (by omega),if_neg (by omega),if_pos hk,h2.resolve_left (by omega),decide_eq_true (h1.resolve_left (by omega)),Bool.and_true,Bool.true_and,Bool.and_comm]
theorem scan_bad {d L c:Nat} {e:Ex} (hk:¬e.k=1∧¬e.k=2∧¬e.k=3) (hb:inB e.k 4 6=false∨¬e.ks.length=2):scanV d (L+1) c e=(false,c+1):=by
  rw[scanV]
  split
  ·rfl
  · rw[if_neg]
    intro h2
    have h3:=(Bool.and_eq_true_iff.1 h2).1
    unfold kidV at h3
    rw[if_neg (by omega)]at h3
    split at h3
    · rename_i h4
      have h5:=of_decide_eq_true h3
      rcases hb with h|h
      ·rw[inB,decide_eq_true h4]at h;cases h
      ·exact h h5
    ·cases h3
theorem scan_op {d L c:Nat} {e:Ex} {x y:Ex} (hk:inB e.k 4 6=true) (hh:hdV e=true) (hc:¬ 12<c+1) (hks:e.ks=[x,y]):scanV d (L+1) c e=if (scanV d L (c+1) x).1=true then scanV d L (scanV d L (c+1) x).2 y else(false,(scanV d L (c+1) x).2):=by
  obtain⟨h1,h2,h3⟩:=hd_rest hh
  simp only[inB,Bool.and_eq_true,decide_eq_true_eq]at hk
  rw[scanV,if_neg hc,if_pos,hks,scanK]
  · split
    · rename_i h
      rw[scanK]
      split
      ·rename_i h4;rw[scanK,←h4]
      ·rename_i h4;rw[←Bool.eq_false_iff.2 h4]
    ·rfl
  ·rw[kidV,if_neg (by omega),if_pos hk,hks,fldV,if_neg (by omega),if_neg (by omega),if_neg (by omega),h2.resolve_left (by omega),h3.resolve_left (by omega),decide_eq_true (h1.resolve_left (by omega))];rfl
theorem two_of {α:Type} {l:List α} (h:l.length=2):∃x y,l=[x,y]:=by
  match l,h with
  |[x,y],_=>exact⟨x,y,rfl⟩
theorem scan_zero (d:Nat) {deep:Int} {c:Nat} {e:Ex} (hc:c≤12) (hd8: -100≤deep∧deep≤100) (hrl:e.r.2.length≤1099511627776) (hd5:5<deep):Fn Tryz.prog 109 (hbI (c:Nat)) [ad (rX e),nat1 (d:Nat),nat1 deep,.c (.box 0 1 0 0)] (.o (bo1 (scanV d 0 c e).1)) (hbI ((scanV d 0 c e).2:Nat)):=by
 refine Fn.of_code Tryz.func109 rfl rfl (hbI_HB _) rfl rfl (hbI_HB _) rfl (hbI_num _ _) ?_
 refine .r<|.c .bp<|.c .a<|.r<|.c .m<|.c .nB<|.c (.b1 1)<|.c .pl<|.c .nB<|.c (.sT 1 false)<|.nn<|.seq<|.seq ?_
 refine ACode.cut [eN 1 (d:Nat),eN 2 deep,eB 3 0 1,eP 4 (rX e),eT 8 false,eT 21 (decide (12<c+1∨5<deep)),(.b 0,.b 3 1 (dR ([rI ((c:Int)+1)]))),eU 0] ?_ ?_
 ·skip
  refine .region<|.c .m<|.c .nB<|.c (.b1 1)<|.c .gt<|.c .m ?_
  refine .cD 18 rfl (fun g18=>?_) (fun g18=>?_)
  ·skip
   refine .c .f<|.c .f<|.c .pT<|.nil ?_
   exact kc_n (Wk.keep [(0,0)] rfl rfl ⟨kd,kd,kX,kd,kd,ks rfl (.dt (vB (by first|rfl|grind))),kb 0 rfl (.dt rfl),trivial⟩)
  ·skip
   refine .c (.g .m)<|.c (.g .gt)<|.c .pF<|.nil ?_
   exact kc_n (Wk.keep [(0,0)] rfl rfl ⟨kd,kd,kX,kd,kd,ks rfl (.dt (vB (by first|rfl|grind))),kb 0 rfl (.dt rfl),trivial⟩)
 refine ks_n ?_
 refine ACode.condT rfl (fun h21=>?_) (fun h21=>?_)
 ·try simp only[zs]at h21
  refine .seq ?_
  have hR:=scan_z d c e
  refine .region<|.c .a<|.nn<|.ret<|ks_r ?_
  obtain⟨r,hr⟩:∃r,r=(scanV d 0 c e):=⟨_,rfl⟩
  rw[←hr]
  rw[←hr]at hR
  refine kf_wret [eB 3 0 1,eT 8 r.1,(.b 0,.b 3 1 (dR ([rI (r.2:Nat)]))),eU 0] (Wk.keep [(0,0)] rfl rfl ⟨kX,ks rfl (.dt (vB (by rw[hR]<;>first|rfl|grind))),kb 0 rfl (.dt rfl (by rw[hR]<;>rfl)),trivial⟩) rfl ?_ (hbI_box rfl)
  rfl
 ·try simp only[zs]at h21
  exact absurd (Or.inr hd5) h21
theorem scan_succ (d:Nat) {deep:Int} {c:Nat} {e:Ex} (hc:c≤12) (hd8: -100≤deep∧deep≤100) (hrl:e.r.2.length≤1099511627776) (hd5:¬ 5<deep) {L:Nat} (ih:∀x∈e.ks,∀c:Nat,c≤12→Fn Tryz.prog 109 (hbI (c:Nat)) [ad (rX x),nat1 (d:Nat),nat1 (deep+1),.c (.box 0 1 0 0)] (.o (bo1 (scanV d L c x).1)) (hbI ((scanV d L c x).2:Nat))):Fn Tryz.prog 109 (hbI (c:Nat)) [ad (rX e),nat1 (d:Nat),nat1 deep,.c (.box 0 1 0 0)] (.o (bo1 (scanV d (L+1) c e).1)) (hbI ((scanV d (L+1) c e).2:Nat)):=by
 refine Fn.of_code Tryz.func109 rfl rfl (hbI_HB _) rfl rfl (hbI_HB _) rfl (hbI_num _ _) ?_
 refine .r<|.c .bp<|.c .a<|.r<|.c .m<|.c .nB<|.c (.b1 1)<|.c .pl<|.c .nB<|.c (.sT 1 false)<|.nn<|.seq<|.seq ?_
 refine ACode.cut [eN 1 (d:Nat),eN 2 deep,eB 3 0 1,eP 4 (rX e),eT 8 false,eT 21 (decide (12<c+1∨5<deep)),(.b 0,.b 3 1 (dR ([rI ((c:Int)+1)]))),eU 0] ?_ ?_
 ·skip
  refine .region<|.c .m<|.c .nB<|.c (.b1 1)<|.c .gt<|.c .m ?_
  refine .cD 18 rfl (fun g18=>?_) (fun g18=>?_)
  ·skip
   refine .c .f<|.c .f<|.c .pT<|.nil ?_
   exact kc_n (Wk.keep [(0,0)] rfl rfl ⟨kd,kd,kX,kd,kd,ks rfl (.dt (vB (by first|rfl|grind))),kb 0 rfl (.dt rfl),trivial⟩)
  ·skip
   refine .c (.g .m)<|.c (.g .gt)<|.c .pF<|.nil ?_
   exact kc_n (Wk.keep [(0,0)] rfl rfl ⟨kd,kd,kX,kd,kd,ks rfl (.dt (vB (by first|rfl|grind))),kb 0 rfl (.dt rfl),trivial⟩)
 refine ks_n ?_
 refine ACode.condT rfl (fun h21=>?_) (fun h21=>?_)
 ·try simp only[zs]at h21
  refine .seq ?_
  have hR:=scan_many (d:=d) (L:=L) (e:=e) (show 12<c+1 by omega)
  refine .region<|.c .a<|.nn<|.ret<|ks_r ?_
  obtain⟨r,hr⟩:∃r,r=(scanV d (L+1) c e):=⟨_,rfl⟩
  rw[←hr]
  rw[←hr]at hR
  refine kf_wret [eB 3 0 1,eT 8 r.1,(.b 0,.b 3 1 (dR ([rI (r.2:Nat)]))),eU 0] (Wk.keep [(0,0)] rfl rfl ⟨kX,ks rfl (.dt (vB (by rw[hR]<;>first|rfl|grind))),kb 0 rfl (.dt rfl (by rw[hR]<;>rfl)),trivial⟩) rfl ?_ (hbI_box rfl)
  rfl
 ·try simp only[zs]at h21
  have hc1:¬ 12<c+1:=by omega
  refine .skip<|ks_n<|.seq<|.seq ?_
  refine ACode.cut [eN 1 (d:Nat),eN 2 deep,eB 3 0 1,eP 4 (rX e),eT 8 false,eT 51 (!hdV e),(.b 0,.b 3 1 (dR ([rI ((c:Int)+1)]))),eU 0] ?_ ?_
  ·skip
   refine .region<|.c (.fP 0 0 false)<|.c (.l1 1)<|.c .ne<|.c .m ?_
   refine .cND 25 rfl (fun g25=>?_) (fun g25=>?_)
   ·skip
    refine .c (.g (.fP 1 0 false))<|.c (.g (.l1 1))<|.c (.g .ne)<|.c .pT<|.c .m ?_
    refine AOps.cases 30 _ rfl (fun g30=>?_) (fun g30=>?_)
    ·try simp only[zs]at g30
     refine .c .f<|.c .f<|.c .f<|.c .f<|.c .gU<|.c .gU<|.c .gU<|.c .gU<|.c .f<|.c .pT<|.c .m<|.c .f<|.c .f<|.c .f<|.c .f<|.c .gU<|.c .gU<|.c .gU<|.c .gU<|.c .f<|.c .pT<|.nil ?_
     exact kc_n (Wk.keep [(0,0)] rfl rfl ⟨kd,kd,kX,kd,kd,ks rfl (.dt (vB (by first|(exfalso;omega)|(rw[hdV];simp[*];done)|(rw[hdV];cases hA:nonA e.i<;>cases hC:nonC e.r<;>simp_all;done)))),kb 0 rfl (.dt rfl),trivial⟩)
    ·try simp only[zs]at g30
     refine .c (.g (.fP 0 0 false))<|.c (.g (.l1 1))<|.c (.g .ne)<|.c (.g .m) ?_
     refine .cND 34 rfl (fun g34=>?_) (fun g34=>?_)
     ·skip
      refine .c (.g (.fP 2 1 true))<|.c (.g (.lN 2)) ?_
      refine .c (.gT rfl rfl rfl (.cP [.tmp 36] rfl rfl rfl rfl (implNoA_fn _) rfl)) ?_
      refine .c (.g .nt)<|.c (.g .pT)<|.c .pF<|.c .m ?_
      refine AOps.cases 41 _ rfl (fun g41=>?_) (fun g41=>?_)
      ·try simp only[zs]at g41
       refine .c .f<|.c .f<|.c .f<|.c .f<|.c .gU<|.c .gU<|.c .gU<|.c .gU<|.c .f<|.c .pT<|.nil ?_
       exact kc_n (Wk.keep [(0,0)] rfl rfl ⟨kd,kd,kX,kd,kd,ks rfl (.dt (vB (by first|(exfalso;omega)|(rw[hdV];simp[*];done)|(rw[hdV];cases hA:nonA e.i<;>cases hC:nonC e.r<;>simp_all;done)))),kb 0 rfl (.dt rfl),trivial⟩)
      ·try simp only[zs]at g41
       refine .c (.g (.fP 0 0 false))<|.c (.g (.l1 1))<|.c (.g .ne)<|.c (.g .m) ?_
       refine .cND 45 rfl (fun g45=>?_) (fun g45=>?_)
       ·skip
        refine .c (.g (.fP 4 1 true))<|.c (.g (.lN 2)) ?_
        refine .c (.gT rfl rfl rfl (.cP [.tmp 47] rfl rfl rfl rfl (implNoC_fn _) rfl)) ?_
        refine .c (.g .nt)<|.c (.g .pT)<|.c .pF<|.nil ?_
        exact kc_n (Wk.keep [(0,0)] rfl rfl ⟨kd,kd,kX,kd,kd,ks rfl (.dt (vB (by first|(exfalso;omega)|(rw[hdV];simp[*];done)|(rw[hdV];cases hA:nonA e.i<;>cases hC:nonC e.r<;>simp_all;done)))),kb 0 rfl (.dt rfl),trivial⟩)
       ·skip
        refine .c .f<|.c .f<|.c .f<|.c .f<|.c (.g .pF)<|.c .pF<|.nil ?_
        exact kc_n (Wk.keep [(0,0)] rfl rfl ⟨kd,kd,kX,kd,kd,ks rfl (.dt (vB (by first|(exfalso;omega)|(rw[hdV];simp[*];done)|(rw[hdV];cases hA:nonA e.i<;>cases hC:nonC e.r<;>simp_all;done)))),kb 0 rfl (.dt rfl),trivial⟩)
     ·skip
      refine .c .f<|.c .f<|.c .f<|.c .f<|.c (.g .pF)<|.c .pF<|.c .m<|.c (.g (.fP 0 0 false))<|.c (.g (.l1 1))<|.c (.g .ne)<|.c (.g .m) ?_
      refine .cND 45 rfl (fun g45=>?_) (fun g45=>?_)
      ·skip
       refine .c (.g (.fP 4 1 true))<|.c (.g (.lN 2)) ?_
       refine .c (.gT rfl rfl rfl (.cP [.tmp 47] rfl rfl rfl rfl (implNoC_fn _) rfl)) ?_
       refine .c (.g .nt)<|.c (.g .pT)<|.c .pF<|.nil ?_
       exact kc_n (Wk.keep [(0,0)] rfl rfl ⟨kd,kd,kX,kd,kd,ks rfl (.dt (vB (by first|(exfalso;omega)|(rw[hdV];simp[*];done)|(rw[hdV];cases hA:nonA e.i<;>cases hC:nonC e.r<;>simp_all;done)))),kb 0 rfl (.dt rfl),trivial⟩)
      ·skip
       refine .c .f<|.c .f<|.c .f<|.c .f<|.c (.g .pF)<|.c .pF<|.nil ?_
       exact kc_n (Wk.keep [(0,0)] rfl rfl ⟨kd,kd,kX,kd,kd,ks rfl (.dt (vB (by first|(exfalso;omega)|(rw[hdV];simp[*];done)|(rw[hdV];cases hA:nonA e.i<;>cases hC:nonC e.r<;>simp_all;done)))),kb 0 rfl (.dt rfl),trivial⟩)
   ·skip
    refine .c .f<|.c .f<|.c .f<|.c .pF<|.c .m<|.c (.g (.fP 0 0 false))<|.c (.g (.l1 1))<|.c (.g .ne)<|.c (.g .m) ?_
    refine .cND 34 rfl (fun g34=>?_) (fun g34=>?_)
    ·skip
     refine .c (.g (.fP 2 1 true))<|.c (.g (.lN 2)) ?_
     refine .c (.gT rfl rfl rfl (.cP [.tmp 36] rfl rfl rfl rfl (implNoA_fn _) rfl)) ?_
     refine .c (.g .nt)<|.c (.g .pT)<|.c .pF<|.c .m ?_
     refine AOps.cases 41 _ rfl (fun g41=>?_) (fun g41=>?_)
     ·try simp only[zs]at g41
      refine .c .f<|.c .f<|.c .f<|.c .f<|.c .gU<|.c .gU<|.c .gU<|.c .gU<|.c .f<|.c .pT<|.nil ?_
      exact kc_n (Wk.keep [(0,0)] rfl rfl ⟨kd,kd,kX,kd,kd,ks rfl (.dt (vB (by first|(exfalso;omega)|(rw[hdV];simp[*];done)|(rw[hdV];cases hA:nonA e.i<;>cases hC:nonC e.r<;>simp_all;done)))),kb 0 rfl (.dt rfl),trivial⟩)
     ·try simp only[zs]at g41
      refine .c (.g (.fP 0 0 false))<|.c (.g (.l1 1))<|.c (.g .ne)<|.c (.g .m) ?_
      refine .cND 45 rfl (fun g45=>?_) (fun g45=>?_)
      ·skip
       refine .c (.g (.fP 4 1 true))<|.c (.g (.lN 2)) ?_
       refine .c (.gT rfl rfl rfl (.cP [.tmp 47] rfl rfl rfl rfl (implNoC_fn _) rfl)) ?_
       refine .c (.g .nt)<|.c (.g .pT)<|.c .pF<|.nil ?_
       exact kc_n (Wk.keep [(0,0)] rfl rfl ⟨kd,kd,kX,kd,kd,ks rfl (.dt (vB (by first|(exfalso;omega)|(rw[hdV];simp[*];done)|(rw[hdV];cases hA:nonA e.i<;>cases hC:nonC e.r<;>simp_all;done)))),kb 0 rfl (.dt rfl),trivial⟩)
      ·skip
       refine .c .f<|.c .f<|.c .f<|.c .f<|.c (.g .pF)<|.c .pF<|.nil ?_
       exact kc_n (Wk.keep [(0,0)] rfl rfl ⟨kd,kd,kX,kd,kd,ks rfl (.dt (vB (by first|(exfalso;omega)|(rw[hdV];simp[*];done)|(rw[hdV];cases hA:nonA e.i<;>cases hC:nonC e.r<;>simp_all;done)))),kb 0 rfl (.dt rfl),trivial⟩)
    ·skip
     refine .c .f<|.c .f<|.c .f<|.c .f<|.c (.g .pF)<|.c .pF<|.c .m<|.c (.g (.fP 0 0 false))<|.c (.g (.l1 1))<|.c (.g .ne)<|.c (.g .m) ?_
     refine .cND 45 rfl (fun g45=>?_) (fun g45=>?_)
     ·skip
      refine .c (.g (.fP 4 1 true))<|.c (.g (.lN 2)) ?_
      refine .c (.gT rfl rfl rfl (.cP [.tmp 47] rfl rfl rfl rfl (implNoC_fn _) rfl)) ?_
      refine .c (.g .nt)<|.c (.g .pT)<|.c .pF<|.nil ?_
      exact kc_n (Wk.keep [(0,0)] rfl rfl ⟨kd,kd,kX,kd,kd,ks rfl (.dt (vB (by first|(exfalso;omega)|(rw[hdV];simp[*];done)|(rw[hdV];cases hA:nonA e.i<;>cases hC:nonC e.r<;>simp_all;done)))),kb 0 rfl (.dt rfl),trivial⟩)
     ·skip
      refine .c .f<|.c .f<|.c .f<|.c .f<|.c (.g .pF)<|.c .pF<|.nil ?_
      exact kc_n (Wk.keep [(0,0)] rfl rfl ⟨kd,kd,kX,kd,kd,ks rfl (.dt (vB (by first|(exfalso;omega)|(rw[hdV];simp[*];done)|(rw[hdV];cases hA:nonA e.i<;>cases hC:nonC e.r<;>simp_all;done)))),kb 0 rfl (.dt rfl),trivial⟩)
  refine ks_n ?_
  refine ACode.condT rfl (fun h51=>?_) (fun h51=>?_)
  ·try simp only[zs]at h51
   refine .seq ?_
   have hR:=scan_hd (d:=d) (L:=L) (c:=c) h51
   refine .region<|.c .a<|.nn<|.ret<|ks_r ?_
   obtain⟨r,hr⟩:∃r,r=(scanV d (L+1) c e):=⟨_,rfl⟩
   rw[←hr]
   rw[←hr]at hR
   refine kf_wret [eB 3 0 1,eT 8 r.1,(.b 0,.b 3 1 (dR ([rI (r.2:Nat)]))),eU 0] (Wk.keep [(0,0)] rfl rfl ⟨kX,ks rfl (.dt (vB (by rw[hR]<;>first|rfl|grind))),kb 0 rfl (.dt rfl (by rw[hR]<;>rfl)),trivial⟩) rfl ?_ (hbI_box rfl)
   rfl
  ·try simp only[zs]at h51
   refine .skip<|ks_n<|.seq<|.block<|.r<|.c (.fP 0 0 false)<|.c (.l1 1)<|.c .eq<|.c .a<|.nn ?_
   refine .cD rfl (fun h52=>?_) (fun h52=>?_)
   ·skip
    refine .seq ?_
    have hR:=scan1 (d:=d) (L:=L) h52 h51 hc1
    refine .region<|.c (.fP 1 0 false)<|.c (.l1 1) ?_
    refine .c (.cP [.tmp 57,.const (.int .i64 (0)),.const (.int .i64 (99))] rfl rfl rfl rfl (within_fn _ 0 99) rfl) ?_
    refine .c .m ?_
    refine AOps.cases 59 _ rfl (fun g59=>?_) (fun g59=>?_)
    ·try simp only[zs]at g59
     refine .c (.g (.fP 6 0 false))<|.c (.g (.l1 1))<|.c (.g (.ln 64 7 112))<|.c (.g .eq)<|.c .pT<|.c .a<|.nn<|.ret<|kb_r<|ks_r ?_
     obtain⟨r,hr⟩:∃r,r=(scanV d (L+1) c e):=⟨_,rfl⟩
     rw[←hr]
     rw[←hr]at hR
     refine kf_wret [eB 3 0 1,eT 8 r.1,(.b 0,.b 3 1 (dR ([rI (r.2:Nat)]))),eU 0] (Wk.keep [(0,0)] rfl rfl ⟨kX,ks rfl (.dt (vB (by rw[hR]<;>first|rfl|grind))),kb 0 rfl (.dt rfl (by rw[hR]<;>rfl)),trivial⟩) rfl ?_ (hbI_box rfl)
     rfl
    ·try simp only[zs]at g59
     refine .c .f<|.c .f<|.c .f<|.c .f<|.c .pF<|.c .a<|.nn<|.ret<|kb_r<|ks_r ?_
     obtain⟨r,hr⟩:∃r,r=(scanV d (L+1) c e):=⟨_,rfl⟩
     rw[←hr]
     rw[←hr]at hR
     refine kf_wret [eB 3 0 1,eT 8 r.1,(.b 0,.b 3 1 (dR ([rI (r.2:Nat)]))),eU 0] (Wk.keep [(0,0)] rfl rfl ⟨kX,ks rfl (.dt (vB (by rw[hR]<;>first|rfl|grind))),kb 0 rfl (.dt rfl (by rw[hR]<;>rfl)),trivial⟩) rfl ?_ (hbI_box rfl)
     rfl
   ·skip
    refine .r<|.c (.fP 0 0 false)<|.c (.l1 1)<|.c .eq<|.c .a<|.nn ?_
    refine .cD rfl (fun h65=>?_) (fun h65=>?_)
    ·skip
     refine .seq ?_
     have hR:=scan2 (d:=d) (L:=L) h65 h51 hc1
     refine .region<|.c (.fP 2 1 true)<|.c (.lN 2) ?_
     refine .c (.cP [.tmp 70] rfl rfl rfl rfl (implAffV_fn _) rfl) ?_
     refine .c .m ?_
     refine AOps.cases 72 _ rfl (fun g72=>?_) (fun g72=>?_)
     ·try simp only[zs]at g72
      refine .c (.g (.fP 2 1 true))<|.c (.g (.lN 2)) ?_
      refine .c (.gT rfl rfl rfl (.cP [.tmp 74] rfl rfl rfl rfl (depth_fn _) rfl)) ?_
      refine .c (.g .m)<|.c (.g .le)<|.c .pT<|.c .m ?_
      refine AOps.cases 79 _ rfl (fun g79=>?_) (fun g79=>?_)
      ·try simp only[zs]at g79
       refine .c (.g (.fP 6 0 false))<|.c (.g (.l1 1))<|.c (.g (.ln 64 7 112))<|.c (.g .eq)<|.c .pT<|.c .a<|.nn<|.ret<|kb_r<|ks_r ?_
       obtain⟨r,hr⟩:∃r,r=(scanV d (L+1) c e):=⟨_,rfl⟩
       rw[←hr]
       rw[←hr]at hR
       refine kf_wret [eB 3 0 1,eT 8 r.1,(.b 0,.b 3 1 (dR ([rI (r.2:Nat)]))),eU 0] (Wk.keep [(0,0)] rfl rfl ⟨kX,ks rfl (.dt (vB (by rw[hR]<;>first|rfl|grind))),kb 0 rfl (.dt rfl (by rw[hR]<;>rfl)),trivial⟩) rfl ?_ (hbI_box rfl)
       rfl
      ·try simp only[zs]at g79
       refine .c .f<|.c .f<|.c .f<|.c .f<|.c .pF<|.c .a<|.nn<|.ret<|kb_r<|ks_r ?_
       obtain⟨r,hr⟩:∃r,r=(scanV d (L+1) c e):=⟨_,rfl⟩
       rw[←hr]
       rw[←hr]at hR
       refine kf_wret [eB 3 0 1,eT 8 r.1,(.b 0,.b 3 1 (dR ([rI (r.2:Nat)]))),eU 0] (Wk.keep [(0,0)] rfl rfl ⟨kX,ks rfl (.dt (vB (by rw[hR]<;>first|rfl|grind))),kb 0 rfl (.dt rfl (by rw[hR]<;>rfl)),trivial⟩) rfl ?_ (hbI_box rfl)
       rfl
     ·try simp only[zs]at g72
      refine .c .f<|.c .f<|.c .f<|.c .f<|.c .f<|.c .pF<|.c .m<|.c .f<|.c .f<|.c .f<|.c .f<|.c .pF<|.c .a<|.nn<|.ret<|kb_r<|ks_r ?_
      obtain⟨r,hr⟩:∃r,r=(scanV d (L+1) c e):=⟨_,rfl⟩
      rw[←hr]
      rw[←hr]at hR
      refine kf_wret [eB 3 0 1,eT 8 r.1,(.b 0,.b 3 1 (dR ([rI (r.2:Nat)]))),eU 0] (Wk.keep [(0,0)] rfl rfl ⟨kX,ks rfl (.dt (vB (by rw[hR]<;>first|rfl|grind))),kb 0 rfl (.dt rfl (by rw[hR]<;>rfl)),trivial⟩) rfl ?_ (hbI_box rfl)
      rfl
    ·skip
     refine .r<|.c (.fP 0 0 false)<|.c (.l1 1)<|.c .eq<|.c .a<|.nn ?_
     refine .cD rfl (fun h85=>?_) (fun h85=>?_)
     ·skip
      refine .seq ?_
      have hR:=scan3 (d:=d) (L:=L) h85 h51 hc1
      refine .region<|.c (.fP 4 1 true)<|.c (.lN 2)<|.c .m ?_
      refine .c (.cP [.tmp 90,.tmp 91] rfl rfl rfl rfl (accOk_fn d _ hrl) rfl) ?_
      refine .c .m ?_
      refine AOps.cases 93 _ rfl (fun g93=>?_) (fun g93=>?_)
      ·try simp only[zs]at g93
       refine .c (.g (.fP 6 0 false))<|.c (.g (.l1 1))<|.c (.g (.ln 64 7 112))<|.c (.g .eq)<|.c .pT<|.c .a<|.nn<|.ret<|kb_r<|ks_r ?_
       obtain⟨r,hr⟩:∃r,r=(scanV d (L+1) c e):=⟨_,rfl⟩
       rw[←hr]
       rw[←hr]at hR
       refine kf_wret [eB 3 0 1,eT 8 r.1,(.b 0,.b 3 1 (dR ([rI (r.2:Nat)]))),eU 0] (Wk.keep [(0,0)] rfl rfl ⟨kX,ks rfl (.dt (vB (by rw[hR]<;>first|rfl|grind))),kb 0 rfl (.dt rfl (by rw[hR]<;>rfl)),trivial⟩) rfl ?_ (hbI_box rfl)
       rfl
      ·try simp only[zs]at g93
       refine .c .f<|.c .f<|.c .f<|.c .f<|.c .pF<|.c .a<|.nn<|.ret<|kb_r<|ks_r ?_
       obtain⟨r,hr⟩:∃r,r=(scanV d (L+1) c e):=⟨_,rfl⟩
       rw[←hr]
       rw[←hr]at hR
       refine kf_wret [eB 3 0 1,eT 8 r.1,(.b 0,.b 3 1 (dR ([rI (r.2:Nat)]))),eU 0] (Wk.keep [(0,0)] rfl rfl ⟨kX,ks rfl (.dt (vB (by rw[hR]<;>first|rfl|grind))),kb 0 rfl (.dt rfl (by rw[hR]<;>rfl)),trivial⟩) rfl ?_ (hbI_box rfl)
       rfl
     ·skip
      refine .r<|.c (.fP 0 0 false)<|.c (.l1 1) ?_
      refine .c (.cP [.tmp 101] rfl rfl rfl rfl (isOp_fn _) rfl) ?_
      refine .c .nt<|.c .m ?_
      refine AOps.cases 104 _ rfl (fun g104=>?_) (fun g104=>?_)
      ·try simp only[zs]at g104
       refine .c .f<|.c .f<|.c .f<|.c .f<|.c .pT<|.c .a<|.nn ?_
       refine .k1 ?_
       refine .seq ?_
       have hR:=scan_bad (d:=d) (L:=L) (c:=c) ⟨h52,h65,h85⟩ (by first|exact .inl (by assumption)|exact .inr (by omega))
       refine .region<|.c .a<|.nn<|.ret<|kb_r<|ks_r ?_
       obtain⟨r,hr⟩:∃r,r=(scanV d (L+1) c e):=⟨_,rfl⟩
       rw[←hr]
       rw[←hr]at hR
       refine kf_wret [eB 3 0 1,eT 8 r.1,(.b 0,.b 3 1 (dR ([rI (r.2:Nat)]))),eU 0] (Wk.keep [(0,0)] rfl rfl ⟨kX,ks rfl (.dt (vB (by rw[hR]<;>first|rfl|grind))),kb 0 rfl (.dt rfl (by rw[hR]<;>rfl)),trivial⟩) rfl ?_ (hbI_box rfl)
       rfl
      ·try simp only[zs]at g104
       refine .c (.g (.fP 6 0 false))<|.c (.g (.l1 1))<|.c (.g (.ln 64 7 112))<|.c (.g .ne)<|.c .pF<|.c .a<|.nn ?_
       refine ACode.condT rfl (fun h99=>?_) (fun h99=>?_)
       ·try simp only[zs]at h99
        refine .seq ?_
        have hR:=scan_bad (d:=d) (L:=L) (c:=c) ⟨h52,h65,h85⟩ (by first|exact .inl (by assumption)|exact .inr (by omega))
        refine .region<|.c .a<|.nn<|.ret<|kb_r<|ks_r ?_
        obtain⟨r,hr⟩:∃r,r=(scanV d (L+1) c e):=⟨_,rfl⟩
        rw[←hr]
        rw[←hr]at hR
        refine kf_wret [eB 3 0 1,eT 8 r.1,(.b 0,.b 3 1 (dR ([rI (r.2:Nat)]))),eU 0] (Wk.keep [(0,0)] rfl rfl ⟨kX,ks rfl (.dt (vB (by rw[hR]<;>first|rfl|grind))),kb 0 rfl (.dt rfl (by rw[hR]<;>rfl)),trivial⟩) rfl ?_ (hbI_box rfl)
        rfl
       ·try simp only[zs]at h99
        refine .skip<|kb_n<|ks_n<|.seq ?_
        obtain⟨x,y,hks⟩:=two_of (l:=e.ks) (by omega)
        have hR:=scan_op (d:=d) (L:=L) (by assumption) h51 hc1 hks
        obtain⟨_,hx2,_,_⟩:=scanV_iff d L (c+1) x
        refine .region<|.c (.fP 6 0 false)<|.c (.l1 1) ?_
        refine .c (.xL 64 7 112 (i:=0) rfl rfl rfl rfl rfl (by rw[hks];exact rE_at rfl)) ?_
        refine .c (.lN 7)<|.c .m<|.c .m<|.c .pl<|.c .m ?_
        refine .c (.cO [.tmp 113,.tmp 114,.tmp 116,.tmp 117] [(0,0)] rfl rfl rfl rfl (ih x (by rw[hks];simp) (c+1) (by omega)) rfl ⟨rfl,trivial⟩ (hbI_flat _) (hbI_flat _) (hbI_HB _) outS_one) ?_
        refine .c .m ?_
        refine AOps.cases 119 _ rfl (fun g119=>?_) (fun g119=>?_)
        ·try simp only[zs]at g119
         have hc2:(scanV d L (c+1) x).2≤12:=by have h1:=hx2 g119;have h2:=((scanV_iff d L (c+1) x).1.1 g119).2;omega
         rw[if_pos g119]at hR
         refine .c (.g (.fP 6 0 false))<|.c (.g (.l1 1)) ?_
         refine .c (.gT rfl rfl rfl (.xL 64 7 112 (i:=1) rfl rfl rfl rfl rfl (by rw[hks];exact rE_at rfl))) ?_
         refine .c (.g (.lN 7))<|.c (.g .m)<|.c (.g .m)<|.c (.g .pl)<|.c (.g .m) ?_
         refine .c (.gT rfl rfl rfl (.cO [.tmp 123,.tmp 124,.tmp 126,.tmp 127] [(0,0)] rfl rfl rfl rfl (ih y (by rw[hks];simp) (scanV d L (c+1) x).2 hc2) rfl ⟨rfl,trivial⟩ (hbI_flat _) (hbI_flat _) (hbI_HB _) outS_one)) ?_
         refine .c .pT<|.c .a<|.nn<|.ret ?_
         obtain⟨r,hr⟩:∃r,r=(scanV d (L+1) c e):=⟨_,rfl⟩
         rw[←hr]
         rw[←hr]at hR
         refine kf_wret [eB 3 0 1,eT 8 r.1,(.b 0,.b 3 1 (dR ([rI (r.2:Nat)]))),eU 0] (Wk.keep [(0,0)] rfl rfl ⟨kX,ks rfl (.dt (vB (by rw[hR]<;>first|rfl|grind))),kb 0 rfl (.dt rfl (by rw[hR]<;>rfl)),trivial⟩) rfl ?_ (hbI_box rfl)
         rfl
        ·try simp only[zs]at g119
         rw[if_neg (by rw[g119];simp)]at hR
         refine .c .f<|.c .f<|.c .f<|.c .f<|.c .f<|.c .f<|.c .f<|.c .f<|.c .f<|.c .pF<|.c .a<|.nn<|.ret ?_
         obtain⟨r,hr⟩:∃r,r=(scanV d (L+1) c e):=⟨_,rfl⟩
         rw[←hr]
         rw[←hr]at hR
         refine kf_wret [eB 3 0 1,eT 8 r.1,(.b 0,.b 3 1 (dR ([rI (r.2:Nat)]))),eU 0] (Wk.keep [(0,0)] rfl rfl ⟨kX,ks rfl (.dt (vB (by rw[hR]<;>first|rfl|grind))),kb 0 rfl (.dt rfl (by rw[hR]<;>rfl)),trivial⟩) rfl ?_ (hbI_box rfl)
         rfl
theorem szE_eq (e:Ex):szE e=e.i.1.length+szC e.r+e.ks.length+szEs e.ks:=by cases e;rw[szE];rfl
theorem exprScan_fn (d:Nat):∀(L:Nat) (deep:Int) (c:Nat) (e:Ex),deep=6 -(L:Int)→L≤5→c≤12→szE e≤1099511627776→
    Fn Tryz.prog 109 (hbI (c:Nat)) [ad (rX e),nat1 (d:Nat),nat1 deep,.c (.box 0 1 0 0)] (.o (bo1 (scanV d L c e).1)) (hbI ((scanV d L c e).2:Nat))
  |0,deep,c,e,hd,hL,hc,hs=>scan_zero d hc (by omega) (by rw[szE_eq,szC]at hs;have:=szAs_len e.r.2;omega) (by omega)
  | L + 1, deep, c, e, hd, hL, hc, hs => scan_succ d hc (by omega) (by rw [szE_eq, szC] at hs; have := szAs_len e.r.2; omega) (by omega) fun x hx c hc =>
      exprScan_fn d L (deep+1) c x (by omega) (by omega) hc (by have:=szEs_mem hx;rw[szE_eq]at hs;omega)
theorem szS_parts {s:Stm} (hs:szS s≤1099511627776):s.1.2.length≤1099511627776∧szE s.2≤1099511627776:=by
  rw[szS,szC]at hs
  have:=szAs_len s.1.2
  exact⟨by omega,by omega⟩
theorem stmtV_no {d:Int} {s:Stm} (h:inB d 0 4=false):stmtV d s=false:=by rw[stmtV,h];rfl
theorem stmtV_w {d:Int} {s:Stm} (h:inB d 0 4=true):stmtV d s=(accV d.toNat s.1&&(scanV d.toNat 5 0 s.2).1):=by
  rw[stmtV,h,Bool.true_and,Bool.and_assoc]
  congr 1
  rw[Bool.eq_iff_iff,Bool.and_eq_true,decide_eq_true_eq,(scanV_iff d.toNat 5 0 s.2).1,Nat.zero_add]
theorem accOk_fi {d:Int} (h:((d.toNat:Nat):Int)=d) (a:Acc) (ha:a.2.length≤1099511627776):Fn Tryz.prog 108 [] [ad (rC a),nat1 d] (.o (bo1 (accV d.toNat a))) []:=by
  have h2:=accOk_fn d.toNat a ha
  rw[h]at h2;exact h2
theorem exprScan_fi {d:Int} (h:((d.toNat:Nat):Int)=d) (e:Ex) (hs:szE e≤1099511627776):Fn Tryz.prog 109 (hbI 0) [ad (rX e),nat1 d,nat1 1,.c (.box 0 1 0 0)] (.o (bo1 (scanV d.toNat 5 0 e).1)) (hbI ((scanV d.toNat 5 0 e).2:Nat)):=by
  have h2:=exprScan_fn d.toNat 5 1 0 e (by omega) (by omega) (by omega) hs
  rw[h]at h2;exact h2
theorem implStmtV_fn (d:Int) (s:Stm) (hs:szS s≤1099511627776):Fn Tryz.prog 64 [] [ad (rS s),nat1 d] (.o (bo1 (stmtV d s))) []:=by
  obtain⟨hs1,hs2⟩:=szS_parts hs
  refine Fn.code0 Tryz.func64 rfl rfl rfl rfl ?_
  refine .r<|.c .bp<|.c .a<|.r<|.c (.al 105 [.int .i64 0])<|.c (.sT 1 false)<|.r<|.c .m ?_
  refine .c (.cP [.tmp 6,.const (.int .i64 (0)),.const (.int .i64 (4))] rfl rfl rfl rfl (within_fn _ 0 4) rfl) ?_
  refine .c .m ?_
  refine AOps.cases 8 _ rfl (fun g8=>?_) (fun g8=>?_)
  · try simp only[zs]at g8
    have hD:((d.toNat:Nat):Int)=d:=by simp only[inB,decide_eq_true_eq]at g8;omega
    refine .c (.g (.fP 0 1 true))<|.c (.g (.lN 2))<|.c (.g .m) ?_
    refine .c (.gT rfl rfl rfl (.cP [.tmp 10,.tmp 11] rfl rfl rfl rfl (accOk_fi hD s.1 hs1) rfl)) ?_
    refine .c .pT<|.c .m ?_
    refine AOps.cases 14 _ rfl (fun g14=>?_) (fun g14=>?_)
    · try simp only[zs]at g14
      refine .c (.g (.fP 2 6 true))<|.c (.g (.lN 7))<|.c (.g .m) ?_
      refine .c (.gT rfl rfl rfl (.cO [.tmp 16,.tmp 17,.const (.int .i64 (1)),.tmp 5] [(0,105)] rfl rfl rfl rfl (exprScan_fi hD s.2 hs2) rfl ⟨rfl,trivial⟩ (hbI_flat _) (hbI_flat _) (hbI_HB _) outS_one)) ?_
      refine .c .pT<|.c .a<|.nn<|.ret ?_
      refine kf_ret rfl ?_ nobox
      first|exact leafB (stmtV_no g8).symm|exact leafB (by rw[stmtV_w g8,g14];first|rfl|simp)
    · try simp only[zs]at g14
      refine .c .f<|.c .f<|.c .f<|.c .f<|.c .pF<|.c .a<|.nn<|.ret ?_
      refine kf_ret rfl ?_ nobox
      first|exact leafB (stmtV_no g8).symm|exact leafB (by rw[stmtV_w g8,g14];first|rfl|simp)
  · try simp only[zs]at g8
    refine .c .f<|.c .f<|.c .f<|.c .f<|.c .pF<|.c .m<|.c .f<|.c .f<|.c .f<|.c .f<|.c .pF<|.c .a<|.nn<|.ret ?_
    refine kf_ret rfl ?_ nobox
    first|exact leafB (stmtV_no g8).symm|exact leafB (by rw[stmtV_w g8,g14];first|rfl|simp)
theorem kids_eq (k:Int) (n:Nat):kidV k n=decide ((if 1≤k∧k≤3 then(0:Int)else if 4≤k∧k≤6 then 2 else -1)=(n:Nat)):=by
  rw[kidV]
  split
  ·rw[decide_eq_decide];omega
  · split
    ·rw[decide_eq_decide];omega
    ·rw[decide_eq_false];omega
theorem arr_leaf {s:ByteArray} (h:s.size=1):arrV s=(!sLt s ⟨#[65]⟩&&(sLt s ⟨#[68]⟩||sEq s ⟨#[68]⟩)):=by
  have hsz:s.size=s.data.toList.length:=Lib.size_eq s
  obtain⟨b,hb⟩:∃b,s.data.toList=[b]:=List.length_eq_one_iff.1 (by omega)
  obtain rfl:s=⟨#[b]⟩:=by
    cases s with
    |mk data=>exact congrArg ByteArray.mk (Array.toList_inj.1 (by rw[hb]))
  have key:∀n:Fin 256,arrV ⟨#[UInt8.ofNat n.val]⟩=(!sLt ⟨#[UInt8.ofNat n.val]⟩ ⟨#[65]⟩&&(sLt ⟨#[UInt8.ofNat n.val]⟩ ⟨#[68]⟩||sEq ⟨#[UInt8.ofNat n.val]⟩ ⟨#[68]⟩)):=by decide +kernel
  have:=key ⟨b.toNat,b.toNat_lt⟩
  simpa using this
theorem l3Kids_fn (k:Int):Fn Tryz.prog 169 [] [nat1 k] (.o (nat1 (if 1≤k∧k≤3 then 0 else if 4≤k∧k≤6 then 2 else -1))) []:=by
 refine Fn.code0 Tryz.func169 rfl rfl rfl rfl ?_
 refine .r<|.c .a<|.nn<|.seq<|.r<|.c .m<|.nn<|.block<|.seq ?_
 refine ACode.cut [eN 2 0,eN 3 k,eT 4 (decide (1≤k∧k≤3))] ?_ ?_
 ·skip
  refine .r<|.c .eq<|.c .a<|.nn ?_
  refine .cD rfl (fun h4=>?_) (fun h4=>?_)
  ·skip
   refine .skip ?_
   exact kc_n (Wk.keep [] rfl rfl ⟨kd,kd,ks rfl (.dt (vB (by first|rfl|grind))),trivial⟩)
  ·skip
   refine .r<|.c .eq<|.c .a<|.nn ?_
   refine .cD rfl (fun h4=>?_) (fun h4=>?_)
   ·skip
    refine .skip ?_
    exact kc_n (Wk.keep [] rfl rfl ⟨kd,kd,ks rfl (.dt (vB (by first|rfl|grind))),trivial⟩)
   ·skip
    refine .region<|.c .eq<|.c .a<|.nil ?_
    exact kc_n (Wk.keep [] rfl rfl ⟨kd,kd,ks rfl (.dt (vB (by first|rfl|grind))),trivial⟩)
 refine ks_n ?_
 refine ACode.condT rfl (fun h4=>?_) (fun h4=>?_)
 ·try simp only[zs]at h4
  refine .r<|.c .a<|.nn<|.ret<|kb_r<|ks_r ?_
  refine kf_ret rfl ?_ nobox
  first|exact leafI (by rw[if_pos h4])|exact leafI (by rw[if_neg h4,if_pos h8])|exact leafI (by rw[if_neg h4,if_neg h8])
 ·try simp only[zs]at h4
  refine .seq ?_
  refine ACode.cut [eN 2 0,eN 3 k,eT 8 (decide (4≤k∧k≤6))] ?_ ?_
  ·skip
   refine .r<|.c .eq<|.c .a<|.nn ?_
   refine .cD rfl (fun h8=>?_) (fun h8=>?_)
   ·skip
    refine .skip ?_
    exact kc_n (Wk.keep [] rfl rfl ⟨kd,kd,ks rfl (.dt (vB (by first|rfl|grind))),trivial⟩)
   ·skip
    refine .r<|.c .eq<|.c .a<|.nn ?_
    refine .cD rfl (fun h8=>?_) (fun h8=>?_)
    ·skip
     refine .skip ?_
     exact kc_n (Wk.keep [] rfl rfl ⟨kd,kd,ks rfl (.dt (vB (by first|rfl|grind))),trivial⟩)
    ·skip
     refine .region<|.c .eq<|.c .a<|.nil ?_
     exact kc_n (Wk.keep [] rfl rfl ⟨kd,kd,ks rfl (.dt (vB (by first|rfl|grind))),trivial⟩)
  refine ks_n ?_
  refine ACode.condT rfl (fun h8=>?_) (fun h8=>?_)
  ·try simp only[zs]at h8
   refine .r<|.c .a<|.nn<|.ret<|kb_r<|ks_r ?_
   refine kf_ret rfl ?_ nobox
   first|exact leafI (by rw[if_pos h4])|exact leafI (by rw[if_neg h4,if_pos h8])|exact leafI (by rw[if_neg h4,if_neg h8])
  ·try simp only[zs]at h8
   refine .skip<|kb_n<|ks_n<|.r<|.c .a<|.nn<|.ret ?_
   refine kf_ret rfl ?_ nobox
   first|exact leafI (by rw[if_pos h4])|exact leafI (by rw[if_neg h4,if_pos h8])|exact leafI (by rw[if_neg h4,if_neg h8])
theorem l3Access_fn (d:Nat) (a:Acc) (ha:a.2.length≤1099511627776):Fn Tryz.prog 134 [] [ad (rC a),nat1 (d:Nat)] (.o (bo1 (accV d a))) []:=by
 refine Fn.code0 Tryz.func134 rfl rfl rfl rfl ?_
 refine .r<|.c .bp<|.c .a<|.nn<|.seq<|.r<|.c .a<|.nn<|.block ?_
 refine .loopK (fun m σ=>(∃i:Nat,m=a.2.length -i∧(i≤a.2.length)∧(a.2.all (bndV d)=(a.2.drop i).all (bndV d))∧σ=[eN 1 (d:Nat),eP 2 (rC a),eT 4 false,eN 5 (i:Nat)])) [] ⟨0,rfl,by omega,by simp,rfl⟩ ⟨kd,kd,kd,kd,trivial⟩ ?_
 rintro m σ ⟨i,hm0,hi,hF,rfl⟩
 refine .seq<|.r<|.c .m<|.c (.fP 1 0 false)<|.c (.l1 1)<|.c (.ln 61 2 32)<|.c .ls<|.nn ?_
 refine .cD rfl (fun h10=>?_) (fun h10=>?_)
 ·skip
  obtain⟨x,hx1⟩:∃x,a.2[i]?=some x:=⟨_,List.getElem?_eq_getElem (by omega)⟩
  refine .skip<|ks_n<|.seq<|.block<|.r<|.c (.fP 1 0 false)<|.c (.l1 1)<|.c .m<|.c (.xL 61 2 32) ?_
  refine .c (.lN 2) ?_
  refine .c (.cP [.tmp 17] rfl rfl rfl rfl (specAffV_fn x) rfl) ?_
  refine .c .nt<|.c .m ?_
  refine AOps.cases 20 _ rfl (fun g20=>?_) (fun g20=>?_)
  ·try simp only[zs]at g20
   refine .c .f<|.c .f<|.c .f<|.c .f<|.c .f<|.c .f<|.c .f<|.c .f<|.c .pT<|.nn ?_
   refine .k1 ?_
   refine .seq ?_
   have g:bndV d x=false:=bnd_no (by first|exact .inl (by assumption)|exact .inr (by omega))
   refine .region<|.c .a<|.nn<|.ret<|kb_r<|ks_r<|kl_r<|kb_r<|ks_r ?_
   refine kf_ret rfl ?_ nobox
   exact leafB (by rw[accV,sideV,hF,all_drop hx1,g,Bool.false_and,Bool.false_and,Bool.false_and,Bool.and_false])
  ·try simp only[zs]at g20
   have g20:=g20
   refine .c (.g (.fP 1 0 false))<|.c (.g (.l1 1))<|.c (.g .m)<|.c (.g (.xL 61 2 32)) ?_
   refine .c (.g (.lN 2)) ?_
   refine .c (.gT rfl rfl rfl (.cP [.tmp 25] rfl rfl rfl rfl (l1Depth_fn x) rfl)) ?_
   refine .c (.g .m)<|.c (.g .gt)<|.c .pF<|.nn ?_
   refine ACode.condT rfl (fun h29=>?_) (fun h29=>?_)
   ·try simp only[zs]at h29
    refine .seq ?_
    have g:bndV d x=false:=bnd_no (by first|exact .inl (by assumption)|exact .inr (by omega))
    refine .region<|.c .a<|.nn<|.ret<|kb_r<|ks_r<|kl_r<|kb_r<|ks_r ?_
    refine kf_ret rfl ?_ nobox
    exact leafB (by rw[accV,sideV,hF,all_drop hx1,g,Bool.false_and,Bool.false_and,Bool.false_and,Bool.and_false])
   ·try simp only[zs]at h29
    replace h29:¬d<affDepth x:=by omega
    refine .skip<|kb_n<|ks_n<|.region<|.c .m<|.c .pl<|.c .a<|.nil ?_
    refine kl_k [] ⟨i+1,rfl,by omega,by rw[hF,all_drop hx1,bnd_yes g20 h29,Bool.true_and],rfl⟩ ⟨kd,kd,kd,kd,trivial⟩
 ·skip
  have hA:a.2.all (bndV d)=true:=by rw[hF,List.drop_of_length_le (by omega)];rfl
  refine .exit<|ks_e<|kl_e<|kb_hit<|ks_n<|.r<|.c (.fP 0 0 false)<|.c (.l1 1) ?_
  refine .c (St1.lenS rfl rfl rfl rfl rfl (by kernel_rfl) rfl) ?_
  refine .c .eq<|.c .m ?_
  refine .cD 34 rfl (fun g34=>?_) (fun g34=>?_)
  ·skip
   have h1s:a.1.size=1:=by omega
   have hAr:=arr_leaf h1s
   refine .c (.g (.fP 0 0 false))<|.c (.g (.l1 1)) ?_
   refine .c (.gT rfl rfl rfl (St1.geS rfl rfl rfl))<|.c .pT<|.c .m ?_
   refine AOps.cases 39 _ rfl (fun g39=>?_) (fun g39=>?_)
   ·try simp only[zs]at g39
    refine .c (.g (.fP 0 0 false))<|.c (.g (.l1 1)) ?_
    refine .c (.gT rfl rfl rfl (St1.leS rfl rfl rfl))<|.c .pT<|.c .m ?_
    refine AOps.cases 44 _ rfl (fun g44=>?_) (fun g44=>?_)
    ·try simp only[zs]at g44
     refine .c (.g (.fP 1 0 false))<|.c (.g (.l1 1))<|.c (.g (.ln 61 2 32))<|.c (.g .ge)<|.c .pT<|.c .m ?_
     refine AOps.cases 50 _ rfl (fun g50=>?_) (fun g50=>?_)
     ·try simp only[zs]at g50
      refine .c (.g (.fP 1 0 false))<|.c (.g (.l1 1))<|.c (.g (.ln 61 2 32))<|.c (.g .le)<|.c .pT<|.c .a<|.nn<|.ret ?_
      refine kf_ret rfl ?_ nobox
      exact leafB (by rw[accV,hAr,sideV,hA];first|rfl|grind)
     ·try simp only[zs]at g50
      refine .c .f<|.c .f<|.c .f<|.c .f<|.c .pF<|.c .a<|.nn<|.ret ?_
      refine kf_ret rfl ?_ nobox
      exact leafB (by rw[accV,hAr,sideV,hA];first|rfl|grind)
    ·try simp only[zs]at g44
     refine .c .f<|.c .f<|.c .f<|.c .f<|.c .pF<|.c .m<|.c .f<|.c .f<|.c .f<|.c .f<|.c .pF<|.c .a<|.nn<|.ret ?_
     refine kf_ret rfl ?_ nobox
     exact leafB (by rw[accV,hAr,sideV,hA];first|rfl|grind)
   ·try simp only[zs]at g39
    refine .c .f<|.c .f<|.c .f<|.c .pF<|.c .m<|.c .f<|.c .f<|.c .f<|.c .f<|.c .pF<|.c .m<|.c .f<|.c .f<|.c .f<|.c .f<|.c .pF<|.c .a<|.nn<|.ret ?_
    refine kf_ret rfl ?_ nobox
    exact leafB (by rw[accV,hAr,sideV,hA];first|rfl|grind)
  ·skip
   have hAr:=arrV_size (s:=a.1) (by omega)
   refine .c .f<|.c .f<|.c .f<|.c .pF<|.c .m<|.c .f<|.c .f<|.c .f<|.c .pF<|.c .m<|.c .f<|.c .f<|.c .f<|.c .f<|.c .pF<|.c .m<|.c .f<|.c .f<|.c .f<|.c .f<|.c .pF<|.c .a<|.nn<|.ret ?_
   refine kf_ret rfl ?_ nobox
   exact leafB (by rw[accV,hAr,sideV,hA];first|rfl|grind)
theorem l3Own_fn (d:Nat) (e:Ex) (hr:e.r.2.length≤1099511627776):Fn Tryz.prog 170 [] [ad (rX e),nat1 (d:Nat)] (.o (bo1 (fldV d e.k e.n e.i e.r))) []:=by
  refine Fn.code0 Tryz.func170 rfl rfl rfl rfl ?_
  refine .r<|.c .bp<|.c .a<|.nn<|.seq<|.r<|.c (.fP 0 0 false)<|.c (.l1 1)<|.c .eq<|.nn ?_
  refine .cD rfl (fun h7=>?_) (fun h7=>?_)
  · skip
    refine .r<|.c (.fP 1 0 false)<|.c (.l1 1)<|.c .eq<|.c .m ?_
    refine .cD 11 rfl (fun g11=>?_) (fun g11=>?_)
    · skip
      refine .c (.g (.fP 4 1 true))<|.c (.g (.lN 2)) ?_
      refine .c (.gT rfl rfl rfl (.cP [.tmp 13] rfl rfl rfl rfl (l3Empty_fn _) rfl)) ?_
      refine .c .pT<|.c .m ?_
      refine AOps.cases 16 _ rfl (fun g16=>?_) (fun g16=>?_)
      · try simp only[zs]at g16
        refine .c (.g (.fP 2 1 true))<|.c (.g (.lN 2)) ?_
        refine .c (.gT rfl rfl rfl (.cP [.tmp 18] rfl rfl rfl rfl (specAffV_fn _) rfl)) ?_
        refine .c .pT<|.c .m ?_
        refine AOps.cases 21 _ rfl (fun g21=>?_) (fun g21=>?_)
        · try simp only[zs]at g21
          refine .c (.g (.fP 2 1 true))<|.c (.g (.lN 2)) ?_
          refine .c (.gT rfl rfl rfl (.cP [.tmp 23] rfl rfl rfl rfl (l1Depth_fn _) rfl)) ?_
          refine .c (.g .m)<|.c (.g .le)<|.c .pT<|.c .a<|.nn<|.ret<|ks_r ?_
          refine kf_ret rfl ?_ nobox
          exact leafB (by rw[fldV,if_neg (show ¬e.k=1 by omega),if_pos h7];cases hA:affV e.i<;>cases hC:nonC e.r<;>first|rfl|grind)
        · try simp only[zs]at g21
          refine .c .f<|.c .f<|.c .f<|.c .f<|.c .f<|.c .pF<|.c .a<|.nn<|.ret<|ks_r ?_
          refine kf_ret rfl ?_ nobox
          exact leafB (by rw[fldV,if_neg (show ¬e.k=1 by omega),if_pos h7];cases hA:affV e.i<;>cases hC:nonC e.r<;>first|rfl|grind)
      · try simp only[zs]at g16
        refine .c .f<|.c .f<|.c .f<|.c .pF<|.c .m<|.c .f<|.c .f<|.c .f<|.c .f<|.c .f<|.c .pF<|.c .a<|.nn<|.ret<|ks_r ?_
        refine kf_ret rfl ?_ nobox
        exact leafB (by rw[fldV,if_neg (show ¬e.k=1 by omega),if_pos h7];cases hA:affV e.i<;>cases hC:nonC e.r<;>first|rfl|grind)
    · skip
      refine .c .f<|.c .f<|.c .f<|.c .pF<|.c .m<|.c .f<|.c .f<|.c .f<|.c .pF<|.c .m<|.c .f<|.c .f<|.c .f<|.c .f<|.c .f<|.c .pF<|.c .a<|.nn<|.ret<|ks_r ?_
      refine kf_ret rfl ?_ nobox
      exact leafB (by rw[fldV,if_neg (show ¬e.k=1 by omega),if_pos h7];cases hA:affV e.i<;>cases hC:nonC e.r<;>first|rfl|grind)
  · skip
    refine .skip<|ks_n<|.seq<|.r<|.c (.fP 0 0 false)<|.c (.l1 1)<|.c .eq<|.nn ?_
    refine .cD rfl (fun h30=>?_) (fun h30=>?_)
    · skip
      refine .r<|.c (.fP 1 0 false)<|.c (.l1 1)<|.c .eq<|.c .m ?_
      refine .cD 34 rfl (fun g34=>?_) (fun g34=>?_)
      · skip
        refine .c (.g (.fP 2 1 true))<|.c (.g (.lN 2)) ?_
        refine .c (.gT rfl rfl rfl (.cP [.tmp 36] rfl rfl rfl rfl (l3None_fn _) rfl)) ?_
        refine .c .pT<|.c .m ?_
        refine AOps.cases 39 _ rfl (fun g39=>?_) (fun g39=>?_)
        · try simp only[zs]at g39
          refine .c (.g (.fP 4 1 true))<|.c (.g (.lN 2))<|.c (.g .m) ?_
          refine .c (.gT rfl rfl rfl (.cP [.tmp 41,.tmp 42] rfl rfl rfl rfl (l3Access_fn d _ hr) rfl)) ?_
          refine .c .pT<|.c .a<|.nn<|.ret<|ks_r ?_
          refine kf_ret rfl ?_ nobox
          exact leafB (by rw[fldV,if_neg (show ¬e.k=1 by omega),if_neg h7,if_pos h30];cases hA:nonA e.i<;>cases hC:accV d e.r<;>first|rfl|grind)
        · try simp only[zs]at g39
          refine .c .f<|.c .f<|.c .f<|.c .f<|.c .pF<|.c .a<|.nn<|.ret<|ks_r ?_
          refine kf_ret rfl ?_ nobox
          exact leafB (by rw[fldV,if_neg (show ¬e.k=1 by omega),if_neg h7,if_pos h30];cases hA:nonA e.i<;>cases hC:accV d e.r<;>first|rfl|grind)
      · skip
        refine .c .f<|.c .f<|.c .f<|.c .pF<|.c .m<|.c .f<|.c .f<|.c .f<|.c .f<|.c .pF<|.c .a<|.nn<|.ret<|ks_r ?_
        refine kf_ret rfl ?_ nobox
        exact leafB (by rw[fldV,if_neg (show ¬e.k=1 by omega),if_neg h7,if_pos h30];cases hA:nonA e.i<;>cases hC:accV d e.r<;>first|rfl|grind)
    · skip
      refine .skip<|ks_n<|.seq<|.r<|.c (.fP 0 0 false)<|.c (.l1 1)<|.c .eq<|.nn ?_
      refine .cD rfl (fun h47=>?_) (fun h47=>?_)
      · skip
        refine .r<|.c (.fP 1 0 false)<|.c (.l1 1)<|.c .ge<|.c .m ?_
        refine .cD 51 rfl (fun g51=>?_) (fun g51=>?_)
        · skip
          refine .c (.g (.fP 1 0 false))<|.c (.g (.l1 1))<|.c (.g .le)<|.c .pT<|.c .m ?_
          refine AOps.cases 56 _ rfl (fun g56=>?_) (fun g56=>?_)
          · try simp only[zs]at g56
            refine .c (.g (.fP 2 1 true))<|.c (.g (.lN 2)) ?_
            refine .c (.gT rfl rfl rfl (.cP [.tmp 58] rfl rfl rfl rfl (l3None_fn _) rfl)) ?_
            refine .c .pT<|.c .m ?_
            refine AOps.cases 61 _ rfl (fun g61=>?_) (fun g61=>?_)
            · try simp only[zs]at g61
              refine .c (.g (.fP 4 1 true))<|.c (.g (.lN 2)) ?_
              refine .c (.gT rfl rfl rfl (.cP [.tmp 63] rfl rfl rfl rfl (l3Empty_fn _) rfl)) ?_
              refine .c .pT<|.c .a<|.nn<|.ret<|ks_r ?_
              refine kf_ret rfl ?_ nobox
              exact leafB (by rw[fldV,if_pos h47,inB];cases hA:nonA e.i<;>cases hC:nonC e.r<;>first|rfl|grind)
            · try simp only[zs]at g61
              refine .c .f<|.c .f<|.c .f<|.c .pF<|.c .a<|.nn<|.ret<|ks_r ?_
              refine kf_ret rfl ?_ nobox
              exact leafB (by rw[fldV,if_pos h47,inB];cases hA:nonA e.i<;>cases hC:nonC e.r<;>first|rfl|grind)
          · try simp only[zs]at g56
            refine .c .f<|.c .f<|.c .f<|.c .pF<|.c .m<|.c .f<|.c .f<|.c .f<|.c .pF<|.c .a<|.nn<|.ret<|ks_r ?_
            refine kf_ret rfl ?_ nobox
            exact leafB (by rw[fldV,if_pos h47,inB];cases hA:nonA e.i<;>cases hC:nonC e.r<;>first|rfl|grind)
        · skip
          refine .c .f<|.c .f<|.c .f<|.c .pF<|.c .m<|.c .f<|.c .f<|.c .f<|.c .pF<|.c .m<|.c .f<|.c .f<|.c .f<|.c .pF<|.c .a<|.nn<|.ret<|ks_r ?_
          refine kf_ret rfl ?_ nobox
          exact leafB (by rw[fldV,if_pos h47,inB];cases hA:nonA e.i<;>cases hC:nonC e.r<;>first|rfl|grind)
      · skip
        refine .skip<|ks_n<|.r<|.c (.fP 1 0 false)<|.c (.l1 1)<|.c .eq<|.c .m ?_
        refine .cD 69 rfl (fun g69=>?_) (fun g69=>?_)
        · skip
          refine .c (.g (.fP 2 1 true))<|.c (.g (.lN 2)) ?_
          refine .c (.gT rfl rfl rfl (.cP [.tmp 71] rfl rfl rfl rfl (l3None_fn _) rfl)) ?_
          refine .c .pT<|.c .m ?_
          refine AOps.cases 74 _ rfl (fun g74=>?_) (fun g74=>?_)
          · try simp only[zs]at g74
            refine .c (.g (.fP 4 1 true))<|.c (.g (.lN 2)) ?_
            refine .c (.gT rfl rfl rfl (.cP [.tmp 76] rfl rfl rfl rfl (l3Empty_fn _) rfl)) ?_
            refine .c .pT<|.c .a<|.nn<|.ret ?_
            refine kf_ret rfl ?_ nobox
            exact leafB (by rw[fldV,if_neg h47,if_neg h7,if_neg h30];cases hA:nonA e.i<;>cases hC:nonC e.r<;>first|rfl|grind)
          · try simp only[zs]at g74
            refine .c .f<|.c .f<|.c .f<|.c .pF<|.c .a<|.nn<|.ret ?_
            refine kf_ret rfl ?_ nobox
            exact leafB (by rw[fldV,if_neg h47,if_neg h7,if_neg h30];cases hA:nonA e.i<;>cases hC:nonC e.r<;>first|rfl|grind)
        · skip
          refine .c .f<|.c .f<|.c .f<|.c .pF<|.c .m<|.c .f<|.c .f<|.c .f<|.c .pF<|.c .a<|.nn<|.ret ?_
          refine kf_ret rfl ?_ nobox
          exact leafB (by rw[fldV,if_neg h47,if_neg h7,if_neg h30];cases hA:nonA e.i<;>cases hC:nonC e.r<;>first|rfl|grind)
theorem shape_zero (d:Nat) (lv:Int) (hl:lv<1) (e:Ex) (hr:e.r.2.length≤1099511627776) (hkl:e.ks.length≤1099511627776):Fn Tryz.prog 135 [] [ad (rX e),nat1 (d:Nat),nat1 lv] (.o (bo1 false)) []:=by
 refine Fn.code0 Tryz.func135 rfl rfl rfl rfl ?_
 refine .r<|.c .bp<|.c .a<|.nn<|.seq<|.seq ?_
 refine ACode.drawK (by kernel_rfl) (by kernel_rfl) ?_
 refine .c .m<|.c .ls<|.c .m ?_
 refine .cD 10 rfl (fun g10=>?_) (fun g10=>?_)
 ·skip
  refine .c .f<|.c .f<|.c .f<|.c .f<|.c .f<|.c .f<|.c .f<|.c .pT<|.c .m<|.c .f<|.c .f<|.c .f<|.c .f<|.c .pT ?_
  refine .nil ⟨by kernel_rfl,?_⟩
  refine ks_n ?_
  refine .k1 ?_
  refine .r<|.c .a<|.nn<|.ret<|ks_r ?_
  refine kf_ret rfl ?_ nobox
  rfl
 ·skip
  exact absurd hl g10
theorem shape_succ (d L:Nat) (lv:Int) (hl:¬lv<1) (hl2:lv≤100) (e:Ex) (hr:e.r.2.length≤1099511627776) (hkl:e.ks.length≤1099511627776) (ih:∀x∈e.ks,Fn Tryz.prog 135 [] [ad (rX x),nat1 (d:Nat),nat1 (lv -1)] (.o (bo1 (exV d L x))) []):Fn Tryz.prog 135 [] [ad (rX e),nat1 (d:Nat),nat1 lv] (.o (bo1 (exV d (L+1) e))) []:=by
 refine Fn.code0 Tryz.func135 rfl rfl rfl rfl ?_
 refine .r<|.c .bp<|.c .a<|.nn<|.seq<|.seq ?_
 refine ACode.cut [eN 1 (d:Nat),eN 2 lv,eP 3 (rX e),eT 6 false,eT 24 (!(kidV e.k e.ks.length&&fldV d e.k e.n e.i e.r))] ?_ ?_
 ·skip
  refine ACode.drawK (by kernel_rfl) (by kernel_rfl) ?_
  refine .c .m<|.c .ls<|.c .m ?_
  refine .cD 10 rfl (fun g10=>?_) (fun g10=>?_)
  ·skip
   exact absurd g10 hl
  ·skip
   refine .c (.g (.fP 0 0 false))<|.c (.g (.l1 1)) ?_
   refine .c (.gT rfl rfl rfl (.cP [.tmp 12] rfl rfl rfl rfl (l3Kids_fn _) rfl)) ?_
   refine .c (.g (.fP 6 0 false))<|.c (.g (.l1 1))<|.c (.g (.ln 64 7 112))<|.c (.g .ne)<|.c .pF<|.c .m ?_
   refine RunK.cases 19 _ rfl (fun g19=>?_) (fun g19=>?_)
   ·try simp only[zs]at g19
    refine .c .f<|.c .f<|.c .f<|.c .f<|.c .pT ?_
    refine .nil ⟨by kernel_rfl,?_⟩
    exact kc_n (Wk.keep [] rfl rfl ⟨kd,kd,kd,kd,ks rfl (.dt (vB (by rw[kids_eq];first|rfl|grind))),trivial⟩)
   ·try simp only[zs]at g19
    refine .c (.g (.lN 7))<|.c (.g .m) ?_
    refine .c (.gT rfl rfl rfl (.cP [.tmp 20,.tmp 21] rfl rfl rfl rfl (l3Own_fn d e hr) rfl)) ?_
    refine .c (.g .nt)<|.c .pF ?_
    refine .nil ⟨by kernel_rfl,?_⟩
    exact kc_n (Wk.keep [] rfl rfl ⟨kd,kd,kd,kd,ks rfl (.dt (vB (by rw[kids_eq];first|rfl|grind))),trivial⟩)
 refine ks_n ?_
 refine ACode.condT rfl (fun h24=>?_) (fun h24=>?_)
 ·try simp only[zs]at h24
  refine .r<|.c .a<|.nn<|.ret<|ks_r ?_
  refine kf_ret rfl ?_ nobox
  exact leafB (by rw[exV,h24];rfl)
 ·try simp only[zs]at h24
  refine .skip<|ks_n<|.seq<|.r<|.c .a<|.nn<|.block ?_
  refine .loopK (fun m σ=>(∃i:Nat,m=e.ks.length -i∧(i≤e.ks.length)∧(e.ks.all (exV d L)=(e.ks.drop i).all (exV d L))∧σ=[eN 1 (d:Nat),eN 2 lv,eP 3 (rX e),eT 6 false,eN 7 (i:Nat)])) [] ⟨0,rfl,by omega,by simp,rfl⟩ ⟨kd,kd,kd,kd,kd,trivial⟩ ?_
  rintro m σ ⟨i,hm0,hi,hF,rfl⟩
  refine .seq<|.r<|.c .m<|.c (.fP 6 0 false)<|.c (.l1 1)<|.c (.ln 64 7 112)<|.c .ls<|.nn ?_
  refine .cD rfl (fun h29=>?_) (fun h29=>?_)
  ·skip
   obtain⟨x,hx1⟩:∃x,e.ks[i]?=some x:=⟨_,List.getElem?_eq_getElem (by omega)⟩
   refine .skip<|ks_n<|.seq<|.block<|.r<|.c (.fP 6 0 false)<|.c (.l1 1)<|.c .m ?_
   refine .c (.xL 64 7 112 rfl rfl rfl rfl rfl (rE_at hx1)) ?_
   refine .c (.lN 7)<|.c .m<|.c .m<|.c .sb ?_
   refine .c (.cP [.tmp 36,.tmp 37,.tmp 39] rfl rfl rfl rfl (ih x (List.mem_of_getElem? hx1)) rfl) ?_
   refine .c .nt<|.nn ?_
   refine ACode.condT rfl (fun h41=>?_) (fun h41=>?_)
   ·try simp only[zs]at h41
    refine .r<|.c .a<|.nn<|.ret<|kb_r<|ks_r<|kl_r<|kb_r<|ks_r ?_
    refine kf_ret rfl ?_ nobox
    exact leafB (by rw[exV,h24,hF,all_drop hx1,h41];rfl)
   ·try simp only[zs]at h41
    refine .skip<|kb_n<|ks_n<|.region<|.c .m<|.c .pl<|.c .a<|.nil ?_
    refine kl_k [] ⟨i+1,rfl,by omega,by rw[hF,all_drop hx1,h41,Bool.true_and],rfl⟩ ⟨kd,kd,kd,kd,kd,trivial⟩
  ·skip
   refine .exit<|ks_e<|kl_e<|kb_hit<|ks_n<|.r<|.c .a<|.nn<|.ret ?_
   refine kf_ret rfl ?_ nobox
   exact leafB (by rw[exV,h24,hF,List.drop_of_length_le (by omega)];rfl)
theorem szE_parts {e:Ex} (hs:szE e≤1099511627776):e.i.1.length≤1099511627776∧e.r.2.length≤1099511627776∧e.ks.length≤1099511627776∧∀x∈e.ks,szE x≤1099511627776:=by
  rw[szE_eq,szC]at hs
  have:=szAs_len e.r.2
  exact⟨by omega,by omega,by omega,fun x hx=>by have:=szEs_mem hx;omega⟩
theorem l3Shape_fn (d:Nat):∀(L:Nat) (lv:Int) (e:Ex),lv=(L:Int)→L≤100→szE e≤1099511627776→Fn Tryz.prog 135 [] [ad (rX e),nat1 (d:Nat),nat1 lv] (.o (bo1 (exV d L e))) []
  |0,lv,e,hd,hL,hs=>shape_zero d lv (by omega) e (szE_parts hs).2.1 (szE_parts hs).2.2.1
  |L+1,lv,e,hd,hL,hs=>shape_succ d L lv (by omega) (by omega) e (szE_parts hs).2.1 (szE_parts hs).2.2.1 fun x hx=>l3Shape_fn d L (lv -1) x (by omega) (by omega) ((szE_parts hs).2.2.2 x hx)
theorem cntEs_take {l:List Ex} {i:Nat} {x:Ex} (h:l[i]?=some x):cntEs (l.take (i+1))=cntEs (l.take i)+cntE x:=by
  have key:∀(a:List Ex) (x:Ex),cntEs (a++[x])=cntEs a+cntE x:=by
    intro a x
    induction a with
    |nil=>simp[cntEs]
    |cons y a ih=>rw[List.cons_append,cntEs,cntEs,ih];omega
  rw[List.take_add_one,h]
  exact key _ _
theorem cnt_bd {d:Nat}:∀ {L:Nat} {e:Ex},exV d L e=true→cntE e+1≤2^L
  |0,e,h=>by cases h
  |L+1,e,h=>by
    rw[exV,Bool.and_eq_true,Bool.and_eq_true]at h
    rw[cntE_eq]
    have hp:1≤2^L:=Nat.one_le_two_pow
    rcases kidV_len h.1.1 with h1|h1
    ·rw[List.eq_nil_of_length_eq_zero h1,cntEs,Nat.pow_succ];omega
    · obtain⟨x,y,h2⟩:=two_of h1
      have h3:=h.2
      rw[h2,List.all_cons,List.all_cons,Bool.and_eq_true,Bool.and_eq_true]at h3
      have:=cnt_bd h3.1
      have:=cnt_bd h3.2.1
      rw[h2,cntEs,cntEs,cntEs,Nat.pow_succ];omega
theorem exV_kids {d L:Nat} {e:Ex} (h:exV d L e=true):e.ks.length≤2∧∀x∈e.ks,exV d (L -1) x=true:=by
  cases L with
  |zero=>cases h
  |succ L=>
    rw[exV,Bool.and_eq_true,Bool.and_eq_true]at h
    exact⟨by have:=kidV_len h.1.1;omega,fun x hx=>List.all_eq_true.1 h.2 x hx⟩
theorem l3Count_one (d L:Nat) (lv:Int) (hl:0<lv) (hl2:lv≤100) (e:Ex) (hk2:e.ks.length≤2) (hb:∀x∈e.ks,cntE x≤1000) (ih:∀x∈e.ks,Fn Tryz.prog 136 [] [ad (rX x),nat1 (lv -1)] (.o (nat1 (cntE x:Nat))) []):Fn Tryz.prog 136 [] [ad (rX e),nat1 lv] (.o (nat1 (cntE e:Nat))) []:=by
 refine Fn.code0 Tryz.func136 rfl rfl rfl rfl ?_
 refine .r<|.c .bp<|.c .a<|.r<|.c .a<|.nn<|.seq<|.r<|.c .a<|.nn<|.block ?_
 refine .loopK (fun m σ=>(∃i:Nat,m=e.ks.length -i∧(i≤e.ks.length)∧(cntEs (e.ks.take i)≤1000 *i)∧σ=[eN 1 lv,eP 2 (rX e),eN 5 ((1+cntEs (e.ks.take i):Nat)),eN 6 (i:Nat)])) [] ⟨0,rfl,by omega,by simp[cntEs],rfl⟩ ⟨kd,kd,ks rfl (.dt (vI (by first|(simp[cntEs];done)|(rw[cntEs_take hx1];omega)))),kd,trivial⟩ ?_
 rintro m σ ⟨i,hm0,hi,hF,rfl⟩
 refine .seq<|.r<|.c .m<|.c (.fP 6 0 false)<|.c (.l1 1)<|.c (.ln 64 7 112)<|.c .ls<|.c .m ?_
 refine .cD 12 rfl (fun g12=>?_) (fun g12=>?_)
 ·skip
  obtain⟨x,hx1⟩:∃x,e.ks[i]?=some x:=⟨_,List.getElem?_eq_getElem (by omega)⟩
  have hbx:=hb x (List.mem_of_getElem? hx1)
  refine .c (.g .m)<|.c (.g .gt)<|.c .pT<|.nn ?_
  refine ACode.condT rfl (fun h15=>?_) (fun h15=>?_)
  ·try simp only[zs]at h15
   refine .skip<|ks_n<|.seq<|.block<|.region<|.c .m<|.c (.fP 6 0 false)<|.c (.l1 1)<|.c .m ?_
   refine .c (.xL 64 7 112 rfl rfl rfl rfl rfl (rE_at hx1)) ?_
   refine .c (.lN 7)<|.c .m<|.c .sb ?_
   refine .c (.cP [.tmp 23,.tmp 25] rfl rfl rfl rfl (ih x (List.mem_of_getElem? hx1)) rfl) ?_
   refine .c .pl<|.c .a<|.nil<|kb_n<|ks_n<|.region<|.c .m<|.c .pl<|.c .a<|.nil ?_
   refine kl_k [] ⟨i+1,rfl,by omega,by rw[cntEs_take hx1];omega,rfl⟩ ⟨kd,kd,ks rfl (.dt (vI (by first|(simp[cntEs];done)|(rw[cntEs_take hx1];omega)))),kd,trivial⟩
  ·try simp only[zs]at h15
   exact absurd hl h15
 ·skip
  have hall:e.ks.take i=e.ks:=List.take_of_length_le (by omega)
  refine .c .f<|.c .f<|.c .pF<|.nn ?_
  refine .k0 ?_
  refine .exit<|ks_e<|kl_e<|kb_hit<|ks_n<|.r<|.c .m<|.c .a<|.nn<|.ret ?_
  refine kf_ret rfl ?_ nobox
  exact leafI (by rw[cntE_eq,hall])
theorem l3Count_fn (d:Nat):∀(L:Nat) (lv:Int) (e:Ex),lv=(L:Int)→L≤6→exV d L e=true→Fn Tryz.prog 136 [] [ad (rX e),nat1 lv] (.o (nat1 (cntE e:Nat))) []
  |0,lv,e,hd,hL,h=>by cases h
  | L + 1, lv, e, hd, hL, h => l3Count_one d L lv (by omega) (by omega) e (exV_kids h).1 (fun x hx => by
      have h1:=cnt_bd ((exV_kids h).2 x hx)
      have h2:2^(L+1 -1)≤2^6:=Nat.pow_le_pow_right (by omega) (by omega)
      omega) fun x hx=>l3Count_fn d L (lv -1) x (by omega) (by omega) ((exV_kids h).2 x hx)
theorem l3Access_fi {d:Int} (h:((d.toNat:Nat):Int)=d) (a:Acc) (ha:a.2.length≤1099511627776):Fn Tryz.prog 134 [] [ad (rC a),nat1 d] (.o (bo1 (accV d.toNat a))) []:=by
  have h2:=l3Access_fn d.toNat a ha
  rw[h]at h2;exact h2
theorem l3Shape_fi {d:Int} (h:((d.toNat:Nat):Int)=d) (e:Ex) (hs:szE e≤1099511627776):Fn Tryz.prog 135 [] [ad (rX e),nat1 d,nat1 5] (.o (bo1 (exV d.toNat 5 e))) []:=by
  have h2:=l3Shape_fn d.toNat 5 5 e rfl (by omega) hs
  rw[h]at h2;exact h2
theorem specStmtV_fn (d:Int) (s:Stm) (hs:szS s≤1099511627776):Fn Tryz.prog 94 [] [ad (rS s),nat1 d] (.o (bo1 (stmtV d s))) []:=by
 obtain⟨hs1,hs2⟩:=szS_parts hs
 refine Fn.code0 Tryz.func94 rfl rfl rfl rfl ?_
 refine .r<|.c .bp<|.c .a<|.nn<|.seq<|.seq ?_
 refine ACode.cut [eP 2 (rS s),eT 4 false,eT 24 (!(inB d 0 4&&(accV d.toNat s.1&&exV d.toNat 5 s.2)))] ?_ ?_
 ·skip
  refine .region<|.c .m<|.c .ls<|.c .m ?_
  refine .cD 7 rfl (fun g7=>?_) (fun g7=>?_)
  ·skip
   refine .c .f<|.c .f<|.c .pT<|.c .m<|.c .f<|.c .f<|.c .f<|.c .f<|.c .f<|.c .pT<|.c .m<|.c .f<|.c .f<|.c .f<|.c .f<|.c .f<|.c .pT<|.nil ?_
   exact kc_n (Wk.keep [] rfl rfl ⟨kd,kd,ks rfl (.dt (vB (by rw[inB];cases hq1:accV d.toNat s.1<;>cases hq2:exV d.toNat 5 s.2<;>first|rfl|grind))),trivial⟩)
  ·skip
   refine .c (.g .m)<|.c (.g .gt)<|.c .pF<|.c .m ?_
   refine AOps.cases 11 _ rfl (fun g11=>?_) (fun g11=>?_)
   ·try simp only[zs]at g11
    refine .c .f<|.c .f<|.c .f<|.c .f<|.c .f<|.c .pT<|.c .m<|.c .f<|.c .f<|.c .f<|.c .f<|.c .f<|.c .pT<|.nil ?_
    exact kc_n (Wk.keep [] rfl rfl ⟨kd,kd,ks rfl (.dt (vB (by rw[inB];cases hq1:accV d.toNat s.1<;>cases hq2:exV d.toNat 5 s.2<;>first|rfl|grind))),trivial⟩)
   ·try simp only[zs]at g11
    have hD:((d.toNat:Nat):Int)=d:=by omega
    refine .c (.g (.fP 0 1 true))<|.c (.g (.lN 2))<|.c (.g .m) ?_
    refine .c (.gT rfl rfl rfl (.cP [.tmp 13,.tmp 14] rfl rfl rfl rfl (l3Access_fi hD s.1 hs1) rfl)) ?_
    refine .c (.g .nt)<|.c .pF<|.c .m ?_
    refine AOps.cases 18 _ rfl (fun g18=>?_) (fun g18=>?_)
    ·try simp only[zs]at g18
     refine .c .f<|.c .f<|.c .f<|.c .f<|.c .f<|.c .pT<|.nil ?_
     exact kc_n (Wk.keep [] rfl rfl ⟨kd,kd,ks rfl (.dt (vB (by rw[inB];cases hq1:accV d.toNat s.1<;>cases hq2:exV d.toNat 5 s.2<;>first|rfl|grind))),trivial⟩)
    ·try simp only[zs]at g18
     refine .c (.g (.fP 2 6 true))<|.c (.g (.lN 7))<|.c (.g .m) ?_
     refine .c (.gT rfl rfl rfl (.cP [.tmp 20,.tmp 21,.const (.int .i64 (5))] rfl rfl rfl rfl (l3Shape_fi hD s.2 hs2) rfl)) ?_
     refine .c (.g .nt)<|.c .pF<|.nil ?_
     exact kc_n (Wk.keep [] rfl rfl ⟨kd,kd,ks rfl (.dt (vB (by rw[inB];cases hq1:accV d.toNat s.1<;>cases hq2:exV d.toNat 5 s.2<;>first|rfl|grind))),trivial⟩)
 refine ks_n ?_
 refine ACode.condT rfl (fun h24=>?_) (fun h24=>?_)
 ·try simp only[zs]at h24
  refine .r<|.c .a<|.nn<|.ret<|ks_r ?_
  refine kf_ret rfl ?_ nobox
  exact leafB (by rw[stmtV,←Bool.and_assoc,h24];rfl)
 ·try simp only[zs]at h24
  have hX:exV d.toNat 5 s.2=true:=by simp only[Bool.and_eq_true]at h24;exact h24.2.2
  have hI:inB d 0 4=true:=by simp only[Bool.and_eq_true]at h24;exact h24.1
  have hA:accV d.toNat s.1=true:=by simp only[Bool.and_eq_true]at h24;exact h24.2.1
  refine .skip<|ks_n<|.r<|.c (.fP 2 6 true)<|.c (.lN 7) ?_
  refine .c (.cP [.tmp 26,.const (.int .i64 (5))] rfl rfl rfl rfl (l3Count_fn d.toNat 5 5 s.2 rfl (by omega) hX) rfl) ?_
  refine .c .le<|.c .a<|.nn<|.ret ?_
  refine kf_ret rfl ?_ nobox
  exact leafB (by rw[stmtV,hI,hA,hX];simp;omega)
theorem RetA2.mono {P Q:Nat→Prop} {x:Aff} {ok:Bool} {w:World} {e:Ending} {w':World} (hp:∀b,P b→Q b) (h:RetA2 P x ok w e w'):RetA2 Q x ok w e w':=by
  obtain⟨v,e,ha,hb⟩:=h
  exact⟨v,e,ha.mono fun b hb _=>hp b hb,hb⟩
theorem rX_map (g:Aff→Aff) (e:Ex):rX (mapE g e)=[dI e.k,dI e.n,dIs (if e.k=2 then g e.i else([],0)).1,dI (if e.k=2 then g e.i else([],0)).2,dS (if e.k=3 then mapC g e.r else(ByteArray.empty,[])).1,dAs (if e.k=3 then mapC g e.r else(ByteArray.empty,[])).2,dEs (e.ks.map (mapE g))]:=by
  cases e with
  |mk k n i r ks=>rw[mapE,mapEs_map];rfl
theorem dR_ex (f:Ex→Ex) (l:List Ex):dR ((l.take l.length).map fun x=>rX (f x))=dR ((l.map f).map rE):=by
  rw[List.take_length,List.map_map]
  congr 1
  exact List.map_congr_left fun x _=>(rE_eq _).symm
theorem dR_af (f:Aff→Aff) (l:List Aff):dR ((l.take l.length).map fun x=>rA (f x))=dR ((l.map f).map rA):=by
  rw[List.take_length,List.map_map];rfl
mutual
def affsE:Ex→List Aff
  | .mk k _ i r ks=>(if k=2 then [i]else [])++((if k=3 then r.2 else [])++affsEs ks)
def affsEs:List Ex→List Aff
  |[]=>[]
  |e::l=>affsE e++affsEs l
end
theorem affsE_eq (e:Ex):affsE e=(if e.k=2 then [e.i]else [])++((if e.k=3 then e.r.2 else [])++affsEs e.ks):=by cases e;rw[affsE];rfl
theorem affsEs_mem:∀ {l:List Ex} {e:Ex},e∈l→∀a∈affsE e,a∈affsEs l
  |x::l,e,h,a,ha=>by
    rw[affsEs,List.mem_append]
    rcases List.mem_cons.1 h with rfl|h
    ·exact .inl ha
    ·exact .inr (affsEs_mem h a ha)
theorem affsE_i {e:Ex} (h:e.k=2):e.i∈affsE e:=by rw[affsE_eq,if_pos h];simp
theorem affsE_r {e:Ex} (h:e.k=3) {a:Aff} (ha:a∈e.r.2):a∈affsE e:=by rw[affsE_eq,if_pos h];simp[ha]
theorem affsE_k {e x:Ex} (h:x∈e.ks) {a:Aff} (ha:a∈affsE x):a∈affsE e:=by rw[affsE_eq];simp[affsEs_mem h a ha]
def affsS (s:Stm):List Aff:=s.1.2++affsE s.2
theorem szE_aff:∀ {e:Ex} {m:Nat},szE e≤m→∀x∈affsE e,x.1.length≤m:=by
  intro e
  induction e using Ex.rec' with
  |h e ih=>
    intro m hs x hx
    rw[szE_eq,szC]at hs
    rw[affsE_eq,List.mem_append,List.mem_append]at hx
    rcases hx with hx|hx|hx
    · split at hx
      ·rw[List.mem_singleton.1 hx];omega
      ·cases hx
    · split at hx
      ·have:=szAs_mem hx;omega
      ·cases hx
    · have key : ∀ l : List Ex, x ∈ affsEs l → ∃ y ∈ l, x ∈ affsE y := by
        intro l
        induction l with
        |nil=>intro h;cases h
        |cons y l ih=>
          intro h
          rw[affsEs,List.mem_append]at h
          rcases h with h|h
          ·exact⟨y,by simp,h⟩
          ·obtain⟨z,h1,h2⟩:=ih h;exact⟨z,by simp[h1],h2⟩
      obtain⟨y,hy,hxy⟩:=key _ hx
      exact ih y hy (by have:=szEs_mem hy;omega) x hxy
theorem szS_aff {s:Stm} {m:Nat} (hs:szS s≤m):∀x∈affsS s,x.1.length≤m:=by
  intro x hx
  rw[szS,szC]at hs
  rw[affsS,List.mem_append]at hx
  rcases hx with hx|hx
  ·have:=szAs_mem hx;omega
  ·exact szE_aff (by omega) x hx
theorem l3CopyAff_fn {x:Aff} (hx:x.1.length≤1073741824):Fn Tryz.prog 139 [] [ad (rA x)] (.o (ad (rA x))) []:=by
 refine Fn.code0 Tryz.func139 rfl rfl rfl rfl ?_
 refine .r<|.c .bp<|.c (.al 102 [.slice none 0 0,.int .i64 0])<|.nn<|.seq<|.r<|.c (.fP 0 0 false)<|.c (.l1 1)<|.c (.ln 3 1 8)<|.c .eq<|.nn ?_
 refine .cD rfl (fun h6=>?_) (fun h6=>?_)
 ·skip
  have hn:x.1=[]:=List.eq_nil_of_length_eq_zero (by omega)
  refine .r<|.c (.fP 1 0 false)<|.c (.l1 1)<|.c (.bu [(1,.tmp 8)] [(0,1),(1,1)] [.slice none 0 0,.int .i64 0])<|.c (.sT 2 true)<|.nn<|.ret<|ks_r ?_
  refine kf_wret [eB 2 100 2,(.b 100,.b 61 2 [[.d (dIs x.1),.d (dI x.2)]]),eU 100] (Wk.keep [(100,102)] rfl rfl ⟨kX,kb 102 rfl (.r2 (Cto.nilE 1 (by rw[hn];rfl)) .dt),trivial⟩) rfl ?_ nobox
  rfl
 ·skip
  refine .skip<|ks_n<|.seq ?_
  refine ACode.drawK (by kernel_rfl) (by kernel_rfl) ?_
  refine .c (St1.lit0 (k':=110) (e:=3) (sz:=1) (b:=true) rfl rfl rfl rfl (by kernel_rfl) rfl rfl) ?_
  refine .c (.fP 0 0 false)<|.c (.l1 1) ?_
  refine .c (St1.appD (rows:=[]) (e:=3) (sz:=0) (by':=8) rfl rfl rfl rfl rfl (by kernel_rfl) rfl rfl rfl rfl rfl (by simp;omega) rfl) ?_
  refine .c (.fP 1 0 false)<|.c (.l1 1)<|.c (.bu [(0,.tmp 13),(1,.tmp 15)] [(0,1),(1,1)] [.slice none 0 0,.int .i64 0])<|.c (.sT 2 true) ?_
  refine .nil ⟨by kernel_rfl,?_⟩
  refine ks_n<|.ret ?_
  refine kf_wret [eB 2 100 2,(.b 100,.b 61 2 [[.d (dIs x.1),.d (dI x.2)]]),eU 100] (Wk.keep [(100,102)] rfl rfl ⟨kX,kb 102 rfl (.r2 (.dt) .dt),trivial⟩) rfl ?_ nobox
  rfl
theorem l3CopyAcc_fn (a:Acc) (ha:a.2.length≤1073741824) (hq:∀x∈a.2,x.1.length≤1073741824):Fn Tryz.prog 97 [] [ad (rC a)] (.o (ad (rC a))) []:=by
 refine Fn.code0 Tryz.func97 rfl rfl rfl rfl ?_
 refine .r<|.c .bp<|.c (.al 102 [.string ByteArray.empty,.slice none 0 0])<|.r<|.c (.fP 0 0 false)<|.c (.l1 1)<|.c (.bu [(0,.tmp 6)] [(0,1),(1,1)] [.string ByteArray.empty,.slice none 0 0])<|.c (.al 103 [.string ByteArray.empty,.slice none 0 0])<|.c (.sT 2 true)<|.nn<|.seq<|.r<|.c .a<|.nn<|.block ?_
 refine .loopK (fun m σ=>(∃i:Nat,m=a.2.length -i∧(i=0)∧σ=[eP 1 (rC a),eB 2 110 2,eB 3 111 2,eN 4 (i:Nat),(.b 110,.b 59 2 [[.d (dS ByteArray.empty),nl]]),eU 110,(.b 111,.b 59 2 [[.d (dS a.1),nl]]),eU 111])∨(∃i:Nat,m=a.2.length -i∧(1≤i)∧(i≤a.2.length)∧σ=[eP 1 (rC a),eB 2 110 2,eB 3 111 2,eN 4 (i:Nat),(.b 110,.b 59 2 [[.d (dS ByteArray.empty),nl]]),eU 110,(.b 112,.b 61 2 (dR ((a.2.take i).map rA))),eU 112,(.b 111,.b 59 2 [[.d (dS a.1),.own 112 2 (i)]]),eU 111])) [(110,102),(111,103)] (.inl ⟨0,rfl,rfl,rfl⟩) ⟨kd,kX,kX,kd,kb 102 rfl (.r2 .dt .dt),kb 103 rfl (.r2 .dt .dt),trivial⟩ ?_
 rintro m σ (⟨i,hm0,rfl,rfl⟩|⟨i,hm0,hi1,hi2,rfl⟩)
 ·skip
  refine .seq<|.r<|.c .m<|.c (.fP 1 0 false)<|.c (.l1 1)<|.c (.ln 61 2 32)<|.c .ls<|.nn ?_
  refine .cD rfl (fun h12=>?_) (fun h12=>?_)
  ·skip
   obtain⟨x,hx1⟩:∃x,a.2[0]?=some x:=⟨_,List.getElem?_eq_getElem (by omega)⟩
   refine .skip<|ks_n<|.seq<|.block ?_
   refine ACode.drawK (by kernel_rfl) (by kernel_rfl) ?_
   refine .c (.fB 1 0 false)<|.c (.b1 1)<|.c (.fP 1 0 false)<|.c (.l1 1)<|.c .m<|.c (.xL 61 2 32) ?_
   refine .c (.lN 2) ?_
   refine .c (.cP [.tmp 21] rfl rfl rfl rfl (l3CopyAff_fn (hq x (List.mem_of_getElem? hx1))) rfl) ?_
   refine .c (.li 61 1 0 [.tmp 22]) ?_
   refine .c (St1.appN (k':=124) (e:=61) (sz:=1) (by':=32) rfl rfl rfl rfl rfl (by kernel_rfl) rfl rfl rfl (by simp) (by first|(simp[dR];done)|(simp[dR];omega)) rfl rfl) ?_
   refine .c (.fB 1 0 false)<|.c (.sT 1 false) ?_
   refine .nil ⟨by kernel_rfl,?_⟩
   refine kb_n<|ks_n<|.region<|.c .m<|.c .pl<|.c .a<|.nil ?_
   refine kl_k [(110,110),(111,111),(112,124)] (.inr ⟨1,rfl,by omega,by omega,rfl⟩) ⟨kd,kX,kX,kd,kb 110 rfl (.r2 .dt .dt),kb 124 rfl (.dt rfl (by first|exact dR_take (rA) hx1|exact dR_take1 (rA) hx1|rfl|(simp[dR];done))),kb 111 rfl (.r2 .dt .ow),trivial⟩
  ·skip
   have hn:a.2=[]:=List.eq_nil_of_length_eq_zero (by omega)
   refine .exit<|ks_e<|kl_e<|kb_hit<|ks_n<|.r<|.c (.bN 2)<|.c (.sT 2 true)<|.nn<|.ret ?_
   refine kf_wret [eB 2 100 2,(.b 100,.b 59 2 [[.d (dS a.1),.d (dAs a.2)]]),eU 100] (Wk.keep [(100,110)] rfl rfl ⟨kX,kb 110 rfl (.r2 .dt (Cto.nilE 2 (by rw[hn];rfl))),trivial⟩) rfl ?_ nobox
   rfl
 ·skip
  refine .seq<|.r<|.c .m<|.c (.fP 1 0 false)<|.c (.l1 1)<|.c (.ln 61 2 32)<|.c .ls<|.nn ?_
  refine .cD rfl (fun h12=>?_) (fun h12=>?_)
  ·skip
   obtain⟨x,hx1⟩:∃x,a.2[i]?=some x:=⟨_,List.getElem?_eq_getElem (by omega)⟩
   refine .skip<|ks_n<|.seq<|.block ?_
   refine ACode.drawK (by kernel_rfl) (by kernel_rfl) ?_
   refine .c (.fB 1 0 false)<|.c (.b1 1)<|.c (.fP 1 0 false)<|.c (.l1 1)<|.c .m<|.c (.xL 61 2 32) ?_
   refine .c (.lN 2) ?_
   refine .c (.cP [.tmp 21] rfl rfl rfl rfl (l3CopyAff_fn (hq x (List.mem_of_getElem? hx1))) rfl) ?_
   refine .c (.li 61 1 0 [.tmp 22]) ?_
   refine .c (St1.appB (k':=124) (e:=61) (sz:=1) (by':=32) rfl rfl rfl rfl rfl (by kernel_rfl) rfl rfl rfl rfl (by first|(simp[dR];done)|(simp[dR];omega)) (by first|(simp[dR];done)|(simp[dR];omega)) rfl rfl rfl) ?_
   refine .c (.fB 1 0 false)<|.c (.sT 1 false) ?_
   refine .nil ⟨by kernel_rfl,?_⟩
   refine kb_n<|ks_n<|.region<|.c .m<|.c .pl<|.c .a<|.nil ?_
   refine kl_k [(110,110),(111,111),(112,124)] (.inr ⟨i+1,rfl,by omega,by omega,rfl⟩) ⟨kd,kX,kX,kd,kb 110 rfl (.r2 .dt .dt),kb 124 rfl (.dt rfl (by first|exact dR_take (rA) hx1|exact dR_take1 (rA) hx1|rfl|(simp[dR];done))),kb 111 rfl (.r2 .dt .ow),trivial⟩
  ·skip
   obtain rfl:i=a.2.length:=by omega
   refine .exit<|ks_e<|kl_e<|kb_hit<|ks_n<|.r<|.c (.bN 2)<|.c (.sT 2 true)<|.nn<|.ret ?_
   refine kf_wret [eB 2 100 2,(.b 100,.b 59 2 [[.d (dS a.1),.d (dAs a.2)]]),eU 100] (Wk.keep [(100,110)] rfl rfl ⟨kX,kb 110 rfl (.r2 .dt (.fz rfl (by first|rfl|exact dR_af _ _|(rw[List.take_length];done)) (by first|rfl|(simp;done)|(simp;omega)) (by omega))),trivial⟩) rfl ?_ nobox
   rfl
theorem l3CopyEx_one (e:Ex) (hi:e.i.1.length≤1073741824) (hr:e.r.2.length≤1073741824) (hq:∀x∈e.r.2,x.1.length≤1073741824) (hk:e.ks.length≤1073741824) (ih:∀x∈e.ks,Fn Tryz.prog 98 [] [ad (rX x)] (.o (ad (rX x))) []):Fn Tryz.prog 98 [] [ad (rX e)] (.o (ad (rX e))) []:=by
 refine Fn.code0 Tryz.func98 rfl rfl rfl rfl ?_
 refine .r<|.c .bp<|.c (.al 102 [.int .i64 0,.int .i64 0,.slice none 0 0,.int .i64 0,.string ByteArray.empty,.slice none 0 0,.slice none 0 0])<|.nn<|.seq ?_
 refine ACode.drawK (by kernel_rfl) (by kernel_rfl) ?_
 refine .c (.fP 0 0 false)<|.c (.l1 1)<|.c (.fP 1 0 false)<|.c (.l1 1)<|.c (.fP 2 1 true)<|.c (.lN 2) ?_
 refine .c (.cP [.tmp 10] rfl rfl rfl rfl (l3CopyAff_fn hi) rfl) ?_
 refine .c (.fP 4 1 true)<|.c (.lN 2) ?_
 refine .c (.cP [.tmp 13] rfl rfl rfl rfl (l3CopyAcc_fn e.r hr hq) rfl) ?_
 refine .c (.bu [(0,.tmp 6),(1,.tmp 8),(2,.tmp 11),(3,.tmp 14)] [(0,1),(1,1),(2,2),(4,2),(6,1)] [.int .i64 0,.int .i64 0,.slice none 0 0,.int .i64 0,.string ByteArray.empty,.slice none 0 0,.slice none 0 0])<|.c (.al 103 [.int .i64 0,.int .i64 0,.slice none 0 0,.int .i64 0,.string ByteArray.empty,.slice none 0 0,.slice none 0 0])<|.c (.sT 7 true) ?_
 refine .nil ⟨by kernel_rfl,?_⟩
 refine ks_n<|.seq<|.r<|.c .a<|.nn<|.block ?_
 refine .loopK (fun m σ=>(∃i:Nat,m=e.ks.length -i∧(i=0)∧σ=[eP 1 (rX e),eB 2 110 7,eB 3 111 7,eN 4 (i:Nat),(.b 110,.b 64 7 [[.d (dI 0),.d (dI 0),nl,.d (dI 0),.d (dS ByteArray.empty),nl,nl]]),eU 110,(.b 111,.b 64 7 [[.d (dI e.k),.d (dI e.n),.d (dIs e.i.1),.d (dI e.i.2),.d (dS e.r.1),.d (dAs e.r.2),nl]]),eU 111])∨(∃i:Nat,m=e.ks.length -i∧(1≤i)∧(i≤e.ks.length)∧σ=[eP 1 (rX e),eB 2 110 7,eB 3 111 7,eN 4 (i:Nat),(.b 110,.b 64 7 [[.d (dI 0),.d (dI 0),nl,.d (dI 0),.d (dS ByteArray.empty),nl,nl]]),eU 110,(.b 112,.b 64 7 (dR ((e.ks.take i).map fun x=>rX x))),eU 112,(.b 111,.b 64 7 [[.d (dI e.k),.d (dI e.n),.d (dIs e.i.1),.d (dI e.i.2),.d (dS e.r.1),.d (dAs e.r.2),.own 112 7 (i)]]),eU 111])) [(110,102),(111,103)] (.inl ⟨0,rfl,rfl,rfl⟩) ⟨kd,kX,kX,kd,kb 102 rfl (.cons (.cons .dt (.cons .dt (.cons .dt (.cons .dt (.cons .dt (.cons .dt (.cons .dt Ctos.nil))))))) .nil),kb 103 rfl (.cons (.cons .dt (.cons .dt (.cons .dt (.cons .dt (.cons .dt (.cons .dt (.cons .dt Ctos.nil))))))) .nil),trivial⟩ ?_
 rintro m σ (⟨i,hm0,rfl,rfl⟩|⟨i,hm0,hi1,hi2,rfl⟩)
 ·skip
  refine .seq<|.r<|.c .m<|.c (.fP 6 0 false)<|.c (.l1 1)<|.c (.ln 64 7 112)<|.c .ls<|.nn ?_
  refine .cD rfl (fun h20=>?_) (fun h20=>?_)
  ·skip
   obtain⟨x,hx1⟩:∃x,e.ks[0]?=some x:=⟨_,List.getElem?_eq_getElem (by omega)⟩
   refine .skip<|ks_n<|.seq<|.block ?_
   refine ACode.drawK (by kernel_rfl) (by kernel_rfl) ?_
   refine .c (.fB 6 0 false)<|.c (.b1 1)<|.c (.fP 6 0 false)<|.c (.l1 1)<|.c .m ?_
   refine .c (.xL 64 7 112 rfl rfl rfl rfl rfl (rE_at hx1)) ?_
   refine .c (.lN 7) ?_
   refine .c (.cP [.tmp 29] rfl rfl rfl rfl (ih x (List.mem_of_getElem? hx1)) rfl) ?_
   refine .c (.li 64 6 0 [.tmp 30]) ?_
   refine .c (St1.appN (k':=132) (e:=64) (sz:=6) (by':=112) rfl rfl rfl rfl rfl (by kernel_rfl) rfl rfl rfl (by simp) (by first|(simp[dR];done)|(simp[dR];omega)) rfl rfl) ?_
   refine .c (.fB 6 0 false)<|.c (.sT 1 false) ?_
   refine .nil ⟨by kernel_rfl,?_⟩
   refine kb_n<|ks_n<|.region<|.c .m<|.c .pl<|.c .a<|.nil ?_
   refine kl_k [(110,110),(111,111),(112,132)] (.inr ⟨1,rfl,by omega,by omega,rfl⟩) ⟨kd,kX,kX,kd,kb 110 rfl (.cons (.cons .dt (.cons .dt (.cons .dt (.cons .dt (.cons .dt (.cons .dt (.cons .dt Ctos.nil))))))) .nil),kb 132 rfl (.dt rfl (by first|exact dR_take (fun x=>rX x) hx1|exact dR_take1 (fun x=>rX x) hx1|rfl|(simp[dR];done))),kb 111 rfl (.cons (.cons .dt (.cons .dt (.cons .dt (.cons .dt (.cons .dt (.cons .dt (.cons .ow Ctos.nil))))))) .nil),trivial⟩
  ·skip
   have hn:e.ks=[]:=List.eq_nil_of_length_eq_zero (by omega)
   refine .exit<|ks_e<|kl_e<|kb_hit<|ks_n<|.r<|.c (.bN 7)<|.c (.sT 7 true)<|.nn<|.ret ?_
   refine kf_wret [eB 2 100 7,(.b 100,.b 64 7 [[.d (dI e.k),.d (dI e.n),.d (dIs e.i.1),.d (dI e.i.2),.d (dS e.r.1),.d (dAs e.r.2),.d (dEs e.ks)]]),eU 100] (Wk.keep [(100,110)] rfl rfl ⟨kX,kb 110 rfl (.cons (.cons .dt (.cons .dt (.cons .dt (.cons .dt (.cons .dt (.cons .dt (.cons (Cto.nilE 7 (by rw[hn];rfl)) Ctos.nil))))))) .nil),trivial⟩) rfl ?_ nobox
   rfl
 ·skip
  refine .seq<|.r<|.c .m<|.c (.fP 6 0 false)<|.c (.l1 1)<|.c (.ln 64 7 112)<|.c .ls<|.nn ?_
  refine .cD rfl (fun h20=>?_) (fun h20=>?_)
  ·skip
   obtain⟨x,hx1⟩:∃x,e.ks[i]?=some x:=⟨_,List.getElem?_eq_getElem (by omega)⟩
   refine .skip<|ks_n<|.seq<|.block ?_
   refine ACode.drawK (by kernel_rfl) (by kernel_rfl) ?_
   refine .c (.fB 6 0 false)<|.c (.b1 1)<|.c (.fP 6 0 false)<|.c (.l1 1)<|.c .m ?_
   refine .c (.xL 64 7 112 rfl rfl rfl rfl rfl (rE_at hx1)) ?_
   refine .c (.lN 7) ?_
   refine .c (.cP [.tmp 29] rfl rfl rfl rfl (ih x (List.mem_of_getElem? hx1)) rfl) ?_
   refine .c (.li 64 6 0 [.tmp 30]) ?_
   refine .c (St1.appB (k':=132) (e:=64) (sz:=6) (by':=112) rfl rfl rfl rfl rfl (by kernel_rfl) rfl rfl rfl rfl (by first|(simp[dR];done)|(simp[dR];omega)) (by first|(simp[dR];done)|(simp[dR];omega)) rfl rfl rfl) ?_
   refine .c (.fB 6 0 false)<|.c (.sT 1 false) ?_
   refine .nil ⟨by kernel_rfl,?_⟩
   refine kb_n<|ks_n<|.region<|.c .m<|.c .pl<|.c .a<|.nil ?_
   refine kl_k [(110,110),(111,111),(112,132)] (.inr ⟨i+1,rfl,by omega,by omega,rfl⟩) ⟨kd,kX,kX,kd,kb 110 rfl (.cons (.cons .dt (.cons .dt (.cons .dt (.cons .dt (.cons .dt (.cons .dt (.cons .dt Ctos.nil))))))) .nil),kb 132 rfl (.dt rfl (by first|exact dR_take (fun x=>rX x) hx1|exact dR_take1 (fun x=>rX x) hx1|rfl|(simp[dR];done))),kb 111 rfl (.cons (.cons .dt (.cons .dt (.cons .dt (.cons .dt (.cons .dt (.cons .dt (.cons .ow Ctos.nil))))))) .nil),trivial⟩
  ·skip
   obtain rfl:i=e.ks.length:=by omega
   refine .exit<|ks_e<|kl_e<|kb_hit<|ks_n<|.r<|.c (.bN 7)<|.c (.sT 7 true)<|.nn<|.ret ?_
   refine kf_wret [eB 2 100 7,(.b 100,.b 64 7 [[.d (dI e.k),.d (dI e.n),.d (dIs e.i.1),.d (dI e.i.2),.d (dS e.r.1),.d (dAs e.r.2),.d (dEs e.ks)]]),eU 100] (Wk.keep [(100,110)] rfl rfl ⟨kX,kb 110 rfl (.cons (.cons .dt (.cons .dt (.cons .dt (.cons .dt (.cons .dt (.cons .dt (.cons (.fz rfl (by first|rfl|exact(dR_ex id _).trans (by rw[List.map_id])|(rw[List.take_length];done)) (by first|rfl|(simp;done)|(simp;omega)) (by omega)) Ctos.nil))))))) .nil),trivial⟩) rfl ?_ nobox
   rfl
theorem l3CopyEx_fn:∀e:Ex,szE e≤1073741824→Fn Tryz.prog 98 [] [ad (rX e)] (.o (ad (rX e))) []:=by
  intro e
  induction e using Ex.rec' with
  |h e ih=>
    intro hs
    rw[szE_eq,szC]at hs
    have:=szAs_len e.r.2
    exact l3CopyEx_one e (by omega) (by omega) (fun x hx=>by have:=szAs_mem hx;omega) (by omega) fun x hx=>ih x hx (by have:=szEs_mem hx;omega)
theorem l3Copy_fn (s:Stm) (hs:szS s≤1073741824):Fn Tryz.prog 54 [] [ad (rS s)] (.o (ad (rS s))) []:=by
 rw[szS,szC]at hs
 have:=szAs_len s.1.2
 refine Fn.code0 Tryz.func54 rfl rfl rfl rfl ?_
 refine .r<|.c .bp<|.c (.al 102 [.string ByteArray.empty,.slice none 0 0,.int .i64 0,.int .i64 0,.slice none 0 0,.int .i64 0,.string ByteArray.empty,.slice none 0 0,.slice none 0 0])<|.nn<|.seq ?_
 refine ACode.drawK (by kernel_rfl) (by kernel_rfl) ?_
 refine .c (.fP 0 1 true)<|.c (.lN 2) ?_
 refine .c (.cP [.tmp 4] rfl rfl rfl rfl (l3CopyAcc_fn s.1 (by omega) (fun x hx=>by have:=szAs_mem hx;omega)) rfl) ?_
 refine .c (.fP 2 6 true)<|.c (.lN 7) ?_
 refine .c (.cP [.tmp 7] rfl rfl rfl rfl (l3CopyEx_fn s.2 (by omega)) rfl) ?_
 refine .c (.bu [(0,.tmp 5),(1,.tmp 8)] [(0,2),(2,7)] [.string ByteArray.empty,.slice none 0 0,.int .i64 0,.int .i64 0,.slice none 0 0,.int .i64 0,.string ByteArray.empty,.slice none 0 0,.slice none 0 0])<|.c (.sT 9 true) ?_
 refine .nil ⟨by kernel_rfl,?_⟩
 refine ks_n<|.ret ?_
 refine kf_ret rfl ?_ nobox
 rfl
theorem rdE_eq (e:Ex):rdE e=(if e.k=3 then [e.r]else [])++rdEs e.ks:=by cases e;rw[rdE];rfl
theorem rdEs_take {l:List Ex} {i:Nat} {x:Ex} (h:l[i]?=some x):rdEs (l.take (i+1))=rdEs (l.take i)++rdE x:=by
  have key:∀(a:List Ex) (x:Ex),rdEs (a++[x])=rdEs a++rdE x:=by
    intro a x
    induction a with
    |nil=>simp[rdEs]
    |cons y a ih=>rw[List.cons_append,rdEs,rdEs,ih,List.append_assoc]
  rw[List.take_add_one,h]
  exact key _ _
mutual
theorem rdE_len:∀e:Ex,(rdE e).length≤cntE e
  | .mk k n i r ks=>by
    rw[rdE,cntE,List.length_append]
    have:=rdEs_len ks
    split
    ·simp;omega
    ·simp;omega
theorem rdEs_len:∀l:List Ex,(rdEs l).length≤cntEs l
  |[]=>by simp[rdEs]
  |e::l=>by
    rw[rdEs,cntEs,List.length_append]
    have:=rdE_len e
    have:=rdEs_len l
    omega
end
theorem cntEs_le {l:List Ex} {i:Nat}:cntEs (l.take i)≤cntEs l:=by
  induction l generalizing i with
  |nil=>simp[cntEs]
  |cons y l ih=>
    cases i with
    |zero=>simp[cntEs]
    |succ i=>rw[List.take_succ_cons,cntEs,cntEs];have:=ih (i:=i);omega
theorem cnt64 {d L:Nat} {e:Ex} (h:exV d L e=true) (hL:L≤6):cntE e≤64:=by
  have h1:=cnt_bd h
  have:2^L≤2^6:=Nat.pow_le_pow_right (by omega) hL
  omega
theorem kids64 {e:Ex} {i:Nat} (h:cntE e≤64):(rdEs (e.ks.take i)).length≤64:=by
  have h1:=rdEs_len (e.ks.take i)
  have h2:=cntEs_le (l:=e.ks) (i:=i)
  rw[cntE_eq]at h
  omega
theorem leaf_nil {d L:Nat} {e:Ex} (h:exV d L e=true) (hk:1≤e.k∧e.k≤3):e.ks=[]:=by
  cases L with
  |zero=>cases h
  |succ L=>
    rw[exV,Bool.and_eq_true,Bool.and_eq_true]at h
    have h1:=h.1.1
    rw[kidV,if_pos hk]at h1
    exact List.eq_nil_of_length_eq_zero (of_decide_eq_true h1)
theorem dR_apC (a b:List Acc):dR (a.map rC)++(b.map rC).map (·.map C.d)=dR ((a++b).map rC):=by rw[dR_app,List.map_append]
theorem reads_one (e:Ex) {d L:Nat} (hv:exV d L e=true) (hcn:cntE e≤64) (ih:∀x∈e.ks,Fn Tryz.prog 30 [] [ad (rX x)] (.o (vD (dCs (rdE x)))) []):Fn Tryz.prog 30 [] [ad (rX e)] (.o (vD (dCs (rdE e)))) []:=by
  have hkl:=(exV_kids hv).1
  refine Fn.code0 Tryz.func30 rfl rfl rfl rfl ?_
  refine .r<|.c .bp<|.c .a<|.nn<|.seq<|.r<|.c (.fP 0 0 false)<|.c (.l1 1)<|.c .eq<|.nn ?_
  refine .cD rfl (fun h8=>?_) (fun h8=>?_)
  · skip
    refine .r<|.c (.fP 4 1 true)<|.c (.lN 2)<|.c (.li 59 1 0 [.tmp 10])<|.c .a<|.nn<|.ret<|ks_r ?_
    refine kf_wret [eD 2 (dCs (rdE e))] (Wk.keep [] rfl rfl ⟨ks rfl (.dt (by rw[rdE_eq,if_pos h8,leaf_nil hv (by omega)];rfl)),trivial⟩) rfl ?_ nobox
    rfl
  · skip
    refine .skip<|ks_n<|.r<|.c .a<|.nn<|.seq<|.r<|.c (.fP 6 0 false)<|.c (.l1 1)<|.c (.ln 64 7 112)<|.c .m<|.nn<|.block ?_
    refine .loopK (fun m σ=>(∃i:Nat,m=e.ks.length -i∧(i≤e.ks.length)∧(rdEs (e.ks.take i)=[])∧σ=[eP 1 (rX e),(.t 2,.v (.o (.c (nl)))),(.t 3,.v (.o (.c (nl)))),eD 13 (dEs e.ks),eN 14 (e.ks.length:Nat),eN 15 (i:Nat)])∨(∃i:Nat,m=e.ks.length -i∧(i≤e.ks.length)∧(0<(rdEs (e.ks.take i)).length)∧σ=[eP 1 (rX e),(.t 2,.v (.o (.c (nl)))),(.t 3,.v (.o (.c (.own 110 2 ((rdEs (e.ks.take i)).length))))),eD 13 (dEs e.ks),eN 14 (e.ks.length:Nat),eN 15 (i:Nat),(.b 110,.b 59 2 (dR ((rdEs (e.ks.take i)).map rC))),eU 110])) [] (.inl ⟨0,rfl,by omega,by simp[rdEs],rfl⟩) ⟨kd,kd,kd,kd,kd,kd,trivial⟩ ?_
    rintro m σ (⟨i,hm0,hi,h0,rfl⟩|⟨i,hm0,hi,h0,rfl⟩)
    · skip
      refine .r<|.c .ls<|.nn<|.seq ?_
      refine .cD rfl (fun h16=>?_) (fun h16=>?_)
      · skip
        obtain⟨x,hx1⟩:∃x,e.ks[i]?=some x:=⟨_,List.getElem?_eq_getElem (by omega)⟩
        have hmx:=List.mem_of_getElem? hx1
        have hT:=rdEs_take hx1
        have h64:=kids64 (i:=i+1) hcn
        refine .skip<|ks_n<|.seq<|.block<|.r<|.c (.xL 64 7 112 rfl rfl rfl rfl rfl (rE_at hx1)) ?_
        refine .c (.lN 7)<|.c (.al 105 [.int .i64 0,.int .i64 0,.slice none 0 0,.int .i64 0,.string ByteArray.empty,.slice none 0 0,.slice none 0 0])<|.c (.sT 7 true)<|.nn ?_
        by_cases hsp:rdE x=[]
        · skip
          refine .region<|.c .m<|.c (.bN 7) ?_
          refine .c (.cP [.tmp 20] rfl rfl rfl rfl (ih x hmx) rfl) ?_
          refine .c (St1.appNE (e:=59) (sz:=1) (by':=40) rfl rfl rfl rfl rfl (by kernel_rfl) rfl (congrArg (fun l=>some (V.o (vD (dCs l)))) hsp)) ?_
          refine .c .a<|.nil<|kb_n<|ks_n<|.region<|.c .pl<|.c .m<|.nil ?_
          refine kl_k [] (.inl ⟨i+1,rfl,by omega,by rw[hT,h0,hsp];rfl,rfl⟩) ⟨kd,kd,kd,kd,kd,kd,trivial⟩
        · skip
          refine .region<|.c .m<|.c (.bN 7) ?_
          refine .c (.cP [.tmp 20] rfl rfl rfl rfl (ih x hmx) rfl) ?_
          refine .c (St1.appN (k':=122) (e:=59) (sz:=1) (by':=40) rfl rfl rfl rfl rfl (by kernel_rfl) rfl rfl rfl (by rw[List.length_map];exact List.length_pos_iff.2 hsp) (by rw[hT,List.length_append]at h64;simp[dR];omega) rfl rfl) ?_
          refine .c .a<|.nil<|kb_n<|ks_n<|.region<|.c .pl<|.c .m<|.nil ?_
          refine kl_k [(110,122)] (.inr ⟨i+1,rfl,by omega,by rw[hT,List.length_append];have:=List.length_pos_iff.2 hsp;omega,rfl⟩) ⟨kd,kd,ks rfl (.c (.ow (by first|(simp[rdEs];done)|(rw[hT,List.length_append,List.length_map];done)|(rw[hT,h0,List.length_map];rfl)|(simp[hT,h0];done)))),kd,kd,kd,kb 122 rfl (.dt rfl (by first|(rw[hT,←dR_apC];done)|(rw[hT,h0];rfl)|(rw[hT,dR_apC];done)|(simp[dR,hT,h0];done))),trivial⟩
      · skip
        have hR:rdEs (e.ks.take i)=rdE e:=by rw[List.take_of_length_le (by omega),rdE_eq,if_neg h8];rfl
        refine .exit<|ks_e<|kl_e<|kb_hit<|ks_n<|.r<|.c .m<|.c .a<|.nn<|.ret ?_
        refine kf_wret [eD 2 (dCs (rdE e))] (Wk.keep [] rfl rfl ⟨ks rfl (.c (Cto.nilE 2 (by rw[←hR,h0];rfl))),trivial⟩) rfl ?_ nobox
        rfl
    · skip
      refine .r<|.c .ls<|.nn<|.seq ?_
      refine .cD rfl (fun h16=>?_) (fun h16=>?_)
      · skip
        obtain⟨x,hx1⟩:∃x,e.ks[i]?=some x:=⟨_,List.getElem?_eq_getElem (by omega)⟩
        have hmx:=List.mem_of_getElem? hx1
        have hT:=rdEs_take hx1
        have h64:=kids64 (i:=i+1) hcn
        refine .skip<|ks_n<|.seq<|.block<|.r<|.c (.xL 64 7 112 rfl rfl rfl rfl rfl (rE_at hx1)) ?_
        refine .c (.lN 7)<|.c (.al 105 [.int .i64 0,.int .i64 0,.slice none 0 0,.int .i64 0,.string ByteArray.empty,.slice none 0 0,.slice none 0 0])<|.c (.sT 7 true)<|.nn<|.region<|.c .m<|.c (.bN 7) ?_
        refine .c (.cP [.tmp 20] rfl rfl rfl rfl (ih x hmx) rfl) ?_
        refine .c (St1.appB (k':=122) (e:=59) (sz:=1) (by':=40) rfl rfl rfl rfl rfl (by kernel_rfl) rfl rfl rfl rfl (by simp[dR]) (by rw[hT,List.length_append]at h64;simp[dR];omega) rfl rfl rfl) ?_
        refine .c .a<|.nil<|kb_n<|ks_n<|.region<|.c .pl<|.c .m<|.nil ?_
        refine kl_k [(110,122)] (.inr ⟨i+1,rfl,by omega,by rw[hT,List.length_append];omega,rfl⟩) ⟨kd,kd,ks rfl (.c (.ow (by first|(simp[rdEs];done)|(rw[hT,List.length_append,List.length_map];done)|(rw[hT,h0,List.length_map];rfl)|(simp[hT,h0];done)))),kd,kd,kd,kb 122 rfl (.dt rfl (by first|(rw[hT,←dR_apC];done)|(rw[hT,h0];rfl)|(rw[hT,dR_apC];done)|(simp[dR,hT,h0];done))),trivial⟩
      · skip
        have hR:rdEs (e.ks.take i)=rdE e:=by rw[List.take_of_length_le (by omega),rdE_eq,if_neg h8];rfl
        refine .exit<|ks_e<|kl_e<|kb_hit<|ks_n<|.r<|.c .m<|.c .a<|.nn<|.ret ?_
        refine kf_wret [eD 2 (dCs (rdE e))] (Wk.keep [] rfl rfl ⟨ks rfl (.c (.fz rfl (by rw[hR]) (by rw[hR,List.length_map]) (by have:=rdE_len e;first|omega|(rw[hR];omega)))),trivial⟩) rfl ?_ nobox
        rfl
theorem reads_fn {d:Nat}:∀ {L:Nat} (e:Ex),L≤6→exV d L e=true→Fn Tryz.prog 30 [] [ad (rX e)] (.o (vD (dCs (rdE e)))) []
  |0,e,hL,h=>by cases h
  |L+1,e,hL,h=>reads_one e h (cnt64 h hL) fun x hx=>reads_fn (L:=L) x (by omega) ((exV_kids h).2 x hx)
theorem stmtV_ex {d:Int} {s:Stm} (h:stmtV d s=true):exV d.toNat 5 s.2=true∧accV d.toNat s.1=true∧cntE s.2≤12∧0≤d∧d≤4:=by
  rw[stmtV,Bool.and_eq_true,Bool.and_eq_true,Bool.and_eq_true,decide_eq_true_eq,inB,decide_eq_true_eq]at h
  exact⟨h.2.1.2,h.2.1.1,h.2.2,h.1⟩
theorem nonA_iff {x:Aff}:nonA x=true↔x=([],0):=by
  obtain⟨a,b⟩:=x
  simp[nonA,List.length_eq_zero_iff]
theorem nonC_iff {a:Acc}:nonC a=true↔a=(ByteArray.empty,[]):=by
  obtain⟨a,b⟩:=a
  simp[nonC,sEq_iff,List.length_eq_zero_iff]
theorem fld_map {d:Nat} {e:Ex} (h:fldV d e.k e.n e.i e.r=true):(if e.k=2 then e.i else([],0))=e.i∧(if e.k=3 then e.r else(ByteArray.empty,[]))=e.r:=by
  unfold fldV at h
  split at h
  · simp only[Bool.and_eq_true]at h
    rw[if_neg (by omega),if_neg (by omega),nonA_iff.1 h.1.2,nonC_iff.1 h.2];exact⟨rfl,rfl⟩
  · split at h
    · simp only[Bool.and_eq_true]at h
      rw[if_pos (by assumption),if_neg (by omega),nonC_iff.1 h.2];exact⟨rfl,rfl⟩
    · split at h
      · simp only[Bool.and_eq_true]at h
        rw[if_neg (by omega),if_pos (by assumption),nonA_iff.1 h.1.2];exact⟨rfl,rfl⟩
      · simp only[Bool.and_eq_true]at h
        rw[if_neg (by omega),if_neg (by omega),nonA_iff.1 h.1.2,nonC_iff.1 h.2];exact⟨rfl,rfl⟩
theorem mapE_eq (g:Aff→Aff) (e:Ex):mapE g e= .mk e.k e.n (if e.k=2 then g e.i else([],0)) (if e.k=3 then mapC g e.r else(ByteArray.empty,[])) (e.ks.map (mapE g)):=by
  cases e with
  |mk k n i r ks=>rw[mapE,mapEs_map];rfl
theorem mapC_id (a:Acc):mapC id a=a:=by rw[mapC,List.map_id]
theorem mapE_id {d:Nat}:∀ {L:Nat} {e:Ex},exV d L e=true→mapE id e=e
  |0,e,h=>by cases h
  |L+1,e,h=>by
    have h1:=(exV_kids h).2
    rw[exV,Bool.and_eq_true,Bool.and_eq_true]at h
    obtain⟨f1,f2⟩:=fld_map h.1.2
    rw[mapE_eq,mapC_id,show e.ks.map (mapE id)=e.ks from(List.map_congr_left fun x hx=>mapE_id (h1 x hx)).trans (List.map_id _)]
    show Ex.mk e.k e.n (if e.k=2 then e.i else([],0)) _ _=e
    rw[f1,f2,Ex.eta]
theorem mapS_id {d:Int} {s:Stm} (h:stmtV d s=true):mapS id s=s:=by
  rw[mapS,mapC_id,mapE_id (stmtV_ex h).1]
theorem sameE_eq (x y:Ex):sameE x y=(decide (x.k=y.k)&&decide (x.n=y.n)&&decide (x.i=y.i)&&sameC x.r y.r&&sameEs x.ks y.ks):=by
  cases x;cases y
  rw[sameE,sameC]
  simp only[Ex.k,Ex.n,Ex.i,Ex.r,Ex.ks,Bool.and_assoc]
  congr 3
  rw[←Bool.and_assoc,←Bool.and_assoc]
  congr 1
  exact Bool.and_comm _ _
theorem eqF_sameE:∀a b:List Ex,eqF sameE a b=sameEs a b
  |[],[]=>rfl
  |[],_::_=>rfl
  |_::_,[]=>rfl
  |x::a,y::b=>by rw[eqF,sameEs,eqF_sameE a b]
theorem idx_acc {f:FuncId} {cap:List (List D)} (hc:callable Tryz.prog f=true) (p:Acc→Bool) (xs:List Acc) (hx:xs.length≤1099511627776) (hf:∀x∈xs,Fn Tryz.prog f [] (ad (rC x)::cap.map fun c=>.c (.ptr c)) (.o (bo1 (p x))) []):Fn Tryz.prog 154 [] [vD (dCs xs),.c (.fn f cap)] (.o (nat1 (idxF p xs))) []:=by
 refine Fn.code0 Tryz.func154 rfl rfl rfl rfl ?_
 refine .r<|.c .a<|.nn<|.seq<|.r<|.c .m<|.c (.ln 59 2 40)<|.c .m<|.nn<|.block ?_
 refine .loopK (fun m σ=>(∃i:Nat,m=xs.length -i∧(i≤xs.length)∧(idxF p xs=idxG p i (xs.drop i))∧σ=[eD 0 (dCs xs),(.t 1,.v (.o (.c (.fn f cap)))),eN 7 (xs.length:Nat),eN 8 (i:Nat)])) [] ⟨0,rfl,by omega,rfl,rfl⟩ ⟨kd,kd,kd,kd,trivial⟩ ?_
 rintro m σ ⟨i,hm0,hi,hF,rfl⟩
 refine .r<|.c .ls<|.nn<|.seq ?_
 refine .cD rfl (fun h9=>?_) (fun h9=>?_)
 ·skip
  obtain⟨x,hx1⟩:∃x,xs[i]?=some x:=⟨_,List.getElem?_eq_getElem (by omega)⟩
  refine .skip<|ks_n<|.seq<|.block<|.r<|.c .m<|.c .a<|.r<|.c .m<|.c .m<|.c .m<|.c (.xL 59 2 40) ?_
  refine .c (.lN 2) ?_
  refine .c (.cP [.tmp 15] rfl rfl rfl rfl (hf x (List.mem_of_getElem? hx1)) rfl hc) ?_
  refine .nn ?_
  refine ACode.condT rfl (fun h16=>?_) (fun h16=>?_)
  ·try simp only[zs]at h16
   refine .r<|.c .m<|.c .a<|.nn<|.ret<|kb_r<|ks_r<|kl_r<|kb_r<|ks_r ?_
   refine kf_ret rfl ?_ nobox
   exact leafI (by rw[hF,idxG_drop hx1,h16];rfl)
  ·try simp only[zs]at h16
   refine .skip<|kb_n<|ks_n<|.region<|.c .pl<|.c .m<|.nil ?_
   refine kl_k [] ⟨i+1,rfl,by omega,by rw[hF,idxG_drop hx1,h16];rfl,rfl⟩ ⟨kd,kd,kd,kd,trivial⟩
 ·skip
  refine .exit<|ks_e<|kl_e<|kb_hit<|ks_n<|.r<|.c .a<|.nn<|.ret ?_
  refine kf_ret rfl ?_ nobox
  exact leafI (by rw[hF,List.drop_of_length_le (by omega)];rfl)
theorem cnt_acc {f:FuncId} {cap:List (List D)} (hc:callable Tryz.prog f=true) (p:Acc→Bool) (xs:List Acc) (hx:xs.length≤1099511627776) (hf:∀x∈xs,Fn Tryz.prog f [] (ad (rC x)::cap.map fun c=>.c (.ptr c)) (.o (bo1 (p x))) []):Fn Tryz.prog 112 [] [vD (dCs xs),.c (.fn f cap)] (.o (bo1 (xs.any p))) []:=by
  refine Fn.code0 Tryz.func112 rfl rfl rfl rfl ?_
  refine .r<|.c .a<|.r<|.c .m<|.c .m ?_
  refine .c (.cP [.tmp 5,.tmp 6] rfl rfl rfl rfl (idx_acc hc p xs hx hf) rfl) ?_
  refine .c .ge<|.c .a<|.nn<|.ret ?_
  refine kf_ret rfl ?_ nobox
  exact leafB idxG_any
def hbL (k:Nat) (l:List Acc):St:=[(.b k,.b 59 2 (dR (l.map rC))),(.u k,.u)]
theorem rdEs_le:∀ {l:List Ex} {i:Nat},(rdEs (l.take i)).length≤(rdEs l).length
  |[],i=>by simp[rdEs]
  |y::l,0=>by simp[rdEs]
  |y::l,i+1=>by
    rw[List.take_succ_cons,rdEs,rdEs,List.length_append,List.length_append]
    have:=rdEs_le (l:=l) (i:=i)
    omega
theorem hbL_HB (k:Nat) (l:List Acc):HB (hbL k l):=HB.nil.data
theorem hbL_flat (k:Nat) (l:List Acc):flatS (hbL k l):=flatS.nil.cons rfl
theorem l3Reads_one (l:List Acc) (e:Ex) (hi3:e.r.2.length≤1073741824) (hq3:∀x∈e.r.2,x.1.length≤1073741824) (hkl:e.ks.length≤1099511627776) (hln:l.length+(rdE e).length≤1073741824) (ih:∀x∈e.ks,∀l:List Acc,l.length+(rdE x).length≤1073741824→Fn Tryz.prog 55 (hbL 0 l) [.c (.own 0 2 l.length),ad (rX x)] (.o (.c (.own 1000 2 (l++rdE x).length))) (hbL 1000 (l++rdE x))):Fn Tryz.prog 55 (hbL 0 l) [.c (.own 0 2 l.length),ad (rX e)] (.o (.c (.own 1000 2 (l++rdE e).length))) (hbL 1000 (l++rdE e)):=by
 have hrd:=rdE_eq e
 have hbl:(rdE e).length=(if e.k=3 then [e.r]else []).length+(rdEs e.ks).length:=by rw[hrd,List.length_append]
 refine Fn.of_code Tryz.func55 rfl rfl (hbL_HB _ _) rfl rfl (hbL_HB _ _) rfl (one_num rfl) ?_
 refine .r<|.c .bp<|.c .a<|.nn<|.seq ?_
 refine ACode.cut [(.t 0,.v (.o (.c (.own 1710 2 ((l++(if e.k=3 then [e.r]else [])).length))))),eP 3 (rX e),(.t 4,.v (.o (.c (nl)))),(.b 1710,.b 59 2 (dR ((l++(if e.k=3 then [e.r]else [])).map rC))),eU 1710] ?_ ?_
 ·skip
  refine .r<|.c (.fP 0 0 false)<|.c (.l1 1)<|.c .eq<|.nn ?_
  refine .cD rfl (fun h8=>?_) (fun h8=>?_)
  ·skip
   refine .region<|.c .m<|.c (.fP 4 1 true)<|.c (.lN 2) ?_
   refine .c (.cP [.tmp 11] rfl rfl rfl rfl (l3CopyAcc_fn _ hi3 hq3) rfl) ?_
   refine .c (.li 59 1 0 [.tmp 12]) ?_
   refine .c (St1.appB (k':=1014) (e:=59) (sz:=1) (by':=40) rfl rfl rfl rfl rfl (by kernel_rfl) rfl rfl rfl rfl (by simp[dR]) (by rw[if_pos h8]at hbl;simp[dR]at hbl ⊢;omega) rfl rfl rfl) ?_
   refine .c .a<|.nil ?_
   exact kc_n (Wk.keep [(1710,1014)] rfl rfl ⟨ks rfl (.c (.ow (by first|rfl|omega|(simp;done)|(simp;omega)|(simp[*];done)|(simp[*];omega)|(simp[rdEs];done)|(rw[hT];simp;omega)|(rw[hT];simp[Nat.add_assoc];done)))),kd,kd,kb 1014 rfl (.dt rfl (by first|rfl|(rw[if_pos h8,←dR_apC];rfl)|(rw[if_neg h8,List.append_nil];done)|(simp only[dR_apC];simp[hT,List.append_assoc];done)|(rw[hT,←List.append_assoc];done)|(simp[rdEs];done))),trivial⟩)
  ·skip
   refine .skip ?_
   exact kc_n (Wk.keep [(1710,0)] rfl rfl ⟨ks rfl (.c (.ow (by first|rfl|omega|(simp;done)|(simp;omega)|(simp[*];done)|(simp[*];omega)|(simp[rdEs];done)|(rw[hT];simp;omega)|(rw[hT];simp[Nat.add_assoc];done)))),kd,kd,kb 0 rfl (.dt rfl (by first|rfl|(rw[if_pos h8,←dR_apC];rfl)|(rw[if_neg h8,List.append_nil];done)|(simp only[dR_apC];simp[hT,List.append_assoc];done)|(rw[hT,←List.append_assoc];done)|(simp[rdEs];done))),trivial⟩)
 refine ks_n<|.seq<|.r<|.c .a<|.nn<|.block ?_
 refine .loopK (fun m σ=>(∃i:Nat,m=e.ks.length -i∧(i≤e.ks.length)∧(True)∧σ=[(.t 0,.v (.o (.c (.own 1010 2 ((l++(if e.k=3 then [e.r]else [])++rdEs (e.ks.take i)).length))))),eP 3 (rX e),(.t 4,.v (.o (.c (nl)))),eN 5 (i:Nat),(.b 1010,.b 59 2 (dR ((l++(if e.k=3 then [e.r]else [])++rdEs (e.ks.take i)).map rC))),eU 1010])) [(1010,1710)] ⟨0,rfl,by omega,trivial,rfl⟩ ⟨ks rfl (.c (.ow (by first|rfl|omega|(simp;done)|(simp;omega)|(simp[*];done)|(simp[*];omega)|(simp[rdEs];done)|(rw[hT];simp;omega)|(rw[hT];simp[Nat.add_assoc];done)))),kd,kd,kd,kb 1710 rfl (.dt rfl (by first|rfl|(rw[if_pos h8,←dR_apC];rfl)|(rw[if_neg h8,List.append_nil];done)|(simp only[dR_apC];simp[hT,List.append_assoc];done)|(rw[hT,←List.append_assoc];done)|(simp[rdEs];done))),trivial⟩ ?_
 rintro m σ ⟨i,hm0,hi,hF,rfl⟩
 refine .seq<|.r<|.c .m<|.c (.fP 6 0 false)<|.c (.l1 1)<|.c (.ln 64 7 112)<|.c .ls<|.nn ?_
 refine .cD rfl (fun h19=>?_) (fun h19=>?_)
 ·skip
  obtain⟨x,hx1⟩:∃x,e.ks[i]?=some x:=⟨_,List.getElem?_eq_getElem (by omega)⟩
  have hT:=rdEs_take hx1
  have hle:=rdEs_le (l:=e.ks) (i:=i+1)
  have hnx:(l++(if e.k=3 then [e.r]else [])++rdEs (e.ks.take i)).length+(rdE x).length≤1073741824:=by rw[hT,List.length_append]at hle;simp only[List.length_append];omega
  refine .skip<|ks_n<|.seq<|.block<|.region<|.c .m<|.c (.fP 6 0 false)<|.c (.l1 1)<|.c .m ?_
  refine .c (.xL 64 7 112 rfl rfl rfl rfl rfl (rE_at hx1)) ?_
  refine .c (.lN 7) ?_
  refine .c (.cO [.tmp 22,.tmp 27] [(0,1010),(1000,1028)] rfl rfl rfl rfl (ih x (List.mem_of_getElem? hx1) (l++(if e.k=3 then [e.r]else [])++rdEs (e.ks.take i)) hnx) rfl ⟨(by rw[renR_dR];rfl),trivial⟩ (hbL_flat _ _) (hbL_flat _ _) (hbL_HB _ _) outS_one) ?_
  refine .c .a<|.nil<|kb_n<|ks_n<|.region<|.c .m<|.c .pl<|.c .a<|.nil ?_
  refine kl_k [(1010,1028)] ⟨i+1,rfl,by omega,trivial,rfl⟩ ⟨ks rfl (.c (.ow (by first|rfl|omega|(simp;done)|(simp;omega)|(simp[*];done)|(simp[*];omega)|(simp[rdEs];done)|(rw[hT];simp;omega)|(rw[hT];simp[Nat.add_assoc];done)))),kd,kd,kd,kb 1028 rfl (.dt rfl (by first|rfl|(rw[if_pos h8,←dR_apC];rfl)|(rw[if_neg h8,List.append_nil];done)|(simp only[dR_apC];simp[hT,List.append_assoc];done)|(rw[hT,←List.append_assoc];done)|(simp[rdEs];done))),trivial⟩
 ·skip
  have hall:l++(if e.k=3 then [e.r]else [])++rdEs (e.ks.take i)=l++rdE e:=by rw[List.take_of_length_le (by omega),hrd,List.append_assoc]
  refine .exit<|ks_e<|kl_e<|kb_hit<|ks_n<|.r<|.c .m<|.c .a<|.nn<|.ret ?_
  refine kf_wret [(.t 4,.v (.o (.c (.own 1000 2 ((l++rdE e).length))))),(.b 1000,.b 59 2 (dR ((l++rdE e).map rC))),eU 1000] (Wk.keep [(1000,1010)] rfl rfl ⟨ks rfl (.c (.ow (by rw[hall]))),kb 1010 rfl (.dt rfl (by rw[hall])),trivial⟩) rfl ?_ (one_box rfl)
  rfl
theorem l3Reads_fn:∀e:Ex,szE e≤1073741824→∀l:List Acc,l.length+(rdE e).length≤1073741824→Fn Tryz.prog 55 (hbL 0 l) [.c (.own 0 2 l.length),ad (rX e)] (.o (.c (.own 1000 2 (l++rdE e).length))) (hbL 1000 (l++rdE e)):=by
  intro e
  induction e using Ex.rec' with
  |h e ih=>
    intro hs l hl
    have h1:=hs
    rw[szE_eq,szC]at h1
    have:=szAs_len e.r.2
    exact l3Reads_one l e (by omega) (fun x hx=>by have:=szAs_mem hx;omega) (by omega) hl fun x hx l hl=>ih x hx (by have:=szEs_mem hx;omega) l hl
abbrev Arr:=ByteArray×List Int
def rR (a:Arr):List D:=[dS a.1,dIs a.2]
def dRs (l:List Arr):D:=.list 2 (l.map rR)
def dMs (l:List Stm):D:=.list 9 (l.map rS)
abbrev Prt:=List Lp×List Stm
def rP (p:Prt):List D:=[dLs p.1,dMs p.2]
def dPts (l:List Prt):D:=.list 2 (l.map rP)
abbrev Prg:=List Arr×List Prt
def rG (g:Prg):List D:=[dRs g.1,dPts g.2]
abbrev Ins:=Int×Int×List Int
def rN (x:Ins):List D:=[dI x.1,dI x.2.1,dIs x.2.2]
def dNs (l:List Ins):D:=.list 3 (l.map rN)
def dimV (n:Int):Bool:=inB n 1 6
def arrOk (a:Arr):Bool:=arrV a.1&&(decide (1≤a.2.length∧a.2.length≤2)&&a.2.all dimV)
def lastV (l:List Arr) (i:Nat) (a:Arr):Bool:=match l[i]? with |some b=>sLt b.1 a.1|none=>true
def arrAt (l:List Arr) (i:Nat):Bool:=match l[i]? with
  |none=>true
  |some a=>arrOk a&&(decide (i=0)||lastV l (i -1) a)
def arrsV (l:List Arr):Bool:=(List.range l.length).all (arrAt l)&&decide (l.length≤4)
theorem arrAt_eq {l:List Arr} {i:Nat} {a:Arr} (h:l[i]?=some a):arrAt l i=(arrOk a&&(decide (i=0)||lastV l (i -1) a)):=by rw[arrAt,h]
theorem lastV_eq {l:List Arr} {i:Nat} {a b:Arr} (h:l[i]?=some b):lastV l i a=sLt b.1 a.1:=by rw[lastV,h]
theorem arrsV_bad {l:List Arr} {i:Nat} (hi:i<l.length) (h:arrAt l i=false):arrsV l=false:=by
  rw[arrsV,Bool.and_eq_false_iff]
  refine .inl (Bool.eq_false_iff.2 fun h2=>?_)
  have:=List.all_eq_true.1 h2 i (List.mem_range.2 hi)
  rw[h]at this;cases this
theorem arrsV_end {l:List Arr} (h:∀j,j<l.length→arrAt l j=true):arrsV l=decide (l.length≤4):=by
  rw[arrsV,show (List.range l.length).all (arrAt l)=true from List.all_eq_true.2 fun j hj=>h j (List.mem_range.1 hj),Bool.true_and]
theorem arrsV_at {l:List Arr} (h:arrsV l=true) {a:Arr} (ha:a∈l):arrOk a=true:=by
  obtain⟨i,hi⟩:=List.mem_iff_getElem?.1 ha
  rw[arrsV,Bool.and_eq_true]at h
  have:=List.all_eq_true.1 h.1 i (List.mem_range.2 (List.getElem?_eq_some_iff.1 hi).1)
  rw[arrAt_eq hi,Bool.and_eq_true]at this
  exact this.1
theorem arrsV_len {l:List Arr} (h:arrsV l=true):l.length≤4:=by
  rw[arrsV,Bool.and_eq_true]at h;exact of_decide_eq_true h.2
theorem arrOk_at {a:Arr} (h:arrOk a=true):(1≤a.2.length∧a.2.length≤2)∧∀d∈a.2,1≤d∧d≤6:=by
  rw[arrOk,Bool.and_eq_true,Bool.and_eq_true]at h
  exact⟨of_decide_eq_true h.2.1,fun d hd=>of_decide_eq_true (List.all_eq_true.1 h.2.2 d hd)⟩
def B6 (k:Nat) (n:Int):Prop:=0≤n∧((k=0∧n≤1)∨(k=1∧n≤6)∨(k=2∧n≤36))
theorem B6.bd {k:Nat} {n:Int} (h:B6 k n):0≤n∧n≤36:=by unfold B6 at h;omega
theorem mul_b6 {n d A:Int} (h0:0≤n) (h1:n≤A) (h2:0≤d) (h3:d≤6):0≤n *d∧n *d≤A *6:=
  ⟨Int.mul_nonneg h0 h2,Int.le_trans (Int.mul_le_mul_of_nonneg_right h1 h2) (Int.mul_le_mul_of_nonneg_left h3 (Int.le_trans h0 h1))⟩
theorem B6.mul {k:Nat} {n d:Int} (h:B6 k n) (hd:1≤d∧d≤6) (hk:k<2):B6 (k+1) (n *d):=by
  obtain⟨h0,h|h|h⟩:=h
  ·have:=mul_b6 h0 h.2 (by omega) hd.2;unfold B6;omega
  ·have:=mul_b6 h0 h.2 (by omega) hd.2;unfold B6;omega
  ·omega
theorem B6.at {k:Nat} {n d v:Int} (h0:0≤n) (h:B6 k (n+1)) (hd:1≤d∧d≤6) (hk:k<2) (hv:0≤v∧v≤d -1):0≤n *d∧n *d+v+1≤36∧0≤n *d+v∧B6 (k+1) (n *d+v+1):=by
  have h1:=h.mul hd hk
  have e:(n+1) *d=n *d+d:=by rw[Int.add_mul,Int.one_mul]
  rw[e]at h1
  have h2:=Int.mul_nonneg h0 (show 0≤d by omega)
  have h3:=h1.bd
  refine⟨h2,by omega,by omega,?_⟩
  unfold B6 at h1 ⊢;omega
def sizeF (n:Int) (l:List Int):Int:=l.foldl (· *·) n
def sizeA (l:List Int):Int:=sizeF 1 l
theorem sizeF_drop {l:List Int} {i:Nat} {d:Int} {n:Int} (h:l[i]?=some d):sizeF n (l.drop i)=sizeF (n *d) (l.drop (i+1)):=by
  obtain⟨hi,rfl⟩:=List.getElem?_eq_some_iff.1 h
  rw[List.drop_eq_getElem_cons hi];rfl
theorem sizeF_end {l:List Int} {i:Nat} {n:Int} (h:l.length≤i):sizeF n (l.drop i)=n:=by rw[List.drop_of_length_le h];rfl
theorem sizeA_bd {a:Arr} (h:arrOk a=true):0≤sizeA a.2∧sizeA a.2≤36:=by
  obtain⟨h1,h2⟩:=arrOk_at h
  have key:∀(l:List Int) (k:Nat) (n:Int),B6 k n→k+l.length≤2→(∀d∈l,1≤d∧d≤6)→0≤sizeF n l∧sizeF n l≤36:=by
    intro l
    induction l with
    |nil=>intro k n hb _ _;exact hb.bd
    |cons d l ih=>
      intro k n hb hk hd
      rw[List.length_cons]at hk
      exact ih (k+1) (n *d) (hb.mul (hd d (by simp)) (by omega)) (by omega) fun d hd'=>hd d (by simp[hd'])
  exact key a.2 0 1 (by unfold B6;omega) (by omega) h2
def atG (p:List Int):List Int→List Aff→Int→Int
  |d::ds,s::ss,n=>if inB (affEval s p) 0 (d -1)=true then atG p ds ss (n *d+affEval s p)else -1
  |_,_,n=>n
theorem atG_yes {p:List Int} {ds:List Int} {ss:List Aff} {i:Nat} {d:Int} {s:Aff} {n:Int} (hd:ds[i]?=some d) (hs:ss[i]?=some s) (h:inB (affEval s p) 0 (d -1)=true):atG p (ds.drop i) (ss.drop i) n=atG p (ds.drop (i+1)) (ss.drop (i+1)) (n *d+affEval s p):=by
  obtain⟨hi,rfl⟩:=List.getElem?_eq_some_iff.1 hd
  obtain⟨hj,rfl⟩:=List.getElem?_eq_some_iff.1 hs
  rw[List.drop_eq_getElem_cons hi,List.drop_eq_getElem_cons hj,atG,if_pos h]
theorem atG_no {p:List Int} {ds:List Int} {ss:List Aff} {i:Nat} {d:Int} {s:Aff} {n:Int} (hd:ds[i]?=some d) (hs:ss[i]?=some s) (h:¬inB (affEval s p) 0 (d -1)=true):atG p (ds.drop i) (ss.drop i) n= -1:=by
  obtain⟨hi,rfl⟩:=List.getElem?_eq_some_iff.1 hd
  obtain⟨hj,rfl⟩:=List.getElem?_eq_some_iff.1 hs
  rw[List.drop_eq_getElem_cons hi,List.drop_eq_getElem_cons hj,atG,if_neg h]
theorem atG_end {p:List Int} {ds:List Int} {ss:List Aff} {i:Nat} {n:Int} (h:ss.length≤i):atG p (ds.drop i) (ss.drop i) n=n:=by
  rw[List.drop_of_length_le h,atG];intros;contradiction
def cellG (a:Acc) (p:List Int):List Arr→Int→Int
  |[],_=> -1
  |x::l,base=>if sEq x.1 a.1=true then(if a.2.length=x.2.length then(if atG p x.2 a.2 0= -1 then -1 else base+atG p x.2 a.2 0)else -1)else cellG a p l (base+sizeA x.2)
theorem cellG_next {a:Acc} {p:List Int} {l:List Arr} {i:Nat} {x:Arr} {b:Int} (hx:l[i]?=some x) (h:sEq x.1 a.1=false):cellG a p (l.drop i) b=cellG a p (l.drop (i+1)) (b+sizeA x.2):=by
  obtain⟨hi,rfl⟩:=List.getElem?_eq_some_iff.1 hx
  rw[List.drop_eq_getElem_cons hi,cellG,if_neg (by rw[h];simp)]
theorem cellG_len {a:Acc} {p:List Int} {l:List Arr} {i:Nat} {x:Arr} {b:Int} (hx:l[i]?=some x) (h:sEq x.1 a.1=true) (hl:¬a.2.length=x.2.length):cellG a p (l.drop i) b= -1:=by
  obtain⟨hi,rfl⟩:=List.getElem?_eq_some_iff.1 hx
  rw[List.drop_eq_getElem_cons hi,cellG,if_pos h,if_neg hl]
theorem cellG_at {a:Acc} {p:List Int} {l:List Arr} {i:Nat} {x:Arr} {b:Int} (hx:l[i]?=some x) (h:sEq x.1 a.1=true) (hl:a.2.length=x.2.length):cellG a p (l.drop i) b=if atG p x.2 a.2 0= -1 then -1 else b+atG p x.2 a.2 0:=by
  obtain⟨hi,rfl⟩:=List.getElem?_eq_some_iff.1 hx
  rw[List.drop_eq_getElem_cons hi,cellG,if_pos h,if_pos hl]
theorem cellG_end {a:Acc} {p:List Int} {l:List Arr} {i:Nat} {b:Int} (h:l.length≤i):cellG a p (l.drop i) b= -1:=by rw[List.drop_of_length_le h];rfl
def accG (ar:List Arr) (p:List Int) (a:Acc):Bool:=decide (0≤cellG a p ar 0)
def stmG (ar:List Arr) (s:Stm) (p:List Int):Bool:=accG ar p s.1&&(rdE s.2).all (accG ar p)
def ptG' (ar:List Arr) (b:List Stm) (p:List Int):Bool:=isPt p&&b.all fun s=>stmG ar s p
def prtV (ar:List Arr) (q:Prt):Bool:=okP q.1&&(decide (1≤q.2.length∧q.2.length≤4)&&(q.2.all (stmtV (q.1.length:Nat))&&(npR q.1).all (ptG' ar q.2)))
theorem prtV_eq {ar:List Arr} {q:Prt} (h1:okP q.1=true) (h2:1≤q.2.length∧q.2.length≤4) (h3:q.2.all (stmtV (q.1.length:Nat))=true):prtV ar q=(npR q.1).all (ptG' ar q.2):=by
  rw[prtV,h1,decide_eq_true h2,h3];rfl
theorem prtV_iff {ar:List Arr} {q:Prt}:prtV ar q=true↔okP q.1=true∧(1≤q.2.length∧q.2.length≤4)∧(∀s∈q.2,stmtV (q.1.length:Nat) s=true)∧∀p∈npR q.1,isPt p=true∧∀s∈q.2,stmG ar s p=true:=by
  simp only[prtV,ptG',Bool.and_eq_true,decide_eq_true_eq,List.all_eq_true]
theorem prtV_f1 {ar:List Arr} {q:Prt} (h:okP q.1=false):prtV ar q=false:=by rw[prtV,h];rfl
theorem prtV_f2 {ar:List Arr} {q:Prt} (h:¬(1≤q.2.length∧q.2.length≤4)):prtV ar q=false:=Bool.eq_false_iff.2 fun h2=>h (prtV_iff.1 h2).2.1
theorem prtV_f3 {ar:List Arr} {q:Prt} {s:Stm} (hs:s∈q.2) (h:stmtV (q.1.length:Nat) s=false):prtV ar q=false:=Bool.eq_false_iff.2 fun h2=>by
  have:=(prtV_iff.1 h2).2.2.1 s hs;rw[h]at this;cases this
theorem prtV_f4 {ar:List Arr} {q:Prt} {p:List Int} (hp:p∈npR q.1) (h:isPt p=false):prtV ar q=false:=Bool.eq_false_iff.2 fun h2=>by
  have:=((prtV_iff.1 h2).2.2.2 p hp).1;rw[h]at this;cases this
theorem prtV_f5 {ar:List Arr} {q:Prt} {p:List Int} {s:Stm} (hp:p∈npR q.1) (hs:s∈q.2) (h:stmG ar s p=false):prtV ar q=false:=Bool.eq_false_iff.2 fun h2=>by
  have:=((prtV_iff.1 h2).2.2.2 p hp).2 s hs;rw[h]at this;cases this
def rowI (k m:Nat) (p:List Int):List Ins:=(List.range m).map fun(i:Nat)=>((k:Int),(i:Int),p)
def insT (k m:Nat) (l:Pts):List Ins:=l.flatMap (rowI k m)
def insP (k:Nat) (q:Prt):List Ins:=insT k q.2.length (npR q.1)
def insG:Nat→List Prt→List Ins
  |_,[]=>[]
  |k,q::l=>insP k q++insG (k+1) l
theorem rowI_len {k m:Nat} {p:List Int}:(rowI k m p).length=m:=by simp[rowI]
theorem rowI_snoc {k m:Nat} {p:List Int}:rowI k (m+1) p=rowI k m p++[((k:Int),(m:Int),p)]:=by rw[rowI,List.range_succ,List.map_append];rfl
theorem rowI_zero {k:Nat} {p:List Int}:rowI k 0 p=[]:=rfl
theorem insT_len {k m:Nat}:∀ {l:Pts},(insT k m l).length=l.length *m
  |[]=>by simp[insT]
  |p::l=>by
    have:=insT_len (k:=k) (m:=m) (l:=l)
    rw[insT]at this ⊢
    rw[List.flatMap_cons,List.length_append,this,rowI_len,List.length_cons,Nat.add_mul,Nat.one_mul,Nat.add_comm]
theorem insT_take {k m:Nat} {l:Pts} {i:Nat} {p:List Int} (h:l[i]?=some p):insT k m (l.take (i+1))=insT k m (l.take i)++rowI k m p:=by
  rw[List.take_add_one,h,insT,List.flatMap_append];simp[insT]
theorem insG_app:∀(l:List Prt) (n:Nat) (q:Prt),insG n (l++[q])=insG n l++insP (n+l.length) q
  |[],n,q=>by simp[insG]
  |x::l,n,q=>by
    rw[List.cons_append,insG,insG,insG_app l (n+1) q,List.append_assoc,List.length_cons,show n+1+l.length=n+(l.length+1)by omega]
theorem insG_take {l:List Prt} {i:Nat} {q:Prt} (h:l[i]?=some q):insG 0 (l.take (i+1))=insG 0 (l.take i)++insP i q:=by
  have hi:=(List.getElem?_eq_some_iff.1 h).1
  rw[List.take_add_one,h,Option.toList_some,insG_app,List.length_take,Nat.min_eq_left (by omega),Nat.zero_add]
theorem insP_len {k:Nat} {q:Prt} (h:q.2.length≤4):(insP k q).length=(npR q.1).length *q.2.length∧(insP k q).length≤480:=by
  rw[insP,insT_len]
  exact⟨rfl,Nat.le_trans (Nat.mul_le_mul (npR_len q.1) h) (by omega)⟩
def prgS (g:Prg):Bool:=arrsV g.1&&(decide (g.2.length≤4)&&g.2.all (prtV g.1))
def insV (g:Prg):List Ins:=if prgS g=true then insG 0 g.2 else []
def prgV (g:Prg):Bool:=prgS g&&decide ((insG 0 g.2).length≤120)
theorem prgS_f1 {g:Prg} (h:arrsV g.1=false):prgS g=false:=by rw[prgS,h];rfl
theorem prgS_f2 {g:Prg} (h:¬g.2.length≤4):prgS g=false:=by rw[prgS,decide_eq_false h];cases arrsV g.1<;>rfl
theorem prgS_f3 {g:Prg} {q:Prt} (hq:q∈g.2) (h:prtV g.1 q=false):prgS g=false:=Bool.eq_false_iff.2 fun h2=>by
  rw[prgS,Bool.and_eq_true,Bool.and_eq_true]at h2
  have:=List.all_eq_true.1 h2.2.2 q hq;rw[h]at this;cases this
theorem prgS_eq {g:Prg} (h1:arrsV g.1=true) (h2:g.2.length≤4) (h3:∀j q,j<g.2.length→g.2[j]?=some q→prtV g.1 q=true):prgS g=true:=by
  rw[prgS,h1,decide_eq_true h2,List.all_eq_true.2];·rfl
  intro q hq
  obtain⟨j,hj⟩:=List.mem_iff_getElem?.1 hq
  exact h3 j q (List.getElem?_eq_some_iff.1 hj).1 hj
theorem prgS_iff {g:Prg}:prgS g=true↔arrsV g.1=true∧g.2.length≤4∧∀q∈g.2,prtV g.1 q=true:=by
  simp only[prgS,Bool.and_eq_true,decide_eq_true_eq,List.all_eq_true]
theorem prgV_f {g:Prg} (h:prgS g=false):prgV g=false∧insV g=[]:=⟨by rw[prgV,h];rfl,if_neg (by rw[h];simp)⟩
theorem prgV_t {g:Prg} (h:prgS g=true):prgV g=decide ((insG 0 g.2).length≤120)∧insV g=insG 0 g.2:=⟨by rw[prgV,h];rfl,if_pos h⟩
theorem prgV_s {g:Prg} (h:prgV g=true):prgS g=true∧insV g=insG 0 g.2∧(insG 0 g.2).length≤120:=by
  rw[prgV,Bool.and_eq_true]at h
  exact⟨h.1,(prgV_t h.1).2,of_decide_eq_true h.2⟩
theorem insG_mem {x:Ins}:∀ {l:List Prt} {n:Nat},x∈insG n l→∃k q i,l[k]?=some q∧x.1=((n+k:Nat):Int)∧x.2.1=((i:Nat):Int)∧i<q.2.length∧x.2.2∈npR q.1
  |[],n,h=>by cases h
  |q::l,n,h=>by
    rw[insG,List.mem_append]at h
    rcases h with h|h
    · rw[insP,insT,List.mem_flatMap]at h
      obtain⟨p,hp,h⟩:=h
      rw[rowI,List.mem_map]at h
      obtain⟨i,hi,rfl⟩:=h
      exact⟨0,q,i,rfl,rfl,rfl,List.mem_range.1 hi,hp⟩
    · obtain⟨k,q',i,h1,h2,h3,h4,h5⟩:=insG_mem h
      exact⟨k+1,q',i,h1,by rw[h2];congr 1;omega,h3,h4,h5⟩
end Go.Proofs.YtollooimmfngjaaGreat
namespace Go.Proofs.YtollooimmfngjaaGreat
set_option linter.unusedVariables false
set_option linter.unusedSimpArgs false
open Go.ChangeShapes Go.WideShapes Go.ChangeAt Go.RowKit
def okArr (a:Arr):Prop:=a.1.size≤140737488351232∧a.2.length≤17592186044416
def okArrs (l:List Arr):Prop:=l.length≤17592186044416∧∀x∈l,okArr x
def okStms (l:List Stm):Prop:=l.length≤17592186044416∧∀x∈l,okS x
def okPrt (p:Prt):Prop:=okLps p.1∧okStms p.2
def okPrts (l:List Prt):Prop:=l.length≤17592186044416∧∀x∈l,okPrt x
def okPrg (g:Prg):Prop:=okArrs g.1∧okPrts g.2
section
variable {H : Type} {enc : TypeId × Value → H} {w : World} {spare : Nat → Bool} {held : Bool}
theorem opArr (n:Nat):OpF enc Tryz.prog w spare held n 94 rR okArr:=
  OpF.mono (f:=rR) (n:=n+1) (opStruct2 (enc:=enc) (w:=w) (spare:=spare) (held:=held) (t:=94) Tryz.underlying94 (by kernel_rfl) (opStr Tryz.underlying9) (opSlice (n:=n) 1 8 Tryz.underlying43 (by kernel_rfl) (by kernel_rfl) (by rfl) (opInt Tryz.underlying3))) (by omega) fun a h=>⟨h.1,h.2.1⟩
theorem opArrs (n:Nat):OpF enc Tryz.prog w spare held n 22 (fun l:List Arr=>[dRs l]) okArrs:=
  OpF.mono (f:=fun l:List Arr=>[dRs l]) (n:=n+1) (opSlice (enc:=enc) (w:=w) (spare:=spare) (held:=held) (n:=n) (t:=22) 2 40 Tryz.underlying22 (by kernel_rfl) (by kernel_rfl) (by rfl) (opArr n)) (by omega) fun a h=>h
theorem opStms (n:Nat):OpF enc Tryz.prog w spare held n 97 (fun l:List Stm=>[dMs l]) okStms:=
  OpF.mono (f:=fun l:List Stm=>[dMs l]) (n:=n+1) (opSlice (enc:=enc) (w:=w) (spare:=spare) (held:=held) (n:=n) (t:=97) 9 152 Tryz.underlying97 (by kernel_rfl) (by kernel_rfl) (by rfl) (opStm n)) (by omega) fun a h=>h
theorem opPrt (n:Nat):OpF enc Tryz.prog w spare held n 99 rP okPrt:=
  OpF.mono (f:=rP) (n:=n) (opStruct2 (enc:=enc) (w:=w) (spare:=spare) (held:=held) (n:=n) (t:=99) Tryz.underlying99 (by kernel_rfl) (opLoops n) (opStms n)) (by omega) fun a h=>h
theorem opPrts (n:Nat):OpF enc Tryz.prog w spare held n 23 (fun l:List Prt=>[dPts l]) okPrts:=
  OpF.mono (f:=fun l:List Prt=>[dPts l]) (n:=n+1) (opSlice (enc:=enc) (w:=w) (spare:=spare) (held:=held) (n:=n) (t:=23) 2 48 Tryz.underlying23 (by kernel_rfl) (by kernel_rfl) (by rfl) (opPrt n)) (by omega) fun a h=>h
theorem opPrg (n:Nat):OpF enc Tryz.prog w spare held n 25 rG okPrg:=
  OpF.mono (f:=rG) (n:=n) (opStruct2 (enc:=enc) (w:=w) (spare:=spare) (held:=held) (n:=n) (t:=25) Tryz.underlying25 (by kernel_rfl) (opArrs n) (opPrts n)) (by omega) fun a h=>h
end
end Go.Proofs.YtollooimmfngjaaGreat
namespace Go.Proofs.YtollooimmfngjaaGreat
set_option linter.unusedVariables false
set_option linter.unusedSimpArgs false
open Go.RowKit
def subZ (l:Int) (n:Nat):Int:=if (n:Int)≤l then l -n else -1
theorem subZ_yes {l:Int} {n:Nat} (h:(n:Int)≤l):subZ l n=l -n:=if_pos h
theorem subZ_no {l:Int} {n:Nat} (h:¬(n:Int)≤l):subZ l n= -1:=if_neg h
theorem subZ_neg {l:Int} {n:Nat} (h:subZ l n<0) (hl:0≤l):¬(n:Int)≤l:=fun h2=>by rw[subZ_yes h2]at h;omega
theorem subZ_pos {l:Int} {n:Nat} (h:¬subZ l n<0):(n:Int)≤l:=Classical.byContradiction fun h2=>by rw[subZ_no h2]at h;omega
theorem subZ_bd {l:Int} {n:Nat} (hl:0≤l∧l≤1048576): -1≤subZ l n∧subZ l n≤1048576:=by
  unfold subZ;split<;>omega
theorem sum_take {α:Type} (f:α→Nat) {l:List α} {i:Nat} {x:α} (h:l[i]?=some x):((l.take (i+1)).map f).sum=((l.take i).map f).sum+f x:=by
  rw[List.take_add_one,h,List.map_append,List.sum_append];simp
theorem sum_take_le {α:Type} (f:α→Nat):∀ {l:List α} {i:Nat},((l.take i).map f).sum≤(l.map f).sum
  |[],i=>by simp
  |y::l,0=>by simp
  |y::l,i+1=>by rw[List.take_succ_cons,List.map_cons,List.map_cons,List.sum_cons,List.sum_cons];have:=sum_take_le f (l:=l) (i:=i);omega
theorem szInts_fn (xs:List Int) {l:Int} (hl:0≤l∧l≤1048576) (hx:xs.length≤17592186044416):Fn Tryz.prog 88 [] [vD (dIs xs),nat1 l] (.o (nat1 (subZ l xs.length))) []:=by
  refine Fn.code0 Tryz.func88 rfl rfl rfl rfl ?_
  refine .r<|.c .a<|.r<|.c .m<|.c .m<|.c (.ln 3 1 8)<|.c .sb<|.c .a<|.nn<|.seq<|.r<|.c .m<|.c .ls<|.nn ?_
  refine .cD rfl (fun h10=>?_) (fun h10=>?_)
  · skip
    refine .r<|.c .a<|.nn<|.ret<|ks_r ?_
    refine kf_ret rfl ?_ nobox
    exact leafI (by first|(rw[subZ_yes (by omega)];done)|(rw[subZ_no (by omega)])|(rw[subZ_yes (by omega)];omega))
  · skip
    refine .skip<|ks_n<|.r<|.c .m<|.c .a<|.nn<|.ret ?_
    refine kf_ret rfl ?_ nobox
    exact leafI (by first|(rw[subZ_yes (by omega)];done)|(rw[subZ_no (by omega)])|(rw[subZ_yes (by omega)];omega))
theorem szAff_fn {x:Aff} {l:Int} (hl:0≤l∧l≤1048576) (hx:x.1.length≤17592186044416):Fn Tryz.prog 184 [] [ad (rA x),nat1 l] (.o (nat1 (subZ l x.1.length))) []:=by
  have hb:=subZ_bd (n:=x.1.length) hl
  refine Fn.code0 Tryz.func184 rfl rfl rfl rfl ?_
  refine .r<|.c .bp<|.c .a<|.r<|.c (.fP 0 0 false)<|.c (.l1 1)<|.c .m ?_
  refine .c (.cP [.tmp 6,.tmp 7] rfl rfl rfl rfl (szInts_fn x.1 hl hx) rfl) ?_
  refine .c .a<|.nn<|.seq<|.r<|.c .m<|.c .ls<|.nn ?_
  refine .cD rfl (fun h10=>?_) (fun h10=>?_)
  · skip
    refine .r<|.c .a<|.nn<|.ret<|ks_r ?_
    refine kf_ret rfl ?_ nobox
    exact leafI (subZ_no (subZ_neg h10 hl.1)).symm
  · skip
    refine .skip<|ks_n<|.r<|.c .m<|.c .a<|.nn<|.ret ?_
    refine kf_ret rfl ?_ nobox
    rfl
theorem szAffs_fn (xs:List Aff) {l:Int} (hl:0≤l∧l≤1048576) (hx:xs.length≤17592186044416) (hq:∀x∈xs,x.1.length≤17592186044416):Fn Tryz.prog 161 [] [vD (dAs xs),nat1 l] (.o (nat1 (subZ l (szAs xs)))) []:=by
  refine Fn.code0 Tryz.func161 rfl rfl rfl rfl ?_
  refine .r<|.c .a<|.r<|.c .m<|.c .m<|.c (.ln 182 2 32)<|.c .sb<|.c .a<|.nn<|.seq<|.r<|.c .m<|.c .ls<|.nn ?_
  refine .cD rfl (fun h11=>?_) (fun h11=>?_)
  · skip
    refine .r<|.c .a<|.nn<|.ret<|ks_r ?_
    refine kf_ret rfl ?_ nobox
    exact leafI (subZ_no (by rw[szAs];omega)).symm
  · skip
    refine .skip<|ks_n<|.seq<|.r<|.c .a<|.nn<|.block ?_
    refine .loopK (fun m σ=>(∃i:Nat,m=xs.length -i∧(i≤xs.length)∧(((xs.length+((xs.take i).map fun a=>a.1.length).sum:Nat):Int)≤l)∧σ=[eD 0 (dAs xs),eN 1 (l -(xs.length+((xs.take i).map fun a=>a.1.length).sum:Nat)),eN 4 0,eN 5 (i:Nat)])) [] ⟨0,rfl,by omega,by simp;omega,rfl⟩ ⟨kd,ks rfl (.dt (vI (by first|(simp;done)|(rw[hT,subZ_yes (by omega)];omega)))),kd,kd,trivial⟩ ?_
    rintro m σ ⟨i,hm0,hi,hF,rfl⟩
    refine .seq<|.r<|.c .m<|.c .m<|.c (.ln 182 2 32)<|.c .ls<|.nn ?_
    refine .cD rfl (fun h15=>?_) (fun h15=>?_)
    · skip
      obtain⟨x,hx1⟩:∃x,xs[i]?=some x:=⟨_,List.getElem?_eq_getElem (by omega)⟩
      have hT:=sum_take (fun a:Aff=>a.1.length) hx1
      refine .skip<|ks_n<|.seq<|.block<|.r<|.c .m<|.c .m<|.c (.xL 182 2 32) ?_
      refine .c (.lN 2)<|.c .m ?_
      refine .c (.cP [.tmp 21,.tmp 22] rfl rfl rfl rfl (szAff_fn (l:=l -(xs.length+((xs.take i).map fun a=>a.1.length).sum:Nat)) (by omega) (hq x (List.mem_of_getElem? hx1))) rfl) ?_
      refine .c .a<|.r<|.c .m<|.c .ls<|.nn ?_
      refine .cD rfl (fun h25=>?_) (fun h25=>?_)
      · skip
        refine .r<|.c .a<|.nn<|.ret<|kb_r<|ks_r<|kl_r<|kb_r<|ks_r ?_
        refine kf_ret rfl ?_ nobox
        exact leafI (subZ_no (by have h1:=subZ_neg h25 (by omega);have h2:=sum_take_le (fun a:Aff=>a.1.length) (l:=xs) (i:=i+1);rw[szAs];omega)).symm
      · skip
        have hP:=subZ_pos h25
        refine .skip<|kb_n<|ks_n<|.region<|.c .m<|.c .pl<|.c .a<|.nil ?_
        refine kl_k [] ⟨i+1,rfl,by omega,by rw[hT];have:=subZ_pos h25;omega,rfl⟩ ⟨kd,ks rfl (.dt (vI (by first|(simp;done)|(rw[hT,subZ_yes (by omega)];omega)))),kd,kd,trivial⟩
    · skip
      have hall:xs.take i=xs:=List.take_of_length_le (by omega)
      refine .exit<|ks_e<|kl_e<|kb_hit<|ks_n<|.r<|.c .m<|.c .a<|.nn<|.ret ?_
      refine kf_ret rfl ?_ nobox
      exact leafI (by rw[subZ_yes (by rw[szAs,←hall];rw[hall];rw[hall]at hF;omega),szAs,hall])
theorem szEs_take {l:List Ex} {i:Nat} {x:Ex} (h:l[i]?=some x):szEs (l.take (i+1))=szEs (l.take i)+szE x:=by
  have key:∀(a:List Ex) (x:Ex),szEs (a++[x])=szEs a+szE x:=by
    intro a x
    induction a with
    |nil=>simp[szEs]
    |cons y a ih=>rw[List.cons_append,szEs,szEs,ih];omega
  rw[List.take_add_one,h]
  exact key _ _
theorem szEs_le:∀ {l:List Ex} {i:Nat},szEs (l.take i)≤szEs l
  |[],i=>by simp
  |y::l,0=>by simp[szEs]
  |y::l,i+1=>by rw[List.take_succ_cons,szEs,szEs];have:=szEs_le (l:=l) (i:=i);omega
theorem szAcc_fn {a:Acc} {l:Int} (hl:0≤l∧l≤1048576) (h1:a.1.size≤140737488351232) (h2:a.2.length≤17592186044416) (h3:∀x∈a.2,x.1.length≤17592186044416):Fn Tryz.prog 162 [] [ad (rC a),nat1 l] (.o (nat1 (subZ l (szC a)))) []:=by
  have hsz:szC a=a.1.size+szAs a.2:=rfl
  refine Fn.code0 Tryz.func162 rfl rfl rfl rfl ?_
  refine .r<|.c .bp<|.c .a<|.r<|.c .m<|.c (.fP 0 0 false)<|.c (.l1 1) ?_
  refine .c (St1.lenS rfl rfl rfl rfl rfl (by kernel_rfl) rfl) ?_
  refine .c .sb<|.c .a<|.nn<|.seq<|.r<|.c .m<|.c .ls<|.nn ?_
  refine .cD rfl (fun h11=>?_) (fun h11=>?_)
  · skip
    refine .r<|.c .a<|.nn<|.ret<|ks_r ?_
    refine kf_ret rfl ?_ nobox
    exact leafI (subZ_no (by omega)).symm
  · skip
    refine .skip<|ks_n<|.seq ?_
    have hb:=subZ_bd (n:=szAs a.2) (l:=l -(a.1.size:Nat)) (by omega)
    refine .region<|.c (.fP 1 0 false)<|.c (.l1 1)<|.c .m ?_
    refine .c (.cP [.tmp 13,.tmp 14] rfl rfl rfl rfl (szAffs_fn a.2 (l:=l -(a.1.size:Nat)) (by omega) h2 h3) rfl) ?_
    refine .c .a<|.nn<|.seq<|.r<|.c .m<|.c .ls<|.nn ?_
    refine .cD rfl (fun h17=>?_) (fun h17=>?_)
    · skip
      refine .r<|.c .a<|.nn<|.ret<|ks_r ?_
      refine kf_ret rfl ?_ nobox
      exact leafI (subZ_no (by have:=subZ_neg h17 (by omega);omega)).symm
    · skip
      refine .skip<|ks_n<|.r<|.c .m<|.c .a<|.nn<|.ret ?_
      refine kf_ret rfl ?_ nobox
      exact leafI (by have:=subZ_pos h17;rw[subZ_yes this,subZ_yes (by omega)];omega)
theorem szExs_one (es:List Ex) {l:Int} (hl:0≤l∧l≤1048576) (hx:es.length≤17592186044416) (ih:∀x∈es,∀l:Int,0≤l∧l≤1048576→Fn Tryz.prog 163 [] [ad (rX x),nat1 l] (.o (nat1 (subZ l (szE x)))) []):Fn Tryz.prog 185 [] [vD (dEs es),nat1 l] (.o (nat1 (subZ l (es.length+szEs es)))) []:=by
  refine Fn.code0 Tryz.func185 rfl rfl rfl rfl ?_
  refine .r<|.c .a<|.r<|.c .m<|.c .m<|.c (.ln 185 7 112)<|.c .sb<|.c .a<|.nn<|.seq<|.r<|.c .m<|.c .ls<|.nn ?_
  refine .cD rfl (fun h11=>?_) (fun h11=>?_)
  · skip
    refine .r<|.c .a<|.nn<|.ret<|ks_r ?_
    refine kf_ret rfl ?_ nobox
    exact leafI (subZ_no (by omega)).symm
  · skip
    refine .skip<|ks_n<|.seq<|.r<|.c .a<|.nn<|.block ?_
    refine .loopK (fun m σ=>(∃i:Nat,m=es.length -i∧(i≤es.length)∧(((es.length+szEs (es.take i):Nat):Int)≤l)∧σ=[eD 0 (dEs es),eN 1 (l -(es.length+szEs (es.take i):Nat)),eN 4 0,eN 5 (i:Nat)])) [] ⟨0,rfl,by omega,by simp[szEs];omega,rfl⟩ ⟨kd,ks rfl (.dt (vI (by first|(simp[szEs];done)|(rw[hT,subZ_yes (by omega)];omega)))),kd,kd,trivial⟩ ?_
    rintro m σ ⟨i,hm0,hi,hF,rfl⟩
    refine .seq<|.r<|.c .m<|.c .m<|.c (.ln 185 7 112)<|.c .ls<|.nn ?_
    refine .cD rfl (fun h15=>?_) (fun h15=>?_)
    · skip
      obtain⟨x,hx1⟩:∃x,es[i]?=some x:=⟨_,List.getElem?_eq_getElem (by omega)⟩
      have hT:=szEs_take hx1
      refine .skip<|ks_n<|.seq<|.block<|.r<|.c .m<|.c .m ?_
      refine .c (.xL 185 7 112 rfl rfl rfl rfl rfl (rE_at hx1)) ?_
      refine .c (.lN 7)<|.c .m ?_
      refine .c (.cP [.tmp 21,.tmp 22] rfl rfl rfl rfl (ih x (List.mem_of_getElem? hx1) (l -(es.length+szEs (es.take i):Nat)) (by omega)) rfl) ?_
      refine .c .a<|.r<|.c .m<|.c .ls<|.nn ?_
      refine .cD rfl (fun h25=>?_) (fun h25=>?_)
      · skip
        refine .r<|.c .a<|.nn<|.ret<|kb_r<|ks_r<|kl_r<|kb_r<|ks_r ?_
        refine kf_ret rfl ?_ nobox
        exact leafI (subZ_no (by have h1:=subZ_neg h25 (by omega);have h2:=szEs_le (l:=es) (i:=i+1);omega)).symm
      · skip
        have hP:=subZ_pos h25
        refine .skip<|kb_n<|ks_n<|.region<|.c .m<|.c .pl<|.c .a<|.nil ?_
        refine kl_k [] ⟨i+1,rfl,by omega,by rw[hT];have:=subZ_pos h25;omega,rfl⟩ ⟨kd,ks rfl (.dt (vI (by first|(simp[szEs];done)|(rw[hT,subZ_yes (by omega)];omega)))),kd,kd,trivial⟩
    · skip
      have hall:es.take i=es:=List.take_of_length_le (by omega)
      refine .exit<|ks_e<|kl_e<|kb_hit<|ks_n<|.r<|.c .m<|.c .a<|.nn<|.ret ?_
      refine kf_ret rfl ?_ nobox
      exact leafI (by rw[hall]at hF ⊢;rw[subZ_yes hF])
theorem szEx_one (e:Ex) {l:Int} (hl:0≤l∧l≤1048576) (h0:e.i.1.length≤17592186044416) (h1:e.r.1.size≤140737488351232) (h2:e.r.2.length≤17592186044416) (h3:∀x∈e.r.2,x.1.length≤17592186044416) (h4:e.ks.length≤17592186044416) (ih:∀x∈e.ks,∀l:Int,0≤l∧l≤1048576→Fn Tryz.prog 163 [] [ad (rX x),nat1 l] (.o (nat1 (subZ l (szE x)))) []):Fn Tryz.prog 163 [] [ad (rX e),nat1 l] (.o (nat1 (subZ l (szE e)))) []:=by
  have hsz:=szE_eq e
  have hb1:=subZ_bd (n:=e.i.1.length) hl
  refine Fn.code0 Tryz.func163 rfl rfl rfl rfl ?_
  refine .r<|.c .bp<|.c .a<|.r<|.c (.fP 2 1 true)<|.c (.lN 2)<|.c .m ?_
  refine .c (.cP [.tmp 6,.tmp 7] rfl rfl rfl rfl (szAff_fn hl h0) rfl) ?_
  refine .c .a<|.nn<|.seq<|.r<|.c .m<|.c .ls<|.nn ?_
  refine .cD rfl (fun h10=>?_) (fun h10=>?_)
  · skip
    refine .r<|.c .a<|.nn<|.ret<|ks_r ?_
    refine kf_ret rfl ?_ nobox
    exact leafI (subZ_no (by have:=subZ_neg h10 hl.1;omega)).symm
  · skip
    refine .skip<|ks_n<|.seq ?_
    have hp1:=subZ_pos h10
    have hb2:=subZ_bd (n:=szC e.r) (l:=subZ l e.i.1.length) (by omega)
    refine .region<|.c (.fP 4 1 true)<|.c (.lN 2)<|.c .m ?_
    refine .c (.cP [.tmp 12,.tmp 13] rfl rfl rfl rfl (szAcc_fn (a:=e.r) (l:=subZ l e.i.1.length) (by omega) h1 h2 h3) rfl) ?_
    refine .c .a<|.nn<|.seq<|.r<|.c .m<|.c .ls<|.nn ?_
    refine .cD rfl (fun h16=>?_) (fun h16=>?_)
    · skip
      refine .r<|.c .a<|.nn<|.ret<|ks_r ?_
      refine kf_ret rfl ?_ nobox
      exact leafI (subZ_no (by have h6:=subZ_neg h16 (by omega);rw[subZ_yes hp1]at h6;omega)).symm
    · skip
      refine .skip<|ks_n<|.seq ?_
      have hp2:=subZ_pos h16
      have hb3:=subZ_bd (n:=e.ks.length+szEs e.ks) (l:=subZ (subZ l e.i.1.length) (szC e.r)) (by omega)
      have e1:=subZ_yes hp1
      have e2:=subZ_yes hp2
      refine .region<|.c (.fP 6 0 false)<|.c (.l1 1)<|.c .m ?_
      refine .c (.cP [.tmp 18,.tmp 19] rfl rfl rfl rfl (szExs_one e.ks (l:=subZ (subZ l e.i.1.length) (szC e.r)) (by omega) h4 ih) rfl) ?_
      refine .c .a<|.nn<|.seq<|.r<|.c .m<|.c .ls<|.nn ?_
      refine .cD rfl (fun h22=>?_) (fun h22=>?_)
      · skip
        refine .r<|.c .a<|.nn<|.ret<|ks_r ?_
        refine kf_ret rfl ?_ nobox
        exact leafI (subZ_no (by have h6:=subZ_neg h22 (by omega);omega)).symm
      · skip
        refine .skip<|ks_n<|.r<|.c .m<|.c .a<|.nn<|.ret ?_
        refine kf_ret rfl ?_ nobox
        exact leafI (by have h6:=subZ_pos h22;rw[subZ_yes h6,e2,e1,subZ_yes (l:=l) (n:=szE e) (by omega)];omega)
theorem szEx_fn:∀e:Ex,okE e→∀l:Int,0≤l∧l≤1048576→Fn Tryz.prog 163 [] [ad (rX e),nat1 l] (.o (nat1 (subZ l (szE e)))) []:=by
  intro e
  induction e using Ex.rec' with
  |h e ih=>
    intro ho l hl
    obtain⟨h1,h2,h3,h4⟩:=okE_eq.1 ho
    exact szEx_one e hl h1 h2.1 h2.2.1 h2.2.2 h3 fun x hx l hl=>ih x hx (h4 x hx) l hl
theorem szStm_fn {s:Stm} (ho:okS s) {l:Int} (hl:0≤l∧l≤1048576)  :Fn Tryz.prog 129 [] [ad (rS s),nat1 l] (.o (nat1 (subZ l (szS s)))) []:=by
  have hsz:szS s=szC s.1+szE s.2:=rfl
  have hb1:=subZ_bd (n:=szC s.1) hl
  obtain⟨⟨ho1,ho2,ho3⟩,ho4⟩:=ho
  refine Fn.code0 Tryz.func129 rfl rfl rfl rfl ?_
  refine .r<|.c .bp<|.c .a<|.r<|.c (.fP 0 1 true)<|.c (.lN 2)<|.c .m ?_
  refine .c (.cP [.tmp 6,.tmp 7] rfl rfl rfl rfl (szAcc_fn hl ho1 ho2 ho3) rfl) ?_
  refine .c .a<|.nn<|.seq<|.r<|.c .m<|.c .ls<|.nn ?_
  refine .cD rfl (fun h10=>?_) (fun h10=>?_)
  · skip
    refine .r<|.c .a<|.nn<|.ret<|ks_r ?_
    refine kf_ret rfl ?_ nobox
    exact leafI (subZ_no (by have:=subZ_neg h10 hl.1;omega)).symm
  · skip
    refine .skip<|ks_n<|.seq ?_
    have hp1:=subZ_pos h10
    have hb2:=subZ_bd (n:=szE s.2) (l:=subZ l (szC s.1)) (by omega)
    have e1:=subZ_yes hp1
    refine .region<|.c (.fP 2 6 true)<|.c (.lN 7)<|.c .m ?_
    refine .c (.cP [.tmp 12,.tmp 13] rfl rfl rfl rfl (szEx_fn s.2 ho4 (subZ l (szC s.1)) (by omega)) rfl) ?_
    refine .c .a<|.nn<|.seq<|.r<|.c .m<|.c .ls<|.nn ?_
    refine .cD rfl (fun h16=>?_) (fun h16=>?_)
    · skip
      refine .r<|.c .a<|.nn<|.ret<|ks_r ?_
      refine kf_ret rfl ?_ nobox
      exact leafI (subZ_no (by have h6:=subZ_neg h16 (by omega);omega)).symm
    · skip
      refine .skip<|ks_n<|.r<|.c .m<|.c .a<|.nn<|.ret ?_
      refine kf_ret rfl ?_ nobox
      exact leafI (by have h6:=subZ_pos h16;rw[subZ_yes h6,e1,subZ_yes (l:=l) (n:=szS s) (by omega)];omega)
def tyMk (P:Program) (t:TypeId):Option (TypeId×Nat×Nat×List Value):=
  match P.underlying t with
  |some (.slice e)=>(P.info? e).bind fun i=>i.zero.map fun z=>(e,i.size,i.bytes,z.cells.toList)
  |_=>none
theorem tyMk_out {P:Program} {t e:TypeId} {sz by':Nat} {zs:List Value} (h:tyMk P t=some (e,sz,by',zs)):P.underlying t=some (.slice e)∧∃i z,P.info? e=some i∧i.zero=some z∧i.size=sz∧i.bytes=by'∧z.cells.toList=zs:=by
  unfold tyMk at h
  cases hu:P.underlying t with
  |none=>simp[hu]at h
  |some d=>
    cases d<;>simp only[hu,reduceCtorEq]at h
    case slice e'=>
      cases hi:P.info? e' with
      |none=>rw[hi]at h;cases h
      |some i=>
        cases hz:i.zero with
        |none=>rw[hi]at h;simp[hz]at h
        |some z=>
          rw[hi]at h
          simp only[Option.bind_some,hz,Option.map_some,Option.some.injEq,Prod.mk.injEq]at h
          obtain⟨rfl,h1,h2,h3⟩:=h
          exact⟨rfl,i,z,hi,hz,h1,h2,h3⟩
theorem made_at {z:Value} {n i j sz:Nat} {u:Value} (hs:z.cells.toList.length=sz) (hi:i<n) (hu:z.cells.toList[j]?=some u):(madeCells z.cells (n *sz))[i *sz+j]?=some u:=by
  have hj:j<sz:=by rw[←hs];exact(List.getElem?_eq_some_iff.1 hu).1
  have hlt:i *sz+j<n *sz:=by
    have:=Nat.mul_le_mul_right sz (show i+1≤n by omega)
    rw[Nat.add_mul]at this;omega
  have hz:z.cells.size=sz:=by rw[←hs,Array.length_toList]
  have hm:(i *sz+j) % sz=j:=by rw[Nat.add_comm,Nat.add_mul_mod_self_right,Nat.mod_eq_of_lt hj]
  rw[Array.getElem?_toList]at hu
  simp[madeCells,hlt,hz,hm,Array.getElem!_eq_getD,hu,Array.getD_eq_getD_getElem?]
section
variable {P : Program} {n : Nat} {ops : Array Oper} {o : Oper} {σ : St} {d : Nat}
theorem St1.mk (k':Nat) (e:TypeId) (sz by':Nat) (zs:List Value) {t:TypeId} {x y:Operand} {m:Nat} (h4:(o.op,o.guard,o.dst,Nat.blt d n)=(Op.makeSlice t x y,none,some d,true)) (hx:ev σ x=some (.o (nat1 (m:Nat)))) (hy:ev σ y=some (.o (nat1 (m:Nat)))) (hm:m≤1073741824) (hz:(Nat.beq zs.length sz&&zs.all (·.oneCell')&&Nat.ble by' 65536)=true)
    (hf:(lk σ (.u k'),Nat.ble 100 k')=(.no,true)) (ht:tyMk P t=some (e,sz,by',zs):=by kernel_rfl):
    St1 P n ops o σ (.u k'::(rd x++rd y)) [.t d,.u k',.b k',.b k'] ((.t d,.v (.o (.c (.own k' sz m))))::(.u k',.u)::(.b k',.b e sz (dR (List.replicate m (zs.map D.val))))::(.b k',.no)::σ):=by
  simp only[Prod.mk.injEq]at h4 hf
  obtain⟨ho,hg,hd,hn⟩:=h4
  simp only[Bool.and_eq_true]at hz
  have hzl:zs.length=sz:=Nat.eq_of_beq_eq_true hz.1.1
  have hz1:∀u∈zs,u.oneCell'=true:=fun u hu=>List.all_eq_true.1 hz.1.2 u hu
  have hby:=Nat.le_of_ble_eq_true hz.2
  have hrow:∀ {i:Nat} {r:List C},(dR (List.replicate m (zs.map D.val)))[i]?=some r→i<m∧r=zs.map fun u=>C.d (.val u):=fun {i r} h=>by
    rw[dR,List.map_replicate,List.map_map]at h
    have hi:i<m:=by have:=(List.getElem?_eq_some_iff.1 h).1;simpa using this
    rw[List.getElem?_replicate,if_pos hi]at h
    exact⟨hi,(Option.some.inj h).symm⟩
  refine St1.place hg hd hn hf.1 hf.2 (okk_self hf.2) rfl fun E bx τ a w hR hs=>?_
  obtain⟨hu,i,z,hi,hzz,hs1,hs2,hs3⟩:=tyMk_out ht
  have hbm:i.bytes *m≤281474976710656:=by
    have:=Nat.mul_le_mul (show i.bytes≤65536 by omega) hm;omega
  have hb':(i.bytes:Int) *(m:Int)≤281474976710656:=by
    have h:((i.bytes *m:Nat):Int)≤281474976710656:=by omega
    rwa[Int.natCast_mul]at h
  have hr:=run_make (P:=P) w t e i z hu hi hzz .i64 .i64 (m:Int) (m:Int) (by omega) (Int.le_refl _) hb' (by omega)
  simp only[Int.toNat_natCast,hs1]at hr
  have hsz:(madeCells z.cells (m *sz)).size=m *sz:=size_madeCells _ _
  refine⟨.slice (some ⟨w.heap.size,0,none⟩) m m,w.alloc (.cells (madeCells z.cells (m *sz)) e),w.heap.size,w.heap.size,madeCells z.cells (m *sz),?_,.inr (Nat.le_refl _),World.grownBy_alloc w _ _,.inl rfl,heap_alloc_new w _,?_,fun i r hi=>?_,fun i r j c hi hj=>?_,fun r hr' c hc l hl=>?_,fun bx' al B w2 hbx=>⟨rfl,fun _=>⟨m,by rw[hbx],Nat.le_refl _,by unfold maxLen;omega,by rw[hbx,hsz]⟩⟩⟩
  ·simp only[execOp,ho,ev_val hx (rd_l hR) hs,ev_val hy (rd_r hR) hs,Sem.run_bind,hr];rfl
  ·rw[hsz,dR,List.length_map,List.length_replicate];exact Nat.le_refl _
  ·rw[(hrow hi).2,List.length_map,hzl]
  · obtain⟨h1,rfl⟩:=hrow hi
    rw[List.getElem?_map]at hj
    cases hq:zs[j]? with
    |none=>rw[hq]at hj;cases hj
    |some u=>
      rw[hq]at hj;cases hj
      exact⟨u,made_at (by rw[hs3,hzl]) h1 (by rw[hs3];exact hq),.val _ (hz1 u (List.mem_of_getElem? hq))⟩
  · obtain⟨i,hi⟩:=List.mem_iff_getElem?.1 hr'
    obtain⟨_,rfl⟩:=hrow hi
    obtain⟨u,_,rfl⟩:=List.mem_map.1 hc
    cases hl
end
theorem eqInts_f (xs ys:List Int) (hx:xs.length≤1099511627776):Fn Tryz.prog 116 [] [vD (dIs xs),vD (dIs ys)] (.o (bo1 (eqF (fun x y:Int=>decide (x=y)) xs ys))) []:=by
 refine Fn.code0 Tryz.func116 rfl rfl rfl rfl ?_
 refine .r<|.c .a<|.nn<|.seq<|.r<|.c .m<|.c (.ln 3 1 8)<|.c .m<|.c (.ln 3 1 8)<|.c .ne<|.nn ?_
 refine .cND rfl (fun h10=>?_) (fun h10=>?_)
 ·skip
  refine .r<|.c .a<|.nn<|.ret<|ks_r ?_
  refine kf_ret rfl ?_ nobox
  exact leafB (eqF_len (by omega)).symm
 ·skip
  refine .skip<|ks_n<|.seq<|.r<|.c .a<|.nn<|.block ?_
  refine .loopK (fun m σ=>(∃i:Nat,m=xs.length -i∧(i≤xs.length)∧(eqF (fun x y:Int=>decide (x=y)) xs ys=eqF (fun x y:Int=>decide (x=y)) (xs.drop i) (ys.drop i))∧σ=[eD 0 (dIs xs),eD 1 (dIs ys),eT 4 false,eN 5 (i:Nat)])) [] ⟨0,rfl,by omega,by simp,rfl⟩ ⟨kd,kd,kd,kd,trivial⟩ ?_
  rintro m σ ⟨i,hm0,hi,hF,rfl⟩
  refine .seq<|.r<|.c .m<|.c .m<|.c (.ln 3 1 8)<|.c .ls<|.nn ?_
  refine .cD rfl (fun h14=>?_) (fun h14=>?_)
  ·skip
   obtain⟨x,hx1⟩:∃x,xs[i]?=some x:=⟨_,List.getElem?_eq_getElem (by omega)⟩
   obtain⟨y,hy1⟩:∃x,ys[i]?=some x:=⟨_,List.getElem?_eq_getElem (by omega)⟩
   refine .skip<|ks_n<|.seq<|.block<|.seq ?_
   refine ACode.drawK (by kernel_rfl) (by kernel_rfl) ?_
   refine .c .m<|.c .m ?_
   refine .c (.xL 3 1 8 rfl rfl rfl rfl rfl (map_at hx1)) ?_
   refine .c (.l1 1)<|.c .m<|.c .m ?_
   refine .c (.xL 3 1 8 rfl rfl rfl rfl rfl (map_at hy1)) ?_
   refine .c (.l1 1)<|.c .ne ?_
   refine .nil ⟨by kernel_rfl,?_⟩
   refine ks_n ?_
   refine .cND rfl (fun h25=>?_) (fun h25=>?_)
   ·skip
    have g:decide (x=y)=false:=by first|assumption|exact decide_eq_false (by assumption)|(simp;omega)
    refine .r<|.c .a<|.nn<|.ret<|kb_r<|ks_r<|kl_r<|kb_r<|ks_r ?_
    refine kf_ret rfl ?_ nobox
    exact leafB (by rw[hF,eqF_drop hx1 hy1,g];rfl)
   ·skip
    have g:decide (x=y)=true:=by first|assumption|exact decide_eq_true (by assumption)|(simp;omega)
    refine .skip<|kb_n<|ks_n<|.region<|.c .m<|.c .pl<|.c .a<|.nil ?_
    refine kl_k [] ⟨i+1,rfl,by omega,by rw[hF,eqF_drop hx1 hy1,g,Bool.true_and],rfl⟩ ⟨kd,kd,kd,kd,trivial⟩
  ·skip
   refine .exit<|ks_e<|kl_e<|kb_hit<|ks_n<|.r<|.c .a<|.nn<|.ret ?_
   refine kf_ret rfl ?_ nobox
   exact leafB (by rw[hF,show i=xs.length by omega,eqF_end (by omega)])
theorem eqInts_fn (xs ys:List Int) (hx:xs.length≤1099511627776):Fn Tryz.prog 116 [] [vD (dIs xs),vD (dIs ys)] (.o (bo1 (decide (xs=ys)))) []:=by
  rw[←eqF_dec];exact eqInts_f xs ys hx
theorem eqAff_fn (x y:Aff) (hx:x.1.length≤1099511627776):Fn Tryz.prog 194 [] [ad (rA x),ad (rA y)] (.o (bo1 (decide (x=y)))) []:=by
 refine Fn.code0 Tryz.func194 rfl rfl rfl rfl ?_
 refine .r<|.c .bp<|.c .bp<|.c .a<|.nn<|.seq<|.r<|.c (.fP 0 0 false)<|.c (.l1 1)<|.c (.fP 0 0 false)<|.c (.l1 1) ?_
 refine .c (.cP [.tmp 6,.tmp 8] rfl rfl rfl rfl (eqInts_fn _ _ hx) rfl) ?_
 refine .c .nt<|.nn ?_
 refine ACode.condT rfl (fun h10=>?_) (fun h10=>?_)
 ·try simp only[zs]at h10
  refine .r<|.c .a<|.nn<|.ret<|ks_r ?_
  refine kf_ret rfl ?_ nobox
  exact leafB (by rw[Bool.eq_iff_iff];simp[Prod.ext_iff, *])
 ·try simp only[zs]at h10
  refine .skip<|ks_n<|.seq<|.r<|.c (.fP 1 0 false)<|.c (.l1 1)<|.c (.fP 1 0 false)<|.c (.l1 1)<|.c .ne<|.nn ?_
  refine .cND rfl (fun h15=>?_) (fun h15=>?_)
  ·skip
   refine .r<|.c .a<|.nn<|.ret<|ks_r ?_
   refine kf_ret rfl ?_ nobox
   exact leafB (by rw[Bool.eq_iff_iff];simp[Prod.ext_iff, *])
  ·skip
   refine .skip<|ks_n<|.r<|.c .a<|.nn<|.ret ?_
   refine kf_ret rfl ?_ nobox
   exact leafB (by rw[Bool.eq_iff_iff];simp[Prod.ext_iff, *])
theorem eqAffs_f (xs ys:List Aff) (hx:xs.length≤1099511627776) (hq:∀x∈xs,x.1.length≤1099511627776):Fn Tryz.prog 181 [] [vD (dAs xs),vD (dAs ys)] (.o (bo1 (eqF (fun x y:Aff=>decide (x=y)) xs ys))) []:=by
 refine Fn.code0 Tryz.func181 rfl rfl rfl rfl ?_
 refine .r<|.c .a<|.nn<|.seq<|.r<|.c .m<|.c (.ln 61 2 32)<|.c .m<|.c (.ln 61 2 32)<|.c .ne<|.nn ?_
 refine .cND rfl (fun h10=>?_) (fun h10=>?_)
 ·skip
  refine .r<|.c .a<|.nn<|.ret<|ks_r ?_
  refine kf_ret rfl ?_ nobox
  exact leafB (eqF_len (by omega)).symm
 ·skip
  refine .skip<|ks_n<|.seq<|.r<|.c .a<|.nn<|.block ?_
  refine .loopK (fun m σ=>(∃i:Nat,m=xs.length -i∧(i≤xs.length)∧(eqF (fun x y:Aff=>decide (x=y)) xs ys=eqF (fun x y:Aff=>decide (x=y)) (xs.drop i) (ys.drop i))∧σ=[eD 0 (dAs xs),eD 1 (dAs ys),eT 4 false,eN 5 (i:Nat)])) [] ⟨0,rfl,by omega,by simp,rfl⟩ ⟨kd,kd,kd,kd,trivial⟩ ?_
  rintro m σ ⟨i,hm0,hi,hF,rfl⟩
  refine .seq<|.r<|.c .m<|.c .m<|.c (.ln 61 2 32)<|.c .ls<|.nn ?_
  refine .cD rfl (fun h14=>?_) (fun h14=>?_)
  ·skip
   obtain⟨x,hx1⟩:∃x,xs[i]?=some x:=⟨_,List.getElem?_eq_getElem (by omega)⟩
   obtain⟨y,hy1⟩:∃x,ys[i]?=some x:=⟨_,List.getElem?_eq_getElem (by omega)⟩
   refine .skip<|ks_n<|.seq<|.block<|.seq ?_
   refine ACode.drawK (by kernel_rfl) (by kernel_rfl) ?_
   refine .c .m<|.c .m ?_
   refine .c (.xL 61 2 32 rfl rfl rfl rfl rfl (map_at hx1)) ?_
   refine .c (.lN 2)<|.c .m<|.c .m ?_
   refine .c (.xL 61 2 32 rfl rfl rfl rfl rfl (map_at hy1)) ?_
   refine .c (.lN 2) ?_
   refine .c (.cP [.tmp 20,.tmp 24] rfl rfl rfl rfl (eqAff_fn x y (hq x (List.mem_of_getElem? hx1))) rfl) ?_
   refine .c .nt ?_
   refine .nil ⟨by kernel_rfl,?_⟩
   refine ks_n ?_
   refine ACode.condT rfl (fun h26=>?_) (fun h26=>?_)
   ·try simp only[zs]at h26
    have g:decide (x=y)=false:=by first|assumption|exact decide_eq_false (by assumption)|(simp;omega)
    refine .r<|.c .a<|.nn<|.ret<|kb_r<|ks_r<|kl_r<|kb_r<|ks_r ?_
    refine kf_ret rfl ?_ nobox
    exact leafB (by rw[hF,eqF_drop hx1 hy1,g];rfl)
   ·try simp only[zs]at h26
    have g:decide (x=y)=true:=by first|assumption|exact decide_eq_true (by assumption)|(simp;omega)
    refine .skip<|kb_n<|ks_n<|.region<|.c .m<|.c .pl<|.c .a<|.nil ?_
    refine kl_k [] ⟨i+1,rfl,by omega,by rw[hF,eqF_drop hx1 hy1,g,Bool.true_and],rfl⟩ ⟨kd,kd,kd,kd,trivial⟩
  ·skip
   refine .exit<|ks_e<|kl_e<|kb_hit<|ks_n<|.r<|.c .a<|.nn<|.ret ?_
   refine kf_ret rfl ?_ nobox
   exact leafB (by rw[hF,show i=xs.length by omega,eqF_end (by omega)])
theorem eqAffs_fn (xs ys:List Aff) (hx:xs.length≤1099511627776) (hq:∀x∈xs,x.1.length≤1099511627776):Fn Tryz.prog 181 [] [vD (dAs xs),vD (dAs ys)] (.o (bo1 (decide (xs=ys)))) []:=by
  rw[←eqF_dec];exact eqAffs_f xs ys hx hq
theorem eqAcc_fn (a b:Acc) (h:szC a≤1073741824):Fn Tryz.prog 182 [] [ad (rC a),ad (rC b)] (.o (bo1 (sameC a b))) []:=by
 rw[szC]at h
 have h2:=szAs_len a.2
 refine Fn.code0 Tryz.func182 rfl rfl rfl rfl ?_
 refine .r<|.c .bp<|.c .bp<|.c .a<|.nn<|.seq<|.r<|.c (.fP 0 0 false)<|.c (.l1 1)<|.c (.fP 0 0 false)<|.c (.l1 1) ?_
 refine .c (St1.neS rfl rfl rfl)<|.nn ?_
 refine ACode.condT rfl (fun h9=>?_) (fun h9=>?_)
 ·try simp only[zs]at h9
  refine .r<|.c .a<|.nn<|.ret<|ks_r ?_
  refine kf_ret rfl ?_ nobox
  exact leafB (by rw[sameC];first|(simp[*];done)|grind)
 ·try simp only[zs]at h9
  refine .skip<|ks_n<|.seq<|.r<|.c (.fP 1 0 false)<|.c (.l1 1)<|.c (.fP 1 0 false)<|.c (.l1 1) ?_
  refine .c (.cP [.tmp 11,.tmp 13] rfl rfl rfl rfl (eqAffs_fn _ _ (by omega) (fun x hx=>by have:=szAs_mem hx;omega)) rfl) ?_
  refine .c .nt<|.nn ?_
  refine ACode.condT rfl (fun h15=>?_) (fun h15=>?_)
  ·try simp only[zs]at h15
   refine .r<|.c .a<|.nn<|.ret<|ks_r ?_
   refine kf_ret rfl ?_ nobox
   exact leafB (by rw[sameC];first|(simp[*];done)|grind)
  ·try simp only[zs]at h15
   refine .skip<|ks_n<|.r<|.c .a<|.nn<|.ret ?_
   refine kf_ret rfl ?_ nobox
   exact leafB (by rw[sameC];first|(simp[*];done)|grind)
theorem eqExs_one (xs ys:List Ex) (hx:xs.length≤1099511627776) (ih:∀x∈xs,∀y,Fn Tryz.prog 183 [] [ad (rX x),ad (rX y)] (.o (bo1 (sameE x y))) []):Fn Tryz.prog 195 [] [vD (dEs xs),vD (dEs ys)] (.o (bo1 (eqF sameE xs ys))) []:=by
 refine Fn.code0 Tryz.func195 rfl rfl rfl rfl ?_
 refine .r<|.c .a<|.nn<|.seq<|.r<|.c .m<|.c (.ln 64 7 112)<|.c .m<|.c (.ln 64 7 112)<|.c .ne<|.nn ?_
 refine .cND rfl (fun h10=>?_) (fun h10=>?_)
 ·skip
  refine .r<|.c .a<|.nn<|.ret<|ks_r ?_
  refine kf_ret rfl ?_ nobox
  exact leafB (eqF_len (by omega)).symm
 ·skip
  refine .skip<|ks_n<|.seq<|.r<|.c .a<|.nn<|.block ?_
  refine .loopK (fun m σ=>(∃i:Nat,m=xs.length -i∧(i≤xs.length)∧(eqF sameE xs ys=eqF sameE (xs.drop i) (ys.drop i))∧σ=[eD 0 (dEs xs),eD 1 (dEs ys),eT 4 false,eN 5 (i:Nat)])) [] ⟨0,rfl,by omega,by simp,rfl⟩ ⟨kd,kd,kd,kd,trivial⟩ ?_
  rintro m σ ⟨i,hm0,hi,hF,rfl⟩
  refine .seq<|.r<|.c .m<|.c .m<|.c (.ln 64 7 112)<|.c .ls<|.nn ?_
  refine .cD rfl (fun h14=>?_) (fun h14=>?_)
  ·skip
   obtain⟨x,hx1⟩:∃x,xs[i]?=some x:=⟨_,List.getElem?_eq_getElem (by omega)⟩
   obtain⟨y,hy1⟩:∃x,ys[i]?=some x:=⟨_,List.getElem?_eq_getElem (by omega)⟩
   refine .skip<|ks_n<|.seq<|.block<|.seq ?_
   refine ACode.drawK (by kernel_rfl) (by kernel_rfl) ?_
   refine .c .m<|.c .m ?_
   refine .c (.xL 64 7 112 rfl rfl rfl rfl rfl (rE_at hx1)) ?_
   refine .c (.lN 7)<|.c .m<|.c .m ?_
   refine .c (.xL 64 7 112 rfl rfl rfl rfl rfl (rE_at hy1)) ?_
   refine .c (.lN 7) ?_
   refine .c (.cP [.tmp 20,.tmp 24] rfl rfl rfl rfl (ih x (List.mem_of_getElem? hx1) y) rfl) ?_
   refine .c .nt ?_
   refine .nil ⟨by kernel_rfl,?_⟩
   refine ks_n ?_
   refine ACode.condT rfl (fun h26=>?_) (fun h26=>?_)
   ·try simp only[zs]at h26
    have g:sameE x y=false:=by first|assumption|exact decide_eq_false (by assumption)|(simp;omega)
    refine .r<|.c .a<|.nn<|.ret<|kb_r<|ks_r<|kl_r<|kb_r<|ks_r ?_
    refine kf_ret rfl ?_ nobox
    exact leafB (by rw[hF,eqF_drop hx1 hy1,g];rfl)
   ·try simp only[zs]at h26
    have g:sameE x y=true:=by first|assumption|exact decide_eq_true (by assumption)|(simp;omega)
    refine .skip<|kb_n<|ks_n<|.region<|.c .m<|.c .pl<|.c .a<|.nil ?_
    refine kl_k [] ⟨i+1,rfl,by omega,by rw[hF,eqF_drop hx1 hy1,g,Bool.true_and],rfl⟩ ⟨kd,kd,kd,kd,trivial⟩
  ·skip
   refine .exit<|ks_e<|kl_e<|kb_hit<|ks_n<|.r<|.c .a<|.nn<|.ret ?_
   refine kf_ret rfl ?_ nobox
   exact leafB (by rw[hF,show i=xs.length by omega,eqF_end (by omega)])
theorem eqEx_one (x y:Ex) (h0:x.i.1.length≤1073741824) (h1:szC x.r≤1073741824) (h2:x.ks.length≤1099511627776) (ih:∀a∈x.ks,∀b,Fn Tryz.prog 183 [] [ad (rX a),ad (rX b)] (.o (bo1 (sameE a b))) []):Fn Tryz.prog 183 [] [ad (rX x),ad (rX y)] (.o (bo1 (sameE x y))) []:=by
 refine Fn.code0 Tryz.func183 rfl rfl rfl rfl ?_
 refine .r<|.c .bp<|.c .bp<|.c .a<|.nn<|.seq<|.r<|.c (.fP 0 0 false)<|.c (.l1 1)<|.c (.fP 0 0 false)<|.c (.l1 1)<|.c .ne<|.nn ?_
 refine .cND rfl (fun h9=>?_) (fun h9=>?_)
 ·skip
  refine .r<|.c .a<|.nn<|.ret<|ks_r ?_
  refine kf_ret rfl ?_ nobox
  exact leafB (by rw[sameE_eq,←eqF_sameE];first|(simp[*];done)|grind)
 ·skip
  refine .skip<|ks_n<|.seq<|.r<|.c (.fP 1 0 false)<|.c (.l1 1)<|.c (.fP 1 0 false)<|.c (.l1 1)<|.c .ne<|.nn ?_
  refine .cND rfl (fun h14=>?_) (fun h14=>?_)
  ·skip
   refine .r<|.c .a<|.nn<|.ret<|ks_r ?_
   refine kf_ret rfl ?_ nobox
   exact leafB (by rw[sameE_eq,←eqF_sameE];first|(simp[*];done)|grind)
  ·skip
   refine .skip<|ks_n<|.seq<|.r<|.c (.fP 2 1 true)<|.c (.lN 2)<|.c (.fP 2 1 true)<|.c (.lN 2) ?_
   refine .c (.cP [.tmp 16,.tmp 18] rfl rfl rfl rfl (eqAff_fn _ _ (by omega)) rfl) ?_
   refine .c .nt<|.nn ?_
   refine ACode.condT rfl (fun h20=>?_) (fun h20=>?_)
   ·try simp only[zs]at h20
    refine .r<|.c .a<|.nn<|.ret<|ks_r ?_
    refine kf_ret rfl ?_ nobox
    exact leafB (by rw[sameE_eq,←eqF_sameE];first|(simp[*];done)|grind)
   ·try simp only[zs]at h20
    refine .skip<|ks_n<|.seq<|.r<|.c (.fP 4 1 true)<|.c (.lN 2)<|.c (.fP 4 1 true)<|.c (.lN 2) ?_
    refine .c (.cP [.tmp 22,.tmp 24] rfl rfl rfl rfl (eqAcc_fn _ _ h1) rfl) ?_
    refine .c .nt<|.nn ?_
    refine ACode.condT rfl (fun h26=>?_) (fun h26=>?_)
    ·try simp only[zs]at h26
     refine .r<|.c .a<|.nn<|.ret<|ks_r ?_
     refine kf_ret rfl ?_ nobox
     exact leafB (by rw[sameE_eq,←eqF_sameE];first|(simp[*];done)|grind)
    ·try simp only[zs]at h26
     refine .skip<|ks_n<|.seq<|.r<|.c (.fP 6 0 false)<|.c (.l1 1)<|.c (.fP 6 0 false)<|.c (.l1 1) ?_
     refine .c (.cP [.tmp 28,.tmp 30] rfl rfl rfl rfl (eqExs_one x.ks y.ks h2 ih) rfl) ?_
     refine .c .nt<|.nn ?_
     refine ACode.condT rfl (fun h32=>?_) (fun h32=>?_)
     ·try simp only[zs]at h32
      refine .r<|.c .a<|.nn<|.ret<|ks_r ?_
      refine kf_ret rfl ?_ nobox
      exact leafB (by rw[sameE_eq,←eqF_sameE];first|(simp[*];done)|grind)
     ·try simp only[zs]at h32
      refine .skip<|ks_n<|.r<|.c .a<|.nn<|.ret ?_
      refine kf_ret rfl ?_ nobox
      exact leafB (by rw[sameE_eq,←eqF_sameE];first|(simp[*];done)|grind)
theorem eqEx_fn:∀x y:Ex,szE x≤1073741824→Fn Tryz.prog 183 [] [ad (rX x),ad (rX y)] (.o (bo1 (sameE x y))) []:=by
  intro x
  induction x using Ex.rec' with
  |h x ih=>
    intro y hs
    rw[szE_eq]at hs
    exact eqEx_one x y (by omega) (by omega) (by omega) fun a ha b=>ih a ha b (by have:=szEs_mem ha;omega)
theorem eqStm_fn (s t:Stm) (h:szS s≤1073741824):Fn Tryz.prog 159 [] [ad (rS s),ad (rS t)] (.o (bo1 (sameS s t))) []:=by
 rw[szS]at h
 refine Fn.code0 Tryz.func159 rfl rfl rfl rfl ?_
 refine .r<|.c .bp<|.c .bp<|.c .a<|.nn<|.seq<|.r<|.c (.fP 0 1 true)<|.c (.lN 2)<|.c (.fP 0 1 true)<|.c (.lN 2) ?_
 refine .c (.cP [.tmp 6,.tmp 8] rfl rfl rfl rfl (eqAcc_fn _ _ (by omega)) rfl) ?_
 refine .c .nt<|.nn ?_
 refine ACode.condT rfl (fun h10=>?_) (fun h10=>?_)
 ·try simp only[zs]at h10
  refine .r<|.c .a<|.nn<|.ret<|ks_r ?_
  refine kf_ret rfl ?_ nobox
  exact leafB (by rw[sameS];first|(simp[*];done)|grind)
 ·try simp only[zs]at h10
  refine .skip<|ks_n<|.seq<|.r<|.c (.fP 2 6 true)<|.c (.lN 7)<|.c (.fP 2 6 true)<|.c (.lN 7) ?_
  refine .c (.cP [.tmp 12,.tmp 14] rfl rfl rfl rfl (eqEx_fn _ _ (by omega)) rfl) ?_
  refine .c .nt<|.nn ?_
  refine ACode.condT rfl (fun h16=>?_) (fun h16=>?_)
  ·try simp only[zs]at h16
   refine .r<|.c .a<|.nn<|.ret<|ks_r ?_
   refine kf_ret rfl ?_ nobox
   exact leafB (by rw[sameS];first|(simp[*];done)|grind)
  ·try simp only[zs]at h16
   refine .skip<|ks_n<|.r<|.c .a<|.nn<|.ret ?_
   refine kf_ret rfl ?_ nobox
   exact leafB (by rw[sameS];first|(simp[*];done)|grind)
def szL (l:Lp):Nat:=szAs l.1+szAs l.2
def szLs (l:List Lp):Nat:=l.length+(l.map szL).sum
theorem szLs_mem {l:List Lp} {a:Lp} (h:a∈l):l.length+szL a≤szLs l:=by
  rw[szLs]
  have:∀(l:List Nat) (n:Nat),n∈l→n≤l.sum:=by
    intro l
    induction l with
    |nil=>intro n h;cases h
    |cons m l ih=>
      intro n h
      rw[List.sum_cons]
      rcases List.mem_cons.1 h with rfl|h
      ·omega
      ·have:=ih n h;omega
  have:=this _ _ (List.mem_map_of_mem (f:=szL) h)
  omega
theorem szLs_len (l:List Lp):l.length≤szLs l:=Nat.le_add_right _ _
theorem szLoop_fn {x:Lp} {l:Int} (hl:0≤l∧l≤1048576) (ho:okAs x.1∧okAs x.2):Fn Tryz.prog 128 [] [ad (rL x),nat1 l] (.o (nat1 (subZ l (szL x)))) []:=by
  have hsz:szL x=szAs x.1+szAs x.2:=rfl
  have hb1:=subZ_bd (n:=szAs x.1) hl
  obtain⟨⟨o1,o2⟩,o3,o4⟩:=ho
  refine Fn.code0 Tryz.func128 rfl rfl rfl rfl ?_
  refine .r<|.c .bp<|.c .a<|.r<|.c (.fP 0 0 false)<|.c (.l1 1)<|.c .m ?_
  refine .c (.cP [.tmp 6,.tmp 7] rfl rfl rfl rfl (szAffs_fn x.1 hl o1 o2) rfl) ?_
  refine .c .a<|.nn<|.seq<|.r<|.c .m<|.c .ls<|.nn ?_
  refine .cD rfl (fun h10=>?_) (fun h10=>?_)
  · skip
    refine .r<|.c .a<|.nn<|.ret<|ks_r ?_
    refine kf_ret rfl ?_ nobox
    exact leafI (subZ_no (by have:=subZ_neg h10 hl.1;omega)).symm
  · skip
    refine .skip<|ks_n<|.seq ?_
    have hp1:=subZ_pos h10
    have hb2:=subZ_bd (n:=szAs x.2) (l:=subZ l (szAs x.1)) (by omega)
    have e1:=subZ_yes hp1
    refine .region<|.c (.fP 1 0 false)<|.c (.l1 1)<|.c .m ?_
    refine .c (.cP [.tmp 12,.tmp 13] rfl rfl rfl rfl (szAffs_fn x.2 (l:=subZ l (szAs x.1)) (by omega) o3 o4) rfl) ?_
    refine .c .a<|.nn<|.seq<|.r<|.c .m<|.c .ls<|.nn ?_
    refine .cD rfl (fun h16=>?_) (fun h16=>?_)
    · skip
      refine .r<|.c .a<|.nn<|.ret<|ks_r ?_
      refine kf_ret rfl ?_ nobox
      exact leafI (subZ_no (by have h6:=subZ_neg h16 (by omega);omega)).symm
    · skip
      refine .skip<|ks_n<|.r<|.c .m<|.c .a<|.nn<|.ret ?_
      refine kf_ret rfl ?_ nobox
      exact leafI (by have h6:=subZ_pos h16;rw[subZ_yes h6,e1,subZ_yes (l:=l) (n:=szL x) (by omega)];omega)
theorem szLoops_fn (xs:List Lp) {l:Int} (hl:0≤l∧l≤1048576) (hx:xs.length≤17592186044416) (hq:∀x∈xs,okAs x.1∧okAs x.2):Fn Tryz.prog 89 [] [vD (dLs xs),nat1 l] (.o (nat1 (subZ l (szLs xs)))) []:=by
  refine Fn.code0 Tryz.func89 rfl rfl rfl rfl ?_
  refine .r<|.c .a<|.r<|.c .m<|.c .m<|.c (.ln 178 2 48)<|.c .sb<|.c .a<|.nn<|.seq<|.r<|.c .m<|.c .ls<|.nn ?_
  refine .cD rfl (fun h11=>?_) (fun h11=>?_)
  · skip
    refine .r<|.c .a<|.nn<|.ret<|ks_r ?_
    refine kf_ret rfl ?_ nobox
    exact leafI (subZ_no (by rw[szLs];omega)).symm
  · skip
    refine .skip<|ks_n<|.seq<|.r<|.c .a<|.nn<|.block ?_
    refine .loopK (fun m σ=>(∃i:Nat,m=xs.length -i∧(i≤xs.length)∧(((xs.length+((xs.take i).map szL).sum:Nat):Int)≤l)∧σ=[eD 0 (dLs xs),eN 1 (l -(xs.length+((xs.take i).map szL).sum:Nat)),eN 4 0,eN 5 (i:Nat)])) [] ⟨0,rfl,by omega,by simp;omega,rfl⟩ ⟨kd,ks rfl (.dt (vI (by first|(simp;done)|(rw[hT,subZ_yes (by omega)];omega)))),kd,kd,trivial⟩ ?_
    rintro m σ ⟨i,hm0,hi,hF,rfl⟩
    refine .seq<|.r<|.c .m<|.c .m<|.c (.ln 178 2 48)<|.c .ls<|.nn ?_
    refine .cD rfl (fun h15=>?_) (fun h15=>?_)
    · skip
      obtain⟨x,hx1⟩:∃x,xs[i]?=some x:=⟨_,List.getElem?_eq_getElem (by omega)⟩
      have hT:=sum_take szL hx1
      refine .skip<|ks_n<|.seq<|.block<|.r<|.c .m<|.c .m<|.c (.xL 178 2 48) ?_
      refine .c (.lN 2)<|.c .m ?_
      refine .c (.cP [.tmp 21,.tmp 22] rfl rfl rfl rfl (szLoop_fn (l:=l -(xs.length+((xs.take i).map szL).sum:Nat)) (by omega) (hq x (List.mem_of_getElem? hx1))) rfl) ?_
      refine .c .a<|.r<|.c .m<|.c .ls<|.nn ?_
      refine .cD rfl (fun h25=>?_) (fun h25=>?_)
      · skip
        refine .r<|.c .a<|.nn<|.ret<|kb_r<|ks_r<|kl_r<|kb_r<|ks_r ?_
        refine kf_ret rfl ?_ nobox
        exact leafI (subZ_no (by have h1:=subZ_neg h25 (by omega);have h2:=sum_take_le szL (l:=xs) (i:=i+1);rw[szLs];omega)).symm
      · skip
        have hP:=subZ_pos h25
        refine .skip<|kb_n<|ks_n<|.region<|.c .m<|.c .pl<|.c .a<|.nil ?_
        refine kl_k [] ⟨i+1,rfl,by omega,by rw[hT];have:=subZ_pos h25;omega,rfl⟩ ⟨kd,ks rfl (.dt (vI (by first|(simp;done)|(rw[hT,subZ_yes (by omega)];omega)))),kd,kd,trivial⟩
    · skip
      have hall:xs.take i=xs:=List.take_of_length_le (by omega)
      refine .exit<|ks_e<|kl_e<|kb_hit<|ks_n<|.r<|.c .m<|.c .a<|.nn<|.ret ?_
      refine kf_ret rfl ?_ nobox
      exact leafI (by rw[subZ_yes (by rw[szLs,←hall];rw[hall];rw[hall]at hF;omega),szLs,hall])
theorem eqLoop_fn (x y:Lp) (h:szL x≤1073741824):Fn Tryz.prog 158 [] [ad (rL x),ad (rL y)] (.o (bo1 (decide (x=y)))) []:=by
 have hsz:szL x=szAs x.1+szAs x.2:=rfl
 have h1:=szAs_len x.1
 have h2:=szAs_len x.2
 refine Fn.code0 Tryz.func158 rfl rfl rfl rfl ?_
 refine .r<|.c .bp<|.c .bp<|.c .a<|.nn<|.seq<|.r<|.c (.fP 0 0 false)<|.c (.l1 1)<|.c (.fP 0 0 false)<|.c (.l1 1) ?_
 refine .c (.cP [.tmp 6,.tmp 8] rfl rfl rfl rfl (eqAffs_fn _ _ (by omega) (fun a ha=>by have:=szAs_mem ha;omega)) rfl) ?_
 refine .c .nt<|.nn ?_
 refine ACode.condT rfl (fun h10=>?_) (fun h10=>?_)
 ·try simp only[zs]at h10
  refine .r<|.c .a<|.nn<|.ret<|ks_r ?_
  refine kf_ret rfl ?_ nobox
  exact leafB (by rw[Bool.eq_iff_iff];simp[Prod.ext_iff, *])
 ·try simp only[zs]at h10
  refine .skip<|ks_n<|.seq<|.r<|.c (.fP 1 0 false)<|.c (.l1 1)<|.c (.fP 1 0 false)<|.c (.l1 1) ?_
  refine .c (.cP [.tmp 12,.tmp 14] rfl rfl rfl rfl (eqAffs_fn _ _ (by omega) (fun a ha=>by have:=szAs_mem ha;omega)) rfl) ?_
  refine .c .nt<|.nn ?_
  refine ACode.condT rfl (fun h16=>?_) (fun h16=>?_)
  ·try simp only[zs]at h16
   refine .r<|.c .a<|.nn<|.ret<|ks_r ?_
   refine kf_ret rfl ?_ nobox
   exact leafB (by rw[Bool.eq_iff_iff];simp[Prod.ext_iff, *])
  ·try simp only[zs]at h16
   refine .skip<|ks_n<|.r<|.c .a<|.nn<|.ret ?_
   refine kf_ret rfl ?_ nobox
   exact leafB (by rw[Bool.eq_iff_iff];simp[Prod.ext_iff, *])
theorem eqLoops_f (xs ys:List Lp) (hx:xs.length≤1099511627776) (hq:∀x∈xs,szL x≤1073741824):Fn Tryz.prog 117 [] [vD (dLs xs),vD (dLs ys)] (.o (bo1 (eqF (fun x y:Lp=>decide (x=y)) xs ys))) []:=by
 refine Fn.code0 Tryz.func117 rfl rfl rfl rfl ?_
 refine .r<|.c .a<|.nn<|.seq<|.r<|.c .m<|.c (.ln 148 2 48)<|.c .m<|.c (.ln 148 2 48)<|.c .ne<|.nn ?_
 refine .cND rfl (fun h10=>?_) (fun h10=>?_)
 ·skip
  refine .r<|.c .a<|.nn<|.ret<|ks_r ?_
  refine kf_ret rfl ?_ nobox
  exact leafB (eqF_len (by omega)).symm
 ·skip
  refine .skip<|ks_n<|.seq<|.r<|.c .a<|.nn<|.block ?_
  refine .loopK (fun m σ=>(∃i:Nat,m=xs.length -i∧(i≤xs.length)∧(eqF (fun x y:Lp=>decide (x=y)) xs ys=eqF (fun x y:Lp=>decide (x=y)) (xs.drop i) (ys.drop i))∧σ=[eD 0 (dLs xs),eD 1 (dLs ys),eT 4 false,eN 5 (i:Nat)])) [] ⟨0,rfl,by omega,by simp,rfl⟩ ⟨kd,kd,kd,kd,trivial⟩ ?_
  rintro m σ ⟨i,hm0,hi,hF,rfl⟩
  refine .seq<|.r<|.c .m<|.c .m<|.c (.ln 148 2 48)<|.c .ls<|.nn ?_
  refine .cD rfl (fun h14=>?_) (fun h14=>?_)
  ·skip
   obtain⟨x,hx1⟩:∃x,xs[i]?=some x:=⟨_,List.getElem?_eq_getElem (by omega)⟩
   obtain⟨y,hy1⟩:∃x,ys[i]?=some x:=⟨_,List.getElem?_eq_getElem (by omega)⟩
   refine .skip<|ks_n<|.seq<|.block<|.seq ?_
   refine ACode.drawK (by kernel_rfl) (by kernel_rfl) ?_
   refine .c .m<|.c .m ?_
   refine .c (.xL 148 2 48 rfl rfl rfl rfl rfl (map_at hx1)) ?_
   refine .c (.lN 2)<|.c .m<|.c .m ?_
   refine .c (.xL 148 2 48 rfl rfl rfl rfl rfl (map_at hy1)) ?_
   refine .c (.lN 2) ?_
   refine .c (.cP [.tmp 20,.tmp 24] rfl rfl rfl rfl (eqLoop_fn x y (hq x (List.mem_of_getElem? hx1))) rfl) ?_
   refine .c .nt ?_
   refine .nil ⟨by kernel_rfl,?_⟩
   refine ks_n ?_
   refine ACode.condT rfl (fun h26=>?_) (fun h26=>?_)
   ·try simp only[zs]at h26
    have g:decide (x=y)=false:=by first|assumption|exact decide_eq_false (by assumption)|(simp;omega)
    refine .r<|.c .a<|.nn<|.ret<|kb_r<|ks_r<|kl_r<|kb_r<|ks_r ?_
    refine kf_ret rfl ?_ nobox
    exact leafB (by rw[hF,eqF_drop hx1 hy1,g];rfl)
   ·try simp only[zs]at h26
    have g:decide (x=y)=true:=by first|assumption|exact decide_eq_true (by assumption)|(simp;omega)
    refine .skip<|kb_n<|ks_n<|.region<|.c .m<|.c .pl<|.c .a<|.nil ?_
    refine kl_k [] ⟨i+1,rfl,by omega,by rw[hF,eqF_drop hx1 hy1,g,Bool.true_and],rfl⟩ ⟨kd,kd,kd,kd,trivial⟩
  ·skip
   refine .exit<|ks_e<|kl_e<|kb_hit<|ks_n<|.r<|.c .a<|.nn<|.ret ?_
   refine kf_ret rfl ?_ nobox
   exact leafB (by rw[hF,show i=xs.length by omega,eqF_end (by omega)])
theorem eqLoops_fn (xs ys:List Lp) (h:szLs xs≤1073741824):Fn Tryz.prog 117 [] [vD (dLs xs),vD (dLs ys)] (.o (bo1 (decide (xs=ys)))) []:=by
  have hl:=szLs_len xs
  rw[←eqF_dec];exact eqLoops_f xs ys (by omega) fun x hx=>by have:=szLs_mem hx;omega
def szO {α:Type} (f:α→Nat) (l:List α):Nat:=l.length+(l.map f).sum
theorem mem_sum:∀(l:List Nat) (n:Nat),n∈l→n≤l.sum:=by
  intro l
  induction l with
  |nil=>intro n h;cases h
  |cons m l ih=>
    intro n h
    rw[List.sum_cons]
    rcases List.mem_cons.1 h with rfl|h
    ·omega
    ·have:=ih n h;omega
theorem szO_mem {α:Type} {f:α→Nat} {l:List α} {a:α} (h:a∈l):l.length+f a≤szO f l:=by
  rw[szO]
  have:=mem_sum _ _ (List.mem_map_of_mem (f:=f) h)
  omega
theorem szO_len {α:Type} {f:α→Nat} (l:List α):l.length≤szO f l:=Nat.le_add_right _ _
def szR (a:Arr):Nat:=a.1.size+a.2.length
def szPt (p:Prt):Nat:=szLs p.1+szO szS p.2
def szG (g:Prg):Nat:=szO szR g.1+szO szPt g.2
def sameP (x y:Prt):Bool:=decide (x.1=y.1)&&eqF sameS x.2 y.2
def sameG (x y:Prg):Bool:=decide (x.1=y.1)&&eqF sameP x.2 y.2
theorem eqF_refl {α:Type} {p:α→α→Bool} (hp:∀x,p x x=true):∀l:List α,eqF p l l=true
  |[]=>rfl
  |x::l=>by rw[eqF,hp x,eqF_refl hp l];rfl
theorem sameP_refl (x:Prt):sameP x x=true:=by rw[sameP,eqF_refl (fun s=>sameS_iff.2 rfl)];simp
theorem sameG_refl (x:Prg):sameG x x=true:=by rw[sameG,eqF_refl sameP_refl];simp
theorem szArr_fn {x:Arr} {l:Int} (hl:0≤l∧l≤1048576) (ho:okArr x):Fn Tryz.prog 47 [] [ad (rR x),nat1 l] (.o (nat1 (subZ l (szR x)))) []:=by
  have hsz:szR x=x.1.size+x.2.length:=rfl
  have ho1:=ho.1
  have ho2:=ho.2
  refine Fn.code0 Tryz.func47 rfl rfl rfl rfl ?_
  refine .r<|.c .bp<|.c .a<|.r<|.c .m<|.c (.fP 0 0 false)<|.c (.l1 1) ?_
  refine .c (St1.lenS rfl rfl rfl rfl rfl (by kernel_rfl) rfl) ?_
  refine .c .sb<|.c .a<|.nn<|.seq<|.r<|.c .m<|.c .ls<|.nn ?_
  refine .cD rfl (fun h11=>?_) (fun h11=>?_)
  · skip
    refine .r<|.c .a<|.nn<|.ret<|ks_r ?_
    refine kf_ret rfl ?_ nobox
    exact leafI (subZ_no (by omega)).symm
  · skip
    refine .skip<|ks_n<|.seq ?_
    have hb:=subZ_bd (n:=x.2.length) (l:=l -(x.1.size:Nat)) (by omega)
    refine .region<|.c (.fP 1 0 false)<|.c (.l1 1)<|.c .m ?_
    refine .c (.cP [.tmp 13,.tmp 14] rfl rfl rfl rfl (szInts_fn x.2 (l:=l -(x.1.size:Nat)) (by omega) ho.2) rfl) ?_
    refine .c .a<|.nn<|.seq<|.r<|.c .m<|.c .ls<|.nn ?_
    refine .cD rfl (fun h17=>?_) (fun h17=>?_)
    · skip
      refine .r<|.c .a<|.nn<|.ret<|ks_r ?_
      refine kf_ret rfl ?_ nobox
      exact leafI (subZ_no (by have:=subZ_neg h17 (by omega);omega)).symm
    · skip
      refine .skip<|ks_n<|.r<|.c .m<|.c .a<|.nn<|.ret ?_
      refine kf_ret rfl ?_ nobox
      exact leafI (by have:=subZ_pos h17;rw[subZ_yes this,subZ_yes (by omega)];omega)
theorem szArrs_fn (xs:List Arr) {l:Int} (hl:0≤l∧l≤1048576) (hx:xs.length≤17592186044416) (hq:∀x∈xs,okArr x):Fn Tryz.prog 17 [] [vD (dRs xs),nat1 l] (.o (nat1 (subZ l (szO szR xs)))) []:=by
  refine Fn.code0 Tryz.func17 rfl rfl rfl rfl ?_
  refine .r<|.c .a<|.r<|.c .m<|.c .m<|.c (.ln 94 2 40)<|.c .sb<|.c .a<|.nn<|.seq<|.r<|.c .m<|.c .ls<|.nn ?_
  refine .cD rfl (fun h11=>?_) (fun h11=>?_)
  · skip
    refine .r<|.c .a<|.nn<|.ret<|ks_r ?_
    refine kf_ret rfl ?_ nobox
    exact leafI (subZ_no (by rw[szO];omega)).symm
  · skip
    refine .skip<|ks_n<|.seq<|.r<|.c .a<|.nn<|.block ?_
    refine .loopK (fun m σ=>(∃i:Nat,m=xs.length -i∧(i≤xs.length)∧(((xs.length+((xs.take i).map szR).sum:Nat):Int)≤l)∧σ=[eD 0 (dRs xs),eN 1 (l -(xs.length+((xs.take i).map szR).sum:Nat)),eN 4 0,eN 5 (i:Nat)])) [] ⟨0,rfl,by omega,by simp;omega,rfl⟩ ⟨kd,ks rfl (.dt (vI (by first|(simp;done)|(rw[hT,subZ_yes (by omega)];omega)))),kd,kd,trivial⟩ ?_
    rintro m σ ⟨i,hm0,hi,hF,rfl⟩
    refine .seq<|.r<|.c .m<|.c .m<|.c (.ln 94 2 40)<|.c .ls<|.nn ?_
    refine .cD rfl (fun h15=>?_) (fun h15=>?_)
    · skip
      obtain⟨x,hx1⟩:∃x,xs[i]?=some x:=⟨_,List.getElem?_eq_getElem (by omega)⟩
      have hT:=sum_take szR hx1
      refine .skip<|ks_n<|.seq<|.block<|.r<|.c .m<|.c .m<|.c (.xL 94 2 40) ?_
      refine .c (.lN 2)<|.c .m ?_
      refine .c (.cP [.tmp 21,.tmp 22] rfl rfl rfl rfl (szArr_fn (l:=(l -(xs.length+((xs.take i).map szR).sum:Nat))) (by omega) (hq x (List.mem_of_getElem? hx1))) rfl) ?_
      refine .c .a<|.r<|.c .m<|.c .ls<|.nn ?_
      refine .cD rfl (fun h25=>?_) (fun h25=>?_)
      · skip
        refine .r<|.c .a<|.nn<|.ret<|kb_r<|ks_r<|kl_r<|kb_r<|ks_r ?_
        refine kf_ret rfl ?_ nobox
        exact leafI (subZ_no (by have h1:=subZ_neg h25 (by omega);have h2:=sum_take_le szR (l:=xs) (i:=i+1);rw[szO];omega)).symm
      · skip
        have hP:=subZ_pos h25
        refine .skip<|kb_n<|ks_n<|.region<|.c .m<|.c .pl<|.c .a<|.nil ?_
        refine kl_k [] ⟨i+1,rfl,by omega,by rw[hT];have:=subZ_pos h25;omega,rfl⟩ ⟨kd,ks rfl (.dt (vI (by first|(simp;done)|(rw[hT,subZ_yes (by omega)];omega)))),kd,kd,trivial⟩
    · skip
      have hall:xs.take i=xs:=List.take_of_length_le (by omega)
      refine .exit<|ks_e<|kl_e<|kb_hit<|ks_n<|.r<|.c .m<|.c .a<|.nn<|.ret ?_
      refine kf_ret rfl ?_ nobox
      exact leafI (by rw[subZ_yes (by rw[szO,←hall];rw[hall];rw[hall]at hF;omega),szO,hall])
theorem szStms_fn (xs:List Stm) {l:Int} (hl:0≤l∧l≤1048576) (hx:xs.length≤17592186044416) (hq:∀x∈xs,okS x):Fn Tryz.prog 90 [] [vD (dMs xs),nat1 l] (.o (nat1 (subZ l (szO szS xs)))) []:=by
  refine Fn.code0 Tryz.func90 rfl rfl rfl rfl ?_
  refine .r<|.c .a<|.r<|.c .m<|.c .m<|.c (.ln 187 9 152)<|.c .sb<|.c .a<|.nn<|.seq<|.r<|.c .m<|.c .ls<|.nn ?_
  refine .cD rfl (fun h11=>?_) (fun h11=>?_)
  · skip
    refine .r<|.c .a<|.nn<|.ret<|ks_r ?_
    refine kf_ret rfl ?_ nobox
    exact leafI (subZ_no (by rw[szO];omega)).symm
  · skip
    refine .skip<|ks_n<|.seq<|.r<|.c .a<|.nn<|.block ?_
    refine .loopK (fun m σ=>(∃i:Nat,m=xs.length -i∧(i≤xs.length)∧(((xs.length+((xs.take i).map szS).sum:Nat):Int)≤l)∧σ=[eD 0 (dMs xs),eN 1 (l -(xs.length+((xs.take i).map szS).sum:Nat)),eN 4 0,eN 5 (i:Nat)])) [] ⟨0,rfl,by omega,by simp;omega,rfl⟩ ⟨kd,ks rfl (.dt (vI (by first|(simp;done)|(rw[hT,subZ_yes (by omega)];omega)))),kd,kd,trivial⟩ ?_
    rintro m σ ⟨i,hm0,hi,hF,rfl⟩
    refine .seq<|.r<|.c .m<|.c .m<|.c (.ln 187 9 152)<|.c .ls<|.nn ?_
    refine .cD rfl (fun h15=>?_) (fun h15=>?_)
    · skip
      obtain⟨x,hx1⟩:∃x,xs[i]?=some x:=⟨_,List.getElem?_eq_getElem (by omega)⟩
      have hT:=sum_take szS hx1
      refine .skip<|ks_n<|.seq<|.block<|.r<|.c .m<|.c .m<|.c (.xL 187 9 152) ?_
      refine .c (.lN 9)<|.c .m ?_
      refine .c (.cP [.tmp 21,.tmp 22] rfl rfl rfl rfl (szStm_fn (l:=(l -(xs.length+((xs.take i).map szS).sum:Nat))) (hq x (List.mem_of_getElem? hx1)) (by omega)) rfl) ?_
      refine .c .a<|.r<|.c .m<|.c .ls<|.nn ?_
      refine .cD rfl (fun h25=>?_) (fun h25=>?_)
      · skip
        refine .r<|.c .a<|.nn<|.ret<|kb_r<|ks_r<|kl_r<|kb_r<|ks_r ?_
        refine kf_ret rfl ?_ nobox
        exact leafI (subZ_no (by have h1:=subZ_neg h25 (by omega);have h2:=sum_take_le szS (l:=xs) (i:=i+1);rw[szO];omega)).symm
      · skip
        have hP:=subZ_pos h25
        refine .skip<|kb_n<|ks_n<|.region<|.c .m<|.c .pl<|.c .a<|.nil ?_
        refine kl_k [] ⟨i+1,rfl,by omega,by rw[hT];have:=subZ_pos h25;omega,rfl⟩ ⟨kd,ks rfl (.dt (vI (by first|(simp;done)|(rw[hT,subZ_yes (by omega)];omega)))),kd,kd,trivial⟩
    · skip
      have hall:xs.take i=xs:=List.take_of_length_le (by omega)
      refine .exit<|ks_e<|kl_e<|kb_hit<|ks_n<|.r<|.c .m<|.c .a<|.nn<|.ret ?_
      refine kf_ret rfl ?_ nobox
      exact leafI (by rw[subZ_yes (by rw[szO,←hall];rw[hall];rw[hall]at hF;omega),szO,hall])
theorem szPt_fn {x:Prt} {l:Int} (hl:0≤l∧l≤1048576) (ho:okPrt x):Fn Tryz.prog 48 [] [ad (rP x),nat1 l] (.o (nat1 (subZ l (szPt x)))) []:=by
  have hsz:szPt x=szLs x.1+szO szS x.2:=rfl
  have hb1:=subZ_bd (n:=szLs x.1) hl
  obtain⟨⟨o1,o2⟩,o3,o4⟩:=ho
  refine Fn.code0 Tryz.func48 rfl rfl rfl rfl ?_
  refine .r<|.c .bp<|.c .a<|.r<|.c (.fP 0 0 false)<|.c (.l1 1)<|.c .m ?_
  refine .c (.cP [.tmp 6,.tmp 7] rfl rfl rfl rfl (szLoops_fn x.1 hl o1 o2) rfl) ?_
  refine .c .a<|.nn<|.seq<|.r<|.c .m<|.c .ls<|.nn ?_
  refine .cD rfl (fun h10=>?_) (fun h10=>?_)
  · skip
    refine .r<|.c .a<|.nn<|.ret<|ks_r ?_
    refine kf_ret rfl ?_ nobox
    exact leafI (subZ_no (by have:=subZ_neg h10 hl.1;omega)).symm
  · skip
    refine .skip<|ks_n<|.seq ?_
    have hp1:=subZ_pos h10
    have hb2:=subZ_bd (n:=szO szS x.2) (l:=subZ l (szLs x.1)) (by omega)
    have e1:=subZ_yes hp1
    refine .region<|.c (.fP 1 0 false)<|.c (.l1 1)<|.c .m ?_
    refine .c (.cP [.tmp 12,.tmp 13] rfl rfl rfl rfl (szStms_fn x.2 (l:=subZ l (szLs x.1)) (by omega) o3 o4) rfl) ?_
    refine .c .a<|.nn<|.seq<|.r<|.c .m<|.c .ls<|.nn ?_
    refine .cD rfl (fun h16=>?_) (fun h16=>?_)
    · skip
      refine .r<|.c .a<|.nn<|.ret<|ks_r ?_
      refine kf_ret rfl ?_ nobox
      exact leafI (subZ_no (by have h6:=subZ_neg h16 (by omega);omega)).symm
    · skip
      refine .skip<|ks_n<|.r<|.c .m<|.c .a<|.nn<|.ret ?_
      refine kf_ret rfl ?_ nobox
      exact leafI (by have h6:=subZ_pos h16;rw[subZ_yes h6,e1,subZ_yes (l:=l) (n:=szPt x) (by omega)];omega)
theorem szPts_fn (xs:List Prt) {l:Int} (hl:0≤l∧l≤1048576) (hx:xs.length≤17592186044416) (hq:∀x∈xs,okPrt x):Fn Tryz.prog 18 [] [vD (dPts xs),nat1 l] (.o (nat1 (subZ l (szO szPt xs)))) []:=by
  refine Fn.code0 Tryz.func18 rfl rfl rfl rfl ?_
  refine .r<|.c .a<|.r<|.c .m<|.c .m<|.c (.ln 99 2 48)<|.c .sb<|.c .a<|.nn<|.seq<|.r<|.c .m<|.c .ls<|.nn ?_
  refine .cD rfl (fun h11=>?_) (fun h11=>?_)
  · skip
    refine .r<|.c .a<|.nn<|.ret<|ks_r ?_
    refine kf_ret rfl ?_ nobox
    exact leafI (subZ_no (by rw[szO];omega)).symm
  · skip
    refine .skip<|ks_n<|.seq<|.r<|.c .a<|.nn<|.block ?_
    refine .loopK (fun m σ=>(∃i:Nat,m=xs.length -i∧(i≤xs.length)∧(((xs.length+((xs.take i).map szPt).sum:Nat):Int)≤l)∧σ=[eD 0 (dPts xs),eN 1 (l -(xs.length+((xs.take i).map szPt).sum:Nat)),eN 4 0,eN 5 (i:Nat)])) [] ⟨0,rfl,by omega,by simp;omega,rfl⟩ ⟨kd,ks rfl (.dt (vI (by first|(simp;done)|(rw[hT,subZ_yes (by omega)];omega)))),kd,kd,trivial⟩ ?_
    rintro m σ ⟨i,hm0,hi,hF,rfl⟩
    refine .seq<|.r<|.c .m<|.c .m<|.c (.ln 99 2 48)<|.c .ls<|.nn ?_
    refine .cD rfl (fun h15=>?_) (fun h15=>?_)
    · skip
      obtain⟨x,hx1⟩:∃x,xs[i]?=some x:=⟨_,List.getElem?_eq_getElem (by omega)⟩
      have hT:=sum_take szPt hx1
      refine .skip<|ks_n<|.seq<|.block<|.r<|.c .m<|.c .m<|.c (.xL 99 2 48) ?_
      refine .c (.lN 2)<|.c .m ?_
      refine .c (.cP [.tmp 21,.tmp 22] rfl rfl rfl rfl (szPt_fn (l:=(l -(xs.length+((xs.take i).map szPt).sum:Nat))) (by omega) (hq x (List.mem_of_getElem? hx1))) rfl) ?_
      refine .c .a<|.r<|.c .m<|.c .ls<|.nn ?_
      refine .cD rfl (fun h25=>?_) (fun h25=>?_)
      · skip
        refine .r<|.c .a<|.nn<|.ret<|kb_r<|ks_r<|kl_r<|kb_r<|ks_r ?_
        refine kf_ret rfl ?_ nobox
        exact leafI (subZ_no (by have h1:=subZ_neg h25 (by omega);have h2:=sum_take_le szPt (l:=xs) (i:=i+1);rw[szO];omega)).symm
      · skip
        have hP:=subZ_pos h25
        refine .skip<|kb_n<|ks_n<|.region<|.c .m<|.c .pl<|.c .a<|.nil ?_
        refine kl_k [] ⟨i+1,rfl,by omega,by rw[hT];have:=subZ_pos h25;omega,rfl⟩ ⟨kd,ks rfl (.dt (vI (by first|(simp;done)|(rw[hT,subZ_yes (by omega)];omega)))),kd,kd,trivial⟩
    · skip
      have hall:xs.take i=xs:=List.take_of_length_le (by omega)
      refine .exit<|ks_e<|kl_e<|kb_hit<|ks_n<|.r<|.c .m<|.c .a<|.nn<|.ret ?_
      refine kf_ret rfl ?_ nobox
      exact leafI (by rw[subZ_yes (by rw[szO,←hall];rw[hall];rw[hall]at hF;omega),szO,hall])
theorem szPrg_fn {x:Prg} {l:Int} (hl:0≤l∧l≤1048576) (ho:okPrg x):Fn Tryz.prog 6 [] [ad (rG x),nat1 l] (.o (nat1 (subZ l (szG x)))) []:=by
  have hsz:szG x=szO szR x.1+szO szPt x.2:=rfl
  have hb1:=subZ_bd (n:=szO szR x.1) hl
  obtain⟨⟨o1,o2⟩,o3,o4⟩:=ho
  refine Fn.code0 Tryz.func6 rfl rfl rfl rfl ?_
  refine .r<|.c .bp<|.c .a<|.r<|.c (.fP 0 0 false)<|.c (.l1 1)<|.c .m ?_
  refine .c (.cP [.tmp 6,.tmp 7] rfl rfl rfl rfl (szArrs_fn x.1 hl o1 o2) rfl) ?_
  refine .c .a<|.nn<|.seq<|.r<|.c .m<|.c .ls<|.nn ?_
  refine .cD rfl (fun h10=>?_) (fun h10=>?_)
  · skip
    refine .r<|.c .a<|.nn<|.ret<|ks_r ?_
    refine kf_ret rfl ?_ nobox
    exact leafI (subZ_no (by have:=subZ_neg h10 hl.1;omega)).symm
  · skip
    refine .skip<|ks_n<|.seq ?_
    have hp1:=subZ_pos h10
    have hb2:=subZ_bd (n:=szO szPt x.2) (l:=subZ l (szO szR x.1)) (by omega)
    have e1:=subZ_yes hp1
    refine .region<|.c (.fP 1 0 false)<|.c (.l1 1)<|.c .m ?_
    refine .c (.cP [.tmp 12,.tmp 13] rfl rfl rfl rfl (szPts_fn x.2 (l:=subZ l (szO szR x.1)) (by omega) o3 o4) rfl) ?_
    refine .c .a<|.nn<|.seq<|.r<|.c .m<|.c .ls<|.nn ?_
    refine .cD rfl (fun h16=>?_) (fun h16=>?_)
    · skip
      refine .r<|.c .a<|.nn<|.ret<|ks_r ?_
      refine kf_ret rfl ?_ nobox
      exact leafI (subZ_no (by have h6:=subZ_neg h16 (by omega);omega)).symm
    · skip
      refine .skip<|ks_n<|.r<|.c .m<|.c .a<|.nn<|.ret ?_
      refine kf_ret rfl ?_ nobox
      exact leafI (by have h6:=subZ_pos h16;rw[subZ_yes h6,e1,subZ_yes (l:=l) (n:=szG x) (by omega)];omega)
theorem eqArr_fn (x y:Arr) (h:szR x≤1073741824):Fn Tryz.prog 69 [] [ad (rR x),ad (rR y)] (.o (bo1 (decide (x=y)))) []:=by
 rw[szR]at h
 refine Fn.code0 Tryz.func69 rfl rfl rfl rfl ?_
 refine .r<|.c .bp<|.c .bp<|.c .a<|.nn<|.seq<|.r<|.c (.fP 0 0 false)<|.c (.l1 1)<|.c (.fP 0 0 false)<|.c (.l1 1) ?_
 refine .c (St1.neS rfl rfl rfl)<|.nn ?_
 refine ACode.condT rfl (fun h9=>?_) (fun h9=>?_)
 ·try simp only[zs]at h9
  refine .r<|.c .a<|.nn<|.ret<|ks_r ?_
  refine kf_ret rfl ?_ nobox
  exact leafB (by rw[Bool.eq_iff_iff];simp only[decide_eq_true_eq,Prod.ext_iff,←sEq_iff];first|(simp[*];done)|(simp_all;done))
 ·try simp only[zs]at h9
  refine .skip<|ks_n<|.seq<|.r<|.c (.fP 1 0 false)<|.c (.l1 1)<|.c (.fP 1 0 false)<|.c (.l1 1) ?_
  refine .c (.cP [.tmp 11,.tmp 13] rfl rfl rfl rfl (eqInts_fn _ _ (by omega)) rfl) ?_
  refine .c .nt<|.nn ?_
  refine ACode.condT rfl (fun h15=>?_) (fun h15=>?_)
  ·try simp only[zs]at h15
   refine .r<|.c .a<|.nn<|.ret<|ks_r ?_
   refine kf_ret rfl ?_ nobox
   exact leafB (by rw[Bool.eq_iff_iff];simp only[decide_eq_true_eq,Prod.ext_iff,←sEq_iff];first|(simp[*];done)|(simp_all;done))
  ·try simp only[zs]at h15
   refine .skip<|ks_n<|.r<|.c .a<|.nn<|.ret ?_
   refine kf_ret rfl ?_ nobox
   exact leafB (by rw[Bool.eq_iff_iff];simp only[decide_eq_true_eq,Prod.ext_iff,←sEq_iff];first|(simp[*];done)|(simp_all;done))
theorem eqArrs_f (xs ys:List Arr) (hx:xs.length≤1099511627776) (hq:∀x∈xs,szR x≤1073741824):Fn Tryz.prog 32 [] [vD (dRs xs),vD (dRs ys)] (.o (bo1 (eqF (fun x y:Arr=>decide (x=y)) xs ys))) []:=by
 refine Fn.code0 Tryz.func32 rfl rfl rfl rfl ?_
 refine .r<|.c .a<|.nn<|.seq<|.r<|.c .m<|.c (.ln 45 2 40)<|.c .m<|.c (.ln 45 2 40)<|.c .ne<|.nn ?_
 refine .cND rfl (fun h10=>?_) (fun h10=>?_)
 ·skip
  refine .r<|.c .a<|.nn<|.ret<|ks_r ?_
  refine kf_ret rfl ?_ nobox
  exact leafB (eqF_len (by omega)).symm
 ·skip
  refine .skip<|ks_n<|.seq<|.r<|.c .a<|.nn<|.block ?_
  refine .loopK (fun m σ=>(∃i:Nat,m=xs.length -i∧(i≤xs.length)∧(eqF (fun x y:Arr=>decide (x=y)) xs ys=eqF (fun x y:Arr=>decide (x=y)) (xs.drop i) (ys.drop i))∧σ=[eD 0 (dRs xs),eD 1 (dRs ys),eT 4 false,eN 5 (i:Nat)])) [] ⟨0,rfl,by omega,by simp,rfl⟩ ⟨kd,kd,kd,kd,trivial⟩ ?_
  rintro m σ ⟨i,hm0,hi,hF,rfl⟩
  refine .seq<|.r<|.c .m<|.c .m<|.c (.ln 45 2 40)<|.c .ls<|.nn ?_
  refine .cD rfl (fun h14=>?_) (fun h14=>?_)
  ·skip
   obtain⟨x,hx1⟩:∃x,xs[i]?=some x:=⟨_,List.getElem?_eq_getElem (by omega)⟩
   obtain⟨y,hy1⟩:∃x,ys[i]?=some x:=⟨_,List.getElem?_eq_getElem (by omega)⟩
   refine .skip<|ks_n<|.seq<|.block<|.seq ?_
   refine ACode.drawK (by kernel_rfl) (by kernel_rfl) ?_
   refine .c .m<|.c .m ?_
   refine .c (.xL 45 2 40 rfl rfl rfl rfl rfl (map_at hx1)) ?_
   refine .c (.lN 2)<|.c .m<|.c .m ?_
   refine .c (.xL 45 2 40 rfl rfl rfl rfl rfl (map_at hy1)) ?_
   refine .c (.lN 2) ?_
   refine .c (.cP [.tmp 20,.tmp 24] rfl rfl rfl rfl (eqArr_fn x y (hq x (List.mem_of_getElem? hx1))) rfl) ?_
   refine .c .nt ?_
   refine .nil ⟨by kernel_rfl,?_⟩
   refine ks_n ?_
   refine ACode.condT rfl (fun h26=>?_) (fun h26=>?_)
   ·try simp only[zs]at h26
    have g:decide (x=y)=false:=by first|assumption|exact decide_eq_false (by assumption)|(simp;omega)
    refine .r<|.c .a<|.nn<|.ret<|kb_r<|ks_r<|kl_r<|kb_r<|ks_r ?_
    refine kf_ret rfl ?_ nobox
    exact leafB (by rw[hF,eqF_drop hx1 hy1,g];rfl)
   ·try simp only[zs]at h26
    have g:decide (x=y)=true:=by first|assumption|exact decide_eq_true (by assumption)|(simp;omega)
    refine .skip<|kb_n<|ks_n<|.region<|.c .m<|.c .pl<|.c .a<|.nil ?_
    refine kl_k [] ⟨i+1,rfl,by omega,by rw[hF,eqF_drop hx1 hy1,g,Bool.true_and],rfl⟩ ⟨kd,kd,kd,kd,trivial⟩
  ·skip
   refine .exit<|ks_e<|kl_e<|kb_hit<|ks_n<|.r<|.c .a<|.nn<|.ret ?_
   refine kf_ret rfl ?_ nobox
   exact leafB (by rw[hF,show i=xs.length by omega,eqF_end (by omega)])
theorem eqArrs_fn (xs ys:List Arr) (h:szO szR xs≤1073741824):Fn Tryz.prog 32 [] [vD (dRs xs),vD (dRs ys)] (.o (bo1 (decide (xs=ys)))) []:=by
  have hl:=szO_len (f:=szR) xs
  rw[←eqF_dec];exact eqArrs_f xs ys (by omega) fun x hx=>by have:=szO_mem (f:=szR) hx;omega
theorem eqStms_fn (xs ys:List Stm) (hx:xs.length≤1099511627776) (hq:∀x∈xs,szS x≤1073741824):Fn Tryz.prog 118 [] [vD (dMs xs),vD (dMs ys)] (.o (bo1 (eqF sameS xs ys))) []:=by
 refine Fn.code0 Tryz.func118 rfl rfl rfl rfl ?_
 refine .r<|.c .a<|.nn<|.seq<|.r<|.c .m<|.c (.ln 66 9 152)<|.c .m<|.c (.ln 66 9 152)<|.c .ne<|.nn ?_
 refine .cND rfl (fun h10=>?_) (fun h10=>?_)
 ·skip
  refine .r<|.c .a<|.nn<|.ret<|ks_r ?_
  refine kf_ret rfl ?_ nobox
  exact leafB (eqF_len (by omega)).symm
 ·skip
  refine .skip<|ks_n<|.seq<|.r<|.c .a<|.nn<|.block ?_
  refine .loopK (fun m σ=>(∃i:Nat,m=xs.length -i∧(i≤xs.length)∧(eqF sameS xs ys=eqF sameS (xs.drop i) (ys.drop i))∧σ=[eD 0 (dMs xs),eD 1 (dMs ys),eT 4 false,eN 5 (i:Nat)])) [] ⟨0,rfl,by omega,by simp,rfl⟩ ⟨kd,kd,kd,kd,trivial⟩ ?_
  rintro m σ ⟨i,hm0,hi,hF,rfl⟩
  refine .seq<|.r<|.c .m<|.c .m<|.c (.ln 66 9 152)<|.c .ls<|.nn ?_
  refine .cD rfl (fun h14=>?_) (fun h14=>?_)
  ·skip
   obtain⟨x,hx1⟩:∃x,xs[i]?=some x:=⟨_,List.getElem?_eq_getElem (by omega)⟩
   obtain⟨y,hy1⟩:∃x,ys[i]?=some x:=⟨_,List.getElem?_eq_getElem (by omega)⟩
   refine .skip<|ks_n<|.seq<|.block<|.seq ?_
   refine ACode.drawK (by kernel_rfl) (by kernel_rfl) ?_
   refine .c .m<|.c .m ?_
   refine .c (.xL 66 9 152 rfl rfl rfl rfl rfl (map_at hx1)) ?_
   refine .c (.lN 9)<|.c .m<|.c .m ?_
   refine .c (.xL 66 9 152 rfl rfl rfl rfl rfl (map_at hy1)) ?_
   refine .c (.lN 9) ?_
   refine .c (.cP [.tmp 20,.tmp 24] rfl rfl rfl rfl (eqStm_fn x y (hq x (List.mem_of_getElem? hx1))) rfl) ?_
   refine .c .nt ?_
   refine .nil ⟨by kernel_rfl,?_⟩
   refine ks_n ?_
   refine ACode.condT rfl (fun h26=>?_) (fun h26=>?_)
   ·try simp only[zs]at h26
    have g:sameS x y=false:=by first|assumption|exact decide_eq_false (by assumption)|(simp;omega)
    refine .r<|.c .a<|.nn<|.ret<|kb_r<|ks_r<|kl_r<|kb_r<|ks_r ?_
    refine kf_ret rfl ?_ nobox
    exact leafB (by rw[hF,eqF_drop hx1 hy1,g];rfl)
   ·try simp only[zs]at h26
    have g:sameS x y=true:=by first|assumption|exact decide_eq_true (by assumption)|(simp;omega)
    refine .skip<|kb_n<|ks_n<|.region<|.c .m<|.c .pl<|.c .a<|.nil ?_
    refine kl_k [] ⟨i+1,rfl,by omega,by rw[hF,eqF_drop hx1 hy1,g,Bool.true_and],rfl⟩ ⟨kd,kd,kd,kd,trivial⟩
  ·skip
   refine .exit<|ks_e<|kl_e<|kb_hit<|ks_n<|.r<|.c .a<|.nn<|.ret ?_
   refine kf_ret rfl ?_ nobox
   exact leafB (by rw[hF,show i=xs.length by omega,eqF_end (by omega)])
theorem eqPt_fn (x y:Prt) (h:szPt x≤1073741824):Fn Tryz.prog 70 [] [ad (rP x),ad (rP y)] (.o (bo1 (sameP x y))) []:=by
 have hsz:szPt x=szLs x.1+szO szS x.2:=rfl
 have h1:=szLs_len x.1
 have h2:=szO_len (f:=szS) x.2
 refine Fn.code0 Tryz.func70 rfl rfl rfl rfl ?_
 refine .r<|.c .bp<|.c .bp<|.c .a<|.nn<|.seq<|.r<|.c (.fP 0 0 false)<|.c (.l1 1)<|.c (.fP 0 0 false)<|.c (.l1 1) ?_
 refine .c (.cP [.tmp 6,.tmp 8] rfl rfl rfl rfl (eqLoops_fn _ _ (by omega)) rfl) ?_
 refine .c .nt<|.nn ?_
 refine ACode.condT rfl (fun h10=>?_) (fun h10=>?_)
 ·try simp only[zs]at h10
  refine .r<|.c .a<|.nn<|.ret<|ks_r ?_
  refine kf_ret rfl ?_ nobox
  exact leafB (by rw[sameP];first|(simp[*];done)|grind)
 ·try simp only[zs]at h10
  refine .skip<|ks_n<|.seq<|.r<|.c (.fP 1 0 false)<|.c (.l1 1)<|.c (.fP 1 0 false)<|.c (.l1 1) ?_
  refine .c (.cP [.tmp 12,.tmp 14] rfl rfl rfl rfl (eqStms_fn _ _ (by omega) (fun s hs=>by have:=szO_mem (f:=szS) hs;omega)) rfl) ?_
  refine .c .nt<|.nn ?_
  refine ACode.condT rfl (fun h16=>?_) (fun h16=>?_)
  ·try simp only[zs]at h16
   refine .r<|.c .a<|.nn<|.ret<|ks_r ?_
   refine kf_ret rfl ?_ nobox
   exact leafB (by rw[sameP];first|(simp[*];done)|grind)
  ·try simp only[zs]at h16
   refine .skip<|ks_n<|.r<|.c .a<|.nn<|.ret ?_
   refine kf_ret rfl ?_ nobox
   exact leafB (by rw[sameP];first|(simp[*];done)|grind)
theorem eqPts_fn (xs ys:List Prt) (hx:xs.length≤1099511627776) (hq:∀x∈xs,szPt x≤1073741824):Fn Tryz.prog 33 [] [vD (dPts xs),vD (dPts ys)] (.o (bo1 (eqF sameP xs ys))) []:=by
 refine Fn.code0 Tryz.func33 rfl rfl rfl rfl ?_
 refine .r<|.c .a<|.nn<|.seq<|.r<|.c .m<|.c (.ln 80 2 48)<|.c .m<|.c (.ln 80 2 48)<|.c .ne<|.nn ?_
 refine .cND rfl (fun h10=>?_) (fun h10=>?_)
 ·skip
  refine .r<|.c .a<|.nn<|.ret<|ks_r ?_
  refine kf_ret rfl ?_ nobox
  exact leafB (eqF_len (by omega)).symm
 ·skip
  refine .skip<|ks_n<|.seq<|.r<|.c .a<|.nn<|.block ?_
  refine .loopK (fun m σ=>(∃i:Nat,m=xs.length -i∧(i≤xs.length)∧(eqF sameP xs ys=eqF sameP (xs.drop i) (ys.drop i))∧σ=[eD 0 (dPts xs),eD 1 (dPts ys),eT 4 false,eN 5 (i:Nat)])) [] ⟨0,rfl,by omega,by simp,rfl⟩ ⟨kd,kd,kd,kd,trivial⟩ ?_
  rintro m σ ⟨i,hm0,hi,hF,rfl⟩
  refine .seq<|.r<|.c .m<|.c .m<|.c (.ln 80 2 48)<|.c .ls<|.nn ?_
  refine .cD rfl (fun h14=>?_) (fun h14=>?_)
  ·skip
   obtain⟨x,hx1⟩:∃x,xs[i]?=some x:=⟨_,List.getElem?_eq_getElem (by omega)⟩
   obtain⟨y,hy1⟩:∃x,ys[i]?=some x:=⟨_,List.getElem?_eq_getElem (by omega)⟩
   refine .skip<|ks_n<|.seq<|.block<|.seq ?_
   refine ACode.drawK (by kernel_rfl) (by kernel_rfl) ?_
   refine .c .m<|.c .m ?_
   refine .c (.xL 80 2 48 rfl rfl rfl rfl rfl (map_at hx1)) ?_
   refine .c (.lN 2)<|.c .m<|.c .m ?_
   refine .c (.xL 80 2 48 rfl rfl rfl rfl rfl (map_at hy1)) ?_
   refine .c (.lN 2) ?_
   refine .c (.cP [.tmp 20,.tmp 24] rfl rfl rfl rfl (eqPt_fn x y (hq x (List.mem_of_getElem? hx1))) rfl) ?_
   refine .c .nt ?_
   refine .nil ⟨by kernel_rfl,?_⟩
   refine ks_n ?_
   refine ACode.condT rfl (fun h26=>?_) (fun h26=>?_)
   ·try simp only[zs]at h26
    have g:sameP x y=false:=by first|assumption|exact decide_eq_false (by assumption)|(simp;omega)
    refine .r<|.c .a<|.nn<|.ret<|kb_r<|ks_r<|kl_r<|kb_r<|ks_r ?_
    refine kf_ret rfl ?_ nobox
    exact leafB (by rw[hF,eqF_drop hx1 hy1,g];rfl)
   ·try simp only[zs]at h26
    have g:sameP x y=true:=by first|assumption|exact decide_eq_true (by assumption)|(simp;omega)
    refine .skip<|kb_n<|ks_n<|.region<|.c .m<|.c .pl<|.c .a<|.nil ?_
    refine kl_k [] ⟨i+1,rfl,by omega,by rw[hF,eqF_drop hx1 hy1,g,Bool.true_and],rfl⟩ ⟨kd,kd,kd,kd,trivial⟩
  ·skip
   refine .exit<|ks_e<|kl_e<|kb_hit<|ks_n<|.r<|.c .a<|.nn<|.ret ?_
   refine kf_ret rfl ?_ nobox
   exact leafB (by rw[hF,show i=xs.length by omega,eqF_end (by omega)])
theorem eqPrg_fn (x y:Prg) (h:szG x≤1073741824):Fn Tryz.prog 10 [] [ad (rG x),ad (rG y)] (.o (bo1 (sameG x y))) []:=by
 have hsz:szG x=szO szR x.1+szO szPt x.2:=rfl
 have h1:=szO_len (f:=szR) x.1
 have h2:=szO_len (f:=szPt) x.2
 refine Fn.code0 Tryz.func10 rfl rfl rfl rfl ?_
 refine .r<|.c .bp<|.c .bp<|.c .a<|.nn<|.seq<|.r<|.c (.fP 0 0 false)<|.c (.l1 1)<|.c (.fP 0 0 false)<|.c (.l1 1) ?_
 refine .c (.cP [.tmp 6,.tmp 8] rfl rfl rfl rfl (eqArrs_fn _ _ (by omega)) rfl) ?_
 refine .c .nt<|.nn ?_
 refine ACode.condT rfl (fun h10=>?_) (fun h10=>?_)
 ·try simp only[zs]at h10
  refine .r<|.c .a<|.nn<|.ret<|ks_r ?_
  refine kf_ret rfl ?_ nobox
  exact leafB (by rw[sameG];first|(simp[*];done)|grind)
 ·try simp only[zs]at h10
  refine .skip<|ks_n<|.seq<|.r<|.c (.fP 1 0 false)<|.c (.l1 1)<|.c (.fP 1 0 false)<|.c (.l1 1) ?_
  refine .c (.cP [.tmp 12,.tmp 14] rfl rfl rfl rfl (eqPts_fn _ _ (by omega) (fun s hs=>by have:=szO_mem (f:=szPt) hs;omega)) rfl) ?_
  refine .c .nt<|.nn ?_
  refine ACode.condT rfl (fun h16=>?_) (fun h16=>?_)
  ·try simp only[zs]at h16
   refine .r<|.c .a<|.nn<|.ret<|ks_r ?_
   refine kf_ret rfl ?_ nobox
   exact leafB (by rw[sameG];first|(simp[*];done)|grind)
  ·try simp only[zs]at h16
   refine .skip<|ks_n<|.r<|.c .a<|.nn<|.ret ?_
   refine kf_ret rfl ?_ nobox
   exact leafB (by rw[sameG];first|(simp[*];done)|grind)
theorem wgtR_map {α:Type} {f:α→List D} {s:α→Nat} {c:Nat}:∀ {l:List α},(∀x∈l,wgtL (f x)≤c *(1+s x))→wgtR (l.map f)≤c *(l.length+(l.map s).sum)
  |[],_=>by simp[wgtR]
  |x::l,h=>by
    have h1:=h x (by simp)
    have h2:=wgtR_map (f:=f) (s:=s) (c:=c) (l:=l) fun y hy=>h y (by simp[hy])
    rw[List.map_cons,wgtR,List.map_cons,List.sum_cons,List.length_cons]
    have e:c *(l.length+1+(s x+(l.map s).sum))=c *(1+s x)+c *(l.length+(l.map s).sum):=by rw[←Nat.mul_add];congr 1;omega
    omega
theorem wgt_ints (xs:List Int):wgt (dIs xs)=xs.length:=by
  rw[dIs,wgt,wgtR_leafs (by intro r hr;obtain⟨z,_,rfl⟩:=List.mem_map.1 hr;exact⟨_,rfl⟩),List.length_map]
theorem wgt_affs (l:List Aff):wgt (dAs l)≤szAs l:=by
  rw[dAs,wgt,szAs]
  have:=wgtR_map (f:=rA) (s:=fun a=>a.1.length) (c:=1) (l:=l) fun x _=>by simp only[rA,wgtL,wgt_ints];simp[dI,wgt];omega
  rwa[Nat.one_mul]at this
theorem wgt_lps (l:List Lp):wgt (dLs l)≤szLs l:=by
  rw[dLs,wgt,szLs]
  have:=wgtR_map (f:=rL) (s:=szL) (c:=1) (l:=l) fun x _=>by
    have h1:=wgt_affs x.1
    have h2:=wgt_affs x.2
    simp only[rL,wgtL,szL];omega
  rwa[Nat.one_mul]at this
theorem szEs_sum:∀l:List Ex,szEs l=(l.map szE).sum
  |[]=>rfl
  |e::l=>by rw[szEs,szEs_sum l];simp
theorem wgt_ex (e:Ex):wgtL (rX e)≤4 *(1+szE e):=by
  induction e using Ex.rec' with
  |h e ih=>
    rw[szE_eq,szEs_sum]
    have h1:=wgt_affs e.r.2
    have h2:=wgtR_map (f:=rX) (s:=szE) (c:=4) (l:=e.ks) fun x hx=>ih x hx
    have h3:wgt (dEs e.ks)=wgtR (e.ks.map rX):=by
      rw[dEs,wgt,show rE=rX from funext fun e=>rE_eq e]
    simp only[rX,wgtL,wgt_ints,h3,szC]
    simp only[dI,dS,wgt]
    omega
theorem wgt_exs (l:List Ex):wgt (dEs l)≤4 *(l.length+szEs l):=by
  rw[dEs,wgt,szEs_sum,show rE=rX from funext fun e=>rE_eq e]
  exact wgtR_map fun x _=>wgt_ex x
theorem wgt_stm (s:Stm):wgtL (rS s)≤5 *(1+szS s):=by
  have h1:=wgt_affs s.1.2
  have h2:=wgt_affs s.2.r.2
  have h3:=wgt_exs s.2.ks
  have h4:=szE_eq s.2
  simp only[rS,wgtL,wgt_ints,szS,szC]at *
  simp only[dI,dS,wgt]
  omega
theorem wgt_stms (l:List Stm):wgt (dMs l)≤5 *szO szS l:=by
  rw[dMs,wgt,szO]
  exact wgtR_map fun x _=>wgt_stm x
theorem wgt_prts (l:List Prt):wgt (dPts l)≤5 *szO szPt l:=by
  rw[dPts,wgt,szO]
  refine wgtR_map fun x _=>?_
  have h1:=wgt_lps x.1
  have h2:=wgt_stms x.2
  simp only[rP,wgtL,szPt];omega
theorem wgt_arrs (l:List Arr):wgt (dRs l)≤szO szR l:=by
  rw[dRs,wgt,szO]
  have:=wgtR_map (f:=rR) (s:=szR) (c:=1) (l:=l) fun x _=>by simp only[rR,wgtL,wgt_ints,szR];simp only[dS,wgt];omega
  rwa[Nat.one_mul]at this
theorem wgt_prg (g:Prg):wgt (dRs g.1)+wgt (dPts g.2)≤5 *szG g:=by
  have h1:=wgt_arrs g.1
  have h2:=wgt_prts g.2
  rw[szG];omega
/-! ### Marks -/
theorem markInts_k (xs:List Int):MarkC Tryz.prog 72 (dIs xs):=markIntS_k (rows:=xs.map rI) fun r hr=>by obtain⟨z,_,rfl⟩:=List.mem_map.1 hr;exact⟨_,rfl⟩
theorem markAffs_k (l:List Aff):MarkC Tryz.prog 119 (dAs l):=markAffineS_k (rows:=l.map rA) fun r hr=>by obtain⟨a,_,rfl⟩:=List.mem_map.1 hr;exact⟨_,_,rfl,markInts_k _⟩
theorem markLps_k (l:List Lp):MarkC Tryz.prog 73 (dLs l):=markLoopS_k (rows:=l.map rL) fun r hr=>by obtain⟨a,_,rfl⟩:=List.mem_map.1 hr;exact⟨_,_,rfl,markAffs_k _,markAffs_k _⟩
theorem markExs_k:∀(m:Nat) (l:List Ex),(∀e∈l,szE e<m)→MarkC Tryz.prog 120 (dEs l)
  |0,l,h=>markExprS_k (rows:=l.map rE) fun r hr=>by obtain⟨e,he,rfl⟩:=List.mem_map.1 hr;exact absurd (h e he) (by omega)
  |m+1,l,h=>markExprS_k (rows:=l.map rE) fun r hr=>by
    obtain⟨e,he,rfl⟩:=List.mem_map.1 hr
    have h1:=h e he
    rw[szE_eq]at h1
    rw[rE_eq]
    exact⟨_,_,_,_,_,_,_,rfl,markInts_k _,markAffs_k _,markExs_k m e.ks fun x hx=>by have:=szEs_mem hx;have:=List.length_pos_of_mem hx;omega⟩
theorem markExs_all (l:List Ex):MarkC Tryz.prog 120 (dEs l):=markExs_k (szEs l+1) l fun e he=>by have:=szEs_mem he;omega
theorem markStms_k (l:List Stm):MarkC Tryz.prog 74 (dMs l):=markStmtS_k (rows:=l.map rS) fun r hr=>by
  obtain⟨s,_,rfl⟩:=List.mem_map.1 hr
  exact⟨_,_,_,_,_,_,_,_,_,rfl,markAffs_k _,markInts_k _,markAffs_k _,markExs_all _⟩
theorem markPts_k (l:List Prt):MarkC Tryz.prog 35 (dPts l):=markPartS_k (rows:=l.map rP) fun r hr=>by obtain⟨a,_,rfl⟩:=List.mem_map.1 hr;exact⟨_,_,rfl,markLps_k _,markStms_k _⟩
theorem markArrs_k (l:List Arr):MarkC Tryz.prog 34 (dRs l):=markArrayS_k (rows:=l.map rR) fun r hr=>by obtain⟨a,_,rfl⟩:=List.mem_map.1 hr;exact⟨_,_,rfl,markInts_k _⟩
/-! ### Copies -/
theorem copyInts {xs:List Int} (h:xs.length≤1048576):CopyC Tryz.prog 99 (dIs xs):=toIntS_c (rows:=xs.map rI) (fun r hr=>by obtain⟨z,_,rfl⟩:=List.mem_map.1 hr;exact⟨_,rfl⟩) (by simpa using h)
theorem copyAff {a:Aff} (h:a.1.length≤1048576):CopyS Tryz.prog 191 (rA a):=toAffine_c (copyInts h)
theorem copyAffs {l:List Aff} (h:szAs l≤1048576):CopyC Tryz.prog 171 (dAs l):=toAffineS_c (rows:=l.map rA) (fun r hr=>by
  obtain⟨a,ha,rfl⟩:=List.mem_map.1 hr
  exact⟨_,_,rfl,copyAff (by have:=szAs_mem ha;omega)⟩) (by rw[List.length_map];rw[szAs]at h;omega)
theorem copyLps {l:List Lp} (h:szLs l≤1048576):CopyC Tryz.prog 100 (dLs l):=toLoopS_c (rows:=l.map rL) (fun r hr=>by
  obtain⟨a,ha,rfl⟩:=List.mem_map.1 hr
  have h1:=szLs_mem ha
  rw[szL]at h1
  exact⟨_,_,rfl,toLoop_c (copyAffs (by omega)) (copyAffs (by omega))⟩) (by rw[List.length_map];rw[szLs]at h;omega)
theorem copyAcc {a:Acc} (h:szC a≤1048576):CopyS Tryz.prog 172 (rC a):=toAccess_c (copyAffs (by rw[szC]at h;omega))
theorem copyEx:∀e:Ex,szE e≤1048576→CopyS Tryz.prog 173 (rX e):=by
  intro e
  induction e using Ex.rec' with
  |h e ih=>
    intro hs
    rw[szE_eq]at hs
    refine toExpr_c (copyAff (a:=e.i) (by omega)) (copyAcc (a:=e.r) (by omega)) (toExprS_c (rows:=e.ks.map rE) (fun r hr=>?_) (by rw[List.length_map];omega))
    obtain⟨x,hx,rfl⟩:=List.mem_map.1 hr
    rw[rE_eq]
    exact⟨_,_,_,_,_,_,_,rfl,ih x hx (by have:=szEs_mem hx;omega)⟩
theorem copyStms {l:List Stm} (h:szO szS l≤1048576):CopyC Tryz.prog 101 (dMs l):=toStmtS_c (rows:=l.map rS) (fun r hr=>by
  obtain⟨s,hs,rfl⟩:=List.mem_map.1 hr
  have h1:=szO_mem (f:=szS) hs
  have h2:szS s=szC s.1+szE s.2:=rfl
  exact⟨_,_,_,_,_,_,_,_,_,rfl,toStmt_c (copyAcc (a:=s.1) (by omega)) (copyEx s.2 (by omega))⟩) (by rw[List.length_map];rw[szO]at h;omega)
theorem copyPts {l:List Prt} (h:szO szPt l≤1048576):CopyC Tryz.prog 24 (dPts l):=toPartS_c (rows:=l.map rP) (fun r hr=>by
  obtain⟨a,ha,rfl⟩:=List.mem_map.1 hr
  have h1:=szO_mem (f:=szPt) ha
  have h2:szPt a=szLs a.1+szO szS a.2:=rfl
  exact⟨_,_,rfl,toPart_c (copyLps (by omega)) (copyStms (by omega))⟩) (by rw[List.length_map];rw[szO]at h;omega)
theorem copyArrs {l:List Arr} (h:szO szR l≤1048576):CopyC Tryz.prog 23 (dRs l):=toArrayS_c (rows:=l.map rR) (fun r hr=>by
  obtain⟨a,ha,rfl⟩:=List.mem_map.1 hr
  have h1:=szO_mem (f:=szR) ha
  have h2:szR a=a.1.size+a.2.length:=rfl
  exact⟨_,_,rfl,toArray_c (copyInts (by omega))⟩) (by rw[List.length_map];rw[szO]at h;omega)
theorem copyPrg {g:Prg} (h:szG g≤1048576):CopyS Tryz.prog 8 (rG g):=toProgram_c (copyArrs (by rw[szG]at h;omega)) (copyPts (by rw[szG]at h;omega))
def DrUs (w:World) (S:Nat→Prop) (ds:List D) (vs:List Value):Prop:=
  vs.length=ds.length∧∃T:Nat→Nat→Prop,(∀j c,T j c→S c)∧(∀j j' c,T j c→T j' c→j=j')∧∀(j:Nat) d u,ds[j]?=some d→vs[j]?=some u→DrU w (T j) d u
def mkV (tx:Int→ByteArray):Int→List D→List D
  |_,[]=>[]
  |k,.val v::ds=>.val v::mkV tx k ds
  |k,.list sz rows::ds=>mkD tx k (.list sz rows)::mkV tx (k+wgtR rows) ds
  |k,.tree S x::ds=>.tree S x::mkV tx k ds
def wgtV:List D→Nat
  |[]=>0
  | .val _::ds=>wgtV ds
  | .list _ rows::ds=>wgtR rows+wgtV ds
  | .tree _ _::ds=>wgtV ds
section
variable {S S' : Nat → Prop} {w w' : World} {ds : List D} {vs : List Value}
theorem DrUs.frame (hs:∀b,S b→b<w.heap.size→w'.heap[b]?=w.heap[b]?) (h:DrUs w S ds vs):DrUs w' S ds vs:=by
  obtain⟨h1,T,h2,h3,h4⟩:=h
  exact⟨h1,T,h2,h3,fun j d u hd hu=>(h4 j d u hd hu).frame fun b hb hl=>hs b (h2 j b hb) hl⟩
theorem DrUs.fwd (h:DrUs w S ds vs) (hb:Below w.heap.size w w'):DrUs w' S ds vs:=h.frame fun b _ hl=>hb.block b hl
theorem DrUs.sub (hs:∀b,S b→S' b) (h:DrUs w S ds vs):DrUs w S' ds vs:=by
  obtain⟨h1,T,h2,h3,h4⟩:=h
  exact⟨h1,T,fun j c hc=>hs c (h2 j c hc),h3,h4⟩
theorem DrUs.dr (h:DrUs w S ds vs) {j:Nat} {d:D} {u:Value} (hd:ds[j]?=some d) (hu:vs[j]?=some u):Dr S w d u:=by
  obtain⟨h1,T,h2,h3,h4⟩:=h
  exact(h4 j d u hd hu).dr.mono fun b hb _=>h2 j b hb
theorem DrUs.part (h:DrUs w S ds vs) {j:Nat} {d:D} {u:Value} (hd:ds[j]?=some d) (hu:vs[j]?=some u):
    ∃T,DrU w T d u∧(∀c,T c→S c)∧∀w' y,Marked T w w'→DrU w' T y u→DrUs w' S (ds.set j y) vs:=by
  obtain⟨h1,T,h2,h3,h4⟩:=h
  refine⟨T j,h4 j d u hd hu,h2 j,fun w' y hm hy=>⟨by rw[List.length_set];exact h1,T,h2,h3,fun i d' u' hd' hu'=>?_⟩⟩
  rw[List.getElem?_set]at hd'
  by_cases e:j=i
  · subst e
    rw[if_pos rfl,if_pos (List.getElem?_eq_some_iff.1 hd).1]at hd'
    cases hd'
    rw[hu]at hu';cases hu'
    exact hy
  · rw[if_neg e]at hd'
    exact(h4 i d' u' hd' hu').frame fun b hb hl=>hm.old b hl fun hb'=>e (h3 j i b hb' hb)
end
theorem markInts_u (xs:List Int):MarkU Tryz.prog mTx 72 (dIs xs) (wgt (dIs xs)):=markIntS_u (rows:=xs.map rI) fun r hr=>by obtain⟨z,_,rfl⟩:=List.mem_map.1 hr;exact⟨z,rfl⟩
theorem markAffs_u (l:List Aff):MarkU Tryz.prog mTx 119 (dAs l) (wgt (dAs l)):=markAffineS_u (rows:=l.map rA) fun r hr=>by obtain⟨a,_,rfl⟩:=List.mem_map.1 hr;exact⟨_,_,rfl,markInts_u _⟩
theorem markLps_u (l:List Lp):MarkU Tryz.prog mTx 73 (dLs l) (wgt (dLs l)):=markLoopS_u (rows:=l.map rL) fun r hr=>by obtain⟨a,_,rfl⟩:=List.mem_map.1 hr;exact⟨_,_,rfl,markAffs_u _,markAffs_u _⟩
theorem markExs_u:∀(m:Nat) (l:List Ex),(∀e∈l,szE e<m)→MarkU Tryz.prog mTx 120 (dEs l) (wgt (dEs l))
  |0,l,h=>markExprS_u (rows:=l.map rE) fun r hr=>by obtain⟨e,he,rfl⟩:=List.mem_map.1 hr;exact absurd (h e he) (by omega)
  |m+1,l,h=>markExprS_u (rows:=l.map rE) fun r hr=>by
    obtain⟨e,he,rfl⟩:=List.mem_map.1 hr
    have h1:=h e he
    rw[szE_eq]at h1
    rw[rE_eq]
    exact⟨_,_,_,_,_,_,_,rfl,markInts_u _,markAffs_u _,markExs_u m e.ks fun x hx=>by have:=szEs_mem hx;have:=List.length_pos_of_mem hx;omega⟩
theorem markExs_uall (l:List Ex):MarkU Tryz.prog mTx 120 (dEs l) (wgt (dEs l)):=markExs_u (szEs l+1) l fun e he=>by have:=szEs_mem he;omega
theorem markStms_u (l:List Stm):MarkU Tryz.prog mTx 74 (dMs l) (wgt (dMs l)):=markStmtS_u (rows:=l.map rS) fun r hr=>by
  obtain⟨s,_,rfl⟩:=List.mem_map.1 hr
  exact⟨_,_,_,_,_,_,_,_,_,rfl,markAffs_u _,markInts_u _,markAffs_u _,markExs_uall _⟩
theorem markPts_u (l:List Prt):MarkU Tryz.prog mTx 35 (dPts l) (wgt (dPts l)):=markPartS_u (rows:=l.map rP) fun r hr=>by obtain⟨a,_,rfl⟩:=List.mem_map.1 hr;exact⟨_,_,rfl,markLps_u _,markStms_u _⟩
theorem markArrs_u (l:List Arr):MarkU Tryz.prog mTx 34 (dRs l) (wgt (dRs l)):=markArrayS_u (rows:=l.map rR) fun r hr=>by obtain⟨a,_,rfl⟩:=List.mem_map.1 hr;exact⟨_,_,rfl,markInts_u _⟩
def HeldF (P:Program) (f:FuncId) (x:D):Prop:=∀k:Int,0≤k→k+(wgt x:Nat)≤4611686018427387904→Fn P f [] [vD (mkD mTx k x),nat1 k] (.o (nat1 (k+(wgt x:Nat)))) []
theorem markText_fn {k:Int} (h0:0≤k) (h1:k≤4611686018427387904):Fn Tryz.prog 71 [] [nat1 k] (.o (st1 (mTx k))) []:=
  Fn.pure fun B bx al w vs hv=>by
    obtain⟨v,rfl,h⟩:=vals1 hv
    obtain rfl:=dr_int h
    exact(markText_u k w h0 h1).mono fun e w' ⟨he,hb⟩=>⟨_,he,hb,.val _ rfl⟩
theorem heldIntS_u (rows:List (List D)) (h:∀r∈rows,∃(e0:Int),r=[D.val (.int .i64 e0)]) {k:Int} (hk0:0≤k) (hk1:k+(wgtR rows:Nat)≤4611686018427387904) (hl:rows.length≤17592186044416):Fn Tryz.prog 75 [] [vD (.list 1 (mkR mTx k rows)),nat1 k] (.o (nat1 (k+(wgtR rows:Nat)))) []:=by
  have hlen:(mkR mTx k rows).length=rows.length:=mkR_len _ _ _
  refine Fn.code0 Tryz.func75 rfl rfl rfl rfl ?_
  refine .r<|.c .a<|.nn<|.seq<|.r<|.c .a<|.nn<|.block ?_
  refine .loopK (fun m σ=>(∃i:Nat,m=rows.length -i∧(i≤rows.length)∧(True)∧σ=[eD 0 (.list 1 (mkR mTx k rows)),eN 1 (k+(wgtR (rows.take i):Nat)),eN 4 0,eN 5 (i:Nat)])) [] ⟨0,rfl,by omega,trivial,rfl⟩ ⟨kd,ks rfl (.dt (vI (by first|(simp[wgtR];done)|(rw[hs];push_cast;omega)))),kd,kd,trivial⟩ ?_
  rintro m σ ⟨i,hm0,hi,hF,rfl⟩
  refine .seq<|.r<|.c .m<|.c .m<|.c (.ln 3 1 8)<|.c .ls<|.nn ?_
  refine .cD rfl (fun h9=>?_) (fun h9=>?_)
  · skip
    obtain⟨r,hx1⟩:∃x_,rows[i]?=some x_:=⟨_,List.getElem?_eq_getElem (by omega)⟩
    have hs:=wgtR_take hx1
    obtain⟨e0,rfl⟩:=h r (List.mem_of_getElem? hx1)
    have hs:wgtR (rows.take (i+1))=wgtR (rows.take i)+(1):=by rw[hs];simp only[wgtL,wgt];try omega
    have hle:=wgtR_le rows (i+1)
    have hrow:(mkR mTx k rows)[i]?=some [D.val (.int .i64 (k+(wgtR (rows.take i):Nat)))]:=by rw[mkR_at _ _ _ _ _ hx1];simp[mkL,mkD,wgt,wgtL]
    refine .skip<|ks_n<|.seq<|.block<|.seq<|.r<|.c .m<|.c .m ?_
    refine .c (.xL 3 1 8 rfl rfl rfl rfl rfl hrow) ?_
    refine .c (.l1 1)<|.c .m<|.c .ne<|.nn ?_
    refine .cND rfl (fun h17=>?_) (fun h17=>?_)
    · skip
      refine .r<|.c .a<|.nn<|.ret<|ks_r<|kb_r<|ks_r<|kl_r<|kb_r<|ks_r ?_
      refine kf_ret rfl ?_ nobox
      exact absurd rfl h17
    · skip
      refine .skip<|ks_n<|.region<|.c .m<|.c .pl<|.c .a<|.nil<|kb_n<|ks_n<|.region<|.c .m<|.c .pl<|.c .a<|.nil ?_
      refine kl_k [] ⟨i+1,rfl,by omega,trivial,rfl⟩ ⟨kd,ks rfl (.dt (vI (by first|(simp[wgtR];done)|(rw[hs];push_cast;omega)))),kd,kd,trivial⟩
  · skip
    refine .exit<|ks_e<|kl_e<|kb_hit<|ks_n<|.r<|.c .m<|.c .a<|.nn<|.ret ?_
    refine kf_ret rfl ?_ nobox
    exact leafI (by have hall:rows.take i=rows:=List.take_of_length_le (by omega);rw[hall])
theorem heldArrayS_u (rows:List (List D)) (h:∀r∈rows,∃(e0:ByteArray),∃(x1:D),r=[D.val (.string e0),x1]∧HeldF Tryz.prog 75 x1) {k:Int} (hk0:0≤k) (hk1:k+(wgtR rows:Nat)≤4611686018427387904) (hl:rows.length≤17592186044416):Fn Tryz.prog 36 [] [vD (.list 2 (mkR mTx k rows)),nat1 k] (.o (nat1 (k+(wgtR rows:Nat)))) []:=by
 have hlen:(mkR mTx k rows).length=rows.length:=mkR_len _ _ _
 refine Fn.code0 Tryz.func36 rfl rfl rfl rfl ?_
 refine .r<|.c .a<|.nn<|.seq<|.r<|.c .a<|.nn<|.block ?_
 refine .loopK (fun m σ=>(∃i:Nat,m=rows.length -i∧(i≤rows.length)∧(True)∧σ=[eD 0 (.list 2 (mkR mTx k rows)),eN 1 (k+(wgtR (rows.take i):Nat)),eN 4 0,eN 5 (i:Nat)])) [] ⟨0,rfl,by omega,trivial,rfl⟩ ⟨kd,ks rfl (.dt (vI (by first|(simp[wgtR];done)|(rw[hs];push_cast;omega)))),kd,kd,trivial⟩ ?_
 rintro m σ ⟨i,hm0,hi,hF,rfl⟩
 refine .seq<|.r<|.c .m<|.c .m<|.c (.ln 45 2 40)<|.c .ls<|.nn ?_
 refine .cD rfl (fun h9=>?_) (fun h9=>?_)
 ·skip
  obtain⟨r,hx1⟩:∃x_,rows[i]?=some x_:=⟨_,List.getElem?_eq_getElem (by omega)⟩
  have hs:=wgtR_take hx1
  obtain⟨e0,x1,rfl,q1⟩:=h r (List.mem_of_getElem? hx1)
  have hs:wgtR (rows.take (i+1))=wgtR (rows.take i)+(1+wgt x1):=by rw[hs];simp only[wgtL,wgt];try omega
  have hle:=wgtR_le rows (i+1)
  have hrow:(mkR mTx k rows)[i]?=some [D.val (.string (mTx (k+(wgtR (rows.take i):Nat)))),mkD mTx (k+(wgtR (rows.take i):Nat)+1) x1]:=by rw[mkR_at _ _ _ _ _ hx1];simp[mkL,mkD,wgt,wgtL]
  refine .skip<|ks_n<|.seq<|.block<|.seq<|.seq ?_
  refine ACode.drawK (by kernel_rfl) (by kernel_rfl) ?_
  refine .c .m<|.c .m ?_
  refine .c (.xL 45 2 40 rfl rfl rfl rfl rfl hrow) ?_
  refine .c (.fP 0 0 false)<|.c (.l1 1)<|.c .m ?_
  refine .c (.cP [.tmp 17] rfl rfl rfl rfl (markText_fn (k:=k+(wgtR (rows.take i):Nat)) (by omega) (by omega)) rfl) ?_
  refine .c (St1.neS rfl rfl rfl) ?_
  refine .nil ⟨by kernel_rfl,?_⟩
  refine ks_n ?_
  refine ACode.condT rfl (fun h19=>?_) (fun h19=>?_)
  ·try simp only[zs]at h19
   refine .r<|.c .a<|.nn<|.ret<|ks_r<|kb_r<|ks_r<|kl_r<|kb_r<|ks_r ?_
   refine kf_ret rfl ?_ nobox
   simp[sEq]at h19
  ·try simp only[zs]at h19
   refine .skip<|ks_n<|.r<|.c .m<|.c .pl<|.c .a<|.r<|.c .m<|.c .m ?_
   refine .c (.xL 45 2 40 rfl rfl rfl rfl rfl hrow) ?_
   refine .c (.fP 1 0 false)<|.c (.l1 1)<|.c .m ?_
   refine .c (.cP [.tmp 26,.tmp 27] rfl rfl rfl rfl (q1 (k+(wgtR (rows.take i):Nat)+1) (by omega) (by omega)) rfl) ?_
   refine .c .a<|.r<|.c .m<|.c .ls<|.nn ?_
   refine .cD rfl (fun h30=>?_) (fun h30=>?_)
   ·skip
    refine .r<|.c .a<|.nn<|.ret<|kb_r<|ks_r<|kl_r<|kb_r<|ks_r ?_
    refine kf_ret rfl ?_ nobox
    exact absurd h30 (by omega)
   ·skip
    refine .skip<|kb_n<|ks_n<|.region<|.c .m<|.c .pl<|.c .a<|.nil ?_
    refine kl_k [] ⟨i+1,rfl,by omega,trivial,rfl⟩ ⟨kd,ks rfl (.dt (vI (by first|(simp[wgtR];done)|(rw[hs];push_cast;omega)))),kd,kd,trivial⟩
 ·skip
  refine .exit<|ks_e<|kl_e<|kb_hit<|ks_n<|.r<|.c .m<|.c .a<|.nn<|.ret ?_
  refine kf_ret rfl ?_ nobox
  exact leafI (by have hall:rows.take i=rows:=List.take_of_length_le (by omega);rw[hall])
theorem heldAffineS_u (rows:List (List D)) (h:∀r∈rows,∃(x0:D),∃(e1:Int),r=[x0,D.val (.int .i64 e1)]∧HeldF Tryz.prog 75 x0) {k:Int} (hk0:0≤k) (hk1:k+(wgtR rows:Nat)≤4611686018427387904) (hl:rows.length≤17592186044416):Fn Tryz.prog 121 [] [vD (.list 2 (mkR mTx k rows)),nat1 k] (.o (nat1 (k+(wgtR rows:Nat)))) []:=by
  have hlen:(mkR mTx k rows).length=rows.length:=mkR_len _ _ _
  refine Fn.code0 Tryz.func121 rfl rfl rfl rfl ?_
  refine .r<|.c .a<|.nn<|.seq<|.r<|.c .a<|.nn<|.block ?_
  refine .loopK (fun m σ=>(∃i:Nat,m=rows.length -i∧(i≤rows.length)∧(True)∧σ=[eD 0 (.list 2 (mkR mTx k rows)),eN 1 (k+(wgtR (rows.take i):Nat)),eN 4 0,eN 5 (i:Nat)])) [] ⟨0,rfl,by omega,trivial,rfl⟩ ⟨kd,ks rfl (.dt (vI (by first|(simp[wgtR];done)|(rw[hs];push_cast;omega)))),kd,kd,trivial⟩ ?_
  rintro m σ ⟨i,hm0,hi,hF,rfl⟩
  refine .seq<|.r<|.c .m<|.c .m<|.c (.ln 61 2 32)<|.c .ls<|.nn ?_
  refine .cD rfl (fun h9=>?_) (fun h9=>?_)
  · skip
    obtain⟨r,hx1⟩:∃x_,rows[i]?=some x_:=⟨_,List.getElem?_eq_getElem (by omega)⟩
    have hs:=wgtR_take hx1
    obtain⟨x0,e1,rfl,q0⟩:=h r (List.mem_of_getElem? hx1)
    have hs:wgtR (rows.take (i+1))=wgtR (rows.take i)+(wgt x0+1):=by rw[hs];simp only[wgtL,wgt];try omega
    have hle:=wgtR_le rows (i+1)
    have hrow:(mkR mTx k rows)[i]?=some [mkD mTx (k+(wgtR (rows.take i):Nat)) x0,D.val (.int .i64 (k+(wgtR (rows.take i):Nat)+(wgt x0:Nat)))]:=by rw[mkR_at _ _ _ _ _ hx1];simp[mkL,mkD,wgt,wgtL]
    refine .skip<|ks_n<|.seq<|.block<|.r<|.c .m<|.c .m ?_
    refine .c (.xL 61 2 32 rfl rfl rfl rfl rfl hrow) ?_
    refine .c (.fP 0 0 false)<|.c (.l1 1)<|.c .m ?_
    refine .c (.cP [.tmp 16,.tmp 17] rfl rfl rfl rfl (q0 (k+(wgtR (rows.take i):Nat)) (by omega) (by omega)) rfl) ?_
    refine .c .a<|.nn<|.seq<|.r<|.c .m<|.c .ls<|.nn ?_
    refine .cD rfl (fun h20=>?_) (fun h20=>?_)
    · skip
      refine .r<|.c .a<|.nn<|.ret<|ks_r<|kb_r<|ks_r<|kl_r<|kb_r<|ks_r ?_
      refine kf_ret rfl ?_ nobox
      exact absurd h20 (by omega)
    · skip
      refine .skip<|ks_n<|.seq<|.r<|.c .m<|.c .m ?_
      refine .c (.xL 61 2 32 rfl rfl rfl rfl rfl hrow) ?_
      refine .c (.fP 1 0 false)<|.c (.l1 1)<|.c .m<|.c .ne<|.nn ?_
      refine .cND rfl (fun h27=>?_) (fun h27=>?_)
      · skip
        refine .r<|.c .a<|.nn<|.ret<|ks_r<|kb_r<|ks_r<|kl_r<|kb_r<|ks_r ?_
        refine kf_ret rfl ?_ nobox
        exact absurd rfl h27
      · skip
        refine .skip<|ks_n<|.region<|.c .m<|.c .pl<|.c .a<|.nil<|kb_n<|ks_n<|.region<|.c .m<|.c .pl<|.c .a<|.nil ?_
        refine kl_k [] ⟨i+1,rfl,by omega,trivial,rfl⟩ ⟨kd,ks rfl (.dt (vI (by first|(simp[wgtR];done)|(rw[hs];push_cast;omega)))),kd,kd,trivial⟩
  · skip
    refine .exit<|ks_e<|kl_e<|kb_hit<|ks_n<|.r<|.c .m<|.c .a<|.nn<|.ret ?_
    refine kf_ret rfl ?_ nobox
    exact leafI (by have hall:rows.take i=rows:=List.take_of_length_le (by omega);rw[hall])
theorem heldLoopS_u (rows:List (List D)) (h:∀r∈rows,∃(x0:D),∃(x1:D),r=[x0,x1]∧HeldF Tryz.prog 121 x0∧HeldF Tryz.prog 121 x1) {k:Int} (hk0:0≤k) (hk1:k+(wgtR rows:Nat)≤4611686018427387904) (hl:rows.length≤17592186044416):Fn Tryz.prog 76 [] [vD (.list 2 (mkR mTx k rows)),nat1 k] (.o (nat1 (k+(wgtR rows:Nat)))) []:=by
  have hlen:(mkR mTx k rows).length=rows.length:=mkR_len _ _ _
  refine Fn.code0 Tryz.func76 rfl rfl rfl rfl ?_
  refine .r<|.c .a<|.nn<|.seq<|.r<|.c .a<|.nn<|.block ?_
  refine .loopK (fun m σ=>(∃i:Nat,m=rows.length -i∧(i≤rows.length)∧(True)∧σ=[eD 0 (.list 2 (mkR mTx k rows)),eN 1 (k+(wgtR (rows.take i):Nat)),eN 4 0,eN 5 (i:Nat)])) [] ⟨0,rfl,by omega,trivial,rfl⟩ ⟨kd,ks rfl (.dt (vI (by first|(simp[wgtR];done)|(rw[hs];push_cast;omega)))),kd,kd,trivial⟩ ?_
  rintro m σ ⟨i,hm0,hi,hF,rfl⟩
  refine .seq<|.r<|.c .m<|.c .m<|.c (.ln 148 2 48)<|.c .ls<|.nn ?_
  refine .cD rfl (fun h9=>?_) (fun h9=>?_)
  · skip
    obtain⟨r,hx1⟩:∃x_,rows[i]?=some x_:=⟨_,List.getElem?_eq_getElem (by omega)⟩
    have hs:=wgtR_take hx1
    obtain⟨x0,x1,rfl,q0,q1⟩:=h r (List.mem_of_getElem? hx1)
    have hs:wgtR (rows.take (i+1))=wgtR (rows.take i)+(wgt x0+wgt x1):=by rw[hs];simp only[wgtL,wgt];try omega
    have hle:=wgtR_le rows (i+1)
    have hrow:(mkR mTx k rows)[i]?=some [mkD mTx (k+(wgtR (rows.take i):Nat)) x0,mkD mTx (k+(wgtR (rows.take i):Nat)+(wgt x0:Nat)) x1]:=by rw[mkR_at _ _ _ _ _ hx1];simp[mkL,mkD,wgt,wgtL]
    refine .skip<|ks_n<|.seq<|.block<|.r<|.c .m<|.c .m ?_
    refine .c (.xL 148 2 48 rfl rfl rfl rfl rfl hrow) ?_
    refine .c (.fP 0 0 false)<|.c (.l1 1)<|.c .m ?_
    refine .c (.cP [.tmp 16,.tmp 17] rfl rfl rfl rfl (q0 (k+(wgtR (rows.take i):Nat)) (by omega) (by omega)) rfl) ?_
    refine .c .a<|.nn<|.seq<|.r<|.c .m<|.c .ls<|.nn ?_
    refine .cD rfl (fun h20=>?_) (fun h20=>?_)
    · skip
      refine .r<|.c .a<|.nn<|.ret<|ks_r<|kb_r<|ks_r<|kl_r<|kb_r<|ks_r ?_
      refine kf_ret rfl ?_ nobox
      exact absurd h20 (by omega)
    · skip
      refine .skip<|ks_n<|.r<|.c .m<|.c .m ?_
      refine .c (.xL 148 2 48 rfl rfl rfl rfl rfl hrow) ?_
      refine .c (.fP 1 0 false)<|.c (.l1 1)<|.c .m ?_
      refine .c (.cP [.tmp 25,.tmp 26] rfl rfl rfl rfl (q1 (k+(wgtR (rows.take i):Nat)+(wgt x0:Nat)) (by omega) (by omega)) rfl) ?_
      refine .c .a<|.r<|.c .m<|.c .ls<|.nn ?_
      refine .cD rfl (fun h29=>?_) (fun h29=>?_)
      · skip
        refine .r<|.c .a<|.nn<|.ret<|kb_r<|ks_r<|kl_r<|kb_r<|ks_r ?_
        refine kf_ret rfl ?_ nobox
        exact absurd h29 (by omega)
      · skip
        refine .skip<|kb_n<|ks_n<|.region<|.c .m<|.c .pl<|.c .a<|.nil ?_
        refine kl_k [] ⟨i+1,rfl,by omega,trivial,rfl⟩ ⟨kd,ks rfl (.dt (vI (by first|(simp[wgtR];done)|(rw[hs];push_cast;omega)))),kd,kd,trivial⟩
  · skip
    refine .exit<|ks_e<|kl_e<|kb_hit<|ks_n<|.r<|.c .m<|.c .a<|.nn<|.ret ?_
    refine kf_ret rfl ?_ nobox
    exact leafI (by have hall:rows.take i=rows:=List.take_of_length_le (by omega);rw[hall])
theorem heldExprS_u (rows:List (List D)) (h:∀r∈rows,∃(e0:Int),∃(e1:Int),∃(x2:D),∃(e3:Int),∃(e4:ByteArray),∃(x5:D),∃(x6:D),r=[D.val (.int .i64 e0),D.val (.int .i64 e1),x2,D.val (.int .i64 e3),D.val (.string e4),x5,x6]∧HeldF Tryz.prog 75 x2∧HeldF Tryz.prog 121 x5∧HeldF Tryz.prog 122 x6) {k:Int} (hk0:0≤k) (hk1:k+(wgtR rows:Nat)≤4611686018427387904) (hl:rows.length≤17592186044416):Fn Tryz.prog 122 [] [vD (.list 7 (mkR mTx k rows)),nat1 k] (.o (nat1 (k+(wgtR rows:Nat)))) []:=by
 have hlen:(mkR mTx k rows).length=rows.length:=mkR_len _ _ _
 refine Fn.code0 Tryz.func122 rfl rfl rfl rfl ?_
 refine .r<|.c .a<|.nn<|.seq<|.r<|.c .a<|.nn<|.block ?_
 refine .loopK (fun m σ=>(∃i:Nat,m=rows.length -i∧(i≤rows.length)∧(True)∧σ=[eD 0 (.list 7 (mkR mTx k rows)),eN 1 (k+(wgtR (rows.take i):Nat)),eN 4 0,eN 5 (i:Nat)])) [] ⟨0,rfl,by omega,trivial,rfl⟩ ⟨kd,ks rfl (.dt (vI (by first|(simp[wgtR];done)|(rw[hs];push_cast;omega)))),kd,kd,trivial⟩ ?_
 rintro m σ ⟨i,hm0,hi,hF,rfl⟩
 refine .seq<|.r<|.c .m<|.c .m<|.c (.ln 64 7 112)<|.c .ls<|.nn ?_
 refine .cD rfl (fun h9=>?_) (fun h9=>?_)
 ·skip
  obtain⟨r,hx1⟩:∃x_,rows[i]?=some x_:=⟨_,List.getElem?_eq_getElem (by omega)⟩
  have hs:=wgtR_take hx1
  obtain⟨e0,e1,x2,e3,e4,x5,x6,rfl,q2,q5,q6⟩:=h r (List.mem_of_getElem? hx1)
  have hs:wgtR (rows.take (i+1))=wgtR (rows.take i)+(1+1+wgt x2+1+1+wgt x5+wgt x6):=by rw[hs];simp only[wgtL,wgt];try omega
  have hle:=wgtR_le rows (i+1)
  have hrow:(mkR mTx k rows)[i]?=some [D.val (.int .i64 (k+(wgtR (rows.take i):Nat))),D.val (.int .i64 (k+(wgtR (rows.take i):Nat)+1)),mkD mTx (k+(wgtR (rows.take i):Nat)+1+1) x2,D.val (.int .i64 (k+(wgtR (rows.take i):Nat)+1+1+(wgt x2:Nat))),D.val (.string (mTx (k+(wgtR (rows.take i):Nat)+1+1+(wgt x2:Nat)+1))),mkD mTx (k+(wgtR (rows.take i):Nat)+1+1+(wgt x2:Nat)+1+1) x5,mkD mTx (k+(wgtR (rows.take i):Nat)+1+1+(wgt x2:Nat)+1+1+(wgt x5:Nat)) x6]:=by rw[mkR_at _ _ _ _ _ hx1];simp[mkL,mkD,wgt,wgtL]
  refine .skip<|ks_n<|.seq<|.block<|.seq<|.r<|.c .m<|.c .m ?_
  refine .c (.xL 64 7 112 rfl rfl rfl rfl rfl hrow) ?_
  refine .c (.fP 0 0 false)<|.c (.l1 1)<|.c .m<|.c .ne<|.nn ?_
  refine .cND rfl (fun h18=>?_) (fun h18=>?_)
  ·skip
   refine .r<|.c .a<|.nn<|.ret<|ks_r<|kb_r<|ks_r<|kl_r<|kb_r<|ks_r ?_
   refine kf_ret rfl ?_ nobox
   exact absurd rfl h18
  ·skip
   refine .skip<|ks_n<|.r<|.c .m<|.c .pl<|.c .a<|.nn<|.seq<|.r<|.c .m<|.c .m ?_
   refine .c (.xL 64 7 112 rfl rfl rfl rfl rfl hrow) ?_
   refine .c (.fP 1 0 false)<|.c (.l1 1)<|.c .m<|.c .ne<|.nn ?_
   refine .cND rfl (fun h27=>?_) (fun h27=>?_)
   ·skip
    refine .r<|.c .a<|.nn<|.ret<|ks_r<|kb_r<|ks_r<|kl_r<|kb_r<|ks_r ?_
    refine kf_ret rfl ?_ nobox
    exact absurd rfl h27
   ·skip
    refine .skip<|ks_n<|.r<|.c .m<|.c .pl<|.c .a<|.r<|.c .m<|.c .m ?_
    refine .c (.xL 64 7 112 rfl rfl rfl rfl rfl hrow) ?_
    refine .c (.fP 2 1 true)<|.c (.fP 0 0 false)<|.c (.l1 1)<|.c .m ?_
    refine .c (.cP [.tmp 35,.tmp 36] rfl rfl rfl rfl (q2 (k+(wgtR (rows.take i):Nat)+1+1) (by omega) (by omega)) rfl) ?_
    refine .c .a<|.nn<|.seq<|.r<|.c .m<|.c .ls<|.nn ?_
    refine .cD rfl (fun h39=>?_) (fun h39=>?_)
    ·skip
     refine .r<|.c .a<|.nn<|.ret<|ks_r<|kb_r<|ks_r<|kl_r<|kb_r<|ks_r ?_
     refine kf_ret rfl ?_ nobox
     exact absurd h39 (by omega)
    ·skip
     refine .skip<|ks_n<|.seq<|.r<|.c .m<|.c .m ?_
     refine .c (.xL 64 7 112 rfl rfl rfl rfl rfl hrow) ?_
     refine .c (.fP 2 1 true)<|.c (.fP 1 0 false)<|.c (.l1 1)<|.c .m<|.c .ne<|.nn ?_
     refine .cND rfl (fun h47=>?_) (fun h47=>?_)
     ·skip
      refine .r<|.c .a<|.nn<|.ret<|ks_r<|kb_r<|ks_r<|kl_r<|kb_r<|ks_r ?_
      refine kf_ret rfl ?_ nobox
      exact absurd rfl h47
     ·skip
      refine .skip<|ks_n<|.r<|.c .m<|.c .pl<|.c .a<|.nn<|.seq<|.seq ?_
      refine ACode.drawK (by kernel_rfl) (by kernel_rfl) ?_
      refine .c .m<|.c .m ?_
      refine .c (.xL 64 7 112 rfl rfl rfl rfl rfl hrow) ?_
      refine .c (.fP 4 1 true)<|.c (.fP 0 0 false)<|.c (.l1 1)<|.c .m ?_
      refine .c (.cP [.tmp 56] rfl rfl rfl rfl (markText_fn (k:=k+(wgtR (rows.take i):Nat)+1+1+(wgt x2:Nat)+1) (by omega) (by omega)) rfl) ?_
      refine .c (St1.neS rfl rfl rfl) ?_
      refine .nil ⟨by kernel_rfl,?_⟩
      refine ks_n ?_
      refine ACode.condT rfl (fun h58=>?_) (fun h58=>?_)
      ·try simp only[zs]at h58
       refine .r<|.c .a<|.nn<|.ret<|ks_r<|kb_r<|ks_r<|kl_r<|kb_r<|ks_r ?_
       refine kf_ret rfl ?_ nobox
       simp[sEq]at h58
      ·try simp only[zs]at h58
       refine .skip<|ks_n<|.r<|.c .m<|.c .pl<|.c .a<|.r<|.c .m<|.c .m ?_
       refine .c (.xL 64 7 112 rfl rfl rfl rfl rfl hrow) ?_
       refine .c (.fP 4 1 true)<|.c (.fP 1 0 false)<|.c (.l1 1)<|.c .m ?_
       refine .c (.cP [.tmp 66,.tmp 67] rfl rfl rfl rfl (q5 (k+(wgtR (rows.take i):Nat)+1+1+(wgt x2:Nat)+1+1) (by omega) (by omega)) rfl) ?_
       refine .c .a<|.nn<|.seq<|.r<|.c .m<|.c .ls<|.nn ?_
       refine .cD rfl (fun h70=>?_) (fun h70=>?_)
       ·skip
        refine .r<|.c .a<|.nn<|.ret<|ks_r<|kb_r<|ks_r<|kl_r<|kb_r<|ks_r ?_
        refine kf_ret rfl ?_ nobox
        exact absurd h70 (by omega)
       ·skip
        refine .skip<|ks_n<|.r<|.c .m<|.c .m ?_
        refine .c (.xL 64 7 112 rfl rfl rfl rfl rfl hrow) ?_
        refine .c (.fP 6 0 false)<|.c (.l1 1)<|.c .m ?_
        refine .c (.cP [.tmp 75,.tmp 76] rfl rfl rfl rfl (q6 (k+(wgtR (rows.take i):Nat)+1+1+(wgt x2:Nat)+1+1+(wgt x5:Nat)) (by omega) (by omega)) rfl) ?_
        refine .c .a<|.r<|.c .m<|.c .ls<|.nn ?_
        refine .cD rfl (fun h79=>?_) (fun h79=>?_)
        ·skip
         refine .r<|.c .a<|.nn<|.ret<|kb_r<|ks_r<|kl_r<|kb_r<|ks_r ?_
         refine kf_ret rfl ?_ nobox
         exact absurd h79 (by omega)
        ·skip
         refine .skip<|kb_n<|ks_n<|.region<|.c .m<|.c .pl<|.c .a<|.nil ?_
         refine kl_k [] ⟨i+1,rfl,by omega,trivial,rfl⟩ ⟨kd,ks rfl (.dt (vI (by first|(simp[wgtR];done)|(rw[hs];push_cast;omega)))),kd,kd,trivial⟩
 ·skip
  refine .exit<|ks_e<|kl_e<|kb_hit<|ks_n<|.r<|.c .m<|.c .a<|.nn<|.ret ?_
  refine kf_ret rfl ?_ nobox
  exact leafI (by have hall:rows.take i=rows:=List.take_of_length_le (by omega);rw[hall])
theorem heldStmtS_u (rows:List (List D)) (h:∀r∈rows,∃(e0:ByteArray),∃(x1:D),∃(e2:Int),∃(e3:Int),∃(x4:D),∃(e5:Int),∃(e6:ByteArray),∃(x7:D),∃(x8:D),r=[D.val (.string e0),x1,D.val (.int .i64 e2),D.val (.int .i64 e3),x4,D.val (.int .i64 e5),D.val (.string e6),x7,x8]∧HeldF Tryz.prog 121 x1∧HeldF Tryz.prog 75 x4∧HeldF Tryz.prog 121 x7∧HeldF Tryz.prog 122 x8) {k:Int} (hk0:0≤k) (hk1:k+(wgtR rows:Nat)≤4611686018427387904) (hl:rows.length≤17592186044416):Fn Tryz.prog 77 [] [vD (.list 9 (mkR mTx k rows)),nat1 k] (.o (nat1 (k+(wgtR rows:Nat)))) []:=by
 have hlen:(mkR mTx k rows).length=rows.length:=mkR_len _ _ _
 refine Fn.code0 Tryz.func77 rfl rfl rfl rfl ?_
 refine .r<|.c .a<|.nn<|.seq<|.r<|.c .a<|.nn<|.block ?_
 refine .loopK (fun m σ=>(∃i:Nat,m=rows.length -i∧(i≤rows.length)∧(True)∧σ=[eD 0 (.list 9 (mkR mTx k rows)),eN 1 (k+(wgtR (rows.take i):Nat)),eN 4 0,eN 5 (i:Nat)])) [] ⟨0,rfl,by omega,trivial,rfl⟩ ⟨kd,ks rfl (.dt (vI (by first|(simp[wgtR];done)|(rw[hs];push_cast;omega)))),kd,kd,trivial⟩ ?_
 rintro m σ ⟨i,hm0,hi,hF,rfl⟩
 refine .seq<|.r<|.c .m<|.c .m<|.c (.ln 66 9 152)<|.c .ls<|.nn ?_
 refine .cD rfl (fun h9=>?_) (fun h9=>?_)
 ·skip
  obtain⟨r,hx1⟩:∃x_,rows[i]?=some x_:=⟨_,List.getElem?_eq_getElem (by omega)⟩
  have hs:=wgtR_take hx1
  obtain⟨e0,x1,e2,e3,x4,e5,e6,x7,x8,rfl,q1,q4,q7,q8⟩:=h r (List.mem_of_getElem? hx1)
  have hs:wgtR (rows.take (i+1))=wgtR (rows.take i)+(1+wgt x1+1+1+wgt x4+1+1+wgt x7+wgt x8):=by rw[hs];simp only[wgtL,wgt];try omega
  have hle:=wgtR_le rows (i+1)
  have hrow:(mkR mTx k rows)[i]?=some [D.val (.string (mTx (k+(wgtR (rows.take i):Nat)))),mkD mTx (k+(wgtR (rows.take i):Nat)+1) x1,D.val (.int .i64 (k+(wgtR (rows.take i):Nat)+1+(wgt x1:Nat))),D.val (.int .i64 (k+(wgtR (rows.take i):Nat)+1+(wgt x1:Nat)+1)),mkD mTx (k+(wgtR (rows.take i):Nat)+1+(wgt x1:Nat)+1+1) x4,D.val (.int .i64 (k+(wgtR (rows.take i):Nat)+1+(wgt x1:Nat)+1+1+(wgt x4:Nat))),D.val (.string (mTx (k+(wgtR (rows.take i):Nat)+1+(wgt x1:Nat)+1+1+(wgt x4:Nat)+1))),mkD mTx (k+(wgtR (rows.take i):Nat)+1+(wgt x1:Nat)+1+1+(wgt x4:Nat)+1+1) x7,mkD mTx (k+(wgtR (rows.take i):Nat)+1+(wgt x1:Nat)+1+1+(wgt x4:Nat)+1+1+(wgt x7:Nat)) x8]:=by rw[mkR_at _ _ _ _ _ hx1];simp[mkL,mkD,wgt,wgtL]
  refine .skip<|ks_n<|.seq<|.block<|.seq<|.seq ?_
  refine ACode.drawK (by kernel_rfl) (by kernel_rfl) ?_
  refine .c .m<|.c .m ?_
  refine .c (.xL 66 9 152 rfl rfl rfl rfl rfl hrow) ?_
  refine .c (.fP 0 1 true)<|.c (.fP 0 0 false)<|.c (.l1 1)<|.c .m ?_
  refine .c (.cP [.tmp 18] rfl rfl rfl rfl (markText_fn (k:=k+(wgtR (rows.take i):Nat)) (by omega) (by omega)) rfl) ?_
  refine .c (St1.neS rfl rfl rfl) ?_
  refine .nil ⟨by kernel_rfl,?_⟩
  refine ks_n ?_
  refine ACode.condT rfl (fun h20=>?_) (fun h20=>?_)
  ·try simp only[zs]at h20
   refine .r<|.c .a<|.nn<|.ret<|ks_r<|kb_r<|ks_r<|kl_r<|kb_r<|ks_r ?_
   refine kf_ret rfl ?_ nobox
   simp[sEq]at h20
  ·try simp only[zs]at h20
   refine .skip<|ks_n<|.r<|.c .m<|.c .pl<|.c .a<|.r<|.c .m<|.c .m ?_
   refine .c (.xL 66 9 152 rfl rfl rfl rfl rfl hrow) ?_
   refine .c (.fP 0 1 true)<|.c (.fP 1 0 false)<|.c (.l1 1)<|.c .m ?_
   refine .c (.cP [.tmp 28,.tmp 29] rfl rfl rfl rfl (q1 (k+(wgtR (rows.take i):Nat)+1) (by omega) (by omega)) rfl) ?_
   refine .c .a<|.nn<|.seq<|.r<|.c .m<|.c .ls<|.nn ?_
   refine .cD rfl (fun h32=>?_) (fun h32=>?_)
   ·skip
    refine .r<|.c .a<|.nn<|.ret<|ks_r<|kb_r<|ks_r<|kl_r<|kb_r<|ks_r ?_
    refine kf_ret rfl ?_ nobox
    exact absurd h32 (by omega)
   ·skip
    refine .skip<|ks_n<|.seq<|.r<|.c .m<|.c .m ?_
    refine .c (.xL 66 9 152 rfl rfl rfl rfl rfl hrow) ?_
    refine .c (.fP 2 6 true)<|.c (.fP 0 0 false)<|.c (.l1 1)<|.c .m<|.c .ne<|.nn ?_
    refine .cND rfl (fun h40=>?_) (fun h40=>?_)
    ·skip
     refine .r<|.c .a<|.nn<|.ret<|ks_r<|kb_r<|ks_r<|kl_r<|kb_r<|ks_r ?_
     refine kf_ret rfl ?_ nobox
     exact absurd rfl h40
    ·skip
     refine .skip<|ks_n<|.r<|.c .m<|.c .pl<|.c .a<|.nn<|.seq<|.r<|.c .m<|.c .m ?_
     refine .c (.xL 66 9 152 rfl rfl rfl rfl rfl hrow) ?_
     refine .c (.fP 2 6 true)<|.c (.fP 1 0 false)<|.c (.l1 1)<|.c .m<|.c .ne<|.nn ?_
     refine .cND rfl (fun h50=>?_) (fun h50=>?_)
     ·skip
      refine .r<|.c .a<|.nn<|.ret<|ks_r<|kb_r<|ks_r<|kl_r<|kb_r<|ks_r ?_
      refine kf_ret rfl ?_ nobox
      exact absurd rfl h50
     ·skip
      refine .skip<|ks_n<|.r<|.c .m<|.c .pl<|.c .a<|.r<|.c .m<|.c .m ?_
      refine .c (.xL 66 9 152 rfl rfl rfl rfl rfl hrow) ?_
      refine .c (.fP 2 6 true)<|.c (.fP 2 1 true)<|.c (.fP 0 0 false)<|.c (.l1 1)<|.c .m ?_
      refine .c (.cP [.tmp 59,.tmp 60] rfl rfl rfl rfl (q4 (k+(wgtR (rows.take i):Nat)+1+(wgt x1:Nat)+1+1) (by omega) (by omega)) rfl) ?_
      refine .c .a<|.nn<|.seq<|.r<|.c .m<|.c .ls<|.nn ?_
      refine .cD rfl (fun h63=>?_) (fun h63=>?_)
      ·skip
       refine .r<|.c .a<|.nn<|.ret<|ks_r<|kb_r<|ks_r<|kl_r<|kb_r<|ks_r ?_
       refine kf_ret rfl ?_ nobox
       exact absurd h63 (by omega)
      ·skip
       refine .skip<|ks_n<|.seq<|.r<|.c .m<|.c .m ?_
       refine .c (.xL 66 9 152 rfl rfl rfl rfl rfl hrow) ?_
       refine .c (.fP 2 6 true)<|.c (.fP 2 1 true)<|.c (.fP 1 0 false)<|.c (.l1 1)<|.c .m<|.c .ne<|.nn ?_
       refine .cND rfl (fun h72=>?_) (fun h72=>?_)
       ·skip
        refine .r<|.c .a<|.nn<|.ret<|ks_r<|kb_r<|ks_r<|kl_r<|kb_r<|ks_r ?_
        refine kf_ret rfl ?_ nobox
        exact absurd rfl h72
       ·skip
        refine .skip<|ks_n<|.r<|.c .m<|.c .pl<|.c .a<|.nn<|.seq<|.seq ?_
        refine ACode.drawK (by kernel_rfl) (by kernel_rfl) ?_
        refine .c .m<|.c .m ?_
        refine .c (.xL 66 9 152 rfl rfl rfl rfl rfl hrow) ?_
        refine .c (.fP 2 6 true)<|.c (.fP 4 1 true)<|.c (.fP 0 0 false)<|.c (.l1 1)<|.c .m ?_
        refine .c (.cP [.tmp 82] rfl rfl rfl rfl (markText_fn (k:=k+(wgtR (rows.take i):Nat)+1+(wgt x1:Nat)+1+1+(wgt x4:Nat)+1) (by omega) (by omega)) rfl) ?_
        refine .c (St1.neS rfl rfl rfl) ?_
        refine .nil ⟨by kernel_rfl,?_⟩
        refine ks_n ?_
        refine ACode.condT rfl (fun h84=>?_) (fun h84=>?_)
        ·try simp only[zs]at h84
         refine .r<|.c .a<|.nn<|.ret<|ks_r<|kb_r<|ks_r<|kl_r<|kb_r<|ks_r ?_
         refine kf_ret rfl ?_ nobox
         simp[sEq]at h84
        ·try simp only[zs]at h84
         refine .skip<|ks_n<|.r<|.c .m<|.c .pl<|.c .a<|.r<|.c .m<|.c .m ?_
         refine .c (.xL 66 9 152 rfl rfl rfl rfl rfl hrow) ?_
         refine .c (.fP 2 6 true)<|.c (.fP 4 1 true)<|.c (.fP 1 0 false)<|.c (.l1 1)<|.c .m ?_
         refine .c (.cP [.tmp 93,.tmp 94] rfl rfl rfl rfl (q7 (k+(wgtR (rows.take i):Nat)+1+(wgt x1:Nat)+1+1+(wgt x4:Nat)+1+1) (by omega) (by omega)) rfl) ?_
         refine .c .a<|.nn<|.seq<|.r<|.c .m<|.c .ls<|.nn ?_
         refine .cD rfl (fun h97=>?_) (fun h97=>?_)
         ·skip
          refine .r<|.c .a<|.nn<|.ret<|ks_r<|kb_r<|ks_r<|kl_r<|kb_r<|ks_r ?_
          refine kf_ret rfl ?_ nobox
          exact absurd h97 (by omega)
         ·skip
          refine .skip<|ks_n<|.r<|.c .m<|.c .m ?_
          refine .c (.xL 66 9 152 rfl rfl rfl rfl rfl hrow) ?_
          refine .c (.fP 2 6 true)<|.c (.fP 6 0 false)<|.c (.l1 1)<|.c .m ?_
          refine .c (.cP [.tmp 103,.tmp 104] rfl rfl rfl rfl (q8 (k+(wgtR (rows.take i):Nat)+1+(wgt x1:Nat)+1+1+(wgt x4:Nat)+1+1+(wgt x7:Nat)) (by omega) (by omega)) rfl) ?_
          refine .c .a<|.r<|.c .m<|.c .ls<|.nn ?_
          refine .cD rfl (fun h107=>?_) (fun h107=>?_)
          ·skip
           refine .r<|.c .a<|.nn<|.ret<|kb_r<|ks_r<|kl_r<|kb_r<|ks_r ?_
           refine kf_ret rfl ?_ nobox
           exact absurd h107 (by omega)
          ·skip
           refine .skip<|kb_n<|ks_n<|.region<|.c .m<|.c .pl<|.c .a<|.nil ?_
           refine kl_k [] ⟨i+1,rfl,by omega,trivial,rfl⟩ ⟨kd,ks rfl (.dt (vI (by first|(simp[wgtR];done)|(rw[hs];push_cast;omega)))),kd,kd,trivial⟩
 ·skip
  refine .exit<|ks_e<|kl_e<|kb_hit<|ks_n<|.r<|.c .m<|.c .a<|.nn<|.ret ?_
  refine kf_ret rfl ?_ nobox
  exact leafI (by have hall:rows.take i=rows:=List.take_of_length_le (by omega);rw[hall])
theorem heldPartS_u (rows:List (List D)) (h:∀r∈rows,∃(x0:D),∃(x1:D),r=[x0,x1]∧HeldF Tryz.prog 76 x0∧HeldF Tryz.prog 77 x1) {k:Int} (hk0:0≤k) (hk1:k+(wgtR rows:Nat)≤4611686018427387904) (hl:rows.length≤17592186044416):Fn Tryz.prog 37 [] [vD (.list 2 (mkR mTx k rows)),nat1 k] (.o (nat1 (k+(wgtR rows:Nat)))) []:=by
  have hlen:(mkR mTx k rows).length=rows.length:=mkR_len _ _ _
  refine Fn.code0 Tryz.func37 rfl rfl rfl rfl ?_
  refine .r<|.c .a<|.nn<|.seq<|.r<|.c .a<|.nn<|.block ?_
  refine .loopK (fun m σ=>(∃i:Nat,m=rows.length -i∧(i≤rows.length)∧(True)∧σ=[eD 0 (.list 2 (mkR mTx k rows)),eN 1 (k+(wgtR (rows.take i):Nat)),eN 4 0,eN 5 (i:Nat)])) [] ⟨0,rfl,by omega,trivial,rfl⟩ ⟨kd,ks rfl (.dt (vI (by first|(simp[wgtR];done)|(rw[hs];push_cast;omega)))),kd,kd,trivial⟩ ?_
  rintro m σ ⟨i,hm0,hi,hF,rfl⟩
  refine .seq<|.r<|.c .m<|.c .m<|.c (.ln 80 2 48)<|.c .ls<|.nn ?_
  refine .cD rfl (fun h9=>?_) (fun h9=>?_)
  · skip
    obtain⟨r,hx1⟩:∃x_,rows[i]?=some x_:=⟨_,List.getElem?_eq_getElem (by omega)⟩
    have hs:=wgtR_take hx1
    obtain⟨x0,x1,rfl,q0,q1⟩:=h r (List.mem_of_getElem? hx1)
    have hs:wgtR (rows.take (i+1))=wgtR (rows.take i)+(wgt x0+wgt x1):=by rw[hs];simp only[wgtL,wgt];try omega
    have hle:=wgtR_le rows (i+1)
    have hrow:(mkR mTx k rows)[i]?=some [mkD mTx (k+(wgtR (rows.take i):Nat)) x0,mkD mTx (k+(wgtR (rows.take i):Nat)+(wgt x0:Nat)) x1]:=by rw[mkR_at _ _ _ _ _ hx1];simp[mkL,mkD,wgt,wgtL]
    refine .skip<|ks_n<|.seq<|.block<|.r<|.c .m<|.c .m ?_
    refine .c (.xL 80 2 48 rfl rfl rfl rfl rfl hrow) ?_
    refine .c (.fP 0 0 false)<|.c (.l1 1)<|.c .m ?_
    refine .c (.cP [.tmp 16,.tmp 17] rfl rfl rfl rfl (q0 (k+(wgtR (rows.take i):Nat)) (by omega) (by omega)) rfl) ?_
    refine .c .a<|.nn<|.seq<|.r<|.c .m<|.c .ls<|.nn ?_
    refine .cD rfl (fun h20=>?_) (fun h20=>?_)
    · skip
      refine .r<|.c .a<|.nn<|.ret<|ks_r<|kb_r<|ks_r<|kl_r<|kb_r<|ks_r ?_
      refine kf_ret rfl ?_ nobox
      exact absurd h20 (by omega)
    · skip
      refine .skip<|ks_n<|.r<|.c .m<|.c .m ?_
      refine .c (.xL 80 2 48 rfl rfl rfl rfl rfl hrow) ?_
      refine .c (.fP 1 0 false)<|.c (.l1 1)<|.c .m ?_
      refine .c (.cP [.tmp 25,.tmp 26] rfl rfl rfl rfl (q1 (k+(wgtR (rows.take i):Nat)+(wgt x0:Nat)) (by omega) (by omega)) rfl) ?_
      refine .c .a<|.r<|.c .m<|.c .ls<|.nn ?_
      refine .cD rfl (fun h29=>?_) (fun h29=>?_)
      · skip
        refine .r<|.c .a<|.nn<|.ret<|kb_r<|ks_r<|kl_r<|kb_r<|ks_r ?_
        refine kf_ret rfl ?_ nobox
        exact absurd h29 (by omega)
      · skip
        refine .skip<|kb_n<|ks_n<|.region<|.c .m<|.c .pl<|.c .a<|.nil ?_
        refine kl_k [] ⟨i+1,rfl,by omega,trivial,rfl⟩ ⟨kd,ks rfl (.dt (vI (by first|(simp[wgtR];done)|(rw[hs];push_cast;omega)))),kd,kd,trivial⟩
  · skip
    refine .exit<|ks_e<|kl_e<|kb_hit<|ks_n<|.r<|.c .m<|.c .a<|.nn<|.ret ?_
    refine kf_ret rfl ?_ nobox
    exact leafI (by have hall:rows.take i=rows:=List.take_of_length_le (by omega);rw[hall])
end Go.Proofs.YtollooimmfngjaaGreat
