/- Part 2 of 4 of the proof: laws on memory and data, then what the functions compute, in the order in which they build on each other; conditions: those that each theorem names. -/
import Derived.Deep.RegionLaw
import Derived.Maps.OwnSet
import Derived.Lib.SliceRun
import Derived.Shelf.Abstract
import Derived.Deep.RegionHeld3
import Derived.IntWalk
import Derived.Laws.BitsAllLaws
import Derived.Shelf.Strings.Builder1
import Derived.Shelf.Strings.Builder2
import Derived.Shelf.Strings.OnBuilder
import Derived.Shelf.Strconv.Itoa0
import Derived.Shelf.Strconv.Itoa1
import Derived.Shelf.LaysM
import Derived.Shelf.Strconv.Itoa2
import Derived.Shelf.Strconv.Itoa3
import Derived.Test.YtfgljkblopojgaaGreatDoorProg
import Derived.Lib.ItoaNum
import Derived.Lib.Bytealg
import Derived.Lib.SlicesS
import Derived.Test.YtfgljkblopojgaaGreatDoorP1
set_option maxRecDepth 100000
set_option maxHeartbeats 1600000

namespace Go.Proofs.YtfgljkblopojgaaGreatDoor
set_option linter.unusedVariables false
set_option linter.unusedSimpArgs false
open Go.RowKit
theorem lk_app_o:∀ {l1 l2:St} {r:Res},r∉keys l1→lk (l1++l2) r=lk l2 r
  |[],_,_,_=>rfl
  |(q,x)::l,l2,r,h=>by
    simp only[keys,List.map_cons,List.mem_cons,not_or]at h
    rw[List.cons_append,lk_cons,upd_other _ _ h.1]
    exact lk_app_o h.2
theorem lk_app_s:∀ {l1 l2:St} {r:Res},r∈keys l1→lk (l1++l2) r=lk l1 r
  |[],_,_,h=>by cases h
  |(q,x)::l,l2,r,h=>by
    rw[List.cons_append,lk_cons,lk_cons]
    by_cases e:r=q
    ·subst e;rw[upd_same,upd_same]
    · rw[upd_other _ _ e,upd_other _ _ e]
      simp only[keys,List.map_cons,List.mem_cons]at h
      exact lk_app_s (h.resolve_left e)
theorem lk_key:∀ {l:St} {r:Res},r∈keys l→(r,lk l r)∈l
  |[],_,h=>by cases h
  |(q,x)::l,r,h=>by
    rw[lk_cons]
    by_cases e:r=q
    ·subst e;rw[upd_same];exact List.mem_cons_self
    · rw[upd_other _ _ e]
      simp only[keys,List.map_cons,List.mem_cons]at h
      exact List.mem_cons_of_mem _ (lk_key (h.resolve_left e))
theorem key_of {l:St} {r:Res} {x:RC} (h:(r,x)∈l):r∈keys l:=List.mem_map.2 ⟨_,h,rfl⟩
theorem outS_b' {inv:Inv}:∀ {l:St} {k:Nat} {e:TypeId} {sz:Nat} {rows:List (List C)},(Res.b k,RC.b e sz rows)∈l→(Res.b (asc inv k),RC.b e sz (renR (asc inv) rows))∈outS inv l
  |[],_,_,_,_,h=>by cases h
  |p::l,k,e,sz,rows,h=>by
    rcases List.mem_cons.1 h with rfl|h2
    ·exact List.mem_cons_self
    · clear h
      obtain⟨r,c⟩:=p
      cases r<;>cases c<;>first|exact List.mem_cons_of_mem _ (outS_b' h2)|exact outS_b' (l:=l) h2
theorem outS_u' {inv:Inv}:∀ {l:St} {k:Nat},(Res.u k,RC.u)∈l→(Res.u (asc inv k),RC.u)∈outS inv l
  |[],_,h=>by cases h
  |p::l,k,h=>by
    rcases List.mem_cons.1 h with rfl|h2
    ·exact List.mem_cons_self
    · clear h
      obtain⟨r,c⟩:=p
      cases r<;>cases c<;>first|exact List.mem_cons_of_mem _ (outS_u' h2)|exact outS_u' (l:=l) h2
theorem killS_b {inv:Inv}:∀ {l:St} {r:Res} {x:RC},(r,x)∈killS inv l→x= .no∧∃k e sz rows,(Res.b k,RC.b e sz rows)∈l∧r= .b (asc inv k)
  |[],_,_,h=>by cases h
  |p::l,r',x,h=>by
    obtain⟨r,c⟩:=p
    cases r<;>cases c
    case b.b k e sz rows=>
      rcases List.mem_cons.1 h with h|h
      ·cases h;exact⟨rfl,k,e,sz,rows,List.mem_cons_self,rfl⟩
      ·obtain⟨h0,k,e,sz,rows,h1,h2⟩:=killS_b h;exact⟨h0,k,e,sz,rows,List.mem_cons_of_mem _ h1,h2⟩
    all_goals (obtain⟨h0,k,e,sz,rows,h1,h2⟩:=killS_b (l:=l) h;exact⟨h0,k,e,sz,rows,List.mem_cons_of_mem _ h1,h2⟩)
theorem killS_b' {inv:Inv}:∀ {l:St} {k:Nat} {e:TypeId} {sz:Nat} {rows:List (List C)},(Res.b k,RC.b e sz rows)∈l→Res.b (asc inv k)∈keys (killS inv l)
  |[],_,_,_,_,h=>by cases h
  |p::l,k,e,sz,rows,h=>by
    rcases List.mem_cons.1 h with rfl|h2
    ·exact List.mem_cons_self
    · clear h
      obtain⟨r,c⟩:=p
      cases r<;>cases c<;>first|exact List.mem_cons_of_mem _ (killS_b' h2)|exact killS_b' (l:=l) h2
def pairs:St→Bool
  |[]=>true
  |(.b k,.b _ _ _)::(.u l,.u)::r=>Nat.beq k l&&pairs r
  |_=>false
theorem pairs_u:∀ {l:St},pairs l=true→∀ {k:Nat} {x:RC},(Res.u k,x)∈l→∃e sz rows,(Res.b k,RC.b e sz rows)∈l
  |[],_,k,x,h=>by cases h
  |[p],hp,k,x,h=>by obtain⟨r,c⟩:=p;cases r<;>cases c<;>cases hp
  |p::q::l,hp,k,x,h=>by
    obtain⟨r,c⟩:=p
    obtain⟨r2,c2⟩:=q
    cases r<;>cases c<;>cases r2<;>cases c2<;>first
      |(cases hp;done)
      | (rename_i k0 e sz rows k1
         rw[pairs,Bool.and_eq_true]at hp
         have hk:=Nat.eq_of_beq_eq_true hp.1
         subst hk
         rcases List.mem_cons.1 h with h|h
         ·cases h
         · rcases List.mem_cons.1 h with h|h
           ·cases h;exact⟨_,_,_,List.mem_cons_self⟩
           · obtain⟨e,sz,rows,h⟩:=pairs_u hp.2 h
             exact⟨e,sz,rows,List.mem_cons_of_mem _ (List.mem_cons_of_mem _ h)⟩)
def fnx:C→Option (FuncId×List V1)
  | .fn f cap=>some (f,cap.map fun c=>.c (.ptr c))
  | .fb f k sz=>some (f,[.c (.box k sz 0 0)])
  |_=>none
theorem fnx_ok {bx:Nat→Nat×Nat} {al B:Nat→Prop} {w:World} {fc:C} {f:FuncId} {ex:List V1} {v:Value} (h:fnx fc=some (f,ex)) (hv:Cr bx al B w fc v):∃cvs:List Value,v= .func (.func f) #[] cvs.toArray∧cvs.length=ex.length∧∀(i:Nat) x u,ex[i]?=some x→cvs[i]?=some u→V1r bx al B w x u:=by
  cases fc with
  |fn f cap=>
    cases h
    obtain⟨vs,rfl,hl,h⟩:=hv
    refine⟨vs,rfl,by rw[hl,List.length_map],fun i x u hx hu=>?_⟩
    rw[List.getElem?_map]at hx
    cases hc:cap[i]? with
    |none=>rw[hc]at hx;cases hx
    |some c=>rw[hc]at hx;cases hx;exact h i c u hc hu
  |fb f k sz=>
    cases h
    obtain⟨u,rfl,h1,h⟩:=hv
    refine⟨[u],rfl,rfl,fun i x u' hx hu=>?_⟩
    cases i with
    |zero=>cases hx;cases hu;exact⟨h1,fun hk=>by rw[h hk];simp⟩
    |succ i=>simp at hx
  |d x=>cases h
  |ptr c=>cases h
  |box k sz i j=>cases h
  |own k sz n=>cases h
  |off k sz i n=>cases h
theorem St1.callX {P:Program} {n:Nat} {ops:Array Oper} {o:Oper} {σ:St} {d:Nat} {fo:Operand} {ar:Array Operand} {ts:Array TypeId} {xs:List Operand} {vs:List V1} {fc:C} {f:FuncId} {ex:List V1} {hb hb':St} {args:List V1} {y:V} (inv:Inv)
    (ho:o.op= .call {callee:=.value fo,args:=ar,argTypes:=ts}) (hg:o.guard=none) (hd:o.dst=some d) (hn:Nat.blt d n=true) (has:ar=xs.toArray) (hfo:ev σ fo=some (.o (.c fc))) (hfx:fnx fc=some (f,ex)) (hcall:callable P f=true) (hx:evL σ xs=some vs) (hF:Fn P f hb args y hb')
    (hargs:args.map (V1.ren (asc inv))=vs++ex) (hbox:hbIn σ inv hb) (hnum:numOk σ inv hb hb'=true) (hfl:flatS hb) (hfl':flatS hb') (hHB':HB hb') (hpr:pairs hb'=true) (hy:(y.refs.all fun k=>match lk hb' (.u k)with | .u=>true|_=>false)=true):
    St1 P n ops o σ ((rd fo++rdL xs)++(keys (outS inv hb')++keys (killS inv hb))) (.t d::(keys (outS inv hb')++keys (killS inv hb))) ((.t d,.v (y.ren (asc inv)))::(outS inv hb'++(killS inv hb++σ))):=by
  have hdis:∀r,r∉keys (outS inv hb')++keys (killS inv hb)→lk (outS inv hb'++(killS inv hb++σ)) r=lk σ r:=fun r hr=>by
    rw[List.mem_append,not_or]at hr
    rw[lk_app_o hr.1,lk_app_o hr.2]
  refine⟨fun r hr=>?_,fun E bx τ a w hE hR hs=>OW.plain hg fun Q=>?_⟩
  · rw[List.mem_cons,not_or]at hr
    rw[lk_other _ _ _ _ (fun e=>hr.1 e.symm)]
    exact hdis r hr.2
  · have hR1:∀r∈rd fo,τ r=lk σ r:=rd_l (rd_l hR)
    have hR2:∀r∈rdL xs,τ r=lk σ r:=rd_r (rd_l hR)
    have hR3:∀r∈keys (outS inv hb')++keys (killS inv hb),τ r=lk σ r:=rd_r hR
    obtain⟨cvs,hfe,hcl,hcv⟩:=fnx_ok hfx (ev_ok hfo hR1 hs).1
    obtain⟨⟨q1,q2⟩,_⟩:=evL_ok hx hR2 hs
    subst has
    -- the boxes that are handed
    have hmem:∀k e sz rows,lk hb (.b k)= .b e sz rows→(Res.b k,RC.b e sz rows)∈hb:=fun k e sz rows h=>lk_mem h (by simp)
    have hmem':∀k e sz rows,lk hb' (.b k)= .b e sz rows→(Res.b k,RC.b e sz rows)∈hb':=fun k e sz rows h=>lk_mem h (by simp)
    have hτ:∀k e sz rows,lk hb (.b k)= .b e sz rows→τ (.b (asc inv k))= .b e sz (renR (asc inv) rows):=fun k e sz rows h=>by
      rw[hR3 _ (List.mem_append_right _ (killS_b' (hmem k e sz rows h)))]
      exact hbIn_at (hb:=hb) hbox (hmem k e sz rows h)
    have hin:∀k,Al (lk hb) k→Al τ (asc inv k):=fun k ⟨e,sz,rows,h⟩=>⟨e,sz,_,hτ k e sz rows h⟩
    have hkey:∀k,Al (lk hb) k→Key inv k:=fun k ⟨e,sz,rows,h⟩=>key_b hnum (.inl (hmem k e sz rows h))
    have hto:∀k,Al (lk hb) k→Al τ (asc inv k)∧bx (asc inv k)=bx (asc inv k):=fun k hk=>⟨hin k hk,rfl⟩
    have hHOk:HOk (fun k=>bx (asc inv k)) (Bf E bx τ) w (lk hb):=by
      refine⟨fun k e sz rows h=>?_,fun k l hk hl e=>key_inj hnum (hkey k hk) (hkey l hl) (hs.inj _ _ (hin k hk) (hin l hl) e),fun k hk hB=>hB.2 _ (hin k hk) rfl⟩
      obtain⟨cur,h1,h2,h3,h4,h5⟩:=hs.box _ e sz _ (hτ k e sz rows h)
      refine⟨cur,h1,h2,by rw[renR,List.length_map]at h3;exact h3,fun i r hi=>?_,fun i r j c hi hj=>?_⟩
      ·have:=h4 i (r.map (C.ren (asc inv))) (by rw[renR,List.getElem?_map,hi];rfl);rwa[List.length_map]at this
      · obtain⟨u,h6,h7⟩:=h5 i (r.map (C.ren (asc inv))) j (c.ren (asc inv)) (by rw[renR,List.getElem?_map,hi];rfl) (by rw[List.getElem?_map,hj];rfl)
        exact⟨u,h6,(Cr.ren.2 h7).to (Same.refl _ _) (fun _ h _=>h) (fun k _ hk=>hto k hk)⟩
    have hvals:Vals (V1r (fun k=>bx (asc inv k)) (Al (lk hb)) (Bf E bx τ) w) args (xs.map a.eval++cvs):=by
      have hlen:args.length=vs.length+ex.length:=by have:=congrArg List.length hargs;simpa using this
      refine⟨by rw[List.length_append,q1,hcl,hlen],fun i x v hx hv=>?_⟩
      have hxi:(vs++ex)[i]?=some (x.ren (asc inv)):=by rw[←hargs,List.getElem?_map,hx];rfl
      have h1:V1r bx (Al τ) (Bf E bx τ) w (x.ren (asc inv)) v:=by
        rw[List.getElem?_append]at hxi hv
        by_cases hi:i<vs.length
        · rw[if_pos hi]at hxi
          rw[if_pos (by rw[q1];exact hi)]at hv
          exact q2 i _ v hxi hv
        · rw[if_neg hi]at hxi
          rw[if_neg (by rw[q1];exact hi),q1]at hv
          exact hcv _ _ v hxi hv
      exact(V1r.ren.2 h1).to (Same.refl _ _) (fun _ h _=>h) (fun k _ hk=>hto k hk)
    unfold Oper.wp
    rw[run_callV hcall ho hfe w,Oper.upon_enter,hd,show xs.toArray.map a.eval++cvs.toArray=(xs.map a.eval++cvs).toArray by simp]
    refine(hF (Bf E bx τ) (fun k=>bx (asc inv k)) w _ hHOk hvals).mono ?_
    rintro e w' ⟨v,bxc,rfl,hpost⟩
    -- the state behind it
    let Kk:Nat→Prop:=fun k=>(∃e sz rows,(Res.b k,RC.b e sz rows)∈hb)∨∃e sz rows,(Res.b k,RC.b e sz rows)∈hb'
    have hKkey:∀k,Kk k→Key inv k:=fun k h=>by
      rcases h with⟨e,sz,rows,h⟩|⟨e,sz,rows,h⟩
      ·exact key_b hnum (.inl h)
      ·exact key_b hnum (.inr h)
    have hKu:∀k,lk hb' (.u k)≠ .no→Kk k:=fun k h=>.inr (pairs_u hpr (lk_mem rfl h))
    have hτm:∀r,ovr τ (keys (outS inv hb')++keys (killS inv hb)) (outS inv hb'++(killS inv hb++σ)) r=if r∈keys (outS inv hb')then lk (outS inv hb') r else if r∈keys (killS inv hb)then .no else τ r:=fun r=>by
      unfold ovr
      by_cases h1:r∈keys (outS inv hb')
      ·rw[if_pos (List.mem_append_left _ h1),if_pos h1,lk_app_s h1]
      · rw[if_neg h1]
        by_cases h2:r∈keys (killS inv hb)
        ·rw[if_pos (List.mem_append_right _ h2),if_pos h2,lk_app_o h1,lk_app_s h2,(killS_b (lk_key h2)).1]
        ·rw[if_neg (by rw[List.mem_append];exact fun h=>h.elim h1 h2),if_neg h2]
    have hob:∀k e sz rows,(Res.b k,RC.b e sz rows)∈hb'→lk (outS inv hb') (.b (asc inv k))= .b e sz (renR (asc inv) rows):=fun k e sz rows h=>by
      obtain⟨k2,e2,sz2,rows2,h1,h2,h3⟩:=outS_b (lk_key (key_of (outS_b' (inv:=inv) h)))
      have hk:k2=k:=key_inj hnum (key_b hnum (.inr h1)) (key_b hnum (.inr h)) h2.symm
      subst hk
      have h4:=hfl'.1 _ _ _ _ h
      rw[hfl'.1 _ _ _ _ h1]at h4
      cases h4
      exact h3
    obtain⟨bxn,hsn,hvn⟩:=SR.called (τn:=ovr τ (keys (outS inv hb')++keys (killS inv hb)) (outS inv hb'++(killS inv hb++σ))) (ρ:=asc inv) (K:=Kk) hs hpost hin (fun k l hk hl e=>key_inj hnum (hKkey k hk) (hKkey l hl) e) (fun k ⟨e,sz,rows,h⟩=>.inl ⟨e,sz,rows,hmem k e sz rows h⟩) hKu hHB'
      (fun k hk=>hKu k (by
        have:=List.all_eq_true.1 hy k hk
        intro e;rw[e]at this;cases this))
      (fun t=>by
        rw[hτm]
        rw[if_neg (fun h=>?_),if_neg (fun h=>?_)]
        ·obtain⟨_,k,e,sz,rows,_,h2⟩:=killS_b (lk_key h);cases h2
        · have hm:=lk_key h
          generalize lk (outS inv hb') (.t t)=x at hm
          exact(show ∀ {l:St} {x:RC},(Res.t t,x)∉outS inv l from by
            intro l
            induction l with
            |nil=>intro x h;cases h
            |cons p l ih=>
              intro x h
              obtain⟨r,c⟩:=p
              cases r<;>cases c<;>first
                |(rcases List.mem_cons.1 h with h|h;(cases h);exact ih h)
                |exact ih h) hm)
      (fun k e sz rows h=>by
        have hm:=hmem' k e sz rows h
        rw[hτm,if_pos (key_of (outS_b' hm))]
        exact hob k e sz rows hm)
      (fun l e sz rows h=>by
        rw[hτm]at h
        by_cases h1:Res.b l∈keys (outS inv hb')
        · rw[if_pos h1]at h
          obtain⟨k,e2,sz2,rows2,g1,g2,g3⟩:=outS_b (lk_key h1)
          rw[h]at g3
          cases g3
          exact .inl ⟨k,rows2,g2,hfl'.1 _ _ _ _ g1,rfl⟩
        · rw[if_neg h1]at h
          by_cases h2:Res.b l∈keys (killS inv hb)
          ·rw[if_pos h2]at h;cases h
          · rw[if_neg h2]at h
            refine .inr ⟨fun k hk e1=>?_,h⟩
            subst e1
            rcases hk with⟨e,sz,rows,hk⟩|⟨e,sz,rows,hk⟩
            ·exact h2 (killS_b' hk)
            ·exact h1 (key_of (outS_b' hk)))
      (fun k h=>by
        have hm:(Res.u k,lk hb' (.u k))∈hb':=lk_mem rfl h
        have hu:=hfl'.2.2 _ _ hm
        rw[hu]at hm
        have h1:=key_of (outS_u' (inv:=inv) hm)
        rw[hτm,if_pos h1]
        obtain⟨_,_,_,h2⟩:=outS_u (lk_key h1)
        rw[h2];exact fun e=>by cases e)
      (fun l h=>by
        rw[hτm]at h
        by_cases h1:Res.u l∈keys (outS inv hb')
        · rw[if_pos h1]at h
          obtain⟨_,_,_,h2⟩:=outS_u (lk_key h1)
          rw[h]at h2;cases h2
        · rw[if_neg h1,if_neg (fun h2=>by obtain⟨_,k,e,sz,rows,_,h3⟩:=killS_b (lk_key h2);cases h3)]at h
          exact h)
      (fun k ⟨e,sz,rows,h⟩ h100=>by
        have hm:=hmem' k e sz rows h
        obtain⟨h1,h2,h3⟩:=numOk_new hnum hm h100
        have hmu:(Res.u k,lk hb' (.u k))∈hb':=lk_mem rfl (hHB'.al k ⟨e,sz,rows,h⟩)
        have hu:=hfl'.2.2 _ _ hmu
        rw[hu]at hmu
        refine⟨(hR3 _ (List.mem_append_left _ (key_of (outS_u' hmu)))).trans h1,h2,h3.imp id fun h4 l ⟨e',sz',rows',hl⟩=>h4 l _ (hmem l _ _ _ hl)⟩)
    have hyu:∀l∈(y.ren (asc inv)).refs,ovr τ (keys (outS inv hb')++keys (killS inv hb)) (outS inv hb'++(killS inv hb++σ)) (.u l)≠ .no:=fun l hl=>by
      obtain⟨k,hk,rfl⟩:=V.refs_ren hl
      have h0:lk hb' (.u k)≠ .no:=by
        have:=List.all_eq_true.1 hy k hk
        intro e;rw[e]at this;cases this
      have hm:(Res.u k,lk hb' (.u k))∈hb':=lk_mem rfl h0
      have hu:=hfl'.2.2 _ _ hm
      rw[hu]at hm
      have h1:=key_of (outS_u' (inv:=inv) hm)
      rw[hτm,if_pos h1]
      obtain⟨_,_,_,h2⟩:=outS_u (lk_key h1)
      rw[h2];exact fun e=>by cases e
    refine⟨bxn,?_⟩
    have e1:ovr τ (.t d::(keys (outS inv hb')++keys (killS inv hb))) ((.t d,.v (y.ren (asc inv)))::(outS inv hb'++(killS inv hb++σ)))=upd (ovr τ (keys (outS inv hb')++keys (killS inv hb)) (outS inv hb'++(killS inv hb++σ))) (.t d) (.v (y.ren (asc inv))):=by
      funext r
      by_cases hr:r= .t d
      ·subst hr;rw[upd_same];simp[ovr,lk_same]
      · rw[upd_other _ _ hr]
        unfold ovr
        by_cases h1:r∈keys (outS inv hb')++keys (killS inv hb)
        ·rw[if_pos h1,if_pos (List.mem_cons_of_mem _ h1),lk_other _ _ _ _ (fun e=>hr e.symm)]
        ·rw[if_neg h1,if_neg (fun h=>(List.mem_cons.1 h).elim hr h1)]
    rw[e1]
    exact hsn.put (by rw[hE];simpa using hn) hvn hyu
theorem St1.call {P:Program} {n:Nat} {ops:Array Oper} {o:Oper} {σ:St} {d:Nat} {fo:Operand} {ar:Array Operand} {ts:Array TypeId} {xs:List Operand} {vs:List V1} {f:FuncId} {cap:List (List D)} {hb hb':St} {args:List V1} {y:V} (inv:Inv)
    (ho:o.op= .call {callee:=.value fo,args:=ar,argTypes:=ts}) (hg:o.guard=none) (hd:o.dst=some d) (hn:Nat.blt d n=true) (has:ar=xs.toArray) (hfo:ev σ fo=some (.o (.c (.fn f cap)))) (hcall:callable P f=true) (hx:evL σ xs=some vs) (hF:Fn P f hb args y hb')
    (hargs:args.map (V1.ren (asc inv))=vs++cap.map fun c=>.c (.ptr c)) (hbox:hbIn σ inv hb) (hnum:numOk σ inv hb hb'=true) (hfl:flatS hb) (hfl':flatS hb') (hHB':HB hb') (hpr:pairs hb'=true) (hy:(y.refs.all fun k=>match lk hb' (.u k)with | .u=>true|_=>false)=true):
    St1 P n ops o σ ((rd fo++rdL xs)++(keys (outS inv hb')++keys (killS inv hb))) (.t d::(keys (outS inv hb')++keys (killS inv hb))) ((.t d,.v (y.ren (asc inv)))::(outS inv hb'++(killS inv hb++σ))):=
  St1.callX inv ho hg hd hn has hfo rfl hcall hx hF hargs hbox hnum hfl hfl' hHB' hpr hy
theorem outS_one {inv:Inv} {k:Nat} {e:TypeId} {sz:Nat} {rows:List (List D)}:outS inv [(.b k,.b e sz (dR rows)),(.u k,.u)]=[(.b (asc inv k),.b e sz (dR rows)),(.u (asc inv k),.u)]:=by simp[outS,renR_dR]
theorem St1.callO {P:Program} {n:Nat} {ops:Array Oper} {o:Oper} {σ:St} {d:Nat} {fo:Operand} {ar:Array Operand} {ts:Array TypeId} {xs:List Operand} {vs:List V1} {f:FuncId} {cap:List (List D)} {hb hb':St} {args:List V1} {y:V} {out:St} (inv:Inv)
    (ho:o.op= .call {callee:=.value fo,args:=ar,argTypes:=ts}) (hg:o.guard=none) (hd:o.dst=some d) (hn:Nat.blt d n=true) (has:ar=xs.toArray) (hfo:ev σ fo=some (.o (.c (.fn f cap)))) (hcall:callable P f=true) (hx:evL σ xs=some vs) (hF:Fn P f hb args y hb')
    (hargs:args.map (V1.ren (asc inv))=vs++cap.map fun c=>.c (.ptr c)) (hbox:hbIn σ inv hb) (hnum:numOk σ inv hb hb'=true) (hfl:flatS hb) (hfl':flatS hb') (hHB':HB hb') (hpr:pairs hb'=true) (hy:(y.refs.all fun k=>match lk hb' (.u k)with | .u=>true|_=>false)=true) (hout:outS inv hb'=out):
    St1 P n ops o σ ((rd fo++rdL xs)++(keys out++keys (killS inv hb))) (.t d::(keys out++keys (killS inv hb))) ((.t d,.v (y.ren (asc inv)))::(out++(killS inv hb++σ))):=by
  subst hout
  exact St1.call inv ho hg hd hn has hfo hcall hx hF hargs hbox hnum hfl hfl' hHB' hpr hy
theorem St1.callP {P:Program} {n:Nat} {ops:Array Oper} {o:Oper} {σ:St} {d:Nat} {fo:Operand} {ar:Array Operand} {ts:Array TypeId} {xs:List Operand} {vs:List V1} {f:FuncId} {cap:List (List D)} {y:V}
    (ho:o.op= .call {callee:=.value fo,args:=ar,argTypes:=ts}) (hg:o.guard=none) (hd:o.dst=some d) (hn:Nat.blt d n=true) (has:ar=xs.toArray) (hfo:ev σ fo=some (.o (.c (.fn f cap)))) (hcall:callable P f=true) (hx:evL σ xs=some vs) (hF:Fn P f [] (vs++cap.map fun c=>.c (.ptr c)) y [])
    (hy:y.refs=[]):St1 P n ops o σ (rd fo++rdL xs) [.t d] ((.t d,.v y)::σ):=by
  have hid:∀c:C,c.ren (asc [])=c:=fun c=>by cases c<;>rfl
  have hid1:∀x:V1,x.ren (asc [])=x:=fun x=>by
    cases x with
    |c c=>exact congrArg V1.c (hid c)
    |agg cs=>exact congrArg V1.agg (List.map_id'' hid cs)
  have hid2:y.ren (asc [])=y:=by
    cases y with
    |o x=>exact congrArg V.o (hid1 x)
    |tup xs=>exact congrArg V.tup (List.map_id'' hid1 xs)
    |gh S=>rfl
  have:=St1.call (ops:=ops) (n:=n) (σ:=σ) (hb:=[]) (hb':=[]) [] ho hg hd hn has hfo hcall hx hF (List.map_id'' hid1 _) trivial rfl flatS.nil flatS.nil HB.nil rfl (by rw[hy];rfl)
  rw[hid2]at this
  simpa [keys,outS,killS]using this
/-! ### A region in any order, operation by operation -/
def RunK (P:Program) (n:Nat) (ops:Array Oper) (l:List Oper) (σ:St) (acc:List (List Res×List Res×St)) (G:List (List Res×List Res×St)→St→Prop):Prop:=∃tr σ',Run P n ops l σ tr σ'∧G (acc++tr) σ'
section
variable {P : Program} {n : Nat} {ops : Array Oper} {l : List Oper} {o : Oper} {σ σ' : St} {R W : List Res} {acc : List (List Res × List Res × St)} {G : List (List Res × List Res × St) → St → Prop}
theorem RunK.nil (h:G acc σ):RunK P n ops [] σ acc G:=⟨[],σ,.nil σ,by rw[List.append_nil];exact h⟩
theorem RunK.cons (h:St1 P n ops o σ R W σ') (k:RunK P n ops l σ' (acc++[(R,W,σ')]) G):RunK P n ops (o::l) σ acc G:=by
  obtain⟨tr,σ2,h1,h2⟩:=k
  exact⟨_,σ2,.cons h h1,by simpa using h2⟩
theorem RunK.same {σ1:St} (he:lk σ1=lk σ) (h:RunK P n ops (o::l) σ1 acc G):RunK P n ops (o::l) σ acc G:=by
  obtain⟨tr,σ2,h1,h2⟩:=h
  cases h1 with
  |cons h k=>exact⟨_,σ2,.cons ⟨fun r hr=>by rw[←he];exact h.1 r hr,fun E bx τ a w hE hR hs=>h.2 E bx τ a w hE (fun r hr=>by rw[he];exact hR r hr) hs⟩ k,h2⟩
theorem RunK.cases (t:Nat) (b:Bool) (hv:lk σ (.t t)= .v (.o (bo1 b))) (h1:b=true→RunK P n ops (o::l) ((.t t,.v (.o (bo1 true)))::σ) acc G) (h0:b=false→RunK P n ops (o::l) ((.t t,.v (.o (bo1 false)))::σ) acc G):RunK P n ops (o::l) σ acc G:=by
  have e:∀c,b=c→lk ((.t t,.v (.o (bo1 c)))::σ)=lk σ:=by
    rintro c rfl
    funext r
    rw[lk_cons]
    by_cases h:r= .t t
    ·subst h;rw[upd_same,hv]
    ·rw[upd_other _ _ h]
  cases b
  ·exact RunK.same (e false rfl) (h0 rfl)
  ·exact RunK.same (e true rfl) (h1 rfl)
theorem ACode.drawK {id:Nat} {K:Exit→St→Prop} (hm:P.follows .mixedOrders=true) (he:edgesOk l.toArray 0 l=true) (h:RunK P n l.toArray l σ [] (fun tr σ'=>chk l.toArray 0 tr=true∧K .normal σ')):ACode P n (.region id l.toArray true) K σ:=by
 obtain⟨tr,σ',h1,h2,h3⟩:=h
 exact ACode.draw hm h1 h2 he h3
end
def OwnI (B:Nat) (w:World) (v:Value) (xs:List Int):Prop:=OwnL Sh.int 3 B 0 w v xs
section
variable {B B' C : Nat} {P : Nat → Prop} {w w' : World} {v v' : Value} {xs ys : List Int} {a : Option Addr} {n c : Nat}
theorem OwnI.nil (B:Nat) (w:World):OwnI B w (.slice none 0 0) []:=OwnL.nil _ _ _ _ _
theorem OwnI.frame (h:OwnI B w v xs) (hv:∀k,v.ownBlock=some k→w'.heap[k]?=w.heap[k]?):OwnI B w' v xs:=by
  obtain⟨css,h1,h2,h3⟩:=h
  exact⟨css,h1,h2.frame hv,fun i x cs hx hc=>h3 i x cs hx hc⟩
theorem OwnI.lt (h:OwnI B w v xs):∀g,v.ownBlock=some g→B≤g∧g<w.heap.size:=OwnL.lt h
theorem OwnI.below (h:OwnI B w v xs) (hb:Below w.heap.size w w'):OwnI B w' v xs:=h.frame fun k hk=>hb.block k (h.lt k hk).2
theorem OwnI.belowLt {D:Nat} (h:OwnI B w v xs) (hb:Below D w w') (hD:∀k,v.ownBlock=some k→k<D):OwnI B w' v xs:=h.frame fun k hk=>hb.block k (hD k hk)
theorem OwnI.alloc (h:OwnI B w v xs) (o:Obj):OwnI B (w.alloc o) v xs:=h.below ((Below.refl _ _).alloc (Nat.le_refl _) o)
theorem OwnI.drewN {m:Nat} (h:OwnI B w v xs):OwnI B (w.drewN m) v xs:=h.below (belowN (Below.refl _ _))
theorem OwnI.quiet (h:OwnI B w v xs) (hq:Quiet w w'):OwnI B w' v xs:=h.below (hq.below _)
theorem OwnI.grown {r:Option Nat} (h:OwnI B w v xs) (hg:w.grownBy w' r) (hv:∀g,r=some g→v.ownBlock≠some g):OwnI B w' v xs:=
  h.frame (fun k hk=>hg.block k (h.lt k hk).2 (fun e=>hv k e.symm hk))
theorem OwnI.base (h:OwnI B w v xs) (hB:B'≤B):OwnI B' w v xs:=OwnL.base h hB (Nat.le_refl _)
theorem OwnI.shape (h:OwnI B w v xs):∃a cap,v= .slice a xs.length cap∧xs.length≤cap:=OwnL.shape h
theorem OwnI.len (h:OwnI B w (.slice a n c) xs):xs.length=n:=by
  obtain⟨a',c',e,_⟩:=h.shape
  simp only[Value.slice.injEq]at e
  exact e.2.1.symm
theorem OwnI.sl (h:OwnI B w v xs) (hn:xs.length≤17592186044416):Sl Sh.int (fun b=>v.ownBlock=some b) w v xs:=by
  obtain⟨css,h1,h2,h3⟩:=h
  have h':OwnL Sh.int 3 B 0 w v xs:=⟨css,h1,h2,h3⟩
  have hs:=h'.sl hn (P:=fun _=>True) (fun _ _ _=>trivial) (fun _ _=>trivial)
  obtain⟨a,cap,rfl,e1,e2,e3,e4⟩:=hs
  refine⟨a,cap,rfl,e1,e2,e3,fun i x hx=>?_⟩
  obtain⟨b,off,cs,rfl,_,hr,hc⟩:=e4 i x hx
  exact⟨b,off,cs,rfl,rfl,hr,hc⟩
theorem OwnI.at (h:OwnI B w (.slice a n c) xs) (hn:0<n):∃g off,a=some ⟨g,off,none⟩∧B≤g∧g<w.heap.size∧n≤c∧(∀j,j<n→w.cell? ⟨g,off+j,none⟩=some (.int .i64 (xs.getD j 0)))∧∀j,w.frozen? ⟨g,j,none⟩=false:=by
  obtain⟨hl,g,off,ha,hB,hg,hc,hf,h1⟩:=OwnL.at h hn
  refine⟨g,off,ha,hB,hg,hc,fun j hj=>?_,hf⟩
  obtain⟨cs,hr,hcell⟩:=h1 j (xs.getD j 0) (by rw[List.getD,List.getElem?_eq_getElem (by omega)];rfl)
  have:cs=[.int .i64 (xs.getD j 0)]:=hr
  subst this
  have:=hcell 0 _ rfl
  simpa [Sh.int]using this
theorem sl_ints (h:Sl Sh.int P w (.slice a n c) xs):IntsA w a n c xs:=by
  refine⟨h.len,h.le.1,h.le.2,fun i hi=>?_⟩
  obtain⟨b,off,ha,_,_,hc⟩:=h.at (by omega)
  have hl:=h.len
  obtain⟨cs,hr,hcell⟩:=hc i (xs.getD i 0) (by rw[List.getD,List.getElem?_eq_getElem (by omega)];rfl)
  have:cs=[.int .i64 (xs.getD i 0)]:=hr
  subst this
  have:=hcell 0 _ rfl
  exact⟨b,off,ha,by simpa [Sh.int]using this⟩
theorem Sl.intAt (h:Sl Sh.int P w (.slice a n c) xs) (hn:0<n):∃b off,a=some ⟨b,off,none⟩∧P b∧b<w.heap.size∧∀i,i<n→w.cell? ⟨b,off+i,none⟩=some (.int .i64 (xs.getD i 0)):=by
  obtain⟨b,off,ha,hb,hlt,_⟩:=h.at hn
  refine⟨b,off,ha,hb,hlt,fun i hi=>?_⟩
  obtain⟨b',off',e,hc⟩:=(sl_ints h).2.2.2 i hi
  rw[ha]at e
  cases e
  exact hc
theorem OwnI.made (w:World) (vs:List Int) (hB:B≤w.heap.size) (hn:vs.length≤17592186044416):OwnI B (w.alloc (.cells (vs.map (Value.int .i64)).toArray 3)) (.slice (some ⟨w.heap.size,0,none⟩) vs.length vs.length) vs:=by
  have hf:(vs.map fun x=>[Value.int .i64 x]).flatten=vs.map (Value.int .i64):=by
    induction vs with
    |nil=>rfl
    |cons x r ih=>rw[List.map_cons,List.flatten_cons,ih (by rw[List.length_cons]at hn;omega)];rfl
  refine⟨vs.map fun x=>[.int .i64 x],by simp,?_,fun i x cs hx hc=>?_⟩
  · rw[hf]
    exact⟨by simp[Sh.int],.inr ⟨w.heap.size,0,vs.length,_,rfl,hB,heap_alloc_new w _,Nat.le_refl _,by unfold maxLen;omega,by simp[Sh.int],by simp[Sh.int,List.take_of_length_le]⟩⟩
  · rw[List.getElem?_map,hx]at hc
    simp only[Option.map_some,Option.some.injEq]at hc
    exact hc.symm
theorem OwnI.empty (w:World) (hB:B≤w.heap.size):OwnI B (w.alloc (.cells #[] 3)) (.slice (some ⟨w.heap.size,0,none⟩) 0 0) []:=OwnI.made w [] hB (by simp)
theorem OwnI.set {g off:Nat} (h:OwnI B w (.slice (some ⟨g,off,none⟩) n c) xs) (j:Nat) (x:Int):OwnI B (w.setCell ⟨g,off+j,none⟩ (.int .i64 x)) (.slice (some ⟨g,off,none⟩) n c) (xs.set j x):=by
  have hl:=h.len
  obtain⟨css,h1,h2,h3⟩:=h
  refine⟨css.set j [.int .i64 x],by rw[List.length_set,List.length_set,h1],?_,fun i y cs hy hc=>?_⟩
  · have h2':=h2
    rw[hl]at h2'
    have:=h2'.set j (.int .i64 x)
    rw[List.length_set,hl]
    have e:(css.set j [.int .i64 x]).flatten=css.flatten.set j (.int .i64 x):=by
      have hcs:∀cs∈css,cs.length=1:=OwnL.lens h1 h3
      clear h1 h2 h2' h3 this
      induction css generalizing j with
      |nil=>rfl
      |cons cs css ih=>
        have h0:=hcs cs (List.mem_cons_self ..)
        obtain⟨c0,rfl⟩:=List.length_eq_one_iff.1 h0
        cases j with
        |zero=>rfl
        |succ j=>
          rw[List.set_cons_succ,List.flatten_cons,List.flatten_cons,ih j (fun c hc=>hcs c (List.mem_cons_of_mem _ hc))]
          rfl
    rw[e]
    exact this
  · rw[List.getElem?_set]at hy hc
    by_cases e:j=i
    · subst e
      rw[if_pos rfl]at hy hc
      split at hy
      · split at hc
        ·cases hy;cases hc;rfl
        ·cases hc
      ·cases hy
    · rw[if_neg e]at hy hc
      exact h3 i y cs hy hc
end
end Go.Proofs.YtfgljkblopojgaaGreatDoor
namespace Go.Proofs.YtfgljkblopojgaaGreatDoor
set_option linter.unusedVariables false
set_option linter.unusedSimpArgs false
open Go.RowKit Go.Maps
end Go.Proofs.YtfgljkblopojgaaGreatDoor
namespace Go.Proofs.YtfgljkblopojgaaGreatDoor
set_option linter.unusedVariables false
set_option linter.unusedSimpArgs false
open Go.RowKit
def findI (p:Int→Bool) (xs:List Int):Int:=if xs.any p then(xs.findIdx p:Int)else -1
theorem findI_none {p:Int→Bool} {xs:List Int} (h:∀x∈xs,p x=false):findI p xs= -1:=by
  rw[findI,if_neg]
  rw[List.any_eq_true]
  rintro⟨x,hx,hp⟩
  rw[h x hx]at hp
  cases hp
theorem findI_hit {p:Int→Bool} {xs:List Int} {k:Nat} (h:∀x∈xs.take k,p x=false) (hk:k<xs.length) (hp:p (xs.getD k 0)=true):findI p xs=k:=by
  rw[List.getD,List.getElem?_eq_getElem hk]at hp
  simp only[Option.getD_some]at hp
  rw[findI,if_pos (List.any_eq_true.2 ⟨_,List.getElem_mem hk,hp⟩)]
  congr 1
  rw[List.findIdx_eq hk]
  refine⟨hp,fun j hj=>h _ ?_⟩
  rw[List.mem_take_iff_getElem]
  exact⟨j,by omega,rfl⟩
theorem take_step {p:Int→Bool} {xs:List Int} {k:Nat} (h:∀x∈xs.take k,p x=false) (hk:k<xs.length) (hp:p (xs.getD k 0)=false):∀x∈xs.take (k+1),p x=false:=by
  intro x hx
  rw[List.take_succ_eq_append_getElem hk,List.mem_append,List.mem_singleton]at hx
  rcases hx with hx|rfl
  ·exact h x hx
  · rw[List.getD,List.getElem?_eq_getElem hk]at hp
    exact hp
set_option maxHeartbeats 400000 in
theorem indexFunc_any (P:Nat→Prop) (g:Nat) (lb:Array Value) (eg:∀args w,(callFunc g args).run Tryz.prog w= .ok (.enter g args) w) (p:Int→Bool) (a:Option Addr) (n c:Nat) (xs:List Int) (w:World) (hx:Sl Sh.int P w (.slice a n c) xs)
    (hp:∀x,Calls Tryz.prog g (#[.int .i64 x]++lb) w fun e w'=>e= .returned (.bool (p x))∧w=w'):
    Calls Tryz.prog 93 #[.slice a n c,.func (.func g) #[] lb] w fun e w'=>e= .returned (.int .i64 (findI p xs))∧w=w':=by
  have hle:=hx.le
  have hlen:=hx.len
  have Hp:=hid hp;clear hp
  have Hlen:=hid hlen;clear hlen
  go_enter Tryz.func93,Tryz.ntmps93
  go_wp2
  go_loop [5,8] (fun _ i=>∃k:Nat,k≤n∧i= .int .i64 k∧Hid (∀x∈xs.take k,p x=false)) (fun _ i=>n -(intOf i).toNat)
  case atStart=>exact⟨0,Nat.zero_le _,rfl,hid (by simp)⟩
  case round=>
    obtain⟨k,hk,rfl,ht⟩:=hrel
    by_cases hlt:k<n
    · obtain⟨ba,oa,ha,_,_,hca⟩:=hx.intAt (by omega)
      subst ha
      have h1:=hca k hlt
      generalize hy:xs.getD k 0=y at h1
      have Hy:=hid hy;clear hy hca
      have hcall:=Hp.out y
      have hltz:(k:Int)<(n:Int):=by omega
      cases hq:p y with
      |true=>
        rw[hq]at hcall
        have Hq:=hid hq;clear hq
        have Hc:=hid hcall;clear hcall
        go_wp2_with (go_at_fn g;refine Hc.out.mono ?_;rintro e w' ⟨rfl,rfl⟩)
        go_ret
        exact⟨ret_int (findI_hit ht.out (by rw[Hlen.out];exact hlt) (by rw[Hy.out];exact Hq.out)).symm,rfl⟩
      |false=>
        rw[hq]at hcall
        have Hq:=hid hq;clear hq
        have Hc:=hid hcall;clear hcall
        go_wp2_with (go_at_fn g;refine Hc.out.mono ?_;rintro e w' ⟨rfl,rfl⟩)
        exact⟨⟨k+1,by omega,rfl,hid (take_step ht.out (by rw[Hlen.out];exact hlt) (by rw[Hy.out];exact Hq.out))⟩,by simp[intOf];omega⟩
    · have:k=n:=by omega
      subst this
      go_wp2
      go_ret
      exact⟨ret_int (findI_none (by have h:=ht.out;rw[List.take_of_length_le (by rw[Hlen.out];omega)]at h;exact h)).symm,rfl⟩
def inB (n lo hi:Int):Bool:=decide (lo≤n∧n≤hi)
set_option maxHeartbeats 400000 in
theorem within_any (n lo hi:Int) (w:World):Calls Tryz.prog 55 #[.int .i64 n,.int .i64 lo,.int .i64 hi] w fun e w'=>e= .returned (.bool (inB n lo hi))∧w=w':=by
  by_cases h1:lo≤n
  · have h1':decide (lo≤n)=true:=by simpa using h1
    by_cases h2:n≤hi
    · have h2':decide (n≤hi)=true:=by simpa using h2
      have hf:inB n lo hi=true:=by simp[inB,h1,h2]
      rw[hf]
      clear hf
      go_enter Tryz.func55,Tryz.ntmps55
      go_wp2
      go_ret
      exact⟨rfl,rfl⟩
    · have h2':decide (n≤hi)=false:=by simpa using h2
      have hf:inB n lo hi=false:=by simp[inB,h2]
      rw[hf]
      clear hf
      go_enter Tryz.func55,Tryz.ntmps55
      go_wp2
      go_ret
      exact⟨rfl,rfl⟩
  · have h1':decide (lo≤n)=false:=by simpa using h1
    have hf:inB n lo hi=false:=by simp[inB,h1]
    rw[hf]
    clear hf
    go_enter Tryz.func55,Tryz.ntmps55
    go_wp2
    go_ret
    exact⟨rfl,rfl⟩
abbrev Aff:=List Int×Int
def AffR (P:Nat→Prop) (w:World) (v:Value) (x:Aff):Prop:=∃va,v= .agg #[va,.int .i64 x.2]∧Sl Sh.int P w va x.1
theorem AffR.below {P:Nat→Prop} {w w':World} {v:Value} {x:Aff} (h:AffR P w v x) (hb:Below w.heap.size w w'):AffR P w' v x:=by
  obtain⟨va,e,hs⟩:=h
  exact⟨va,e,hs.below hb⟩
theorem AffR.mono {P Q:Nat→Prop} {w:World} {v:Value} {x:Aff} (hp:∀b,P b→b<w.heap.size→Q b) (h:AffR P w v x):AffR Q w v x:=by
  obtain⟨va,e,hs⟩:=h
  exact⟨va,e,hs.mono hp⟩
theorem AffR.any {P:Nat→Prop} {w:World} {v:Value} {x:Aff} (h:AffR P w v x):AffR (fun _=>True) w v x:=h.mono fun _ _ _=>trivial
theorem AffR.grown {P:Nat→Prop} {w w':World} {v:Value} {x:Aff} {r:Option Nat} (h:AffR P w v x) (hg:w.grownBy w' r) (hP:∀b,P b→r≠some b):AffR P w' v x:=by
  obtain⟨va,e,hs⟩:=h
  exact⟨va,e,hs.grown hg hP⟩
theorem AffR.shape {P:Nat→Prop} {w:World} {v:Value} {x:Aff} (h:AffR P w v x):∃a c,v= .agg #[.slice a x.1.length c,.int .i64 x.2]∧x.1.length≤c∧x.1.length≤17592186044416∧Sl Sh.int P w (.slice a x.1.length c) x.1:=by
  obtain⟨va,rfl,hs⟩:=h
  obtain⟨a,c,rfl,h1,h2,_⟩:=hs.form
  exact⟨a,c,rfl,h1,h2,hs⟩
def affV (x:Aff):Bool:=decide (x.1.length=4)&&inB x.2 (-99) 99&& !x.1.any (fun c=> !inB c (-9) 9)
theorem affV_len {x:Aff} (h:affV x=true):x.1.length=4:=by
  simp[affV]at h
  exact h.1.1
theorem affV_const {x:Aff} (h:affV x=true): -99≤x.2∧x.2≤99:=by
  simp[affV,inB]at h
  exact h.1.2
theorem affV_coef {x:Aff} (h:affV x=true):∀c∈x.1, -9≤c∧c≤9:=by
  simp[affV,inB]at h
  exact h.2
theorem affV_getD {x:Aff} (h:affV x=true) (i:Nat): -9≤x.1.getD i 0∧x.1.getD i 0≤9:=by
  rw[List.getD]
  cases e:x.1[i]? with
  |none=>simp
  |some c=>exact affV_coef h c (List.mem_of_getElem? e)
set_option maxHeartbeats 400000 in
theorem isConst_any (n:Int) (w:World):Calls Tryz.prog 85 #[.int .i64 n] w fun e w'=>e= .returned (.bool (inB n (-99) 99))∧w=w':=by
  go_enter Tryz.func85,Tryz.ntmps85
  go_wp2_with (go_at_call 55;refine(within_any _ _ _ _).mono ?_;rintro e w' ⟨rfl,rfl⟩)
  go_ret
  exact⟨rfl,rfl⟩
set_option maxHeartbeats 400000 in
theorem affV1_any (n:Int) (w:World):Calls Tryz.prog 87 #[.int .i64 n] w fun e w'=>e= .returned (.bool (!inB n (-9) 9))∧w=w':=by
  go_enter Tryz.func87,Tryz.ntmps87
  go_wp2_with (go_at_call 55;refine(within_any _ _ _ _).mono ?_;rintro e w' ⟨rfl,rfl⟩)
  go_ret
  exact⟨rfl,rfl⟩
theorem Tryz.egAffV1:∀args w,(callFunc 87 args).run Tryz.prog w= .ok (.enter 87 args) w:=fun _ _=>by kernel_rfl
set_option maxHeartbeats 400000 in
theorem containsFunc_any (P:Nat→Prop) (g:Nat) (lb:Array Value) (eg:∀args w,(callFunc g args).run Tryz.prog w= .ok (.enter g args) w) (p:Int→Bool) (a:Option Addr) (n c:Nat) (xs:List Int) (w:World) (hx:Sl Sh.int P w (.slice a n c) xs)
    (hp:∀x,Calls Tryz.prog g (#[.int .i64 x]++lb) w fun e w'=>e= .returned (.bool (p x))∧w=w'):
    Calls Tryz.prog 86 #[.slice a n c,.func (.func g) #[] lb] w fun e w'=>e= .returned (.bool (xs.any p))∧w=w':=by
  have hd:decide (0≤findI p xs)=xs.any p:=by
    unfold findI
    cases h:xs.any p
    ·simp
    ·simp
  have Hd:=hid hd
  have Hp:=hid hp
  clear hd hp
  go_enter Tryz.func86,Tryz.ntmps86
  go_wp2_with (go_at_call 93;refine(indexFunc_any P g lb eg p _ _ _ xs _ hx Hp.out).mono ?_;rintro e w' ⟨rfl,rfl⟩)
  go_ret
  exact⟨ret_bool Hd.out,rfl⟩
set_option maxHeartbeats 800000 in
theorem implAffV_any (P:Nat→Prop) (v:Value) (x:Aff) (w:World) (h:AffR P w v x):
    Calls Tryz.prog 72 #[v] w fun e w'=>e= .returned (.bool (affV x))∧Below w.heap.size w w':=by
  obtain⟨a,c,rfl,h1,h2,hs⟩:=h.shape
  obtain⟨co,k⟩:=x
  simp only at hs h1 h2 ⊢
  have haf:affV (co,k)=(decide (co.length=4)&&inB k (-99) 99&& !co.any (fun c=> !inB c (-9) 9)):=rfl
  have Haf:=hid haf;clear haf
  have hs':=hs.alloc (.cells #[.slice a co.length c,.int .i64 k] 28)
  by_cases h4:co.length=4
  · have h4':(((co.length:Nat):Int)==4)=true:=by simp;omega
    have H4:=hid h4
    clear h4
    cases hk:inB k (-99) 99
    · go_enter Tryz.func72,Tryz.ntmps72
      go_wp2_with (go_at_call 85;refine(isConst_any _ _).mono ?_;rintro e w' ⟨rfl,rfl⟩;rw[hk])
      go_ret
      exact⟨ret_bool (by rw[Haf.out,hk];simp),(Below.refl _ _).alloc (Nat.le_refl _) _⟩
    · go_enter Tryz.func72,Tryz.ntmps72
      go_wp2_with (first
        |(go_at_call 85;refine(isConst_any _ _).mono ?_;rintro e w' ⟨rfl,rfl⟩;rw[hk])
        |(go_at_call 86;refine(containsFunc_any P 87 #[] Tryz.egAffV1 (fun c=> !inB c (-9) 9) _ _ _ co _ hs' (fun x=>affV1_any x _)).mono ?_;rintro e w' ⟨rfl,rfl⟩))
      go_ret
      exact⟨ret_bool (by rw[Haf.out,hk,H4.out];simp),(Below.refl _ _).alloc (Nat.le_refl _) _⟩
  · have h4':(((co.length:Nat):Int)==4)=false:=by simp;omega
    have H4:=hid h4
    clear h4
    go_enter Tryz.func72,Tryz.ntmps72
    go_wp2
    go_ret
    exact⟨ret_bool (by rw[Haf.out,decide_eq_false H4.out];simp),(Below.refl _ _).alloc (Nat.le_refl _) _⟩
abbrev Lp:=List Aff×List Aff
section
variable {P : Nat → Prop} {w : World} {cs : List Value} {a : Option Addr} {n c : Nat}
end
theorem take_eq_stepE {xs ys:List Int} {k:Nat} (hk:xs.take k=ys.take k) (h1:k<xs.length) (h2:k<ys.length) (h:xs.getD k 0=ys.getD k 0):xs.take (k+1)=ys.take (k+1):=by
  rw[List.take_succ_eq_append_getElem h1,List.take_succ_eq_append_getElem h2,hk]
  simp only[List.getD,List.getElem?_eq_getElem h1,List.getElem?_eq_getElem h2,Option.getD_some]at h
  rw[h]
theorem ne_of_getDE {xs ys:List Int} {k:Nat} (h:¬xs.getD k 0=ys.getD k 0):xs≠ys:=fun e=>h (by rw[e])
set_option maxHeartbeats 800000 in
theorem l1Ints_any (P Q:Nat→Prop) (a b:Option Addr) (m n c1 c2:Nat) (xs ys:List Int) (w:World) (hx:Sl Sh.int P w (.slice a m c1) xs) (hy:Sl Sh.int Q w (.slice b n c2) ys):
    Calls Tryz.prog 54 #[.slice a m c1,.slice b n c2] w fun e w'=>e= .returned (.bool (decide (xs=ys)))∧Quiet w w':=by
  have hxl:=hid hx.len
  have hyl:=hid hy.len
  by_cases hmn:m=n
  · subst hmn
    have hle:=hx.le
    go_enter Tryz.func54,Tryz.ntmps54
    go_wp2
    go_loopw [5] (fun i wr=>∃k:Nat,k≤m∧i= .int .i64 k∧Hid (xs.take k=ys.take k)∧Quiet w wr) (fun i _=>m -(intOf i).toNat)
    case atStart=>exact⟨0,Nat.zero_le _,rfl,hid (by simp),Quiet.refl w⟩
    case round=>
      obtain⟨k,hk,rfl,Ht,hq⟩:=hrel
      by_cases hlt:k<m
      · obtain⟨ba,oa,ha,_,_,hca⟩:=(hx.quiet hq).intAt (by omega)
        obtain⟨bb,ob,hb,_,_,hcb⟩:=(hy.quiet hq).intAt (by omega)
        subst ha hb
        have h1:=hca k hlt
        have h2:=hcb k hlt
        clear hca hcb
        generalize hu:xs.getD k 0=u at h1
        generalize hv:ys.getD k 0=v at h2
        have Hu:=hid hu;have Hv:=hid hv
        clear hu hv
        cases he:(u != v)
        · have hee:u=v:=by simpa using he
          have Hst:=hid (take_eq_stepE Ht.out (by rw[hxl.out];exact hlt) (by rw[hyl.out];exact hlt) (by rw[Hu.out,Hv.out,hee]))
          clear hee
          go_wp2
          go_quiet (fail)
          go_wp2
          exact⟨⟨k+1,by omega,rfl,Hst,hq.drewN⟩,by simp[intOf];omega⟩
        · have hne:u≠v:=by simpa using he
          have Hne:=hid (ne_of_getDE (xs:=xs) (ys:=ys) (k:=k) (by rw[Hu.out,Hv.out];exact hne))
          clear hne
          go_wp2
          go_quiet (fail)
          go_wp2
          go_ret
          exact⟨ret_bool (decide_eq_false Hne.out).symm,hq.drewN⟩
      · have:k=m:=by omega
        subst this
        go_wp2
        go_ret
        exact⟨ret_bool (by have h:=Ht.out;rw[List.take_of_length_le (by rw[hxl.out];omega),List.take_of_length_le (by rw[hyl.out];omega)]at h;exact(decide_eq_true h).symm),hq⟩
  · have hne:(((m:Int) != (n:Int))=true):=by simp;omega
    go_enter Tryz.func54,Tryz.ntmps54
    go_wp2
    go_ret
    exact⟨ret_bool (decide_eq_false (fun e=>hmn (by rw[←hxl.out,←hyl.out,e]))).symm,Quiet.refl _⟩
set_option maxHeartbeats 400000 in
theorem l1Within_any (n m:Int) (w:World) (h0:0≤m) (h1:m≤1000000):Calls Tryz.prog 80 #[.int .i64 n,.int .i64 m] w fun e w'=>e= .returned (.bool (inB n (-m) m))∧w=w':=by
  by_cases h1: -m≤n
  · have h1':decide (-m≤n)=true:=by simpa using h1
    by_cases h2:n≤m
    · have h2':decide (n≤m)=true:=by simpa using h2
      have hf:=hid (show inB n (-m) m=true by simp[inB,h1,h2])
      go_enter Tryz.func80,Tryz.ntmps80
      go_wp2
      go_ret
      exact⟨ret_bool hf.out.symm,rfl⟩
    · have h2':decide (n≤m)=false:=by simpa using h2
      have hf:=hid (show inB n (-m) m=false by simp[inB,h2])
      go_enter Tryz.func80,Tryz.ntmps80
      go_wp2
      go_ret
      exact⟨ret_bool hf.out.symm,rfl⟩
  · have h1':decide (-m≤n)=false:=by simpa using h1
    have hf:=hid (show inB n (-m) m=false by simp[inB];omega)
    go_enter Tryz.func80,Tryz.ntmps80
    go_wp2
    go_ret
    exact⟨ret_bool hf.out.symm,rfl⟩
theorem specAffV_any (P:Nat→Prop) (v:Value) (x:Aff) (w:World) (h:AffR P w v x):
    Calls Tryz.prog 64 #[v] w fun e w'=>e= .returned (.bool (affV x))∧Below w.heap.size w w':=by
  obtain⟨a,c,rfl,h1,h2,hs⟩:=h.shape
  obtain⟨co,k⟩:=x
  simp only at hs h1 h2 ⊢
  have haf:affV (co,k)=(decide (co.length=4)&&inB k (-99) 99&& !co.any (fun c=> !inB c (-9) 9)):=rfl
  have Haf:=hid haf;clear haf
  have hs':=hs.alloc (.cells #[.slice a co.length c,.int .i64 k] 28)
  go_enter Tryz.func64,Tryz.ntmps64
  go_wp2
  go_loop [3] (fun i=>∃j:Nat,j≤co.length∧i= .int .i64 j∧Hid (∀x∈co.take j,(!inB x (-9) 9)=false)) (fun i=>co.length -(intOf i).toNat)
  case atStart=>exact⟨0,Nat.zero_le _,rfl,hid (by simp)⟩
  case round=>
    obtain⟨j,hj,rfl,ht⟩:=hrel
    by_cases hlt:j<co.length
    · obtain⟨ba,oa,ha,_,_,hca⟩:=hs'.intAt (by omega)
      subst ha
      have q1:=hca j hlt
      generalize hy:co.getD j 0=y at q1
      have Hy:=hid hy;clear hy hca
      cases hq:inB y (-9) 9
      · have Hq:Hid (inB y (-9) 9=false):=hid hq
        have hany:Hid (co.any (fun c=> !inB c (-9) 9)=true):=hid (List.any_eq_true.2 ⟨y,by rw[←Hy.out,List.getD,List.getElem?_eq_getElem hlt];exact List.getElem_mem _,by rw[Hq.out];rfl⟩)
        go_wp2_with (go_at_call 80;refine(l1Within_any _ _ _ (by omega) (by omega)).mono ?_;rintro e w' ⟨rfl,rfl⟩;rw[Hq.out])
        go_ret
        exact⟨ret_bool (by rw[Haf.out,hany.out];simp),(Below.refl _ _).alloc (Nat.le_refl _) _⟩
      · have Hq:Hid (inB y (-9) 9=true):=hid hq
        have Ht:=hid (take_step (p:=fun c=> !inB c (-9) 9) ht.out hlt (by rw[Hy.out,Hq.out];rfl))
        go_wp2_with (go_at_call 80;refine(l1Within_any _ _ _ (by omega) (by omega)).mono ?_;rintro e w' ⟨rfl,rfl⟩;rw[Hq.out])
        exact⟨⟨j+1,by omega,rfl,Ht⟩,by simp[intOf];omega⟩
    · have hje:j=co.length:=by omega
      subst hje
      have hany:Hid (co.any (fun c=> !inB c (-9) 9)=false):=hid (by
        have:=ht.out
        rw[List.take_length]at this
        rw[List.any_eq_false]
        intro x hx
        rw[this x hx];simp)
      by_cases h4:co.length=4
      · have h4':(((co.length:Nat):Int)==4)=true:=by simp;omega
        have H4:=hid h4
        clear h4
        go_wp2_with (go_at_call 80;refine(l1Within_any _ _ _ (by omega) (by omega)).mono ?_;rintro e w' ⟨rfl,rfl⟩)
        go_ret
        exact⟨ret_bool (by rw[Haf.out,hany.out,decide_eq_true H4.out];simp),(Below.refl _ _).alloc (Nat.le_refl _) _⟩
      · have h4':(((co.length:Nat):Int)==4)=false:=by simp;omega
        have H4:=hid h4
        clear h4
        go_wp2
        go_ret
        exact⟨ret_bool (by rw[Haf.out,hany.out,decide_eq_false H4.out];simp),(Below.refl _ _).alloc (Nat.le_refl _) _⟩
def depthTo (co:List Int):Nat→Nat
  |0=>0
  |k+1=>if co.getD k 0=0 then depthTo co k else k+1
def affDepth (x:Aff):Nat:=depthTo x.1 x.1.length
theorem depth_any (P:Nat→Prop) (v:Value) (x:Aff) (w:World) (h:AffR P w v x):
    Calls Tryz.prog 73 #[v] w fun e w'=>e= .returned (.int .i64 (affDepth x))∧Below w.heap.size w w':=by
  obtain⟨a,c,rfl,h1,h2,hs⟩:=h.shape
  obtain⟨co,k⟩:=x
  simp only at hs h1 h2 ⊢
  have hs':=hs.alloc (.cells #[.slice a co.length c,.int .i64 k] 28)
  go_enter Tryz.func73,Tryz.ntmps73
  go_wp2
  go_loop [3] (fun i=>∃j:Nat,j≤co.length∧i= .int .i64 j∧Hid (depthTo co co.length=depthTo co j)) (fun i=>(intOf i).toNat)
  case atStart=>exact⟨co.length,Nat.le_refl _,rfl,rfl⟩
  case round=>
    obtain⟨j,hj,rfl,ht⟩:=hrel
    cases j with
    |zero=>
      have e0:((0:Nat):Int)=0:=rfl
      rw[e0]
      go_wp2
      go_ret
      exact⟨ret_int (by rw[affDepth,ht.out];rfl),(Below.refl _ _).alloc (Nat.le_refl _) _⟩
    |succ j=>
      have e1:((j+1:Nat):Int)=(j:Int)+1:=by omega
      rw[e1]
      obtain⟨ba,oa,ha,_,_,hca⟩:=hs'.intAt (by omega)
      subst ha
      have q1:=hca j (by omega)
      generalize hy:co.getD j 0=y at q1
      have Hy:=hid hy;clear hy hca e1
      cases hq:(y==0)
      · have Ht:Hid (depthTo co co.length=j+1):=hid (by rw[ht.out,depthTo,Hy.out,if_neg (by simpa using hq)])
        go_wp2
        go_ret
        exact⟨ret_int (by rw[affDepth,Ht.out];rfl),(Below.refl _ _).alloc (Nat.le_refl _) _⟩
      · have Ht:Hid (depthTo co co.length=depthTo co j):=hid (by rw[ht.out,depthTo,Hy.out,if_pos (by simpa using hq)])
        go_wp2
        exact⟨⟨j,by omega,rfl,Ht⟩,by simp[intOf]⟩
theorem l1Depth_any (P:Nat→Prop) (v:Value) (x:Aff) (w:World) (h:AffR P w v x):
    Calls Tryz.prog 65 #[v] w fun e w'=>e= .returned (.int .i64 (affDepth x))∧Below w.heap.size w w':=by
  obtain⟨a,c,rfl,h1,h2,hs⟩:=h.shape
  obtain⟨co,k⟩:=x
  simp only at hs h1 h2 ⊢
  have hs':=hs.alloc (.cells #[.slice a co.length c,.int .i64 k] 28)
  go_enter Tryz.func65,Tryz.ntmps65
  go_wp2
  go_loop [3,4] (fun q i=>∃j:Nat,j≤co.length∧i= .int .i64 j∧q= .int .i64 (depthTo co j:Nat)) (fun _ i=>co.length -(intOf i).toNat)
  case atStart=>exact⟨0,Nat.zero_le _,rfl,rfl⟩
  case round=>
    obtain⟨j,hj,rfl,rfl⟩:=hrel
    by_cases hlt:j<co.length
    · obtain⟨ba,oa,ha,_,_,hca⟩:=hs'.intAt (by omega)
      subst ha
      have q1:=hca j hlt
      have hd:depthTo co (j+1)=if co.getD j 0=0 then depthTo co j else j+1:=rfl
      generalize co.getD j 0=y at q1 hd
      clear hca
      cases hq:(y != 0)
      · rw[if_pos (by simpa using hq)]at hd
        have Hd:=hid hd;clear hd
        go_wp2
        exact⟨⟨j+1,by omega,rfl,by rw[Hd.out]⟩,by simp[intOf];omega⟩
      · rw[if_neg (by simpa using hq)]at hd
        have Hd:=hid hd;clear hd
        go_wp2
        exact⟨⟨j+1,by omega,rfl,by rw[Hd.out];rfl⟩,by simp[intOf];omega⟩
    · have hje:j=co.length:=by omega
      subst hje
      go_wp2
      go_ret
      exact⟨rfl,(Below.refl _ _).alloc (Nat.le_refl _) _⟩
def Small (p:List Int):Prop:=∀n∈p, -1099511627776≤n∧n≤1099511627776
theorem Small.getD {p:List Int} (h:Small p) (i:Nat): -1099511627776≤p.getD i 0∧p.getD i 0≤1099511627776:=by
  rw[List.getD]
  cases e:p[i]? with
  |none=>simp
  |some c=>exact h c (List.mem_of_getElem? e)
def AffO (B:Nat) (w:World) (v:Value) (x:Aff):Prop:=∃va,v= .agg #[va,.int .i64 x.2]∧OwnI B w va x.1
theorem AffO.r {B:Nat} {w:World} {v:Value} {x:Aff} (h:AffO B w v x) (hn:x.1.length≤17592186044416):AffR (fun b=>B≤b) w v x:=by
  obtain⟨va,e,ho⟩:=h
  exact⟨va,e,(ho.sl hn).mono fun b hb _=>(ho.lt b hb).1⟩
theorem AffO.any {B:Nat} {w:World} {v:Value} {x:Aff} (h:AffO B w v x) (hn:x.1.length≤17592186044416):AffR (fun _=>True) w v x:=(h.r hn).any
theorem AffO.below {B:Nat} {w w':World} {v:Value} {x:Aff} (h:AffO B w v x) (hb:Below w.heap.size w w'):AffO B w' v x:=by
  obtain⟨va,e,ho⟩:=h
  exact⟨va,e,ho.below hb⟩
theorem AffO.base {B B':Nat} {w:World} {v:Value} {x:Aff} (h:AffO B w v x) (hB:B'≤B):AffO B' w v x:=by
  obtain⟨va,e,ho⟩:=h
  exact⟨va,e,ho.base hB⟩
theorem AffO.grown {B:Nat} {w w':World} {v:Value} {x:Aff} {r:Option Nat} (h:AffO B w v x) (hg:w.grownBy w' r) (hr:∀g,r=some g→g<B):AffO B w' v x:=by
  obtain⟨va,e,ho⟩:=h
  exact⟨va,e,ho.grown hg (fun g hg e=>by have:=hr g hg;have:=(ho.lt g e).1;omega)⟩
theorem AffO.zero (B:Nat) (w:World):AffO B w (.agg #[.slice none 0 0,.int .i64 0]) ([],0):=⟨_,rfl,OwnI.nil _ _⟩
theorem OwnI.store {B:Nat} {w:World} {v u:Value} {xs:List Int} {p:Addr} (h:OwnI B w v xs) (hne:v.ownBlock≠some p.block):OwnI B (w.setCell p u) v xs:=
  h.grown (setCell_grown w p u) (fun g hg=>by cases hg;exact hne)
theorem Sl.store {α:Type} {S:Sh α} {P:Nat→Prop} {w:World} {v u:Value} {xs:List α} {p:Addr} (h:Sl S P w v xs) (hne:¬P p.block):Sl S P (w.setCell p u) v xs:=
  h.grown (setCell_grown w p u) (fun b hb e=>hne (by cases e;exact hb))
structure Box2 (w:World) (g:Nat) (u0 u1:Value):Prop where
  c0:w.cell? ⟨g,0,none⟩=some u0
  c1:w.cell? ⟨g,1,none⟩=some u1
  f0:w.frozen? ⟨g,0,none⟩=false
  f1:w.frozen? ⟨g,1,none⟩=false
  lt:g<w.heap.size
theorem Box2.new (w:World) (u0 u1:Value) (T:TypeId):Box2 (w.alloc (.cells #[u0,u1] T)) w.heap.size u0 u1:=by
  have hn:=heap_alloc_new w (.cells #[u0,u1] T)
  refine⟨cell_of_row _ _ 0 _ _ _ hn,cell_of_row _ _ 1 _ _ _ hn,?_,?_,by simp⟩
  ·unfold World.frozen?;rw[hn];rfl
  ·unfold World.frozen?;rw[hn];rfl
theorem Box2.belowLt {w w':World} {g D:Nat} {u0 u1:Value} (h:Box2 w g u0 u1) (hb:Below D w w') (hD:g<D):Box2 w' g u0 u1:=
  ⟨(hb.cell (p:=⟨g,0,none⟩) hD).trans h.c0,(hb.cell (p:=⟨g,1,none⟩) hD).trans h.c1,(hb.frozen (p:=⟨g,0,none⟩) hD).trans h.f0,(hb.frozen (p:=⟨g,1,none⟩) hD).trans h.f1,Nat.lt_of_lt_of_le h.lt hb.size⟩
theorem Box2.below {w w':World} {g:Nat} {u0 u1:Value} (h:Box2 w g u0 u1) (hb:Below w.heap.size w w'):Box2 w' g u0 u1:=h.belowLt hb h.lt
theorem Box2.alloc {w:World} {g:Nat} {u0 u1:Value} (h:Box2 w g u0 u1) (o:Obj):Box2 (w.alloc o) g u0 u1:=h.below ((Below.refl _ _).alloc (Nat.le_refl _) o)
theorem Box2.quiet {w w':World} {g:Nat} {u0 u1:Value} (h:Box2 w g u0 u1) (hq:Quiet w w'):Box2 w' g u0 u1:=h.below (hq.below _)
theorem grownBy_transK {w w' w'':World} {r:Option Nat} (h:w.grownBy w' r) (h':w'.grownBy w'' r):w.grownBy w'' r:=
  ⟨h'.os.trans h.os,h'.tape.trans h.tape,h'.output.trans h.output,Nat.le_trans h.size h'.size,fun k hk hr=>(h'.block k (Nat.lt_of_lt_of_le hk h.size) hr).trans (h.block k hk hr)⟩
theorem list4 {a:List Int} (h:a.length=4):a=[a.getD 0 0,a.getD 1 0,a.getD 2 0,a.getD 3 0]:=by
  match a,h with
  |[_,_,_,_],_=>rfl
theorem Box2.grown {w w':World} {g:Nat} {u0 u1:Value} {r:Option Nat} (h:Box2 w g u0 u1) (hg:w.grownBy w' r) (hr:r≠some g):Box2 w' g u0 u1:=by
  have hb:w'.heap[g]?=w.heap[g]?:=hg.block g h.lt (fun e=>hr e.symm)
  exact⟨(World.cell?_of_block (a:=⟨g,0,none⟩) hb).trans h.c0,(World.cell?_of_block (a:=⟨g,1,none⟩) hb).trans h.c1,(World.frozen?_of_block (a:=⟨g,0,none⟩) hb).trans h.f0,(World.frozen?_of_block (a:=⟨g,1,none⟩) hb).trans h.f1,Nat.lt_of_lt_of_le h.lt hg.size⟩
def RetA2 (P:Nat→Prop) (x:Aff) (ok:Bool) (w:World) (e:Ending) (w':World):Prop:=
  ∃v,e= .returned (.tuple #[v,.bool ok])∧AffR P w' v x∧Below w.heap.size w w'
def sameOf (x y:Aff):Bool:=decide (x.1=y.1)&&(x.2==y.2)
theorem sameOf_iff (x y:Aff):sameOf x y=true↔x=y:=by
  unfold sameOf
  constructor
  · intro h
    simp at h
    exact Prod.ext h.1 h.2
  ·intro h;subst h;simp
set_option maxHeartbeats 800000 in
theorem slEq_any (P Q:Nat→Prop) (a b:Option Addr) (m n c1 c2:Nat) (xs ys:List Int) (w:World) (hx:Sl Sh.int P w (.slice a m c1) xs) (hy:Sl Sh.int Q w (.slice b n c2) ys):
    Calls Tryz.prog 53 #[.slice a m c1,.slice b n c2] w fun e w'=>e= .returned (.bool (decide (xs=ys)))∧Quiet w w':=by
  have hxl:=hid hx.len
  have hyl:=hid hy.len
  by_cases hmn:m=n
  · subst hmn
    have hle:=hx.le
    go_enter Tryz.func53,Tryz.ntmps53
    go_wp2
    go_loopw [5,13] (fun _ i wr=>∃k:Nat,k≤m∧i= .int .i64 k∧Hid (xs.take k=ys.take k)∧Quiet w wr) (fun _ i _=>m -(intOf i).toNat)
    case atStart=>exact⟨0,Nat.zero_le _,rfl,hid (by simp),Quiet.refl w⟩
    case round=>
      obtain⟨k,hk,rfl,Ht,hq⟩:=hrel
      by_cases hlt:k<m
      · obtain⟨ba,oa,ha,_,_,hca⟩:=(hx.quiet hq).intAt (by omega)
        obtain⟨bb,ob,hb,_,_,hcb⟩:=(hy.quiet hq).intAt (by omega)
        subst ha hb
        have h1:=hca k hlt
        have h2:=hcb k hlt
        clear hca hcb
        generalize hu:xs.getD k 0=u at h1
        generalize hv:ys.getD k 0=v at h2
        have Hu:=hid hu;have Hv:=hid hv
        clear hu hv
        cases he:(u != v)
        · have hee:u=v:=by simpa using he
          have Hst:=hid (take_eq_stepE Ht.out (by rw[hxl.out];exact hlt) (by rw[hyl.out];exact hlt) (by rw[Hu.out,Hv.out,hee]))
          clear hee
          go_wp2
          go_quiet (fail)
          go_wp2
          exact⟨⟨k+1,by omega,rfl,Hst,hq.drewN⟩,by simp[intOf];omega⟩
        · have hne:u≠v:=by simpa using he
          have Hne:=hid (ne_of_getDE (xs:=xs) (ys:=ys) (k:=k) (by rw[Hu.out,Hv.out];exact hne))
          clear hne
          go_wp2
          go_quiet (fail)
          go_wp2
          go_ret
          exact⟨ret_bool (decide_eq_false Hne.out).symm,hq.drewN⟩
      · have:k=m:=by omega
        subst this
        go_wp2
        go_ret
        exact⟨ret_bool (by have h:=Ht.out;rw[List.take_of_length_le (by rw[hxl.out];omega),List.take_of_length_le (by rw[hyl.out];omega)]at h;exact(decide_eq_true h).symm),hq⟩
  · have hne:(((m:Int) != (n:Int))=true):=by simp;omega
    go_enter Tryz.func53,Tryz.ntmps53
    go_wp2
    go_ret
    exact⟨ret_bool (decide_eq_false (fun e=>hmn (by rw[←hxl.out,←hyl.out,e]))).symm,Quiet.refl _⟩
theorem implSame_any (P Q:Nat→Prop) (v u:Value) (x y:Aff) (w:World) (hx:AffR P w v x) (hy:AffR Q w u y):
    Calls Tryz.prog 35 #[v,u] w fun e w'=>e= .returned (.bool (sameOf x y))∧Below w.heap.size w w':=by
  obtain⟨a,c,rfl,_,_,hs⟩:=hx.shape
  obtain⟨b,d,rfl,_,_,ht⟩:=hy.shape
  have hs':=(hs.alloc (.cells #[.slice a x.1.length c,.int .i64 x.2] 28)).alloc (.cells #[.slice b y.1.length d,.int .i64 y.2] 28)
  have ht':=(ht.alloc (.cells #[.slice a x.1.length c,.int .i64 x.2] 28)).alloc (.cells #[.slice b y.1.length d,.int .i64 y.2] 28)
  have hb0:=(Below.refl w.heap.size w).alloc (Nat.le_refl _) (.cells #[.slice a x.1.length c,.int .i64 x.2] 28)
  have hb:=hb0.alloc (by simp) (.cells #[.slice b y.1.length d,.int .i64 y.2] 28)
  have B1:=(Box2.new w (.slice a x.1.length c) (.int .i64 x.2) 28).alloc (.cells #[.slice b y.1.length d,.int .i64 y.2] 28)
  have B2:=Box2.new (w.alloc (.cells #[.slice a x.1.length c,.int .i64 x.2] 28)) (.slice b y.1.length d) (.int .i64 y.2) 28
  rw[World.size_alloc]at B2
  have Hdef:=hid (show sameOf x y=(decide (x.1=y.1)&&(x.2==y.2))from rfl)
  go_enter Tryz.func35,Tryz.ntmps35
  go_wp2_with fail
  generalize (w.alloc (.cells #[.slice a x.1.length c,.int .i64 x.2] 28)).alloc (.cells #[.slice b y.1.length d,.int .i64 y.2] 28)=W at hs' ht' hb B1 B2
  have HB1:=hid B1;have HB2:=hid B2
  clear B1 B2 hb0
  refine(slEq_any P Q _ _ _ _ _ _ x.1 y.1 W hs' ht').mono ?_
  rintro e w1 ⟨rfl,q⟩
  obtain⟨p0,p1,_,_,_⟩:=HB1.out.quiet q
  obtain⟨r0,r1,_,_,_⟩:=HB2.out.quiet q
  generalize hdd:decide (x.1=y.1)=dd
  have Hdd:=hid hdd;clear hdd
  have Hb:=hid (hb.trans (q.below _))
  clear hb q hs' ht' hs ht hx hy
  cases dd
  · go_wp2_with fail
    go_ret
    exact⟨ret_bool (by rw[Hdef.out,Hdd.out];rfl),Hb.out⟩
  · go_wp2_with fail
    go_ret
    exact⟨ret_bool (by rw[Hdef.out,Hdd.out];simp),Hb.out⟩
theorem specSame_any (P Q:Nat→Prop) (v u:Value) (x y:Aff) (w:World) (hx:AffR P w v x) (hy:AffR Q w u y):
    Calls Tryz.prog 38 #[v,u] w fun e w'=>e= .returned (.bool (sameOf x y))∧Below w.heap.size w w':=by
  obtain⟨a,c,rfl,_,_,hs⟩:=hx.shape
  obtain⟨b,d,rfl,_,_,ht⟩:=hy.shape
  have hs':=(hs.alloc (.cells #[.slice a x.1.length c,.int .i64 x.2] 28)).alloc (.cells #[.slice b y.1.length d,.int .i64 y.2] 28)
  have ht':=(ht.alloc (.cells #[.slice a x.1.length c,.int .i64 x.2] 28)).alloc (.cells #[.slice b y.1.length d,.int .i64 y.2] 28)
  have hb0:=(Below.refl w.heap.size w).alloc (Nat.le_refl _) (.cells #[.slice a x.1.length c,.int .i64 x.2] 28)
  have hb:=hb0.alloc (by simp) (.cells #[.slice b y.1.length d,.int .i64 y.2] 28)
  have B1:=(Box2.new w (.slice a x.1.length c) (.int .i64 x.2) 28).alloc (.cells #[.slice b y.1.length d,.int .i64 y.2] 28)
  have B2:=Box2.new (w.alloc (.cells #[.slice a x.1.length c,.int .i64 x.2] 28)) (.slice b y.1.length d) (.int .i64 y.2) 28
  rw[World.size_alloc]at B2
  have Hdef:=hid (show sameOf x y=(decide (x.1=y.1)&&(x.2==y.2))from rfl)
  cases hk:(x.2==y.2)
  · have Hk:=hid hk
    go_enter Tryz.func38,Tryz.ntmps38
    go_wp2_with fail
    go_ret
    exact⟨ret_bool (by rw[Hdef.out,Hk.out];simp),hb⟩
  · have Hk:=hid hk
    go_enter Tryz.func38,Tryz.ntmps38
    go_wp2_with fail
    refine(l1Ints_any P Q _ _ _ _ _ _ x.1 y.1 _ hs' ht').mono ?_
    rintro e w1 ⟨rfl,q⟩
    have Hb:=hid (hb.trans (q.below _))
    clear hb q hs' ht' hs ht hx hy
    go_wp2_with fail
    go_ret
    exact⟨ret_bool (by rw[Hdef.out,Hk.out];simp),Hb.out⟩
theorem i64_xor_nat (a b:Nat) (ha:a<9223372036854775808) (hb:b<9223372036854775808):bits .xor .i64 (a:Int) (b:Int)=((a ^^^ b:Nat):Int):=by
  have hx:a ^^^ b<2^63:=Nat.xor_lt_two_pow (by omega) (by omega)
  show IntKind.i64.wrap ((BitVec.ofInt 64 (a:Int) ^^^ BitVec.ofInt 64 (b:Int)).toNat:Int)=_
  rw[BitVec.toNat_xor,ofInt_u64 a (by omega),ofInt_u64 b (by omega)]
  simp[IntKind.wrap,IntKind.bits,IntKind.signed]
  omega
theorem i64_xor_nonneg (a b:Int) (h1:0≤a) (h2:a<9223372036854775808) (h3:0≤b) (h4:b<9223372036854775808):0≤bits .xor .i64 a b∧bits .xor .i64 a b<9223372036854775808:=by
  obtain⟨A,rfl⟩:=Int.eq_ofNat_of_zero_le h1
  obtain⟨B,rfl⟩:=Int.eq_ofNat_of_zero_le h3
  have hx:A ^^^ B<2^63:=Nat.xor_lt_two_pow (by omega) (by omega)
  rw[i64_xor_nat A B (by omega) (by omega)]
  omega
def Rd (w:World) (g p:Nat):Prop:=
  ∃a n c bs,w.heap[g]?=some (.cells #[.slice a n c,.int .i64 (p:Int)] 55 (0,0))∧n≤2000∧Sl Sh.byte (fun b=>b<g) w (.slice a n c) bs∧∀x∈bs,0≤x∧x≤255
theorem Rd.lt {w:World} {g p:Nat} (h:Rd w g p):g<w.heap.size:=by
  obtain⟨_,_,_,_,h,_⟩:=h
  exact(Array.getElem?_eq_some_iff.1 h).1
theorem Rd.frame {w w':World} {g p:Nat} (h:Rd w g p) (hs:∀b,b≤g→w'.heap[b]?=w.heap[b]?):Rd w' g p:=by
  obtain⟨a,n,c,bs,h1,h2,h3,h4⟩:=h
  exact⟨a,n,c,bs,by rw[hs g (Nat.le_refl _)];exact h1,h2,h3.frame (fun b hb _=>hs b (Nat.le_of_lt hb)),h4⟩
theorem Rd.below {w w':World} {g p:Nat} (h:Rd w g p) (hb:Below w.heap.size w w'):Rd w' g p:=h.frame fun b hle=>hb.block b (Nat.lt_of_le_of_lt hle h.lt)
theorem Rd.alloc {w:World} {g p:Nat} (h:Rd w g p) (o:Obj):Rd (w.alloc o) g p:=h.below ((Below.refl _ _).alloc (Nat.le_refl _) o)
theorem Rd.grown {w w':World} {g p:Nat} {r:Option Nat} (h:Rd w g p) (hg:w.grownBy w' r) (hr:∀k,r=some k→g<k):Rd w' g p:=
  h.frame fun b hle=>hg.block b (Nat.lt_of_le_of_lt hle h.lt) (fun e=>by have:=hr b e.symm;omega)
theorem mod_bd {x m:Int} (h0:0≤x) (hm:1≤m):0≤x.tmod m∧x.tmod m<m:=by
  rw[Int.tmod_eq_emod_of_nonneg h0]
  exact⟨Int.emod_nonneg _ (by omega),Int.emod_lt_of_pos _ (by omega)⟩
section
variable {P : Program} {n : Nat} {y : Code} {K : Exit → St → Prop} {σ : St} {id i : Nat} {I : Nat → St → Prop} {m : Nat}
theorem ks_n (h:ACode P n y K σ):kseq P n y K .normal σ:=h
theorem ks_e (h:K (.exit i) σ):kseq P n y K (.exit i) σ:=h
theorem ks_r (h:K .ret σ):kseq P n y K .ret σ:=h
theorem kb_n (h:K .normal σ):kblock id K .normal σ:=h
theorem kb_r (h:K .ret σ):kblock id K .ret σ:=h
theorem kb_hit (h:K .normal σ):kblock id K (.exit id) σ:=by simpa [kblock]using h
theorem kl_e (h:K (.exit i) σ):kloop I m K (.exit i) σ:=h
theorem kl_r (h:K .ret σ):kloop I m K .ret σ:=h
def kcut (σm:St) (K:Exit→St→Prop):Exit→St→Prop
  | .normal,σ=>Wk σ σm
  |e,σ=>K e σ
theorem kc_n {σm:St} (h:Wk σ σm):kcut σm K .normal σ:=h
theorem ACode.cut {P:Program} {n:Nat} {c:Code} {K:Exit→St→Prop} {σ:St} (σm:St) (h:ACode P n c (kcut σm K) σ) (h2:K .normal σm):ACode P n c K σ:=by
  intro E bx a w hE hs
  refine wp_mono (h E bx a w hE hs) ?_
  rintro e a' w' ⟨σ',bx',h3,h4⟩
  cases e with
  |normal=>obtain⟨bx2,h5⟩:=h3 E bx' a' w' h4;exact⟨σm,bx2,h2,h5⟩
  |_=>exact⟨σ',bx',h3,h4⟩
theorem vB {a b:Bool} (h:a=b):V.o (bo1 a)= .o (bo1 b):=by rw[h]
theorem vI {a b:Int} (h:a=b):V.o (nat1 a)= .o (nat1 b):=by rw[h]
theorem kf_ret {res:Array ResultVar} {y:V} {hb':St} {xs:List V1} (hr:resL σ P res.toList=some xs) (hy:tupV xs=y) (hb:∀k e sz rows,lk hb' (.b k)= .b e sz rows→lk σ (.b k)= .b e sz rows):Kfin P res y hb' .ret σ:=⟨σ,xs,Wk.refl σ,hr,hy,hb⟩
theorem kf_wret {res:Array ResultVar} {y:V} {hb':St} {xs:List V1} (σ2:St) (hw:Wk σ σ2) (hr:resL σ2 P res.toList=some xs) (hy:tupV xs=y) (hb:∀k e sz rows,lk hb' (.b k)= .b e sz rows→lk σ2 (.b k)= .b e sz rows):Kfin P res y hb' .ret σ:=⟨σ2,xs,hw,hr,hy,hb⟩
theorem nobox:∀(k:Nat) (e:TypeId) (sz:Nat) (rows:List (List C)),lk [] (.b k)= .b e sz rows→lk σ (.b k)= .b e sz rows:=fun k e sz rows h=>by cases h
end
theorem Fn.code0 {P:Program} {f:FuncId} {fn:Func} {c:Code} {args:List V1} {y:V} (hf:P.funcs[f]?=some fn) (hbd:fn.body=some c) (hn:Nat.ble args.length fn.ntmps=true) (hra:refsOk [] args=true)
    (hry:refsOk [] [match y with | .o x=>x| .tup xs=>.agg (xs.flatMap V1.cells)| .gh _=>.agg []]=true) (h:ACode P fn.ntmps c (Kfin P fn.results y []) (argS 0 args)):Fn P f [] args y []:=
  Fn.of_code hf hbd hn HB.nil rfl hra HB.nil hry (fun k _ ⟨e,sz,rows,h⟩=>by cases h) (by rw[List.append_nil];exact h)
theorem Fn.pure {P:Program} {f:FuncId} {args:List V1} {y:V} (h:∀(B:Nat→Prop) (bx:Nat→Nat×Nat) (al:Nat→Prop) (w:World) (vs:List Value),Vals (V1r bx al B w) args vs→
    Calls P f vs.toArray w fun e w'=>∃v,e= .returned v∧Below w.heap.size w w'∧Vr bx al (fun b=>B b∨w.heap.size≤b) w' y v):Fn P f [] args y []:=by
  intro B bx w vs hh hv
  refine(h B bx _ w vs hv).mono ?_
  rintro e w' ⟨v,rfl,hb,hr⟩
  exact⟨v,bx,rfl,⟨fun k e sz rows h=>(by cases h),fun k l ⟨e,sz,rows,h⟩=>(by cases h),fun k ⟨e,sz,rows,h⟩=>(by cases h)⟩,hr.to (Same.refl _ _) (fun b hb _=>⟨hb,fun k ⟨e,sz,rows,h⟩=>(by cases h)⟩) (fun k _ h=>⟨h,rfl⟩),hb.os,hb.tape,hb.output,hb.size,fun b hl _=>hb.block b hl,fun k _ ⟨e,sz,rows,h⟩=>(by cases h),fun k ⟨e,sz,rows,h⟩=>(by cases h)⟩
/-! ### Data of affine expressions and nests -/
@[reducible] def dI (n : Int) : D := .val (.int .i64 n)
@[reducible] def dB (b : Bool) : D := .val (.bool b)
def rI (n:Int):List D:=[dI n]
def dIs (xs:List Int):D:=.list 1 (xs.map rI)
def rA (x:Aff):List D:=[dIs x.1,dI x.2]
def dAs (l:List Aff):D:=.list 2 (l.map rA)
abbrev vD (x:D):V1:=.c (.d x)
theorem map_at {α β:Type} {f:α→β} {l:List α} {i:Nat} {x:α} (h:l[i]?=some x):(l.map f)[i]?=some (f x):=by rw[List.getElem?_map,h];rfl
theorem dr_int {B:Nat→Prop} {w:World} {n:Int} {v:Value} (h:Dr B w (dI n) v):v= .int .i64 n:=by cases h;rfl
theorem dr_ints {B:Nat→Prop} {w:World} {xs:List Int} {v:Value} (h:Dr B w (dIs xs) v):Sl Sh.int B w v xs:=by
  obtain⟨ad,cap,rfl,h1,h2,h3,h4⟩:=h.slice
  rw[List.length_map]at h1 h2 h4 ⊢
  refine⟨ad,cap,rfl,h1,h2,h3,fun i x hx=>?_⟩
  obtain⟨b,off,rfl,h5⟩:=h4 (by have:=(List.getElem?_eq_some_iff.1 hx).1;omega)
  obtain⟨_,u,h6,h7,h8⟩:=h5 i (rI x) 0 (dI x) (map_at hx) rfl
  refine⟨b,off,[.int .i64 x],rfl,h6,rfl,fun j c hj=>?_⟩
  cases j with
  |zero=>simp at hj;subst hj;rw[←dr_int h8];exact h7
  |succ j=>simp at hj
theorem dr_aff {bx:Nat→Nat×Nat} {al B:Nat→Prop} {w:World} {x:Aff} {v:Value} (h:V1r bx al B w (ad (rA x)) v):AffR B w v x:=by
  obtain⟨vs,rfl,hl,h⟩:=h
  match vs,hl with
  |[u0,u1],_=>
    have h0:Dr B w (dIs x.1) u0:=h 0 _ u0 rfl rfl
    have h1:Dr B w (dI x.2) u1:=h 1 _ u1 rfl rfl
    rw[dr_int h1]
    exact⟨u0,rfl,dr_ints h0⟩
theorem vals1 {R:V1→Value→Prop} {x:V1} {vs:List Value} (h:Vals R [x] vs):∃v,vs=[v]∧R x v:=by
  obtain⟨hl,h⟩:=h
  match vs,hl with
  |[v],_=>exact⟨v,rfl,h 0 x v rfl rfl⟩
theorem vals2 {R:V1→Value→Prop} {x y:V1} {vs:List Value} (h:Vals R [x,y] vs):∃u v,vs=[u,v]∧R x u∧R y v:=by
  obtain⟨hl,h⟩:=h
  match vs,hl with
  |[u,v],_=>exact⟨u,v,rfl,h 0 x u rfl rfl,h 1 y v rfl rfl⟩
theorem specAffV_fn (x:Aff):Fn Tryz.prog 64 [] [ad (rA x)] (.o (bo1 (affV x))) []:=
  Fn.pure fun B bx al w vs hv=>by
    obtain⟨v,rfl,h⟩:=vals1 hv
    exact(specAffV_any B v x w (dr_aff h)).mono fun e w' ⟨h1,h2⟩=>⟨_,h1,h2,.val _ rfl⟩
theorem l1Depth_fn (x:Aff):Fn Tryz.prog 65 [] [ad (rA x)] (.o (nat1 (affDepth x:Nat))) []:=
  Fn.pure fun B bx al w vs hv=>by
    obtain⟨v,rfl,h⟩:=vals1 hv
    exact(l1Depth_any B v x w (dr_aff h)).mono fun e w' ⟨h1,h2⟩=>⟨_,h1,h2,.val _ rfl⟩
section
variable {P : Program} {n : Nat} {ops : Array Oper} {o : Oper} {σ : St} {d : Nat} {t t2 : TypeId} {x y : Operand} {p q : Int}
theorem St1.rem (ho:o.op= .binOp .rem t x y t2) (hg:o.guard=none) (hd:o.dst=some d) (hn:Nat.blt d n=true) (hx:ev σ x=some (.o (nat1 p))) (hy:ev σ y=some (.o (nat1 q))) (hr:q≠0):
    St1 P n ops o σ (rd x++rd y) [.t d] ((.t d,.v (.o (nat1 (p.tmod q))))::σ):=
  St1.bin ho hg hd hn hx hy (fun w=>by simp[eqGuard,binOp,Op.intDiv,hr]) rfl
theorem St1.quo (ho:o.op= .binOp .quo t x y t2) (hg:o.guard=none) (hd:o.dst=some d) (hn:Nat.blt d n=true) (hx:ev σ x=some (.o (nat1 p))) (hy:ev σ y=some (.o (nat1 q))) (hr:q≠0∧ -9223372036854775808≤p.tdiv q∧p.tdiv q≤9223372036854775807):
    St1 P n ops o σ (rd x++rd y) [.t d] ((.t d,.v (.o (nat1 (p.tdiv q))))::σ):=
  St1.bin ho hg hd hn hx hy (fun w=>by simp[eqGuard,binOp,Op.intDiv,hr.1,IntWalk.i64_in _ hr.2]) rfl
def xorI (a b:Int):Int:=IntKind.i64.wrap ((BitVec.ofInt 64 a ^^^ BitVec.ofInt 64 b).toNat:Int)
theorem St1.xor (ho:o.op= .binOp .xor t x y t2) (hg:o.guard=none) (hd:o.dst=some d) (hn:Nat.blt d n=true) (hx:ev σ x=some (.o (nat1 p))) (hy:ev σ y=some (.o (nat1 q))):
    St1 P n ops o σ (rd x++rd y) [.t d] ((.t d,.v (.o (nat1 (xorI p q))))::σ):=
  St1.bin ho hg hd hn hx hy (fun w=>by simp[eqGuard,binOp,Op.intBits,xorI];rfl) rfl
theorem St1.eqlB {a b:Bool} (ho:o.op= .binOp .eql t x y t2) (hg:o.guard=none) (hd:o.dst=some d) (hn:Nat.blt d n=true) (ht:P.underlying t=some .bool) (hx:ev σ x=some (.o (bo1 a))) (hy:ev σ y=some (.o (bo1 b))):
    St1 P n ops o σ (rd x++rd y) [.t d] ((.t d,.v (.o (bo1 (a==b))))::σ):=
  St1.bin ho hg hd hn hx hy (fun w=>by simp[eqGuard,binOp,Op.equal,show Op.maxDepth=9999+1 from rfl,run_equalIn_bool' w 9999 t a b ht]) rfl
theorem St1.neqB {a b:Bool} (ho:o.op= .binOp .neq t x y t2) (hg:o.guard=none) (hd:o.dst=some d) (hn:Nat.blt d n=true) (ht:P.underlying t=some .bool) (hx:ev σ x=some (.o (bo1 a))) (hy:ev σ y=some (.o (bo1 b))):
    St1 P n ops o σ (rd x++rd y) [.t d] ((.t d,.v (.o (bo1 (!(a==b)))))::σ):=
  St1.bin ho hg hd hn hx hy (fun w=>by simp[eqGuard,binOp,Op.equal,show Op.maxDepth=9999+1 from rfl,run_equalIn_bool' w 9999 t a b ht]) rfl
theorem St1.convU {s t:TypeId} {ds:TypeDesc} {k:IntKind} {p:Int} (ho:o.op= .convert s t x) (hg:o.guard=none) (hd:o.dst=some d) (hn:Nat.blt d n=true) (hs':P.underlying s=some ds) (ht:P.underlying t=some (.int .i64)) (hx:ev σ x=some (.o (.c (.d (.val (.int k p)))))) (hr: -9223372036854775808≤p∧p≤9223372036854775807):
    St1 P n ops o σ (rd x) [.t d] ((.t d,.v (.o (nat1 p)))::σ):=
  St1.value hg hd hn fun E bx τ a w hR hs=>⟨⟨.int .i64 p,by
    have hv:=ev_val hx hR hs
    simp[execOp,ho,hv,convert,run_underlying hs',run_underlying ht,Conv.intToInt,IntWalk.i64_in _ hr],.val _ rfl⟩,fun k hk=>by cases hk⟩
end
theorem leafB {a b:Bool} (h:a=b):tupV [bo1 a]= .o (bo1 b):=by rw[h];rfl
theorem leafI {a b:Int} (h:a=b):tupV [nat1 a]= .o (nat1 b):=by rw[h];rfl
/-! ### The reader's data -/
def rY (b:Int):List D:=[.val (.int .u8 b)]
def dYs (bs:List Int):D:=.list 1 (bs.map rY)
def rRd (bs:List Int) (p:Nat):List D:=[dYs bs,dI (p:Nat)]
def hbR (bs:List Int) (p:Nat):St:=[(.b 0,.b 55 2 (dR [rRd bs p])),(.u 0,.u)]
theorem hbR_HB (bs:List Int) (p:Nat):HB (hbR bs p):=HB.nil.data
theorem hbR_flat (bs:List Int) (p:Nat):flatS (hbR bs p):=flatS.nil.cons rfl
theorem hbR_num (bs:List Int) (p q:Nat):∀k,k<100→Al (lk (hbR bs q)) k→Al (lk (hbR bs p)) k:=fun k _ ⟨e,sz,rows,h⟩=>by
  have:k=0:=by
    have hm:=lk_mem h (by simp)
    rcases List.mem_cons.1 hm with hm|hm
    ·cases hm;rfl
    · rcases List.mem_cons.1 hm with hm|hm
      ·cases hm
      ·cases hm
  subst this
  exact⟨_,_,_,rfl⟩
theorem one_box {σ:St} {k0:Nat} {e0:TypeId} {sz0:Nat} {rows0:List (List C)} (h:lk σ (.b k0)= .b e0 sz0 rows0):∀k e sz rows,lk [(.b k0,.b e0 sz0 rows0),(.u k0,.u)] (.b k)= .b e sz rows→lk σ (.b k)= .b e sz rows:=fun k e sz rows h1=>by
  have hm:=lk_mem h1 (by simp)
  rcases List.mem_cons.1 hm with hm|hm
  ·cases hm;exact h
  · rcases List.mem_cons.1 hm with hm|hm
    ·cases hm
    ·cases hm
theorem one_num {σ:St} {k0:Nat} {e0:TypeId} {sz0:Nat} {rows0:List (List C)} (hk:Nat.ble 100 k0=true):∀k,k<100→Al (lk [(.b k0,.b e0 sz0 rows0),(.u k0,.u)]) k→Al (lk σ) k:=fun k h ⟨e,sz,rows,h1⟩=>by
  have hm:=lk_mem h1 (by simp)
  have:=Nat.le_of_ble_eq_true hk
  rcases List.mem_cons.1 hm with hm|hm
  ·cases hm;omega
  · rcases List.mem_cons.1 hm with hm|hm
    ·cases hm
    ·cases hm
theorem hbR_box {σ:St} {bs:List Int} {p:Nat} (h:lk σ (.b 0)= .b 55 2 (dR [rRd bs p])):∀k e sz rows,lk (hbR bs p) (.b k)= .b e sz rows→lk σ (.b k)= .b e sz rows:=one_box h
theorem tmod_nat {a b:Int} {m n:Nat} (h:a=(m:Int)) (h':b=(n:Int)):a.tmod b=((m % n:Nat):Int):=by subst h h';exact(Int.ofNat_tmod m n).symm
theorem tdiv_nat {a b:Int} {m n:Nat} (h:a=(m:Int)) (h':b=(n:Int)):a.tdiv b=((m / n:Nat):Int):=by subst h h';exact(Int.ofNat_tdiv m n).symm
theorem tdiv64 {x:Int} (h0:0≤x) (h1:x≤9223372036854775807): -9223372036854775808≤x.tdiv 64∧x.tdiv 64≤9223372036854775807:=by rw[Int.tdiv_eq_ediv_of_nonneg h0];omega
theorem getD_at {l:List Int} {i:Nat} (h:i<l.length):l[i]?=some (l.getD i 0):=by rw[List.getD,List.getElem?_eq_getElem h];rfl
abbrev vR:V1:=.c (.box 0 2 0 0)
def mixV (bs:List Int) (p:Nat):Int:=
  let x:=bs.getD (p % bs.length) 0 *131+bs.getD ((p *7+3) % bs.length) 0 *1117+(p:Int) *29+((p / bs.length:Nat):Int) *53
  xorI x (x.tdiv 64)
def pickV (bs:List Int) (p:Nat) (n:Int):Int:=
  if n<1 then 0 else if bs.length=0 then 0 else if p<bs.length then(bs.getD p 0).tmod n else(mixV bs p).tmod n
def numV (bs:List Int) (p:Nat) (xs:List Int):Int:=xs.getD (pickV bs p xs.length).toNat 0
def Bytes (bs:List Int):Prop:=bs.length≤2000∧∀b∈bs,0≤b∧b≤255
theorem xorI_nonneg {a b:Int} (h1:0≤a) (h2:a<9223372036854775808) (h3:0≤b) (h4:b<9223372036854775808):0≤xorI a b:=(i64_xor_nonneg a b h1 h2 h3 h4).1
theorem Bytes.at {bs:List Int} (h:Bytes bs) (i:Nat):0≤bs.getD i 0∧bs.getD i 0≤255:=by
  rw[List.getD]
  cases hb:bs[i]? with
  |none=>simp
  |some b=>exact h.2 b (List.mem_of_getElem? hb)
theorem mixV_nonneg {bs:List Int} (h:Bytes bs) {p:Nat} (hp:p≤1099511627776):0≤mixV bs p:=by
  have h1:=h.at (p % bs.length)
  have h2:=h.at ((p *7+3) % bs.length)
  have h3:p / bs.length≤p:=Nat.div_le_self _ _
  unfold mixV
  generalize hq:p / bs.length=q at h3
  have hx:0≤bs.getD (p % bs.length) 0 *131+bs.getD ((p *7+3) % bs.length) 0 *1117+(p:Int) *29+(q:Int) *53∧bs.getD (p % bs.length) 0 *131+bs.getD ((p *7+3) % bs.length) 0 *1117+(p:Int) *29+(q:Int) *53<9223372036854775808:=by omega
  have h4:=Int.tdiv_nonneg hx.1 (show (0:Int)≤64 by omega)
  have h5:(bs.getD (p % bs.length) 0 *131+bs.getD ((p *7+3) % bs.length) 0 *1117+(p:Int) *29+(q:Int) *53).tdiv 64<9223372036854775808:=by
    rw[Int.tdiv_eq_ediv_of_nonneg hx.1]
    omega
  exact xorI_nonneg hx.1 hx.2 h4 h5
theorem pickV_bd {bs:List Int} (h:Bytes bs) {p:Nat} (hp:p≤1099511627776) (n:Int):0≤pickV bs p n∧(1≤n→pickV bs p n<n):=by
  unfold pickV
  split
  ·exact⟨Int.le_refl _,fun h=>by omega⟩
  · split
    ·exact⟨Int.le_refl _,fun h=>by omega⟩
    · split
      ·exact⟨(mod_bd (h.at p).1 (by omega)).1,fun _=>(mod_bd (h.at p).1 (by omega)).2⟩
      ·exact⟨(mod_bd (mixV_nonneg h hp) (by omega)).1,fun _=>(mod_bd (mixV_nonneg h hp) (by omega)).2⟩
theorem numV_mem {bs:List Int} (h:Bytes bs) {p:Nat} (hp:p≤1099511627776) {xs:List Int} (hx:0<xs.length):numV bs p xs∈xs:=by
  have h1:=pickV_bd h hp xs.length
  have h2:=h1.2 (by omega)
  unfold numV
  rw[List.getD,List.getElem?_eq_getElem (by omega)]
  exact List.getElem_mem _
theorem numV_at {bs:List Int} (h:Bytes bs) {p:Nat} (hp:p≤1099511627776) {xs:List Int} (hx:0<xs.length):pickV bs p xs.length=((pickV bs p xs.length).toNat:Int)∧xs[(pickV bs p xs.length).toNat]?=some (numV bs p xs):=by
  have h1:=pickV_bd h hp xs.length
  have h2:=h1.2 (by omega)
  refine⟨by omega,?_⟩
  unfold numV
  rw[List.getD,List.getElem?_eq_getElem (by omega)];rfl
section
variable {P : Program} {n : Nat} {ops : Array Oper} {o : Oper} {σ : St} {d : Nat}
end
section
variable {P : Program} {n : Nat} {ops : Array Oper} {o : Oper} {σ : St} {d : Nat}
theorem St1.mv {x:Operand} {v:V} (h4:(o.op,o.guard,o.dst,Nat.blt d n)=(Op.move x,none,some d,true):=by exact rfl) (hx:ev σ x=some v:=by exact rfl):
    St1 P n ops o σ (rd x) [.t d] ((.t d,.v (v))::σ):=by
  simp only[Prod.mk.injEq]at h4
  exact St1.move  h4.1 h4.2.1 h4.2.2.1 h4.2.2.2 hx
theorem St1.asg {x:Operand} {v:V} (h4:(o.op,o.guard,o.dst,Nat.blt d n)=(Op.assign x,none,some d,true):=by exact rfl) (hx:ev σ x=some v:=by exact rfl):
    St1 P n ops o σ (rd x) [.t d] ((.t d,.v (v))::σ):=by
  simp only[Prod.mk.injEq]at h4
  exact St1.assign  h4.1 h4.2.1 h4.2.2.1 h4.2.2.2 hx
theorem St1.pT {c x y:Operand} {v:V} (h4:(o.op,o.guard,o.dst,Nat.blt d n)=(Op.pick c x y,none,some d,true):=by exact rfl) (hc:ev σ c=some (.o (bo1 true)):=by exact rfl) (hx:ev σ x=some v:=by exact rfl):
    St1 P n ops o σ (rd c++rd x) [.t d] ((.t d,.v (v))::σ):=by
  simp only[Prod.mk.injEq]at h4
  exact St1.pickT  h4.1 h4.2.1 h4.2.2.1 h4.2.2.2 hc hx
theorem St1.pF {c x y:Operand} {v:V} (h4:(o.op,o.guard,o.dst,Nat.blt d n)=(Op.pick c x y,none,some d,true):=by exact rfl) (hc:ev σ c=some (.o (bo1 false)):=by exact rfl) (hy:ev σ y=some v:=by exact rfl):
    St1 P n ops o σ (rd c++rd y) [.t d] ((.t d,.v (v))::σ):=by
  simp only[Prod.mk.injEq]at h4
  exact St1.pickF  h4.1 h4.2.1 h4.2.2.1 h4.2.2.2 hc hy
theorem St1.pl {x y:Operand} {p q:Int} {t t2:TypeId} (h4:(o.op,o.guard,o.dst,Nat.blt d n)=(Op.binOp .add t x y t2,none,some d,true):=by exact rfl) (hx:ev σ x=some (.o (nat1 p)):=by exact rfl) (hy:ev σ y=some (.o (nat1 q)):=by exact rfl) (hr: -9223372036854775808≤p+q∧p+q≤9223372036854775807:=by omega):
    St1 P n ops o σ (rd x++rd y) [.t d] ((.t d,.v (.o (nat1 (p+q))))::σ):=by
  simp only[Prod.mk.injEq]at h4
  exact St1.add  h4.1 h4.2.1 h4.2.2.1 h4.2.2.2 hx hy hr
theorem St1.sb {x y:Operand} {p q:Int} {t t2:TypeId} (h4:(o.op,o.guard,o.dst,Nat.blt d n)=(Op.binOp .sub t x y t2,none,some d,true):=by exact rfl) (hx:ev σ x=some (.o (nat1 p)):=by exact rfl) (hy:ev σ y=some (.o (nat1 q)):=by exact rfl) (hr: -9223372036854775808≤p -q∧p -q≤9223372036854775807:=by omega):
    St1 P n ops o σ (rd x++rd y) [.t d] ((.t d,.v (.o (nat1 (p -q))))::σ):=by
  simp only[Prod.mk.injEq]at h4
  exact St1.sub  h4.1 h4.2.1 h4.2.2.1 h4.2.2.2 hx hy hr
theorem St1.ml {x y:Operand} {p q:Int} {t t2:TypeId} (h4:(o.op,o.guard,o.dst,Nat.blt d n)=(Op.binOp .mul t x y t2,none,some d,true):=by exact rfl) (hx:ev σ x=some (.o (nat1 p)):=by exact rfl) (hy:ev σ y=some (.o (nat1 q)):=by exact rfl) (hr: -9223372036854775808≤p *q∧p *q≤9223372036854775807:=by omega):
    St1 P n ops o σ (rd x++rd y) [.t d] ((.t d,.v (.o (nat1 (p *q))))::σ):=by
  simp only[Prod.mk.injEq]at h4
  exact St1.mul  h4.1 h4.2.1 h4.2.2.1 h4.2.2.2 hx hy hr
theorem St1.ls {x y:Operand} {p q:Int} {t t2:TypeId} (h4:(o.op,o.guard,o.dst,Nat.blt d n)=(Op.binOp .lss t x y t2,none,some d,true):=by exact rfl) (hx:ev σ x=some (.o (nat1 p)):=by exact rfl) (hy:ev σ y=some (.o (nat1 q)):=by exact rfl):
    St1 P n ops o σ (rd x++rd y) [.t d] ((.t d,.v (.o (bo1 (decide (p<q)))))::σ):=by
  simp only[Prod.mk.injEq]at h4
  exact St1.lss  h4.1 h4.2.1 h4.2.2.1 h4.2.2.2 hx hy
theorem St1.le {x y:Operand} {p q:Int} {t t2:TypeId} (h4:(o.op,o.guard,o.dst,Nat.blt d n)=(Op.binOp .leq t x y t2,none,some d,true):=by exact rfl) (hx:ev σ x=some (.o (nat1 p)):=by exact rfl) (hy:ev σ y=some (.o (nat1 q)):=by exact rfl):
    St1 P n ops o σ (rd x++rd y) [.t d] ((.t d,.v (.o (bo1 (decide (p≤q)))))::σ):=by
  simp only[Prod.mk.injEq]at h4
  exact St1.leq  h4.1 h4.2.1 h4.2.2.1 h4.2.2.2 hx hy
theorem St1.gt {x y:Operand} {p q:Int} {t t2:TypeId} (h4:(o.op,o.guard,o.dst,Nat.blt d n)=(Op.binOp .gtr t x y t2,none,some d,true):=by exact rfl) (hx:ev σ x=some (.o (nat1 p)):=by exact rfl) (hy:ev σ y=some (.o (nat1 q)):=by exact rfl):
    St1 P n ops o σ (rd x++rd y) [.t d] ((.t d,.v (.o (bo1 (decide (q<p)))))::σ):=by
  simp only[Prod.mk.injEq]at h4
  exact St1.gtr  h4.1 h4.2.1 h4.2.2.1 h4.2.2.2 hx hy
theorem St1.ge {x y:Operand} {p q:Int} {t t2:TypeId} (h4:(o.op,o.guard,o.dst,Nat.blt d n)=(Op.binOp .geq t x y t2,none,some d,true):=by exact rfl) (hx:ev σ x=some (.o (nat1 p)):=by exact rfl) (hy:ev σ y=some (.o (nat1 q)):=by exact rfl):
    St1 P n ops o σ (rd x++rd y) [.t d] ((.t d,.v (.o (bo1 (decide (q≤p)))))::σ):=by
  simp only[Prod.mk.injEq]at h4
  exact St1.geq  h4.1 h4.2.1 h4.2.2.1 h4.2.2.2 hx hy
theorem St1.eq {x y:Operand} {p q:Int} {t t2:TypeId} (h4:(o.op,o.guard,o.dst,Nat.blt d n)=(Op.binOp .eql t x y t2,none,some d,true):=by exact rfl) (hx:ev σ x=some (.o (nat1 p)):=by exact rfl) (hy:ev σ y=some (.o (nat1 q)):=by exact rfl):
    St1 P n ops o σ (rd x++rd y) [.t d] ((.t d,.v (.o (bo1 (decide (p=q)))))::σ):=by
  simp only[Prod.mk.injEq]at h4
  exact St1.eql  h4.1 h4.2.1 h4.2.2.1 h4.2.2.2 hx hy
theorem St1.ne {x y:Operand} {p q:Int} {t t2:TypeId} (h4:(o.op,o.guard,o.dst,Nat.blt d n)=(Op.binOp .neq t x y t2,none,some d,true):=by exact rfl) (hx:ev σ x=some (.o (nat1 p)):=by exact rfl) (hy:ev σ y=some (.o (nat1 q)):=by exact rfl):
    St1 P n ops o σ (rd x++rd y) [.t d] ((.t d,.v (.o (bo1 (!decide (p=q)))))::σ):=by
  simp only[Prod.mk.injEq]at h4
  exact St1.neq  h4.1 h4.2.1 h4.2.2.1 h4.2.2.2 hx hy
theorem St1.nt {x:Operand} {t:TypeId} {b:Bool} (h4:(o.op,o.guard,o.dst,Nat.blt d n)=(Op.unOp .not t x,none,some d,true):=by exact rfl) (hx:ev σ x=some (.o (bo1 b)):=by exact rfl):
    St1 P n ops o σ (rd x) [.t d] ((.t d,.v (.o (bo1 (!b))))::σ):=by
  simp only[Prod.mk.injEq]at h4
  exact St1.not  h4.1 h4.2.1 h4.2.2.1 h4.2.2.2 hx
theorem St1.l1 (m:Nat) {t:TypeId} {x:Operand} {c:D} {rest:List D} (h4:(o.op,o.guard,o.dst,Nat.blt d n)=(Op.load t x,none,some d,true):=by exact rfl) (hx:ev σ x=some (.o (.c (.ptr (c::rest)))):=by exact rfl) (ht:tyL P t=some (false,m):=by kernel_rfl):
    St1 P n ops o σ (rd x) [.t d] ((.t d,.v (.o (.c (.d c))))::σ):=by
  simp only[Prod.mk.injEq]at h4
  exact St1.loadP1 (m:=m) h4.1 h4.2.1 h4.2.2.1 h4.2.2.2 ht hx
theorem St1.lN (m:Nat) {t:TypeId} {x:Operand} {cells:List D} (h4:(o.op,o.guard,o.dst,Nat.blt d n)=(Op.load t x,none,some d,true):=by exact rfl) (hx:ev σ x=some (.o (.c (.ptr cells))):=by exact rfl) (hm:Nat.ble m cells.length=true:=by exact rfl) (ht:tyL P t=some (true,m):=by kernel_rfl):
    St1 P n ops o σ (rd x) [.t d] ((.t d,.v (.o (ad (cells.take m))))::σ):=by
  simp only[Prod.mk.injEq]at h4
  exact St1.loadPN (m:=m) h4.1 h4.2.1 h4.2.2.1 h4.2.2.2 ht hx hm
theorem St1.b1 (m:Nat) {t:TypeId} {x:Operand} {k sz sz' i j:Nat} {e:TypeId} {rows:List (List C)} {r:List C} {c:C} (h4:(o.op,o.guard,o.dst,Nat.blt d n)=(Op.load t x,none,some d,true):=by exact rfl) (hx:ev σ x=some (.o (.c (.box k sz i j))):=by exact rfl) (hb:lk σ (.b k)= .b e sz' rows:=by exact rfl) (hsz:sz'=sz:=by exact rfl) (hi:rows[i]?=some r:=by exact rfl) (hj:r[j]?=some c:=by exact rfl) (ht:tyL P t=some (false,m):=by kernel_rfl):
    St1 P n ops o σ (rd x++[.b k]) [.t d] ((.t d,.v (.o (.c c)))::σ):=by
  simp only[Prod.mk.injEq]at h4
  exact St1.loadB1 (m:=m) h4.1 h4.2.1 h4.2.2.1 h4.2.2.2 ht hx hb hsz hi hj
theorem St1.bN (m:Nat) {t:TypeId} {x:Operand} {k sz sz' i j:Nat} {e:TypeId} {rows:List (List C)} {r:List C} (h4:(o.op,o.guard,o.dst,Nat.blt d n)=(Op.load t x,none,some d,true):=by exact rfl) (hx:ev σ x=some (.o (.c (.box k sz i j))):=by exact rfl) (hb:lk σ (.b k)= .b e sz' rows:=by exact rfl) (hsz:sz'=sz:=by exact rfl) (hi:rows[i]?=some r:=by exact rfl) (hj:Nat.ble (j+m) r.length=true:=by exact rfl) (ht:tyL P t=some (true,m):=by kernel_rfl):
    St1 P n ops o σ (rd x++[.b k]) [.t d] ((.t d,.v (.o (.agg ((r.drop j).take m))))::σ):=by
  simp only[Prod.mk.injEq]at h4
  exact St1.loadBN (m:=m) h4.1 h4.2.1 h4.2.2.1 h4.2.2.2 ht hx hb hsz hi hj
theorem St1.fP (off:Nat) (m:Nat) (r:Bool) {t:TypeId} {x:Operand} {f:Nat} {cells:List D} (h4:(o.op,o.guard,o.dst,Nat.blt d n)=(Op.fieldAddr t x f,none,some d,true):=by exact rfl) (hx:ev σ x=some (.o (.c (.ptr cells))):=by exact rfl) (ht:tyF P t f=some (off,r,m+1):=by kernel_rfl):
    St1 P n ops o σ (rd x) [.t d] ((.t d,.v (.o (.c (.ptr (cells.drop off)))))::σ):=by
  simp only[Prod.mk.injEq]at h4
  exact St1.fieldP (off:=off) (m:=m) (r:=r) h4.1 h4.2.1 h4.2.2.1 h4.2.2.2 ht hx
theorem St1.fB (off:Nat) (m:Nat) (r:Bool) {t:TypeId} {x:Operand} {f k sz i j:Nat} {e:TypeId} {sz':Nat} {rows:List (List C)} (h4:(o.op,o.guard,o.dst,Nat.blt d n)=(Op.fieldAddr t x f,none,some d,true):=by exact rfl) (hx:ev σ x=some (.o (.c (.box k sz i j))):=by exact rfl) (hb:lk σ (.b k)= .b e sz' rows:=by exact rfl) (ht:tyF P t f=some (off,r,m+1):=by kernel_rfl):
    St1 P n ops o σ (rd x++[.b k]) [.t d] ((.t d,.v (.o (.c (.box k sz i (j+off)))))::σ):=by
  simp only[Prod.mk.injEq]at h4
  exact St1.fieldB (off:=off) (m:=m) (r:=r) h4.1 h4.2.1 h4.2.2.1 h4.2.2.2 ht hx hb
theorem St1.f1 (off:Nat) (m:Nat) {t:TypeId} {x:Operand} {f:Nat} {cs:List C} {c:C} (h4:(o.op,o.guard,o.dst,Nat.blt d n)=(Op.field t x f,none,some d,true):=by exact rfl) (hx:ev σ x=some (.o (.agg cs)):=by exact rfl) (hc:cs[off]?=some c:=by exact rfl) (ht:tyF P t f=some (off,false,m):=by kernel_rfl):
    St1 P n ops o σ (rd x) [.t d] ((.t d,.v (.o (.c c)))::σ):=by
  simp only[Prod.mk.injEq]at h4
  exact St1.field1 (off:=off) (m:=m) h4.1 h4.2.1 h4.2.2.1 h4.2.2.2 ht hx hc
theorem St1.xL (e:TypeId) (sz:Nat) (by':Nat) {t:TypeId} {x y:Operand} {sz' i:Nat} {rows:List (List D)} {r:List D} {z:Int} (h4:(o.op,o.guard,o.dst,Nat.blt d n)=(Op.indexAddr t x y,none,some d,true):=by exact rfl) (hx:ev σ x=some (.o (.c (.d (.list sz' rows)))):=by exact rfl) (hsz:sz'=sz:=by exact rfl) (hy:ev σ y=some (.o (nat1 z)):=by exact rfl) (hz:z=(i:Int):=by exact rfl) (hi:rows[i]?=some r:=by first|exact map_at (by assumption)|rfl) (ht:tyS P t=some (e,sz,by'):=by kernel_rfl):
    St1 P n ops o σ (rd x++rd y) [.t d] ((.t d,.v (.o (.c (.ptr r))))::σ):=by
  simp only[Prod.mk.injEq]at h4
  exact St1.indexL (e:=e) (sz:=sz) (by':=by') h4.1 h4.2.1 h4.2.2.1 h4.2.2.2 ht hx hsz hy hz hi
theorem St1.xB (e:TypeId) (sz:Nat) (by':Nat) {t e':TypeId} {x y:Operand} {sz' sz2 i k m:Nat} {rows:List (List C)} {z:Int} (h4:(o.op,o.guard,o.dst,Nat.blt d n)=(Op.indexAddr t x y,none,some d,true):=by exact rfl) (hx:ev σ x=some (.o (.c (.own k sz' m))):=by exact rfl) (hsz:sz'=sz:=by exact rfl) (hb:lk σ (.b k)= .b e' sz2 rows:=by exact rfl) (hy:ev σ y=some (.o (nat1 z)):=by exact rfl) (hz:z=(i:Int):=by exact rfl) (hi:i<m:=by omega) (ht:tyS P t=some (e,sz,by'):=by kernel_rfl):
    St1 P n ops o σ ((rd x++rd y)++[.b k]) [.t d] ((.t d,.v (.o (.c (.box k sz' i 0))))::σ):=by
  simp only[Prod.mk.injEq]at h4
  exact St1.indexB (e:=e) (sz:=sz) (by':=by') h4.1 h4.2.1 h4.2.2.1 h4.2.2.2 ht hx hsz hb hy hz hi
theorem St1.ln (e:TypeId) (m:Nat) (by':Nat) {t:TypeId} {x:Operand} {sz l:Nat} {rows:List (List D)} {ts:Array TypeId} (h4:(o.op,o.guard,o.dst,Nat.blt d n)=(Op.call {callee:=.builtin .len,args:=#[x],argTypes:=ts},none,some d,true):=by exact rfl) (hts:ts=#[t]:=by exact rfl) (hx:ev σ x=some (.o (.c (.d (.list sz rows)))):=by exact rfl) (hl:rows.length=l:=by first|exact List.length_map _|rfl) (ht:tyS P t=some (e,m,by'):=by kernel_rfl):
    St1 P n ops o σ (rd x) [.t d] ((.t d,.v (.o (nat1 (l:Nat))))::σ):=by
  simp only[Prod.mk.injEq]at h4
  exact St1.lenL (e:=e) (m:=m) (by':=by') h4.1 h4.2.1 h4.2.2.1 h4.2.2.2 hts ht hx hl
theorem St1.ex {x:Operand} {i:Nat} {xs:List V1} {y:V1} (h4:(o.op,o.guard,o.dst,Nat.blt d n)=(Op.extract x i,none,some d,true):=by exact rfl) (hx:ev σ x=some (.tup xs):=by exact rfl) (hi:xs[i]?=some y:=by exact rfl):
    St1 P n ops o σ (rd x) [.t d] ((.t d,.v (.o y))::σ):=by
  simp only[Prod.mk.injEq]at h4
  exact St1.extract  h4.1 h4.2.1 h4.2.2.1 h4.2.2.2 hx hi
theorem St1.nB {x:Operand} {k sz i j:Nat} {e:TypeId} {sz':Nat} {rows:List (List C)} (h4:(o.op,o.guard,o.dst,Nat.blt d n)=(Op.nilCheck x,none,some d,true):=by exact rfl) (hx:ev σ x=some (.o (.c (.box k sz i j))):=by exact rfl) (hb:lk σ (.b k)= .b e sz' rows:=by exact rfl):
    St1 P n ops o σ (rd x++[.b k]) [.t d] ((.t d,.v (.o (.c (.box k sz i j))))::σ):=by
  simp only[Prod.mk.injEq]at h4
  exact St1.nilB  h4.1 h4.2.1 h4.2.2.1 h4.2.2.2 hx hb
theorem St1.al (k':Nat) (zs:List Value) {P:Program} {n:Nat} {ops:Array Oper} {o:Oper} {σ:St} {d:Nat} {t:TypeId} (h4:(o.op,o.guard,o.dst,Nat.blt d n)=(Op.alloc t,none,some d,true):=by exact rfl) (hz:zs.all (·.oneCell')=true:=by exact rfl) (hf:(lk σ (.u k'),Nat.ble 100 k')=(.no,true):=by exact rfl) (ht:tyZ P t=some zs:=by kernel_rfl):
    St1 P n ops o σ [.u k'] [.t d,.u k',.b k',.b k'] ((.t d,.v (.o (.c (.box k' zs.length 0 0))))::(.u k',.u)::(.b k',.b t zs.length [zs.map fun z=>C.d (.val z)])::(.b k',.no)::σ):=by
  simp only[Prod.mk.injEq]at h4 hf
  exact St1.alloc h4.1 h4.2.1 h4.2.2.1 h4.2.2.2 ht hz hf.1 hf.2
theorem St1.gF {P:Program} {n:Nat} {ops:Array Oper} {o:Oper} {σ:St} {d:Nat} {i:Nat} {b c:Bool} {t:Tmp} (h4:(o.guard,o.dst,(ops[i]?).bind (·.dst),Nat.blt t n,Nat.blt d n)=(some (i,b),some d,some t,true,true):=by exact rfl) (hv:(lk σ (.t t))= .v (.o (bo1 c)):=by exact rfl) (hc:c= !b:=by exact rfl):St1 P n ops o σ [.t t] [.t d] ((.t d,.v (.tup []))::σ):=by
  simp only[Prod.mk.injEq]at h4
  exact St1.guardF h4.1 h4.2.1 h4.2.2.1 h4.2.2.2.1 h4.2.2.2.2 hv hc
theorem St1.gU {P:Program} {n:Nat} {ops:Array Oper} {o:Oper} {σ:St} {d:Nat} {i:Nat} {b:Bool} {t:Tmp} (h4:(o.guard,o.dst,(ops[i]?).bind (·.dst),Nat.blt t n,Nat.blt d n)=(some (i,b),some d,some t,true,true):=by exact rfl) (hv:(lk σ (.t t))= .v (.tup []):=by exact rfl):St1 P n ops o σ [.t t] [.t d] ((.t d,.v (.tup []))::σ):=by
  simp only[Prod.mk.injEq]at h4
  exact St1.guardU h4.1 h4.2.1 h4.2.2.1 h4.2.2.2.1 h4.2.2.2.2 hv
theorem St1.gT {P:Program} {n:Nat} {ops:Array Oper} {o:Oper} {σ:St} {i:Nat} {b c:Bool} {t:Tmp} {R W:List Res} {σ':St} (h4:(o.guard,(ops[i]?).bind (·.dst),Nat.blt t n)=(some (i,b),some t,true)) (hv:lk σ (.t t)= .v (.o (bo1 c))) (hc:c=b) (h:St1 P n ops {o with guard:=none} σ R W σ'):St1 P n ops o σ (.t t::R) W σ':=by
  simp only[Prod.mk.injEq]at h4
  exact St1.guardT h4.1 h4.2.1 h4.2.2 hv hc h
theorem St1.sT (m:Nat) (rw':Bool) {P:Program} {n:Nat} {ops:Array Oper} {o:Oper} {σ:St} {t:TypeId} {x y:Operand} {k sz sz' i j:Nat} {e:TypeId} {rows:List (List C)} {r:List C} {v:V1} (h4:(o.op,o.guard,o.dst)=(Op.store t x y,none,none):=by exact rfl) (hx:ev σ x=some (.o (.c (.box k sz i j))):=by exact rfl) (hb:lk σ (.b k)= .b e sz' rows:=by exact rfl) (hsz:sz'=sz:=by exact rfl) (hi:rows[i]?=some r:=by exact rfl) (hy:ev σ y=some (.o v):=by exact rfl) (hj:(Nat.ble (j+m) r.length,Nat.beq v.cells.length m)=(true,true):=by exact rfl) (ht:tyL P t=some (rw',m):=by kernel_rfl):
    St1 P n ops o σ ((rd x++rd y)++[.b k]) [.b k] ((.b k,.b e sz' (rows.set i (place1 r j v.cells)))::σ):=by
  simp only[Prod.mk.injEq]at h4 hj
  exact St1.store h4.1 h4.2.1 h4.2.2 ht hx hb hsz hi hj.1 hy hj.2
theorem St1.cP (xs:List Operand) {P:Program} {n:Nat} {ops:Array Oper} {o:Oper} {σ:St} {d:Nat} {fo:Operand} {ar:Array Operand} {ts:Array TypeId} {vs:List V1} {f:FuncId} {cap:List (List D)} {y:V} (h4:(o.op,o.guard,o.dst,Nat.blt d n)=(Op.call {callee:=.value fo,args:=ar,argTypes:=ts},none,some d,true)) (has:ar=xs.toArray) (hfo:ev σ fo=some (.o (.c (.fn f cap)))) (hx:evL σ xs=some vs) (hF:Fn P f [] (vs++cap.map fun c=>.c (.ptr c)) y [])
    (hy:y.refs=[]) (hcall:callable P f=true:=by kernel_rfl):St1 P n ops o σ (rd fo++rdL xs) [.t d] ((.t d,.v y)::σ):=by
  simp only[Prod.mk.injEq]at h4
  exact St1.callP h4.1 h4.2.1 h4.2.2.1 h4.2.2.2 has hfo hcall hx hF hy
theorem St1.bu (pl:List (Nat×Operand)) (places:List (Nat×Nat)) (zs:List Value) {P:Program} {n:Nat} {ops:Array Oper} {o:Oper} {σ:St} {d:Nat} {t:TypeId} {parts:Array (Nat×Operand)} {ps:List (Nat×V1)} {cs:List C} (h4:(o.op,o.guard,o.dst,Nat.blt d n)=(Op.build t parts,none,some d,true):=by exact rfl) (hpl:parts=pl.toArray:=by exact rfl) (hz:zs.all (·.oneCell')=true:=by exact rfl) (hp:evP σ pl=some ps:=by exact rfl) (hf:fillA (places[·]?) (zs.map fun z=>C.d (.val z)) ps=some cs:=by exact rfl) (ht:tyB P t=some (places,zs):=by kernel_rfl):
    St1 P n ops o σ (rdP pl) [.t d] ((.t d,.v (.o (.agg cs)))::σ):=by
  simp only[Prod.mk.injEq]at h4
  exact St1.build h4.1 h4.2.1 h4.2.2.1 h4.2.2.2 hpl ht hz hp hf
theorem St1.li (e:TypeId) (sz m:Nat) (xs:List Operand) {P:Program} {n:Nat} {ops:Array Oper} {o:Oper} {σ:St} {d:Nat} {t:TypeId} {parts:Array (Nat×Operand)} {vs:List V1} {rows:List (List D)} (h4:(o.op,o.guard,o.dst,Nat.blt d n)=(Op.buildSlice t (m+1) parts,none,some d,true):=by exact rfl) (hpl:parts=((xs.zipIdx 0).map fun x=>(x.2,x.1)).toArray:=by exact rfl)
    (hx:evL σ xs=some vs:=by exact rfl) (hl:(Nat.beq vs.length (m+1)&&Nat.ble m 1000&&Nat.ble sz 1000)=true:=by exact rfl) (hr:rowsOk (sz+1) vs=true:=by exact rfl) (hds:datR vs=some rows:=by exact rfl) (ht:tyE P t=some (e,sz+1,true):=by kernel_rfl):St1 P n ops o σ (rdL xs) [.t d] ((.t d,.v (.o (.c (.d (.list (sz+1) rows)))))::σ):=by
  simp only[Prod.mk.injEq]at h4
  exact St1.lit h4.1 h4.2.1 h4.2.2.1 h4.2.2.2 hpl ht hx hl hr hds
end
/-! ### A state told anew: short forms -/
section
variable {σ : St} {inv : Inv}
theorem Vto.dt {v v':V} (h:v=v':=by first|rfl|exact congrArg (fun z=>V.o (nat1 z)) (by omega)|(simp;done)|omega) (hr:v.refs=[]:=by rfl):Vto σ inv v v':=.dat _ _ h hr
theorem Cto.dt {x y:D} (h:x=y:=by first|rfl|exact congrArg (fun z=>D.val (.int .i64 z)) (by omega)|(simp;done)|omega):Cto σ inv (.d x) (.d y):=.d _ _ h
theorem Cto.ow {k k' sz n m:Nat} (hn:n=m:=by first|rfl|omega|(simp;done)|(simp;omega)) (h:(k',k)∈inv:=by first|decide|simp):Cto σ inv (.own k sz n) (.own k' sz m):=.own _ _ _ _ _ h hn
theorem Cto.bx {k k' sz i j:Nat} (h:(k',k)∈inv:=by first|decide|simp):Cto σ inv (.box k sz i j) (.box k' sz i j):=.box _ _ _ _ _ _ h rfl
theorem Cto.fz {k sz n:Nat} {e:TypeId} {rows:List (List C)} {rows':List (List D)} (h:lk σ (.b k)= .b e sz rows) (hr:rows=dR rows':=by first|rfl|simp[dR]) (hn:n=rows'.length:=by first|rfl|(simp;done)|omega|(simp;omega)) (hs:n≤17592186044416:=by first|(simp;done)|(simp;omega)|omega)
    (hk:(Nat.ble 100 k&&Nat.ble k 999)=true:=by rfl) (hi:(inv.all fun p=> !Nat.beq p.2 k)=true:=by rfl):Cto σ inv (.own k sz n) (.d (.list sz rows')):=.frz _ _ _ _ _ _ h hr hk hi hn hs
theorem Rto.dt {rows rows':List (List C)} {l:List (List D)} (h':rows'=dR l) (h:rows=dR l:=by first|rfl|simp[dR]):Rto σ inv rows rows':=.dat _ _ _ h h'
theorem kb {k':Nat} {e:TypeId} {sz:Nat} {rows':List (List C)} (k:Nat) {rows:List (List C)} (hl:lk σ (.b k)= .b e sz rows) (hr:Rto σ inv rows rows') (hm:(k',k)∈inv:=by first|decide|simp):∃k rows,(k',k)∈inv∧lk σ (.b k)= .b e sz rows∧Rto σ inv rows rows':=⟨k,rows,hm,hl,hr⟩
theorem ks {t:Nat} {x' x:V} (h:lk σ (.t t)= .v x) (hv:Vto σ inv x x'):∃x,lk σ (.t t)= .v x∧Vto σ inv x x':=⟨x,h,hv⟩
theorem kl_k {I:Nat→St→Prop} {m m':Nat} {K:Exit→St→Prop} {σ2:St} (inv:Inv) (hI:I m' σ2) (hk:KeepOk σ inv σ2) (hm:m'<m:=by omega) (hi:invOk inv=true:=by rfl) (hu:usedOk σ2 inv=true:=by rfl):kloop I m K .normal σ:=⟨m',σ2,hm,Wk.keep inv hi hu hk,hI⟩
theorem ACode.loopK {P:Program} {n:Nat} {b:Code} {K:Exit→St→Prop} (I:Nat→St→Prop) {m:Nat} {σ':St} (inv:Inv) (hI:I m σ') (hk:KeepOk σ inv σ') (h:∀m σ,I m σ→ACode P n b (kloop I m K) σ) (hi:invOk inv=true:=by rfl) (hu:usedOk σ' inv=true:=by rfl):ACode P n (.loop b) K σ:=
  ACode.wk (Wk.keep inv hi hu hk) (ACode.loop I m hI h)
theorem ACode.keep {P:Program} {n:Nat} {c:Code} {K:Exit→St→Prop} (σ':St) (inv:Inv) (hk:KeepOk σ inv σ') (h:ACode P n c K σ') (hi:invOk inv=true:=by rfl) (hu:usedOk σ' inv=true:=by rfl):ACode P n c K σ:=ACode.wk (Wk.keep inv hi hu hk) h
end
/-! ### Branches on what is told as a proposition -/
section
variable {P : Program} {n t : Nat} {p : Prop} [Decidable p] {b : Bool} {x y : Code} {K : Exit → St → Prop} {σ : St}
theorem ACode.cD (hc:lk σ (.t t)= .v (.o (bo1 (decide p)))) (hx:p→ACode P n x K σ) (hy:¬p→ACode P n y K σ):ACode P n (.cond (.tmp t) x y) K σ:=ACode.condT hc (fun h=>hx (of_decide_eq_true h)) (fun h=>hy (of_decide_eq_false h))
theorem ACode.cND (hc:lk σ (.t t)= .v (.o (bo1 (!decide p)))) (hx:¬p→ACode P n x K σ) (hy:p→ACode P n y K σ):ACode P n (.cond (.tmp t) x y) K σ:=ACode.condT hc (fun h=>hx (by simpa using h)) (fun h=>hy (by simpa using h))
variable {ops : Array Oper} {o : Oper} {l : List Oper} {acc : List (List Res × List Res × St)} {G : List (List Res × List Res × St) → St → Prop} {K : Exit → St → Prop}
theorem AOps.cD {K:St→Prop} (t:Nat) (hv:lk σ (.t t)= .v (.o (bo1 (decide p)))) (h1:p→AOps P n ops l K ((.t t,.v (.o (bo1 true)))::σ)) (h0:¬p→AOps P n ops l K ((.t t,.v (.o (bo1 false)))::σ)):AOps P n ops l K σ:=AOps.cases t _ hv (fun h=>h1 (of_decide_eq_true h)) (fun h=>h0 (of_decide_eq_false h))
theorem AOps.cND {K:St→Prop} (t:Nat) (hv:lk σ (.t t)= .v (.o (bo1 (!decide p)))) (h1:¬p→AOps P n ops l K ((.t t,.v (.o (bo1 true)))::σ)) (h0:p→AOps P n ops l K ((.t t,.v (.o (bo1 false)))::σ)):AOps P n ops l K σ:=AOps.cases t _ hv (fun h=>h1 (by simpa using h)) (fun h=>h0 (by simpa using h))
theorem RunK.cD (t:Nat) (hv:lk σ (.t t)= .v (.o (bo1 (decide p)))) (h1:p→RunK P n ops (o::l) ((.t t,.v (.o (bo1 true)))::σ) acc G) (h0:¬p→RunK P n ops (o::l) ((.t t,.v (.o (bo1 false)))::σ) acc G):RunK P n ops (o::l) σ acc G:=RunK.cases t _ hv (fun h=>h1 (of_decide_eq_true h)) (fun h=>h0 (of_decide_eq_false h))
theorem RunK.cND (t:Nat) (hv:lk σ (.t t)= .v (.o (bo1 (!decide p)))) (h1:¬p→RunK P n ops (o::l) ((.t t,.v (.o (bo1 true)))::σ) acc G) (h0:p→RunK P n ops (o::l) ((.t t,.v (.o (bo1 false)))::σ) acc G):RunK P n ops (o::l) σ acc G:=RunK.cases t _ hv (fun h=>h1 (by simpa using h)) (fun h=>h0 (by simpa using h))
end
theorem St1.cO (xs:List Operand) (inv:Inv) {P:Program} {n:Nat} {ops:Array Oper} {o:Oper} {σ:St} {d:Nat} {fo:Operand} {ar:Array Operand} {ts:Array TypeId} {vs:List V1} {f:FuncId} {cap:List (List D)} {hb hb':St} {args:List V1} {y:V} {out:St}
    (h4:(o.op,o.guard,o.dst,Nat.blt d n)=(Op.call {callee:=.value fo,args:=ar,argTypes:=ts},none,some d,true)) (has:ar=xs.toArray) (hfo:ev σ fo=some (.o (.c (.fn f cap)))) (hx:evL σ xs=some vs) (hF:Fn P f hb args y hb')
    (hargs:args.map (V1.ren (asc inv))=vs++cap.map fun c=>.c (.ptr c)) (hbox:hbIn σ inv hb) (hfl:flatS hb) (hfl':flatS hb') (hHB':HB hb') (hout:outS inv hb'=out) (hnum:numOk σ inv hb hb'=true:=by rfl) (hpr:pairs hb'=true:=by rfl) (hy:(y.refs.all fun k=>match lk hb' (.u k)with | .u=>true|_=>false)=true:=by rfl) (hcall:callable P f=true:=by kernel_rfl):
    St1 P n ops o σ ((rd fo++rdL xs)++(keys out++keys (killS inv hb))) (.t d::(keys out++keys (killS inv hb))) ((.t d,.v (y.ren (asc inv)))::(out++(killS inv hb++σ))):=by
  simp only[Prod.mk.injEq]at h4
  exact St1.callO inv h4.1 h4.2.1 h4.2.2.1 h4.2.2.2 has hfo hcall hx hF hargs hbox hnum hfl hfl' hHB' hpr hy hout
theorem St1.cR (xs:List Operand) (k:Nat) {P:Program} {n:Nat} {ops:Array Oper} {o:Oper} {σ:St} {d:Nat} {fo:Operand} {ar:Array Operand} {ts:Array TypeId} {vs:List V1} {f:FuncId} {cap:List (List D)} {bs:List Int} {p q:Nat} {args:List V1} {y:V}
    (h4:(o.op,o.guard,o.dst,Nat.blt d n)=(Op.call {callee:=.value fo,args:=ar,argTypes:=ts},none,some d,true)) (has:ar=xs.toArray) (hfo:ev σ fo=some (.o (.c (.fn f cap)))) (hx:evL σ xs=some vs) (hF:Fn P f (hbR bs p) args y (hbR bs q))
    (hargs:args.map (V1.ren (asc [(0,k)]))=vs++cap.map fun c=>.c (.ptr c)) (hbox:hbIn σ [(0,k)] (hbR bs p)) (hnum:numOk σ [(0,k)] (hbR bs p) (hbR bs q)=true:=by rfl) (hy:(y.refs.all fun k=>match lk (hbR bs q) (.u k)with | .u=>true|_=>false)=true:=by rfl) (hcall:callable P f=true:=by kernel_rfl):
    St1 P n ops o σ ((rd fo++rdL xs)++(keys [(.b (asc [(0,k)] 0),.b 55 2 (dR [rRd bs q])),(.u (asc [(0,k)] 0),.u)]++keys (killS [(0,k)] (hbR bs p)))) (.t d::(keys [(.b (asc [(0,k)] 0),.b 55 2 (dR [rRd bs q])),(.u (asc [(0,k)] 0),.u)]++keys (killS [(0,k)] (hbR bs p)))) ((.t d,.v (y.ren (asc [(0,k)])))::([(.b (asc [(0,k)] 0),.b 55 2 (dR [rRd bs q])),(.u (asc [(0,k)] 0),.u)]++(killS [(0,k)] (hbR bs p)++σ))):=by
  simp only[Prod.mk.injEq]at h4
  exact St1.callO [(0,k)] h4.1 h4.2.1 h4.2.2.1 h4.2.2.2 has hfo hcall hx hF hargs hbox hnum (hbR_flat _ _) (hbR_flat _ _) (hbR_HB _ _) rfl hy outS_one
section
variable {P : Program} {n : Nat} {ops : Array Oper} {o : Oper} {σ : St} {d : Nat}
theorem St1.g {i:Nat} {b c:Bool} {t:Tmp} {R W:List Res} {σ':St} (h:St1 P n ops {o with guard:=none} σ R W σ') (h4:(o.guard,(ops[i]?).bind (·.dst),Nat.blt t n)=(some (i,b),some t,true):=by exact rfl) (hv:lk σ (.t t)= .v (.o (bo1 c)):=by exact rfl) (hc:c=b:=by exact rfl):St1 P n ops o σ (.t t::R) W σ':=.gT h4 hv hc h
theorem St1.bp {t:TypeId} {x:Operand} {v:V1} {ds:List D} (ho:o.op= .box t x:=by exact rfl) (hg:o.guard=none:=by exact rfl) (hd:o.dst=some d:=by exact rfl) (hn:Nat.blt d n=true:=by exact rfl) (hx:ev σ x=some (.o v):=by exact rfl) (hds:datL v.cells=some ds:=by exact rfl):St1 P n ops o σ (rd x) [.t d] ((.t d,.v (.o (.c (.ptr ds))))::σ):=St1.boxP ho hg hd hn hx hds
theorem St1.m {x:Operand} {v:V} (h4:(o.op,o.guard,o.dst,Nat.blt d n)=(Op.move x,none,some d,true):=by exact rfl) (hx:ev σ x=some v:=by exact rfl):St1 P n ops o σ (rd x) [.t d] ((.t d,.v v)::σ):=.mv h4 hx
theorem St1.a {x:Operand} {v:V} (h4:(o.op,o.guard,o.dst,Nat.blt d n)=(Op.assign x,none,some d,true):=by exact rfl) (hx:ev σ x=some v:=by exact rfl):St1 P n ops o σ (rd x) [.t d] ((.t d,.v v)::σ):=.asg h4 hx
theorem St1.f {i:Nat} {b c:Bool} {t:Tmp} (h4:(o.guard,o.dst,(ops[i]?).bind (·.dst),Nat.blt t n,Nat.blt d n)=(some (i,b),some d,some t,true,true):=by exact rfl) (hv:(lk σ (.t t))= .v (.o (bo1 c)):=by exact rfl) (hc:c= !b:=by exact rfl):St1 P n ops o σ [.t t] [.t d] ((.t d,.v (.tup []))::σ):=.gF h4 hv hc
variable {l : List Oper} {K : St → Prop} {R W : List Res} {σ' : St}
theorem AOps.c (h:St1 P n ops o σ R W σ') (k:AOps P n ops l K σ'):AOps P n ops (o::l) K σ:=.cons h k
variable {acc : List (List Res × List Res × St)} {G : List (List Res × List Res × St) → St → Prop}
theorem RunK.c (h:St1 P n ops o σ R W σ') (k:RunK P n ops l σ' (acc++[(R,W,σ')]) G):RunK P n ops (o::l) σ acc G:=.cons h k
variable {y y2 : Code} {KE : Exit → St → Prop} {id : Nat} {l' : List Oper}
theorem ACode.r (h:AOps P n l'.toArray l' (kseq P n y2 KE .normal) σ):ACode P n (.seq (.region id l'.toArray false) y2) KE σ:=.seq (.region h)
theorem AOps.nn (h:ACode P n y KE σ):AOps P n ops [] (kseq P n y KE .normal) σ:=.nil (ks_n h)
theorem AOps.r (h:AOps P n l'.toArray l' (kseq P n y2 KE .normal) σ):AOps P n ops [] (kseq P n (.seq (.region id l'.toArray false) y2) KE .normal) σ:=.nn (.r h)
theorem ACode.k1 {t:Nat} {b:Bool} (hx:ACode P n y KE σ) (hc:lk σ (.t t)= .v (.o (bo1 b)):=by exact rfl) (hn:b=false→ACode P n y2 KE σ:=by exact fun h=>by first|(cases h;done)|(simp[*]at h;done)|(exfalso;simp_all;done)):ACode P n (.cond (.tmp t) y y2) KE σ:=.condT hc (fun _=>hx) hn
theorem ACode.k0 {t:Nat} {b:Bool} (hx:ACode P n y2 KE σ) (hc:lk σ (.t t)= .v (.o (bo1 b)):=by exact rfl) (hn:b=true→ACode P n y KE σ:=by exact fun h=>by first|(cases h;done)|(simp[*]at h;done)|(exfalso;simp_all;done)):ACode P n (.cond (.tmp t) y y2) KE σ:=.condT hc hn (fun _=>hx)
variable {inv : Inv}
theorem kd {t:Nat} {x' x:V} (h:lk σ (.t t)= .v x:=by exact rfl) (hv:Vto σ inv x x':=by exact .dt):∃x,lk σ (.t t)= .v x∧Vto σ inv x x':=⟨x,h,hv⟩
theorem kX {t:Nat} {c' c:C} (h:lk σ (.t t)= .v (.o (.c c)):=by exact rfl) (hv:Cto σ inv c c':=by exact .bx):∃x,lk σ (.t t)= .v x∧Vto σ inv x (.o (.c c')):=⟨_,h,.c hv⟩
theorem kW {t:Nat} {c' c:C} (h:lk σ (.t t)= .v (.o (.c c)):=by exact rfl) (hv:Cto σ inv c c':=by exact .ow):∃x,lk σ (.t t)= .v x∧Vto σ inv x (.o (.c c')):=⟨_,h,.c hv⟩
theorem Rto.r1 {a a':C} (h:Cto σ inv a a'):Rto σ inv [[a]] [[a']]:=.cons (.cons h .nil) .nil
theorem Rto.r2 {a a' b b':C} (h:Cto σ inv a a') (h2:Cto σ inv b b'):Rto σ inv [[a,b]] [[a',b']]:=.cons (.cons h (.cons h2 .nil)) .nil
theorem Rto.r3 {a a' b b' c c':C} (h:Cto σ inv a a') (h2:Cto σ inv b b') (h3:Cto σ inv c c'):Rto σ inv [[a,b,c]] [[a',b',c']]:=.cons (.cons h (.cons h2 (.cons h3 .nil))) .nil
end
abbrev eP (t:Nat) (x:List D):Res×RC:=(.t t,.v (.o (.c (.ptr x))))
abbrev eB (t k s:Nat):Res×RC:=(.t t,.v (.o (.c (.box k s 0 0))))
abbrev eN (t:Nat) (x:Int):Res×RC:=(.t t,.v (.o (nat1 x)))
abbrev eD (t:Nat) (x:D):Res×RC:=(.t t,.v (.o (vD x)))
abbrev eT (t:Nat) (x:Bool):Res×RC:=(.t t,.v (.o (bo1 x)))
abbrev eU (k:Nat):Res×RC:=(.u k,.u)
abbrev nl:C:=.d (.val (.slice none 0 0))
theorem dR_at {rows:List (List D)} {i:Nat} {r:List D} (h:rows[i]?=some r):(dR rows)[i]?=some (r.map C.d):=by rw[dR,List.getElem?_map,h];rfl
theorem dR_setI (l:List Int) (i:Nat) (x y:Int):(dR (l.map rI)).set i (place1 ((rI x).map C.d) 0 (nat1 y).cells)=dR ((l.set i y).map rI):=by
  unfold dR
  rw[List.map_set,List.map_set]
  rfl
theorem dR_app (a b:List (List D)):dR a++b.map (·.map C.d)=dR (a++b):=by rw[dR,dR,List.map_append]
theorem mulb {x y:Int} (hx: -1000≤x∧x≤1000) (hy: -1000≤y∧y≤1000): -1000000≤x *y∧x *y≤1000000:=by
  have h1:0≤(1000 -x) *(1000+y):=Int.mul_nonneg (by omega) (by omega)
  have h2:0≤(1000+x) *(1000 -y):=Int.mul_nonneg (by omega) (by omega)
  have h3:0≤(1000 -x) *(1000 -y):=Int.mul_nonneg (by omega) (by omega)
  have h4:0≤(1000+x) *(1000+y):=Int.mul_nonneg (by omega) (by omega)
  simp only[Int.sub_mul,Int.add_mul,Int.mul_sub,Int.mul_add]at h1 h2 h3 h4
  omega
theorem dR_take {α:Type} (f:α→List D) {l:List α} {k:Nat} {x:α} (h:l[k]?=some x):dR ((l.take k).map f)++[f x].map (·.map C.d)=dR ((l.take (k+1)).map f):=by
  rw[dR_app,List.take_add_one,h,List.map_append];rfl
theorem dR_take1 {α:Type} (f:α→List D) {l:List α} {x:α} (h:l[0]?=some x):[f x].map (·.map C.d)=dR ((l.take 1).map f):=by
  rw[List.take_one,List.head?_eq_getElem?,h];rfl
def cmbTo (a:List Int) (x:Int) (b:List Int) (y:Int) (j:Nat):List Int:=(List.range j).map fun i=>x *a.getD i 0+y *b.getD i 0
def cmbA (a:Aff) (x:Int) (b:Aff) (y:Int):Aff:=(cmbTo a.1 x b.1 y 4,x *a.2+y *b.2)
def zA:Aff:=([0,0,0,0],0)
def cA (n:Int):Aff:=([0,0,0,0],n)
def varA (v:Nat):Aff:=(([0,0,0,0]:List Int).set v 1,0)
section
variable {α : Type}
def eqF (p:α→α→Bool):List α→List α→Bool
  |[],[]=>true
  |x::xs,y::ys=>p x y&&eqF p xs ys
  |_,_=>false
theorem drop_at {l:List α} {i:Nat} {x:α} (h:l[i]?=some x):l.drop i=x::l.drop (i+1):=by
  obtain⟨h1,rfl⟩:=List.getElem?_eq_some_iff.1 h
  exact List.drop_eq_getElem_cons h1
theorem eqF_drop {p:α→α→Bool} {a b:List α} {i:Nat} {x y:α} (h1:a[i]?=some x) (h2:b[i]?=some y):eqF p (a.drop i) (b.drop i)=(p x y&&eqF p (a.drop (i+1)) (b.drop (i+1))):=by rw[drop_at h1,drop_at h2];rfl
theorem eqF_len {p:α→α→Bool}:∀ {a b:List α},a.length≠b.length→eqF p a b=false
  |[],[],h=>absurd rfl h
  |[],_::_,_=>rfl
  |_::_,[],_=>rfl
  |x::a,y::b,h=>by rw[eqF,eqF_len (fun e=>h (by simp[e])),Bool.and_false]
theorem eqF_end {p:α→α→Bool} {a b:List α} (h:a.length=b.length):eqF p (a.drop a.length) (b.drop a.length)=true:=by rw[List.drop_length,h,List.drop_length];rfl
theorem eqF_eq {p:α→α→Bool} (hp:∀x y,p x y=true↔x=y):∀ {a b:List α},eqF p a b=true↔a=b
  |[],[]=>by simp[eqF]
  |[],_::_=>by simp[eqF]
  |_::_,[]=>by simp[eqF]
  |x::a,y::b=>by rw[eqF,Bool.and_eq_true,hp,eqF_eq hp,List.cons.injEq]
def idxG (p:α→Bool) (i:Nat):List α→Int
  |[]=> -1
  |x::l=>if p x then(i:Int)else idxG p (i+1) l
def idxF (p:α→Bool) (l:List α):Int:=idxG p 0 l
theorem idxG_drop {p:α→Bool} {l:List α} {i:Nat} {x:α} (h:l[i]?=some x):idxG p i (l.drop i)=if p x then(i:Int)else idxG p (i+1) (l.drop (i+1)):=by rw[drop_at h];rfl
theorem idxG_any {p:α→Bool}:∀ {l:List α} {i:Nat},decide (0≤idxG p i l)=l.any p
  |[],i=>rfl
  |x::l,i=>by
    rw[idxG,List.any_cons]
    cases h:p x
    ·rw[Bool.false_or];simpa using idxG_any
    ·simp
theorem all_drop {p:α→Bool} {l:List α} {i:Nat} {x:α} (h:l[i]?=some x):(l.drop i).all p=(p x&&(l.drop (i+1)).all p):=by rw[drop_at h];rfl
end
theorem sameOf_dec (x y:Aff):sameOf x y=decide (x=y):=by
  by_cases h:x=y
  ·rw[decide_eq_true h];exact(sameOf_iff x y).2 h
  · rw[decide_eq_false h]
    cases e:sameOf x y
    ·rfl
    ·exact absurd ((sameOf_iff x y).1 e) h
section
variable {P : Program} {f : FuncId} {x y : Aff} {n : Int}
theorem implSame_fn (x y:Aff):Fn Tryz.prog 35 [] [ad (rA x),ad (rA y)] (.o (bo1 (decide (x=y)))) []:=
  Fn.pure fun B bx al w vs hv=>by
    obtain⟨u,v,rfl,h1,h2⟩:=vals2 hv
    rw[←sameOf_dec]
    exact(implSame_any B B u v x y w (dr_aff h1) (dr_aff h2)).mono fun e w' ⟨h1,h2⟩=>⟨_,h1,h2,.val _ rfl⟩
theorem specSame_fn (x y:Aff):Fn Tryz.prog 38 [] [ad (rA x),ad (rA y)] (.o (bo1 (decide (x=y)))) []:=
  Fn.pure fun B bx al w vs hv=>by
    obtain⟨u,v,rfl,h1,h2⟩:=vals2 hv
    rw[←sameOf_dec]
    exact(specSame_any B B u v x y w (dr_aff h1) (dr_aff h2)).mono fun e w' ⟨h1,h2⟩=>⟨_,h1,h2,.val _ rfl⟩
theorem implAffV_fn (x:Aff):Fn Tryz.prog 72 [] [ad (rA x)] (.o (bo1 (affV x))) []:=
  Fn.pure fun B bx al w vs hv=>by
    obtain⟨v,rfl,h⟩:=vals1 hv
    exact(implAffV_any B v x w (dr_aff h)).mono fun e w' ⟨h1,h2⟩=>⟨_,h1,h2,.val _ rfl⟩
theorem depth_fn (x:Aff):Fn Tryz.prog 73 [] [ad (rA x)] (.o (nat1 (affDepth x:Nat))) []:=
  Fn.pure fun B bx al w vs hv=>by
    obtain⟨v,rfl,h⟩:=vals1 hv
    exact(depth_any B v x w (dr_aff h)).mono fun e w' ⟨h1,h2⟩=>⟨_,h1,h2,.val _ rfl⟩
end
theorem eqf_aff {f:FuncId} {cap:List (List D)} (hc:callable Tryz.prog f=true) (p:Aff→Aff→Bool) (xs ys:List Aff) (hx:xs.length≤1099511627776) (hf:∀x∈xs,∀y∈ys,Fn Tryz.prog f [] (ad (rA x)::ad (rA y)::cap.map fun c=>.c (.ptr c)) (.o (bo1 (p x y))) []):Fn Tryz.prog 34 [] [vD (.list 2 (xs.map rA)),vD (.list 2 (ys.map rA)),.c (.fn f cap)] (.o (bo1 (eqF p xs ys))) []:=by
 refine Fn.code0 Tryz.func34 rfl rfl rfl rfl ?_
 refine .r<|.c .a<|.nn<|.seq<|.r<|.c .m<|.c (.ln 28 2 32)<|.c .m<|.c (.ln 28 2 32)<|.c .ne<|.nn ?_
 refine .cND rfl (fun h14=>?_) (fun h14=>?_)
 ·skip
  refine .r<|.c .a<|.nn<|.ret<|ks_r ?_
  refine kf_ret rfl ?_ nobox
  exact leafB (eqF_len (by omega)).symm
 ·skip
  refine .skip<|ks_n<|.seq<|.r<|.c .m<|.c (.ln 28 2 32)<|.c .m<|.nn<|.block ?_
  refine .loopK (fun m σ=>(∃i:Nat,m=xs.length -i∧(i≤xs.length)∧(eqF p xs ys=eqF p (xs.drop i) (ys.drop i))∧σ=[eD 1 (.list 2 (ys.map rA)),(.t 2,.v (.o (.c (.fn f cap)))),eD 15 (.list 2 (xs.map rA)),eN 16 (xs.length:Nat),eN 17 (i:Nat)])) [] ⟨0,rfl,by omega,by simp,rfl⟩ ⟨kd,kd,kd,kd,kd,trivial⟩ ?_
  rintro m σ ⟨i,hm0,hi,hF,rfl⟩
  refine .r<|.c .ls<|.nn<|.seq ?_
  refine .cD rfl (fun h18=>?_) (fun h18=>?_)
  ·skip
   obtain⟨x,hx1⟩:∃x,xs[i]?=some x:=⟨_,List.getElem?_eq_getElem (by omega)⟩
   obtain⟨y,hy1⟩:∃x,ys[i]?=some x:=⟨_,List.getElem?_eq_getElem (by omega)⟩
   refine .skip<|ks_n<|.seq<|.block<|.r<|.c .m<|.c (.xL 28 2 32) ?_
   refine .c (.lN 2)<|.c (.al 108 [.slice none 0 0,.int .i64 0])<|.c .a<|.c (.sT 2 true)<|.r<|.c .m<|.c .m<|.c (.xL 28 2 32) ?_
   refine .c (.lN 2)<|.c (.al 109 [.slice none 0 0,.int .i64 0])<|.c (.sT 2 true)<|.r<|.c .m<|.c (.bN 2)<|.c (.bN 2) ?_
   refine .c (.cP [.tmp 27,.tmp 28] rfl rfl rfl rfl (hf x (List.mem_of_getElem? hx1) y (List.mem_of_getElem? hy1)) rfl hc) ?_
   refine .c .nt<|.nn ?_
   refine ACode.condT rfl (fun h30=>?_) (fun h30=>?_)
   ·try simp only[zs]at h30
    have g:=h30
    refine .r<|.c .a<|.nn<|.ret<|kb_r<|ks_r<|kl_r<|kb_r<|ks_r ?_
    refine kf_ret rfl ?_ nobox
    exact leafB (by rw[hF,eqF_drop hx1 hy1,g];rfl)
   ·try simp only[zs]at h30
    have g:=h30
    refine .skip<|kb_n<|ks_n<|.region<|.c .pl<|.c .m<|.nil ?_
    refine kl_k [] ⟨i+1,rfl,by omega,by rw[hF,eqF_drop hx1 hy1,g,Bool.true_and],rfl⟩ ⟨kd,kd,kd,kd,kd,trivial⟩
  ·skip
   refine .exit<|ks_e<|kl_e<|kb_hit<|ks_n<|.r<|.c .a<|.nn<|.ret ?_
   refine kf_ret rfl ?_ nobox
   exact leafB (by rw[hF,show i=xs.length by omega,eqF_end (by omega)])
theorem idx_aff {f:FuncId} {cap:List (List D)} (hc:callable Tryz.prog f=true) (p:Aff→Bool) (xs:List Aff) (hx:xs.length≤1099511627776) (hf:∀x∈xs,Fn Tryz.prog f [] (ad (rA x)::cap.map fun c=>.c (.ptr c)) (.o (bo1 (p x))) []):Fn Tryz.prog 84 [] [vD (.list 2 (xs.map rA)),.c (.fn f cap)] (.o (nat1 (idxF p xs))) []:=by
 refine Fn.code0 Tryz.func84 rfl rfl rfl rfl ?_
 refine .r<|.c .a<|.nn<|.seq<|.r<|.c .m<|.c (.ln 28 2 32)<|.c .m<|.nn<|.block ?_
 refine .loopK (fun m σ=>(∃i:Nat,m=xs.length -i∧(i≤xs.length)∧(idxF p xs=idxG p i (xs.drop i))∧σ=[eD 0 (.list 2 (xs.map rA)),(.t 1,.v (.o (.c (.fn f cap)))),eN 7 (xs.length:Nat),eN 8 (i:Nat)])) [] ⟨0,rfl,by omega,rfl,rfl⟩ ⟨kd,kd,kd,kd,trivial⟩ ?_
 rintro m σ ⟨i,hm0,hi,hF,rfl⟩
 refine .r<|.c .ls<|.nn<|.seq ?_
 refine .cD rfl (fun h9=>?_) (fun h9=>?_)
 ·skip
  obtain⟨x,hx1⟩:∃x,xs[i]?=some x:=⟨_,List.getElem?_eq_getElem (by omega)⟩
  refine .skip<|ks_n<|.seq<|.block<|.r<|.c .m<|.c .a<|.r<|.c .m<|.c .m<|.c .m<|.c (.xL 28 2 32) ?_
  refine .c (.lN 2) ?_
  refine .c (.cP [.tmp 15] rfl rfl rfl rfl (hf x (List.mem_of_getElem? hx1)) rfl hc) ?_
  refine .nn ?_
  refine ACode.condT rfl (fun h16=>?_) (fun h16=>?_)
  ·try simp only[zs]at h16
   refine .r<|.c .m<|.c .a<|.nn<|.ret<|kb_r<|ks_r<|kl_r<|kb_r<|ks_r ?_
   refine kf_ret rfl ?_ nobox
   exact leafI (by rw[hF,idxG_drop hx1,h16];rfl)
  ·try simp only[zs]at h16
   refine .skip<|kb_n<|ks_n<|.region<|.c .pl<|.c .m<|.nil ?_
   refine kl_k [] ⟨i+1,rfl,by omega,by rw[hF,idxG_drop hx1,h16];rfl,rfl⟩ ⟨kd,kd,kd,kd,trivial⟩
 ·skip
  refine .exit<|ks_e<|kl_e<|kb_hit<|ks_n<|.r<|.c .a<|.nn<|.ret ?_
  refine kf_ret rfl ?_ nobox
  exact leafI (by rw[hF,List.drop_of_length_le (by omega)];rfl)
theorem cnt_aff {f:FuncId} {cap:List (List D)} (hc:callable Tryz.prog f=true) (p:Aff→Bool) (xs:List Aff) (hx:xs.length≤1099511627776) (hf:∀x∈xs,Fn Tryz.prog f [] (ad (rA x)::cap.map fun c=>.c (.ptr c)) (.o (bo1 (p x))) []):Fn Tryz.prog 70 [] [vD (.list 2 (xs.map rA)),.c (.fn f cap)] (.o (bo1 (xs.any p))) []:=by
  refine Fn.code0 Tryz.func70 rfl rfl rfl rfl ?_
  refine .r<|.c .a<|.r<|.c .m<|.c .m ?_
  refine .c (.cP [.tmp 5,.tmp 6] rfl rfl rfl rfl (idx_aff hc p xs hx hf) rfl) ?_
  refine .c .ge<|.c .a<|.nn<|.ret ?_
  refine kf_ret rfl ?_ nobox
  exact leafB idxG_any
def bndV (d:Nat) (x:Aff):Bool:=affV x&&decide (affDepth x≤d)
def sideV (d:Nat) (xs:List Aff):Bool:=xs.all (bndV d)&&decide (1≤xs.length)&&decide (xs.length≤2)
theorem eqF_dec {α:Type} [DecidableEq α] (a b:List α):eqF (fun x y=>decide (x=y)) a b=decide (a=b):=by
  rw[Bool.eq_iff_iff,decide_eq_true_eq,eqF_eq (fun x y=>by simp)]
theorem nany {α:Type} (p:α→Bool) (l:List α):(!l.any fun x=> !p x)=l.all p:=by
  rw[Bool.eq_iff_iff];simp
theorem bnd_no {d:Nat} {x:Aff} (h:affV x=false∨d<affDepth x):bndV d x=false:=by
  rw[bndV,Bool.and_eq_false_iff]
  exact h.imp id fun h=>decide_eq_false (by omega)
theorem bnd_yes {d:Nat} {x:Aff} (h:affV x=true) (h2:¬d<affDepth x):bndV d x=true:=by
  rw[bndV,Bool.and_eq_true]
  exact⟨h,decide_eq_true (by omega)⟩
theorem l1Zero_own  :Fn Tryz.prog 30 [] [] (.o (.agg [.own 101 1 4,.d (dI 0)])) [(.b 101,.b 3 1 (dR (([0,0,0,0]:List Int).map rI))),(.u 101,.u)]:=by
  refine Fn.of_code Tryz.func30 rfl rfl HB.nil rfl rfl HB.nil.data rfl (one_num rfl) ?_
  refine .r<|.c (.al 100 [.slice none 0 0,.int .i64 0])<|.r ?_
  refine .c (St1.litB (k':=101) (e:=3) (sz:=0) (m:=3) (xs:=[.const (.int .i64 (0)),.const (.int .i64 (0)),.const (.int .i64 (0)),.const (.int .i64 (0))]) rfl rfl rfl rfl rfl (by kernel_rfl) rfl rfl rfl rfl rfl) ?_
  refine .c (.bu [(0,.tmp 1)] [(0,1),(1,1)] [.slice none 0 0,.int .i64 0])<|.c (.sT 2 true)<|.nn<|.ret ?_
  refine kf_wret [eB 0 100 2,(.b 101,.b 3 1 (dR (([0,0,0,0]:List Int).map rI))),eU 101,(.b 100,.b 28 2 [[.own 101 1 (4),.d (dI (0))]]),eU 100] (Wk.keep [(100,100),(101,101)] rfl rfl ⟨kX,kb 101 rfl (.dt rfl),kb 100 rfl (.r2 .ow .dt),trivial⟩) rfl ?_ (one_box rfl)
  rfl
theorem l1Zero_fn  :Fn Tryz.prog 30 [] [] (.o (ad (rA zA))) []:=by
  refine Fn.code0 Tryz.func30 rfl rfl rfl rfl ?_
  refine .r<|.c (.al 100 [.slice none 0 0,.int .i64 0])<|.r ?_
  refine .c (St1.litB (k':=101) (e:=3) (sz:=0) (m:=3) (xs:=[.const (.int .i64 (0)),.const (.int .i64 (0)),.const (.int .i64 (0)),.const (.int .i64 (0))]) rfl rfl rfl rfl rfl (by kernel_rfl) rfl rfl rfl rfl rfl) ?_
  refine .c (.bu [(0,.tmp 1)] [(0,1),(1,1)] [.slice none 0 0,.int .i64 0])<|.c (.sT 2 true)<|.nn<|.ret ?_
  refine kf_wret [eB 0 100 2,(.b 100,.b 28 2 [[.d (dIs (([0,0,0,0]:List Int))),.d (dI (0))]]),eU 100] (Wk.keep [(100,100)] rfl rfl ⟨kX,kb 100 rfl (.r2 (.fz rfl) .dt),trivial⟩) rfl ?_ nobox
  rfl
theorem l1Const_own (n:Int):Fn Tryz.prog 49 [] [nat1 n] (.o (.agg [.own 101 1 4,.d (dI n)])) [(.b 101,.b 3 1 (dR (([0,0,0,0]:List Int).map rI))),(.u 101,.u)]:=by
  refine Fn.of_code Tryz.func49 rfl rfl HB.nil rfl rfl HB.nil.data rfl (one_num rfl) ?_
  refine .r<|.c (.al 102 [.slice none 0 0,.int .i64 0])<|.r ?_
  refine .c (.cO [] [(101,104)] rfl rfl rfl rfl (l1Zero_own) rfl trivial flatS.nil (flatS.nil.cons rfl) HB.nil.data outS_one) ?_
  refine .c (.al 103 [.slice none 0 0,.int .i64 0])<|.c (.sT 2 true)<|.r<|.c .m<|.c (.fB 1 0 false)<|.c (.sT 1 false)<|.r<|.c (.bN 2)<|.c (.sT 2 true)<|.nn<|.ret ?_
  refine kf_wret [eB 2 100 2,(.b 101,.b 3 1 (dR (([0,0,0,0]:List Int).map rI))),eU 101,(.b 100,.b 28 2 [[.own 101 1 (4),.d (dI (n))]]),eU 100] (Wk.keep [(100,102),(101,104)] rfl rfl ⟨kX,kb 104 rfl (.dt rfl),kb 102 rfl (.r2 .ow .dt),trivial⟩) rfl ?_ (one_box rfl)
  rfl
theorem l1Const_fn (n:Int):Fn Tryz.prog 49 [] [nat1 n] (.o (ad (rA (cA n)))) []:=by
  refine Fn.code0 Tryz.func49 rfl rfl rfl rfl ?_
  refine .r<|.c (.al 102 [.slice none 0 0,.int .i64 0])<|.r ?_
  refine .c (.cO [] [(101,104)] rfl rfl rfl rfl (l1Zero_own) rfl trivial flatS.nil (flatS.nil.cons rfl) HB.nil.data outS_one) ?_
  refine .c (.al 103 [.slice none 0 0,.int .i64 0])<|.c (.sT 2 true)<|.r<|.c .m<|.c (.fB 1 0 false)<|.c (.sT 1 false)<|.r<|.c (.bN 2)<|.c (.sT 2 true)<|.nn<|.ret ?_
  refine kf_wret [eB 2 100 2,(.b 100,.b 28 2 [[.d (dIs (([0,0,0,0]:List Int))),.d (dI (n))]]),eU 100] (Wk.keep [(100,102)] rfl rfl ⟨kX,kb 102 rfl (.r2 (.fz rfl) .dt),trivial⟩) rfl ?_ nobox
  rfl
theorem l1Var_fn (v:Int) (hv:0≤v∧v<4):Fn Tryz.prog 33 [] [nat1 v] (.o (ad (rA (varA v.toNat)))) []:=by
  refine Fn.code0 Tryz.func33 rfl rfl rfl rfl ?_
  refine .r<|.c (.al 102 [.slice none 0 0,.int .i64 0])<|.r ?_
  refine .c (.cO [] [(101,104)] rfl rfl rfl rfl (l1Zero_own) rfl trivial flatS.nil (flatS.nil.cons rfl) HB.nil.data outS_one) ?_
  refine .c (.al 103 [.slice none 0 0,.int .i64 0])<|.c (.sT 2 true)<|.r<|.c (.fB 0 0 false)<|.c (.b1 1)<|.c .m ?_
  refine .c (.xB 3 1 8 (i:=v.toNat) rfl rfl rfl rfl rfl (by omega)) ?_
  refine .c (.sT 1 false rfl rfl rfl rfl (dR_at (map_at (getD_at (l:=[0,0,0,0]) (i:=v.toNat) (by simp;omega)))) rfl rfl) ?_
  refine .r<|.c (.bN 2)<|.c (.sT 2 true)<|.nn<|.ret ?_
  refine kf_wret [eB 2 100 2,(.b 100,.b 28 2 [[.d (dIs (([0,0,0,0]:List Int).set v.toNat 1)),.d (dI (0))]]),eU 100] (Wk.keep [(100,102)] rfl rfl ⟨kX,kb 102 rfl (.r2 (.fz rfl (dR_setI _ _ _ _)) .dt),trivial⟩) rfl ?_ nobox
  rfl
theorem l1Combine_fn (a b:Aff) (x y:Int) (hx: -1000≤x∧x≤1000) (hy: -1000≤y∧y≤1000) (ha:a.1.length=4) (hb:b.1.length=4) (ha2: -1000≤a.2∧a.2≤1000) (hb2: -1000≤b.2∧b.2≤1000) (hac:∀i, -1000≤a.1.getD i 0∧a.1.getD i 0≤1000) (hbc:∀i, -1000≤b.1.getD i 0∧b.1.getD i 0≤1000):Fn Tryz.prog 50 [] [ad (rA a),nat1 x,ad (rA b),nat1 y] (.o (ad (rA (cmbA a x b y)))) []:=by
 have hm1:=mulb hx ha2
 have hm2:=mulb hy hb2
 refine Fn.code0 Tryz.func50 rfl rfl rfl rfl ?_
 refine .r<|.c .bp<|.c .bp<|.c (.al 108 [.slice none 0 0,.int .i64 0])<|.r<|.c .m<|.c (.fP 1 0 false)<|.c (.l1 1)<|.c .ml<|.c .m<|.c (.fP 1 0 false)<|.c (.l1 1)<|.c .ml<|.c .pl<|.c (.bu [(1,.tmp 19)] [(0,1),(1,1)] [.slice none 0 0,.int .i64 0])<|.c (.al 109 [.slice none 0 0,.int .i64 0])<|.c (.sT 2 true)<|.nn<|.seq<|.r<|.c .a<|.nn<|.block ?_
 refine .loopK (fun m σ=>(∃i:Nat,m=4 -i∧(i=0)∧σ=[eN 1 x,eN 3 y,eP 4 (rA a),eP 6 (rA b),eB 8 110 2,eB 9 111 2,eN 10 (i:Nat),(.b 110,.b 28 2 [[nl,.d (dI 0)]]),eU 110,(.b 111,.b 28 2 [[nl,.d (dI (x *a.2+y *b.2))]]),eU 111])∨(∃i:Nat,m=4 -i∧(1≤i)∧(i≤4)∧σ=[eN 1 x,eN 3 y,eP 4 (rA a),eP 6 (rA b),eB 8 110 2,eB 9 111 2,eN 10 (i:Nat),(.b 110,.b 28 2 [[nl,.d (dI 0)]]),eU 110,(.b 112,.b 3 1 (dR ((cmbTo a.1 x b.1 y i).map rI))),eU 112,(.b 111,.b 28 2 [[.own 112 1 (i),.d (dI (x *a.2+y *b.2))]]),eU 111])) [(110,108),(111,109)] (.inl ⟨0,rfl,rfl,rfl⟩) ⟨kd,kd,kd,kd,kX,kX,kd,kb 108 rfl (.r2 .dt .dt),kb 109 rfl (.r2 .dt .dt),trivial⟩ ?_
 rintro m σ (⟨i,hm0,rfl,rfl⟩|⟨i,hm0,hi1,hi4,rfl⟩)
 ·skip
  have hm3:=mulb hx (hac 0)
  have hm4:=mulb hy (hbc 0)
  refine .seq<|.r<|.c .m<|.c .ls<|.nn ?_
  refine .cD rfl (fun h22=>?_) (fun h22=>?_)
  ·skip
   refine .skip<|ks_n<|.seq<|.block ?_
   refine ACode.drawK (by kernel_rfl) (by kernel_rfl) ?_
   refine .c (.fB 0 0 false)<|.c (.b1 1)<|.c .m<|.c (.fP 0 0 false)<|.c (.l1 1)<|.c .m ?_
   refine .c (.xL 3 1 8 rfl rfl rfl rfl rfl (map_at (getD_at (by rw[ha];omega)))) ?_
   refine .c (.l1 1)<|.c .ml<|.c .m<|.c (.fP 0 0 false)<|.c (.l1 1)<|.c .m ?_
   refine .c (.xL 3 1 8 rfl rfl rfl rfl rfl (map_at (getD_at (by rw[hb];omega)))) ?_
   refine .c (.l1 1)<|.c .ml<|.c .pl<|.c (.li 3 0 0 [.tmp 41]) ?_
   refine .c (St1.appN (k':=143) (e:=3) (sz:=0) (by':=8) rfl rfl rfl rfl rfl (by kernel_rfl) rfl rfl rfl (by simp) (by simp[dR,cmbTo]<;>omega) rfl rfl) ?_
   refine .c (.fB 0 0 false)<|.c (.sT 1 false) ?_
   refine .nil ⟨by kernel_rfl,?_⟩
   refine kb_n<|ks_n<|.region<|.c .m<|.c .pl<|.c .a<|.nil ?_
   refine kl_k [(110,110),(111,111),(112,143)] (.inr ⟨1,rfl,by omega,by omega,rfl⟩) ⟨kd,kd,kd,kd,kX,kX,kd,kb 110 rfl (.r2 .dt .dt),kb 143 rfl (.dt rfl (by first|(rw[dR_app];simp[cmbTo,List.range_succ];done)|(simp[dR,cmbTo,List.range_succ];done)|(simp[dR,cmbTo,List.range_succ];rfl))),kb 111 rfl (.r2 .ow .dt),trivial⟩
  ·skip
   simp at h22
 ·skip
  have hm3:=mulb hx (hac i)
  have hm4:=mulb hy (hbc i)
  refine .seq<|.r<|.c .m<|.c .ls<|.nn ?_
  refine .cD rfl (fun h22=>?_) (fun h22=>?_)
  ·skip
   refine .skip<|ks_n<|.seq<|.block ?_
   refine ACode.drawK (by kernel_rfl) (by kernel_rfl) ?_
   refine .c (.fB 0 0 false)<|.c (.b1 1)<|.c .m<|.c (.fP 0 0 false)<|.c (.l1 1)<|.c .m ?_
   refine .c (.xL 3 1 8 rfl rfl rfl rfl rfl (map_at (getD_at (by rw[ha];omega)))) ?_
   refine .c (.l1 1)<|.c .ml<|.c .m<|.c (.fP 0 0 false)<|.c (.l1 1)<|.c .m ?_
   refine .c (.xL 3 1 8 rfl rfl rfl rfl rfl (map_at (getD_at (by rw[hb];omega)))) ?_
   refine .c (.l1 1)<|.c .ml<|.c .pl<|.c (.li 3 0 0 [.tmp 41]) ?_
   refine .c (St1.appB (k':=143) (e:=3) (sz:=0) (by':=8) rfl rfl rfl rfl rfl (by kernel_rfl) rfl rfl rfl rfl (by simp[dR,cmbTo]) (by simp[dR,cmbTo]<;>omega) rfl rfl rfl) ?_
   refine .c (.fB 0 0 false)<|.c (.sT 1 false) ?_
   refine .nil ⟨by kernel_rfl,?_⟩
   refine kb_n<|ks_n<|.region<|.c .m<|.c .pl<|.c .a<|.nil ?_
   refine kl_k [(110,110),(111,111),(112,143)] (.inr ⟨i+1,rfl,by omega,by omega,rfl⟩) ⟨kd,kd,kd,kd,kX,kX,kd,kb 110 rfl (.r2 .dt .dt),kb 143 rfl (.dt rfl (by first|(rw[dR_app];simp[cmbTo,List.range_succ];done)|(simp[dR,cmbTo,List.range_succ];done)|(simp[dR,cmbTo,List.range_succ];rfl))),kb 111 rfl (.r2 .ow .dt),trivial⟩
  ·skip
   obtain rfl:i=4:=by omega
   refine .exit<|ks_e<|kl_e<|kb_hit<|ks_n<|.r<|.c (.bN 2)<|.c (.sT 2 true)<|.nn<|.ret ?_
   refine kf_wret [eB 8 100 2,(.b 100,.b 28 2 [[.d (dIs (cmbTo a.1 x b.1 y 4)),.d (dI (x *a.2+y *b.2))]]),eU 100] (Wk.keep [(100,110)] rfl rfl ⟨kX,kb 110 rfl (.r2 (.fz rfl rfl (by simp[cmbTo])) .dt),trivial⟩) rfl ?_ nobox
   rfl
def smA (a:Aff):Prop:=a.1.length=4∧(-1000≤a.2∧a.2≤1000)∧∀i, -1000≤a.1.getD i 0∧a.1.getD i 0≤1000
theorem getD_bd {l:List Int} {lo hi:Int} (h:∀x∈l,lo≤x∧x≤hi) (h0:lo≤0∧0≤hi) (i:Nat):lo≤l.getD i 0∧l.getD i 0≤hi:=by
  rw[List.getD]
  cases hx:l[i]? with
  |none=>exact h0
  |some x=>exact h x (List.mem_of_getElem? hx)
theorem varA_sm (v:Nat):smA (varA v):=by
  refine⟨by simp[varA],by simp[varA],getD_bd (fun x hx=>?_) (by omega)⟩
  rcases List.mem_or_eq_of_mem_set hx with h|h
  ·simp at h;omega
  ·omega
theorem cA_sm {n:Int} (h: -1000≤n∧n≤1000):smA (cA n):=by
  refine⟨rfl,h,getD_bd (fun x hx=>?_) (by omega)⟩
  have hx':x∈([0,0,0,0]:List Int):=hx
  simp at hx';omega
theorem pick_fn {bs:List Int} (hb:Bytes bs) {p:Nat} (hp:p≤1099511627776) (m:Int):Fn Tryz.prog 14 (hbR bs p) [vR,nat1 m] (.o (nat1 (pickV bs p m))) (hbR bs (p+1)):=by
 refine Fn.of_code Tryz.func14 rfl rfl (hbR_HB _ _) rfl rfl (hbR_HB _ _) rfl (hbR_num _ _ _) ?_
 refine .r<|.c .a<|.r<|.c .m<|.c .m<|.c .nB<|.c (.fB 1 0 false)<|.c (.b1 1)<|.c .pl<|.c .nB<|.c (.fB 1 0 false)<|.c (.sT 1 false)<|.nn<|.seq<|.r<|.c .m<|.c .ls<|.c .m ?_
 refine .cD 17 rfl (fun g17=>?_) (fun g17=>?_)
 ·skip
  refine .c .f<|.c .f<|.c .f<|.c .f<|.c .f<|.c .f<|.c .pT<|.nn ?_
  refine .k1 ?_
  refine .r<|.c .a<|.nn<|.ret<|ks_r ?_
  refine kf_ret rfl ?_ (hbR_box rfl)
  first|exact leafI (by rw[pickV,if_pos (by omega)])|exact leafI (by rw[pickV,if_neg (by omega),if_pos (by omega)])
 ·skip
  refine .c (.g .m)<|.c (.g .nB)<|.c (.g (.fB 0 0 false))<|.c (.g (.b1 1))<|.c (.g (.ln 5 1 1))<|.c (.g .eq)<|.c .pF<|.nn ?_
  refine ACode.condT rfl (fun h24=>?_) (fun h24=>?_)
  ·try simp only[zs]at h24
   refine .r<|.c .a<|.nn<|.ret<|ks_r ?_
   refine kf_ret rfl ?_ (hbR_box rfl)
   first|exact leafI (by rw[pickV,if_pos (by omega)])|exact leafI (by rw[pickV,if_neg (by omega),if_pos (by omega)])
  ·try simp only[zs]at h24
   have hbl:=hb.1;have hC:=hb.at p;have hA:=hb.at (p % bs.length);have hB:=hb.at ((p *7+3) % bs.length);obtain⟨q,hq⟩:∃q,q=p / bs.length:=⟨_,rfl⟩;have hD:q≤p:=by rw[hq];exact Nat.div_le_self _ _
   have hQ:(((p:Nat):Int)+1 -1).tdiv ((bs.length:Nat):Int)=(q:Int):=by rw[hq];exact tdiv_nat (by omega) rfl
   have hbL:bs.length≤2000:=hb.1;have hM:=Nat.mod_lt p (show 0<bs.length by omega);have hN:=Nat.mod_lt (p *7+3) (show 0<bs.length by omega)
   refine .skip<|ks_n<|.r<|.c .m<|.c .nB<|.c (.fB 1 0 false)<|.c (.b1 1)<|.c .sb<|.c .a<|.nn<|.seq<|.r<|.c .m<|.c .m<|.c .nB<|.c (.fB 0 0 false)<|.c (.b1 1)<|.c (.ln 5 1 1)<|.c .ls<|.nn ?_
   refine .cD rfl (fun h36=>?_) (fun h36=>?_)
   ·skip
    refine .r<|.c .m<|.c .nB<|.c (.fB 0 0 false)<|.c (.b1 1)<|.c .m ?_
    refine .c (.xL 5 1 1 (i:=p) rfl rfl rfl rfl (by omega) (map_at (getD_at (by omega)))) ?_
    refine .c (.l1 1) ?_
    refine .c (St1.convU (ds:=.int .u8) rfl rfl rfl rfl (by kernel_rfl) (by kernel_rfl) rfl (by omega)) ?_
    refine .c .m ?_
    refine .c (St1.rem rfl rfl rfl rfl rfl rfl (by omega)) ?_
    refine .c .a<|.nn<|.ret<|ks_r ?_
    refine kf_ret rfl ?_ (hbR_box rfl)
    exact leafI (by rw[pickV,if_neg (by omega),if_neg (by omega),if_pos (by omega)])
   ·skip
    refine .skip<|ks_n<|.seq ?_
    refine ACode.drawK (by kernel_rfl) (by kernel_rfl) ?_
    refine .c .m<|.c .nB<|.c (.fB 0 0 false)<|.c (.b1 1)<|.c .m<|.c .m<|.c .nB<|.c (.fB 0 0 false)<|.c (.b1 1)<|.c (.ln 5 1 1) ?_
    refine .c (St1.rem rfl rfl rfl rfl rfl rfl (by omega)) ?_
    refine .c (.xL 5 1 1 (i:=p % bs.length) rfl rfl rfl rfl (tmod_nat (by omega) rfl) (map_at (getD_at hM))) ?_
    refine .c (.l1 1) ?_
    refine .c (St1.convU (ds:=.int .u8) rfl rfl rfl rfl (by kernel_rfl) (by kernel_rfl) rfl (by omega)) ?_
    refine .c .ml<|.c .m<|.c .nB<|.c (.fB 0 0 false)<|.c (.b1 1)<|.c .m<|.c .ml<|.c .pl<|.c .m<|.c .nB<|.c (.fB 0 0 false)<|.c (.b1 1)<|.c (.ln 5 1 1) ?_
    refine .c (St1.rem rfl rfl rfl rfl rfl rfl (by omega)) ?_
    refine .c (.xL 5 1 1 (i:=(p *7+3) % bs.length) rfl rfl rfl rfl (tmod_nat (by omega) rfl) (map_at (getD_at hN))) ?_
    refine .c (.l1 1) ?_
    refine .c (St1.convU (ds:=.int .u8) rfl rfl rfl rfl (by kernel_rfl) (by kernel_rfl) rfl (by omega)) ?_
    refine .c .ml<|.c .pl<|.c .m<|.c .ml<|.c .pl<|.c .m<|.c .m<|.c .nB<|.c (.fB 0 0 false)<|.c (.b1 1)<|.c (.ln 5 1 1) ?_
    refine .c (St1.quo rfl rfl rfl rfl rfl rfl (by rw[hQ];omega)) ?_
    refine .c (.ml rfl rfl rfl (by rw[hQ];omega)) ?_
    refine .c (.pl rfl rfl rfl (by rw[hQ];omega)) ?_
    refine .c .a ?_
    refine .nil ⟨by kernel_rfl,?_⟩
    refine ks_n<|.r<|.c .m<|.c .m ?_
    refine .c (St1.quo rfl rfl rfl rfl rfl rfl (by rw[hQ];exact⟨by omega,tdiv64 (by omega) (by omega)⟩)) ?_
    refine .c (St1.xor rfl rfl rfl rfl rfl rfl)<|.c .a<|.r<|.c .m<|.c .m ?_
    refine .c (St1.rem rfl rfl rfl rfl rfl rfl (by omega)) ?_
    refine .c .a<|.nn<|.ret ?_
    refine kf_ret rfl ?_ (hbR_box rfl)
    exact leafI (by rw[hQ,show ((p:Nat):Int)+1 -1=(p:Int)by omega,pickV,if_neg (by omega),if_neg (by omega),if_neg (by omega),mixV,←hq])
theorem num_fn {bs:List Int} (hb:Bytes bs) {p:Nat} (hp:p≤1099511627776) (xs:List Int) (hx:0<xs.length):Fn Tryz.prog 29 (hbR bs p) [vR,vD (dIs xs)] (.o (nat1 (numV bs p xs))) (hbR bs (p+1)):=by
  refine Fn.of_code Tryz.func29 rfl rfl (hbR_HB _ _) rfl rfl (hbR_HB _ _) rfl (hbR_num _ _ _) ?_
  refine .r<|.c .a<|.r<|.c .m<|.c .m<|.c .m<|.c (.ln 3 1 8) ?_
  refine .c (.cR [.tmp 6,.tmp 8] 0 rfl rfl rfl rfl (pick_fn hb hp (xs.length:Nat)) rfl ⟨rfl,trivial⟩) ?_
  refine .c (.xL 3 1 8 (i:=(pickV bs p (xs.length:Nat)).toNat) rfl rfl rfl rfl (numV_at hb hp hx).1 (map_at (numV_at hb hp hx).2)) ?_
  refine .c (.l1 1)<|.c .a<|.nn<|.ret ?_
  refine kf_ret rfl ?_ (hbR_box rfl)
  rfl
def okL (k:Nat) (l:Lp):Prop:=l.1≠[]∧l.1.length≤k∧l.2.length≤k∧(∀a∈l.1,a.1.length≤4)∧∀a∈l.2,a.1.length≤4
def okN (k:Nat) (ns:List Lp):Prop:=ns.length≤k∧∀l∈ns,okL k l
theorem okL.mono {k m:Nat} {l:Lp} (h:okL k l) (hm:k≤m):okL m l:=⟨h.1,Nat.le_trans h.2.1 hm,Nat.le_trans h.2.2.1 hm,h.2.2.2⟩
theorem okN.cons {k:Nat} {l:Lp} {ns:List Lp} (h:okN k (l::ns)):okL k l∧ns.length+1≤k∧∀x∈ns,okL k x:=⟨h.2 l (by simp),by simpa using h.1,fun x hx=>h.2 x (by simp[hx])⟩
theorem eqfA_fn (xs ys:List Aff) (hx:xs.length≤1099511627776):Fn Tryz.prog 34 [] [vD (dAs xs),vD (dAs ys),.c (.fn 35 [])] (.o (bo1 (decide (xs=ys)))) []:=by
  rw[←eqF_dec]
  exact eqf_aff (cap:=[]) (by kernel_rfl) _ xs ys hx (fun x _ y _=>implSame_fn x y)
theorem l2SideSame_fn (xs ys:List Aff) (hx:xs.length≤1099511627776):Fn Tryz.prog 37 [] [vD (dAs xs),vD (dAs ys)] (.o (bo1 (decide (xs=ys)))) []:=by
 rw[←eqF_dec]
 refine Fn.code0 Tryz.func37 rfl rfl rfl rfl ?_
 refine .r<|.c .a<|.nn<|.seq<|.r<|.c .m<|.c (.ln 28 2 32)<|.c .m<|.c (.ln 28 2 32)<|.c .ne<|.nn ?_
 refine .cND rfl (fun h10=>?_) (fun h10=>?_)
 ·skip
  refine .r<|.c .a<|.nn<|.ret<|ks_r ?_
  refine kf_ret rfl ?_ nobox
  exact leafB (eqF_len (by omega)).symm
 ·skip
  refine .skip<|ks_n<|.seq<|.r<|.c .a<|.nn<|.block ?_
  refine .loopK (fun m σ=>(∃i:Nat,m=xs.length -i∧(i≤xs.length)∧(eqF (fun x y=>decide (x=y)) xs ys=eqF (fun x y=>decide (x=y)) (xs.drop i) (ys.drop i))∧σ=[eD 0 (dAs xs),eD 1 (dAs ys),eN 5 (i:Nat)])) [] ⟨0,rfl,by omega,by simp,rfl⟩ ⟨kd,kd,kd,trivial⟩ ?_
  rintro m σ ⟨i,hm0,hi,hF,rfl⟩
  refine .seq<|.r<|.c .m<|.c .m<|.c (.ln 28 2 32)<|.c .ls<|.nn ?_
  refine .cD rfl (fun h14=>?_) (fun h14=>?_)
  ·skip
   obtain⟨x,hx1⟩:∃x,xs[i]?=some x:=⟨_,List.getElem?_eq_getElem (by omega)⟩
   obtain⟨y,hy1⟩:∃x,ys[i]?=some x:=⟨_,List.getElem?_eq_getElem (by omega)⟩
   refine .skip<|ks_n<|.seq<|.block<|.seq ?_
   refine ACode.drawK (by kernel_rfl) (by kernel_rfl) ?_
   refine .c .m<|.c .m<|.c (.xL 28 2 32) ?_
   refine .c (.lN 2)<|.c .m<|.c .m<|.c (.xL 28 2 32) ?_
   refine .c (.lN 2) ?_
   refine .c (.cP [.tmp 20,.tmp 24] rfl rfl rfl rfl (specSame_fn x y) rfl) ?_
   refine .c .nt ?_
   refine .nil ⟨by kernel_rfl,?_⟩
   refine ks_n ?_
   refine ACode.condT rfl (fun h26=>?_) (fun h26=>?_)
   ·try simp only[zs]at h26
    refine .r<|.c .a<|.nn<|.ret<|kb_r<|ks_r<|kl_r<|kb_r<|ks_r ?_
    refine kf_ret rfl ?_ nobox
    exact leafB (by rw[hF,eqF_drop hx1 hy1,decide_eq_false h26];rfl)
   ·try simp only[zs]at h26
    refine .skip<|kb_n<|ks_n<|.region<|.c .m<|.c .pl<|.c .a<|.nil ?_
    refine kl_k [] ⟨i+1,rfl,by omega,by rw[hF,eqF_drop hx1 hy1,decide_eq_true h26,Bool.true_and],rfl⟩ ⟨kd,kd,kd,trivial⟩
  ·skip
   refine .exit<|ks_e<|kl_e<|kb_hit<|ks_n<|.r<|.c .a<|.nn<|.ret ?_
   refine kf_ret rfl ?_ nobox
   exact leafB (by rw[hF,show i=xs.length by omega,eqF_end (by omega)])
theorem within_fn (n lo hi:Int):Fn Tryz.prog 55 [] [nat1 n,nat1 lo,nat1 hi] (.o (bo1 (inB n lo hi))) []:=by
  refine Fn.code0 Tryz.func55 rfl rfl rfl rfl ?_
  refine .r<|.c .a<|.r<|.c .m<|.c .m<|.c .le<|.c .m ?_
  refine .cD 10 rfl (fun g10=>?_) (fun g10=>?_)
  · skip
    refine .c (.g .m)<|.c (.g .m)<|.c (.g .le)<|.c .pT<|.c .a<|.nn<|.ret ?_
    refine kf_ret rfl ?_ nobox
    exact leafB (by rw[inB];simp[*])
  · skip
    refine .c .f<|.c .f<|.c .f<|.c .pF<|.c .a<|.nn<|.ret ?_
    refine kf_ret rfl ?_ nobox
    exact leafB (by rw[inB];simp[*])
section
variable {p : List Int} {m : Int} {l : List Aff} {i : Nat} {x : Aff}
end
theorem Small.take {p:List Int} (h:Small p) (i:Nat):Small (p.take i):=fun n hn=>h n (List.mem_of_mem_take hn)
abbrev Pts:=List (List Int)
/-! ### The program's way -/
/-! ### The reference's way -/
structure Ptp (r:Pts) (o q:Pts):Prop where
  all:o.length+q.length≤120→r=o++q
  many:120<o.length+q.length→r.length=121
theorem Ptp.len {r o q:Pts} (h:Ptp r o q):r.length≤121:=by
  by_cases hg:o.length+q.length≤120
  ·rw[h.all hg,List.length_append];omega
  ·rw[h.many (by omega)];exact Nat.le_refl _
theorem Ptp.leq {r o q:Pts} (h:Ptp r o q):r.length≤120↔o.length+q.length≤120:=by
  by_cases hg:o.length+q.length≤120
  ·rw[h.all hg,List.length_append]
  ·rw[h.many (by omega)];omega
/-! ### Coordinates are small -/
def PB (p:List Int):Prop:=∀(i:Nat) x,p[i]?=some x→ -(99 *10^i)≤x∧x≤99 *10^i
theorem PB.nil:PB []:=fun i x h=>by simp at h
theorem PB.getD {p:List Int} (h:PB p) (i:Nat): -(99 *10^i)≤p.getD i 0∧p.getD i 0≤99 *10^i:=by
  rw[List.getD]
  cases e:p[i]? with
  |none=>have:(0:Int)<10^i:=Int.pow_pos (by omega);simp;omega
  |some x=>exact h i x e
end Go.Proofs.YtfgljkblopojgaaGreatDoor
namespace Go.Proofs.YtfgljkblopojgaaGreatDoor
set_option linter.unusedVariables false
set_option linter.unusedSimpArgs false
end Go.Proofs.YtfgljkblopojgaaGreatDoor
/- The points of a nest: which they are, their order, their coordinates; condition: none. -/
namespace Go.Proofs.YtfgljkblopojgaaGreatDoor
set_option linter.unusedVariables false
set_option linter.unusedSimpArgs false
open Go.RowKit
/-! ### Coordinates -/
/-! ### Order -/
end Go.Proofs.YtfgljkblopojgaaGreatDoor
namespace Go.Proofs.YtfgljkblopojgaaGreatDoor
set_option linter.unusedVariables false
set_option linter.unusedSimpArgs false
open Go.RowKit
section
variable {P : Program} {n : Nat} {ops : Array Oper} {o : Oper} {σ : St} {d : Nat} {t t2 e : TypeId} {x : Operand}
end
/-! ### The walking struct -/
theorem l16Open_fn (bs:List Int):Fn Tryz.prog 12 [] [vD (dYs bs)] (.o (.c (.box 100 2 0 0))) [(.b 100,.b 55 2 (dR [rRd (bs.take 2000) 0])),(.u 100,.u)]:=by
  refine Fn.of_code Tryz.func12 rfl rfl HB.nil rfl rfl HB.nil.data rfl (one_num rfl) ?_
  refine .r<|.c .a<|.nn<|.seq<|.r<|.c .m<|.c (.ln 5 1 1)<|.c .gt<|.nn ?_
  refine .cD rfl (fun h5=>?_) (fun h5=>?_)
  · skip
    refine .region<|.c .m ?_
    refine .c (St1.sliceTo (e:=5) (sz:=1) (by':=1) (k:=2000) rfl rfl rfl rfl (by kernel_rfl) rfl rfl rfl (by first|rfl|omega) (by simp only[List.length_map];omega)) ?_
    refine .c .a<|.r<|.c .m<|.c (.bu [(0,.tmp 8)] [(0,1),(1,1)] [.slice none 0 0,.int .i64 0]) ?_
    refine .c (St1.boxB (k':=110) rfl rfl rfl rfl rfl rfl rfl)<|.c .a<|.nn<|.ret ?_
    refine kf_wret [eB 2 100 2,(.b 100,.b 55 2 [[.d (dYs (bs.take 2000)),.d (dI 0)]]),eU 100] (Wk.keep [(100,110)] rfl rfl ⟨kX,kb 110 rfl (.r2 (.dt (by first|(simp only[dYs,List.map_take];done)|rw[List.take_of_length_le (by omega)])) .dt),trivial⟩) rfl ?_ (one_box rfl)
    rfl
  · skip
    refine .skip<|ks_n<|.r<|.c .m<|.c (.bu [(0,.tmp 8)] [(0,1),(1,1)] [.slice none 0 0,.int .i64 0]) ?_
    refine .c (St1.boxB (k':=110) rfl rfl rfl rfl rfl rfl rfl)<|.c .a<|.nn<|.ret ?_
    refine kf_wret [eB 2 100 2,(.b 100,.b 55 2 [[.d (dYs (bs.take 2000)),.d (dI 0)]]),eU 100] (Wk.keep [(100,110)] rfl rfl ⟨kX,kb 110 rfl (.r2 (.dt (by first|(simp only[dYs,List.map_take];done)|rw[List.take_of_length_le (by omega)])) .dt),trivial⟩) rfl ?_ (one_box rfl)
    rfl
theorem okN.mono {k m:Nat} {ns:List Lp} (h:okN k ns) (hm:k≤m):okN m ns:=⟨Nat.le_trans h.1 hm,fun l hl=>(h.2 l hl).mono hm⟩
theorem ys_dr {B:Nat→Prop} {w:World} {v:Value} {xs:List Int} (h:Sl Sh.byte B w v xs):Dr B w (dYs xs) v:=by
  obtain⟨a,cap,rfl,h1,h2,h3,h4⟩:=h
  by_cases h0:xs.length=0
  · have:xs=[]:=List.eq_nil_of_length_eq_zero h0
    subst this
    exact Dr.list 1 [] a 0 cap 0 0 (fun _ _=>undef) rfl (Nat.zero_le _) (Nat.zero_le _) h3 (fun h=>absurd h (Nat.lt_irrefl _)) (fun i r h=>by simp at h) (fun i r j x h=>by simp at h) (fun i r j x h=>by simp at h)
  · obtain⟨b,off,cs,rfl,_⟩:=h4 0 xs[0] (List.getElem?_eq_getElem (by omega))
    have hr:∀(i:Nat) r,(xs.map rY)[i]?=some r→∃x,xs[i]?=some x∧r=rY x:=fun i r hr=>by
      rw[List.getElem?_map]at hr
      cases hx:xs[i]? with
      |none=>rw[hx]at hr;cases hr
      |some x=>rw[hx]at hr;cases hr;exact⟨x,rfl,rfl⟩
    refine Dr.list 1 (xs.map rY) (some ⟨b,off,none⟩) xs.length cap b off (fun i _=>.int .u8 (xs.getD i 0)) (by rw[List.length_map]) h1 h2 (fun h=>by cases h) (fun _=>rfl) (fun i r hi=>?_) (fun i r j y hi hj=>?_) (fun i r j y hi hj=>?_)
    ·obtain⟨x,_,rfl⟩:=hr i r hi;rfl
    all_goals
      obtain⟨x,hx,rfl⟩:=hr i r hi
      have hj0:j=0∧y= .val (.int .u8 x):=by
        cases j with
        |zero=>simp[rY]at hj;exact⟨rfl,hj.symm⟩
        |succ j=>simp[rY]at hj
      obtain⟨rfl,rfl⟩:=hj0
      have hg:xs.getD i 0=x:=by rw[List.getD,hx];rfl
    · obtain⟨b',off',cs,e,hb,hr',hc⟩:=h4 i x hx
      cases e
      have hr2:cs=[.int .u8 x]:=hr'
      subst hr2
      exact⟨hb,by rw[hg];exact hc 0 _ rfl⟩
    · show Dr B w (.val (.int .u8 x)) (.int .u8 (xs.getD i 0))
      rw[hg];exact .val _ rfl
abbrev Truth (P:Program) (f:FuncId) (vs:Array Value) (w:World):Prop:=Calls P f vs w fun e w'=>e= .returned (.bool true)∧Below w.heap.size w w'
theorem Fn.truth {P:Program} {f:FuncId} {args:List V1} {vs:List Value} {w:World} {B:Nat→Prop} (h:Fn P f [] args (.o (bo1 true)) []) (hv:Vals (V1r (fun _=>(0,0)) (Al (lk [])) B w) args vs):Truth P f vs.toArray w:=by
  have hno:∀k,¬Al (lk []) k:=fun k ⟨e,sz,rows,h⟩=>by cases h
  refine(h B (fun _=>(0,0)) w vs ⟨fun k e sz rows h=>(by cases h),fun k l hk=>(hno k hk).elim,fun k hk=>(hno k hk).elim⟩ hv).mono ?_
  rintro e w' ⟨v,bx',rfl,hp⟩
  have hv:Dr _ w' (.val (.bool true)) v:=hp.val
  cases hv
  exact⟨rfl,hp.os,hp.tape,hp.output,hp.size,fun b hb=>hp.old b hb fun k hk=>(hno k hk).elim⟩
structure Byt (w:World) (a:Option Addr) (n c:Nat) (bs:List Int):Prop where
  sl:n≤1048576→Sl Sh.byte (fun b=>b<w.heap.size) w (.slice a n c) bs
  bd:∀x∈bs,0≤x∧x≤255
abbrev vX (a:Option Addr) (n c:Nat):V1:=vD (.val (.slice a n c))
theorem bytes_take {bs:List Int} (h:∀x∈bs,0≤x∧x≤255):Bytes (bs.take 2000):=⟨by rw[List.length_take];omega,fun x hx=>h x (List.mem_of_mem_take hx)⟩
theorem law1 {P:Program} {f:FuncId} {a:Option Addr} {n c:Nat} {bs:List Int} {w:World} (h:Byt w a n c bs) (hbig:1048576<n→Fn P f [] [vX a n c] (.o (bo1 true)) [])
    (hsm:bs.length≤1048576→Bytes (bs.take 2000)→Fn P f [] [vD (dYs bs)] (.o (bo1 true)) []):Truth P f #[.slice a n c] w:=by
  by_cases hn:1048576<n
  · exact (hbig hn).truth (vs := [_]) (B := fun _ => True) ⟨rfl, fun i x v hx hv => by
      match i,hx,hv with
      |0,hx,hv=>cases hx;cases hv;exact Dr.val _ rfl⟩
  · have hs:=h.sl (by omega)
    have hl:bs.length=n:=hs.len
    exact(hsm (by omega) (bytes_take h.bd)).truth (vs:=[_]) ⟨rfl,fun i x v hx hv=>by
      match i,hx,hv with
      |0,hx,hv=>cases hx;cases hv;exact ys_dr hs⟩
theorem IsRow.bytes {w:World} {a:Option Addr} {n cap:Nat} {zs:List Int} (h:IsRow .u8 w a n cap zs) (hn:n≤17592186044416):Sl Sh.byte (fun b=>b<w.heap.size) w (.slice a n cap) (zs.take n):=by
  rcases h with⟨rfl,rfl,rfl,rfl⟩|⟨x,rfl,h1,_,h2,h3,_⟩
  ·exact Sl.nil _ _ _
  · have hl:(zs.take n).length=n:=by rw[List.length_take];omega
    refine⟨_,cap,by rw[hl],by rw[hl];exact h1,by rw[hl];exact hn,(fun e=>by cases e),fun i y hy=>?_⟩
    have hi:i<n:=by rw[←hl];exact(List.getElem?_eq_some_iff.1 hy).1
    have hc:=h3 i (by omega)
    obtain⟨b,off,spot⟩:=x
    have hs:spot=none:=by
      have h0:=h3 0 (by omega)
      simpa [Addr.add]using World.cell?_spot h0
    subst hs
    rw[Addr.add_lit]at hc
    rw[List.getElem?_take,if_pos hi]at hy
    rw[List.getD,hy]at hc
    refine⟨b,off,[.int .u8 y],rfl,World.block_lt_of_cell? _ _ hc,rfl,fun j c hj=>?_⟩
    cases j with
    |succ j=>simp at hj
    |zero=>
      simp only[List.getElem?_cons_zero,Option.some.injEq]at hj
      subst hj
      simpa [Sh.byte]using hc
theorem IsRow.bytesBd {w:World} {a:Option Addr} {n cap:Nat} {zs:List Int} (h:IsRow .u8 w a n cap zs):∀x∈zs.take n,0≤x∧x≤255:=by
  intro x hx
  have:=h.wf x hx
  simp[Lit.wf,IntKind.min,IntKind.max,IntKind.bits,IntKind.signed]at this
  omega
end Go.Proofs.YtfgljkblopojgaaGreatDoor
/-
  DERIVED: THE SHELF's CONTRACTS AT THIS DUMP, IN PLAIN WORDS (tools/lay-plain.mjs out of 'TryzShelf.lean', which tools/lay-shelf.mjs wrote): THE SAME DECLARATIONS UNDER THE SAME NAMES: 'import', 'namespace', 'open', 'def', 'theorem' AND NOTHING ELSE: no command of the shelf's: FOR A HAND-IN. Each laying: the table of numbers ('.._ren') and one theorem, a field a fact of the dump's own or the kernel's comparison; each contract: ONE APPLICATION.
-/
namespace Go.Proofs
open Go.Shelf
open Go.RowKit in
open Go.RowKit in
open Go.RowKit in
open Go.RowKit in
open Go.RowKit in
def Tryz.lays156_ren:Go.Shelf.Ren:=⟨fun|156=>77|165=>88|166=>89|169=>90|240=>94|241=>95|276=>101|277=>102|n=>n,fun|31=>61|9=>9|3=>3|4=>4|0=>0|20=>20|72=>106|76=>109|70=>104|37=>22|75=>108|127=>115|164=>122|5=>5|80=>111|n=>n,fun|n=>n⟩
theorem Tryz.lays156:Go.Proofs.Lays.n156 Tryz.prog Tryz.lays156_ren:={
  mixed:=by kernel_rfl
  f156:=Tryz.func77.trans (congrArg some (by kernel_rfl))
  f165:=Tryz.func88.trans (congrArg some (by kernel_rfl))
  f166:=Tryz.func89.trans (congrArg some (by kernel_rfl))
  f169:=Tryz.func90.trans (congrArg some (by kernel_rfl))
  f240:=Tryz.func94.trans (congrArg some (by kernel_rfl))
  f241:=Tryz.func95.trans (congrArg some (by kernel_rfl))
  f276:=Tryz.func101.trans (congrArg some (by kernel_rfl))
  f277:=Tryz.func102.trans (congrArg some (by kernel_rfl))
  t0:=Tryz.underlying0
  a0:=Tryz.isAgg0
  z0:=Tryz.sizeOf0
  v0:=Tryz.zeroValue0
  t3:=Tryz.underlying3
  a3:=Tryz.isAgg3
  z3:=Tryz.sizeOf3
  v3:=Tryz.zeroValue3
  t4:=Tryz.underlying4
  a4:=Tryz.isAgg4
  z4:=Tryz.sizeOf4
  v4:=Tryz.zeroValue4
  t9:=Tryz.underlying9
  a9:=Tryz.isAgg9
  z9:=Tryz.sizeOf9
  v9:=Tryz.zeroValue9
  t20:=Tryz.underlying20
  a20:=Tryz.isAgg20
  z20:=Tryz.sizeOf20
  v20:=Tryz.zeroValue20
  t31:=Tryz.underlying61
  a31:=Tryz.isAgg61
  z31:=Tryz.sizeOf61
  v31:=Tryz.zeroValue61
  t37:=Tryz.underlying22
  a37:=Tryz.isAgg22
  z37:=Tryz.sizeOf22
  v37:=Tryz.zeroValue22
  t70:=Tryz.underlying104
  a70:=Tryz.isAgg104
  z70:=Tryz.sizeOf104
  v70:=Tryz.zeroValue104
  t72:=Tryz.underlying106
  a72:=Tryz.isAgg106
  z72:=Tryz.sizeOf106
  v72:=Tryz.zeroValue106
  t75:=Tryz.underlying108
  a75:=Tryz.isAgg108
  z75:=Tryz.sizeOf108
  v75:=Tryz.zeroValue108
  t76:=Tryz.underlying109
  a76:=Tryz.isAgg109
  z76:=Tryz.sizeOf109
  v76:=Tryz.zeroValue109
  t127:=Tryz.underlying115
  a127:=Tryz.isAgg115
  z127:=Tryz.sizeOf115
  v127:=Tryz.zeroValue115
  t164:=Tryz.underlying122
  a164:=Tryz.isAgg122
  z164:=Tryz.sizeOf122
  v164:=Tryz.zeroValue122}
theorem Tryz.Builder_Extra_156:Builder.Extra Tryz.prog Tryz.lays156_ren:={
  sizeBuilder:=by kernel_rfl
  liesBuilder:=by kernel_rfl
  t5:=Tryz.underlying5
  a5:=Tryz.isAgg5
  z5:=Tryz.sizeOf5
  v5:=Tryz.zeroValue5
  infoByte:=by kernel_rfl
  cellsByte:=by kernel_rfl
  sizeByte:=by kernel_rfl
  neB5:=by decide}
open Go.RowKit in
theorem Tryz.strings_Join_none (a:Option Addr) (c:Nat) (sep:ByteArray) (w:World):
    Calls Tryz.prog 77 #[.slice a 0 c,.string sep] w fun e w'=>e= .returned (.string ⟨#[]⟩)∧w'=w:=Any.strings_Join_none Tryz.lays156 Tryz.Builder_Extra_156 a c sep w
open Go.RowKit in
theorem Tryz.strings_Join (bk o c:Nat) (xs:List ByteArray) (sep:ByteArray) (w:World) (hcells:∀(j:Nat) x,xs[j]?=some x→w.cell? ⟨bk,o+j,none⟩=some (.string x)) (hbk:bk<w.heap.size) (hN:xs.length≤140737488355328) (hcap:xs.length≤c) (hlen:(Lib.join (xs.map (·.data.toList)) sep.data.toList).length≤140737488355328):
    Calls Tryz.prog 77 #[.slice (some ⟨bk,o,none⟩) xs.length c,.string sep] w fun e w'=>e= .returned (.string ⟨(Lib.join (xs.map (·.data.toList)) sep.data.toList).toArray⟩)∧Below w.heap.size w w':=Any.strings_Join Tryz.lays156 Tryz.Builder_Extra_156 bk o c xs sep w hcells hbk hN hcap hlen
open Go.Lib in
open Go.Lib in
open Go.Lib in
open Go.Lib in
open Go.RowKit Go.Sort Go.Lib in
open Go.RowKit Go.Sort Go.Lib in
open Go.RowKit Go.Sort Go.Lib in
open Go.RowKit Go.Sort Go.Lib in
open Go.RowKit Go.Sort Go.Lib in
open Go.RowKit Go.Sort Go.Lib in
def Tryz.lays171_ren:Go.Shelf.Ren:=⟨fun|171=>59|243=>78|246=>91|283=>96|284=>97|285=>98|286=>99|129=>104|317=>103|318=>105|319=>106|320=>107|337=>112|338=>113|n=>n,fun|3=>3|9=>9|2=>2|4=>4|171=>116|0=>0|53=>117|37=>22|5=>5|173=>120|212=>126|51=>127|20=>20|213=>128|46=>129|232=>135|233=>136|n=>n,fun|17=>0|18=>2|19=>3|n=>n⟩
theorem Tryz.lays171:Go.Proofs.Lays.n171 Tryz.prog Tryz.lays171_ren:={
  mixed:=by kernel_rfl
  f129:=Tryz.func104.trans (congrArg some (by kernel_rfl))
  f171:=Tryz.func59.trans (congrArg some (by kernel_rfl))
  f243:=Tryz.func78.trans (congrArg some (by kernel_rfl))
  f246:=Tryz.func91.trans (congrArg some (by kernel_rfl))
  f283:=Tryz.func96.trans (congrArg some (by kernel_rfl))
  f284:=Tryz.func97.trans (congrArg some (by kernel_rfl))
  f285:=Tryz.func98.trans (congrArg some (by kernel_rfl))
  f286:=Tryz.func99.trans (congrArg some (by kernel_rfl))
  f317:=Tryz.func103.trans (congrArg some (by kernel_rfl))
  f318:=Tryz.func105.trans (congrArg some (by kernel_rfl))
  f319:=Tryz.func106.trans (congrArg some (by kernel_rfl))
  f320:=Tryz.func107.trans (congrArg some (by kernel_rfl))
  f337:=Tryz.func112.trans (congrArg some (by kernel_rfl))
  f338:=Tryz.func113.trans (congrArg some (by kernel_rfl))
  t0:=Tryz.underlying0
  a0:=Tryz.isAgg0
  z0:=Tryz.sizeOf0
  v0:=Tryz.zeroValue0
  t2:=Tryz.underlying2
  a2:=Tryz.isAgg2
  z2:=Tryz.sizeOf2
  v2:=Tryz.zeroValue2
  t3:=Tryz.underlying3
  a3:=Tryz.isAgg3
  z3:=Tryz.sizeOf3
  v3:=Tryz.zeroValue3
  t4:=Tryz.underlying4
  a4:=Tryz.isAgg4
  z4:=Tryz.sizeOf4
  v4:=Tryz.zeroValue4
  t5:=Tryz.underlying5
  a5:=Tryz.isAgg5
  z5:=Tryz.sizeOf5
  v5:=Tryz.zeroValue5
  t9:=Tryz.underlying9
  a9:=Tryz.isAgg9
  z9:=Tryz.sizeOf9
  v9:=Tryz.zeroValue9
  t20:=Tryz.underlying20
  a20:=Tryz.isAgg20
  z20:=Tryz.sizeOf20
  v20:=Tryz.zeroValue20
  t37:=Tryz.underlying22
  a37:=Tryz.isAgg22
  z37:=Tryz.sizeOf22
  v37:=Tryz.zeroValue22
  t46:=Tryz.underlying129
  a46:=Tryz.isAgg129
  z46:=Tryz.sizeOf129
  v46:=Tryz.zeroValue129
  t51:=Tryz.underlying127
  a51:=Tryz.isAgg127
  z51:=Tryz.sizeOf127
  v51:=Tryz.zeroValue127
  t53:=Tryz.underlying117
  a53:=Tryz.isAgg117
  z53:=Tryz.sizeOf117
  v53:=Tryz.zeroValue117
  t171:=Tryz.underlying116
  a171:=Tryz.isAgg116
  z171:=Tryz.sizeOf116
  v171:=Tryz.zeroValue116
  t173:=Tryz.underlying120
  a173:=Tryz.isAgg120
  z173:=Tryz.sizeOf120
  v173:=Tryz.zeroValue120
  t212:=Tryz.underlying126
  a212:=Tryz.isAgg126
  z212:=Tryz.sizeOf126
  v212:=Tryz.zeroValue126
  t213:=Tryz.underlying128
  a213:=Tryz.isAgg128
  z213:=Tryz.sizeOf128
  t232:=Tryz.underlying135
  a232:=Tryz.isAgg135
  z232:=Tryz.sizeOf135
  v232:=Tryz.zeroValue135
  t233:=Tryz.underlying136
  a233:=Tryz.isAgg136
  z233:=Tryz.sizeOf136
  v233:=Tryz.zeroValue136
  g17:=by kernel_rfl
  g18:=by kernel_rfl
  g19:=by kernel_rfl}
open Go.RowKit Go.Sort Go.Lib in
theorem Tryz.strconv_Itoa_small (i:Nat) (hi:i<100) (w:World):
    Calls Tryz.prog 59 #[.int .i64 i] w fun e w'=>e= .returned (.string ⟨(Lib.decDigits i).toArray⟩)∧w'=w:=Any.strconv_Itoa_small Tryz.lays171 i hi w
end Go.Proofs
namespace Go.Proofs.YtfgljkblopojgaaGreatDoor
set_option linter.unusedVariables false
set_option linter.unusedSimpArgs false
open Go.RowKit
structure Box1 (w:World) (g:Nat) (u:Value):Prop where
  c0:w.cell? ⟨g,0,none⟩=some u
  f0:w.frozen? ⟨g,0,none⟩=false
  lt:g<w.heap.size
theorem Box1.new (w:World) (u:Value) (T:TypeId):Box1 (w.alloc (.cells #[u] T)) w.heap.size u:=by
  have hn:=heap_alloc_new w (.cells #[u] T)
  refine⟨cell_of_row _ _ 0 _ _ _ hn,?_,by simp⟩
  unfold World.frozen?;rw[hn];rfl
theorem Box1.below {w w':World} {g:Nat} {u:Value} (h:Box1 w g u) (hb:Below w.heap.size w w'):Box1 w' g u:=
  ⟨(hb.cell (p:=⟨g,0,none⟩) h.lt).trans h.c0,(hb.frozen (p:=⟨g,0,none⟩) h.lt).trans h.f0,Nat.lt_of_lt_of_le h.lt hb.size⟩
theorem Box1.set {w:World} {g:Nat} {u:Value} (h:Box1 w g u) (v:Value):Box1 (w.setCell ⟨g,0,none⟩ v) g v:=
  ⟨World.cell?_setCell_same _ _ _ h.c0,(World.frozen?_setCell _ _ _ _).trans h.f0,by simp;exact h.lt⟩
def sgnA (s:ByteArray) (n:Int):ByteArray:=if n<0 then s++⟨#[45]⟩else if s.toList.isEmpty then s else s++⟨#[43]⟩
theorem sign_any (n:Int) (b:Nat) (s:ByteArray) (w:World) (h:Box1 w b (.string s)) (hs:s.size≤900):
    Calls Tryz.prog 79 #[.int .i64 n,.pointer (some ⟨b,0,none⟩)] w fun e w'=>(∃v,e= .returned v)∧Box1 w' b (.string (sgnA s n))∧w.grownBy w' (some b):=by
  have h0:=h.c0;have h1:=h.f0;have h2:=h.lt
  have G:=fun(u:Value)=>setCell_grown w ⟨b,0,none⟩ u
  have HS:=fun(u:Value)=>h.set u
  have Hh:=hid h;have HG:=hid G;have HHS:=hid HS
  clear h G HS
  by_cases hn:n<0
  · have hd:decide (n<0)=true:=decide_eq_true hn
    have Hn:=hid (show sgnA s n=s++⟨#[45]⟩from if_pos hn)
    go_enter Tryz.func79,Tryz.ntmps79
    go_wp2_with fail
    refine bodyPost_end (results_none rfl _ _ _) rfl ?_
    exact⟨⟨_,rfl⟩,by rw[Hn.out];exact HHS.out _,HG.out _⟩
  · have hd:decide (n<0)=false:=decide_eq_false hn
    cases he:s.toList.isEmpty
    · have Hn:=hid (show sgnA s n=s++⟨#[43]⟩by rw[sgnA,if_neg hn,he];rfl)
      go_enter Tryz.func79,Tryz.ntmps79
      go_wp2_with fail
      refine bodyPost_end (results_none rfl _ _ _) rfl ?_
      exact⟨⟨_,rfl⟩,by rw[Hn.out];exact HHS.out _,HG.out _⟩
    · have Hn:=hid (show sgnA s n=s by rw[sgnA,if_neg hn,he];rfl)
      go_enter Tryz.func79,Tryz.ntmps79
      go_wp2_with fail
      refine bodyPost_end (results_none rfl _ _ _) rfl ?_
      exact⟨⟨_,rfl⟩,by rw[Hn.out];exact Hh.out,World.grownBy.refl _ _⟩
def decA (n:Int):ByteArray:=⟨(Lib.decDigits n.natAbs).toArray⟩
def termA (s:ByteArray) (c:Int) (j:Nat):ByteArray:=
  if c=0 then s else(if 1<c.natAbs then sgnA s c++(decA c++⟨#[42]⟩)else sgnA s c)++(⟨#[105,106,107,108]⟩:ByteArray).extract j (j+1)
theorem decA_len (m:Nat) (h:m<100):(Lib.decDigits m).length≤3:=by
  by_cases h1:m<10
  ·rw[Lib.decDigits_one h1];simp
  ·rw[Lib.decDigits_two h1 h];simp
theorem decA_size {n:Int} (h:n.natAbs<100):(decA n).size≤3:=by
  have:=decA_len _ h
  simpa [decA,ByteArray.size]using this
theorem sgnA_size (s:ByteArray) (n:Int):(sgnA s n).size≤s.size+1:=by
  unfold sgnA
  split
  ·rw[ByteArray.size_append];exact Nat.le_refl _
  · split
    ·omega
    ·rw[ByteArray.size_append];exact Nat.le_refl _
def preA (co:List Int):Nat→ByteArray
  |0=>⟨#[]⟩
  |j+1=>termA (preA co j) (co.getD j 0) j
def rawA (x:Aff):ByteArray:=if x.2=0 then preA x.1 4 else sgnA (preA x.1 4) x.2++decA x.2
def txtA (x:Aff):ByteArray:=if (rawA x).toList.isEmpty then⟨#[48]⟩else rawA x
set_option maxHeartbeats 12800000 in
theorem affText_any (P:Nat→Prop) (v:Value) (x:Aff) (w:World) (h:AffR P w v x) (hV:affV x=true):
    Calls Tryz.prog 60 #[v] w fun e w'=>e= .returned (.string (txtA x))∧Below w.heap.size w w':=by
  have hco:=affV_getD hV
  have hk:=affV_const hV
  have hlen:=affV_len hV
  obtain⟨a,c,rfl,_,_,hs⟩:=h.shape
  obtain⟨co,k⟩:=x
  simp only at hs hco hk hlen ⊢
  rw[hlen]at hs ⊢
  have hb:=((Below.refl w.heap.size w).alloc (Nat.le_refl _) (.cells #[.slice a 4 c,.int .i64 k] 28)).alloc (by simp) (.cells #[.string ⟨#[]⟩] 9)
  have B0:=(Box2.new w (.slice a 4 c) (.int .i64 k) 28).alloc (.cells #[.string ⟨#[]⟩] 9)
  have B1:=Box1.new (w.alloc (.cells #[.slice a 4 c,.int .i64 k] 28)) (.string ⟨#[]⟩) 9
  rw[World.size_alloc]at B1
  have hs2:=(hs.mono (Q:=fun b=>b<w.heap.size) fun b _ h=>h).below hb
  have Hlen:=hid hlen;have Hco:=hid hco
  clear h hs hlen hco hV
  go_enter Tryz.func60,Tryz.ntmps60
  go_wp2_with fail
  generalize (w.alloc (.cells #[.slice a 4 c,.int .i64 k] 28)).alloc (.cells #[.string ⟨#[]⟩] 9)=w2 at hb B0 B1 hs2
  have HB0:=hid B0;have HS2:=hid hs2;have Hb:=hid hb
  clear B0 hs2 hb
  go_loopw [5,6,12] (fun _ _ i wr=>∃j:Nat,j≤4∧i= .int .i64 j∧Box1 wr (w.heap.size+1) (.string (preA co j))∧(preA co j).size≤100 *j∧w2.grownBy wr (some (w.heap.size+1))) (fun _ _ i _=>4 -(intOf i).toNat)
  case atStart=>exact⟨0,Nat.zero_le _,rfl,B1,Nat.le_refl _,World.grownBy.refl _ _⟩
  case round=>
    obtain⟨j,hj,rfl,hB,hsz,hg⟩:=hrel
    by_cases hlt:j<4
    · obtain⟨b,off,rfl,hbl,_,hcell⟩:=(HS2.out.grown hg (fun q (hq:q<w.heap.size) e=>by have:=Option.some.inj e;omega)).intAt (by decide)
      have q1:=hcell j hlt
      have hcb:=Hco.out j
      have hpre:preA co (j+1)=termA (preA co j) (co.getD j 0) j:=rfl
      generalize co.getD j 0=y at q1 hcb hpre
      generalize preA co j=s at hB hpre hsz
      have Hpre:=hid hpre
      have HB:=hid hB;have Hg:=hid hg
      have hj4:(j:Int)<4:=by omega
      clear hcell hpre hB hg
      by_cases hy0:y=0
      · have hd:(y==0)=true:=by simpa using hy0
        have Ht:=hid (show preA co (j+1)=s by rw[Hpre.out,termA,if_pos hy0])
        clear hy0
        go_wp2_with fail
        exact⟨⟨j+1,by omega,rfl,by rw[Ht.out];exact HB.out,by rw[Ht.out];omega,Hg.out⟩,by simp[intOf];omega⟩
      · have hd:(y==0)=false:=by simpa using hy0
        go_wp2_with fail
        refine(sign_any y (w.heap.size+1) s wr HB.out (by omega)).mono ?_
        rintro e w3 ⟨⟨v3,rfl⟩,B3,g3⟩
        have Hg3:=hid (grownBy_transK Hg.out g3)
        have Hts:=(show preA co (j+1)=(if 1<y.natAbs then sgnA s y++(decA y++⟨#[42]⟩)else sgnA s y)++(⟨#[105,106,107,108]⟩:ByteArray).extract j (j+1)by rw[Hpre.out,termA,if_neg hy0])
        have hs3:=sgnA_size s y
        have hds:=decA_size (n:=y) (by omega)
        have hdm0:decA y=⟨(Lib.decDigits y.natAbs).toArray⟩:=rfl
        generalize sgnA s y=s3 at B3 Hts hs3
        have hs3':s3.size≤500:=by omega
        have HB3:=hid B3
        have c3:=B3.c0;have f3:=B3.f0;have l3:=B3.lt
        clear B3 g3 HB Hg q1
        have hmax:max y (-y)=(y.natAbs:Int):=by omega
        have hm9:y.natAbs≤9:=by omega
        generalize y.natAbs=m at hmax hm9 Hts hdm0
        have kj:IntKind.i64.wrap ((j:Int)+1)=(j:Int)+1:=IntWalk.i64_in _ (by omega)
        have kj0:(0:Int)≤(j:Int):=by omega
        have kj1:(j:Int)≤(j:Int)+1:=by omega
        have kj2:(j:Int)+1≤4:=by omega
        have kj3:((j:Int)+1).toNat=j+1:=by omega
        have hdm:decA y=⟨(Lib.decDigits m).toArray⟩:=hdm0
        have hdl:(⟨(Lib.decDigits m).toArray⟩:ByteArray).size≤3:=by rw[←hdm];exact hds
        rw[hdm]at Hts
        generalize hdd:(⟨(Lib.decDigits m).toArray⟩:ByteArray)=dd at Hts hdl
        have Hdd:=hid hdd
        clear hdm hds hdd hdm0
        by_cases hm1:1<m
        · have hd1:decide ((1:Int)<(m:Int))=true:=decide_eq_true (by omega)
          have Ht:=hid (show preA co (j+1)=s3++(dd++⟨#[42]⟩)++(⟨#[105,106,107,108]⟩:ByteArray).extract j (j+1)by rw[Hts,if_pos hm1])
          have hs4:(s3++(dd++⟨#[42]⟩)).size≤s3.size+4:=by rw[ByteArray.size_append,ByteArray.size_append];show s3.size+(dd.size+1)≤_;omega
          clear Hts
          go_wp2_with fail
          go_region_with (go_at_call 59;refine(Tryz.strconv_Itoa_small m (by omega) _).mono ?_;rintro e w' ⟨rfl,rfl⟩;rw[Hdd.out])
          all_goals
            generalize s3++(dd++⟨#[42]⟩)=s5 at Ht hs4
            have HB5:=hid ((HB3.out.set (.string s5)))
            have Hg5:=hid (grownBy_transK Hg3.out (setCell_grown w3 ⟨w.heap.size+1,0,none⟩ (.string s5)))
            have c5:=HB5.out.c0;have f5:=HB5.out.f0;have l5:=HB5.out.lt
            generalize (w3.setCell ⟨w.heap.size+1,0,none⟩ (.string s5))=w5 at HB5 Hg5 c5 f5 l5
            go_wp2_with fail
            have hs5:s5.size≤600:=by omega
            rcases (show j=0∨j=1∨j=2∨j=3 by omega)with rfl|rfl|rfl|rfl
            · have F1:=hid (HB5.out.set (.string (s5++(⟨#[105,106,107,108]⟩:ByteArray).extract 0 1)))
              have F2:=hid (grownBy_transK Hg5.out (setCell_grown w5 ⟨w.heap.size+1,0,none⟩ (.string (s5++(⟨#[105,106,107,108]⟩:ByteArray).extract 0 1))))
              have F3:=hid (show (s5++(⟨#[105,106,107,108]⟩:ByteArray).extract 0 1).size≤100 *(0+1)by rw[ByteArray.size_append,show ((⟨#[105,106,107,108]⟩:ByteArray).extract 0 1).size=1 from by decide];omega)
              go_region_with (fail)
              all_goals
                go_wp2_with fail
                exact⟨⟨0+1,by omega,rfl,by rw[Ht.out];exact⟨F1.out.c0,F1.out.f0,F1.out.lt⟩,by rw[Ht.out];exact F3.out,⟨F2.out.os,F2.out.tape,F2.out.output,F2.out.size,F2.out.block⟩⟩,by simp[intOf]⟩
            · have F1:=hid (HB5.out.set (.string (s5++(⟨#[105,106,107,108]⟩:ByteArray).extract 1 2)))
              have F2:=hid (grownBy_transK Hg5.out (setCell_grown w5 ⟨w.heap.size+1,0,none⟩ (.string (s5++(⟨#[105,106,107,108]⟩:ByteArray).extract 1 2))))
              have F3:=hid (show (s5++(⟨#[105,106,107,108]⟩:ByteArray).extract 1 2).size≤100 *(1+1)by rw[ByteArray.size_append,show ((⟨#[105,106,107,108]⟩:ByteArray).extract 1 2).size=1 from by decide];omega)
              go_region_with (fail)
              all_goals
                go_wp2_with fail
                exact⟨⟨1+1,by omega,rfl,by rw[Ht.out];exact⟨F1.out.c0,F1.out.f0,F1.out.lt⟩,by rw[Ht.out];exact F3.out,⟨F2.out.os,F2.out.tape,F2.out.output,F2.out.size,F2.out.block⟩⟩,by simp[intOf]⟩
            · have F1:=hid (HB5.out.set (.string (s5++(⟨#[105,106,107,108]⟩:ByteArray).extract 2 3)))
              have F2:=hid (grownBy_transK Hg5.out (setCell_grown w5 ⟨w.heap.size+1,0,none⟩ (.string (s5++(⟨#[105,106,107,108]⟩:ByteArray).extract 2 3))))
              have F3:=hid (show (s5++(⟨#[105,106,107,108]⟩:ByteArray).extract 2 3).size≤100 *(2+1)by rw[ByteArray.size_append,show ((⟨#[105,106,107,108]⟩:ByteArray).extract 2 3).size=1 from by decide];omega)
              go_region_with (fail)
              all_goals
                go_wp2_with fail
                exact⟨⟨2+1,by omega,rfl,by rw[Ht.out];exact⟨F1.out.c0,F1.out.f0,F1.out.lt⟩,by rw[Ht.out];exact F3.out,⟨F2.out.os,F2.out.tape,F2.out.output,F2.out.size,F2.out.block⟩⟩,by simp[intOf]⟩
            · have F1:=hid (HB5.out.set (.string (s5++(⟨#[105,106,107,108]⟩:ByteArray).extract 3 4)))
              have F2:=hid (grownBy_transK Hg5.out (setCell_grown w5 ⟨w.heap.size+1,0,none⟩ (.string (s5++(⟨#[105,106,107,108]⟩:ByteArray).extract 3 4))))
              have F3:=hid (show (s5++(⟨#[105,106,107,108]⟩:ByteArray).extract 3 4).size≤100 *(3+1)by rw[ByteArray.size_append,show ((⟨#[105,106,107,108]⟩:ByteArray).extract 3 4).size=1 from by decide];omega)
              go_region_with (fail)
              all_goals
                go_wp2_with fail
                exact⟨⟨3+1,by omega,rfl,by rw[Ht.out];exact⟨F1.out.c0,F1.out.f0,F1.out.lt⟩,by rw[Ht.out];exact F3.out,⟨F2.out.os,F2.out.tape,F2.out.output,F2.out.size,F2.out.block⟩⟩,by simp[intOf]⟩
        · have hd1:decide ((1:Int)<(m:Int))=false:=decide_eq_false (by omega)
          have Ht:=hid (show preA co (j+1)=s3++(⟨#[105,106,107,108]⟩:ByteArray).extract j (j+1)by rw[Hts,if_neg hm1])
          clear Hts
          go_wp2_with fail
          rcases (show j=0∨j=1∨j=2∨j=3 by omega)with rfl|rfl|rfl|rfl
          · have F1:=hid (HB3.out.set (.string (s3++(⟨#[105,106,107,108]⟩:ByteArray).extract 0 1)))
            have F2:=hid (grownBy_transK Hg3.out (setCell_grown w3 ⟨w.heap.size+1,0,none⟩ (.string (s3++(⟨#[105,106,107,108]⟩:ByteArray).extract 0 1))))
            have F3:=hid (show (s3++(⟨#[105,106,107,108]⟩:ByteArray).extract 0 1).size≤100 *(0+1)by rw[ByteArray.size_append,show ((⟨#[105,106,107,108]⟩:ByteArray).extract 0 1).size=1 from by decide];omega)
            go_region_with (fail)
            all_goals
              go_wp2_with fail
              exact⟨⟨0+1,by omega,rfl,by rw[Ht.out];exact⟨F1.out.c0,F1.out.f0,F1.out.lt⟩,by rw[Ht.out];exact F3.out,⟨F2.out.os,F2.out.tape,F2.out.output,F2.out.size,F2.out.block⟩⟩,by simp[intOf]⟩
          · have F1:=hid (HB3.out.set (.string (s3++(⟨#[105,106,107,108]⟩:ByteArray).extract 1 2)))
            have F2:=hid (grownBy_transK Hg3.out (setCell_grown w3 ⟨w.heap.size+1,0,none⟩ (.string (s3++(⟨#[105,106,107,108]⟩:ByteArray).extract 1 2))))
            have F3:=hid (show (s3++(⟨#[105,106,107,108]⟩:ByteArray).extract 1 2).size≤100 *(1+1)by rw[ByteArray.size_append,show ((⟨#[105,106,107,108]⟩:ByteArray).extract 1 2).size=1 from by decide];omega)
            go_region_with (fail)
            all_goals
              go_wp2_with fail
              exact⟨⟨1+1,by omega,rfl,by rw[Ht.out];exact⟨F1.out.c0,F1.out.f0,F1.out.lt⟩,by rw[Ht.out];exact F3.out,⟨F2.out.os,F2.out.tape,F2.out.output,F2.out.size,F2.out.block⟩⟩,by simp[intOf]⟩
          · have F1:=hid (HB3.out.set (.string (s3++(⟨#[105,106,107,108]⟩:ByteArray).extract 2 3)))
            have F2:=hid (grownBy_transK Hg3.out (setCell_grown w3 ⟨w.heap.size+1,0,none⟩ (.string (s3++(⟨#[105,106,107,108]⟩:ByteArray).extract 2 3))))
            have F3:=hid (show (s3++(⟨#[105,106,107,108]⟩:ByteArray).extract 2 3).size≤100 *(2+1)by rw[ByteArray.size_append,show ((⟨#[105,106,107,108]⟩:ByteArray).extract 2 3).size=1 from by decide];omega)
            go_region_with (fail)
            all_goals
              go_wp2_with fail
              exact⟨⟨2+1,by omega,rfl,by rw[Ht.out];exact⟨F1.out.c0,F1.out.f0,F1.out.lt⟩,by rw[Ht.out];exact F3.out,⟨F2.out.os,F2.out.tape,F2.out.output,F2.out.size,F2.out.block⟩⟩,by simp[intOf]⟩
          · have F1:=hid (HB3.out.set (.string (s3++(⟨#[105,106,107,108]⟩:ByteArray).extract 3 4)))
            have F2:=hid (grownBy_transK Hg3.out (setCell_grown w3 ⟨w.heap.size+1,0,none⟩ (.string (s3++(⟨#[105,106,107,108]⟩:ByteArray).extract 3 4))))
            have F3:=hid (show (s3++(⟨#[105,106,107,108]⟩:ByteArray).extract 3 4).size≤100 *(3+1)by rw[ByteArray.size_append,show ((⟨#[105,106,107,108]⟩:ByteArray).extract 3 4).size=1 from by decide];omega)
            go_region_with (fail)
            all_goals
              go_wp2_with fail
              exact⟨⟨3+1,by omega,rfl,by rw[Ht.out];exact⟨F1.out.c0,F1.out.f0,F1.out.lt⟩,by rw[Ht.out];exact F3.out,⟨F2.out.os,F2.out.tape,F2.out.output,F2.out.size,F2.out.block⟩⟩,by simp[intOf]⟩
    · have hje:j=4:=by omega
      subst hje
      obtain⟨r0,r1,r2,r3,r4⟩:=HB0.out.grown hg (fun e=>by have:=Option.some.inj e;omega)
      have Hx:=hid (show rawA (co,k)=if k=0 then preA co 4 else sgnA (preA co 4) k++decA k from rfl)
      have Htx:=hid (show txtA (co,k)=if (rawA (co,k)).toList.isEmpty then⟨#[48]⟩else rawA (co,k)from rfl)
      generalize preA co 4=s at hB hsz Hx
      have c3:=hB.c0;have f3:=hB.f0;have l3:=hB.lt
      have Hbb:=hid (Hb.out.grown hg Hb.out.size (fun q hq=>by cases hq;omega))
      have HB:=hid hB
      clear hB hg
      by_cases hk0:k=0
      · have hd:(k != 0)=false:=by simpa using hk0
        have hr:=hid (show rawA (co,k)=s by rw[Hx.out,if_pos hk0])
        clear hk0
        cases he:s.toList.isEmpty
        · have Ht:=hid (show txtA (co,k)=s by rw[Htx.out,hr.out,he];rfl)
          go_wp2_with fail
          go_ret
          exact⟨by rw[Ht.out];rfl,Hbb.out⟩
        · have Ht:=hid (show txtA (co,k)=⟨#[48]⟩by rw[Htx.out,hr.out,he];rfl)
          go_wp2_with fail
          go_ret
          exact⟨by rw[Ht.out];rfl,Hbb.out⟩
      · have hd:(k != 0)=true:=by simpa using hk0
        have hr:=(show rawA (co,k)=sgnA s k++decA k by rw[Hx.out,if_neg hk0])
        go_wp2_with fail
        refine(sign_any k (w.heap.size+1) s wr HB.out (by omega)).mono ?_
        rintro e w3 ⟨⟨v3,rfl⟩,B3,g3⟩
        have hs3:=sgnA_size s k
        have hds:=decA_size (n:=k) (by omega)
        have hdm0:decA k=⟨(Lib.decDigits k.natAbs).toArray⟩:=rfl
        obtain⟨q0,q1,q2,q3,q4⟩:=(show Box2 wr w.heap.size (.slice a 4 c) (.int .i64 k)from⟨r0,r1,r2,r3,r4⟩).grown g3 (fun e=>by have:=Option.some.inj e;omega)
        have Hb3:=hid (Hbb.out.grown g3 Hbb.out.size (fun q hq=>by cases hq;omega))
        generalize sgnA s k=s3 at B3 hr hs3
        have hs3':s3.size≤500:=by omega
        have hmax:max k (-k)=(k.natAbs:Int):=by omega
        have hm9:k.natAbs≤99:=by omega
        have hm0:k.natAbs≠0:=by omega
        rw[hdm0]at hr hds
        generalize k.natAbs=m at hmax hm9 hr hds hm0
        have Hne:=hid (show (Lib.decDigits m).length≠0 by
          by_cases h1:m<10
          ·rw[Lib.decDigits_one h1];simp
          ·rw[Lib.decDigits_two h1 (by omega)];simp)
        have Hne2:=hid (show (s3++(⟨(Lib.decDigits m).toArray⟩:ByteArray)).toList.isEmpty=false by
          rw[ByteArray.toList_eq,ByteArray.data_append,Array.toList_append]
          have:=Hne.out
          cases hl:Lib.decDigits m with
          |nil=>rw[hl]at this;exact absurd rfl this
          |cons z zs=>simp)
        generalize hdd:(⟨(Lib.decDigits m).toArray⟩:ByteArray)=dd at hr hds Hne2
        have Hdd:=hid hdd
        have c4:=B3.c0;have f4:=B3.f0;have l4:=B3.lt
        have Ht:=hid (show txtA (co,k)=s3++dd by rw[Htx.out,hr,Hne2.out];rfl)
        have hne2:=Hne2.out
        clear hr hdd hdm0 g3 B3 hk0 c3 f3 l3 r0 r1 r2 r3 r4 q0 q2 q3
        have kneg:IntKind.i64.wrap (-k)= -k:=IntWalk.i64_in _ (by omega)
        have F:=hid (Hb3.out.setCell (p:=⟨w.heap.size+1,0,none⟩) (by show _≤w.heap.size+1;omega) (.string (s3++dd)))
        go_wp2_with fail
        go_region_with (go_at_call 59;refine(Tryz.strconv_Itoa_small m (by omega) _).mono ?_;rintro e w' ⟨rfl,rfl⟩;rw[Hdd.out])
        all_goals
          go_wp2_with fail
          go_ret
          exact⟨by rw[Ht.out];rfl,⟨F.out.os,F.out.tape,F.out.output,F.out.size,F.out.block⟩⟩
def dec1 (m:Nat):List UInt8:=if m<10 then [UInt8.ofNat (48+m)]else [UInt8.ofNat (48+m / 10),UInt8.ofNat (48+m % 10)]
theorem dec1_eq {m:Nat} (h:m<100):Lib.decDigits m=dec1 m:=by
  unfold dec1
  split
  ·rename_i h1;exact Lib.decDigits_one h1
  ·rename_i h1;exact Lib.decDigits_two h1 h
def sg (b:Bool) (n:Int):List UInt8:=if n<0 then [45]else if b then []else [43]
def seg (b:Bool) (c:Int):List UInt8:=sg b c++(if 1<c.natAbs then dec1 c.natAbs++[42]else [])
def kst (b:Bool) (k:Int):List UInt8:=sg b k++dec1 k.natAbs
def G:List (UInt8×Int)→Int→Bool→List UInt8
  |[],k,b=>if k=0 then []else kst b k
  |(nm,c)::l,k,b=>if c=0 then G l k b else seg b c++nm::G l k false
def alpha:List UInt8:=[42,43,45,48,49,50,51,52,53,54,55,56,57]
def num (l:List UInt8):Int:=l.foldl (fun a d=>a *10+((d.toNat:Int) -48)) 0
def kval:List UInt8→Int
  |45::r=> -(num r)
  |43::r=>num r
  |r=>num r
theorem seg_fin:∀(b:Bool) (i j:Fin 19),i.val≠9→j.val≠9→seg b ((i.val:Int) -9)=seg b ((j.val:Int) -9)→i=j:=by decide +kernel
theorem segA_fin:∀(b:Bool) (i:Fin 19),(seg b ((i.val:Int) -9)).all (fun z=>alpha.contains z)=true:=by decide +kernel
theorem kst_fin:∀(b:Bool) (i:Fin 199),kval (kst b ((i.val:Int) -99))=(i.val:Int) -99:=by decide +kernel
theorem kstA_fin:∀(b:Bool) (i:Fin 199),(kst b ((i.val:Int) -99)).all (fun z=>alpha.contains z)=true:=by decide +kernel
theorem seg_inj {b:Bool} {c d:Int} (hc: -9≤c∧c≤9) (hd: -9≤d∧d≤9) (c0:c≠0) (d0:d≠0) (h:seg b c=seg b d):c=d:=by
  have e1:c=(((⟨(c+9).toNat,by omega⟩:Fin 19).val:Nat):Int) -9:=by show c=((c+9).toNat:Int) -9;omega
  have e2:d=(((⟨(d+9).toNat,by omega⟩:Fin 19).val:Nat):Int) -9:=by show d=((d+9).toNat:Int) -9;omega
  rw[e1,e2]at h
  have:=seg_fin b _ _ (by show (c+9).toNat≠9;omega) (by show (d+9).toNat≠9;omega) h
  have h5:(c+9).toNat=(d+9).toNat:=congrArg Fin.val this
  omega
theorem seg_alpha {b:Bool} {c:Int} (hc: -9≤c∧c≤9) {z:UInt8} (hz:z∈seg b c):z∈alpha:=by
  have e1:c=(((⟨(c+9).toNat,by omega⟩:Fin 19).val:Nat):Int) -9:=by show c=((c+9).toNat:Int) -9;omega
  have:=segA_fin b ⟨(c+9).toNat,by omega⟩
  rw[←e1,List.all_eq_true]at this
  simpa using this z hz
theorem kst_val {b:Bool} {k:Int} (hk: -99≤k∧k≤99):kval (kst b k)=k:=by
  have e1:k=(((⟨(k+99).toNat,by omega⟩:Fin 199).val:Nat):Int) -99:=by show k=((k+99).toNat:Int) -99;omega
  have:=kst_fin b ⟨(k+99).toNat,by omega⟩
  rw[←e1]at this
  exact this
theorem kst_alpha {b:Bool} {k:Int} (hk: -99≤k∧k≤99) {z:UInt8} (hz:z∈kst b k):z∈alpha:=by
  have e1:k=(((⟨(k+99).toNat,by omega⟩:Fin 199).val:Nat):Int) -99:=by show k=((k+99).toNat:Int) -99;omega
  have:=kstA_fin b ⟨(k+99).toNat,by omega⟩
  rw[←e1,List.all_eq_true]at this
  simpa using this z hz
theorem kst_ne (b:Bool) (k:Int):kst b k≠[]:=by
  unfold kst dec1
  split<;>simp
theorem mem_G {z:UInt8}:∀(l:List (UInt8×Int)) (k:Int) (b:Bool),(∀p∈l, -9≤p.2∧p.2≤9)→(-99≤k∧k≤99)→z∈G l k b→z∈alpha∨z∈l.map Prod.fst
  |[],k,b,_,hk,h=>by
    rw[G]at h
    split at h
    ·simp at h
    ·exact .inl (kst_alpha hk h)
  |(nm,c)::l,k,b,hl,hk,h=>by
    have hl':=fun p hp=>hl p (List.mem_cons_of_mem _ hp)
    rw[G]at h
    split at h
    · rcases mem_G l k b hl' hk h with h1|h1
      ·exact .inl h1
      ·exact .inr (List.mem_cons_of_mem _ h1)
    · rw[List.mem_append,List.mem_cons]at h
      rcases h with h1|h1|h1
      ·exact .inl (seg_alpha (hl _ (List.mem_cons_self ..)) h1)
      ·exact .inr (by rw[h1];exact List.mem_cons_self ..)
      · rcases mem_G l k false hl' hk h1 with h2|h2
        ·exact .inl h2
        ·exact .inr (List.mem_cons_of_mem _ h2)
theorem cut_eq {nm:UInt8}:∀ {p q r s:List UInt8},nm∉p→nm∉q→p++nm::r=q++nm::s→p=q∧r=s
  |[],[],r,s,_,_,h=>by simp at h;exact⟨rfl,h⟩
  |[],y::q,r,s,_,hq,h=>by simp at h;exact absurd (List.mem_cons.2 (.inl h.1)) hq
  |x::p,[],r,s,hp,_,h=>by simp at h;exact absurd (List.mem_cons.2 (.inl h.1.symm)) hp
  |x::p,y::q,r,s,hp,hq,h=>by
    simp at h
    obtain⟨h1,h2⟩:=cut_eq (fun hm=>hp (List.mem_cons_of_mem _ hm)) (fun hm=>hq (List.mem_cons_of_mem _ hm)) h.2
    exact⟨by rw[h.1,h1],h2⟩
theorem G_inj:∀(nms:List UInt8) (cs ds:List Int) (k k':Int) (b:Bool),cs.length=nms.length→ds.length=nms.length→nms.Nodup→(∀n∈nms,n∉alpha)→(∀c∈cs, -9≤c∧c≤9)→(∀c∈ds, -9≤c∧c≤9)→
    (-99≤k∧k≤99)→(-99≤k'∧k'≤99)→G (nms.zip cs) k b=G (nms.zip ds) k' b→cs=ds∧k=k'
  |[],cs,ds,k,k',b,h1,h2,_,_,_,_,hk,hk',h=>by
    have e1:cs=[]:=List.eq_nil_of_length_eq_zero (by simpa using h1)
    have e2:ds=[]:=List.eq_nil_of_length_eq_zero (by simpa using h2)
    subst e1 e2
    simp only[List.zip_nil_left,G]at h
    refine⟨rfl,?_⟩
    split at h<;>split at h
    ·omega
    ·exact absurd h.symm (kst_ne _ _)
    ·exact absurd h (kst_ne _ _)
    ·rw[←kst_val (b:=b) hk,h,kst_val hk']
  |nm::nms,cs,ds,k,k',b,h1,h2,hn,ha,hc,hd,hk,hk',h=>by
    match cs,ds,h1,h2,hc,hd,h with
    |c::cs,d::ds,h1,h2,hc,hd,h=>
      have hcs:=fun x hx=>hc x (List.mem_cons_of_mem _ hx)
      have hds:=fun x hx=>hd x (List.mem_cons_of_mem _ hx)
      have hc0:=hc c (List.mem_cons_self ..)
      have hd0:=hd d (List.mem_cons_self ..)
      have l1:cs.length=nms.length:=by simpa using h1
      have l2:ds.length=nms.length:=by simpa using h2
      have hn':=List.nodup_cons.1 hn
      have ha':=fun x hx=>ha x (List.mem_cons_of_mem _ hx)
      have hnm:=ha nm (List.mem_cons_self ..)
      have zc:∀p∈nms.zip cs, -9≤p.2∧p.2≤9:=fun p hp=>hcs _ (List.of_mem_zip hp).2
      have zd:∀p∈nms.zip ds, -9≤p.2∧p.2≤9:=fun p hp=>hds _ (List.of_mem_zip hp).2
      have no:∀(es:List Int) (kk:Int) (bb:Bool),es.length=nms.length→(∀p∈nms.zip es, -9≤p.2∧p.2≤9)→(-99≤kk∧kk≤99)→nm∉G (nms.zip es) kk bb:=fun es kk bb le hz hkk hm=>by
        rcases mem_G _ kk bb hz hkk hm with h5|h5
        ·exact hnm h5
        ·rw[List.map_fst_zip (by omega)]at h5;exact hn'.1 h5
      simp only[List.zip_cons_cons,G]at h
      by_cases c0:c=0<;>by_cases d0:d=0
      · rw[if_pos c0,if_pos d0]at h
        obtain⟨e1,e2⟩:=G_inj nms cs ds k k' b l1 l2 hn'.2 ha' hcs hds hk hk' h
        exact⟨by rw[c0,d0,e1],e2⟩
      · rw[if_pos c0,if_neg d0]at h
        exact absurd (by rw[h];simp) (no cs k b l1 zc hk)
      · rw[if_neg c0,if_pos d0]at h
        exact absurd (by rw[←h];simp) (no ds k' b l2 zd hk')
      · rw[if_neg c0,if_neg d0]at h
        obtain⟨e1,e2⟩:=cut_eq (fun hm=>hnm (seg_alpha hc0 hm)) (fun hm=>hnm (seg_alpha hd0 hm)) h
        obtain⟨e3,e4⟩:=G_inj nms cs ds k k' false l1 l2 hn'.2 ha' hcs hds hk hk' e2
        exact⟨by rw[seg_inj hc0 hd0 c0 d0 e1,e3],e4⟩
theorem G_ne48:∀(l:List (UInt8×Int)) (k:Int) (b:Bool),(∀p∈l,p.1∉alpha)→(-99≤k∧k≤99)→G l k b≠[48]
  |[],k,b,_,hk,h=>by
    rw[G]at h
    split at h
    ·simp at h
    · rename_i h0
      have:=kst_val (b:=b) hk
      rw[h]at this
      exact h0 (by rw[←this];decide)
  |(nm,c)::l,k,b,hl,hk,h=>by
    rw[G]at h
    split at h
    ·exact G_ne48 l k b (fun p hp=>hl p (List.mem_cons_of_mem _ hp)) hk h
    · have:nm∈([48]:List UInt8):=by rw[←h];simp
      have e:nm=48:=by simpa using this
      exact hl _ (List.mem_cons_self ..) (by show nm∈alpha;rw[e];decide)
theorem L_sgn (s:ByteArray) (n:Int):(sgnA s n).data.toList=s.data.toList++sg s.data.toList.isEmpty n:=by
  unfold sgnA sg
  rw[ByteArray.toList_eq]
  split
  ·rw[ByteArray.data_append,Array.toList_append]
  · split
    ·simp
    ·rw[ByteArray.data_append,Array.toList_append]
theorem L_dec {n:Int} (h:n.natAbs<100):(decA n).data.toList=dec1 n.natAbs:=by
  rw[decA,dec1_eq h]
theorem L_term {s:ByteArray} {c:Int} {j:Nat} {nm:UInt8} (hj:((⟨#[105,106,107,108]⟩:ByteArray).extract j (j+1)).data.toList=[nm]) (hc: -9≤c∧c≤9) (c0:c≠0):
    (termA s c j).data.toList=s.data.toList++(seg s.data.toList.isEmpty c++[nm]):=by
  rw[termA,if_neg c0,ByteArray.data_append,Array.toList_append,hj,seg]
  split
  · rename_i h1
    rw[ByteArray.data_append,Array.toList_append,ByteArray.data_append,Array.toList_append,L_sgn,L_dec (by omega)]
    simp
  ·rw[L_sgn];simp
theorem G_step {s:ByteArray} {c:Int} {j:Nat} {nm:UInt8} (hj:((⟨#[105,106,107,108]⟩:ByteArray).extract j (j+1)).data.toList=[nm]) (hc: -9≤c∧c≤9) (l:List (UInt8×Int)) (k:Int):
    s.data.toList++G ((nm,c)::l) k s.data.toList.isEmpty=(termA s c j).data.toList++G l k (termA s c j).data.toList.isEmpty:=by
  by_cases c0:c=0
  ·rw[G,if_pos c0,termA,if_pos c0]
  · rw[G,if_neg c0,L_term hj hc c0]
    have:(s.data.toList++(seg s.data.toList.isEmpty c++[nm])).isEmpty=false:=by simp
    rw[this]
    simp
theorem raw_G {x:Aff} (h:affV x=true):(rawA x).data.toList=G (([105,106,107,108]:List UInt8).zip x.1) x.2 true:=by
  have hl:=list4 (affV_len h)
  have hc:=affV_getD h
  have hk:=affV_const h
  have e:G (([105,106,107,108]:List UInt8).zip x.1) x.2 true=(⟨#[]⟩:ByteArray).data.toList++G [(105,x.1.getD 0 0),(106,x.1.getD 1 0),(107,x.1.getD 2 0),(108,x.1.getD 3 0)] x.2 (⟨#[]⟩:ByteArray).data.toList.isEmpty:=by
    conv=>lhs;rw[hl]
    rfl
  rw[e,G_step (j:=0) (by decide) (hc 0),G_step (j:=1) (by decide) (hc 1),G_step (j:=2) (by decide) (hc 2),G_step (j:=3) (by decide) (hc 3)]
  show (rawA x).data.toList=(preA x.1 4).data.toList++G [] x.2 (preA x.1 4).data.toList.isEmpty
  rw[rawA,G]
  split
  ·simp
  ·rw[ByteArray.data_append,Array.toList_append,L_sgn,L_dec (by omega),kst];simp
theorem nms_alpha:∀n∈([105,106,107,108]:List UInt8),n∉alpha:=by decide
theorem txt_inj {x y:Aff} (hx:affV x=true) (hy:affV y=true) (h:txtA x=txtA y):x=y:=by
  have gx:=raw_G hx
  have gy:=raw_G hy
  have key:(rawA x).data.toList=(rawA y).data.toList→x=y:=by
    intro e
    rw[gx,gy]at e
    obtain⟨e1,e2⟩:=G_inj _ x.1 y.1 x.2 y.2 true (by rw[affV_len hx];rfl) (by rw[affV_len hy];rfl) (by decide) nms_alpha (affV_coef hx) (affV_coef hy) (affV_const hx) (affV_const hy) e
    exact Prod.ext e1 e2
  have n48:∀z:Aff,affV z=true→rawA z≠⟨#[48]⟩:=by
    intro z hz e
    have gz:=raw_G hz
    rw[e]at gz
    exact G_ne48 _ _ _ (fun p hp=>nms_alpha _ (List.of_mem_zip hp).1) (affV_const hz) gz.symm
  unfold txtA at h
  rw[ByteArray.toList_eq,ByteArray.toList_eq]at h
  split at h<;>split at h
  · rename_i h1 h2
    exact key (by rw[List.isEmpty_iff.1 h1,List.isEmpty_iff.1 h2])
  ·exact absurd h.symm (n48 y hy)
  ·exact absurd h (n48 x hx)
  ·exact key (by rw[h])
section
variable {P : Program} {n : Nat} {ops : Array Oper} {o : Oper} {σ : St} {d : Nat} {t t2 : TypeId} {x y : Operand} {a b : ByteArray}
def sEq (a b:ByteArray):Bool:=a.toList==b.toList
def sLt (a b:ByteArray):Bool:=Op.bytesLess a.toList b.toList
theorem St1.eqS (h4:(o.op,o.guard,o.dst,Nat.blt d n)=(Op.binOp .eql t x y t2,none,some d,true)) (hx:ev σ x=some (.o (st1 a))) (hy:ev σ y=some (.o (st1 b))):
    St1 P n ops o σ (rd x++rd y) [.t d] ((.t d,.v (.o (bo1 (sEq a b))))::σ):=by
  simp only[Prod.mk.injEq]at h4
  exact St1.bin h4.1 h4.2.1 h4.2.2.1 h4.2.2.2 hx hy (fun w=>by simp[eqGuard,binOp,Op.stringOp,sEq]) rfl
theorem St1.geS (h4:(o.op,o.guard,o.dst,Nat.blt d n)=(Op.binOp .geq t x y t2,none,some d,true)) (hx:ev σ x=some (.o (st1 a))) (hy:ev σ y=some (.o (st1 b))):
    St1 P n ops o σ (rd x++rd y) [.t d] ((.t d,.v (.o (bo1 (!sLt a b))))::σ):=by
  simp only[Prod.mk.injEq]at h4
  exact St1.bin h4.1 h4.2.1 h4.2.2.1 h4.2.2.2 hx hy (fun w=>by simp[eqGuard,binOp,Op.stringOp,sLt]) rfl
theorem St1.leS (h4:(o.op,o.guard,o.dst,Nat.blt d n)=(Op.binOp .leq t x y t2,none,some d,true)) (hx:ev σ x=some (.o (st1 a))) (hy:ev σ y=some (.o (st1 b))):
    St1 P n ops o σ (rd x++rd y) [.t d] ((.t d,.v (.o (bo1 (sLt a b||sEq a b))))::σ):=by
  simp only[Prod.mk.injEq]at h4
  exact St1.bin h4.1 h4.2.1 h4.2.2.1 h4.2.2.2 hx hy (fun w=>by simp[eqGuard,binOp,Op.stringOp,sEq,sLt]) rfl
end
theorem sEq_iff {a b:ByteArray}:sEq a b=true↔a=b:=Lib.bytes_beq_iff a b
/-! ### Statements -/
def dS (s:ByteArray):D:=.val (.string s)
abbrev Acc:=ByteArray×List Aff
def rC (a:Acc):List D:=[dS a.1,dAs a.2]
inductive Ex where
  |mk (k n:Int) (i:Aff) (r:Acc) (ks:List Ex)
namespace Ex
def k:Ex→Int| .mk k _ _ _ _=>k
def n:Ex→Int| .mk _ n _ _ _=>n
def i:Ex→Aff| .mk _ _ i _ _=>i
def r:Ex→Acc| .mk _ _ _ r _=>r
def ks:Ex→List Ex| .mk _ _ _ _ ks=>ks
end Ex
mutual
def rE:Ex→List D
  | .mk k n i r ks=>[dI k,dI n,dIs i.1,dI i.2,dS r.1,dAs r.2,.list 7 (rEs ks)]
def rEs:List Ex→List (List D)
  |[]=>[]
  |e::l=>rE e::rEs l
end
theorem rEs_map:∀l:List Ex,rEs l=l.map rE
  |[]=>rfl
  |e::l=>by rw[rEs,rEs_map l];rfl
def dEs (l:List Ex):D:=.list 7 (l.map rE)
def rX (e:Ex):List D:=[dI e.k,dI e.n,dIs e.i.1,dI e.i.2,dS e.r.1,dAs e.r.2,dEs e.ks]
theorem rE_eq (e:Ex):rE e=rX e:=by
  cases e with
  |mk k n i r ks=>rw[rE,rEs_map];rfl
theorem rE_at {l:List Ex} {j:Nat} {e:Ex} (h:l[j]?=some e):(l.map rE)[j]?=some (rX e):=by rw[←rE_eq];exact map_at h
theorem rE_one (e:Ex):[e].map rE=[rX e]:=by rw[List.map_singleton,rE_eq]
abbrev Stm:=Acc×Ex
def rS (s:Stm):List D:=[dS s.1.1,dAs s.1.2,dI s.2.k,dI s.2.n,dIs s.2.i.1,dI s.2.i.2,dS s.2.r.1,dAs s.2.r.2,dEs s.2.ks]
theorem Ex.rec' {p:Ex→Prop} (h:∀e:Ex,(∀x∈e.ks,p x)→p e):∀e,p e
  | .mk k n i r ks=>h (.mk k n i r ks) fun x (_:x∈ks)=>Ex.rec' h x
def arrB (b:UInt8):Bool:=decide (65≤b.toNat∧b.toNat≤68)
def arrV (s:ByteArray):Bool:=match s.data.toList with
  |[b]=>arrB b
  |_=>false
set_option maxHeartbeats 1000000 in
theorem indexByte_any (s:ByteArray) (c:Int) (w:World):Calls Tryz.prog 108 #[.string s,.int .u8 c] w fun e w'=>e= .returned (.int .i64 (Lib.indexByte s.data.toList c.toNat.toUInt8))∧w=w':=by
  go_enter Tryz.func108,Tryz.ntmps108
  go_wp2
  rw[run_callFunc_extern Tryz.func114 (by kernel_rfl) (by kernel_rfl) (by kernel_rfl) (e:=Extern.BytealgIndexByte.indexByte) (by kernel_rfl),Lib.run_indexByteString]
  simp only[Result.andThen]
  rw[Oper.upon_value]
  go_wp2
  go_ret
  exact⟨rfl,rfl⟩
theorem idx_arr (b:UInt8):decide (0≤Lib.indexByte [65,66,67,68] b)=arrB b:=by
  have h:∀n:Fin 256,decide (0≤Lib.indexByte [65,66,67,68] (UInt8.ofNat n.val))=arrB (UInt8.ofNat n.val):=by decide +kernel
  have:=h ⟨b.toNat,b.toNat_lt⟩
  simpa using this
def sABCD:ByteArray:=⟨#[65,66,67,68]⟩
set_option maxHeartbeats 1000000 in
theorem index1_any (s:ByteArray) (b:UInt8) (hs:s.data.toList=[b]) (w:World):Calls Tryz.prog 100 #[.string sABCD,.string s] w fun e w'=>e= .returned (.int .i64 (Lib.indexByte [65,66,67,68] b))∧w=w':=by
  have h1:s.size=1:=by rw[Lib.size_eq,hs];rfl
  have hne:(s.toList==sABCD.toList)=false:=by
    rw[Lib.bytes_beq_false_iff]
    intro e
    rw[e]at h1
    exact absurd h1 (by decide)
  go_enter Tryz.func100,Tryz.ntmps100
  go_wp2_with fail
  refine(indexByte_any _ _ _).mono ?_
  rintro e w' ⟨rfl,rfl⟩
  go_wp2
  go_ret
  have h0:s[0]'(by omega)=b:=by
    have e1:s[0]'(by omega)=s.data.toList[0]'(by rw[hs];simp):=rfl
    rw[e1];simp[hs]
  refine⟨?_,rfl⟩
  rw[h0]
  simp[sABCD]
set_option maxHeartbeats 1000000 in
theorem contains1_any (s:ByteArray) (h1:s.size=1) (w:World):Calls Tryz.prog 83 #[.string sABCD,.string s] w fun e w'=>e= .returned (.bool (arrV s))∧w=w':=by
  have hsz:s.size=s.data.toList.length:=Lib.size_eq s
  obtain⟨b,hb⟩:∃b,s.data.toList=[b]:=List.length_eq_one_iff.1 (by omega)
  have hv:arrV s=decide (0≤Lib.indexByte [65,66,67,68] b):=by rw[idx_arr,arrV,hb]
  have hI:∀w,Calls Tryz.prog 92 #[.string sABCD,.string s] w fun e w'=>e= .returned (.int .i64 (Lib.indexByte [65,66,67,68] b))∧w=w':=by
    intro w
    go_enter Tryz.func92,Tryz.ntmps92
    go_wp2_with (go_at_call 100;refine(index1_any s b hb _).mono ?_;rintro e w' ⟨rfl,rfl⟩)
    go_ret
    exact⟨rfl,rfl⟩
  go_enter Tryz.func83,Tryz.ntmps83
  go_wp2_with (go_at_call 92;refine(hI _).mono ?_;rintro e w' ⟨rfl,rfl⟩)
  go_ret
  exact⟨ret_bool hv.symm,rfl⟩
theorem contains1_fn (s:ByteArray) (h:s.size=1):Fn Tryz.prog 83 [] [st1 sABCD,st1 s] (.o (bo1 (arrV s))) []:=
  Fn.pure fun B bx al w vs hv=>by
    obtain⟨u,v,rfl,h0,h1⟩:=vals2 hv
    have hu:u= .string sABCD:=by cases h0;rfl
    have hvv:v= .string s:=by cases h1;rfl
    subst hu hvv
    exact(contains1_any s h w).mono fun e w' ⟨h1,h2⟩=>⟨_,h1,by rw[←h2];exact Below.refl _ _,.val _ rfl⟩
theorem arrV_size {s:ByteArray} (h:¬s.size=1):arrV s=false:=by
  have hsz:s.size=s.data.toList.length:=Lib.size_eq s
  rw[arrV]
  split
  ·rename_i b hb;rw[hb]at hsz;simp at hsz;omega
  ·rfl
def szAs (l:List Aff):Nat:=l.length+(l.map fun a=>a.1.length).sum
theorem szAs_mem {l:List Aff} {a:Aff} (h:a∈l):l.length+a.1.length≤szAs l:=by
  rw[szAs]
  have:∀(l:List Nat) (n:Nat),n∈l→n≤l.sum:=by
    intro l
    induction l with
    |nil=>intro n h;cases h
    |cons m l ih=>
      intro n h
      rw[List.sum_cons]
      rcases List.mem_cons.1 h with rfl|h
      ·omega
      ·have:=ih n h;omega
  have:=this _ _ (List.mem_map_of_mem (f:=fun a:Aff=>a.1.length) h)
  omega
theorem szAs_len (l:List Aff):l.length≤szAs l:=Nat.le_add_right _ _
def szC (a:Acc):Nat:=a.1.size+szAs a.2
mutual
def szE:Ex→Nat
  | .mk _ _ i r ks=>i.1.length+szC r+ks.length+szEs ks
def szEs:List Ex→Nat
  |[]=>0
  |e::l=>szE e+szEs l
end
def szS (s:Stm):Nat:=szC s.1+szE s.2
theorem szEs_mem:∀ {l:List Ex} {e:Ex},e∈l→szE e≤szEs l
  |x::l,e,h=>by
    rw[szEs]
    rcases List.mem_cons.1 h with rfl|h
    ·omega
    ·have:=szEs_mem h;omega
/-! ### Validity -/
def accV (d:Nat) (a:Acc):Bool:=arrV a.1&&sideV d a.2
def nonA (x:Aff):Bool:=decide (x.1.length=0)&&decide (x.2=0)
def nonC (a:Acc):Bool:=sEq a.1 ByteArray.empty&&decide (a.2.length=0)
def fldV (d:Nat) (k n:Int) (i:Aff) (r:Acc):Bool:=
  if k=1 then inB n 0 99&&nonA i&&nonC r
  else if k=2 then decide (n=0)&&(affV i&&decide (affDepth i≤d))&&nonC r
  else if k=3 then decide (n=0)&&nonA i&&accV d r
  else decide (n=0)&&nonA i&&nonC r
def kidV (k:Int) (n:Nat):Bool:=if 1≤k∧k≤3 then decide (n=0)else if 4≤k∧k≤6 then decide (n=2)else false
def exV (d:Nat):Nat→Ex→Bool
  |0,_=>false
  |L+1,e=>kidV e.k e.ks.length&&fldV d e.k e.n e.i e.r&&e.ks.all (exV d L)
mutual
def cntE:Ex→Nat
  | .mk _ _ _ _ ks=>1+cntEs ks
def cntEs:List Ex→Nat
  |[]=>0
  |e::l=>cntE e+cntEs l
end
def stmtV (d:Int) (s:Stm):Bool:=inB d 0 4&&(accV d.toNat s.1&&exV d.toNat 5 s.2&&decide (cntE s.2≤12))
theorem cntE_eq (e:Ex):cntE e=1+cntEs e.ks:=by cases e;rw[cntE];rfl
def scanK (f:Nat→Ex→Bool×Nat):Nat→List Ex→Bool×Nat
  |c,[]=>(true,c)
  |c,x::l=>if (f c x).1=true then scanK f (f c x).2 l else(false,(f c x).2)
def scanV (d:Nat):Nat→Nat→Ex→Bool×Nat
  |0,c,_=>(false,c+1)
  |L+1,c,e=>if 12<c+1 then(false,c+1)else if (kidV e.k e.ks.length&&fldV d e.k e.n e.i e.r)=true then scanK (scanV d L) (c+1) e.ks else(false,c+1)
theorem kidV_len {k:Int} {n:Nat} (h:kidV k n=true):n=0∨n=2:=by
  unfold kidV at h
  split at h
  ·exact .inl (of_decide_eq_true h)
  · split at h
    ·exact .inr (of_decide_eq_true h)
    ·cases h
def ScanOk (f:Nat→Ex→Bool×Nat) (v:Ex→Bool):Prop:=
  ∀c e,((f c e).1=true↔v e=true∧c+cntE e≤12)∧((f c e).1=true→(f c e).2=c+cntE e)∧(f c e).2≤max 13 (c+1)∧c+1≤(f c e).2
theorem scanK_iff {f:Nat→Ex→Bool×Nat} {v:Ex→Bool} (h:ScanOk f v):∀(l:List Ex) (c:Nat),c≤12→((scanK f c l).1=true↔l.all v=true∧c+cntEs l≤12)∧((scanK f c l).1=true→(scanK f c l).2=c+cntEs l)∧(scanK f c l).2≤13∧c≤(scanK f c l).2
  |[],c,hc=>by
    rw[scanK,cntEs]
    exact⟨⟨fun _=>⟨rfl,by omega⟩,fun _=>rfl⟩,fun _=>rfl,by show c≤13;omega,Nat.le_refl _⟩
  |x::l,c,hc=>by
    obtain⟨a1,a2,a3,a4⟩:=h c x
    rw[scanK,cntEs,List.all_cons,Bool.and_eq_true]
    by_cases h1:(f c x).1=true
    · rw[if_pos h1]
      obtain⟨h2,h3⟩:=a1.1 h1
      have h4:=a2 h1
      obtain⟨b1,b2,b3,b4⟩:=scanK_iff h l (f c x).2 (by omega)
      rw[h4]at b1 b2 b3 b4 ⊢
      exact⟨b1.trans ⟨fun⟨p,q⟩=>⟨⟨h2,p⟩,by omega⟩,fun⟨p,q⟩=>⟨p.2,by omega⟩⟩,fun h=>(b2 h).trans (by omega),b3,by omega⟩
    · rw[if_neg h1]
      exact⟨⟨fun h=>(by cases h),fun⟨p,q⟩=>absurd (a1.2 ⟨p.1,by omega⟩) h1⟩,fun h=>(by cases h),by show (f c x).2≤13;omega,by show c≤(f c x).2;omega⟩
theorem scanV_iff (d:Nat):∀L:Nat,ScanOk (scanV d L) (exV d L)
  |0,c,e=>⟨⟨fun h=>(by cases h),fun h=>(by cases h.1)⟩,fun h=>(by cases h),by show c+1≤_;omega,Nat.le_refl _⟩
  |L+1,c,e=>by
    have hf:∀ {b:Prop},((false,c+1):Bool×Nat).1=true→b:=fun h=>by cases h
    rw[scanV,exV,cntE_eq]
    by_cases h1:12<c+1
    · rw[if_pos h1]
      exact⟨⟨hf,fun h=>by omega⟩,hf,by show c+1≤_;omega,Nat.le_refl _⟩
    · rw[if_neg h1]
      by_cases h2:(kidV e.k e.ks.length&&fldV d e.k e.n e.i e.r)=true
      · rw[if_pos h2]
        obtain⟨b1,b2,b3,b4⟩:=scanK_iff (scanV_iff d L) e.ks (c+1) (by omega)
        exact⟨b1.trans ⟨fun⟨p,q⟩=>⟨by rw[h2,p];rfl,by omega⟩,fun⟨p,q⟩=>⟨by rw[h2]at p;exact p,by omega⟩⟩,fun h=>(b2 h).trans (by omega),by omega,b4⟩
      · rw[if_neg h2]
        exact⟨⟨hf,fun h=>absurd (Bool.and_eq_true_iff.1 h.1).1 h2⟩,hf,by show c+1≤_;omega,Nat.le_refl _⟩
/-! ### Equality -/
mutual
def sameE:Ex→Ex→Bool
  | .mk k n i r ks,.mk k' n' i' r' ks'=>decide (k=k')&&decide (n=n')&&decide (i=i')&&decide (r.2=r'.2)&&sEq r.1 r'.1&&sameEs ks ks'
def sameEs:List Ex→List Ex→Bool
  |[],[]=>true
  |x::l,y::m=>sameE x y&&sameEs l m
  |_,_=>false
end
mutual
theorem sameE_iff:∀x y:Ex,sameE x y=true↔x=y
  | .mk k n i r ks,.mk k' n' i' r' ks'=>by
    rw[sameE]
    simp only[Bool.and_eq_true,decide_eq_true_eq,sEq_iff,sameEs_iff ks ks',Ex.mk.injEq,Prod.ext_iff (x:=r)]
    constructor
    ·rintro⟨⟨⟨⟨⟨h1,h2⟩,h3⟩,h4⟩,h5⟩,h6⟩;exact⟨h1,h2,h3,⟨h5,h4⟩,h6⟩
    ·rintro⟨h1,h2,h3,⟨h5,h4⟩,h6⟩;exact⟨⟨⟨⟨⟨h1,h2⟩,h3⟩,h4⟩,h5⟩,h6⟩
theorem sameEs_iff:∀l m:List Ex,sameEs l m=true↔l=m
  |[],[]=>by simp[sameEs]
  |[],_::_=>by simp[sameEs]
  |_::_,[]=>by simp[sameEs]
  |x::l,y::m=>by rw[sameEs,Bool.and_eq_true,sameE_iff x y,sameEs_iff l m,List.cons.injEq]
end
def sameC (a b:Acc):Bool:=sEq a.1 b.1&&decide (a.2=b.2)
theorem sameC_iff {a b:Acc}:sameC a b=true↔a=b:=by rw[sameC,Bool.and_eq_true,sEq_iff,decide_eq_true_eq,Prod.ext_iff]
def sameS (s t:Stm):Bool:=sameC s.1 t.1&&sameE s.2 t.2
theorem sameS_iff {s t:Stm}:sameS s t=true↔s=t:=by
  rw[sameS,Bool.and_eq_true,sameC_iff,sameE_iff]
  exact⟨fun⟨h1,h2⟩=>Prod.ext h1 h2,fun h=>⟨congrArg Prod.fst h,congrArg Prod.snd h⟩⟩
/-! ### Reads, replacements, depth -/
def hbI (c:Int):St:=[(.b 0,.b 3 1 (dR [rI c])),(.u 0,.u)]
theorem hbI_HB (c:Int):HB (hbI c):=HB.nil.data
theorem hbI_flat (c:Int):flatS (hbI c):=flatS.nil.cons rfl
theorem hbI_num (c d:Int):∀k,k<100→Al (lk (hbI d)) k→Al (lk (hbI c)) k:=fun k _ ⟨e,sz,rows,h⟩=>by
  by_cases hk:k=0
  ·subst hk;exact⟨_,_,_,rfl⟩
  ·rw[hbI,lk_other _ _ _ _ (by simpa using fun e=>hk e.symm),lk_other _ _ _ _ (by simp)]at h;cases h
theorem hbI_box {σ:St} {c:Int} (h:lk σ (.b 0)= .b 3 1 (dR [rI c])):∀k e sz rows,lk (hbI c) (.b k)= .b e sz rows→lk σ (.b k)= .b e sz rows:=one_box h
theorem acc_len {d:Nat} {xs:List Aff} (h:inB (xs.length:Nat) 1 2=false):false=sideV d xs:=by
  rw[Bool.eq_iff_iff]
  simp only[inB,Bool.and_eq_false_iff,decide_eq_false_iff_not,sideV,Bool.and_eq_true,decide_eq_true_eq,Bool.false_eq_true,false_iff]at h ⊢
  omega
theorem acc_any {d:Nat} {xs:List Aff} (h:inB (xs.length:Nat) 1 2=true):(!xs.any fun x=> !bndV d x)=sideV d xs:=by
  simp only[inB,Bool.and_eq_true,decide_eq_true_eq]at h
  rw[nany,sideV,decide_eq_true (show 1≤xs.length by omega),decide_eq_true (show xs.length≤2 by omega),Bool.and_true,Bool.and_true]
theorem implNoA_fn (x:Aff):Fn Tryz.prog 74 [] [ad (rA x)] (.o (bo1 (nonA x))) []:=by
  refine Fn.code0 Tryz.func74 rfl rfl rfl rfl ?_
  refine .r<|.c .bp<|.c .a<|.r<|.c (.fP 0 0 false)<|.c (.l1 1)<|.c (.ln 3 1 8)<|.c .eq<|.c .m ?_
  refine .cD 7 rfl (fun g7=>?_) (fun g7=>?_)
  · skip
    refine .c (.g (.fP 1 0 false))<|.c (.g (.l1 1))<|.c (.g .eq)<|.c .pT<|.c .a<|.nn<|.ret ?_
    refine kf_ret rfl ?_ nobox
    exact leafB (by rw[nonA];first|rfl|grind)
  · skip
    refine .c .f<|.c .f<|.c .f<|.c .pF<|.c .a<|.nn<|.ret ?_
    refine kf_ret rfl ?_ nobox
    exact leafB (by rw[nonA];first|rfl|grind)
theorem l3None_fn (x:Aff):Fn Tryz.prog 82 [] [ad (rA x)] (.o (bo1 (nonA x))) []:=by
  refine Fn.code0 Tryz.func82 rfl rfl rfl rfl ?_
  refine .r<|.c .bp<|.c .a<|.r<|.c (.fP 0 0 false)<|.c (.l1 1)<|.c (.ln 3 1 8)<|.c .eq<|.c .m ?_
  refine .cD 7 rfl (fun g7=>?_) (fun g7=>?_)
  · skip
    refine .c (.g (.fP 1 0 false))<|.c (.g (.l1 1))<|.c (.g .eq)<|.c .pT<|.c .a<|.nn<|.ret ?_
    refine kf_ret rfl ?_ nobox
    exact leafB (by rw[nonA];first|rfl|grind)
  · skip
    refine .c .f<|.c .f<|.c .f<|.c .pF<|.c .a<|.nn<|.ret ?_
    refine kf_ret rfl ?_ nobox
    exact leafB (by rw[nonA];first|rfl|grind)
theorem implNoC_fn (a:Acc):Fn Tryz.prog 75 [] [ad (rC a)] (.o (bo1 (nonC a))) []:=by
  refine Fn.code0 Tryz.func75 rfl rfl rfl rfl ?_
  refine .r<|.c .bp<|.c .a<|.r<|.c (.fP 0 0 false)<|.c (.l1 1) ?_
  refine .c (St1.eqS rfl rfl rfl)<|.c .m ?_
  refine AOps.cases 6 _ rfl (fun g6=>?_) (fun g6=>?_)
  · try simp only[zs]at g6
    have g:=g6
    refine .c (.g (.fP 1 0 false))<|.c (.g (.l1 1))<|.c (.g (.ln 28 2 32))<|.c (.g .eq)<|.c .pT<|.c .a<|.nn<|.ret ?_
    refine kf_ret rfl ?_ nobox
    exact leafB (by rw[nonC,show sEq a.1 ByteArray.empty=_ from g];first|rfl|(rw[Bool.eq_iff_iff];simp only[Bool.and_eq_true,Bool.or_eq_true,Bool.not_eq_true',Bool.and_eq_false_iff,Bool.or_eq_false_iff,decide_eq_true_eq,decide_eq_false_iff_not,Bool.false_eq_true,Bool.true_eq_false,false_iff,true_iff,iff_false,iff_true,false_and,and_false,true_and,and_true,not_false_eq_true,not_true_eq_false,ne_eq];omega))
  · try simp only[zs]at g6
    have g:=g6
    refine .c .f<|.c .f<|.c .f<|.c .f<|.c .pF<|.c .a<|.nn<|.ret ?_
    refine kf_ret rfl ?_ nobox
    exact leafB (by rw[nonC,show sEq a.1 ByteArray.empty=_ from g];first|rfl|(rw[Bool.eq_iff_iff];simp only[Bool.and_eq_true,Bool.or_eq_true,Bool.not_eq_true',Bool.and_eq_false_iff,Bool.or_eq_false_iff,decide_eq_true_eq,decide_eq_false_iff_not,Bool.false_eq_true,Bool.true_eq_false,false_iff,true_iff,iff_false,iff_true,false_and,and_false,true_and,and_true,not_false_eq_true,not_true_eq_false,ne_eq];omega))
theorem l3Empty_fn (a:Acc):Fn Tryz.prog 81 [] [ad (rC a)] (.o (bo1 (nonC a))) []:=by
  refine Fn.code0 Tryz.func81 rfl rfl rfl rfl ?_
  refine .r<|.c .bp<|.c .a<|.r<|.c (.fP 0 0 false)<|.c (.l1 1) ?_
  refine .c (St1.eqS rfl rfl rfl)<|.c .m ?_
  refine AOps.cases 6 _ rfl (fun g6=>?_) (fun g6=>?_)
  · try simp only[zs]at g6
    have g:=g6
    refine .c (.g (.fP 1 0 false))<|.c (.g (.l1 1))<|.c (.g (.ln 28 2 32))<|.c (.g .eq)<|.c .pT<|.c .a<|.nn<|.ret ?_
    refine kf_ret rfl ?_ nobox
    exact leafB (by rw[nonC,show sEq a.1 ByteArray.empty=_ from g];first|rfl|(rw[Bool.eq_iff_iff];simp only[Bool.and_eq_true,Bool.or_eq_true,Bool.not_eq_true',Bool.and_eq_false_iff,Bool.or_eq_false_iff,decide_eq_true_eq,decide_eq_false_iff_not,Bool.false_eq_true,Bool.true_eq_false,false_iff,true_iff,iff_false,iff_true,false_and,and_false,true_and,and_true,not_false_eq_true,not_true_eq_false,ne_eq];omega))
  · try simp only[zs]at g6
    have g:=g6
    refine .c .f<|.c .f<|.c .f<|.c .f<|.c .pF<|.c .a<|.nn<|.ret ?_
    refine kf_ret rfl ?_ nobox
    exact leafB (by rw[nonC,show sEq a.1 ByteArray.empty=_ from g];first|rfl|(rw[Bool.eq_iff_iff];simp only[Bool.and_eq_true,Bool.or_eq_true,Bool.not_eq_true',Bool.and_eq_false_iff,Bool.or_eq_false_iff,decide_eq_true_eq,decide_eq_false_iff_not,Bool.false_eq_true,Bool.true_eq_false,false_iff,true_iff,iff_false,iff_true,false_and,and_false,true_and,and_true,not_false_eq_true,not_true_eq_false,ne_eq];omega))
theorem isArray_fn (s:ByteArray):Fn Tryz.prog 69 [] [st1 s] (.o (bo1 (arrV s))) []:=by
  refine Fn.code0 Tryz.func69 rfl rfl rfl rfl ?_
  refine .r<|.c .a<|.r<|.c .m ?_
  refine .c (St1.lenS rfl rfl rfl rfl rfl (by kernel_rfl) rfl) ?_
  refine .c .eq<|.c .m ?_
  refine .cD 6 rfl (fun g6=>?_) (fun g6=>?_)
  · skip
    refine .c (.g .m) ?_
    refine .c (.gT rfl rfl rfl (.cP [.const (.string ⟨#[65,66,67,68]⟩),.tmp 7] rfl rfl rfl rfl (contains1_fn s (by omega)) rfl)) ?_
    refine .c .pT<|.c .a<|.nn<|.ret ?_
    refine kf_ret rfl ?_ nobox
    first|rfl|exact leafB (arrV_size (by omega)).symm
  · skip
    refine .c .f<|.c .f<|.c .pF<|.c .a<|.nn<|.ret ?_
    refine kf_ret rfl ?_ nobox
    first|rfl|exact leafB (arrV_size (by omega)).symm
theorem isOp_fn (k:Int):Fn Tryz.prog 76 [] [nat1 k] (.o (bo1 (inB k 4 6))) []:=by
  refine Fn.code0 Tryz.func76 rfl rfl rfl rfl ?_
  refine .r<|.c .a<|.r<|.c .m ?_
  refine .c (.cP [.tmp 3,.const (.int .i64 (4)),.const (.int .i64 (6))] rfl rfl rfl rfl (within_fn _ 4 6) rfl) ?_
  refine .c .a<|.nn<|.ret ?_
  refine kf_ret rfl ?_ nobox
  rfl
theorem accOk1_fn (d:Nat) (x:Aff):Fn Tryz.prog 71 [] [ad (rA x),.c (.ptr [dI (d:Nat)])] (.o (bo1 (!bndV d x))) []:=by
 refine Fn.code0 Tryz.func71 rfl rfl rfl rfl ?_
 refine .r<|.c .bp<|.c .a<|.nn<|.seq ?_
 refine ACode.drawK (by kernel_rfl) (by kernel_rfl) ?_
 refine .c (.lN 2) ?_
 refine .c (.cP [.tmp 4] rfl rfl rfl rfl (implAffV_fn x) rfl) ?_
 refine .c .nt<|.c .m ?_
 refine RunK.cases 7 _ rfl (fun g7=>?_) (fun g7=>?_)
 ·try simp only[zs]at g7
  refine .c .f<|.c .f<|.c .f<|.c .f<|.c .pT<|.c .a ?_
  refine .nil ⟨by kernel_rfl,?_⟩
  refine ks_n<|.ret ?_
  refine kf_ret rfl ?_ nobox
  first|exact leafB (by rw[bnd_no (.inl (by simpa using g7))];rfl)|exact leafB (by rw[bndV,show affV x=true by simpa using g7,Bool.true_and,Bool.eq_iff_iff];simp)
 ·try simp only[zs]at g7
  refine .c (.g (.lN 2)) ?_
  refine .c (.gT rfl rfl rfl (.cP [.tmp 8] rfl rfl rfl rfl (depth_fn x) rfl)) ?_
  refine .c (.g (.l1 1))<|.c (.g .gt)<|.c .pF<|.c .a ?_
  refine .nil ⟨by kernel_rfl,?_⟩
  refine ks_n<|.ret ?_
  refine kf_ret rfl ?_ nobox
  first|exact leafB (by rw[bnd_no (.inl (by simpa using g7))];rfl)|exact leafB (by rw[bndV,show affV x=true by simpa using g7,Bool.true_and,Bool.eq_iff_iff];simp)
theorem accOk_fn (d:Nat) (a:Acc) (ha:a.2.length≤1099511627776):Fn Tryz.prog 56 [] [ad (rC a),nat1 (d:Nat)] (.o (bo1 (accV d a))) []:=by
  refine Fn.code0 Tryz.func56 rfl rfl rfl rfl ?_
  refine .r<|.c .bp<|.c .bp<|.c .a<|.r<|.c (.fP 0 0 false)<|.c (.l1 1) ?_
  refine .c (.cP [.tmp 6] rfl rfl rfl rfl (isArray_fn _) rfl) ?_
  refine .c .m ?_
  refine AOps.cases 8 _ rfl (fun g8=>?_) (fun g8=>?_)
  · try simp only[zs]at g8
    refine .c (.g (.fP 1 0 false))<|.c (.g (.l1 1))<|.c (.g (.ln 28 2 32)) ?_
    refine .c (.gT rfl rfl rfl (.cP [.tmp 11,.const (.int .i64 (1)),.const (.int .i64 (2))] rfl rfl rfl rfl (within_fn _ 1 2) rfl)) ?_
    refine .c .pT<|.c .m ?_
    refine AOps.cases 14 _ rfl (fun g14=>?_) (fun g14=>?_)
    · try simp only[zs]at g14
      refine .c (.g (.fP 1 0 false))<|.c (.g (.l1 1)) ?_
      refine .c (.gT rfl rfl rfl (St1.makeFunc (xs:=[.tmp 3]) rfl rfl rfl rfl rfl rfl rfl))<|.c (.gT rfl rfl rfl (.cP [.tmp 16,.tmp 17] rfl rfl rfl rfl (cnt_aff (f:=71) (cap:=[[dI (d:Nat)]]) (by kernel_rfl) (fun x=> !bndV d x) a.2 ha (fun x _=>accOk1_fn d x)) rfl)) ?_
      refine .c (.g .nt)<|.c .pT<|.c .a<|.nn<|.ret ?_
      refine kf_ret rfl ?_ nobox
      first|exact leafB (by rw[accV,g8];rfl)|exact leafB (by rw[accV,g8,Bool.true_and];exact acc_len g14)|exact leafB (by rw[accV,g8,Bool.true_and];exact acc_any g14)
    · try simp only[zs]at g14
      refine .c .f<|.c .f<|.c .f<|.c .f<|.c .f<|.c .pF<|.c .a<|.nn<|.ret ?_
      refine kf_ret rfl ?_ nobox
      first|exact leafB (by rw[accV,g8];rfl)|exact leafB (by rw[accV,g8,Bool.true_and];exact acc_len g14)|exact leafB (by rw[accV,g8,Bool.true_and];exact acc_any g14)
  · try simp only[zs]at g8
    refine .c .f<|.c .f<|.c .f<|.c .f<|.c .pF<|.c .m<|.c .f<|.c .f<|.c .f<|.c .f<|.c .f<|.c .pF<|.c .a<|.nn<|.ret ?_
    refine kf_ret rfl ?_ nobox
    first|exact leafB (by rw[accV,g8];rfl)|exact leafB (by rw[accV,g8,Bool.true_and];exact acc_len g14)|exact leafB (by rw[accV,g8,Bool.true_and];exact acc_any g14)
def hdV (e:Ex):Bool:=(decide (e.k=1)||decide (e.n=0))&&(decide (e.k=2)||nonA e.i)&&(decide (e.k=3)||nonC e.r)
theorem scan_z (d c:Nat) (e:Ex):scanV d 0 c e=(false,c+1):=rfl
theorem scan_many {d L c:Nat} {e:Ex} (h:12<c+1):scanV d (L+1) c e=(false,c+1):=by rw[scanV,if_pos h]
theorem scan_hd {d L c:Nat} {e:Ex} (h:hdV e=false):scanV d (L+1) c e=(false,c+1):=by
  rw[scanV]
  split
  ·rfl
  · rw[if_neg]
    intro h2
    have h3:=(Bool.and_eq_true_iff.1 h2).2
    unfold fldV at h3
    unfold hdV at h
    cases hA:nonA e.i<;>cases hC:nonC e.r<;>simp only[hA,hC]at h h3<;>(split at h3<;>first|(split at h3<;>first|(split at h3<;>simp_all;done)|(simp_all;done))|(simp_all;done))
theorem hd_rest {e:Ex} (h:hdV e=true):(e.k=1∨e.n=0)∧(e.k=2∨nonA e.i=true)∧(e.k=3∨nonC e.r=true):=by
  simp only[hdV,Bool.and_eq_true,Bool.or_eq_true,decide_eq_true_eq]at h
  exact⟨h.1.1,h.1.2,h.2⟩
theorem scan_leaf {d L c:Nat} {e:Ex} (hk:1≤e.k∧e.k≤3) (hc:¬ 12<c+1):scanV d (L+1) c e=(decide (e.ks.length=0)&&fldV d e.k e.n e.i e.r,c+1):=by
  rw[scanV,if_neg hc,kidV,if_pos hk]
  split
  · rename_i h
    rw[h]
    have:=of_decide_eq_true (Bool.and_eq_true_iff.1 h).1
    rw[List.eq_nil_of_length_eq_zero this];rfl
  · rename_i h
    rw[Bool.eq_false_iff.2 h]
theorem scan1 {d L c:Nat} {e:Ex} (hk:e.k=1) (hh:hdV e=true) (hc:¬ 12<c+1):scanV d (L+1) c e=(inB e.n 0 99&&decide (e.ks.length=0),c+1):=by
  obtain⟨h1,h2,h3⟩:=hd_rest hh
  rw[scan_leaf (by omega) hc,fldV,if_pos hk,h2.resolve_left (by omega),h3.resolve_left (by omega),Bool.and_true,Bool.and_true,Bool.and_comm]
theorem scan2 {d L c:Nat} {e:Ex} (hk:e.k=2) (hh:hdV e=true) (hc:¬ 12<c+1):scanV d (L+1) c e=(affV e.i&&decide (affDepth e.i≤d)&&decide (e.ks.length=0),c+1):=by
  obtain⟨h1,h2,h3⟩:=hd_rest hh
  rw[scan_leaf (by omega) hc,fldV,if_neg (by omega),if_pos hk,h3.resolve_left (by omega),decide_eq_true (h1.resolve_left (by omega)),Bool.and_true,Bool.true_and,Bool.and_comm]
theorem scan3 {d L c:Nat} {e:Ex} (hk:e.k=3) (hh:hdV e=true) (hc:¬ 12<c+1):scanV d (L+1) c e=(accV d e.r&&decide (e.ks.length=0),c+1):=by
  obtain⟨h1,h2,h3⟩:=hd_rest hh
  rw[scan_leaf (by omega) hc,fldV,if_neg (by omega),if_neg (by omega),if_pos hk,h2.resolve_left (by omega),decide_eq_true (h1.resolve_left (by omega)),Bool.and_true,Bool.true_and,Bool.and_comm]
theorem scan_bad {d L c:Nat} {e:Ex} (hk:¬e.k=1∧¬e.k=2∧¬e.k=3) (hb:inB e.k 4 6=false∨¬e.ks.length=2):scanV d (L+1) c e=(false,c+1):=by
  rw[scanV]
  split
  ·rfl
  · rw[if_neg]
    intro h2
    have h3:=(Bool.and_eq_true_iff.1 h2).1
    unfold kidV at h3
    rw[if_neg (by omega)]at h3
    split at h3
    · rename_i h4
      have h5:=of_decide_eq_true h3
      rcases hb with h|h
      ·rw[inB,decide_eq_true h4]at h;cases h
      ·exact h h5
    ·cases h3
theorem scan_op {d L c:Nat} {e:Ex} {x y:Ex} (hk:inB e.k 4 6=true) (hh:hdV e=true) (hc:¬ 12<c+1) (hks:e.ks=[x,y]):scanV d (L+1) c e=if (scanV d L (c+1) x).1=true then scanV d L (scanV d L (c+1) x).2 y else(false,(scanV d L (c+1) x).2):=by
  obtain⟨h1,h2,h3⟩:=hd_rest hh
  simp only[inB,Bool.and_eq_true,decide_eq_true_eq]at hk
  rw[scanV,if_neg hc,if_pos,hks,scanK]
  · split
    · rename_i h
      rw[scanK]
      split
      ·rename_i h4;rw[scanK,←h4]
      ·rename_i h4;rw[←Bool.eq_false_iff.2 h4]
    ·rfl
  ·rw[kidV,if_neg (by omega),if_pos hk,hks,fldV,if_neg (by omega),if_neg (by omega),if_neg (by omega),h2.resolve_left (by omega),h3.resolve_left (by omega),decide_eq_true (h1.resolve_left (by omega))];rfl
theorem two_of {α:Type} {l:List α} (h:l.length=2):∃x y,l=[x,y]:=by
  match l,h with
  |[x,y],_=>exact⟨x,y,rfl⟩
theorem scan_zero (d:Nat) {deep:Int} {c:Nat} {e:Ex} (hc:c≤12) (hd8: -100≤deep∧deep≤100) (hrl:e.r.2.length≤1099511627776) (hd5:5<deep):Fn Tryz.prog 57 (hbI (c:Nat)) [ad (rX e),nat1 (d:Nat),nat1 deep,.c (.box 0 1 0 0)] (.o (bo1 (scanV d 0 c e).1)) (hbI ((scanV d 0 c e).2:Nat)):=by
 refine Fn.of_code Tryz.func57 rfl rfl (hbI_HB _) rfl rfl (hbI_HB _) rfl (hbI_num _ _) ?_
 refine .r<|.c .bp<|.c .a<|.r<|.c .m<|.c .nB<|.c (.b1 1)<|.c .pl<|.c .nB<|.c (.sT 1 false)<|.nn<|.seq<|.seq ?_
 refine ACode.cut [eN 1 (d:Nat),eN 2 deep,eB 3 0 1,eP 4 (rX e),eT 8 false,eT 21 (decide (12<c+1∨5<deep)),(.b 0,.b 3 1 (dR ([rI ((c:Int)+1)]))),eU 0] ?_ ?_
 ·skip
  refine .region<|.c .m<|.c .nB<|.c (.b1 1)<|.c .gt<|.c .m ?_
  refine .cD 18 rfl (fun g18=>?_) (fun g18=>?_)
  ·skip
   refine .c .f<|.c .f<|.c .pT<|.nil ?_
   exact kc_n (Wk.keep [(0,0)] rfl rfl ⟨kd,kd,kX,kd,kd,ks rfl (.dt (vB (by first|rfl|grind))),kb 0 rfl (.dt rfl),trivial⟩)
  ·skip
   refine .c (.g .m)<|.c (.g .gt)<|.c .pF<|.nil ?_
   exact kc_n (Wk.keep [(0,0)] rfl rfl ⟨kd,kd,kX,kd,kd,ks rfl (.dt (vB (by first|rfl|grind))),kb 0 rfl (.dt rfl),trivial⟩)
 refine ks_n ?_
 refine ACode.condT rfl (fun h21=>?_) (fun h21=>?_)
 ·try simp only[zs]at h21
  refine .seq ?_
  have hR:=scan_z d c e
  refine .region<|.c .a<|.nn<|.ret<|ks_r ?_
  obtain⟨r,hr⟩:∃r,r=(scanV d 0 c e):=⟨_,rfl⟩
  rw[←hr]
  rw[←hr]at hR
  refine kf_wret [eB 3 0 1,eT 8 r.1,(.b 0,.b 3 1 (dR ([rI (r.2:Nat)]))),eU 0] (Wk.keep [(0,0)] rfl rfl ⟨kX,ks rfl (.dt (vB (by rw[hR]<;>first|rfl|grind))),kb 0 rfl (.dt rfl (by rw[hR]<;>rfl)),trivial⟩) rfl ?_ (hbI_box rfl)
  rfl
 ·try simp only[zs]at h21
  exact absurd (Or.inr hd5) h21
theorem scan_succ (d:Nat) {deep:Int} {c:Nat} {e:Ex} (hc:c≤12) (hd8: -100≤deep∧deep≤100) (hrl:e.r.2.length≤1099511627776) (hd5:¬ 5<deep) {L:Nat} (ih:∀x∈e.ks,∀c:Nat,c≤12→Fn Tryz.prog 57 (hbI (c:Nat)) [ad (rX x),nat1 (d:Nat),nat1 (deep+1),.c (.box 0 1 0 0)] (.o (bo1 (scanV d L c x).1)) (hbI ((scanV d L c x).2:Nat))):Fn Tryz.prog 57 (hbI (c:Nat)) [ad (rX e),nat1 (d:Nat),nat1 deep,.c (.box 0 1 0 0)] (.o (bo1 (scanV d (L+1) c e).1)) (hbI ((scanV d (L+1) c e).2:Nat)):=by
 refine Fn.of_code Tryz.func57 rfl rfl (hbI_HB _) rfl rfl (hbI_HB _) rfl (hbI_num _ _) ?_
 refine .r<|.c .bp<|.c .a<|.r<|.c .m<|.c .nB<|.c (.b1 1)<|.c .pl<|.c .nB<|.c (.sT 1 false)<|.nn<|.seq<|.seq ?_
 refine ACode.cut [eN 1 (d:Nat),eN 2 deep,eB 3 0 1,eP 4 (rX e),eT 8 false,eT 21 (decide (12<c+1∨5<deep)),(.b 0,.b 3 1 (dR ([rI ((c:Int)+1)]))),eU 0] ?_ ?_
 ·skip
  refine .region<|.c .m<|.c .nB<|.c (.b1 1)<|.c .gt<|.c .m ?_
  refine .cD 18 rfl (fun g18=>?_) (fun g18=>?_)
  ·skip
   refine .c .f<|.c .f<|.c .pT<|.nil ?_
   exact kc_n (Wk.keep [(0,0)] rfl rfl ⟨kd,kd,kX,kd,kd,ks rfl (.dt (vB (by first|rfl|grind))),kb 0 rfl (.dt rfl),trivial⟩)
  ·skip
   refine .c (.g .m)<|.c (.g .gt)<|.c .pF<|.nil ?_
   exact kc_n (Wk.keep [(0,0)] rfl rfl ⟨kd,kd,kX,kd,kd,ks rfl (.dt (vB (by first|rfl|grind))),kb 0 rfl (.dt rfl),trivial⟩)
 refine ks_n ?_
 refine ACode.condT rfl (fun h21=>?_) (fun h21=>?_)
 ·try simp only[zs]at h21
  refine .seq ?_
  have hR:=scan_many (d:=d) (L:=L) (e:=e) (show 12<c+1 by omega)
  refine .region<|.c .a<|.nn<|.ret<|ks_r ?_
  obtain⟨r,hr⟩:∃r,r=(scanV d (L+1) c e):=⟨_,rfl⟩
  rw[←hr]
  rw[←hr]at hR
  refine kf_wret [eB 3 0 1,eT 8 r.1,(.b 0,.b 3 1 (dR ([rI (r.2:Nat)]))),eU 0] (Wk.keep [(0,0)] rfl rfl ⟨kX,ks rfl (.dt (vB (by rw[hR]<;>first|rfl|grind))),kb 0 rfl (.dt rfl (by rw[hR]<;>rfl)),trivial⟩) rfl ?_ (hbI_box rfl)
  rfl
 ·try simp only[zs]at h21
  have hc1:¬ 12<c+1:=by omega
  refine .skip<|ks_n<|.seq<|.seq ?_
  refine ACode.cut [eN 1 (d:Nat),eN 2 deep,eB 3 0 1,eP 4 (rX e),eT 8 false,eT 51 (!hdV e),(.b 0,.b 3 1 (dR ([rI ((c:Int)+1)]))),eU 0] ?_ ?_
  ·skip
   refine .region<|.c (.fP 0 0 false)<|.c (.l1 1)<|.c .ne<|.c .m ?_
   refine .cND 25 rfl (fun g25=>?_) (fun g25=>?_)
   ·skip
    refine .c (.g (.fP 1 0 false))<|.c (.g (.l1 1))<|.c (.g .ne)<|.c .pT<|.c .m ?_
    refine AOps.cases 30 _ rfl (fun g30=>?_) (fun g30=>?_)
    ·try simp only[zs]at g30
     refine .c .f<|.c .f<|.c .f<|.c .f<|.c .gU<|.c .gU<|.c .gU<|.c .gU<|.c .f<|.c .pT<|.c .m<|.c .f<|.c .f<|.c .f<|.c .f<|.c .gU<|.c .gU<|.c .gU<|.c .gU<|.c .f<|.c .pT<|.nil ?_
     exact kc_n (Wk.keep [(0,0)] rfl rfl ⟨kd,kd,kX,kd,kd,ks rfl (.dt (vB (by first|(exfalso;omega)|(rw[hdV];simp[*];done)|(rw[hdV];cases hA:nonA e.i<;>cases hC:nonC e.r<;>simp_all;done)))),kb 0 rfl (.dt rfl),trivial⟩)
    ·try simp only[zs]at g30
     refine .c (.g (.fP 0 0 false))<|.c (.g (.l1 1))<|.c (.g .ne)<|.c (.g .m) ?_
     refine .cND 34 rfl (fun g34=>?_) (fun g34=>?_)
     ·skip
      refine .c (.g (.fP 2 1 true))<|.c (.g (.lN 2)) ?_
      refine .c (.gT rfl rfl rfl (.cP [.tmp 36] rfl rfl rfl rfl (implNoA_fn _) rfl)) ?_
      refine .c (.g .nt)<|.c (.g .pT)<|.c .pF<|.c .m ?_
      refine AOps.cases 41 _ rfl (fun g41=>?_) (fun g41=>?_)
      ·try simp only[zs]at g41
       refine .c .f<|.c .f<|.c .f<|.c .f<|.c .gU<|.c .gU<|.c .gU<|.c .gU<|.c .f<|.c .pT<|.nil ?_
       exact kc_n (Wk.keep [(0,0)] rfl rfl ⟨kd,kd,kX,kd,kd,ks rfl (.dt (vB (by first|(exfalso;omega)|(rw[hdV];simp[*];done)|(rw[hdV];cases hA:nonA e.i<;>cases hC:nonC e.r<;>simp_all;done)))),kb 0 rfl (.dt rfl),trivial⟩)
      ·try simp only[zs]at g41
       refine .c (.g (.fP 0 0 false))<|.c (.g (.l1 1))<|.c (.g .ne)<|.c (.g .m) ?_
       refine .cND 45 rfl (fun g45=>?_) (fun g45=>?_)
       ·skip
        refine .c (.g (.fP 4 1 true))<|.c (.g (.lN 2)) ?_
        refine .c (.gT rfl rfl rfl (.cP [.tmp 47] rfl rfl rfl rfl (implNoC_fn _) rfl)) ?_
        refine .c (.g .nt)<|.c (.g .pT)<|.c .pF<|.nil ?_
        exact kc_n (Wk.keep [(0,0)] rfl rfl ⟨kd,kd,kX,kd,kd,ks rfl (.dt (vB (by first|(exfalso;omega)|(rw[hdV];simp[*];done)|(rw[hdV];cases hA:nonA e.i<;>cases hC:nonC e.r<;>simp_all;done)))),kb 0 rfl (.dt rfl),trivial⟩)
       ·skip
        refine .c .f<|.c .f<|.c .f<|.c .f<|.c (.g .pF)<|.c .pF<|.nil ?_
        exact kc_n (Wk.keep [(0,0)] rfl rfl ⟨kd,kd,kX,kd,kd,ks rfl (.dt (vB (by first|(exfalso;omega)|(rw[hdV];simp[*];done)|(rw[hdV];cases hA:nonA e.i<;>cases hC:nonC e.r<;>simp_all;done)))),kb 0 rfl (.dt rfl),trivial⟩)
     ·skip
      refine .c .f<|.c .f<|.c .f<|.c .f<|.c (.g .pF)<|.c .pF<|.c .m<|.c (.g (.fP 0 0 false))<|.c (.g (.l1 1))<|.c (.g .ne)<|.c (.g .m) ?_
      refine .cND 45 rfl (fun g45=>?_) (fun g45=>?_)
      ·skip
       refine .c (.g (.fP 4 1 true))<|.c (.g (.lN 2)) ?_
       refine .c (.gT rfl rfl rfl (.cP [.tmp 47] rfl rfl rfl rfl (implNoC_fn _) rfl)) ?_
       refine .c (.g .nt)<|.c (.g .pT)<|.c .pF<|.nil ?_
       exact kc_n (Wk.keep [(0,0)] rfl rfl ⟨kd,kd,kX,kd,kd,ks rfl (.dt (vB (by first|(exfalso;omega)|(rw[hdV];simp[*];done)|(rw[hdV];cases hA:nonA e.i<;>cases hC:nonC e.r<;>simp_all;done)))),kb 0 rfl (.dt rfl),trivial⟩)
      ·skip
       refine .c .f<|.c .f<|.c .f<|.c .f<|.c (.g .pF)<|.c .pF<|.nil ?_
       exact kc_n (Wk.keep [(0,0)] rfl rfl ⟨kd,kd,kX,kd,kd,ks rfl (.dt (vB (by first|(exfalso;omega)|(rw[hdV];simp[*];done)|(rw[hdV];cases hA:nonA e.i<;>cases hC:nonC e.r<;>simp_all;done)))),kb 0 rfl (.dt rfl),trivial⟩)
   ·skip
    refine .c .f<|.c .f<|.c .f<|.c .pF<|.c .m<|.c (.g (.fP 0 0 false))<|.c (.g (.l1 1))<|.c (.g .ne)<|.c (.g .m) ?_
    refine .cND 34 rfl (fun g34=>?_) (fun g34=>?_)
    ·skip
     refine .c (.g (.fP 2 1 true))<|.c (.g (.lN 2)) ?_
     refine .c (.gT rfl rfl rfl (.cP [.tmp 36] rfl rfl rfl rfl (implNoA_fn _) rfl)) ?_
     refine .c (.g .nt)<|.c (.g .pT)<|.c .pF<|.c .m ?_
     refine AOps.cases 41 _ rfl (fun g41=>?_) (fun g41=>?_)
     ·try simp only[zs]at g41
      refine .c .f<|.c .f<|.c .f<|.c .f<|.c .gU<|.c .gU<|.c .gU<|.c .gU<|.c .f<|.c .pT<|.nil ?_
      exact kc_n (Wk.keep [(0,0)] rfl rfl ⟨kd,kd,kX,kd,kd,ks rfl (.dt (vB (by first|(exfalso;omega)|(rw[hdV];simp[*];done)|(rw[hdV];cases hA:nonA e.i<;>cases hC:nonC e.r<;>simp_all;done)))),kb 0 rfl (.dt rfl),trivial⟩)
     ·try simp only[zs]at g41
      refine .c (.g (.fP 0 0 false))<|.c (.g (.l1 1))<|.c (.g .ne)<|.c (.g .m) ?_
      refine .cND 45 rfl (fun g45=>?_) (fun g45=>?_)
      ·skip
       refine .c (.g (.fP 4 1 true))<|.c (.g (.lN 2)) ?_
       refine .c (.gT rfl rfl rfl (.cP [.tmp 47] rfl rfl rfl rfl (implNoC_fn _) rfl)) ?_
       refine .c (.g .nt)<|.c (.g .pT)<|.c .pF<|.nil ?_
       exact kc_n (Wk.keep [(0,0)] rfl rfl ⟨kd,kd,kX,kd,kd,ks rfl (.dt (vB (by first|(exfalso;omega)|(rw[hdV];simp[*];done)|(rw[hdV];cases hA:nonA e.i<;>cases hC:nonC e.r<;>simp_all;done)))),kb 0 rfl (.dt rfl),trivial⟩)
      ·skip
       refine .c .f<|.c .f<|.c .f<|.c .f<|.c (.g .pF)<|.c .pF<|.nil ?_
       exact kc_n (Wk.keep [(0,0)] rfl rfl ⟨kd,kd,kX,kd,kd,ks rfl (.dt (vB (by first|(exfalso;omega)|(rw[hdV];simp[*];done)|(rw[hdV];cases hA:nonA e.i<;>cases hC:nonC e.r<;>simp_all;done)))),kb 0 rfl (.dt rfl),trivial⟩)
    ·skip
     refine .c .f<|.c .f<|.c .f<|.c .f<|.c (.g .pF)<|.c .pF<|.c .m<|.c (.g (.fP 0 0 false))<|.c (.g (.l1 1))<|.c (.g .ne)<|.c (.g .m) ?_
     refine .cND 45 rfl (fun g45=>?_) (fun g45=>?_)
     ·skip
      refine .c (.g (.fP 4 1 true))<|.c (.g (.lN 2)) ?_
      refine .c (.gT rfl rfl rfl (.cP [.tmp 47] rfl rfl rfl rfl (implNoC_fn _) rfl)) ?_
      refine .c (.g .nt)<|.c (.g .pT)<|.c .pF<|.nil ?_
      exact kc_n (Wk.keep [(0,0)] rfl rfl ⟨kd,kd,kX,kd,kd,ks rfl (.dt (vB (by first|(exfalso;omega)|(rw[hdV];simp[*];done)|(rw[hdV];cases hA:nonA e.i<;>cases hC:nonC e.r<;>simp_all;done)))),kb 0 rfl (.dt rfl),trivial⟩)
     ·skip
      refine .c .f<|.c .f<|.c .f<|.c .f<|.c (.g .pF)<|.c .pF<|.nil ?_
      exact kc_n (Wk.keep [(0,0)] rfl rfl ⟨kd,kd,kX,kd,kd,ks rfl (.dt (vB (by first|(exfalso;omega)|(rw[hdV];simp[*];done)|(rw[hdV];cases hA:nonA e.i<;>cases hC:nonC e.r<;>simp_all;done)))),kb 0 rfl (.dt rfl),trivial⟩)
  refine ks_n ?_
  refine ACode.condT rfl (fun h51=>?_) (fun h51=>?_)
  ·try simp only[zs]at h51
   refine .seq ?_
   have hR:=scan_hd (d:=d) (L:=L) (c:=c) h51
   refine .region<|.c .a<|.nn<|.ret<|ks_r ?_
   obtain⟨r,hr⟩:∃r,r=(scanV d (L+1) c e):=⟨_,rfl⟩
   rw[←hr]
   rw[←hr]at hR
   refine kf_wret [eB 3 0 1,eT 8 r.1,(.b 0,.b 3 1 (dR ([rI (r.2:Nat)]))),eU 0] (Wk.keep [(0,0)] rfl rfl ⟨kX,ks rfl (.dt (vB (by rw[hR]<;>first|rfl|grind))),kb 0 rfl (.dt rfl (by rw[hR]<;>rfl)),trivial⟩) rfl ?_ (hbI_box rfl)
   rfl
  ·try simp only[zs]at h51
   refine .skip<|ks_n<|.seq<|.block<|.r<|.c (.fP 0 0 false)<|.c (.l1 1)<|.c .eq<|.c .a<|.nn ?_
   refine .cD rfl (fun h52=>?_) (fun h52=>?_)
   ·skip
    refine .seq ?_
    have hR:=scan1 (d:=d) (L:=L) h52 h51 hc1
    refine .region<|.c (.fP 1 0 false)<|.c (.l1 1) ?_
    refine .c (.cP [.tmp 57,.const (.int .i64 (0)),.const (.int .i64 (99))] rfl rfl rfl rfl (within_fn _ 0 99) rfl) ?_
    refine .c .m ?_
    refine AOps.cases 59 _ rfl (fun g59=>?_) (fun g59=>?_)
    ·try simp only[zs]at g59
     refine .c (.g (.fP 6 0 false))<|.c (.g (.l1 1))<|.c (.g (.ln 31 7 112))<|.c (.g .eq)<|.c .pT<|.c .a<|.nn<|.ret<|kb_r<|ks_r ?_
     obtain⟨r,hr⟩:∃r,r=(scanV d (L+1) c e):=⟨_,rfl⟩
     rw[←hr]
     rw[←hr]at hR
     refine kf_wret [eB 3 0 1,eT 8 r.1,(.b 0,.b 3 1 (dR ([rI (r.2:Nat)]))),eU 0] (Wk.keep [(0,0)] rfl rfl ⟨kX,ks rfl (.dt (vB (by rw[hR]<;>first|rfl|grind))),kb 0 rfl (.dt rfl (by rw[hR]<;>rfl)),trivial⟩) rfl ?_ (hbI_box rfl)
     rfl
    ·try simp only[zs]at g59
     refine .c .f<|.c .f<|.c .f<|.c .f<|.c .pF<|.c .a<|.nn<|.ret<|kb_r<|ks_r ?_
     obtain⟨r,hr⟩:∃r,r=(scanV d (L+1) c e):=⟨_,rfl⟩
     rw[←hr]
     rw[←hr]at hR
     refine kf_wret [eB 3 0 1,eT 8 r.1,(.b 0,.b 3 1 (dR ([rI (r.2:Nat)]))),eU 0] (Wk.keep [(0,0)] rfl rfl ⟨kX,ks rfl (.dt (vB (by rw[hR]<;>first|rfl|grind))),kb 0 rfl (.dt rfl (by rw[hR]<;>rfl)),trivial⟩) rfl ?_ (hbI_box rfl)
     rfl
   ·skip
    refine .r<|.c (.fP 0 0 false)<|.c (.l1 1)<|.c .eq<|.c .a<|.nn ?_
    refine .cD rfl (fun h65=>?_) (fun h65=>?_)
    ·skip
     refine .seq ?_
     have hR:=scan2 (d:=d) (L:=L) h65 h51 hc1
     refine .region<|.c (.fP 2 1 true)<|.c (.lN 2) ?_
     refine .c (.cP [.tmp 70] rfl rfl rfl rfl (implAffV_fn _) rfl) ?_
     refine .c .m ?_
     refine AOps.cases 72 _ rfl (fun g72=>?_) (fun g72=>?_)
     ·try simp only[zs]at g72
      refine .c (.g (.fP 2 1 true))<|.c (.g (.lN 2)) ?_
      refine .c (.gT rfl rfl rfl (.cP [.tmp 74] rfl rfl rfl rfl (depth_fn _) rfl)) ?_
      refine .c (.g .m)<|.c (.g .le)<|.c .pT<|.c .m ?_
      refine AOps.cases 79 _ rfl (fun g79=>?_) (fun g79=>?_)
      ·try simp only[zs]at g79
       refine .c (.g (.fP 6 0 false))<|.c (.g (.l1 1))<|.c (.g (.ln 31 7 112))<|.c (.g .eq)<|.c .pT<|.c .a<|.nn<|.ret<|kb_r<|ks_r ?_
       obtain⟨r,hr⟩:∃r,r=(scanV d (L+1) c e):=⟨_,rfl⟩
       rw[←hr]
       rw[←hr]at hR
       refine kf_wret [eB 3 0 1,eT 8 r.1,(.b 0,.b 3 1 (dR ([rI (r.2:Nat)]))),eU 0] (Wk.keep [(0,0)] rfl rfl ⟨kX,ks rfl (.dt (vB (by rw[hR]<;>first|rfl|grind))),kb 0 rfl (.dt rfl (by rw[hR]<;>rfl)),trivial⟩) rfl ?_ (hbI_box rfl)
       rfl
      ·try simp only[zs]at g79
       refine .c .f<|.c .f<|.c .f<|.c .f<|.c .pF<|.c .a<|.nn<|.ret<|kb_r<|ks_r ?_
       obtain⟨r,hr⟩:∃r,r=(scanV d (L+1) c e):=⟨_,rfl⟩
       rw[←hr]
       rw[←hr]at hR
       refine kf_wret [eB 3 0 1,eT 8 r.1,(.b 0,.b 3 1 (dR ([rI (r.2:Nat)]))),eU 0] (Wk.keep [(0,0)] rfl rfl ⟨kX,ks rfl (.dt (vB (by rw[hR]<;>first|rfl|grind))),kb 0 rfl (.dt rfl (by rw[hR]<;>rfl)),trivial⟩) rfl ?_ (hbI_box rfl)
       rfl
     ·try simp only[zs]at g72
      refine .c .f<|.c .f<|.c .f<|.c .f<|.c .f<|.c .pF<|.c .m<|.c .f<|.c .f<|.c .f<|.c .f<|.c .pF<|.c .a<|.nn<|.ret<|kb_r<|ks_r ?_
      obtain⟨r,hr⟩:∃r,r=(scanV d (L+1) c e):=⟨_,rfl⟩
      rw[←hr]
      rw[←hr]at hR
      refine kf_wret [eB 3 0 1,eT 8 r.1,(.b 0,.b 3 1 (dR ([rI (r.2:Nat)]))),eU 0] (Wk.keep [(0,0)] rfl rfl ⟨kX,ks rfl (.dt (vB (by rw[hR]<;>first|rfl|grind))),kb 0 rfl (.dt rfl (by rw[hR]<;>rfl)),trivial⟩) rfl ?_ (hbI_box rfl)
      rfl
    ·skip
     refine .r<|.c (.fP 0 0 false)<|.c (.l1 1)<|.c .eq<|.c .a<|.nn ?_
     refine .cD rfl (fun h85=>?_) (fun h85=>?_)
     ·skip
      refine .seq ?_
      have hR:=scan3 (d:=d) (L:=L) h85 h51 hc1
      refine .region<|.c (.fP 4 1 true)<|.c (.lN 2)<|.c .m ?_
      refine .c (.cP [.tmp 90,.tmp 91] rfl rfl rfl rfl (accOk_fn d _ hrl) rfl) ?_
      refine .c .m ?_
      refine AOps.cases 93 _ rfl (fun g93=>?_) (fun g93=>?_)
      ·try simp only[zs]at g93
       refine .c (.g (.fP 6 0 false))<|.c (.g (.l1 1))<|.c (.g (.ln 31 7 112))<|.c (.g .eq)<|.c .pT<|.c .a<|.nn<|.ret<|kb_r<|ks_r ?_
       obtain⟨r,hr⟩:∃r,r=(scanV d (L+1) c e):=⟨_,rfl⟩
       rw[←hr]
       rw[←hr]at hR
       refine kf_wret [eB 3 0 1,eT 8 r.1,(.b 0,.b 3 1 (dR ([rI (r.2:Nat)]))),eU 0] (Wk.keep [(0,0)] rfl rfl ⟨kX,ks rfl (.dt (vB (by rw[hR]<;>first|rfl|grind))),kb 0 rfl (.dt rfl (by rw[hR]<;>rfl)),trivial⟩) rfl ?_ (hbI_box rfl)
       rfl
      ·try simp only[zs]at g93
       refine .c .f<|.c .f<|.c .f<|.c .f<|.c .pF<|.c .a<|.nn<|.ret<|kb_r<|ks_r ?_
       obtain⟨r,hr⟩:∃r,r=(scanV d (L+1) c e):=⟨_,rfl⟩
       rw[←hr]
       rw[←hr]at hR
       refine kf_wret [eB 3 0 1,eT 8 r.1,(.b 0,.b 3 1 (dR ([rI (r.2:Nat)]))),eU 0] (Wk.keep [(0,0)] rfl rfl ⟨kX,ks rfl (.dt (vB (by rw[hR]<;>first|rfl|grind))),kb 0 rfl (.dt rfl (by rw[hR]<;>rfl)),trivial⟩) rfl ?_ (hbI_box rfl)
       rfl
     ·skip
      refine .r<|.c (.fP 0 0 false)<|.c (.l1 1) ?_
      refine .c (.cP [.tmp 101] rfl rfl rfl rfl (isOp_fn _) rfl) ?_
      refine .c .nt<|.c .m ?_
      refine AOps.cases 104 _ rfl (fun g104=>?_) (fun g104=>?_)
      ·try simp only[zs]at g104
       refine .c .f<|.c .f<|.c .f<|.c .f<|.c .pT<|.c .a<|.nn ?_
       refine .k1 ?_
       refine .seq ?_
       have hR:=scan_bad (d:=d) (L:=L) (c:=c) ⟨h52,h65,h85⟩ (by first|exact .inl (by assumption)|exact .inr (by omega))
       refine .region<|.c .a<|.nn<|.ret<|kb_r<|ks_r ?_
       obtain⟨r,hr⟩:∃r,r=(scanV d (L+1) c e):=⟨_,rfl⟩
       rw[←hr]
       rw[←hr]at hR
       refine kf_wret [eB 3 0 1,eT 8 r.1,(.b 0,.b 3 1 (dR ([rI (r.2:Nat)]))),eU 0] (Wk.keep [(0,0)] rfl rfl ⟨kX,ks rfl (.dt (vB (by rw[hR]<;>first|rfl|grind))),kb 0 rfl (.dt rfl (by rw[hR]<;>rfl)),trivial⟩) rfl ?_ (hbI_box rfl)
       rfl
      ·try simp only[zs]at g104
       refine .c (.g (.fP 6 0 false))<|.c (.g (.l1 1))<|.c (.g (.ln 31 7 112))<|.c (.g .ne)<|.c .pF<|.c .a<|.nn ?_
       refine ACode.condT rfl (fun h99=>?_) (fun h99=>?_)
       ·try simp only[zs]at h99
        refine .seq ?_
        have hR:=scan_bad (d:=d) (L:=L) (c:=c) ⟨h52,h65,h85⟩ (by first|exact .inl (by assumption)|exact .inr (by omega))
        refine .region<|.c .a<|.nn<|.ret<|kb_r<|ks_r ?_
        obtain⟨r,hr⟩:∃r,r=(scanV d (L+1) c e):=⟨_,rfl⟩
        rw[←hr]
        rw[←hr]at hR
        refine kf_wret [eB 3 0 1,eT 8 r.1,(.b 0,.b 3 1 (dR ([rI (r.2:Nat)]))),eU 0] (Wk.keep [(0,0)] rfl rfl ⟨kX,ks rfl (.dt (vB (by rw[hR]<;>first|rfl|grind))),kb 0 rfl (.dt rfl (by rw[hR]<;>rfl)),trivial⟩) rfl ?_ (hbI_box rfl)
        rfl
       ·try simp only[zs]at h99
        refine .skip<|kb_n<|ks_n<|.seq ?_
        obtain⟨x,y,hks⟩:=two_of (l:=e.ks) (by omega)
        have hR:=scan_op (d:=d) (L:=L) (by assumption) h51 hc1 hks
        obtain⟨_,hx2,_,_⟩:=scanV_iff d L (c+1) x
        refine .region<|.c (.fP 6 0 false)<|.c (.l1 1) ?_
        refine .c (.xL 31 7 112 (i:=0) rfl rfl rfl rfl rfl (by rw[hks];exact rE_at rfl)) ?_
        refine .c (.lN 7)<|.c .m<|.c .m<|.c .pl<|.c .m ?_
        refine .c (.cO [.tmp 113,.tmp 114,.tmp 116,.tmp 117] [(0,0)] rfl rfl rfl rfl (ih x (by rw[hks];simp) (c+1) (by omega)) rfl ⟨rfl,trivial⟩ (hbI_flat _) (hbI_flat _) (hbI_HB _) outS_one) ?_
        refine .c .m ?_
        refine AOps.cases 119 _ rfl (fun g119=>?_) (fun g119=>?_)
        ·try simp only[zs]at g119
         have hc2:(scanV d L (c+1) x).2≤12:=by have h1:=hx2 g119;have h2:=((scanV_iff d L (c+1) x).1.1 g119).2;omega
         rw[if_pos g119]at hR
         refine .c (.g (.fP 6 0 false))<|.c (.g (.l1 1)) ?_
         refine .c (.gT rfl rfl rfl (.xL 31 7 112 (i:=1) rfl rfl rfl rfl rfl (by rw[hks];exact rE_at rfl))) ?_
         refine .c (.g (.lN 7))<|.c (.g .m)<|.c (.g .m)<|.c (.g .pl)<|.c (.g .m) ?_
         refine .c (.gT rfl rfl rfl (.cO [.tmp 123,.tmp 124,.tmp 126,.tmp 127] [(0,0)] rfl rfl rfl rfl (ih y (by rw[hks];simp) (scanV d L (c+1) x).2 hc2) rfl ⟨rfl,trivial⟩ (hbI_flat _) (hbI_flat _) (hbI_HB _) outS_one)) ?_
         refine .c .pT<|.c .a<|.nn<|.ret ?_
         obtain⟨r,hr⟩:∃r,r=(scanV d (L+1) c e):=⟨_,rfl⟩
         rw[←hr]
         rw[←hr]at hR
         refine kf_wret [eB 3 0 1,eT 8 r.1,(.b 0,.b 3 1 (dR ([rI (r.2:Nat)]))),eU 0] (Wk.keep [(0,0)] rfl rfl ⟨kX,ks rfl (.dt (vB (by rw[hR]<;>first|rfl|grind))),kb 0 rfl (.dt rfl (by rw[hR]<;>rfl)),trivial⟩) rfl ?_ (hbI_box rfl)
         rfl
        ·try simp only[zs]at g119
         rw[if_neg (by rw[g119];simp)]at hR
         refine .c .f<|.c .f<|.c .f<|.c .f<|.c .f<|.c .f<|.c .f<|.c .f<|.c .f<|.c .pF<|.c .a<|.nn<|.ret ?_
         obtain⟨r,hr⟩:∃r,r=(scanV d (L+1) c e):=⟨_,rfl⟩
         rw[←hr]
         rw[←hr]at hR
         refine kf_wret [eB 3 0 1,eT 8 r.1,(.b 0,.b 3 1 (dR ([rI (r.2:Nat)]))),eU 0] (Wk.keep [(0,0)] rfl rfl ⟨kX,ks rfl (.dt (vB (by rw[hR]<;>first|rfl|grind))),kb 0 rfl (.dt rfl (by rw[hR]<;>rfl)),trivial⟩) rfl ?_ (hbI_box rfl)
         rfl
theorem szE_eq (e:Ex):szE e=e.i.1.length+szC e.r+e.ks.length+szEs e.ks:=by cases e;rw[szE];rfl
theorem exprScan_fn (d:Nat):∀(L:Nat) (deep:Int) (c:Nat) (e:Ex),deep=6 -(L:Int)→L≤5→c≤12→szE e≤1099511627776→
    Fn Tryz.prog 57 (hbI (c:Nat)) [ad (rX e),nat1 (d:Nat),nat1 deep,.c (.box 0 1 0 0)] (.o (bo1 (scanV d L c e).1)) (hbI ((scanV d L c e).2:Nat))
  |0,deep,c,e,hd,hL,hc,hs=>scan_zero d hc (by omega) (by rw[szE_eq,szC]at hs;have:=szAs_len e.r.2;omega) (by omega)
  | L + 1, deep, c, e, hd, hL, hc, hs => scan_succ d hc (by omega) (by rw [szE_eq, szC] at hs; have := szAs_len e.r.2; omega) (by omega) fun x hx c hc =>
      exprScan_fn d L (deep+1) c x (by omega) (by omega) hc (by have:=szEs_mem hx;rw[szE_eq]at hs;omega)
end Go.Proofs.YtfgljkblopojgaaGreatDoor
