/- Part 2 of 7 of the proof: laws on memory and data, then what the functions compute, in the order in which they build on each other; conditions: those that each theorem names. -/
import Derived.Deep.RegionLaw
import Derived.Maps.OwnSet
import Derived.Lib.SliceRun
import Derived.Shelf.Abstract
import Derived.Deep.RegionHeld3
import Derived.IntWalk
import Derived.Laws.BitsAllLaws
import Derived.Test.YtollooimmfngjaaGreatP1
set_option maxRecDepth 100000
set_option maxHeartbeats 1600000

namespace Go.Proofs.YtollooimmfngjaaGreat
set_option linter.unusedVariables false
set_option linter.unusedSimpArgs false
open Go.RowKit
abbrev asc (inv:Inv):Nat→Nat:=oldOf inv
def renR (ρ:Nat→Nat) (rows:List (List C)):List (List C):=rows.map (·.map (C.ren ρ))
theorem renR_dR (ρ:Nat→Nat) (rows:List (List D)):renR ρ (dR rows)=dR rows:=by
  unfold renR dR
  rw[List.map_map]
  refine List.map_congr_left fun r _=>?_
  show (r.map C.d).map (C.ren ρ)=r.map C.d
  rw[List.map_map]
  rfl
def hbIn (σ:St) (inv:Inv):St→Prop
  |[]=>True
  |(.b k,.b e sz rows)::l=>lk σ (.b (asc inv k))= .b e sz (renR (asc inv) rows)∧hbIn σ inv l
  |(.u _,.u)::l=>hbIn σ inv l
  |_=>False
def outS (inv:Inv):St→St
  |[]=>[]
  |(.b k,.b e sz rows)::l=>(.b (asc inv k),.b e sz (renR (asc inv) rows))::outS inv l
  |(.u k,.u)::l=>(.u (asc inv k),.u)::outS inv l
  |_::l=>outS inv l
def killS (inv:Inv):St→St
  |[]=>[]
  |(.b k,.b _ _ _)::l=>(.b (asc inv k),.no)::killS inv l
  |_::l=>killS inv l
def keys (σ:St):List Res:=σ.map (·.1)
def numOk (σ:St) (inv:Inv) (hb hb':St):Bool:=
  inv.all (fun p=>inv.all fun q=>(Nat.beq p.1 q.1)==(Nat.beq p.2 q.2))&&
  (hb++hb').all (fun x=>match x.1 with
    | .b k=>inv.any fun p=>Nat.beq p.1 k
    | .u k=>inv.any fun p=>Nat.beq p.1 k
    | .t _=>false)&&
  hb'.all (fun x=>match x.1 with
    | .b k=>Nat.ble k 99||((match lk σ (.u (asc inv k))with | .no=>true|_=>false)&&Nat.ble 100 (asc inv k)&&(Nat.ble 1000 (asc inv k)||hb.all fun y=>match y.1 with
      | .b l=>Nat.ble 100 (asc inv l)&&Nat.ble (asc inv l) 999
      |_=>true))
    | .u k=>Nat.ble k 99||(match lk σ (.u (asc inv k))with | .no=>true|_=>false)
    | .t _=>false)
def callable (P:Program) (f:FuncId):Bool:=match P.funcs[f]? with
  |some fn=> !(fn.name== "runtime.NumGoroutine")&& !fn.body.isNone
  |none=>false
theorem run_callFunc {P:Program} {f:FuncId} (h:callable P f=true) (args:Array Value) (w:World):(callFunc f args).run P w= .ok (.enter f args) w:=by
  unfold callable at h
  cases hf:P.funcs[f]? with
  |none=>rw[hf]at h;cases h
  |some fn=>
    rw[hf]at h
    simp only[Bool.and_eq_true,Bool.not_eq_true']at h
    have h1:fn.name≠ "runtime.NumGoroutine" :=by simpa using h.1
    have h2:fn.body≠none:=by intro e;rw[e]at h;cases h.2
    simp[callFunc,hf,h1,h2]
theorem run_callV {P:Program} {f:FuncId} (h:callable P f=true) {ρ:Operand→Value} {o:Oper} {fo:Operand} {xs:Array Operand} {ts:Array TypeId} (ho:o.op= .call {callee:=.value fo,args:=xs,argTypes:=ts}) {cap:Array Value} (hf:ρ fo= .func (.func f) #[] cap) (w:World):
    (execOp ρ o).run P w= .ok (.enter f (xs.map ρ++cap)) w:=by
  simp[execOp,ho,resolve,hf,Deferred.ofValue,invoke,run_callFunc h]
section
variable {inv : Inv} {hb hb' σ : St}
theorem numOk_inj (h:numOk σ inv hb hb'=true) {p q:Nat×Nat} (hp:p∈inv) (hq:q∈inv):p.1=q.1↔p.2=q.2:=by
  simp only[numOk,Bool.and_eq_true]at h
  have:=List.all_eq_true.1 (List.all_eq_true.1 h.1.1 p hp) q hq
  simp only[beq_iff_eq]at this
  constructor
  · intro e
    rw[e,Nat.beq_refl]at this
    exact Nat.eq_of_beq_eq_true this.symm
  · intro e
    rw[e,Nat.beq_refl]at this
    exact Nat.eq_of_beq_eq_true this
theorem asc_mem (h:numOk σ inv hb hb'=true) {k l:Nat} (hm:(k,l)∈inv):asc inv k=l:=by
  show oldOf inv k=l
  unfold oldOf
  cases hf:inv.find? fun p=>Nat.beq p.1 k with
  |none=>
    have:=List.find?_eq_none.1 hf (k,l) hm
    simp at this
  |some p=>
    have h1:=List.mem_of_find?_eq_some hf
    have h2:=List.find?_some hf
    exact((numOk_inj h h1 hm).1 (Nat.eq_of_beq_eq_true h2))
def Key (inv:Inv) (k:Nat):Prop:=(k,asc inv k)∈inv
theorem key_inj (h:numOk σ inv hb hb'=true) {k l:Nat} (hk:Key inv k) (hl:Key inv l) (e:asc inv k=asc inv l):k=l:=(numOk_inj h hk hl).2 e
theorem numOk_key (h:numOk σ inv hb hb'=true) {r:Res} {x:RC} (hm:(r,x)∈hb∨(r,x)∈hb'):(∃k,r= .b k∧Key inv k)∨∃k,r= .u k∧Key inv k:=by
  have h0:=h
  simp only[numOk,Bool.and_eq_true]at h
  have h1:=List.all_eq_true.1 h.1.2 (r,x) (List.mem_append.2 hm)
  cases r with
  |t n=>cases h1
  |b k=>
    obtain⟨p,hp,h2⟩:=List.any_eq_true.1 h1
    have:=Nat.eq_of_beq_eq_true h2
    subst this
    exact .inl ⟨_,rfl,by rw[Key,asc_mem h0 hp];exact hp⟩
  |u k=>
    obtain⟨p,hp,h2⟩:=List.any_eq_true.1 h1
    have:=Nat.eq_of_beq_eq_true h2
    subst this
    exact .inr ⟨_,rfl,by rw[Key,asc_mem h0 hp];exact hp⟩
theorem key_b (h:numOk σ inv hb hb'=true) {k:Nat} {x:RC} (hm:(Res.b k,x)∈hb∨(Res.b k,x)∈hb'):Key inv k:=by
  rcases numOk_key h hm with⟨l,e,hl⟩|⟨l,e,hl⟩
  ·cases e;exact hl
  ·cases e
theorem numOk_new (h:numOk σ inv hb hb'=true) {k:Nat} {x:RC} (hm:(Res.b k,x)∈hb') (hk:100≤k):lk σ (.u (asc inv k))= .no∧100≤asc inv k∧(1000≤asc inv k∨∀l x,(Res.b l,x)∈hb→100≤asc inv l∧asc inv l<1000):=by
  simp only[numOk,Bool.and_eq_true]at h
  have h1:=List.all_eq_true.1 h.2 _ hm
  simp only[Bool.or_eq_true,Bool.and_eq_true]at h1
  rcases h1 with h1|⟨⟨h1,h2⟩,h3⟩
  ·have:=Nat.le_of_ble_eq_true h1;omega
  · refine⟨?_,Nat.le_of_ble_eq_true h2,?_⟩
    · split at h1
      ·assumption
      ·cases h1
    · rcases h3 with h3|h3
      ·exact .inl (Nat.le_of_ble_eq_true h3)
      · refine .inr fun l x hl=>?_
        have h4:=List.all_eq_true.1 h3 _ hl
        simp only[Bool.and_eq_true]at h4
        have:=Nat.le_of_ble_eq_true h4.1;have:=Nat.le_of_ble_eq_true h4.2
        omega
end
theorem hbIn_at {σ hb:St} {inv:Inv}:∀ {l:St},hbIn σ inv l→∀ {k:Nat} {e:TypeId} {sz:Nat} {rows:List (List C)},(Res.b k,RC.b e sz rows)∈l→lk σ (.b (asc inv k))= .b e sz (renR (asc inv) rows)
  |[],_,_,_,_,_,h=>by cases h
  |p::l,hk,k,e,sz,rows,h=>by
    rcases List.mem_cons.1 h with rfl|h2
    ·exact hk.1
    · clear h
      obtain⟨r,c⟩:=p
      cases r<;>cases c<;>first|exact hk.elim|exact hbIn_at (hb:=hb) hk.2 h2|exact hbIn_at (hb:=hb) (l:=l) hk h2
theorem outS_b {inv:Inv}:∀ {l:St} {m:Nat} {x:RC},(Res.b m,x)∈outS inv l→∃k e sz rows,(Res.b k,RC.b e sz rows)∈l∧m=asc inv k∧x= .b e sz (renR (asc inv) rows)
  |[],_,_,h=>by cases h
  |p::l,m,x,h=>by
    obtain⟨r,c⟩:=p
    cases r<;>cases c
    case b.b k e sz rows=>
      rcases List.mem_cons.1 h with h|h
      ·cases h;exact⟨k,e,sz,rows,List.mem_cons_self,rfl,rfl⟩
      ·obtain⟨k,e,sz,rows,h1,h2⟩:=outS_b h;exact⟨k,e,sz,rows,List.mem_cons_of_mem _ h1,h2⟩
    case u.u k=>
      rcases List.mem_cons.1 h with h|h
      ·cases h
      ·obtain⟨k,e,sz,rows,h1,h2⟩:=outS_b h;exact⟨k,e,sz,rows,List.mem_cons_of_mem _ h1,h2⟩
    all_goals (obtain⟨k,e,sz,rows,h1,h2⟩:=outS_b (l:=l) h;exact⟨k,e,sz,rows,List.mem_cons_of_mem _ h1,h2⟩)
theorem outS_u {inv:Inv}:∀ {l:St} {m:Nat} {x:RC},(Res.u m,x)∈outS inv l→∃k,(Res.u k,RC.u)∈l∧m=asc inv k∧x= .u
  |[],_,_,h=>by cases h
  |p::l,m,x,h=>by
    obtain⟨r,c⟩:=p
    cases r<;>cases c
    case b.b k e sz rows=>
      rcases List.mem_cons.1 h with h|h
      ·cases h
      ·obtain⟨k,h1,h2⟩:=outS_u h;exact⟨k,List.mem_cons_of_mem _ h1,h2⟩
    case u.u k=>
      rcases List.mem_cons.1 h with h|h
      ·cases h;exact⟨k,List.mem_cons_self,rfl,rfl⟩
      ·obtain⟨k,h1,h2⟩:=outS_u h;exact⟨k,List.mem_cons_of_mem _ h1,h2⟩
    all_goals (obtain⟨k,h1,h2⟩:=outS_u (l:=l) h;exact⟨k,List.mem_cons_of_mem _ h1,h2⟩)
def flatS (hb:St):Prop:=(∀k e sz rows,(Res.b k,RC.b e sz rows)∈hb→lk hb (.b k)= .b e sz rows)∧(∀k x,(Res.b k,x)∈hb→∃e sz rows,x= .b e sz rows)∧∀k x,(Res.u k,x)∈hb→x= .u
theorem flatS.nil:flatS []:=⟨fun k e sz rows h=>(by cases h),fun k x h=>(by cases h),fun k x h=>(by cases h)⟩
theorem flatS.cons {hb:St} (h:flatS hb) {k:Nat} {e:TypeId} {sz:Nat} {rows:List (List C)} (hk:lk hb (.b k)= .no):flatS ((.b k,.b e sz rows)::(.u k,.u)::hb):=by
  refine⟨fun l e' sz' rows' hm=>?_,fun l x hm=>?_,fun l x hm=>?_⟩
  · rcases List.mem_cons.1 hm with hm|hm
    ·cases hm;rw[lk_cons,upd_same]
    · rcases List.mem_cons.1 hm with hm|hm
      ·cases hm
      · have h1:=h.1 l e' sz' rows' hm
        have hne:l≠k:=fun e1=>by subst e1;rw[hk]at h1;cases h1
        rw[lk_cons,upd_other _ _ (by simpa using hne),lk_cons,upd_other _ _ (by simp)];exact h1
  · rcases List.mem_cons.1 hm with hm|hm
    ·cases hm;exact⟨_,_,_,rfl⟩
    · rcases List.mem_cons.1 hm with hm|hm
      ·cases hm
      ·exact h.2.1 l x hm
  · rcases List.mem_cons.1 hm with hm|hm
    ·cases hm
    · rcases List.mem_cons.1 hm with hm|hm
      ·cases hm;rfl
      ·exact h.2.2 l x hm
theorem SR.called {E:Env} {bx bxc:Nat→Nat×Nat} {τ τn:Res→RC} {a:Act} {w w':World} {hb hb':St} {ρ:Nat→Nat} {y:V} {v:Value} {K:Nat→Prop} (hs:SR E bx τ a w)
    (hpost:HPost (fun k=>bx (ρ k)) bxc (Bf E bx τ) w w' (lk hb) (lk hb') y v)
    (hin:∀k,Al (lk hb) k→Al τ (ρ k)) (hinj:∀k l,K k→K l→ρ k=ρ l→k=l) (hK:∀k,Al (lk hb) k→K k) (hK':∀k,lk hb' (.u k)≠ .no→K k)
    (hHB':HB hb') (hyK:∀k∈y.refs,K k)
    (tt:∀t,τn (.t t)=τ (.t t)) (tb:∀k e sz rows,lk hb' (.b k)= .b e sz rows→τn (.b (ρ k))= .b e sz (renR ρ rows))
    (tk:∀l e sz rows,τn (.b l)= .b e sz rows→(∃k rows0,l=ρ k∧lk hb' (.b k)= .b e sz rows0∧rows=renR ρ rows0)∨((∀k,K k→l≠ρ k)∧τ (.b l)= .b e sz rows))
    (tu:∀k,lk hb' (.u k)≠ .no→τn (.u (ρ k))≠ .no) (tu':∀l,τn (.u l)= .no→τ (.u l)= .no)
    (hnew:∀k,Al (lk hb') k→100≤k→τ (.u (ρ k))= .no∧100≤ρ k∧(1000≤ρ k∨∀l,Al (lk hb) l→100≤ρ l∧ρ l<1000)):
    ∃bxn,SR E bxn τn a w'∧Vr bxn (Al τn) (Bf E bxn τn) w' (y.ren ρ) v:=by
  have hex:∃bxn:Nat→Nat×Nat,(∀k,K k→Al (lk hb') k→bxn (ρ k)=bxc k)∧∀l,(¬ ∃k,K k∧ρ k=l∧Al (lk hb') k)→bxn l=bx l:=by
    classical
    refine⟨fun l=>if h:∃k,K k∧ρ k=l∧Al (lk hb') k then bxc (Classical.choose h)else bx l,fun k h1 h2=>?_,fun l h=>?_⟩
    · have h:∃k',K k'∧ρ k'=ρ k∧Al (lk hb') k':=⟨k,h1,rfl,h2⟩
      have h3:=Classical.choose_spec h
      show (if h:∃k',K k'∧ρ k'=ρ k∧Al (lk hb') k' then bxc (Classical.choose h)else bx (ρ k))=bxc k
      rw[dif_pos h,hinj _ _ h3.1 h1 h3.2.1]
    · show (if h:∃k',K k'∧ρ k'=l∧Al (lk hb') k' then bxc (Classical.choose h)else bx l)=bx l
      rw[dif_neg h]
  obtain⟨bxn,hbn,hbo⟩:=hex
  have hal:∀l,Al τn l→(∃k,K k∧ρ k=l∧Al (lk hb') k)∨((∀k,K k→l≠ρ k)∧Al τ l):=by
    rintro l ⟨e,sz,rows,h⟩
    rcases tk l e sz rows h with⟨k,rows0,h1,h2,_⟩|⟨h1,h2⟩
    · have h3:Al (lk hb') k:=⟨_,_,_,h2⟩
      exact .inl ⟨k,hK' k (hHB'.al k h3),h1.symm,h3⟩
    ·exact .inr ⟨h1,_,_,_,h2⟩
  have hno:∀l,(∀k,K k→l≠ρ k)→bxn l=bx l:=fun l h=>hbo l fun⟨k,h1,h2,_⟩=>h k h1 h2.symm
  have hsame:Same (Bf E bx τ) w w':=fun b hb hl=>hpost.old b hl fun k hk=>hb.2 (ρ k) (hin k hk)
  have hbf:∀b,Bf E bx τ b→b<w.heap.size→Bf E bxn τn b:=fun b hb hl=>by
    refine⟨hb.1,fun l hl' e=>?_⟩
    rcases hal l hl' with⟨k,h1,h2,h3⟩|⟨h1,h2⟩
    · subst h2
      rw[hbn k h1 h3]at e
      rcases hpost.new k h3 with h4|⟨l0,h4,h5⟩
      ·omega
      ·exact hb.2 (ρ l0) (hin l0 h4) (e.trans h5.symm)
    · rw[hno l h1]at e
      exact hb.2 l h2 e
  have href:∀k0,τ (.u k0)≠ .no→Al τn k0→Al τ k0∧bxn k0=bx k0:=fun k0 h1 h2=>by
    rcases hal k0 h2 with⟨k,h3,h4,h5⟩|⟨h3,h4⟩
    · subst h4
      by_cases h100:k<100
      · obtain⟨h6,h7⟩:=hpost.same k h100 h5
        exact⟨hin k h6,(hbn k h3 h5).trans h7⟩
      ·exact absurd (hnew k h5 (by omega)).1 h1
    ·exact⟨h4,hno k0 h3⟩
  have hbaft:∀b,Baft bxc (Bf E bx τ) w (lk hb') b→b<w'.heap.size→Bf E bxn τn b:=fun b hb _=>by
    refine⟨?_,fun l hl' e=>?_⟩
    · rcases hb.1 with h1|h1
      ·exact h1.1
      ·exact .inr (Nat.le_trans hs.hsize h1)
    · rcases hal l hl' with⟨k,h1,h2,h3⟩|⟨h1,h2⟩
      · subst h2
        rw[hbn k h1 h3]at e
        exact hb.2 k h3 e
      · rw[hno l h1]at e
        rcases hb.1 with h3|h3
        ·exact h3.2 l h2 e
        ·have:=hs.lt h2;omega
  have hto:∀k,K k→Al τn (ρ k)→Al (lk hb') k∧bxn (ρ k)=bxc k:=fun k h1 h2=>by
    rcases hal _ h2 with⟨k',h3,h4,h5⟩|⟨h3,_⟩
    · have:=hinj _ _ h3 h1 h4
      subst this
      exact⟨h5,hbn _ h3 h5⟩
    ·exact absurd rfl (h3 k h1)
  refine⟨bxn,⟨fun t x ht=>?_,fun l e sz rows hl=>?_,fun l m hl hm he=>?_,fun l hl=>⟨fun h=>?_,fun t x ht hr=>?_,fun m e sz rows hm r hr c hc hr'=>?_⟩,hs.size,hs.defers,fun l hl=>?_,hs.mtl,fun l g hm hl=>?_,hpost.os.trans hs.os,hpost.tape.trans hs.tape,hpost.output.trans hs.output,Nat.le_trans hs.hsize hpost.size,fun b hb hm=>?_⟩,Vr.ren.1 (hpost.val.to (Same.refl _ _) hbaft (fun k hk h=>hto k (hyK k hk) h))⟩
  · rw[tt]at ht
    exact(hs.slot t x ht).to hsame hbf (fun k0 hk0=>href k0 (fun hu=>(hs.unused k0 hu).2.1 t x ht hk0))
  · rcases tk l e sz rows hl with⟨k,rows0,rfl,h2,rfl⟩|⟨h1,h2⟩
    · have h3:Al (lk hb') k:=⟨_,_,_,h2⟩
      rw[hbn k (hK' k (hHB'.al k h3)) h3]
      obtain⟨cur,q1,q2,q3,q4,q5⟩:=hpost.ok.box k e sz rows0 h2
      refine⟨cur,q1,q2,by rw[renR,List.length_map];exact q3,fun i r hi=>?_,fun i r j c hi hj=>?_⟩
      · rw[renR,List.getElem?_map]at hi
        cases hr:rows0[i]? with
        |none=>rw[hr]at hi;cases hi
        |some r0=>rw[hr]at hi;cases hi;rw[List.length_map];exact q4 i r0 hr
      · rw[renR,List.getElem?_map]at hi
        cases hr:rows0[i]? with
        |none=>rw[hr]at hi;cases hi
        |some r0=>
          rw[hr]at hi;cases hi
          rw[List.getElem?_map]at hj
          cases hc:r0[j]? with
          |none=>rw[hc]at hj;cases hj
          |some c0=>
            rw[hc]at hj;cases hj
            obtain⟨u,h6,h7⟩:=q5 i r0 j c0 hr hc
            exact⟨u,h6,Cr.ren.1 (h7.to (Same.refl _ _) hbaft (fun k1 hk1 h=>hto k1 (hK' k1 (hHB'.refs k e sz rows0 h2 r0 (List.mem_of_getElem? hr) c0 (List.mem_of_getElem? hc) k1 hk1)) h))⟩
    · rw[hno l h1]
      obtain⟨cur,q1,q2,q3,q4,q5⟩:=hs.box l e sz rows h2
      have h3:Al τ l:=⟨_,_,_,h2⟩
      refine⟨cur,(hpost.old _ (hs.lt h3) (fun k hk e1=>h1 k (hK k hk) (hs.inj _ _ h3 (hin k hk) e1))).trans q1,q2,q3,q4,fun i r j c hi hj=>?_⟩
      obtain⟨u,h6,h7⟩:=q5 i r j c hi hj
      exact⟨u,h6,h7.to hsame hbf (fun k0 hk0=>href k0 (fun hu=>(hs.unused k0 hu).2.2 l e sz rows h2 r (List.mem_of_getElem? hi) c (List.mem_of_getElem? hj) hk0))⟩
  · have hsep : ∀ k m, K k → Al (lk hb') k → (∀ k, K k → m ≠ ρ k) → Al τ m → (bxc k).1 ≠ (bx m).1 := fun k m h1 h2 h3 h4 e => by
      rcases hpost.new k h2 with h5|⟨l0,h5,h6⟩
      ·have:=hs.lt h4;omega
      ·exact h3 l0 (hK l0 h5) (hs.inj _ _ h4 (hin l0 h5) (e.symm.trans h6.symm))
    rcases hal l hl with⟨k,h1,rfl,h3⟩|⟨h1,h2⟩<;>rcases hal m hm with⟨k2,g1,rfl,g3⟩|⟨g1,g2⟩
    · rw[hbn k h1 h3,hbn k2 g1 g3]at he
      rw[hpost.ok.inj k k2 h3 g3 he]
    · rw[hbn k h1 h3,hno m g1]at he
      exact absurd he (hsep k m h1 h3 g1 g2)
    · rw[hbn k2 g1 g3,hno l h1]at he
      exact absurd he.symm (hsep k2 l g1 g3 h1 h2)
    · rw[hno l h1,hno m g1]at he
      exact hs.inj l m h2 g2 he
  · rcases hal l h with⟨k,h1,rfl,h3⟩|⟨h1,h2⟩
    ·exact tu k (hHB'.al k h3) hl
    ·exact(hs.unused l (tu' l hl)).1 h2
  · rw[tt]at ht
    exact(hs.unused l (tu' l hl)).2.1 t x ht hr
  · rcases tk m e sz rows hm with⟨k,rows0,rfl,h2,rfl⟩|⟨h1,h2⟩
    · obtain⟨r0,hr0,rfl⟩:=List.mem_map.1 hr
      obtain⟨c0,hc0,rfl⟩:=List.mem_map.1 hc
      obtain⟨k1,hk1,rfl⟩:=C.refs_ren hr'
      exact tu k1 (hHB'.refs k e sz rows0 h2 r0 hr0 c0 hc0 k1 hk1) hl
    ·exact(hs.unused l (tu' l hl)).2.2 m e sz rows h2 r hr c hc hr'
  · rcases hal l hl with⟨k,h1,rfl,h3⟩|⟨h1,h2⟩
    · rw[hbn k h1 h3]
      by_cases h100:k<100
      · obtain⟨h6,h7⟩:=hpost.same k h100 h3
        rw[h7];exact hs.own (ρ k) (hin k h6)
      · obtain⟨_,h7,h8⟩:=hnew k h3 (by omega)
        rcases hpost.new k h3 with h9|⟨l0,h9,h10⟩
        ·exact .inl (Nat.le_trans hs.hsize h9)
        · rw[←h10]
          rcases hs.own (ρ l0) (hin l0 h9)with g1|⟨g1,g2⟩
          ·exact .inl g1
          · rcases h8 with h8|h8
            ·exact .inr ⟨.inr h8,g2⟩
            ·have:=h8 l0 h9;omega
    ·rw[hno l h1];exact hs.own l h2
  · rcases hal l hl with⟨k,h1,rfl,h3⟩|⟨h1,h2⟩
    · rw[hbn k h1 h3]
      by_cases h100:k<100
      · obtain⟨h6,h7⟩:=hpost.same k h100 h3
        rw[h7];exact hs.ent (ρ k) g hm (hin k h6)
      · have h7:=hs.mtl _ hm
        have h8:=(hnew k h3 (by omega)).2.1
        simp at h7;omega
    ·rw[hno l h1];exact hs.ent l g hm h2
  · refine(hpost.old b (Nat.lt_of_lt_of_le hb hs.hsize) fun k hk e=>?_).trans (hs.old b hb hm)
    rcases hs.own (ρ k) (hin k hk)with h1|⟨_,p,hp,h1⟩
    · have e':b=(bx (ρ k)).1:=e
      omega
    ·exact hm p.1 p.2 hp (e.trans h1.symm)
theorem lk_app_o:∀ {l1 l2:St} {r:Res},r∉keys l1→lk (l1++l2) r=lk l2 r
  |[],_,_,_=>rfl
  |(q,x)::l,l2,r,h=>by
    simp only[keys,List.map_cons,List.mem_cons,not_or]at h
    rw[List.cons_append,lk_cons,upd_other _ _ h.1]
    exact lk_app_o h.2
theorem lk_app_s:∀ {l1 l2:St} {r:Res},r∈keys l1→lk (l1++l2) r=lk l1 r
  |[],_,_,h=>by cases h
  |(q,x)::l,l2,r,h=>by
    rw[List.cons_append,lk_cons,lk_cons]
    by_cases e:r=q
    ·subst e;rw[upd_same,upd_same]
    · rw[upd_other _ _ e,upd_other _ _ e]
      simp only[keys,List.map_cons,List.mem_cons]at h
      exact lk_app_s (h.resolve_left e)
theorem lk_key:∀ {l:St} {r:Res},r∈keys l→(r,lk l r)∈l
  |[],_,h=>by cases h
  |(q,x)::l,r,h=>by
    rw[lk_cons]
    by_cases e:r=q
    ·subst e;rw[upd_same];exact List.mem_cons_self
    · rw[upd_other _ _ e]
      simp only[keys,List.map_cons,List.mem_cons]at h
      exact List.mem_cons_of_mem _ (lk_key (h.resolve_left e))
theorem key_of {l:St} {r:Res} {x:RC} (h:(r,x)∈l):r∈keys l:=List.mem_map.2 ⟨_,h,rfl⟩
theorem outS_b' {inv:Inv}:∀ {l:St} {k:Nat} {e:TypeId} {sz:Nat} {rows:List (List C)},(Res.b k,RC.b e sz rows)∈l→(Res.b (asc inv k),RC.b e sz (renR (asc inv) rows))∈outS inv l
  |[],_,_,_,_,h=>by cases h
  |p::l,k,e,sz,rows,h=>by
    rcases List.mem_cons.1 h with rfl|h2
    ·exact List.mem_cons_self
    · clear h
      obtain⟨r,c⟩:=p
      cases r<;>cases c<;>first|exact List.mem_cons_of_mem _ (outS_b' h2)|exact outS_b' (l:=l) h2
theorem outS_u' {inv:Inv}:∀ {l:St} {k:Nat},(Res.u k,RC.u)∈l→(Res.u (asc inv k),RC.u)∈outS inv l
  |[],_,h=>by cases h
  |p::l,k,h=>by
    rcases List.mem_cons.1 h with rfl|h2
    ·exact List.mem_cons_self
    · clear h
      obtain⟨r,c⟩:=p
      cases r<;>cases c<;>first|exact List.mem_cons_of_mem _ (outS_u' h2)|exact outS_u' (l:=l) h2
theorem killS_b {inv:Inv}:∀ {l:St} {r:Res} {x:RC},(r,x)∈killS inv l→x= .no∧∃k e sz rows,(Res.b k,RC.b e sz rows)∈l∧r= .b (asc inv k)
  |[],_,_,h=>by cases h
  |p::l,r',x,h=>by
    obtain⟨r,c⟩:=p
    cases r<;>cases c
    case b.b k e sz rows=>
      rcases List.mem_cons.1 h with h|h
      ·cases h;exact⟨rfl,k,e,sz,rows,List.mem_cons_self,rfl⟩
      ·obtain⟨h0,k,e,sz,rows,h1,h2⟩:=killS_b h;exact⟨h0,k,e,sz,rows,List.mem_cons_of_mem _ h1,h2⟩
    all_goals (obtain⟨h0,k,e,sz,rows,h1,h2⟩:=killS_b (l:=l) h;exact⟨h0,k,e,sz,rows,List.mem_cons_of_mem _ h1,h2⟩)
theorem killS_b' {inv:Inv}:∀ {l:St} {k:Nat} {e:TypeId} {sz:Nat} {rows:List (List C)},(Res.b k,RC.b e sz rows)∈l→Res.b (asc inv k)∈keys (killS inv l)
  |[],_,_,_,_,h=>by cases h
  |p::l,k,e,sz,rows,h=>by
    rcases List.mem_cons.1 h with rfl|h2
    ·exact List.mem_cons_self
    · clear h
      obtain⟨r,c⟩:=p
      cases r<;>cases c<;>first|exact List.mem_cons_of_mem _ (killS_b' h2)|exact killS_b' (l:=l) h2
def pairs:St→Bool
  |[]=>true
  |(.b k,.b _ _ _)::(.u l,.u)::r=>Nat.beq k l&&pairs r
  |_=>false
theorem pairs_u:∀ {l:St},pairs l=true→∀ {k:Nat} {x:RC},(Res.u k,x)∈l→∃e sz rows,(Res.b k,RC.b e sz rows)∈l
  |[],_,k,x,h=>by cases h
  |[p],hp,k,x,h=>by obtain⟨r,c⟩:=p;cases r<;>cases c<;>cases hp
  |p::q::l,hp,k,x,h=>by
    obtain⟨r,c⟩:=p
    obtain⟨r2,c2⟩:=q
    cases r<;>cases c<;>cases r2<;>cases c2<;>first
      |(cases hp;done)
      | (rename_i k0 e sz rows k1
         rw[pairs,Bool.and_eq_true]at hp
         have hk:=Nat.eq_of_beq_eq_true hp.1
         subst hk
         rcases List.mem_cons.1 h with h|h
         ·cases h
         · rcases List.mem_cons.1 h with h|h
           ·cases h;exact⟨_,_,_,List.mem_cons_self⟩
           · obtain⟨e,sz,rows,h⟩:=pairs_u hp.2 h
             exact⟨e,sz,rows,List.mem_cons_of_mem _ (List.mem_cons_of_mem _ h)⟩)
def fnx:C→Option (FuncId×List V1)
  | .fn f cap=>some (f,cap.map fun c=>.c (.ptr c))
  | .fb f k sz=>some (f,[.c (.box k sz 0 0)])
  |_=>none
theorem fnx_ok {bx:Nat→Nat×Nat} {al B:Nat→Prop} {w:World} {fc:C} {f:FuncId} {ex:List V1} {v:Value} (h:fnx fc=some (f,ex)) (hv:Cr bx al B w fc v):∃cvs:List Value,v= .func (.func f) #[] cvs.toArray∧cvs.length=ex.length∧∀(i:Nat) x u,ex[i]?=some x→cvs[i]?=some u→V1r bx al B w x u:=by
  cases fc with
  |fn f cap=>
    cases h
    obtain⟨vs,rfl,hl,h⟩:=hv
    refine⟨vs,rfl,by rw[hl,List.length_map],fun i x u hx hu=>?_⟩
    rw[List.getElem?_map]at hx
    cases hc:cap[i]? with
    |none=>rw[hc]at hx;cases hx
    |some c=>rw[hc]at hx;cases hx;exact h i c u hc hu
  |fb f k sz=>
    cases h
    obtain⟨u,rfl,h1,h⟩:=hv
    refine⟨[u],rfl,rfl,fun i x u' hx hu=>?_⟩
    cases i with
    |zero=>cases hx;cases hu;exact⟨h1,fun hk=>by rw[h hk];simp⟩
    |succ i=>simp at hx
  |d x=>cases h
  |ptr c=>cases h
  |box k sz i j=>cases h
  |own k sz n=>cases h
  |off k sz i n=>cases h
theorem St1.callX {P:Program} {n:Nat} {ops:Array Oper} {o:Oper} {σ:St} {d:Nat} {fo:Operand} {ar:Array Operand} {ts:Array TypeId} {xs:List Operand} {vs:List V1} {fc:C} {f:FuncId} {ex:List V1} {hb hb':St} {args:List V1} {y:V} (inv:Inv)
    (ho:o.op= .call {callee:=.value fo,args:=ar,argTypes:=ts}) (hg:o.guard=none) (hd:o.dst=some d) (hn:Nat.blt d n=true) (has:ar=xs.toArray) (hfo:ev σ fo=some (.o (.c fc))) (hfx:fnx fc=some (f,ex)) (hcall:callable P f=true) (hx:evL σ xs=some vs) (hF:Fn P f hb args y hb')
    (hargs:args.map (V1.ren (asc inv))=vs++ex) (hbox:hbIn σ inv hb) (hnum:numOk σ inv hb hb'=true) (hfl:flatS hb) (hfl':flatS hb') (hHB':HB hb') (hpr:pairs hb'=true) (hy:(y.refs.all fun k=>match lk hb' (.u k)with | .u=>true|_=>false)=true):
    St1 P n ops o σ ((rd fo++rdL xs)++(keys (outS inv hb')++keys (killS inv hb))) (.t d::(keys (outS inv hb')++keys (killS inv hb))) ((.t d,.v (y.ren (asc inv)))::(outS inv hb'++(killS inv hb++σ))):=by
  have hdis:∀r,r∉keys (outS inv hb')++keys (killS inv hb)→lk (outS inv hb'++(killS inv hb++σ)) r=lk σ r:=fun r hr=>by
    rw[List.mem_append,not_or]at hr
    rw[lk_app_o hr.1,lk_app_o hr.2]
  refine⟨fun r hr=>?_,fun E bx τ a w hE hR hs=>OW.plain hg fun Q=>?_⟩
  · rw[List.mem_cons,not_or]at hr
    rw[lk_other _ _ _ _ (fun e=>hr.1 e.symm)]
    exact hdis r hr.2
  · have hR1:∀r∈rd fo,τ r=lk σ r:=rd_l (rd_l hR)
    have hR2:∀r∈rdL xs,τ r=lk σ r:=rd_r (rd_l hR)
    have hR3:∀r∈keys (outS inv hb')++keys (killS inv hb),τ r=lk σ r:=rd_r hR
    obtain⟨cvs,hfe,hcl,hcv⟩:=fnx_ok hfx (ev_ok hfo hR1 hs).1
    obtain⟨⟨q1,q2⟩,_⟩:=evL_ok hx hR2 hs
    subst has
    -- the boxes that are handed
    have hmem:∀k e sz rows,lk hb (.b k)= .b e sz rows→(Res.b k,RC.b e sz rows)∈hb:=fun k e sz rows h=>lk_mem h (by simp)
    have hmem':∀k e sz rows,lk hb' (.b k)= .b e sz rows→(Res.b k,RC.b e sz rows)∈hb':=fun k e sz rows h=>lk_mem h (by simp)
    have hτ:∀k e sz rows,lk hb (.b k)= .b e sz rows→τ (.b (asc inv k))= .b e sz (renR (asc inv) rows):=fun k e sz rows h=>by
      rw[hR3 _ (List.mem_append_right _ (killS_b' (hmem k e sz rows h)))]
      exact hbIn_at (hb:=hb) hbox (hmem k e sz rows h)
    have hin:∀k,Al (lk hb) k→Al τ (asc inv k):=fun k ⟨e,sz,rows,h⟩=>⟨e,sz,_,hτ k e sz rows h⟩
    have hkey:∀k,Al (lk hb) k→Key inv k:=fun k ⟨e,sz,rows,h⟩=>key_b hnum (.inl (hmem k e sz rows h))
    have hto:∀k,Al (lk hb) k→Al τ (asc inv k)∧bx (asc inv k)=bx (asc inv k):=fun k hk=>⟨hin k hk,rfl⟩
    have hHOk:HOk (fun k=>bx (asc inv k)) (Bf E bx τ) w (lk hb):=by
      refine⟨fun k e sz rows h=>?_,fun k l hk hl e=>key_inj hnum (hkey k hk) (hkey l hl) (hs.inj _ _ (hin k hk) (hin l hl) e),fun k hk hB=>hB.2 _ (hin k hk) rfl⟩
      obtain⟨cur,h1,h2,h3,h4,h5⟩:=hs.box _ e sz _ (hτ k e sz rows h)
      refine⟨cur,h1,h2,by rw[renR,List.length_map]at h3;exact h3,fun i r hi=>?_,fun i r j c hi hj=>?_⟩
      ·have:=h4 i (r.map (C.ren (asc inv))) (by rw[renR,List.getElem?_map,hi];rfl);rwa[List.length_map]at this
      · obtain⟨u,h6,h7⟩:=h5 i (r.map (C.ren (asc inv))) j (c.ren (asc inv)) (by rw[renR,List.getElem?_map,hi];rfl) (by rw[List.getElem?_map,hj];rfl)
        exact⟨u,h6,(Cr.ren.2 h7).to (Same.refl _ _) (fun _ h _=>h) (fun k _ hk=>hto k hk)⟩
    have hvals:Vals (V1r (fun k=>bx (asc inv k)) (Al (lk hb)) (Bf E bx τ) w) args (xs.map a.eval++cvs):=by
      have hlen:args.length=vs.length+ex.length:=by have:=congrArg List.length hargs;simpa using this
      refine⟨by rw[List.length_append,q1,hcl,hlen],fun i x v hx hv=>?_⟩
      have hxi:(vs++ex)[i]?=some (x.ren (asc inv)):=by rw[←hargs,List.getElem?_map,hx];rfl
      have h1:V1r bx (Al τ) (Bf E bx τ) w (x.ren (asc inv)) v:=by
        rw[List.getElem?_append]at hxi hv
        by_cases hi:i<vs.length
        · rw[if_pos hi]at hxi
          rw[if_pos (by rw[q1];exact hi)]at hv
          exact q2 i _ v hxi hv
        · rw[if_neg hi]at hxi
          rw[if_neg (by rw[q1];exact hi),q1]at hv
          exact hcv _ _ v hxi hv
      exact(V1r.ren.2 h1).to (Same.refl _ _) (fun _ h _=>h) (fun k _ hk=>hto k hk)
    unfold Oper.wp
    rw[run_callV hcall ho hfe w,Oper.upon_enter,hd,show xs.toArray.map a.eval++cvs.toArray=(xs.map a.eval++cvs).toArray by simp]
    refine(hF (Bf E bx τ) (fun k=>bx (asc inv k)) w _ hHOk hvals).mono ?_
    rintro e w' ⟨v,bxc,rfl,hpost⟩
    -- the state behind it
    let Kk:Nat→Prop:=fun k=>(∃e sz rows,(Res.b k,RC.b e sz rows)∈hb)∨∃e sz rows,(Res.b k,RC.b e sz rows)∈hb'
    have hKkey:∀k,Kk k→Key inv k:=fun k h=>by
      rcases h with⟨e,sz,rows,h⟩|⟨e,sz,rows,h⟩
      ·exact key_b hnum (.inl h)
      ·exact key_b hnum (.inr h)
    have hKu:∀k,lk hb' (.u k)≠ .no→Kk k:=fun k h=>.inr (pairs_u hpr (lk_mem rfl h))
    have hτm:∀r,ovr τ (keys (outS inv hb')++keys (killS inv hb)) (outS inv hb'++(killS inv hb++σ)) r=if r∈keys (outS inv hb')then lk (outS inv hb') r else if r∈keys (killS inv hb)then .no else τ r:=fun r=>by
      unfold ovr
      by_cases h1:r∈keys (outS inv hb')
      ·rw[if_pos (List.mem_append_left _ h1),if_pos h1,lk_app_s h1]
      · rw[if_neg h1]
        by_cases h2:r∈keys (killS inv hb)
        ·rw[if_pos (List.mem_append_right _ h2),if_pos h2,lk_app_o h1,lk_app_s h2,(killS_b (lk_key h2)).1]
        ·rw[if_neg (by rw[List.mem_append];exact fun h=>h.elim h1 h2),if_neg h2]
    have hob:∀k e sz rows,(Res.b k,RC.b e sz rows)∈hb'→lk (outS inv hb') (.b (asc inv k))= .b e sz (renR (asc inv) rows):=fun k e sz rows h=>by
      obtain⟨k2,e2,sz2,rows2,h1,h2,h3⟩:=outS_b (lk_key (key_of (outS_b' (inv:=inv) h)))
      have hk:k2=k:=key_inj hnum (key_b hnum (.inr h1)) (key_b hnum (.inr h)) h2.symm
      subst hk
      have h4:=hfl'.1 _ _ _ _ h
      rw[hfl'.1 _ _ _ _ h1]at h4
      cases h4
      exact h3
    obtain⟨bxn,hsn,hvn⟩:=SR.called (τn:=ovr τ (keys (outS inv hb')++keys (killS inv hb)) (outS inv hb'++(killS inv hb++σ))) (ρ:=asc inv) (K:=Kk) hs hpost hin (fun k l hk hl e=>key_inj hnum (hKkey k hk) (hKkey l hl) e) (fun k ⟨e,sz,rows,h⟩=>.inl ⟨e,sz,rows,hmem k e sz rows h⟩) hKu hHB'
      (fun k hk=>hKu k (by
        have:=List.all_eq_true.1 hy k hk
        intro e;rw[e]at this;cases this))
      (fun t=>by
        rw[hτm]
        rw[if_neg (fun h=>?_),if_neg (fun h=>?_)]
        ·obtain⟨_,k,e,sz,rows,_,h2⟩:=killS_b (lk_key h);cases h2
        · have hm:=lk_key h
          generalize lk (outS inv hb') (.t t)=x at hm
          exact(show ∀ {l:St} {x:RC},(Res.t t,x)∉outS inv l from by
            intro l
            induction l with
            |nil=>intro x h;cases h
            |cons p l ih=>
              intro x h
              obtain⟨r,c⟩:=p
              cases r<;>cases c<;>first
                |(rcases List.mem_cons.1 h with h|h;(cases h);exact ih h)
                |exact ih h) hm)
      (fun k e sz rows h=>by
        have hm:=hmem' k e sz rows h
        rw[hτm,if_pos (key_of (outS_b' hm))]
        exact hob k e sz rows hm)
      (fun l e sz rows h=>by
        rw[hτm]at h
        by_cases h1:Res.b l∈keys (outS inv hb')
        · rw[if_pos h1]at h
          obtain⟨k,e2,sz2,rows2,g1,g2,g3⟩:=outS_b (lk_key h1)
          rw[h]at g3
          cases g3
          exact .inl ⟨k,rows2,g2,hfl'.1 _ _ _ _ g1,rfl⟩
        · rw[if_neg h1]at h
          by_cases h2:Res.b l∈keys (killS inv hb)
          ·rw[if_pos h2]at h;cases h
          · rw[if_neg h2]at h
            refine .inr ⟨fun k hk e1=>?_,h⟩
            subst e1
            rcases hk with⟨e,sz,rows,hk⟩|⟨e,sz,rows,hk⟩
            ·exact h2 (killS_b' hk)
            ·exact h1 (key_of (outS_b' hk)))
      (fun k h=>by
        have hm:(Res.u k,lk hb' (.u k))∈hb':=lk_mem rfl h
        have hu:=hfl'.2.2 _ _ hm
        rw[hu]at hm
        have h1:=key_of (outS_u' (inv:=inv) hm)
        rw[hτm,if_pos h1]
        obtain⟨_,_,_,h2⟩:=outS_u (lk_key h1)
        rw[h2];exact fun e=>by cases e)
      (fun l h=>by
        rw[hτm]at h
        by_cases h1:Res.u l∈keys (outS inv hb')
        · rw[if_pos h1]at h
          obtain⟨_,_,_,h2⟩:=outS_u (lk_key h1)
          rw[h]at h2;cases h2
        · rw[if_neg h1,if_neg (fun h2=>by obtain⟨_,k,e,sz,rows,_,h3⟩:=killS_b (lk_key h2);cases h3)]at h
          exact h)
      (fun k ⟨e,sz,rows,h⟩ h100=>by
        have hm:=hmem' k e sz rows h
        obtain⟨h1,h2,h3⟩:=numOk_new hnum hm h100
        have hmu:(Res.u k,lk hb' (.u k))∈hb':=lk_mem rfl (hHB'.al k ⟨e,sz,rows,h⟩)
        have hu:=hfl'.2.2 _ _ hmu
        rw[hu]at hmu
        refine⟨(hR3 _ (List.mem_append_left _ (key_of (outS_u' hmu)))).trans h1,h2,h3.imp id fun h4 l ⟨e',sz',rows',hl⟩=>h4 l _ (hmem l _ _ _ hl)⟩)
    have hyu:∀l∈(y.ren (asc inv)).refs,ovr τ (keys (outS inv hb')++keys (killS inv hb)) (outS inv hb'++(killS inv hb++σ)) (.u l)≠ .no:=fun l hl=>by
      obtain⟨k,hk,rfl⟩:=V.refs_ren hl
      have h0:lk hb' (.u k)≠ .no:=by
        have:=List.all_eq_true.1 hy k hk
        intro e;rw[e]at this;cases this
      have hm:(Res.u k,lk hb' (.u k))∈hb':=lk_mem rfl h0
      have hu:=hfl'.2.2 _ _ hm
      rw[hu]at hm
      have h1:=key_of (outS_u' (inv:=inv) hm)
      rw[hτm,if_pos h1]
      obtain⟨_,_,_,h2⟩:=outS_u (lk_key h1)
      rw[h2];exact fun e=>by cases e
    refine⟨bxn,?_⟩
    have e1:ovr τ (.t d::(keys (outS inv hb')++keys (killS inv hb))) ((.t d,.v (y.ren (asc inv)))::(outS inv hb'++(killS inv hb++σ)))=upd (ovr τ (keys (outS inv hb')++keys (killS inv hb)) (outS inv hb'++(killS inv hb++σ))) (.t d) (.v (y.ren (asc inv))):=by
      funext r
      by_cases hr:r= .t d
      ·subst hr;rw[upd_same];simp[ovr,lk_same]
      · rw[upd_other _ _ hr]
        unfold ovr
        by_cases h1:r∈keys (outS inv hb')++keys (killS inv hb)
        ·rw[if_pos h1,if_pos (List.mem_cons_of_mem _ h1),lk_other _ _ _ _ (fun e=>hr e.symm)]
        ·rw[if_neg h1,if_neg (fun h=>(List.mem_cons.1 h).elim hr h1)]
    rw[e1]
    exact hsn.put (by rw[hE];simpa using hn) hvn hyu
theorem St1.call {P:Program} {n:Nat} {ops:Array Oper} {o:Oper} {σ:St} {d:Nat} {fo:Operand} {ar:Array Operand} {ts:Array TypeId} {xs:List Operand} {vs:List V1} {f:FuncId} {cap:List (List D)} {hb hb':St} {args:List V1} {y:V} (inv:Inv)
    (ho:o.op= .call {callee:=.value fo,args:=ar,argTypes:=ts}) (hg:o.guard=none) (hd:o.dst=some d) (hn:Nat.blt d n=true) (has:ar=xs.toArray) (hfo:ev σ fo=some (.o (.c (.fn f cap)))) (hcall:callable P f=true) (hx:evL σ xs=some vs) (hF:Fn P f hb args y hb')
    (hargs:args.map (V1.ren (asc inv))=vs++cap.map fun c=>.c (.ptr c)) (hbox:hbIn σ inv hb) (hnum:numOk σ inv hb hb'=true) (hfl:flatS hb) (hfl':flatS hb') (hHB':HB hb') (hpr:pairs hb'=true) (hy:(y.refs.all fun k=>match lk hb' (.u k)with | .u=>true|_=>false)=true):
    St1 P n ops o σ ((rd fo++rdL xs)++(keys (outS inv hb')++keys (killS inv hb))) (.t d::(keys (outS inv hb')++keys (killS inv hb))) ((.t d,.v (y.ren (asc inv)))::(outS inv hb'++(killS inv hb++σ))):=
  St1.callX inv ho hg hd hn has hfo rfl hcall hx hF hargs hbox hnum hfl hfl' hHB' hpr hy
theorem outS_one {inv:Inv} {k:Nat} {e:TypeId} {sz:Nat} {rows:List (List D)}:outS inv [(.b k,.b e sz (dR rows)),(.u k,.u)]=[(.b (asc inv k),.b e sz (dR rows)),(.u (asc inv k),.u)]:=by simp[outS,renR_dR]
theorem St1.callO {P:Program} {n:Nat} {ops:Array Oper} {o:Oper} {σ:St} {d:Nat} {fo:Operand} {ar:Array Operand} {ts:Array TypeId} {xs:List Operand} {vs:List V1} {f:FuncId} {cap:List (List D)} {hb hb':St} {args:List V1} {y:V} {out:St} (inv:Inv)
    (ho:o.op= .call {callee:=.value fo,args:=ar,argTypes:=ts}) (hg:o.guard=none) (hd:o.dst=some d) (hn:Nat.blt d n=true) (has:ar=xs.toArray) (hfo:ev σ fo=some (.o (.c (.fn f cap)))) (hcall:callable P f=true) (hx:evL σ xs=some vs) (hF:Fn P f hb args y hb')
    (hargs:args.map (V1.ren (asc inv))=vs++cap.map fun c=>.c (.ptr c)) (hbox:hbIn σ inv hb) (hnum:numOk σ inv hb hb'=true) (hfl:flatS hb) (hfl':flatS hb') (hHB':HB hb') (hpr:pairs hb'=true) (hy:(y.refs.all fun k=>match lk hb' (.u k)with | .u=>true|_=>false)=true) (hout:outS inv hb'=out):
    St1 P n ops o σ ((rd fo++rdL xs)++(keys out++keys (killS inv hb))) (.t d::(keys out++keys (killS inv hb))) ((.t d,.v (y.ren (asc inv)))::(out++(killS inv hb++σ))):=by
  subst hout
  exact St1.call inv ho hg hd hn has hfo hcall hx hF hargs hbox hnum hfl hfl' hHB' hpr hy
theorem St1.callP {P:Program} {n:Nat} {ops:Array Oper} {o:Oper} {σ:St} {d:Nat} {fo:Operand} {ar:Array Operand} {ts:Array TypeId} {xs:List Operand} {vs:List V1} {f:FuncId} {cap:List (List D)} {y:V}
    (ho:o.op= .call {callee:=.value fo,args:=ar,argTypes:=ts}) (hg:o.guard=none) (hd:o.dst=some d) (hn:Nat.blt d n=true) (has:ar=xs.toArray) (hfo:ev σ fo=some (.o (.c (.fn f cap)))) (hcall:callable P f=true) (hx:evL σ xs=some vs) (hF:Fn P f [] (vs++cap.map fun c=>.c (.ptr c)) y [])
    (hy:y.refs=[]):St1 P n ops o σ (rd fo++rdL xs) [.t d] ((.t d,.v y)::σ):=by
  have hid:∀c:C,c.ren (asc [])=c:=fun c=>by cases c<;>rfl
  have hid1:∀x:V1,x.ren (asc [])=x:=fun x=>by
    cases x with
    |c c=>exact congrArg V1.c (hid c)
    |agg cs=>exact congrArg V1.agg (List.map_id'' hid cs)
  have hid2:y.ren (asc [])=y:=by
    cases y with
    |o x=>exact congrArg V.o (hid1 x)
    |tup xs=>exact congrArg V.tup (List.map_id'' hid1 xs)
    |gh S=>rfl
  have:=St1.call (ops:=ops) (n:=n) (σ:=σ) (hb:=[]) (hb':=[]) [] ho hg hd hn has hfo hcall hx hF (List.map_id'' hid1 _) trivial rfl flatS.nil flatS.nil HB.nil rfl (by rw[hy];rfl)
  rw[hid2]at this
  simpa [keys,outS,killS]using this
/-! ### A region in any order, operation by operation -/
def RunK (P:Program) (n:Nat) (ops:Array Oper) (l:List Oper) (σ:St) (acc:List (List Res×List Res×St)) (G:List (List Res×List Res×St)→St→Prop):Prop:=∃tr σ',Run P n ops l σ tr σ'∧G (acc++tr) σ'
section
variable {P : Program} {n : Nat} {ops : Array Oper} {l : List Oper} {o : Oper} {σ σ' : St} {R W : List Res} {acc : List (List Res × List Res × St)} {G : List (List Res × List Res × St) → St → Prop}
theorem RunK.nil (h:G acc σ):RunK P n ops [] σ acc G:=⟨[],σ,.nil σ,by rw[List.append_nil];exact h⟩
theorem RunK.cons (h:St1 P n ops o σ R W σ') (k:RunK P n ops l σ' (acc++[(R,W,σ')]) G):RunK P n ops (o::l) σ acc G:=by
  obtain⟨tr,σ2,h1,h2⟩:=k
  exact⟨_,σ2,.cons h h1,by simpa using h2⟩
theorem RunK.same {σ1:St} (he:lk σ1=lk σ) (h:RunK P n ops (o::l) σ1 acc G):RunK P n ops (o::l) σ acc G:=by
  obtain⟨tr,σ2,h1,h2⟩:=h
  cases h1 with
  |cons h k=>exact⟨_,σ2,.cons ⟨fun r hr=>by rw[←he];exact h.1 r hr,fun E bx τ a w hE hR hs=>h.2 E bx τ a w hE (fun r hr=>by rw[he];exact hR r hr) hs⟩ k,h2⟩
theorem RunK.cases (t:Nat) (b:Bool) (hv:lk σ (.t t)= .v (.o (bo1 b))) (h1:b=true→RunK P n ops (o::l) ((.t t,.v (.o (bo1 true)))::σ) acc G) (h0:b=false→RunK P n ops (o::l) ((.t t,.v (.o (bo1 false)))::σ) acc G):RunK P n ops (o::l) σ acc G:=by
  have e:∀c,b=c→lk ((.t t,.v (.o (bo1 c)))::σ)=lk σ:=by
    rintro c rfl
    funext r
    rw[lk_cons]
    by_cases h:r= .t t
    ·subst h;rw[upd_same,hv]
    ·rw[upd_other _ _ h]
  cases b
  ·exact RunK.same (e false rfl) (h0 rfl)
  ·exact RunK.same (e true rfl) (h1 rfl)
theorem ACode.drawK {id:Nat} {K:Exit→St→Prop} (hm:P.follows .mixedOrders=true) (he:edgesOk l.toArray 0 l=true) (h:RunK P n l.toArray l σ [] (fun tr σ'=>chk l.toArray 0 tr=true∧K .normal σ')):ACode P n (.region id l.toArray true) K σ:=by
 obtain⟨tr,σ',h1,h2,h3⟩:=h
 exact ACode.draw hm h1 h2 he h3
end
def OwnI (B:Nat) (w:World) (v:Value) (xs:List Int):Prop:=OwnL Sh.int 3 B 0 w v xs
section
variable {B B' C : Nat} {P : Nat → Prop} {w w' : World} {v v' : Value} {xs ys : List Int} {a : Option Addr} {n c : Nat}
theorem OwnI.nil (B:Nat) (w:World):OwnI B w (.slice none 0 0) []:=OwnL.nil _ _ _ _ _
theorem OwnI.frame (h:OwnI B w v xs) (hv:∀k,v.ownBlock=some k→w'.heap[k]?=w.heap[k]?):OwnI B w' v xs:=by
  obtain⟨css,h1,h2,h3⟩:=h
  exact⟨css,h1,h2.frame hv,fun i x cs hx hc=>h3 i x cs hx hc⟩
theorem OwnI.lt (h:OwnI B w v xs):∀g,v.ownBlock=some g→B≤g∧g<w.heap.size:=OwnL.lt h
theorem OwnI.below (h:OwnI B w v xs) (hb:Below w.heap.size w w'):OwnI B w' v xs:=h.frame fun k hk=>hb.block k (h.lt k hk).2
theorem OwnI.belowLt {D:Nat} (h:OwnI B w v xs) (hb:Below D w w') (hD:∀k,v.ownBlock=some k→k<D):OwnI B w' v xs:=h.frame fun k hk=>hb.block k (hD k hk)
theorem OwnI.alloc (h:OwnI B w v xs) (o:Obj):OwnI B (w.alloc o) v xs:=h.below ((Below.refl _ _).alloc (Nat.le_refl _) o)
theorem OwnI.drewN {m:Nat} (h:OwnI B w v xs):OwnI B (w.drewN m) v xs:=h.below (belowN (Below.refl _ _))
theorem OwnI.drew (h:OwnI B w v xs):OwnI B w.drew v xs:=h.below ((Below.refl _ _).drew)
theorem OwnI.quiet (h:OwnI B w v xs) (hq:Quiet w w'):OwnI B w' v xs:=h.below (hq.below _)
theorem OwnI.grown {r:Option Nat} (h:OwnI B w v xs) (hg:w.grownBy w' r) (hv:∀g,r=some g→v.ownBlock≠some g):OwnI B w' v xs:=
  h.frame (fun k hk=>hg.block k (h.lt k hk).2 (fun e=>hv k e.symm hk))
theorem OwnI.base (h:OwnI B w v xs) (hB:B'≤B):OwnI B' w v xs:=OwnL.base h hB (Nat.le_refl _)
theorem OwnI.shape (h:OwnI B w v xs):∃a cap,v= .slice a xs.length cap∧xs.length≤cap:=OwnL.shape h
theorem OwnI.len (h:OwnI B w (.slice a n c) xs):xs.length=n:=by
  obtain⟨a',c',e,_⟩:=h.shape
  simp only[Value.slice.injEq]at e
  exact e.2.1.symm
theorem OwnI.sl (h:OwnI B w v xs) (hn:xs.length≤17592186044416):Sl Sh.int (fun b=>v.ownBlock=some b) w v xs:=by
  obtain⟨css,h1,h2,h3⟩:=h
  have h':OwnL Sh.int 3 B 0 w v xs:=⟨css,h1,h2,h3⟩
  have hs:=h'.sl hn (P:=fun _=>True) (fun _ _ _=>trivial) (fun _ _=>trivial)
  obtain⟨a,cap,rfl,e1,e2,e3,e4⟩:=hs
  refine⟨a,cap,rfl,e1,e2,e3,fun i x hx=>?_⟩
  obtain⟨b,off,cs,rfl,_,hr,hc⟩:=e4 i x hx
  exact⟨b,off,cs,rfl,rfl,hr,hc⟩
theorem OwnI.at (h:OwnI B w (.slice a n c) xs) (hn:0<n):∃g off,a=some ⟨g,off,none⟩∧B≤g∧g<w.heap.size∧n≤c∧(∀j,j<n→w.cell? ⟨g,off+j,none⟩=some (.int .i64 (xs.getD j 0)))∧∀j,w.frozen? ⟨g,j,none⟩=false:=by
  obtain⟨hl,g,off,ha,hB,hg,hc,hf,h1⟩:=OwnL.at h hn
  refine⟨g,off,ha,hB,hg,hc,fun j hj=>?_,hf⟩
  obtain⟨cs,hr,hcell⟩:=h1 j (xs.getD j 0) (by rw[List.getD,List.getElem?_eq_getElem (by omega)];rfl)
  have:cs=[.int .i64 (xs.getD j 0)]:=hr
  subst this
  have:=hcell 0 _ rfl
  simpa [Sh.int]using this
theorem sl_ints (h:Sl Sh.int P w (.slice a n c) xs):IntsA w a n c xs:=by
  refine⟨h.len,h.le.1,h.le.2,fun i hi=>?_⟩
  obtain⟨b,off,ha,_,_,hc⟩:=h.at (by omega)
  have hl:=h.len
  obtain⟨cs,hr,hcell⟩:=hc i (xs.getD i 0) (by rw[List.getD,List.getElem?_eq_getElem (by omega)];rfl)
  have:cs=[.int .i64 (xs.getD i 0)]:=hr
  subst this
  have:=hcell 0 _ rfl
  exact⟨b,off,ha,by simpa [Sh.int]using this⟩
theorem Sl.intAt (h:Sl Sh.int P w (.slice a n c) xs) (hn:0<n):∃b off,a=some ⟨b,off,none⟩∧P b∧b<w.heap.size∧∀i,i<n→w.cell? ⟨b,off+i,none⟩=some (.int .i64 (xs.getD i 0)):=by
  obtain⟨b,off,ha,hb,hlt,_⟩:=h.at hn
  refine⟨b,off,ha,hb,hlt,fun i hi=>?_⟩
  obtain⟨b',off',e,hc⟩:=(sl_ints h).2.2.2 i hi
  rw[ha]at e
  cases e
  exact hc
theorem OwnI.made (w:World) (vs:List Int) (hB:B≤w.heap.size) (hn:vs.length≤17592186044416):OwnI B (w.alloc (.cells (vs.map (Value.int .i64)).toArray 3)) (.slice (some ⟨w.heap.size,0,none⟩) vs.length vs.length) vs:=by
  have hf:(vs.map fun x=>[Value.int .i64 x]).flatten=vs.map (Value.int .i64):=by
    induction vs with
    |nil=>rfl
    |cons x r ih=>rw[List.map_cons,List.flatten_cons,ih (by rw[List.length_cons]at hn;omega)];rfl
  refine⟨vs.map fun x=>[.int .i64 x],by simp,?_,fun i x cs hx hc=>?_⟩
  · rw[hf]
    exact⟨by simp[Sh.int],.inr ⟨w.heap.size,0,vs.length,_,rfl,hB,heap_alloc_new w _,Nat.le_refl _,by unfold maxLen;omega,by simp[Sh.int],by simp[Sh.int,List.take_of_length_le]⟩⟩
  · rw[List.getElem?_map,hx]at hc
    simp only[Option.map_some,Option.some.injEq]at hc
    exact hc.symm
theorem OwnI.one (w:World) (hB:B≤w.heap.size) (x:Int):OwnI B (w.alloc (.cells #[.int .i64 x] 3)) (.slice (some ⟨w.heap.size,0,none⟩) 1 1) [x]:=OwnI.made w [x] hB (by simp)
theorem OwnI.empty (w:World) (hB:B≤w.heap.size):OwnI B (w.alloc (.cells #[] 3)) (.slice (some ⟨w.heap.size,0,none⟩) 0 0) []:=OwnI.made w [] hB (by simp)
theorem OwnI.set {g off:Nat} (h:OwnI B w (.slice (some ⟨g,off,none⟩) n c) xs) (j:Nat) (x:Int):OwnI B (w.setCell ⟨g,off+j,none⟩ (.int .i64 x)) (.slice (some ⟨g,off,none⟩) n c) (xs.set j x):=by
  have hl:=h.len
  obtain⟨css,h1,h2,h3⟩:=h
  refine⟨css.set j [.int .i64 x],by rw[List.length_set,List.length_set,h1],?_,fun i y cs hy hc=>?_⟩
  · have h2':=h2
    rw[hl]at h2'
    have:=h2'.set j (.int .i64 x)
    rw[List.length_set,hl]
    have e:(css.set j [.int .i64 x]).flatten=css.flatten.set j (.int .i64 x):=by
      have hcs:∀cs∈css,cs.length=1:=OwnL.lens h1 h3
      clear h1 h2 h2' h3 this
      induction css generalizing j with
      |nil=>rfl
      |cons cs css ih=>
        have h0:=hcs cs (List.mem_cons_self ..)
        obtain⟨c0,rfl⟩:=List.length_eq_one_iff.1 h0
        cases j with
        |zero=>rfl
        |succ j=>
          rw[List.set_cons_succ,List.flatten_cons,List.flatten_cons,ih j (fun c hc=>hcs c (List.mem_cons_of_mem _ hc))]
          rfl
    rw[e]
    exact this
  · rw[List.getElem?_set]at hy hc
    by_cases e:j=i
    · subst e
      rw[if_pos rfl]at hy hc
      split at hy
      · split at hc
        ·cases hy;cases hc;rfl
        ·cases hc
      ·cases hy
    · rw[if_neg e]at hy hc
      exact h3 i y cs hy hc
end
theorem wpList_appSI (w:World) {ops:Array Oper} {rest:List Oper} {o:Oper} {a:Act} {Q:Exit→Act→World→Prop} (hgd:o.guard=none) (s x:Operand)
    (ho:o.op= .call {callee:=.builtin .append,args:=#[s,x],argTypes:=#[43,43]})
    (B:Nat) (v:Value) (xs:List Int) (hs:a.eval s=v) (hown:OwnI B w v xs) (b:Option Addr) (m c:Nat) (ys:List Int) (P:Nat→Prop) (hx:a.eval x= .slice b m c) (hy:Sl Sh.int P w (.slice b m c) ys) (hP:∀b,P b→b<w.heap.size→v.ownBlock≠some b)
    (h:∀v' w',OwnI B w' v' (xs++ys)→w.grownBy w' v.ownBlock→Below B w w'→(∀b,v'.ownBlock=some b→v.ownBlock=some b∨w.heap.size≤b)→wpList Tryz.prog ops Q rest (a.put o.dst v') w')
    (hn:xs.length+m≤4294967296) (hbase:B≤w.heap.size):wpList Tryz.prog ops Q (o::rest) a w:=
  wpList_appL _ Sh.int hgd s x 43 ho B 0 3 _ 8 Tryz.underlying43 Tryz.infoInt rfl v xs hs hown _ m c ys hx (hy.mono fun b hb hl=>⟨Nat.zero_le _,hP b hb hl⟩)
    (fun v' w' hp=>h v' w' hp.own hp.grown (hp.below hown (Below.refl _ _) (Nat.le_refl _) hbase) (fun _ hb=>hp.blk' hb)) hn (by decide) hbase
end Go.Proofs.YtollooimmfngjaaGreat
namespace Go.Proofs.YtollooimmfngjaaGreat
set_option linter.unusedVariables false
set_option linter.unusedSimpArgs false
open Go.RowKit Go.Maps
end Go.Proofs.YtollooimmfngjaaGreat
namespace Go.Proofs.YtollooimmfngjaaGreat
set_option linter.unusedVariables false
set_option linter.unusedSimpArgs false
open Go.RowKit
def findI (p:Int→Bool) (xs:List Int):Int:=if xs.any p then(xs.findIdx p:Int)else -1
theorem findI_none {p:Int→Bool} {xs:List Int} (h:∀x∈xs,p x=false):findI p xs= -1:=by
  rw[findI,if_neg]
  rw[List.any_eq_true]
  rintro⟨x,hx,hp⟩
  rw[h x hx]at hp
  cases hp
theorem findI_hit {p:Int→Bool} {xs:List Int} {k:Nat} (h:∀x∈xs.take k,p x=false) (hk:k<xs.length) (hp:p (xs.getD k 0)=true):findI p xs=k:=by
  rw[List.getD,List.getElem?_eq_getElem hk]at hp
  simp only[Option.getD_some]at hp
  rw[findI,if_pos (List.any_eq_true.2 ⟨_,List.getElem_mem hk,hp⟩)]
  congr 1
  rw[List.findIdx_eq hk]
  refine⟨hp,fun j hj=>h _ ?_⟩
  rw[List.mem_take_iff_getElem]
  exact⟨j,by omega,rfl⟩
theorem take_step {p:Int→Bool} {xs:List Int} {k:Nat} (h:∀x∈xs.take k,p x=false) (hk:k<xs.length) (hp:p (xs.getD k 0)=false):∀x∈xs.take (k+1),p x=false:=by
  intro x hx
  rw[List.take_succ_eq_append_getElem hk,List.mem_append,List.mem_singleton]at hx
  rcases hx with hx|rfl
  ·exact h x hx
  · rw[List.getD,List.getElem?_eq_getElem hk]at hp
    exact hp
set_option maxHeartbeats 400000 in
theorem indexFunc_any (P:Nat→Prop) (g:Nat) (lb:Array Value) (eg:∀args w,(callFunc g args).run Tryz.prog w= .ok (.enter g args) w) (p:Int→Bool) (a:Option Addr) (n c:Nat) (xs:List Int) (w:World) (hx:Sl Sh.int P w (.slice a n c) xs)
    (hp:∀x,Calls Tryz.prog g (#[.int .i64 x]++lb) w fun e w'=>e= .returned (.bool (p x))∧w=w'):
    Calls Tryz.prog 143 #[.slice a n c,.func (.func g) #[] lb] w fun e w'=>e= .returned (.int .i64 (findI p xs))∧w=w':=by
  have hle:=hx.le
  have hlen:=hx.len
  have Hp:=hid hp;clear hp
  have Hlen:=hid hlen;clear hlen
  go_enter Tryz.func143,Tryz.ntmps143
  go_wp2
  go_loop [5,8] (fun _ i=>∃k:Nat,k≤n∧i= .int .i64 k∧Hid (∀x∈xs.take k,p x=false)) (fun _ i=>n -(intOf i).toNat)
  case atStart=>exact⟨0,Nat.zero_le _,rfl,hid (by simp)⟩
  case round=>
    obtain⟨k,hk,rfl,ht⟩:=hrel
    by_cases hlt:k<n
    · obtain⟨ba,oa,ha,_,_,hca⟩:=hx.intAt (by omega)
      subst ha
      have h1:=hca k hlt
      generalize hy:xs.getD k 0=y at h1
      have Hy:=hid hy;clear hy hca
      have hcall:=Hp.out y
      have hltz:(k:Int)<(n:Int):=by omega
      cases hq:p y with
      |true=>
        rw[hq]at hcall
        have Hq:=hid hq;clear hq
        have Hc:=hid hcall;clear hcall
        go_wp2_with (go_at_fn g;refine Hc.out.mono ?_;rintro e w' ⟨rfl,rfl⟩)
        go_ret
        exact⟨ret_int (findI_hit ht.out (by rw[Hlen.out];exact hlt) (by rw[Hy.out];exact Hq.out)).symm,rfl⟩
      |false=>
        rw[hq]at hcall
        have Hq:=hid hq;clear hq
        have Hc:=hid hcall;clear hcall
        go_wp2_with (go_at_fn g;refine Hc.out.mono ?_;rintro e w' ⟨rfl,rfl⟩)
        exact⟨⟨k+1,by omega,rfl,hid (take_step ht.out (by rw[Hlen.out];exact hlt) (by rw[Hy.out];exact Hq.out))⟩,by simp[intOf];omega⟩
    · have:k=n:=by omega
      subst this
      go_wp2
      go_ret
      exact⟨ret_int (findI_none (by have h:=ht.out;rw[List.take_of_length_le (by rw[Hlen.out];omega)]at h;exact h)).symm,rfl⟩
def inB (n lo hi:Int):Bool:=decide (lo≤n∧n≤hi)
set_option maxHeartbeats 400000 in
theorem within_any (n lo hi:Int) (w:World):Calls Tryz.prog 61 #[.int .i64 n,.int .i64 lo,.int .i64 hi] w fun e w'=>e= .returned (.bool (inB n lo hi))∧w=w':=by
  by_cases h1:lo≤n
  · have h1':decide (lo≤n)=true:=by simpa using h1
    by_cases h2:n≤hi
    · have h2':decide (n≤hi)=true:=by simpa using h2
      have hf:inB n lo hi=true:=by simp[inB,h1,h2]
      rw[hf]
      clear hf
      go_enter Tryz.func61,Tryz.ntmps61
      go_wp2
      go_ret
      exact⟨rfl,rfl⟩
    · have h2':decide (n≤hi)=false:=by simpa using h2
      have hf:inB n lo hi=false:=by simp[inB,h2]
      rw[hf]
      clear hf
      go_enter Tryz.func61,Tryz.ntmps61
      go_wp2
      go_ret
      exact⟨rfl,rfl⟩
  · have h1':decide (lo≤n)=false:=by simpa using h1
    have hf:inB n lo hi=false:=by simp[inB,h1]
    rw[hf]
    clear hf
    go_enter Tryz.func61,Tryz.ntmps61
    go_wp2
    go_ret
    exact⟨rfl,rfl⟩
abbrev Aff:=List Int×Int
def AffR (P:Nat→Prop) (w:World) (v:Value) (x:Aff):Prop:=∃va,v= .agg #[va,.int .i64 x.2]∧Sl Sh.int P w va x.1
theorem AffR.below {P:Nat→Prop} {w w':World} {v:Value} {x:Aff} (h:AffR P w v x) (hb:Below w.heap.size w w'):AffR P w' v x:=by
  obtain⟨va,e,hs⟩:=h
  exact⟨va,e,hs.below hb⟩
theorem AffR.mono {P Q:Nat→Prop} {w:World} {v:Value} {x:Aff} (hp:∀b,P b→b<w.heap.size→Q b) (h:AffR P w v x):AffR Q w v x:=by
  obtain⟨va,e,hs⟩:=h
  exact⟨va,e,hs.mono hp⟩
theorem AffR.any {P:Nat→Prop} {w:World} {v:Value} {x:Aff} (h:AffR P w v x):AffR (fun _=>True) w v x:=h.mono fun _ _ _=>trivial
theorem AffR.grown {P:Nat→Prop} {w w':World} {v:Value} {x:Aff} {r:Option Nat} (h:AffR P w v x) (hg:w.grownBy w' r) (hP:∀b,P b→r≠some b):AffR P w' v x:=by
  obtain⟨va,e,hs⟩:=h
  exact⟨va,e,hs.grown hg hP⟩
theorem AffR.shape {P:Nat→Prop} {w:World} {v:Value} {x:Aff} (h:AffR P w v x):∃a c,v= .agg #[.slice a x.1.length c,.int .i64 x.2]∧x.1.length≤c∧x.1.length≤17592186044416∧Sl Sh.int P w (.slice a x.1.length c) x.1:=by
  obtain⟨va,rfl,hs⟩:=h
  obtain⟨a,c,rfl,h1,h2,_⟩:=hs.form
  exact⟨a,c,rfl,h1,h2,hs⟩
def affV (x:Aff):Bool:=decide (x.1.length=4)&&inB x.2 (-99) 99&& !x.1.any (fun c=> !inB c (-9) 9)
theorem affV_len {x:Aff} (h:affV x=true):x.1.length=4:=by
  simp[affV]at h
  exact h.1.1
theorem affV_const {x:Aff} (h:affV x=true): -99≤x.2∧x.2≤99:=by
  simp[affV,inB]at h
  exact h.1.2
theorem affV_coef {x:Aff} (h:affV x=true):∀c∈x.1, -9≤c∧c≤9:=by
  simp[affV,inB]at h
  exact h.2
theorem affV_getD {x:Aff} (h:affV x=true) (i:Nat): -9≤x.1.getD i 0∧x.1.getD i 0≤9:=by
  rw[List.getD]
  cases e:x.1[i]? with
  |none=>simp
  |some c=>exact affV_coef h c (List.mem_of_getElem? e)
set_option maxHeartbeats 400000 in
theorem isConst_any (n:Int) (w:World):Calls Tryz.prog 177 #[.int .i64 n] w fun e w'=>e= .returned (.bool (inB n (-99) 99))∧w=w':=by
  go_enter Tryz.func177,Tryz.ntmps177
  go_wp2_with (go_at_call 61;refine(within_any _ _ _ _).mono ?_;rintro e w' ⟨rfl,rfl⟩)
  go_ret
  exact⟨rfl,rfl⟩
set_option maxHeartbeats 400000 in
theorem affV1_any (n:Int) (w:World):Calls Tryz.prog 178 #[.int .i64 n] w fun e w'=>e= .returned (.bool (!inB n (-9) 9))∧w=w':=by
  go_enter Tryz.func178,Tryz.ntmps178
  go_wp2_with (go_at_call 61;refine(within_any _ _ _ _).mono ?_;rintro e w' ⟨rfl,rfl⟩)
  go_ret
  exact⟨rfl,rfl⟩
theorem Tryz.egAffV1:∀args w,(callFunc 178 args).run Tryz.prog w= .ok (.enter 178 args) w:=fun _ _=>by kernel_rfl
set_option maxHeartbeats 400000 in
theorem containsFunc_any (P:Nat→Prop) (g:Nat) (lb:Array Value) (eg:∀args w,(callFunc g args).run Tryz.prog w= .ok (.enter g args) w) (p:Int→Bool) (a:Option Addr) (n c:Nat) (xs:List Int) (w:World) (hx:Sl Sh.int P w (.slice a n c) xs)
    (hp:∀x,Calls Tryz.prog g (#[.int .i64 x]++lb) w fun e w'=>e= .returned (.bool (p x))∧w=w'):
    Calls Tryz.prog 103 #[.slice a n c,.func (.func g) #[] lb] w fun e w'=>e= .returned (.bool (xs.any p))∧w=w':=by
  have hd:decide (0≤findI p xs)=xs.any p:=by
    unfold findI
    cases h:xs.any p
    ·simp
    ·simp
  have Hd:=hid hd
  have Hp:=hid hp
  clear hd hp
  go_enter Tryz.func103,Tryz.ntmps103
  go_wp2_with (go_at_call 143;refine(indexFunc_any P g lb eg p _ _ _ xs _ hx Hp.out).mono ?_;rintro e w' ⟨rfl,rfl⟩)
  go_ret
  exact⟨ret_bool Hd.out,rfl⟩
set_option maxHeartbeats 800000 in
theorem implAffV_any (P:Nat→Prop) (v:Value) (x:Aff) (w:World) (h:AffR P w v x):
    Calls Tryz.prog 148 #[v] w fun e w'=>e= .returned (.bool (affV x))∧Below w.heap.size w w':=by
  obtain⟨a,c,rfl,h1,h2,hs⟩:=h.shape
  obtain⟨co,k⟩:=x
  simp only at hs h1 h2 ⊢
  have haf:affV (co,k)=(decide (co.length=4)&&inB k (-99) 99&& !co.any (fun c=> !inB c (-9) 9)):=rfl
  have Haf:=hid haf;clear haf
  have hs':=hs.alloc (.cells #[.slice a co.length c,.int .i64 k] 61)
  by_cases h4:co.length=4
  · have h4':(((co.length:Nat):Int)==4)=true:=by simp;omega
    have H4:=hid h4
    clear h4
    cases hk:inB k (-99) 99
    · go_enter Tryz.func148,Tryz.ntmps148
      go_wp2_with (go_at_call 177;refine(isConst_any _ _).mono ?_;rintro e w' ⟨rfl,rfl⟩;rw[hk])
      go_ret
      exact⟨ret_bool (by rw[Haf.out,hk];simp),(Below.refl _ _).alloc (Nat.le_refl _) _⟩
    · go_enter Tryz.func148,Tryz.ntmps148
      go_wp2_with (first
        |(go_at_call 177;refine(isConst_any _ _).mono ?_;rintro e w' ⟨rfl,rfl⟩;rw[hk])
        |(go_at_call 103;refine(containsFunc_any P 178 #[] Tryz.egAffV1 (fun c=> !inB c (-9) 9) _ _ _ co _ hs' (fun x=>affV1_any x _)).mono ?_;rintro e w' ⟨rfl,rfl⟩))
      go_ret
      exact⟨ret_bool (by rw[Haf.out,hk,H4.out];simp),(Below.refl _ _).alloc (Nat.le_refl _) _⟩
  · have h4':(((co.length:Nat):Int)==4)=false:=by simp;omega
    have H4:=hid h4
    clear h4
    go_enter Tryz.func148,Tryz.ntmps148
    go_wp2
    go_ret
    exact⟨ret_bool (by rw[Haf.out,decide_eq_false H4.out];simp),(Below.refl _ _).alloc (Nat.le_refl _) _⟩
abbrev Lp:=List Aff×List Aff
section
variable {P : Nat → Prop} {w : World} {cs : List Value} {a : Option Addr} {n c : Nat}
end
set_option maxHeartbeats 400000 in
theorem l1Within_any (n m:Int) (w:World) (h0:0≤m) (h1:m≤1000000):Calls Tryz.prog 138 #[.int .i64 n,.int .i64 m] w fun e w'=>e= .returned (.bool (inB n (-m) m))∧w=w':=by
  by_cases h1: -m≤n
  · have h1':decide (-m≤n)=true:=by simpa using h1
    by_cases h2:n≤m
    · have h2':decide (n≤m)=true:=by simpa using h2
      have hf:=hid (show inB n (-m) m=true by simp[inB,h1,h2])
      go_enter Tryz.func138,Tryz.ntmps138
      go_wp2
      go_ret
      exact⟨ret_bool hf.out.symm,rfl⟩
    · have h2':decide (n≤m)=false:=by simpa using h2
      have hf:=hid (show inB n (-m) m=false by simp[inB,h2])
      go_enter Tryz.func138,Tryz.ntmps138
      go_wp2
      go_ret
      exact⟨ret_bool hf.out.symm,rfl⟩
  · have h1':decide (-m≤n)=false:=by simpa using h1
    have hf:=hid (show inB n (-m) m=false by simp[inB];omega)
    go_enter Tryz.func138,Tryz.ntmps138
    go_wp2
    go_ret
    exact⟨ret_bool hf.out.symm,rfl⟩
theorem specAffV_any (P:Nat→Prop) (v:Value) (x:Aff) (w:World) (h:AffR P w v x):
    Calls Tryz.prog 167 #[v] w fun e w'=>e= .returned (.bool (affV x))∧Below w.heap.size w w':=by
  obtain⟨a,c,rfl,h1,h2,hs⟩:=h.shape
  obtain⟨co,k⟩:=x
  simp only at hs h1 h2 ⊢
  have haf:affV (co,k)=(decide (co.length=4)&&inB k (-99) 99&& !co.any (fun c=> !inB c (-9) 9)):=rfl
  have Haf:=hid haf;clear haf
  have hs':=hs.alloc (.cells #[.slice a co.length c,.int .i64 k] 61)
  go_enter Tryz.func167,Tryz.ntmps167
  go_wp2
  go_loop [3] (fun i=>∃j:Nat,j≤co.length∧i= .int .i64 j∧Hid (∀x∈co.take j,(!inB x (-9) 9)=false)) (fun i=>co.length -(intOf i).toNat)
  case atStart=>exact⟨0,Nat.zero_le _,rfl,hid (by simp)⟩
  case round=>
    obtain⟨j,hj,rfl,ht⟩:=hrel
    by_cases hlt:j<co.length
    · obtain⟨ba,oa,ha,_,_,hca⟩:=hs'.intAt (by omega)
      subst ha
      have q1:=hca j hlt
      generalize hy:co.getD j 0=y at q1
      have Hy:=hid hy;clear hy hca
      cases hq:inB y (-9) 9
      · have Hq:Hid (inB y (-9) 9=false):=hid hq
        have hany:Hid (co.any (fun c=> !inB c (-9) 9)=true):=hid (List.any_eq_true.2 ⟨y,by rw[←Hy.out,List.getD,List.getElem?_eq_getElem hlt];exact List.getElem_mem _,by rw[Hq.out];rfl⟩)
        go_wp2_with (go_at_call 138;refine(l1Within_any _ _ _ (by omega) (by omega)).mono ?_;rintro e w' ⟨rfl,rfl⟩;rw[Hq.out])
        go_ret
        exact⟨ret_bool (by rw[Haf.out,hany.out];simp),(Below.refl _ _).alloc (Nat.le_refl _) _⟩
      · have Hq:Hid (inB y (-9) 9=true):=hid hq
        have Ht:=hid (take_step (p:=fun c=> !inB c (-9) 9) ht.out hlt (by rw[Hy.out,Hq.out];rfl))
        go_wp2_with (go_at_call 138;refine(l1Within_any _ _ _ (by omega) (by omega)).mono ?_;rintro e w' ⟨rfl,rfl⟩;rw[Hq.out])
        exact⟨⟨j+1,by omega,rfl,Ht⟩,by simp[intOf];omega⟩
    · have hje:j=co.length:=by omega
      subst hje
      have hany:Hid (co.any (fun c=> !inB c (-9) 9)=false):=hid (by
        have:=ht.out
        rw[List.take_length]at this
        rw[List.any_eq_false]
        intro x hx
        rw[this x hx];simp)
      by_cases h4:co.length=4
      · have h4':(((co.length:Nat):Int)==4)=true:=by simp;omega
        have H4:=hid h4
        clear h4
        go_wp2_with (go_at_call 138;refine(l1Within_any _ _ _ (by omega) (by omega)).mono ?_;rintro e w' ⟨rfl,rfl⟩)
        go_ret
        exact⟨ret_bool (by rw[Haf.out,hany.out,decide_eq_true H4.out];simp),(Below.refl _ _).alloc (Nat.le_refl _) _⟩
      · have h4':(((co.length:Nat):Int)==4)=false:=by simp;omega
        have H4:=hid h4
        clear h4
        go_wp2
        go_ret
        exact⟨ret_bool (by rw[Haf.out,hany.out,decide_eq_false H4.out];simp),(Below.refl _ _).alloc (Nat.le_refl _) _⟩
def depthTo (co:List Int):Nat→Nat
  |0=>0
  |k+1=>if co.getD k 0=0 then depthTo co k else k+1
def affDepth (x:Aff):Nat:=depthTo x.1 x.1.length
theorem depth_any (P:Nat→Prop) (v:Value) (x:Aff) (w:World) (h:AffR P w v x):
    Calls Tryz.prog 149 #[v] w fun e w'=>e= .returned (.int .i64 (affDepth x))∧Below w.heap.size w w':=by
  obtain⟨a,c,rfl,h1,h2,hs⟩:=h.shape
  obtain⟨co,k⟩:=x
  simp only at hs h1 h2 ⊢
  have hs':=hs.alloc (.cells #[.slice a co.length c,.int .i64 k] 61)
  go_enter Tryz.func149,Tryz.ntmps149
  go_wp2
  go_loop [3] (fun i=>∃j:Nat,j≤co.length∧i= .int .i64 j∧Hid (depthTo co co.length=depthTo co j)) (fun i=>(intOf i).toNat)
  case atStart=>exact⟨co.length,Nat.le_refl _,rfl,rfl⟩
  case round=>
    obtain⟨j,hj,rfl,ht⟩:=hrel
    cases j with
    |zero=>
      have e0:((0:Nat):Int)=0:=rfl
      rw[e0]
      go_wp2
      go_ret
      exact⟨ret_int (by rw[affDepth,ht.out];rfl),(Below.refl _ _).alloc (Nat.le_refl _) _⟩
    |succ j=>
      have e1:((j+1:Nat):Int)=(j:Int)+1:=by omega
      rw[e1]
      obtain⟨ba,oa,ha,_,_,hca⟩:=hs'.intAt (by omega)
      subst ha
      have q1:=hca j (by omega)
      generalize hy:co.getD j 0=y at q1
      have Hy:=hid hy;clear hy hca e1
      cases hq:(y==0)
      · have Ht:Hid (depthTo co co.length=j+1):=hid (by rw[ht.out,depthTo,Hy.out,if_neg (by simpa using hq)])
        go_wp2
        go_ret
        exact⟨ret_int (by rw[affDepth,Ht.out];rfl),(Below.refl _ _).alloc (Nat.le_refl _) _⟩
      · have Ht:Hid (depthTo co co.length=depthTo co j):=hid (by rw[ht.out,depthTo,Hy.out,if_pos (by simpa using hq)])
        go_wp2
        exact⟨⟨j,by omega,rfl,Ht⟩,by simp[intOf]⟩
theorem l1Depth_any (P:Nat→Prop) (v:Value) (x:Aff) (w:World) (h:AffR P w v x):
    Calls Tryz.prog 168 #[v] w fun e w'=>e= .returned (.int .i64 (affDepth x))∧Below w.heap.size w w':=by
  obtain⟨a,c,rfl,h1,h2,hs⟩:=h.shape
  obtain⟨co,k⟩:=x
  simp only at hs h1 h2 ⊢
  have hs':=hs.alloc (.cells #[.slice a co.length c,.int .i64 k] 61)
  go_enter Tryz.func168,Tryz.ntmps168
  go_wp2
  go_loop [3,4] (fun q i=>∃j:Nat,j≤co.length∧i= .int .i64 j∧q= .int .i64 (depthTo co j:Nat)) (fun _ i=>co.length -(intOf i).toNat)
  case atStart=>exact⟨0,Nat.zero_le _,rfl,rfl⟩
  case round=>
    obtain⟨j,hj,rfl,rfl⟩:=hrel
    by_cases hlt:j<co.length
    · obtain⟨ba,oa,ha,_,_,hca⟩:=hs'.intAt (by omega)
      subst ha
      have q1:=hca j hlt
      have hd:depthTo co (j+1)=if co.getD j 0=0 then depthTo co j else j+1:=rfl
      generalize co.getD j 0=y at q1 hd
      clear hca
      cases hq:(y != 0)
      · rw[if_pos (by simpa using hq)]at hd
        have Hd:=hid hd;clear hd
        go_wp2
        exact⟨⟨j+1,by omega,rfl,by rw[Hd.out]⟩,by simp[intOf];omega⟩
      · rw[if_neg (by simpa using hq)]at hd
        have Hd:=hid hd;clear hd
        go_wp2
        exact⟨⟨j+1,by omega,rfl,by rw[Hd.out];rfl⟩,by simp[intOf];omega⟩
    · have hje:j=co.length:=by omega
      subst hje
      go_wp2
      go_ret
      exact⟨rfl,(Below.refl _ _).alloc (Nat.le_refl _) _⟩
def evalTo (co p:List Int):Nat→Int
  |0=>0
  |k+1=>evalTo co p k+co.getD k 0 *p.getD k 0
def affEval (x:Aff) (p:List Int):Int:=x.2+evalTo x.1 p p.length
def Small (p:List Int):Prop:=∀n∈p, -1099511627776≤n∧n≤1099511627776
theorem Small.getD {p:List Int} (h:Small p) (i:Nat): -1099511627776≤p.getD i 0∧p.getD i 0≤1099511627776:=by
  rw[List.getD]
  cases e:p[i]? with
  |none=>simp
  |some c=>exact h c (List.mem_of_getElem? e)
theorem mul_bd {c x:Int} (h: -9≤c∧c≤9) (hx: -1099511627776≤x∧x≤1099511627776): -9895604649984≤c *x∧c *x≤9895604649984:=by
  obtain⟨h1,h2⟩:=h
  have:c= -9∨c= -8∨c= -7∨c= -6∨c= -5∨c= -4∨c= -3∨c= -2∨c= -1∨c=0∨c=1∨c=2∨c=3∨c=4∨c=5∨c=6∨c=7∨c=8∨c=9:=by omega
  rcases this with h|h|h|h|h|h|h|h|h|h|h|h|h|h|h|h|h|h|h<;>subst h<;>omega
theorem evalTo_bd {co p:List Int} (hc:∀i, -9≤co.getD i 0∧co.getD i 0≤9) (hp:Small p):∀k:Nat, -9895604649984 *(k:Int)≤evalTo co p k∧evalTo co p k≤9895604649984 *(k:Int)
  |0=>by simp[evalTo]
  |k+1=>by
    rw[evalTo]
    have h1:=evalTo_bd hc hp k
    have h2:=mul_bd (hc k) (hp.getD k)
    omega
theorem eval_any (P Q:Nat→Prop) (v:Value) (x:Aff) (a2:Option Addr) (n c2:Nat) (p:List Int) (w:World) (h:AffR P w v x) (hp:Sl Sh.int Q w (.slice a2 n c2) p) (hV:affV x=true) (hS:Small p) (hn:n≤4):
    Calls Tryz.prog 31 #[v,.slice a2 n c2] w fun e w'=>e= .returned (.int .i64 (affEval x p))∧Below w.heap.size w w':=by
  have hco:=affV_getD hV
  have hk:=affV_const hV
  have hlen:=affV_len hV
  obtain⟨a,c,rfl,h1,h2,hs⟩:=h.shape
  obtain⟨co,k⟩:=x
  simp only at hs h1 h2 hco hk hlen ⊢
  rw[hlen]at hs
  have hs':=hs.alloc (.cells #[.slice a 4 c,.int .i64 k] 61)
  have hp':=hp.alloc (.cells #[.slice a 4 c,.int .i64 k] 61)
  have hbd:=evalTo_bd hco hS
  have hpl:=hid hp.len
  have Hlen:=hid hlen;have Hco:=hid hco;have HS:=hid hS;have Hbd:=hid hbd
  have hax:Hid (affEval (co,k) p=k+evalTo co p n):=hid (by rw[affEval,hpl.out])
  clear hlen hco hS hbd hV h1
  obtain⟨ba,oa,ha,_,_,hca⟩:=hs'.intAt (by omega)
  subst ha
  have Hca:=hid hca;clear hca
  go_enter Tryz.func31,Tryz.ntmps31
  rw[Hlen.out]
  go_wp2
  go_loop [5,12] (fun q i=>∃j:Nat,j≤n∧i= .int .i64 j∧q= .int .i64 (k+evalTo co p j)) (fun _ i=>n -(intOf i).toNat)
  case atStart=>exact⟨0,Nat.zero_le _,rfl,by simp[evalTo]⟩
  case round=>
    obtain⟨j,hj,rfl,rfl⟩:=hrel
    by_cases hlt:j<n
    · obtain⟨bb,ob,hb,_,_,hcb⟩:=hp'.intAt (by omega)
      subst hb
      have q1:=Hca.out j (by omega)
      have q2:=hcb j hlt
      have b0:=Hbd.out j
      have b1:=Hco.out j
      have b2:=HS.out.getD j
      have b3:=mul_bd b1 b2
      have he:evalTo co p (j+1)=evalTo co p j+co.getD j 0 *p.getD j 0:=rfl
      generalize co.getD j 0=y at q1 b3 he
      generalize p.getD j 0=z at q2 b3 he
      generalize evalTo co p j=f at b0 he
      have He:=hid he
      clear he hcb b1 b2
      go_wp2
      exact⟨⟨j+1,by omega,rfl,int_i64 (by rw[He.out];omega)⟩,by simp[intOf];omega⟩
    · have hje:j=n:=by omega
      subst hje
      go_wp2
      go_ret
      exact⟨ret_int hax.out.symm,(Below.refl _ _).alloc (Nat.le_refl _) _⟩
def AffO (B:Nat) (w:World) (v:Value) (x:Aff):Prop:=∃va,v= .agg #[va,.int .i64 x.2]∧OwnI B w va x.1
theorem AffO.r {B:Nat} {w:World} {v:Value} {x:Aff} (h:AffO B w v x) (hn:x.1.length≤17592186044416):AffR (fun b=>B≤b) w v x:=by
  obtain⟨va,e,ho⟩:=h
  exact⟨va,e,(ho.sl hn).mono fun b hb _=>(ho.lt b hb).1⟩
theorem AffO.any {B:Nat} {w:World} {v:Value} {x:Aff} (h:AffO B w v x) (hn:x.1.length≤17592186044416):AffR (fun _=>True) w v x:=(h.r hn).any
theorem AffO.below {B:Nat} {w w':World} {v:Value} {x:Aff} (h:AffO B w v x) (hb:Below w.heap.size w w'):AffO B w' v x:=by
  obtain⟨va,e,ho⟩:=h
  exact⟨va,e,ho.below hb⟩
theorem AffO.base {B B':Nat} {w:World} {v:Value} {x:Aff} (h:AffO B w v x) (hB:B'≤B):AffO B' w v x:=by
  obtain⟨va,e,ho⟩:=h
  exact⟨va,e,ho.base hB⟩
theorem AffO.grown {B:Nat} {w w':World} {v:Value} {x:Aff} {r:Option Nat} (h:AffO B w v x) (hg:w.grownBy w' r) (hr:∀g,r=some g→g<B):AffO B w' v x:=by
  obtain⟨va,e,ho⟩:=h
  exact⟨va,e,ho.grown hg (fun g hg e=>by have:=hr g hg;have:=(ho.lt g e).1;omega)⟩
theorem AffO.zero (B:Nat) (w:World):AffO B w (.agg #[.slice none 0 0,.int .i64 0]) ([],0):=⟨_,rfl,OwnI.nil _ _⟩
def RetInts (xs:List Int) (w:World) (e:Ending) (w':World):Prop:=∃v,e= .returned v∧OwnI w.heap.size w' v xs∧Below w.heap.size w w'
set_option maxHeartbeats 800000 in
theorem clone_any (P:Nat→Prop) (a:Option Addr) (n c:Nat) (xs:List Int) (w:World) (hx:Sl Sh.int P w (.slice a n c) xs) (hn:n≤4294967296):
    Calls Tryz.prog 67 #[.slice a n c] w (RetInts xs w):=by
  have heq:=fun(w:World)=>Lib.run_eql_slice_nil (P:=Tryz.prog) w 43 3 a n c 0 0 Tryz.underlying43
  cases a with
  |none=>
    have hx0:xs=[]:=by
      cases xs with
      |nil=>rfl
      |cons x xs=>obtain⟨b,off,e,_⟩:=hx.at (by have:=hx.len;simp at this;omega);cases e
    subst hx0
    go_enter Tryz.func67,Tryz.ntmps67
    go_wp2
    go_ret
    exact⟨_,rfl,OwnI.nil _ _,Below.refl _ _⟩
  |some ad=>
    have hx':=hx.alloc (.cells #[] 3)
    have hx2:Sl Sh.int (fun b=>b<w.heap.size) (w.alloc (.cells #[] 3)) (.slice (some ad) n c) xs:=((hx.mono (Q:=fun b=>b<w.heap.size) fun b _ hb=>hb).alloc _)
    go_enter Tryz.func67,Tryz.ntmps67
    go_wp2_with (at_builtin;go_must (refine wpList_appSI _ rfl _ _ rfl w.heap.size _ [] rfl (OwnI.empty w (Nat.le_refl _)) _ _ _ xs (fun b=>b<w.heap.size) rfl hx2 ?_ ?_ ?c1 ?c2))
    case c1=>simp;omega
    case c2=>simp
    · intro b hb _ e
      have:=Option.some.inj e
      simp at this
      omega
    intro v' w' o g b _
    try rw[List.nil_append]at o
    have Hb:=hid (((Below.refl w.heap.size w).alloc (Nat.le_refl _) (.cells #[] 3)).trans b)
    have Ho:=hid o
    clear o g b
    go_wp2
    go_ret
    exact⟨_,rfl,Ho.out,Hb.out⟩
theorem OwnI.store {B:Nat} {w:World} {v u:Value} {xs:List Int} {p:Addr} (h:OwnI B w v xs) (hne:v.ownBlock≠some p.block):OwnI B (w.setCell p u) v xs:=
  h.grown (setCell_grown w p u) (fun g hg=>by cases hg;exact hne)
theorem Sl.store {α:Type} {S:Sh α} {P:Nat→Prop} {w:World} {v u:Value} {xs:List α} {p:Addr} (h:Sl S P w v xs) (hne:¬P p.block):Sl S P (w.setCell p u) v xs:=
  h.grown (setCell_grown w p u) (fun b hb e=>hne (by cases e;exact hb))
structure Box2 (w:World) (g:Nat) (u0 u1:Value):Prop where
  c0:w.cell? ⟨g,0,none⟩=some u0
  c1:w.cell? ⟨g,1,none⟩=some u1
  f0:w.frozen? ⟨g,0,none⟩=false
  f1:w.frozen? ⟨g,1,none⟩=false
  lt:g<w.heap.size
theorem Box2.new (w:World) (u0 u1:Value) (T:TypeId):Box2 (w.alloc (.cells #[u0,u1] T)) w.heap.size u0 u1:=by
  have hn:=heap_alloc_new w (.cells #[u0,u1] T)
  refine⟨cell_of_row _ _ 0 _ _ _ hn,cell_of_row _ _ 1 _ _ _ hn,?_,?_,by simp⟩
  ·unfold World.frozen?;rw[hn];rfl
  ·unfold World.frozen?;rw[hn];rfl
theorem Box2.belowLt {w w':World} {g D:Nat} {u0 u1:Value} (h:Box2 w g u0 u1) (hb:Below D w w') (hD:g<D):Box2 w' g u0 u1:=
  ⟨(hb.cell (p:=⟨g,0,none⟩) hD).trans h.c0,(hb.cell (p:=⟨g,1,none⟩) hD).trans h.c1,(hb.frozen (p:=⟨g,0,none⟩) hD).trans h.f0,(hb.frozen (p:=⟨g,1,none⟩) hD).trans h.f1,Nat.lt_of_lt_of_le h.lt hb.size⟩
theorem Box2.below {w w':World} {g:Nat} {u0 u1:Value} (h:Box2 w g u0 u1) (hb:Below w.heap.size w w'):Box2 w' g u0 u1:=h.belowLt hb h.lt
theorem Box2.alloc {w:World} {g:Nat} {u0 u1:Value} (h:Box2 w g u0 u1) (o:Obj):Box2 (w.alloc o) g u0 u1:=h.below ((Below.refl _ _).alloc (Nat.le_refl _) o)
theorem Box2.drew {w:World} {g:Nat} {u0 u1:Value} (h:Box2 w g u0 u1):Box2 w.drew g u0 u1:=⟨h.c0,h.c1,h.f0,h.f1,h.lt⟩
theorem Box2.quiet {w w':World} {g:Nat} {u0 u1:Value} (h:Box2 w g u0 u1) (hq:Quiet w w'):Box2 w' g u0 u1:=h.below (hq.below _)
def RetA2 (P:Nat→Prop) (x:Aff) (ok:Bool) (w:World) (e:Ending) (w':World):Prop:=
  ∃v,e= .returned (.tuple #[v,.bool ok])∧AffR P w' v x∧Below w.heap.size w w'
theorem l1Eval_any (P Q:Nat→Prop) (v:Value) (x:Aff) (a2:Option Addr) (n c2:Nat) (p:List Int) (w:World) (h:AffR P w v x) (hp:Sl Sh.int Q w (.slice a2 n c2) p) (hV:affV x=true) (hS:Small p) (hn:n≤4):
    Calls Tryz.prog 56 #[v,.slice a2 n c2] w fun e w'=>e= .returned (.int .i64 (affEval x p))∧Below w.heap.size w w':=by
  have hco:=affV_getD hV
  have hk:=affV_const hV
  have hlen:=affV_len hV
  obtain⟨a,c,rfl,h1,h2,hs⟩:=h.shape
  obtain⟨co,k⟩:=x
  simp only at hs h1 h2 hco hk hlen ⊢
  rw[hlen]at hs
  have hs':=hs.alloc (.cells #[.slice a 4 c,.int .i64 k] 61)
  have hp':=hp.alloc (.cells #[.slice a 4 c,.int .i64 k] 61)
  have hbd:=evalTo_bd hco hS
  have hpl:=hid hp.len
  have Hlen:=hid hlen;have Hco:=hid hco;have HS:=hid hS;have Hbd:=hid hbd
  have hax:Hid (affEval (co,k) p=k+evalTo co p n):=hid (by rw[affEval,hpl.out])
  clear hlen hco hS hbd hV h1
  obtain⟨ba,oa,ha,_,_,hca⟩:=hs'.intAt (by omega)
  subst ha
  have Hca:=hid hca;clear hca
  have hb0:(w.alloc (.cells #[.slice (some ⟨ba,oa,none⟩) 4 c,.int .i64 k] 61)).cell? ⟨w.heap.size,0,none⟩=some (.slice (some ⟨ba,oa,none⟩) 4 c):=cell_of_row _ _ 0 _ _ _ (heap_alloc_new w _)
  have hbb:=(Below.refl w.heap.size w).alloc (Nat.le_refl _) (.cells #[.slice (some ⟨ba,oa,none⟩) 4 c,.int .i64 k] 61)
  go_enter Tryz.func56,Tryz.ntmps56
  rw[Hlen.out]
  go_wp2
  generalize hw1:w.alloc (.cells #[.slice (some ⟨ba,oa,none⟩) 4 c,.int .i64 k] 61)=w1 at hp' hb0 hbb Hca
  clear hw1
  go_loopw [5,6] (fun q i wr=>∃j:Nat,j≤n∧i= .int .i64 j∧q= .int .i64 (k+evalTo co p j)∧Quiet w1 wr) (fun _ i _=>n -(intOf i).toNat)
  case atStart=>exact⟨0,Nat.zero_le _,rfl,by simp[evalTo],Quiet.refl _⟩
  case round=>
    obtain⟨j,hj,rfl,rfl,hq⟩:=hrel
    have hb1:wr.cell? ⟨w.heap.size,0,none⟩=_:=(hq.cell _).trans hb0
    by_cases hlt:j<n
    · obtain⟨bb,ob,hb,_,_,hcb⟩:=(hp'.quiet hq).intAt (by omega)
      subst hb
      have q1:wr.cell? ⟨ba,oa+j,none⟩=_:=(hq.cell _).trans (Hca.out j (by omega))
      have q2:=hcb j hlt
      have b0:=Hbd.out j
      have b1:=Hco.out j
      have b2:=HS.out.getD j
      have b3:=mul_bd b1 b2
      have he:evalTo co p (j+1)=evalTo co p j+co.getD j 0 *p.getD j 0:=rfl
      generalize co.getD j 0=y at q1 b3 he
      generalize p.getD j 0=z at q2 b3 he
      generalize evalTo co p j=f at b0 he
      have He:=hid he
      clear he hcb b1 b2
      have hw1:IntKind.i64.wrap (y *z)=y *z:=IntWalk.i64_in _ (by omega)
      have hw2:IntKind.i64.wrap (k+f+y *z)=k+f+y *z:=IntWalk.i64_in _ (by omega)
      have hd4:decide ((j:Int)<4)=true:=by simp;omega
      go_wp2
      go_quiet (fail)
      clear hw1 hw2
      go_wp2
      exact⟨⟨j+1,by omega,rfl,int_i64 (by rw[He.out];omega),hq.drewN⟩,by simp[intOf];omega⟩
    · have hje:j=n:=by omega
      subst hje
      go_wp2
      go_ret
      exact⟨ret_int hax.out.symm,hbb.trans (hq.below _)⟩
def isPt (p:List Int):Bool:=decide (p.length≤4)&& !p.any (fun n=> !inB n (-9999) 9999)
set_option maxHeartbeats 400000 in
theorem isPoint1_any (n:Int) (w:World):Calls Tryz.prog 110 #[.int .i64 n] w fun e w'=>e= .returned (.bool (!inB n (-9999) 9999))∧w=w':=by
  go_enter Tryz.func110,Tryz.ntmps110
  go_wp2_with (go_at_call 61;refine(within_any _ _ _ _).mono ?_;rintro e w' ⟨rfl,rfl⟩)
  go_ret
  exact⟨rfl,rfl⟩
theorem Tryz.egPoint1:∀args w,(callFunc 110 args).run Tryz.prog w= .ok (.enter 110 args) w:=fun _ _=>by kernel_rfl
set_option maxHeartbeats 400000 in
theorem isPoint_any (Q:Nat→Prop) (a2:Option Addr) (n c2:Nat) (p:List Int) (w:World) (hp:Sl Sh.int Q w (.slice a2 n c2) p):
    Calls Tryz.prog 65 #[.slice a2 n c2] w fun e w'=>e= .returned (.bool (isPt p))∧w=w':=by
  by_cases h4:n≤4
  · have hd:decide ((n:Int)≤4)=true:=by simp;omega
    have hr:=hid (show isPt p= !p.any (fun n=> !inB n (-9999) 9999)by rw[isPt,hp.len,decide_eq_true h4];rfl)
    go_enter Tryz.func65,Tryz.ntmps65
    go_wp2_with (go_at_call 103;refine(containsFunc_any Q 110 #[] Tryz.egPoint1 (fun n=> !inB n (-9999) 9999) _ _ _ p _ hp (fun x=>isPoint1_any x _)).mono ?_;rintro e w' ⟨rfl,rfl⟩)
    go_ret
    exact⟨ret_bool hr.out.symm,rfl⟩
  · have hd:decide ((n:Int)≤4)=false:=by simp;omega
    have hr:=hid (show isPt p=false by rw[isPt,hp.len,decide_eq_false h4];rfl)
    go_enter Tryz.func65,Tryz.ntmps65
    go_wp2
    go_ret
    exact⟨ret_bool hr.out.symm,rfl⟩
set_option maxHeartbeats 800000 in
theorem l1Point_any (Q:Nat→Prop) (a2:Option Addr) (n c2:Nat) (p:List Int) (w:World) (hp:Sl Sh.int Q w (.slice a2 n c2) p):
    Calls Tryz.prog 96 #[.slice a2 n c2] w fun e w'=>e= .returned (.bool (isPt p))∧w=w':=by
  have hle:=hp.le
  have hpl:=hid hp.len
  go_enter Tryz.func96,Tryz.ntmps96
  go_wp2
  go_loop [3] (fun i=>∃j:Nat,j≤n∧i= .int .i64 j∧Hid (∀x∈p.take j,(!inB x (-9999) 9999)=false)) (fun i=>n -(intOf i).toNat)
  case atStart=>exact⟨0,Nat.zero_le _,rfl,hid (by simp)⟩
  case round=>
    obtain⟨j,hj,rfl,ht⟩:=hrel
    by_cases hlt:j<n
    · obtain⟨ba,oa,ha,_,_,hca⟩:=hp.intAt (by omega)
      subst ha
      have q1:=hca j hlt
      generalize hy:p.getD j 0=y at q1
      have Hy:=hid hy;clear hy hca
      cases hq:inB y (-9999) 9999
      · have Hq:Hid (inB y (-9999) 9999=false):=hid hq
        have hany:Hid (p.any (fun c=> !inB c (-9999) 9999)=true):=hid (List.any_eq_true.2 ⟨y,by rw[←Hy.out,List.getD,List.getElem?_eq_getElem (by rw[hpl.out];exact hlt)];exact List.getElem_mem _,by rw[Hq.out];rfl⟩)
        go_wp2_with (go_at_call 138;refine(l1Within_any _ _ _ (by omega) (by omega)).mono ?_;rintro e w' ⟨rfl,rfl⟩;rw[Hq.out])
        go_ret
        exact⟨ret_bool (by rw[isPt,hany.out];simp),rfl⟩
      · have Hq:Hid (inB y (-9999) 9999=true):=hid hq
        have Ht:=hid (take_step (p:=fun c=> !inB c (-9999) 9999) ht.out (by rw[hpl.out];exact hlt) (by rw[Hy.out,Hq.out];rfl))
        go_wp2_with (go_at_call 138;refine(l1Within_any _ _ _ (by omega) (by omega)).mono ?_;rintro e w' ⟨rfl,rfl⟩;rw[Hq.out])
        exact⟨⟨j+1,by omega,rfl,Ht⟩,by simp[intOf];omega⟩
    · have hje:j=n:=by omega
      subst hje
      have hany:Hid (p.any (fun c=> !inB c (-9999) 9999)=false):=hid (by
        have:=ht.out
        rw[List.take_of_length_le (by rw[hpl.out];omega)]at this
        rw[List.any_eq_false]
        intro x hx
        rw[this x hx];simp)
      have hr:=hid (show isPt p=decide (j≤4)by rw[isPt,hany.out,hpl.out];simp)
      by_cases h4:j≤4
      · have hd:decide ((j:Int)≤4)=true:=by simp;omega
        have hr2:=hid (show isPt p=true by rw[hr.out];exact decide_eq_true h4)
        go_wp2
        go_ret
        exact⟨ret_bool hr2.out.symm,rfl⟩
      · have hd:decide ((j:Int)≤4)=false:=by simp;omega
        have hr2:=hid (show isPt p=false by rw[hr.out];exact decide_eq_false h4)
        go_wp2
        go_ret
        exact⟨ret_bool hr2.out.symm,rfl⟩
section
variable {P : Program} {n : Nat} {y : Code} {K : Exit → St → Prop} {σ : St} {id i : Nat} {I : Nat → St → Prop} {m : Nat}
theorem ks_n (h:ACode P n y K σ):kseq P n y K .normal σ:=h
theorem ks_e (h:K (.exit i) σ):kseq P n y K (.exit i) σ:=h
theorem ks_r (h:K .ret σ):kseq P n y K .ret σ:=h
theorem kb_n (h:K .normal σ):kblock id K .normal σ:=h
theorem kb_r (h:K .ret σ):kblock id K .ret σ:=h
theorem kb_hit (h:K .normal σ):kblock id K (.exit id) σ:=by simpa [kblock]using h
theorem kl_e (h:K (.exit i) σ):kloop I m K (.exit i) σ:=h
theorem kl_r (h:K .ret σ):kloop I m K .ret σ:=h
def kcut (σm:St) (K:Exit→St→Prop):Exit→St→Prop
  | .normal,σ=>Wk σ σm
  |e,σ=>K e σ
theorem kc_n {σm:St} (h:Wk σ σm):kcut σm K .normal σ:=h
theorem ACode.cut {P:Program} {n:Nat} {c:Code} {K:Exit→St→Prop} {σ:St} (σm:St) (h:ACode P n c (kcut σm K) σ) (h2:K .normal σm):ACode P n c K σ:=by
  intro E bx a w hE hs
  refine wp_mono (h E bx a w hE hs) ?_
  rintro e a' w' ⟨σ',bx',h3,h4⟩
  cases e with
  |normal=>obtain⟨bx2,h5⟩:=h3 E bx' a' w' h4;exact⟨σm,bx2,h2,h5⟩
  |_=>exact⟨σ',bx',h3,h4⟩
theorem vB {a b:Bool} (h:a=b):V.o (bo1 a)= .o (bo1 b):=by rw[h]
theorem vI {a b:Int} (h:a=b):V.o (nat1 a)= .o (nat1 b):=by rw[h]
theorem kf_ret {res:Array ResultVar} {y:V} {hb':St} {xs:List V1} (hr:resL σ P res.toList=some xs) (hy:tupV xs=y) (hb:∀k e sz rows,lk hb' (.b k)= .b e sz rows→lk σ (.b k)= .b e sz rows):Kfin P res y hb' .ret σ:=⟨σ,xs,Wk.refl σ,hr,hy,hb⟩
theorem kf_wret {res:Array ResultVar} {y:V} {hb':St} {xs:List V1} (σ2:St) (hw:Wk σ σ2) (hr:resL σ2 P res.toList=some xs) (hy:tupV xs=y) (hb:∀k e sz rows,lk hb' (.b k)= .b e sz rows→lk σ2 (.b k)= .b e sz rows):Kfin P res y hb' .ret σ:=⟨σ2,xs,hw,hr,hy,hb⟩
theorem nobox:∀(k:Nat) (e:TypeId) (sz:Nat) (rows:List (List C)),lk [] (.b k)= .b e sz rows→lk σ (.b k)= .b e sz rows:=fun k e sz rows h=>by cases h
end
theorem Fn.code0 {P:Program} {f:FuncId} {fn:Func} {c:Code} {args:List V1} {y:V} (hf:P.funcs[f]?=some fn) (hbd:fn.body=some c) (hn:Nat.ble args.length fn.ntmps=true) (hra:refsOk [] args=true)
    (hry:refsOk [] [match y with | .o x=>x| .tup xs=>.agg (xs.flatMap V1.cells)| .gh _=>.agg []]=true) (h:ACode P fn.ntmps c (Kfin P fn.results y []) (argS 0 args)):Fn P f [] args y []:=
  Fn.of_code hf hbd hn HB.nil rfl hra HB.nil hry (fun k _ ⟨e,sz,rows,h⟩=>by cases h) (by rw[List.append_nil];exact h)
theorem Fn.pure {P:Program} {f:FuncId} {args:List V1} {y:V} (h:∀(B:Nat→Prop) (bx:Nat→Nat×Nat) (al:Nat→Prop) (w:World) (vs:List Value),Vals (V1r bx al B w) args vs→
    Calls P f vs.toArray w fun e w'=>∃v,e= .returned v∧Below w.heap.size w w'∧Vr bx al (fun b=>B b∨w.heap.size≤b) w' y v):Fn P f [] args y []:=by
  intro B bx w vs hh hv
  refine(h B bx _ w vs hv).mono ?_
  rintro e w' ⟨v,rfl,hb,hr⟩
  exact⟨v,bx,rfl,⟨fun k e sz rows h=>(by cases h),fun k l ⟨e,sz,rows,h⟩=>(by cases h),fun k ⟨e,sz,rows,h⟩=>(by cases h)⟩,hr.to (Same.refl _ _) (fun b hb _=>⟨hb,fun k ⟨e,sz,rows,h⟩=>(by cases h)⟩) (fun k _ h=>⟨h,rfl⟩),hb.os,hb.tape,hb.output,hb.size,fun b hl _=>hb.block b hl,fun k _ ⟨e,sz,rows,h⟩=>(by cases h),fun k ⟨e,sz,rows,h⟩=>(by cases h)⟩
/-! ### Data of affine expressions and nests -/
@[reducible] def dI (n : Int) : D := .val (.int .i64 n)
@[reducible] def dB (b : Bool) : D := .val (.bool b)
def rI (n:Int):List D:=[dI n]
def dIs (xs:List Int):D:=.list 1 (xs.map rI)
def rA (x:Aff):List D:=[dIs x.1,dI x.2]
def dAs (l:List Aff):D:=.list 2 (l.map rA)
def rL (l:Lp):List D:=[dAs l.1,dAs l.2]
def dLs (ns:List Lp):D:=.list 2 (ns.map rL)
abbrev vD (x:D):V1:=.c (.d x)
theorem map_at {α β:Type} {f:α→β} {l:List α} {i:Nat} {x:α} (h:l[i]?=some x):(l.map f)[i]?=some (f x):=by rw[List.getElem?_map,h];rfl
theorem dr_int {B:Nat→Prop} {w:World} {n:Int} {v:Value} (h:Dr B w (dI n) v):v= .int .i64 n:=by cases h;rfl
theorem dr_ints {B:Nat→Prop} {w:World} {xs:List Int} {v:Value} (h:Dr B w (dIs xs) v):Sl Sh.int B w v xs:=by
  obtain⟨ad,cap,rfl,h1,h2,h3,h4⟩:=h.slice
  rw[List.length_map]at h1 h2 h4 ⊢
  refine⟨ad,cap,rfl,h1,h2,h3,fun i x hx=>?_⟩
  obtain⟨b,off,rfl,h5⟩:=h4 (by have:=(List.getElem?_eq_some_iff.1 hx).1;omega)
  obtain⟨_,u,h6,h7,h8⟩:=h5 i (rI x) 0 (dI x) (map_at hx) rfl
  refine⟨b,off,[.int .i64 x],rfl,h6,rfl,fun j c hj=>?_⟩
  cases j with
  |zero=>simp at hj;subst hj;rw[←dr_int h8];exact h7
  |succ j=>simp at hj
theorem ints_dr {B:Nat→Prop} {w:World} {xs:List Int} {v:Value} (h:Sl Sh.int B w v xs):Dr B w (dIs xs) v:=by
  obtain⟨a,cap,rfl,h1,h2,h3,h4⟩:=h
  by_cases h0:xs.length=0
  · have:xs=[]:=List.eq_nil_of_length_eq_zero h0
    subst this
    exact Dr.list 1 [] a 0 cap 0 0 (fun _ _=>undef) rfl (Nat.zero_le _) (Nat.zero_le _) h3 (fun h=>absurd h (Nat.lt_irrefl _)) (fun i r h=>by simp at h) (fun i r j x h=>by simp at h) (fun i r j x h=>by simp at h)
  · obtain⟨b,off,cs,rfl,_⟩:=h4 0 xs[0] (List.getElem?_eq_getElem (by omega))
    have hr:∀(i:Nat) r,(xs.map rI)[i]?=some r→∃x,xs[i]?=some x∧r=rI x:=fun i r hr=>by
      rw[List.getElem?_map]at hr
      cases hx:xs[i]? with
      |none=>rw[hx]at hr;cases hr
      |some x=>rw[hx]at hr;cases hr;exact⟨x,rfl,rfl⟩
    refine Dr.list 1 (xs.map rI) (some ⟨b,off,none⟩) xs.length cap b off (fun i _=>.int .i64 (xs.getD i 0)) (by rw[List.length_map]) h1 h2 (fun h=>by cases h) (fun _=>rfl) (fun i r hi=>?_) (fun i r j y hi hj=>?_) (fun i r j y hi hj=>?_)
    ·obtain⟨x,_,rfl⟩:=hr i r hi;rfl
    all_goals
      obtain⟨x,hx,rfl⟩:=hr i r hi
      have hj0:j=0∧y=dI x:=by
        cases j with
        |zero=>simp[rI]at hj;exact⟨rfl,hj.symm⟩
        |succ j=>simp[rI]at hj
      obtain⟨rfl,rfl⟩:=hj0
      have hg:xs.getD i 0=x:=by rw[List.getD,hx];rfl
    · obtain⟨b',off',cs,e,hb,hr',hc⟩:=h4 i x hx
      cases e
      have hr2:cs=[.int .i64 x]:=hr'
      subst hr2
      exact⟨hb,by rw[hg];exact hc 0 _ rfl⟩
    · show Dr B w (dI x) (.int .i64 (xs.getD i 0))
      rw[hg];exact .val _ rfl
theorem dr_aff {bx:Nat→Nat×Nat} {al B:Nat→Prop} {w:World} {x:Aff} {v:Value} (h:V1r bx al B w (ad (rA x)) v):AffR B w v x:=by
  obtain⟨vs,rfl,hl,h⟩:=h
  match vs,hl with
  |[u0,u1],_=>
    have h0:Dr B w (dIs x.1) u0:=h 0 _ u0 rfl rfl
    have h1:Dr B w (dI x.2) u1:=h 1 _ u1 rfl rfl
    rw[dr_int h1]
    exact⟨u0,rfl,dr_ints h0⟩
theorem vals1 {R:V1→Value→Prop} {x:V1} {vs:List Value} (h:Vals R [x] vs):∃v,vs=[v]∧R x v:=by
  obtain⟨hl,h⟩:=h
  match vs,hl with
  |[v],_=>exact⟨v,rfl,h 0 x v rfl rfl⟩
theorem vals2 {R:V1→Value→Prop} {x y:V1} {vs:List Value} (h:Vals R [x,y] vs):∃u v,vs=[u,v]∧R x u∧R y v:=by
  obtain⟨hl,h⟩:=h
  match vs,hl with
  |[u,v],_=>exact⟨u,v,rfl,h 0 x u rfl rfl,h 1 y v rfl rfl⟩
theorem specAffV_fn (x:Aff):Fn Tryz.prog 167 [] [ad (rA x)] (.o (bo1 (affV x))) []:=
  Fn.pure fun B bx al w vs hv=>by
    obtain⟨v,rfl,h⟩:=vals1 hv
    exact(specAffV_any B v x w (dr_aff h)).mono fun e w' ⟨h1,h2⟩=>⟨_,h1,h2,.val _ rfl⟩
theorem l1Depth_fn (x:Aff):Fn Tryz.prog 168 [] [ad (rA x)] (.o (nat1 (affDepth x:Nat))) []:=
  Fn.pure fun B bx al w vs hv=>by
    obtain⟨v,rfl,h⟩:=vals1 hv
    exact(l1Depth_any B v x w (dr_aff h)).mono fun e w' ⟨h1,h2⟩=>⟨_,h1,h2,.val _ rfl⟩
section
variable {P : Program} {n : Nat} {ops : Array Oper} {o : Oper} {σ : St} {d : Nat} {t t2 : TypeId} {x y : Operand} {p q : Int}
theorem St1.appND {e:TypeId} {ts:Array TypeId} {s:Operand} {sz by':Nat} {news:List (List D)} (ho:o.op= .call {callee:=.builtin .append,args:=#[s,x],argTypes:=ts}) (hg:o.guard=none) (hd:o.dst=some d) (hn:Nat.blt d n=true) (hts:ts=#[t,t])
    (ht:tyA P t=some (e,sz+1,by',sz+1)) (hby:Nat.ble by' 32768=true) (hs':ev σ s=some (.o (.c (.d (.val (.slice none 0 0)))))) (hx:ev σ x=some (.o (.c (.d (.list (sz+1) news))))) (hl:0<news.length∧news.length≤4294967296):
    St1 P n ops o σ (rd s++rd x) [.t d] ((.t d,.v (.o (.c (.d (.list (sz+1) news)))))::σ):=
  St1.fresh hg hd hn fun E bx τ a w hR hs=>by
    subst hts
    obtain⟨w',g',cap',cur',r1,r2,r3,r4,r5,r6,r7,r9,r10⟩:=run_appN (ty:=o.type) ht w (ev_list hx (rd_r hR) hs) hl.1 hl.2 (Nat.le_of_ble_eq_true hby)
    have hbel:Below w.heap.size w w':=⟨r2.os,r2.tape,r2.output,r2.size,fun b hb=>r2.block b hb (by simp)⟩
    refine⟨⟨_,w',exec_app ho w w' _ (by rw[ev_val hs' (rd_l hR) hs];exact r1),hbel,?_⟩,fun k hk=>by cases hk⟩
    refine Dr.list _ news _ _ _ g' 0 (fun i j=>cur'.getD (i *(sz+1)+j) undef) rfl r5 (by omega) (fun h=>by cases h) (fun _=>rfl) (fun i r hi=>r9 r (List.mem_of_getElem? hi)) (fun i r j y hi hj=>⟨.inr r3,?_⟩) (fun i r j y hi hj=>?_)
    · obtain⟨u,h6,_⟩:=r10 i r j y hi hj
      rw[cell_of_row _ _ _ _ _ _ r4,Nat.zero_add,h6]
      simp[Array.getD_eq_getD_getElem?,h6]
    · obtain⟨u,h6,h7⟩:=r10 i r j y hi hj
      simp only[Array.getD_eq_getD_getElem?,h6,Option.getD_some]
      exact(h7.frame (below_sameAll hbel _)).mono fun b hb _=>.inl hb
end
theorem leafB {a b:Bool} (h:a=b):tupV [bo1 a]= .o (bo1 b):=by rw[h];rfl
theorem leafI {a b:Int} (h:a=b):tupV [nat1 a]= .o (nat1 b):=by rw[h];rfl
/-! ### The reader's data -/
theorem one_box {σ:St} {k0:Nat} {e0:TypeId} {sz0:Nat} {rows0:List (List C)} (h:lk σ (.b k0)= .b e0 sz0 rows0):∀k e sz rows,lk [(.b k0,.b e0 sz0 rows0),(.u k0,.u)] (.b k)= .b e sz rows→lk σ (.b k)= .b e sz rows:=fun k e sz rows h1=>by
  have hm:=lk_mem h1 (by simp)
  rcases List.mem_cons.1 hm with hm|hm
  ·cases hm;exact h
  · rcases List.mem_cons.1 hm with hm|hm
    ·cases hm
    ·cases hm
theorem one_num {σ:St} {k0:Nat} {e0:TypeId} {sz0:Nat} {rows0:List (List C)} (hk:Nat.ble 100 k0=true):∀k,k<100→Al (lk [(.b k0,.b e0 sz0 rows0),(.u k0,.u)]) k→Al (lk σ) k:=fun k h ⟨e,sz,rows,h1⟩=>by
  have hm:=lk_mem h1 (by simp)
  have:=Nat.le_of_ble_eq_true hk
  rcases List.mem_cons.1 hm with hm|hm
  ·cases hm;omega
  · rcases List.mem_cons.1 hm with hm|hm
    ·cases hm
    ·cases hm
def Bytes (bs:List Int):Prop:=bs.length≤2000∧∀b∈bs,0≤b∧b≤255
theorem Bytes.at {bs:List Int} (h:Bytes bs) (i:Nat):0≤bs.getD i 0∧bs.getD i 0≤255:=by
  rw[List.getD]
  cases hb:bs[i]? with
  |none=>simp
  |some b=>exact h.2 b (List.mem_of_getElem? hb)
section
variable {P : Program} {n : Nat} {ops : Array Oper} {o : Oper} {σ : St} {d : Nat}
theorem run_appG {t ty e:TypeId} {sz by':Nat} (ht:tyA P t=some (e,sz+1,by',sz+1)) (w:World) (g m cap:Nat) (cur:Array Value) (hg:w.heap[g]?=some (.cells cur e (0,0))) (hmc:m≤cap) (hcm:cap≤maxLen) (hcs:cap *(sz+1)=cur.size)
    (ad:Addr) (q c:Nat) (vss:List (List Value)) (f1:vss.length=q) (f2:∀r∈vss,r.length=sz+1) (f5:∀(j:Nat) u,vss.flatten[j]?=some u→w.cell? (ad.add j)=some u) (f6:∀u∈vss.flatten,u.oneCell'=true) (hn:m+q≤4294967296) (hby:by'≤32768):
    ∃(w':World) (g' cap':Nat) (cur':Array Value),(Builtin.append_ #[t,t] ty #[.slice (some ⟨g,0,none⟩) m cap,.slice (some ad) q c]).run P w= .ok (.slice (some ⟨g',0,none⟩) (m+q) cap') w'∧w.grownBy w' (some g)∧(g'=g∨w.heap.size≤g')∧w'.heap[g']?=some (.cells cur' e (0,0))∧
      m+q≤cap'∧cap'≤maxLen∧cap' *(sz+1)=cur'.size∧(∀p,p<m *(sz+1)→cur'[p]?=cur[p]?)∧∀(i:Nat) vs (j:Nat) u,vss[i]?=some vs→vs[j]?=some u→cur'[(m+i) *(sz+1)+j]?=some u:=by
  obtain⟨hu,i,z,hi,hz,hs1,hs2,hs3⟩:=tyA_out ht
  have hown:w.ownsRow 0 e (sz+1) (.slice (some ⟨g,0,none⟩) m cap) m (cur.toList.take (m *(sz+1))):=by
    refine⟨?_,.inr ⟨g,cap,cur,rfl,Nat.zero_le _,hg,hmc,hcm,hcs.symm,rfl⟩⟩
    have:=Nat.mul_le_mul_right (sz+1) hmc
    rw[List.length_take,Array.length_toList];omega
  have hfl:vss.flatten.length=q *(sz+1):=by rw[flat_len f2,f1]
  obtain⟨v',w',hr,hp⟩:=run_app (P:=P) w 0 t ty e i z (sz+1) by' hu hi hz hs1 hs2 hs3 (by omega) (.slice (some ⟨g,0,none⟩) m cap) m _ hown ad q c vss.flatten hfl f5 f6
    (by unfold maxLen;omega) (by have:=Nat.mul_le_mul hn hby;omega) (Nat.zero_le _)
  obtain⟨p1,p2,p3⟩:=hp
  have hol:m *(sz+1)≤cur.size:=by have:=Nat.mul_le_mul_right (sz+1) hmc;omega
  rcases p1.2 with⟨rfl,h0⟩|⟨g',cap',cur',rfl,_,k1,k2,k3,k4,k5⟩
  ·rcases p3 with h|⟨k,h,_⟩<;>cases h
  · have hat : ∀ p, p < (m + q) * (sz + 1) → cur'[p]? = (cur.toList.take (m * (sz + 1)) ++ vss.flatten)[p]? := fun p hp => by
      rw[←k5,List.getElem?_take,if_pos hp,Array.getElem?_toList]
    have htl:(cur.toList.take (m *(sz+1))).length=m *(sz+1):=by rw[List.length_take,Array.length_toList];omega
    refine⟨w',g',cap',cur',hr,p2,?_,k1,k2,k3,k4.symm,fun p hp=>?_,fun l vs j u hl hj=>?_⟩
    · rcases p3 with h|⟨k,h,h2⟩
      ·exact .inl (Option.some.inj h)
      ·exact .inr (by have:=Option.some.inj h;simp only at this;omega)
    ·rw[hat p (by rw[Nat.add_mul];omega),List.getElem?_append_left (by omega),List.getElem?_take,if_pos hp,Array.getElem?_toList]
    · have hll:=(List.getElem?_eq_some_iff.1 hl).1
      have hjl:j<sz+1:=by have:=f2 vs (List.mem_of_getElem? hl);have:=(List.getElem?_eq_some_iff.1 hj).1;omega
      have hlt:(m+l) *(sz+1)+j<(m+q) *(sz+1):=by
        have:=Nat.mul_le_mul_right (sz+1) (show m+l+1≤m+q by omega)
        rw[Nat.add_mul (m+l)]at this;omega
      rw[hat _ hlt,List.getElem?_append_right (by rw[Nat.add_mul];omega),htl,show (m+l) *(sz+1)+j -m *(sz+1)=l *(sz+1)+j by rw[Nat.add_mul];omega,flat_get f2 _ _ hjl,hl]
      exact hj
theorem St1.appBB {t e e2:TypeId} {s x:Operand} {ts:Array TypeId} {sz by' k k2 k' m q:Nat} {rows rows2:List (List C)} (ho:o.op= .call {callee:=.builtin .append,args:=#[s,x],argTypes:=ts}) (hg:o.guard=none) (hd:o.dst=some d) (hn:Nat.blt d n=true) (hts:ts=#[t,t])
    (ht:tyA P t=some (e,sz+1,by',sz+1)) (hby:Nat.ble by' 32768=true) (hs':ev σ s=some (.o (.c (.own k (sz+1) m)))) (hb:lk σ (.b k)= .b e (sz+1) rows) (hx:ev σ x=some (.o (.c (.own k2 (sz+1) q)))) (hb2:lk σ (.b k2)= .b e2 (sz+1) rows2) (hm:rows.length=m) (hq:rows2.length=q) (hl:rows.length+rows2.length≤4294967296) (hf:lk σ (.u k')= .no) (h100:Nat.ble 100 k'=true) (hkk:okk k k'=true):
    St1 P n ops o σ (.u k'::((rd s++rd x)++[.b k,.b k2])) [.t d,.u k',.b k',.b k] ((.t d,.v (.o (.c (.own k' (sz+1) (m+q)))))::(.u k',.u)::(.b k',.b e (sz+1) (rows++rows2))::(.b k,.no)::σ):=
  St1.place hg hd hn hf h100 hkk rfl fun E bx τ a w hR hs=>by
    subst hts hm hq
    have hk:τ (.b k)= .b e (sz+1) rows:=(rd_r hR _ (by simp)).trans hb
    have hk2:τ (.b k2)= .b e2 (sz+1) rows2:=(rd_r hR _ (by simp)).trans hb2
    obtain⟨cap,e1,c1,c2,c3⟩:=ev_own hs' (rd_l (rd_l hR)) hs (Al_of hk)
    obtain⟨cap2,e3,d1,d2,d3⟩:=ev_own hx (rd_r (rd_l hR)) hs (Al_of hk2)
    obtain⟨cur,h1,h2,h3,h4,h5⟩:=hs.box k e _ rows hk
    obtain⟨cur2,g1,g2,g3,g4,g5⟩:=hs.box k2 e2 _ rows2 hk2
    have hvl:∀r∈(List.range rows2.length).map fun i=>(List.range (sz+1)).map fun j=>cur2.getD (i *(sz+1)+j) undef,r.length=sz+1:=fun r hr=>by
      obtain⟨i,_,rfl⟩:=List.mem_map.1 hr
      simp
    have hflat:∀(p:Nat) u,(((List.range rows2.length).map fun i=>(List.range (sz+1)).map fun j=>cur2.getD (i *(sz+1)+j) undef).flatten)[p]?=some u→∃r c,r∈rows2∧c∈r∧cur2[p]?=some u∧Cr bx (Al τ) (Bf E bx τ) w c u:=fun p u hp=>by
      have hpl:=(List.getElem?_eq_some_iff.1 hp).1
      rw[flat_len hvl,List.length_map,List.length_range]at hpl
      have hs0:0<sz+1:=by omega
      have hdiv:p / (sz+1)<rows2.length:=(Nat.div_lt_iff_lt_mul hs0).2 hpl
      have hmod:=Nat.mod_lt p hs0
      have hdm:p=p / (sz+1) *(sz+1)+p % (sz+1):=by rw[Nat.mul_comm];exact(Nat.div_add_mod p (sz+1)).symm
      rw[hdm,flat_get hvl _ _ hmod]at hp
      have hrow:=g4 _ _ (List.getElem?_eq_getElem hdiv)
      obtain⟨u',h6,h7⟩:=g5 (p / (sz+1)) _ (p % (sz+1)) _ (List.getElem?_eq_getElem hdiv) (List.getElem?_eq_getElem (by rw[hrow];exact hmod))
      simp[hdiv,hmod]at hp
      rw[h6]at hp
      simp at hp
      subst hp
      exact⟨_,_,List.getElem_mem hdiv,List.getElem_mem _,by rw[hdm];exact h6,h7⟩
    obtain⟨w',g',cap',cur',r1,r2,r3,r4,r5,r6,r7,r8,r10⟩:=run_appG (ty:=o.type) ht w (bx k).1 rows.length cap cur h1 c1 c2 (by rw[h2];exact c3) ⟨(bx k2).1,0,none⟩ rows2.length cap2 ((List.range rows2.length).map fun i=>(List.range (sz+1)).map fun j=>cur2.getD (i *(sz+1)+j) undef) (by simp) hvl
      (fun p u hp=>by
        obtain⟨_,_,_,_,h6,_⟩:=hflat p u hp
        rw[Addr.add_mid,cell_of_row w _ _ _ _ _ g1,Nat.zero_add];exact h6)
      (fun u hu=>by
        obtain⟨p,hp⟩:=List.mem_iff_getElem?.1 hu
        obtain⟨_,_,_,_,_,h7⟩:=hflat p u hp
        exact h7.one) hl (Nat.le_of_ble_eq_true hby)
    have hrl:(rows++rows2).length=rows.length+rows2.length:=by simp
    refine⟨_,w',g',(bx k).1,cur',exec_app ho w w' _ (by rw[e1,e3];exact r1),?_,r2,.inr ⟨Al_of hk,rfl⟩,r4,by rw[hrl,←r7];exact Nat.mul_le_mul_right _ r5,fun i r hi=>?_,fun i r j c hi hj=>?_,fun r hr c hc l hl=>?_,fun bx' al B w2 hbx=>⟨rfl,fun _=>⟨cap',by rw[hbx],r5,r6,by rw[hbx];exact r7⟩⟩⟩
    ·exact r3.imp (fun h=>⟨Al_of hk,h⟩) id
    · rw[List.getElem?_append]at hi
      split at hi
      ·exact h4 i r hi
      ·exact g4 _ r hi
    · rw[List.getElem?_append]at hi
      split at hi
      · rename_i hlt
        obtain⟨u,h6,h7⟩:=h5 i r j c hi hj
        have hjl:j<sz+1:=by have:=h4 i r hi;have:=(List.getElem?_eq_some_iff.1 hj).1;omega
        have:=Nat.mul_le_mul_right (sz+1) (show i+1≤rows.length by omega)
        rw[Nat.add_mul]at this
        exact⟨u,(r8 _ (by omega)).trans h6,h7⟩
      · rename_i hge
        obtain⟨u,h6,h7⟩:=g5 (i -rows.length) r j c hi hj
        have hil:=(List.getElem?_eq_some_iff.1 hi).1
        have hjl:j<sz+1:=by have:=g4 _ r hi;have:=(List.getElem?_eq_some_iff.1 hj).1;omega
        refine⟨u,?_,h7⟩
        rw[show i=rows.length+(i -rows.length)by omega]
        exact r10 (i -rows.length) _ j u (by simp[hil];rfl) (by simp[hjl,h6])
    · rw[List.mem_append]at hr
      rcases hr with hr|hr
      ·exact fun hu=>(hs.unused l hu).2.2 k e _ rows hk r hr c hc hl
      ·exact fun hu=>(hs.unused l hu).2.2 k2 e2 _ rows2 hk2 r hr c hc hl
end
section
variable {P : Program} {n : Nat} {ops : Array Oper} {o : Oper} {σ : St} {d : Nat}
theorem St1.mv {x:Operand} {v:V} (h4:(o.op,o.guard,o.dst,Nat.blt d n)=(Op.move x,none,some d,true):=by exact rfl) (hx:ev σ x=some v:=by exact rfl):
    St1 P n ops o σ (rd x) [.t d] ((.t d,.v (v))::σ):=by
  simp only[Prod.mk.injEq]at h4
  exact St1.move  h4.1 h4.2.1 h4.2.2.1 h4.2.2.2 hx
theorem St1.asg {x:Operand} {v:V} (h4:(o.op,o.guard,o.dst,Nat.blt d n)=(Op.assign x,none,some d,true):=by exact rfl) (hx:ev σ x=some v:=by exact rfl):
    St1 P n ops o σ (rd x) [.t d] ((.t d,.v (v))::σ):=by
  simp only[Prod.mk.injEq]at h4
  exact St1.assign  h4.1 h4.2.1 h4.2.2.1 h4.2.2.2 hx
theorem St1.pT {c x y:Operand} {v:V} (h4:(o.op,o.guard,o.dst,Nat.blt d n)=(Op.pick c x y,none,some d,true):=by exact rfl) (hc:ev σ c=some (.o (bo1 true)):=by exact rfl) (hx:ev σ x=some v:=by exact rfl):
    St1 P n ops o σ (rd c++rd x) [.t d] ((.t d,.v (v))::σ):=by
  simp only[Prod.mk.injEq]at h4
  exact St1.pickT  h4.1 h4.2.1 h4.2.2.1 h4.2.2.2 hc hx
theorem St1.pF {c x y:Operand} {v:V} (h4:(o.op,o.guard,o.dst,Nat.blt d n)=(Op.pick c x y,none,some d,true):=by exact rfl) (hc:ev σ c=some (.o (bo1 false)):=by exact rfl) (hy:ev σ y=some v:=by exact rfl):
    St1 P n ops o σ (rd c++rd y) [.t d] ((.t d,.v (v))::σ):=by
  simp only[Prod.mk.injEq]at h4
  exact St1.pickF  h4.1 h4.2.1 h4.2.2.1 h4.2.2.2 hc hy
theorem St1.pl {x y:Operand} {p q:Int} {t t2:TypeId} (h4:(o.op,o.guard,o.dst,Nat.blt d n)=(Op.binOp .add t x y t2,none,some d,true):=by exact rfl) (hx:ev σ x=some (.o (nat1 p)):=by exact rfl) (hy:ev σ y=some (.o (nat1 q)):=by exact rfl) (hr: -9223372036854775808≤p+q∧p+q≤9223372036854775807:=by omega):
    St1 P n ops o σ (rd x++rd y) [.t d] ((.t d,.v (.o (nat1 (p+q))))::σ):=by
  simp only[Prod.mk.injEq]at h4
  exact St1.add  h4.1 h4.2.1 h4.2.2.1 h4.2.2.2 hx hy hr
theorem St1.sb {x y:Operand} {p q:Int} {t t2:TypeId} (h4:(o.op,o.guard,o.dst,Nat.blt d n)=(Op.binOp .sub t x y t2,none,some d,true):=by exact rfl) (hx:ev σ x=some (.o (nat1 p)):=by exact rfl) (hy:ev σ y=some (.o (nat1 q)):=by exact rfl) (hr: -9223372036854775808≤p -q∧p -q≤9223372036854775807:=by omega):
    St1 P n ops o σ (rd x++rd y) [.t d] ((.t d,.v (.o (nat1 (p -q))))::σ):=by
  simp only[Prod.mk.injEq]at h4
  exact St1.sub  h4.1 h4.2.1 h4.2.2.1 h4.2.2.2 hx hy hr
theorem St1.ml {x y:Operand} {p q:Int} {t t2:TypeId} (h4:(o.op,o.guard,o.dst,Nat.blt d n)=(Op.binOp .mul t x y t2,none,some d,true):=by exact rfl) (hx:ev σ x=some (.o (nat1 p)):=by exact rfl) (hy:ev σ y=some (.o (nat1 q)):=by exact rfl) (hr: -9223372036854775808≤p *q∧p *q≤9223372036854775807:=by omega):
    St1 P n ops o σ (rd x++rd y) [.t d] ((.t d,.v (.o (nat1 (p *q))))::σ):=by
  simp only[Prod.mk.injEq]at h4
  exact St1.mul  h4.1 h4.2.1 h4.2.2.1 h4.2.2.2 hx hy hr
theorem St1.ls {x y:Operand} {p q:Int} {t t2:TypeId} (h4:(o.op,o.guard,o.dst,Nat.blt d n)=(Op.binOp .lss t x y t2,none,some d,true):=by exact rfl) (hx:ev σ x=some (.o (nat1 p)):=by exact rfl) (hy:ev σ y=some (.o (nat1 q)):=by exact rfl):
    St1 P n ops o σ (rd x++rd y) [.t d] ((.t d,.v (.o (bo1 (decide (p<q)))))::σ):=by
  simp only[Prod.mk.injEq]at h4
  exact St1.lss  h4.1 h4.2.1 h4.2.2.1 h4.2.2.2 hx hy
theorem St1.le {x y:Operand} {p q:Int} {t t2:TypeId} (h4:(o.op,o.guard,o.dst,Nat.blt d n)=(Op.binOp .leq t x y t2,none,some d,true):=by exact rfl) (hx:ev σ x=some (.o (nat1 p)):=by exact rfl) (hy:ev σ y=some (.o (nat1 q)):=by exact rfl):
    St1 P n ops o σ (rd x++rd y) [.t d] ((.t d,.v (.o (bo1 (decide (p≤q)))))::σ):=by
  simp only[Prod.mk.injEq]at h4
  exact St1.leq  h4.1 h4.2.1 h4.2.2.1 h4.2.2.2 hx hy
theorem St1.gt {x y:Operand} {p q:Int} {t t2:TypeId} (h4:(o.op,o.guard,o.dst,Nat.blt d n)=(Op.binOp .gtr t x y t2,none,some d,true):=by exact rfl) (hx:ev σ x=some (.o (nat1 p)):=by exact rfl) (hy:ev σ y=some (.o (nat1 q)):=by exact rfl):
    St1 P n ops o σ (rd x++rd y) [.t d] ((.t d,.v (.o (bo1 (decide (q<p)))))::σ):=by
  simp only[Prod.mk.injEq]at h4
  exact St1.gtr  h4.1 h4.2.1 h4.2.2.1 h4.2.2.2 hx hy
theorem St1.ge {x y:Operand} {p q:Int} {t t2:TypeId} (h4:(o.op,o.guard,o.dst,Nat.blt d n)=(Op.binOp .geq t x y t2,none,some d,true):=by exact rfl) (hx:ev σ x=some (.o (nat1 p)):=by exact rfl) (hy:ev σ y=some (.o (nat1 q)):=by exact rfl):
    St1 P n ops o σ (rd x++rd y) [.t d] ((.t d,.v (.o (bo1 (decide (q≤p)))))::σ):=by
  simp only[Prod.mk.injEq]at h4
  exact St1.geq  h4.1 h4.2.1 h4.2.2.1 h4.2.2.2 hx hy
theorem St1.eq {x y:Operand} {p q:Int} {t t2:TypeId} (h4:(o.op,o.guard,o.dst,Nat.blt d n)=(Op.binOp .eql t x y t2,none,some d,true):=by exact rfl) (hx:ev σ x=some (.o (nat1 p)):=by exact rfl) (hy:ev σ y=some (.o (nat1 q)):=by exact rfl):
    St1 P n ops o σ (rd x++rd y) [.t d] ((.t d,.v (.o (bo1 (decide (p=q)))))::σ):=by
  simp only[Prod.mk.injEq]at h4
  exact St1.eql  h4.1 h4.2.1 h4.2.2.1 h4.2.2.2 hx hy
theorem St1.ne {x y:Operand} {p q:Int} {t t2:TypeId} (h4:(o.op,o.guard,o.dst,Nat.blt d n)=(Op.binOp .neq t x y t2,none,some d,true):=by exact rfl) (hx:ev σ x=some (.o (nat1 p)):=by exact rfl) (hy:ev σ y=some (.o (nat1 q)):=by exact rfl):
    St1 P n ops o σ (rd x++rd y) [.t d] ((.t d,.v (.o (bo1 (!decide (p=q)))))::σ):=by
  simp only[Prod.mk.injEq]at h4
  exact St1.neq  h4.1 h4.2.1 h4.2.2.1 h4.2.2.2 hx hy
theorem St1.nt {x:Operand} {t:TypeId} {b:Bool} (h4:(o.op,o.guard,o.dst,Nat.blt d n)=(Op.unOp .not t x,none,some d,true):=by exact rfl) (hx:ev σ x=some (.o (bo1 b)):=by exact rfl):
    St1 P n ops o σ (rd x) [.t d] ((.t d,.v (.o (bo1 (!b))))::σ):=by
  simp only[Prod.mk.injEq]at h4
  exact St1.not  h4.1 h4.2.1 h4.2.2.1 h4.2.2.2 hx
theorem St1.l1 (m:Nat) {t:TypeId} {x:Operand} {c:D} {rest:List D} (h4:(o.op,o.guard,o.dst,Nat.blt d n)=(Op.load t x,none,some d,true):=by exact rfl) (hx:ev σ x=some (.o (.c (.ptr (c::rest)))):=by exact rfl) (ht:tyL P t=some (false,m):=by kernel_rfl):
    St1 P n ops o σ (rd x) [.t d] ((.t d,.v (.o (.c (.d c))))::σ):=by
  simp only[Prod.mk.injEq]at h4
  exact St1.loadP1 (m:=m) h4.1 h4.2.1 h4.2.2.1 h4.2.2.2 ht hx
theorem St1.lN (m:Nat) {t:TypeId} {x:Operand} {cells:List D} (h4:(o.op,o.guard,o.dst,Nat.blt d n)=(Op.load t x,none,some d,true):=by exact rfl) (hx:ev σ x=some (.o (.c (.ptr cells))):=by exact rfl) (hm:Nat.ble m cells.length=true:=by exact rfl) (ht:tyL P t=some (true,m):=by kernel_rfl):
    St1 P n ops o σ (rd x) [.t d] ((.t d,.v (.o (ad (cells.take m))))::σ):=by
  simp only[Prod.mk.injEq]at h4
  exact St1.loadPN (m:=m) h4.1 h4.2.1 h4.2.2.1 h4.2.2.2 ht hx hm
theorem St1.b1 (m:Nat) {t:TypeId} {x:Operand} {k sz sz' i j:Nat} {e:TypeId} {rows:List (List C)} {r:List C} {c:C} (h4:(o.op,o.guard,o.dst,Nat.blt d n)=(Op.load t x,none,some d,true):=by exact rfl) (hx:ev σ x=some (.o (.c (.box k sz i j))):=by exact rfl) (hb:lk σ (.b k)= .b e sz' rows:=by exact rfl) (hsz:sz'=sz:=by exact rfl) (hi:rows[i]?=some r:=by exact rfl) (hj:r[j]?=some c:=by exact rfl) (ht:tyL P t=some (false,m):=by kernel_rfl):
    St1 P n ops o σ (rd x++[.b k]) [.t d] ((.t d,.v (.o (.c c)))::σ):=by
  simp only[Prod.mk.injEq]at h4
  exact St1.loadB1 (m:=m) h4.1 h4.2.1 h4.2.2.1 h4.2.2.2 ht hx hb hsz hi hj
theorem St1.bN (m:Nat) {t:TypeId} {x:Operand} {k sz sz' i j:Nat} {e:TypeId} {rows:List (List C)} {r:List C} (h4:(o.op,o.guard,o.dst,Nat.blt d n)=(Op.load t x,none,some d,true):=by exact rfl) (hx:ev σ x=some (.o (.c (.box k sz i j))):=by exact rfl) (hb:lk σ (.b k)= .b e sz' rows:=by exact rfl) (hsz:sz'=sz:=by exact rfl) (hi:rows[i]?=some r:=by exact rfl) (hj:Nat.ble (j+m) r.length=true:=by exact rfl) (ht:tyL P t=some (true,m):=by kernel_rfl):
    St1 P n ops o σ (rd x++[.b k]) [.t d] ((.t d,.v (.o (.agg ((r.drop j).take m))))::σ):=by
  simp only[Prod.mk.injEq]at h4
  exact St1.loadBN (m:=m) h4.1 h4.2.1 h4.2.2.1 h4.2.2.2 ht hx hb hsz hi hj
theorem St1.fP (off:Nat) (m:Nat) (r:Bool) {t:TypeId} {x:Operand} {f:Nat} {cells:List D} (h4:(o.op,o.guard,o.dst,Nat.blt d n)=(Op.fieldAddr t x f,none,some d,true):=by exact rfl) (hx:ev σ x=some (.o (.c (.ptr cells))):=by exact rfl) (ht:tyF P t f=some (off,r,m+1):=by kernel_rfl):
    St1 P n ops o σ (rd x) [.t d] ((.t d,.v (.o (.c (.ptr (cells.drop off)))))::σ):=by
  simp only[Prod.mk.injEq]at h4
  exact St1.fieldP (off:=off) (m:=m) (r:=r) h4.1 h4.2.1 h4.2.2.1 h4.2.2.2 ht hx
theorem St1.fB (off:Nat) (m:Nat) (r:Bool) {t:TypeId} {x:Operand} {f k sz i j:Nat} {e:TypeId} {sz':Nat} {rows:List (List C)} (h4:(o.op,o.guard,o.dst,Nat.blt d n)=(Op.fieldAddr t x f,none,some d,true):=by exact rfl) (hx:ev σ x=some (.o (.c (.box k sz i j))):=by exact rfl) (hb:lk σ (.b k)= .b e sz' rows:=by exact rfl) (ht:tyF P t f=some (off,r,m+1):=by kernel_rfl):
    St1 P n ops o σ (rd x++[.b k]) [.t d] ((.t d,.v (.o (.c (.box k sz i (j+off)))))::σ):=by
  simp only[Prod.mk.injEq]at h4
  exact St1.fieldB (off:=off) (m:=m) (r:=r) h4.1 h4.2.1 h4.2.2.1 h4.2.2.2 ht hx hb
theorem St1.f1 (off:Nat) (m:Nat) {t:TypeId} {x:Operand} {f:Nat} {cs:List C} {c:C} (h4:(o.op,o.guard,o.dst,Nat.blt d n)=(Op.field t x f,none,some d,true):=by exact rfl) (hx:ev σ x=some (.o (.agg cs)):=by exact rfl) (hc:cs[off]?=some c:=by exact rfl) (ht:tyF P t f=some (off,false,m):=by kernel_rfl):
    St1 P n ops o σ (rd x) [.t d] ((.t d,.v (.o (.c c)))::σ):=by
  simp only[Prod.mk.injEq]at h4
  exact St1.field1 (off:=off) (m:=m) h4.1 h4.2.1 h4.2.2.1 h4.2.2.2 ht hx hc
theorem St1.xL (e:TypeId) (sz:Nat) (by':Nat) {t:TypeId} {x y:Operand} {sz' i:Nat} {rows:List (List D)} {r:List D} {z:Int} (h4:(o.op,o.guard,o.dst,Nat.blt d n)=(Op.indexAddr t x y,none,some d,true):=by exact rfl) (hx:ev σ x=some (.o (.c (.d (.list sz' rows)))):=by exact rfl) (hsz:sz'=sz:=by exact rfl) (hy:ev σ y=some (.o (nat1 z)):=by exact rfl) (hz:z=(i:Int):=by exact rfl) (hi:rows[i]?=some r:=by first|exact map_at (by assumption)|rfl) (ht:tyS P t=some (e,sz,by'):=by kernel_rfl):
    St1 P n ops o σ (rd x++rd y) [.t d] ((.t d,.v (.o (.c (.ptr r))))::σ):=by
  simp only[Prod.mk.injEq]at h4
  exact St1.indexL (e:=e) (sz:=sz) (by':=by') h4.1 h4.2.1 h4.2.2.1 h4.2.2.2 ht hx hsz hy hz hi
theorem St1.xB (e:TypeId) (sz:Nat) (by':Nat) {t e':TypeId} {x y:Operand} {sz' sz2 i k m:Nat} {rows:List (List C)} {z:Int} (h4:(o.op,o.guard,o.dst,Nat.blt d n)=(Op.indexAddr t x y,none,some d,true):=by exact rfl) (hx:ev σ x=some (.o (.c (.own k sz' m))):=by exact rfl) (hsz:sz'=sz:=by exact rfl) (hb:lk σ (.b k)= .b e' sz2 rows:=by exact rfl) (hy:ev σ y=some (.o (nat1 z)):=by exact rfl) (hz:z=(i:Int):=by exact rfl) (hi:i<m:=by omega) (ht:tyS P t=some (e,sz,by'):=by kernel_rfl):
    St1 P n ops o σ ((rd x++rd y)++[.b k]) [.t d] ((.t d,.v (.o (.c (.box k sz' i 0))))::σ):=by
  simp only[Prod.mk.injEq]at h4
  exact St1.indexB (e:=e) (sz:=sz) (by':=by') h4.1 h4.2.1 h4.2.2.1 h4.2.2.2 ht hx hsz hb hy hz hi
theorem St1.ln (e:TypeId) (m:Nat) (by':Nat) {t:TypeId} {x:Operand} {sz l:Nat} {rows:List (List D)} {ts:Array TypeId} (h4:(o.op,o.guard,o.dst,Nat.blt d n)=(Op.call {callee:=.builtin .len,args:=#[x],argTypes:=ts},none,some d,true):=by exact rfl) (hts:ts=#[t]:=by exact rfl) (hx:ev σ x=some (.o (.c (.d (.list sz rows)))):=by exact rfl) (hl:rows.length=l:=by first|exact List.length_map _|rfl) (ht:tyS P t=some (e,m,by'):=by kernel_rfl):
    St1 P n ops o σ (rd x) [.t d] ((.t d,.v (.o (nat1 (l:Nat))))::σ):=by
  simp only[Prod.mk.injEq]at h4
  exact St1.lenL (e:=e) (m:=m) (by':=by') h4.1 h4.2.1 h4.2.2.1 h4.2.2.2 hts ht hx hl
theorem St1.lB (e:TypeId) (m:Nat) (by':Nat) {t e':TypeId} {x:Operand} {sz sz' k l:Nat} {rows:List (List C)} {ts:Array TypeId} (h4:(o.op,o.guard,o.dst,Nat.blt d n)=(Op.call {callee:=.builtin .len,args:=#[x],argTypes:=ts},none,some d,true):=by exact rfl) (hts:ts=#[t]:=by exact rfl) (hx:ev σ x=some (.o (.c (.own k sz l))):=by exact rfl) (hb:lk σ (.b k)= .b e' sz' rows:=by exact rfl) (ht:tyS P t=some (e,m,by'):=by kernel_rfl):
    St1 P n ops o σ (rd x++[.b k]) [.t d] ((.t d,.v (.o (nat1 (l:Nat))))::σ):=by
  simp only[Prod.mk.injEq]at h4
  exact St1.lenB (e:=e) (m:=m) (by':=by') h4.1 h4.2.1 h4.2.2.1 h4.2.2.2 hts ht hx hb
theorem St1.ex {x:Operand} {i:Nat} {xs:List V1} {y:V1} (h4:(o.op,o.guard,o.dst,Nat.blt d n)=(Op.extract x i,none,some d,true):=by exact rfl) (hx:ev σ x=some (.tup xs):=by exact rfl) (hi:xs[i]?=some y:=by exact rfl):
    St1 P n ops o σ (rd x) [.t d] ((.t d,.v (.o y))::σ):=by
  simp only[Prod.mk.injEq]at h4
  exact St1.extract  h4.1 h4.2.1 h4.2.2.1 h4.2.2.2 hx hi
theorem St1.nB {x:Operand} {k sz i j:Nat} {e:TypeId} {sz':Nat} {rows:List (List C)} (h4:(o.op,o.guard,o.dst,Nat.blt d n)=(Op.nilCheck x,none,some d,true):=by exact rfl) (hx:ev σ x=some (.o (.c (.box k sz i j))):=by exact rfl) (hb:lk σ (.b k)= .b e sz' rows:=by exact rfl):
    St1 P n ops o σ (rd x++[.b k]) [.t d] ((.t d,.v (.o (.c (.box k sz i j))))::σ):=by
  simp only[Prod.mk.injEq]at h4
  exact St1.nilB  h4.1 h4.2.1 h4.2.2.1 h4.2.2.2 hx hb
theorem St1.al (k':Nat) (zs:List Value) {P:Program} {n:Nat} {ops:Array Oper} {o:Oper} {σ:St} {d:Nat} {t:TypeId} (h4:(o.op,o.guard,o.dst,Nat.blt d n)=(Op.alloc t,none,some d,true):=by exact rfl) (hz:zs.all (·.oneCell')=true:=by exact rfl) (hf:(lk σ (.u k'),Nat.ble 100 k')=(.no,true):=by exact rfl) (ht:tyZ P t=some zs:=by kernel_rfl):
    St1 P n ops o σ [.u k'] [.t d,.u k',.b k',.b k'] ((.t d,.v (.o (.c (.box k' zs.length 0 0))))::(.u k',.u)::(.b k',.b t zs.length [zs.map fun z=>C.d (.val z)])::(.b k',.no)::σ):=by
  simp only[Prod.mk.injEq]at h4 hf
  exact St1.alloc h4.1 h4.2.1 h4.2.2.1 h4.2.2.2 ht hz hf.1 hf.2
theorem St1.gF {P:Program} {n:Nat} {ops:Array Oper} {o:Oper} {σ:St} {d:Nat} {i:Nat} {b c:Bool} {t:Tmp} (h4:(o.guard,o.dst,(ops[i]?).bind (·.dst),Nat.blt t n,Nat.blt d n)=(some (i,b),some d,some t,true,true):=by exact rfl) (hv:(lk σ (.t t))= .v (.o (bo1 c)):=by exact rfl) (hc:c= !b:=by exact rfl):St1 P n ops o σ [.t t] [.t d] ((.t d,.v (.tup []))::σ):=by
  simp only[Prod.mk.injEq]at h4
  exact St1.guardF h4.1 h4.2.1 h4.2.2.1 h4.2.2.2.1 h4.2.2.2.2 hv hc
theorem St1.gU {P:Program} {n:Nat} {ops:Array Oper} {o:Oper} {σ:St} {d:Nat} {i:Nat} {b:Bool} {t:Tmp} (h4:(o.guard,o.dst,(ops[i]?).bind (·.dst),Nat.blt t n,Nat.blt d n)=(some (i,b),some d,some t,true,true):=by exact rfl) (hv:(lk σ (.t t))= .v (.tup []):=by exact rfl):St1 P n ops o σ [.t t] [.t d] ((.t d,.v (.tup []))::σ):=by
  simp only[Prod.mk.injEq]at h4
  exact St1.guardU h4.1 h4.2.1 h4.2.2.1 h4.2.2.2.1 h4.2.2.2.2 hv
theorem St1.gT {P:Program} {n:Nat} {ops:Array Oper} {o:Oper} {σ:St} {i:Nat} {b c:Bool} {t:Tmp} {R W:List Res} {σ':St} (h4:(o.guard,(ops[i]?).bind (·.dst),Nat.blt t n)=(some (i,b),some t,true)) (hv:lk σ (.t t)= .v (.o (bo1 c))) (hc:c=b) (h:St1 P n ops {o with guard:=none} σ R W σ'):St1 P n ops o σ (.t t::R) W σ':=by
  simp only[Prod.mk.injEq]at h4
  exact St1.guardT h4.1 h4.2.1 h4.2.2 hv hc h
theorem St1.sT (m:Nat) (rw':Bool) {P:Program} {n:Nat} {ops:Array Oper} {o:Oper} {σ:St} {t:TypeId} {x y:Operand} {k sz sz' i j:Nat} {e:TypeId} {rows:List (List C)} {r:List C} {v:V1} (h4:(o.op,o.guard,o.dst)=(Op.store t x y,none,none):=by exact rfl) (hx:ev σ x=some (.o (.c (.box k sz i j))):=by exact rfl) (hb:lk σ (.b k)= .b e sz' rows:=by exact rfl) (hsz:sz'=sz:=by exact rfl) (hi:rows[i]?=some r:=by exact rfl) (hy:ev σ y=some (.o v):=by exact rfl) (hj:(Nat.ble (j+m) r.length,Nat.beq v.cells.length m)=(true,true):=by exact rfl) (ht:tyL P t=some (rw',m):=by kernel_rfl):
    St1 P n ops o σ ((rd x++rd y)++[.b k]) [.b k] ((.b k,.b e sz' (rows.set i (place1 r j v.cells)))::σ):=by
  simp only[Prod.mk.injEq]at h4 hj
  exact St1.store h4.1 h4.2.1 h4.2.2 ht hx hb hsz hi hj.1 hy hj.2
theorem St1.cP (xs:List Operand) {P:Program} {n:Nat} {ops:Array Oper} {o:Oper} {σ:St} {d:Nat} {fo:Operand} {ar:Array Operand} {ts:Array TypeId} {vs:List V1} {f:FuncId} {cap:List (List D)} {y:V} (h4:(o.op,o.guard,o.dst,Nat.blt d n)=(Op.call {callee:=.value fo,args:=ar,argTypes:=ts},none,some d,true)) (has:ar=xs.toArray) (hfo:ev σ fo=some (.o (.c (.fn f cap)))) (hx:evL σ xs=some vs) (hF:Fn P f [] (vs++cap.map fun c=>.c (.ptr c)) y [])
    (hy:y.refs=[]) (hcall:callable P f=true:=by kernel_rfl):St1 P n ops o σ (rd fo++rdL xs) [.t d] ((.t d,.v y)::σ):=by
  simp only[Prod.mk.injEq]at h4
  exact St1.callP h4.1 h4.2.1 h4.2.2.1 h4.2.2.2 has hfo hcall hx hF hy
theorem St1.bu (pl:List (Nat×Operand)) (places:List (Nat×Nat)) (zs:List Value) {P:Program} {n:Nat} {ops:Array Oper} {o:Oper} {σ:St} {d:Nat} {t:TypeId} {parts:Array (Nat×Operand)} {ps:List (Nat×V1)} {cs:List C} (h4:(o.op,o.guard,o.dst,Nat.blt d n)=(Op.build t parts,none,some d,true):=by exact rfl) (hpl:parts=pl.toArray:=by exact rfl) (hz:zs.all (·.oneCell')=true:=by exact rfl) (hp:evP σ pl=some ps:=by exact rfl) (hf:fillA (places[·]?) (zs.map fun z=>C.d (.val z)) ps=some cs:=by exact rfl) (ht:tyB P t=some (places,zs):=by kernel_rfl):
    St1 P n ops o σ (rdP pl) [.t d] ((.t d,.v (.o (.agg cs)))::σ):=by
  simp only[Prod.mk.injEq]at h4
  exact St1.build h4.1 h4.2.1 h4.2.2.1 h4.2.2.2 hpl ht hz hp hf
theorem St1.li (e:TypeId) (sz m:Nat) (xs:List Operand) {P:Program} {n:Nat} {ops:Array Oper} {o:Oper} {σ:St} {d:Nat} {t:TypeId} {parts:Array (Nat×Operand)} {vs:List V1} {rows:List (List D)} (h4:(o.op,o.guard,o.dst,Nat.blt d n)=(Op.buildSlice t (m+1) parts,none,some d,true):=by exact rfl) (hpl:parts=((xs.zipIdx 0).map fun x=>(x.2,x.1)).toArray:=by exact rfl)
    (hx:evL σ xs=some vs:=by exact rfl) (hl:(Nat.beq vs.length (m+1)&&Nat.ble m 1000&&Nat.ble sz 1000)=true:=by exact rfl) (hr:rowsOk (sz+1) vs=true:=by exact rfl) (hds:datR vs=some rows:=by exact rfl) (ht:tyE P t=some (e,sz+1,true):=by kernel_rfl):St1 P n ops o σ (rdL xs) [.t d] ((.t d,.v (.o (.c (.d (.list (sz+1) rows)))))::σ):=by
  simp only[Prod.mk.injEq]at h4
  exact St1.lit h4.1 h4.2.1 h4.2.2.1 h4.2.2.2 hpl ht hx hl hr hds
end
/-! ### A state told anew: short forms -/
section
variable {σ : St} {inv : Inv}
theorem Vto.dt {v v':V} (h:v=v':=by first|rfl|exact congrArg (fun z=>V.o (nat1 z)) (by omega)|(simp;done)|omega) (hr:v.refs=[]:=by rfl):Vto σ inv v v':=.dat _ _ h hr
theorem Cto.dt {x y:D} (h:x=y:=by first|rfl|exact congrArg (fun z=>D.val (.int .i64 z)) (by omega)|(simp;done)|omega):Cto σ inv (.d x) (.d y):=.d _ _ h
theorem Cto.ow {k k' sz n m:Nat} (hn:n=m:=by first|rfl|omega|(simp;done)|(simp;omega)) (h:(k',k)∈inv:=by first|decide|simp):Cto σ inv (.own k sz n) (.own k' sz m):=.own _ _ _ _ _ h hn
theorem Cto.bx {k k' sz i j:Nat} (h:(k',k)∈inv:=by first|decide|simp):Cto σ inv (.box k sz i j) (.box k' sz i j):=.box _ _ _ _ _ _ h rfl
theorem Cto.fz {k sz n:Nat} {e:TypeId} {rows:List (List C)} {rows':List (List D)} (h:lk σ (.b k)= .b e sz rows) (hr:rows=dR rows':=by first|rfl|simp[dR]) (hn:n=rows'.length:=by first|rfl|(simp;done)|omega|(simp;omega)) (hs:n≤17592186044416:=by first|(simp;done)|(simp;omega)|omega)
    (hk:(Nat.ble 100 k&&Nat.ble k 999)=true:=by rfl) (hi:(inv.all fun p=> !Nat.beq p.2 k)=true:=by rfl):Cto σ inv (.own k sz n) (.d (.list sz rows')):=.frz _ _ _ _ _ _ h hr hk hi hn hs
theorem Rto.dt {rows rows':List (List C)} {l:List (List D)} (h':rows'=dR l) (h:rows=dR l:=by first|rfl|simp[dR]):Rto σ inv rows rows':=.dat _ _ _ h h'
theorem kb {k':Nat} {e:TypeId} {sz:Nat} {rows':List (List C)} (k:Nat) {rows:List (List C)} (hl:lk σ (.b k)= .b e sz rows) (hr:Rto σ inv rows rows') (hm:(k',k)∈inv:=by first|decide|simp):∃k rows,(k',k)∈inv∧lk σ (.b k)= .b e sz rows∧Rto σ inv rows rows':=⟨k,rows,hm,hl,hr⟩
theorem ks {t:Nat} {x' x:V} (h:lk σ (.t t)= .v x) (hv:Vto σ inv x x'):∃x,lk σ (.t t)= .v x∧Vto σ inv x x':=⟨x,h,hv⟩
theorem kl_k {I:Nat→St→Prop} {m m':Nat} {K:Exit→St→Prop} {σ2:St} (inv:Inv) (hI:I m' σ2) (hk:KeepOk σ inv σ2) (hm:m'<m:=by omega) (hi:invOk inv=true:=by rfl) (hu:usedOk σ2 inv=true:=by rfl):kloop I m K .normal σ:=⟨m',σ2,hm,Wk.keep inv hi hu hk,hI⟩
theorem ACode.loopK {P:Program} {n:Nat} {b:Code} {K:Exit→St→Prop} (I:Nat→St→Prop) {m:Nat} {σ':St} (inv:Inv) (hI:I m σ') (hk:KeepOk σ inv σ') (h:∀m σ,I m σ→ACode P n b (kloop I m K) σ) (hi:invOk inv=true:=by rfl) (hu:usedOk σ' inv=true:=by rfl):ACode P n (.loop b) K σ:=
  ACode.wk (Wk.keep inv hi hu hk) (ACode.loop I m hI h)
theorem ACode.keep {P:Program} {n:Nat} {c:Code} {K:Exit→St→Prop} (σ':St) (inv:Inv) (hk:KeepOk σ inv σ') (h:ACode P n c K σ') (hi:invOk inv=true:=by rfl) (hu:usedOk σ' inv=true:=by rfl):ACode P n c K σ:=ACode.wk (Wk.keep inv hi hu hk) h
end
/-! ### Branches on what is told as a proposition -/
section
variable {P : Program} {n t : Nat} {p : Prop} [Decidable p] {b : Bool} {x y : Code} {K : Exit → St → Prop} {σ : St}
theorem ACode.cD (hc:lk σ (.t t)= .v (.o (bo1 (decide p)))) (hx:p→ACode P n x K σ) (hy:¬p→ACode P n y K σ):ACode P n (.cond (.tmp t) x y) K σ:=ACode.condT hc (fun h=>hx (of_decide_eq_true h)) (fun h=>hy (of_decide_eq_false h))
theorem ACode.cND (hc:lk σ (.t t)= .v (.o (bo1 (!decide p)))) (hx:¬p→ACode P n x K σ) (hy:p→ACode P n y K σ):ACode P n (.cond (.tmp t) x y) K σ:=ACode.condT hc (fun h=>hx (by simpa using h)) (fun h=>hy (by simpa using h))
variable {ops : Array Oper} {o : Oper} {l : List Oper} {acc : List (List Res × List Res × St)} {G : List (List Res × List Res × St) → St → Prop} {K : Exit → St → Prop}
theorem AOps.cD {K:St→Prop} (t:Nat) (hv:lk σ (.t t)= .v (.o (bo1 (decide p)))) (h1:p→AOps P n ops l K ((.t t,.v (.o (bo1 true)))::σ)) (h0:¬p→AOps P n ops l K ((.t t,.v (.o (bo1 false)))::σ)):AOps P n ops l K σ:=AOps.cases t _ hv (fun h=>h1 (of_decide_eq_true h)) (fun h=>h0 (of_decide_eq_false h))
theorem AOps.cND {K:St→Prop} (t:Nat) (hv:lk σ (.t t)= .v (.o (bo1 (!decide p)))) (h1:¬p→AOps P n ops l K ((.t t,.v (.o (bo1 true)))::σ)) (h0:p→AOps P n ops l K ((.t t,.v (.o (bo1 false)))::σ)):AOps P n ops l K σ:=AOps.cases t _ hv (fun h=>h1 (by simpa using h)) (fun h=>h0 (by simpa using h))
theorem RunK.cD (t:Nat) (hv:lk σ (.t t)= .v (.o (bo1 (decide p)))) (h1:p→RunK P n ops (o::l) ((.t t,.v (.o (bo1 true)))::σ) acc G) (h0:¬p→RunK P n ops (o::l) ((.t t,.v (.o (bo1 false)))::σ) acc G):RunK P n ops (o::l) σ acc G:=RunK.cases t _ hv (fun h=>h1 (of_decide_eq_true h)) (fun h=>h0 (of_decide_eq_false h))
theorem RunK.cND (t:Nat) (hv:lk σ (.t t)= .v (.o (bo1 (!decide p)))) (h1:¬p→RunK P n ops (o::l) ((.t t,.v (.o (bo1 true)))::σ) acc G) (h0:p→RunK P n ops (o::l) ((.t t,.v (.o (bo1 false)))::σ) acc G):RunK P n ops (o::l) σ acc G:=RunK.cases t _ hv (fun h=>h1 (by simpa using h)) (fun h=>h0 (by simpa using h))
end
theorem St1.cO (xs:List Operand) (inv:Inv) {P:Program} {n:Nat} {ops:Array Oper} {o:Oper} {σ:St} {d:Nat} {fo:Operand} {ar:Array Operand} {ts:Array TypeId} {vs:List V1} {f:FuncId} {cap:List (List D)} {hb hb':St} {args:List V1} {y:V} {out:St}
    (h4:(o.op,o.guard,o.dst,Nat.blt d n)=(Op.call {callee:=.value fo,args:=ar,argTypes:=ts},none,some d,true)) (has:ar=xs.toArray) (hfo:ev σ fo=some (.o (.c (.fn f cap)))) (hx:evL σ xs=some vs) (hF:Fn P f hb args y hb')
    (hargs:args.map (V1.ren (asc inv))=vs++cap.map fun c=>.c (.ptr c)) (hbox:hbIn σ inv hb) (hfl:flatS hb) (hfl':flatS hb') (hHB':HB hb') (hout:outS inv hb'=out) (hnum:numOk σ inv hb hb'=true:=by rfl) (hpr:pairs hb'=true:=by rfl) (hy:(y.refs.all fun k=>match lk hb' (.u k)with | .u=>true|_=>false)=true:=by rfl) (hcall:callable P f=true:=by kernel_rfl):
    St1 P n ops o σ ((rd fo++rdL xs)++(keys out++keys (killS inv hb))) (.t d::(keys out++keys (killS inv hb))) ((.t d,.v (y.ren (asc inv)))::(out++(killS inv hb++σ))):=by
  simp only[Prod.mk.injEq]at h4
  exact St1.callO inv h4.1 h4.2.1 h4.2.2.1 h4.2.2.2 has hfo hcall hx hF hargs hbox hnum hfl hfl' hHB' hpr hy hout
section
variable {P : Program} {n : Nat} {ops : Array Oper} {o : Oper} {σ : St} {d : Nat}
theorem St1.g {i:Nat} {b c:Bool} {t:Tmp} {R W:List Res} {σ':St} (h:St1 P n ops {o with guard:=none} σ R W σ') (h4:(o.guard,(ops[i]?).bind (·.dst),Nat.blt t n)=(some (i,b),some t,true):=by exact rfl) (hv:lk σ (.t t)= .v (.o (bo1 c)):=by exact rfl) (hc:c=b:=by exact rfl):St1 P n ops o σ (.t t::R) W σ':=.gT h4 hv hc h
theorem St1.bp {t:TypeId} {x:Operand} {v:V1} {ds:List D} (ho:o.op= .box t x:=by exact rfl) (hg:o.guard=none:=by exact rfl) (hd:o.dst=some d:=by exact rfl) (hn:Nat.blt d n=true:=by exact rfl) (hx:ev σ x=some (.o v):=by exact rfl) (hds:datL v.cells=some ds:=by exact rfl):St1 P n ops o σ (rd x) [.t d] ((.t d,.v (.o (.c (.ptr ds))))::σ):=St1.boxP ho hg hd hn hx hds
theorem St1.m {x:Operand} {v:V} (h4:(o.op,o.guard,o.dst,Nat.blt d n)=(Op.move x,none,some d,true):=by exact rfl) (hx:ev σ x=some v:=by exact rfl):St1 P n ops o σ (rd x) [.t d] ((.t d,.v v)::σ):=.mv h4 hx
theorem St1.a {x:Operand} {v:V} (h4:(o.op,o.guard,o.dst,Nat.blt d n)=(Op.assign x,none,some d,true):=by exact rfl) (hx:ev σ x=some v:=by exact rfl):St1 P n ops o σ (rd x) [.t d] ((.t d,.v v)::σ):=.asg h4 hx
theorem St1.f {i:Nat} {b c:Bool} {t:Tmp} (h4:(o.guard,o.dst,(ops[i]?).bind (·.dst),Nat.blt t n,Nat.blt d n)=(some (i,b),some d,some t,true,true):=by exact rfl) (hv:(lk σ (.t t))= .v (.o (bo1 c)):=by exact rfl) (hc:c= !b:=by exact rfl):St1 P n ops o σ [.t t] [.t d] ((.t d,.v (.tup []))::σ):=.gF h4 hv hc
variable {l : List Oper} {K : St → Prop} {R W : List Res} {σ' : St}
theorem AOps.c (h:St1 P n ops o σ R W σ') (k:AOps P n ops l K σ'):AOps P n ops (o::l) K σ:=.cons h k
variable {acc : List (List Res × List Res × St)} {G : List (List Res × List Res × St) → St → Prop}
theorem RunK.c (h:St1 P n ops o σ R W σ') (k:RunK P n ops l σ' (acc++[(R,W,σ')]) G):RunK P n ops (o::l) σ acc G:=.cons h k
variable {y y2 : Code} {KE : Exit → St → Prop} {id : Nat} {l' : List Oper}
theorem ACode.r (h:AOps P n l'.toArray l' (kseq P n y2 KE .normal) σ):ACode P n (.seq (.region id l'.toArray false) y2) KE σ:=.seq (.region h)
theorem AOps.nn (h:ACode P n y KE σ):AOps P n ops [] (kseq P n y KE .normal) σ:=.nil (ks_n h)
theorem AOps.r (h:AOps P n l'.toArray l' (kseq P n y2 KE .normal) σ):AOps P n ops [] (kseq P n (.seq (.region id l'.toArray false) y2) KE .normal) σ:=.nn (.r h)
theorem ACode.k1 {t:Nat} {b:Bool} (hx:ACode P n y KE σ) (hc:lk σ (.t t)= .v (.o (bo1 b)):=by exact rfl) (hn:b=false→ACode P n y2 KE σ:=by exact fun h=>by first|(cases h;done)|(simp[*]at h;done)|(exfalso;simp_all;done)):ACode P n (.cond (.tmp t) y y2) KE σ:=.condT hc (fun _=>hx) hn
theorem ACode.k0 {t:Nat} {b:Bool} (hx:ACode P n y2 KE σ) (hc:lk σ (.t t)= .v (.o (bo1 b)):=by exact rfl) (hn:b=true→ACode P n y KE σ:=by exact fun h=>by first|(cases h;done)|(simp[*]at h;done)|(exfalso;simp_all;done)):ACode P n (.cond (.tmp t) y y2) KE σ:=.condT hc hn (fun _=>hx)
variable {inv : Inv}
theorem kd {t:Nat} {x' x:V} (h:lk σ (.t t)= .v x:=by exact rfl) (hv:Vto σ inv x x':=by exact .dt):∃x,lk σ (.t t)= .v x∧Vto σ inv x x':=⟨x,h,hv⟩
theorem kX {t:Nat} {c' c:C} (h:lk σ (.t t)= .v (.o (.c c)):=by exact rfl) (hv:Cto σ inv c c':=by exact .bx):∃x,lk σ (.t t)= .v x∧Vto σ inv x (.o (.c c')):=⟨_,h,.c hv⟩
theorem kW {t:Nat} {c' c:C} (h:lk σ (.t t)= .v (.o (.c c)):=by exact rfl) (hv:Cto σ inv c c':=by exact .ow):∃x,lk σ (.t t)= .v x∧Vto σ inv x (.o (.c c')):=⟨_,h,.c hv⟩
theorem Rto.r1 {a a':C} (h:Cto σ inv a a'):Rto σ inv [[a]] [[a']]:=.cons (.cons h .nil) .nil
theorem Rto.r2 {a a' b b':C} (h:Cto σ inv a a') (h2:Cto σ inv b b'):Rto σ inv [[a,b]] [[a',b']]:=.cons (.cons h (.cons h2 .nil)) .nil
theorem Rto.r3 {a a' b b' c c':C} (h:Cto σ inv a a') (h2:Cto σ inv b b') (h3:Cto σ inv c c'):Rto σ inv [[a,b,c]] [[a',b',c']]:=.cons (.cons h (.cons h2 (.cons h3 .nil))) .nil
end
abbrev eP (t:Nat) (x:List D):Res×RC:=(.t t,.v (.o (.c (.ptr x))))
abbrev eB (t k s:Nat):Res×RC:=(.t t,.v (.o (.c (.box k s 0 0))))
abbrev eN (t:Nat) (x:Int):Res×RC:=(.t t,.v (.o (nat1 x)))
abbrev eD (t:Nat) (x:D):Res×RC:=(.t t,.v (.o (vD x)))
abbrev eT (t:Nat) (x:Bool):Res×RC:=(.t t,.v (.o (bo1 x)))
abbrev eU (k:Nat):Res×RC:=(.u k,.u)
abbrev nl:C:=.d (.val (.slice none 0 0))
theorem dR_at {rows:List (List D)} {i:Nat} {r:List D} (h:rows[i]?=some r):(dR rows)[i]?=some (r.map C.d):=by rw[dR,List.getElem?_map,h];rfl
theorem dR_setI (l:List Int) (i:Nat) (x y:Int):(dR (l.map rI)).set i (place1 ((rI x).map C.d) 0 (nat1 y).cells)=dR ((l.set i y).map rI):=by
  unfold dR
  rw[List.map_set,List.map_set]
  rfl
theorem dR_app (a b:List (List D)):dR a++b.map (·.map C.d)=dR (a++b):=by rw[dR,dR,List.map_append]
theorem dR_len (a:List (List D)):(dR a).length=a.length:=by rw[dR,List.length_map]
theorem dR_take {α:Type} (f:α→List D) {l:List α} {k:Nat} {x:α} (h:l[k]?=some x):dR ((l.take k).map f)++[f x].map (·.map C.d)=dR ((l.take (k+1)).map f):=by
  rw[dR_app,List.take_add_one,h,List.map_append];rfl
theorem dR_take1 {α:Type} (f:α→List D) {l:List α} {x:α} (h:l[0]?=some x):[f x].map (·.map C.d)=dR ((l.take 1).map f):=by
  rw[List.take_one,List.head?_eq_getElem?,h];rfl
section
variable {α : Type}
def eqF (p:α→α→Bool):List α→List α→Bool
  |[],[]=>true
  |x::xs,y::ys=>p x y&&eqF p xs ys
  |_,_=>false
theorem drop_at {l:List α} {i:Nat} {x:α} (h:l[i]?=some x):l.drop i=x::l.drop (i+1):=by
  obtain⟨h1,rfl⟩:=List.getElem?_eq_some_iff.1 h
  exact List.drop_eq_getElem_cons h1
theorem eqF_drop {p:α→α→Bool} {a b:List α} {i:Nat} {x y:α} (h1:a[i]?=some x) (h2:b[i]?=some y):eqF p (a.drop i) (b.drop i)=(p x y&&eqF p (a.drop (i+1)) (b.drop (i+1))):=by rw[drop_at h1,drop_at h2];rfl
theorem eqF_len {p:α→α→Bool}:∀ {a b:List α},a.length≠b.length→eqF p a b=false
  |[],[],h=>absurd rfl h
  |[],_::_,_=>rfl
  |_::_,[],_=>rfl
  |x::a,y::b,h=>by rw[eqF,eqF_len (fun e=>h (by simp[e])),Bool.and_false]
theorem eqF_end {p:α→α→Bool} {a b:List α} (h:a.length=b.length):eqF p (a.drop a.length) (b.drop a.length)=true:=by rw[List.drop_length,h,List.drop_length];rfl
theorem eqF_eq {p:α→α→Bool} (hp:∀x y,p x y=true↔x=y):∀ {a b:List α},eqF p a b=true↔a=b
  |[],[]=>by simp[eqF]
  |[],_::_=>by simp[eqF]
  |_::_,[]=>by simp[eqF]
  |x::a,y::b=>by rw[eqF,Bool.and_eq_true,hp,eqF_eq hp,List.cons.injEq]
def idxG (p:α→Bool) (i:Nat):List α→Int
  |[]=> -1
  |x::l=>if p x then(i:Int)else idxG p (i+1) l
def idxF (p:α→Bool) (l:List α):Int:=idxG p 0 l
theorem idxG_drop {p:α→Bool} {l:List α} {i:Nat} {x:α} (h:l[i]?=some x):idxG p i (l.drop i)=if p x then(i:Int)else idxG p (i+1) (l.drop (i+1)):=by rw[drop_at h];rfl
theorem idxG_any {p:α→Bool}:∀ {l:List α} {i:Nat},decide (0≤idxG p i l)=l.any p
  |[],i=>rfl
  |x::l,i=>by
    rw[idxG,List.any_cons]
    cases h:p x
    ·rw[Bool.false_or];simpa using idxG_any
    ·simp
theorem all_drop {p:α→Bool} {l:List α} {i:Nat} {x:α} (h:l[i]?=some x):(l.drop i).all p=(p x&&(l.drop (i+1)).all p):=by rw[drop_at h];rfl
end
section
variable {P : Program} {f : FuncId} {x y : Aff} {n : Int}
theorem implAffV_fn (x:Aff):Fn Tryz.prog 148 [] [ad (rA x)] (.o (bo1 (affV x))) []:=
  Fn.pure fun B bx al w vs hv=>by
    obtain⟨v,rfl,h⟩:=vals1 hv
    exact(implAffV_any B v x w (dr_aff h)).mono fun e w' ⟨h1,h2⟩=>⟨_,h1,h2,.val _ rfl⟩
theorem depth_fn (x:Aff):Fn Tryz.prog 149 [] [ad (rA x)] (.o (nat1 (affDepth x:Nat))) []:=
  Fn.pure fun B bx al w vs hv=>by
    obtain⟨v,rfl,h⟩:=vals1 hv
    exact(depth_any B v x w (dr_aff h)).mono fun e w' ⟨h1,h2⟩=>⟨_,h1,h2,.val _ rfl⟩
theorem sl_form {B:Nat→Prop} {w:World} {v:Value} {xs:List Int} (h:Sl Sh.int B w v xs):∃a n c,v= .slice a n c∧n=xs.length:=by
  obtain⟨a,c,rfl,_⟩:=h
  exact⟨a,_,c,rfl,rfl⟩
theorem eval_fn {x:Aff} {p:List Int} (hV:affV x=true) (hS:Small p) (hn:p.length≤4):Fn Tryz.prog 31 [] [ad (rA x),vD (dIs p)] (.o (nat1 (affEval x p))) []:=
  Fn.pure fun B bx al w vs hv=>by
    obtain⟨u,v,rfl,h1,h2⟩:=vals2 hv
    have h3:=dr_ints h2
    obtain⟨a,n,c,rfl,rfl⟩:=sl_form h3
    exact(eval_any B B u x a _ c p w (dr_aff h1) h3 hV hS hn).mono fun e w' ⟨h1,h2⟩=>⟨_,h1,h2,.val _ rfl⟩
theorem l1Eval_fn {x:Aff} {p:List Int} (hV:affV x=true) (hS:Small p) (hn:p.length≤4):Fn Tryz.prog 56 [] [ad (rA x),vD (dIs p)] (.o (nat1 (affEval x p))) []:=
  Fn.pure fun B bx al w vs hv=>by
    obtain⟨u,v,rfl,h1,h2⟩:=vals2 hv
    have h3:=dr_ints h2
    obtain⟨a,n,c,rfl,rfl⟩:=sl_form h3
    exact(l1Eval_any B B u x a _ c p w (dr_aff h1) h3 hV hS hn).mono fun e w' ⟨h1,h2⟩=>⟨_,h1,h2,.val _ rfl⟩
theorem isPoint_fn (p:List Int):Fn Tryz.prog 65 [] [vD (dIs p)] (.o (bo1 (isPt p))) []:=
  Fn.pure fun B bx al w vs hv=>by
    obtain⟨v,rfl,h⟩:=vals1 hv
    have h3:=dr_ints h
    obtain⟨a,n,c,rfl,rfl⟩:=sl_form h3
    exact(isPoint_any B a _ c p w h3).mono fun e w' ⟨h1,h2⟩=>⟨_,h1,by rw[←h2];exact Below.refl _ _,.val _ rfl⟩
theorem l1Point_fn (p:List Int):Fn Tryz.prog 96 [] [vD (dIs p)] (.o (bo1 (isPt p))) []:=
  Fn.pure fun B bx al w vs hv=>by
    obtain⟨v,rfl,h⟩:=vals1 hv
    have h3:=dr_ints h
    obtain⟨a,n,c,rfl,rfl⟩:=sl_form h3
    exact(l1Point_any B a _ c p w h3).mono fun e w' ⟨h1,h2⟩=>⟨_,h1,by rw[←h2];exact Below.refl _ _,.val _ rfl⟩
end
theorem idx_aff {f:FuncId} {cap:List (List D)} (hc:callable Tryz.prog f=true) (p:Aff→Bool) (xs:List Aff) (hx:xs.length≤1099511627776) (hf:∀x∈xs,Fn Tryz.prog f [] (ad (rA x)::cap.map fun c=>.c (.ptr c)) (.o (bo1 (p x))) []):Fn Tryz.prog 176 [] [vD (.list 2 (xs.map rA)),.c (.fn f cap)] (.o (nat1 (idxF p xs))) []:=by
 refine Fn.code0 Tryz.func176 rfl rfl rfl rfl ?_
 refine .r<|.c .a<|.nn<|.seq<|.r<|.c .m<|.c (.ln 61 2 32)<|.c .m<|.nn<|.block ?_
 refine .loopK (fun m σ=>(∃i:Nat,m=xs.length -i∧(i≤xs.length)∧(idxF p xs=idxG p i (xs.drop i))∧σ=[eD 0 (.list 2 (xs.map rA)),(.t 1,.v (.o (.c (.fn f cap)))),eN 7 (xs.length:Nat),eN 8 (i:Nat)])) [] ⟨0,rfl,by omega,rfl,rfl⟩ ⟨kd,kd,kd,kd,trivial⟩ ?_
 rintro m σ ⟨i,hm0,hi,hF,rfl⟩
 refine .r<|.c .ls<|.nn<|.seq ?_
 refine .cD rfl (fun h9=>?_) (fun h9=>?_)
 ·skip
  obtain⟨x,hx1⟩:∃x,xs[i]?=some x:=⟨_,List.getElem?_eq_getElem (by omega)⟩
  refine .skip<|ks_n<|.seq<|.block<|.r<|.c .m<|.c .a<|.r<|.c .m<|.c .m<|.c .m<|.c (.xL 61 2 32) ?_
  refine .c (.lN 2) ?_
  refine .c (.cP [.tmp 15] rfl rfl rfl rfl (hf x (List.mem_of_getElem? hx1)) rfl hc) ?_
  refine .nn ?_
  refine ACode.condT rfl (fun h16=>?_) (fun h16=>?_)
  ·try simp only[zs]at h16
   refine .r<|.c .m<|.c .a<|.nn<|.ret<|kb_r<|ks_r<|kl_r<|kb_r<|ks_r ?_
   refine kf_ret rfl ?_ nobox
   exact leafI (by rw[hF,idxG_drop hx1,h16];rfl)
  ·try simp only[zs]at h16
   refine .skip<|kb_n<|ks_n<|.region<|.c .pl<|.c .m<|.nil ?_
   refine kl_k [] ⟨i+1,rfl,by omega,by rw[hF,idxG_drop hx1,h16];rfl,rfl⟩ ⟨kd,kd,kd,kd,trivial⟩
 ·skip
  refine .exit<|ks_e<|kl_e<|kb_hit<|ks_n<|.r<|.c .a<|.nn<|.ret ?_
  refine kf_ret rfl ?_ nobox
  exact leafI (by rw[hF,List.drop_of_length_le (by omega)];rfl)
theorem cnt_aff {f:FuncId} {cap:List (List D)} (hc:callable Tryz.prog f=true) (p:Aff→Bool) (xs:List Aff) (hx:xs.length≤1099511627776) (hf:∀x∈xs,Fn Tryz.prog f [] (ad (rA x)::cap.map fun c=>.c (.ptr c)) (.o (bo1 (p x))) []):Fn Tryz.prog 146 [] [vD (.list 2 (xs.map rA)),.c (.fn f cap)] (.o (bo1 (xs.any p))) []:=by
  refine Fn.code0 Tryz.func146 rfl rfl rfl rfl ?_
  refine .r<|.c .a<|.r<|.c .m<|.c .m ?_
  refine .c (.cP [.tmp 5,.tmp 6] rfl rfl rfl rfl (idx_aff hc p xs hx hf) rfl) ?_
  refine .c .ge<|.c .a<|.nn<|.ret ?_
  refine kf_ret rfl ?_ nobox
  exact leafB idxG_any
theorem idx_int {f:FuncId} {cap:List (List D)} (hc:callable Tryz.prog f=true) (p:Int→Bool) (xs:List Int) (hx:xs.length≤1099511627776) (hf:∀x∈xs,Fn Tryz.prog f [] (nat1 x::cap.map fun c=>.c (.ptr c)) (.o (bo1 (p x))) []):Fn Tryz.prog 143 [] [vD (.list 1 (xs.map rI)),.c (.fn f cap)] (.o (nat1 (idxF p xs))) []:=by
 refine Fn.code0 Tryz.func143 rfl rfl rfl rfl ?_
 refine .r<|.c .a<|.nn<|.seq<|.r<|.c .m<|.c (.ln 3 1 8)<|.c .m<|.nn<|.block ?_
 refine .loopK (fun m σ=>(∃i:Nat,m=xs.length -i∧(i≤xs.length)∧(idxF p xs=idxG p i (xs.drop i))∧σ=[eD 0 (.list 1 (xs.map rI)),(.t 1,.v (.o (.c (.fn f cap)))),eN 7 (xs.length:Nat),eN 8 (i:Nat)])) [] ⟨0,rfl,by omega,rfl,rfl⟩ ⟨kd,kd,kd,kd,trivial⟩ ?_
 rintro m σ ⟨i,hm0,hi,hF,rfl⟩
 refine .r<|.c .ls<|.nn<|.seq ?_
 refine .cD rfl (fun h9=>?_) (fun h9=>?_)
 ·skip
  obtain⟨x,hx1⟩:∃x,xs[i]?=some x:=⟨_,List.getElem?_eq_getElem (by omega)⟩
  refine .skip<|ks_n<|.seq<|.block<|.r<|.c .m<|.c .a<|.r<|.c .m<|.c .m<|.c .m<|.c (.xL 3 1 8) ?_
  refine .c (.l1 1) ?_
  refine .c (.cP [.tmp 15] rfl rfl rfl rfl (hf x (List.mem_of_getElem? hx1)) rfl hc) ?_
  refine .nn ?_
  refine ACode.condT rfl (fun h16=>?_) (fun h16=>?_)
  ·try simp only[zs]at h16
   refine .r<|.c .m<|.c .a<|.nn<|.ret<|kb_r<|ks_r<|kl_r<|kb_r<|ks_r ?_
   refine kf_ret rfl ?_ nobox
   exact leafI (by rw[hF,idxG_drop hx1,h16];rfl)
  ·try simp only[zs]at h16
   refine .skip<|kb_n<|ks_n<|.region<|.c .pl<|.c .m<|.nil ?_
   refine kl_k [] ⟨i+1,rfl,by omega,by rw[hF,idxG_drop hx1,h16];rfl,rfl⟩ ⟨kd,kd,kd,kd,trivial⟩
 ·skip
  refine .exit<|ks_e<|kl_e<|kb_hit<|ks_n<|.r<|.c .a<|.nn<|.ret ?_
  refine kf_ret rfl ?_ nobox
  exact leafI (by rw[hF,List.drop_of_length_le (by omega)];rfl)
theorem cnt_int {f:FuncId} {cap:List (List D)} (hc:callable Tryz.prog f=true) (p:Int→Bool) (xs:List Int) (hx:xs.length≤1099511627776) (hf:∀x∈xs,Fn Tryz.prog f [] (nat1 x::cap.map fun c=>.c (.ptr c)) (.o (bo1 (p x))) []):Fn Tryz.prog 103 [] [vD (.list 1 (xs.map rI)),.c (.fn f cap)] (.o (bo1 (xs.any p))) []:=by
  refine Fn.code0 Tryz.func103 rfl rfl rfl rfl ?_
  refine .r<|.c .a<|.r<|.c .m<|.c .m ?_
  refine .c (.cP [.tmp 5,.tmp 6] rfl rfl rfl rfl (idx_int hc p xs hx hf) rfl) ?_
  refine .c .ge<|.c .a<|.nn<|.ret ?_
  refine kf_ret rfl ?_ nobox
  exact leafB idxG_any
def bndV (d:Nat) (x:Aff):Bool:=affV x&&decide (affDepth x≤d)
def sideV (d:Nat) (xs:List Aff):Bool:=xs.all (bndV d)&&decide (1≤xs.length)&&decide (xs.length≤2)
theorem eqF_dec {α:Type} [DecidableEq α] (a b:List α):eqF (fun x y=>decide (x=y)) a b=decide (a=b):=by
  rw[Bool.eq_iff_iff,decide_eq_true_eq,eqF_eq (fun x y=>by simp)]
theorem nany {α:Type} (p:α→Bool) (l:List α):(!l.any fun x=> !p x)=l.all p:=by
  rw[Bool.eq_iff_iff];simp
theorem bnd_no {d:Nat} {x:Aff} (h:affV x=false∨d<affDepth x):bndV d x=false:=by
  rw[bndV,Bool.and_eq_false_iff]
  exact h.imp id fun h=>decide_eq_false (by omega)
theorem bnd_yes {d:Nat} {x:Aff} (h:affV x=true) (h2:¬d<affDepth x):bndV d x=true:=by
  rw[bndV,Bool.and_eq_true]
  exact⟨h,decide_eq_true (by omega)⟩
theorem side_len {d:Nat} {xs:List Aff} {b:Bool} (h:xs.all (bndV d)=true) (hb:b=(decide (1≤xs.length)&&decide (xs.length≤2))):b=sideV d xs:=by
  rw[sideV,h,Bool.true_and];exact hb
def smL (l:Lp):Prop:=l.1.length≤100∧l.2.length≤100∧(∀a∈l.1,a.1.length≤100)∧∀a∈l.2,a.1.length≤100
def smN (ns:List Lp):Prop:=ns.length≤100∧∀l∈ns,smL l
theorem at_sm {l:List Aff} (h:∀a∈l,a.1.length≤100) {k:Nat} (hk:k<l.length):∃x,l[k]?=some x∧x.1.length≤100:=
  ⟨_,List.getElem?_eq_getElem hk,h _ (List.getElem_mem hk)⟩
theorem l2Copy_own {ns:List Lp} (hs:smN ns):Fn Tryz.prog 53 [] [vD (dLs ns)] (.o (.c (.own 100 2 ns.length))) [(.b 100,.b 148 2 (dR (ns.map rL))),(.u 100,.u)]:=by
 obtain⟨hs1,hs2⟩:=hs
 refine Fn.of_code Tryz.func53 rfl rfl HB.nil rfl rfl HB.nil.data rfl (one_num rfl) ?_
 refine .r<|.c .a<|.r ?_
 refine .c (St1.lit0 (k':=110) (e:=148) (sz:=2) (b:=true) rfl rfl rfl rfl (by kernel_rfl) rfl rfl) ?_
 refine .c .a<|.nn<|.seq<|.r<|.c .a<|.nn<|.block ?_
 refine .loopK (fun m σ=>(∃i:Nat,m=ns.length -i∧(i≤ns.length)∧σ=[eD 0 (dLs ns),(.t 3,.v (.o (.c (.own 110 2 (i))))),eN 4 (i:Nat),(.b 110,.b 148 2 (dR ((ns.take i).map rL))),eU 110])) [(110,110)] ⟨0,rfl,by omega,rfl⟩ ⟨kd,kW,kd,kb 110 rfl (.dt rfl (by first|exact dR_take rL hl|exact dR_take1 rL hl|rfl|(simp[dR];done))),trivial⟩ ?_
 rintro m σ ⟨i,hm0,hi,rfl⟩
 refine .seq<|.r<|.c .m<|.c .m<|.c (.ln 148 2 48)<|.c .ls<|.nn ?_
 refine .cD rfl (fun h14=>?_) (fun h14=>?_)
 ·skip
  obtain⟨l,hl⟩:∃l,ns[i]?=some l:=⟨_,List.getElem?_eq_getElem (by omega)⟩
  obtain⟨hla,hlb,hlc,hld⟩:=hs2 l (List.mem_of_getElem? hl)
  refine .skip<|ks_n<|.seq<|.block<|.r<|.c (.bu [] [(0,1),(1,1)] [.slice none 0 0,.slice none 0 0])<|.c (.al 105 [.slice none 0 0,.slice none 0 0])<|.c (.sT 2 true)<|.nn<|.seq<|.r<|.c .a<|.nn<|.block ?_
  refine .loopK (fun m σ=>(∃k:Nat,m=l.1.length -k∧(k=0)∧σ=[eD 0 (dLs ns),(.t 3,.v (.o (.c (.own 120 2 (i))))),eN 4 (i:Nat),eB 5 121 2,eN 6 (k:Nat),(.b 120,.b 148 2 (dR ((ns.take i).map rL))),eU 120,(.b 121,.b 148 2 [[nl,nl]]),eU 121])∨(∃k:Nat,m=l.1.length -k∧(1≤k)∧(k≤l.1.length)∧σ=[eD 0 (dLs ns),(.t 3,.v (.o (.c (.own 120 2 (i))))),eN 4 (i:Nat),eB 5 121 2,eN 6 (k:Nat),(.b 120,.b 148 2 (dR ((ns.take i).map rL))),eU 120,(.b 122,.b 61 2 (dR ((l.1.take k).map rA))),eU 122,(.b 121,.b 148 2 [[.own 122 2 (k),nl]]),eU 121])) [(120,110),(121,105)] (.inl ⟨0,rfl,rfl,rfl⟩) ⟨kd,kW,kd,kX,kd,kb 110 rfl (.dt rfl (by first|exact dR_take rL hl|exact dR_take1 rL hl|rfl|(simp[dR];done))),kb 105 rfl (.r2 .dt .dt),trivial⟩ ?_
  rintro m σ (⟨k,hm0,rfl,rfl⟩|⟨k,hm0,hk1,hk2,rfl⟩)
  ·skip
   refine .seq<|.r<|.c .m<|.c .m<|.c .m<|.c (.xL 148 2 48) ?_
   refine .c (.fP 0 0 false)<|.c (.l1 1)<|.c (.ln 61 2 32)<|.c .ls<|.nn ?_
   refine .cD rfl (fun h25=>?_) (fun h25=>?_)
   ·skip
    obtain⟨x,hx,hxs⟩:=at_sm hlc (show 0<l.1.length by omega)
    refine .skip<|ks_n<|.seq<|.block<|.r<|.c .m<|.c .m<|.c (.xL 148 2 48) ?_
    refine .c (.fP 0 0 false)<|.c (.l1 1)<|.c .m<|.c (.xL 61 2 32) ?_
    refine .c (.lN 2)<|.c (.al 107 [.slice none 0 0,.int .i64 0])<|.c (.sT 2 true)<|.nn ?_
    refine ACode.drawK (by kernel_rfl) (by kernel_rfl) ?_
    refine .c (.fB 0 0 false)<|.c (.b1 1) ?_
    refine .c (St1.lit0 (k':=138) (e:=3) (sz:=1) (b:=true) rfl rfl rfl rfl (by kernel_rfl) rfl rfl) ?_
    refine .c (.fB 0 0 false)<|.c (.b1 1) ?_
    refine .c (St1.appD (rows:=[]) (e:=3) (sz:=0) (by':=8) rfl rfl rfl rfl rfl (by kernel_rfl) rfl rfl rfl rfl rfl (by simp;omega) rfl) ?_
    refine .c (.fB 1 0 false)<|.c (.b1 1)<|.c (.bu [(0,.tmp 41),(1,.tmp 43)] [(0,1),(1,1)] [.slice none 0 0,.int .i64 0])<|.c (.li 61 1 0 [.tmp 44]) ?_
    refine .c (St1.appN (k':=146) (e:=61) (sz:=1) (by':=32) rfl rfl rfl rfl rfl (by kernel_rfl) rfl rfl rfl (by simp) (by first|(simp[dR];done)|(simp[dR];omega)) rfl rfl) ?_
    refine .c (.fB 0 0 false)<|.c (.sT 1 false) ?_
    refine .nil ⟨by kernel_rfl,?_⟩
    refine kb_n<|ks_n<|.region<|.c .m<|.c .pl<|.c .a<|.nil ?_
    refine kl_k [(120,120),(121,121),(122,146)] (.inr ⟨1,rfl,by omega,by omega,rfl⟩) ⟨kd,kW,kd,kX,kd,kb 120 rfl (.dt rfl (by first|exact dR_take rL hl|exact dR_take1 rL hl|rfl|(simp[dR];done))),kb 146 rfl (.dt rfl (by first|exact dR_take rA hx|exact dR_take1 rA hx|rfl|(simp[dR];done))),kb 121 rfl (.r2 .ow .dt),trivial⟩
   ·skip
    have hn1:l.1=[]:=List.eq_nil_of_length_eq_zero (by omega)
    refine .exit<|ks_e<|kl_e<|kb_hit<|ks_n<|.seq<|.r<|.c .a<|.nn<|.block ?_
    refine .loopK (fun m σ=>(∃j:Nat,m=l.2.length -j∧(j=0)∧σ=[eD 0 (dLs ns),(.t 3,.v (.o (.c (.own 130 2 (i))))),eN 4 (i:Nat),eB 5 131 2,eN 8 (j:Nat),(.b 130,.b 148 2 (dR ((ns.take i).map rL))),eU 130,(.b 131,.b 148 2 [[.d (dAs l.1),nl]]),eU 131])∨(∃j:Nat,m=l.2.length -j∧(1≤j)∧(j≤l.2.length)∧σ=[eD 0 (dLs ns),(.t 3,.v (.o (.c (.own 130 2 (i))))),eN 4 (i:Nat),eB 5 131 2,eN 8 (j:Nat),(.b 130,.b 148 2 (dR ((ns.take i).map rL))),eU 130,(.b 132,.b 61 2 (dR ((l.2.take j).map rA))),eU 132,(.b 131,.b 148 2 [[.d (dAs l.1),.own 132 2 (j)]]),eU 131])) [(130,120),(131,121)] (.inl ⟨0,rfl,rfl,rfl⟩) ⟨kd,kW,kd,kX,kd,kb 120 rfl (.dt rfl (by first|exact dR_take rL hl|exact dR_take1 rL hl|rfl|(simp[dR];done))),kb 121 rfl (.r2 (Cto.nilE 2 (by rw[hn1];rfl)) .dt),trivial⟩ ?_
    rintro m σ (⟨j,hm0,rfl,rfl⟩|⟨j,hm0,hj1,hj2,rfl⟩)
    ·skip
     refine .seq<|.r<|.c .m<|.c .m<|.c .m<|.c (.xL 148 2 48) ?_
     refine .c (.fP 1 0 false)<|.c (.l1 1)<|.c (.ln 61 2 32)<|.c .ls<|.nn ?_
     refine .cD rfl (fun h55=>?_) (fun h55=>?_)
     ·skip
      obtain⟨x,hx,hxs⟩:=at_sm hld (show 0<l.2.length by omega)
      refine .skip<|ks_n<|.seq<|.block<|.r<|.c .m<|.c .m<|.c (.xL 148 2 48) ?_
      refine .c (.fP 1 0 false)<|.c (.l1 1)<|.c .m<|.c (.xL 61 2 32) ?_
      refine .c (.lN 2)<|.c (.al 109 [.slice none 0 0,.int .i64 0])<|.c (.sT 2 true)<|.nn ?_
      refine ACode.drawK (by kernel_rfl) (by kernel_rfl) ?_
      refine .c (.fB 1 0 false)<|.c (.b1 1) ?_
      refine .c (St1.lit0 (k':=168) (e:=3) (sz:=1) (b:=true) rfl rfl rfl rfl (by kernel_rfl) rfl rfl) ?_
      refine .c (.fB 0 0 false)<|.c (.b1 1) ?_
      refine .c (St1.appD (rows:=[]) (e:=3) (sz:=0) (by':=8) rfl rfl rfl rfl rfl (by kernel_rfl) rfl rfl rfl rfl rfl (by simp;omega) rfl) ?_
      refine .c (.fB 1 0 false)<|.c (.b1 1)<|.c (.bu [(0,.tmp 71),(1,.tmp 73)] [(0,1),(1,1)] [.slice none 0 0,.int .i64 0])<|.c (.li 61 1 0 [.tmp 74]) ?_
      refine .c (St1.appN (k':=176) (e:=61) (sz:=1) (by':=32) rfl rfl rfl rfl rfl (by kernel_rfl) rfl rfl rfl (by simp) (by first|(simp[dR];done)|(simp[dR];omega)) rfl rfl) ?_
      refine .c (.fB 1 0 false)<|.c (.sT 1 false) ?_
      refine .nil ⟨by kernel_rfl,?_⟩
      refine kb_n<|ks_n<|.region<|.c .m<|.c .pl<|.c .a<|.nil ?_
      refine kl_k [(130,130),(131,131),(132,176)] (.inr ⟨1,rfl,by omega,by omega,rfl⟩) ⟨kd,kW,kd,kX,kd,kb 130 rfl (.dt rfl (by first|exact dR_take rL hl|exact dR_take1 rL hl|rfl|(simp[dR];done))),kb 176 rfl (.dt rfl (by first|exact dR_take rA hx|exact dR_take1 rA hx|rfl|(simp[dR];done))),kb 131 rfl (.r2 .dt .ow),trivial⟩
     ·skip
      have hn2:l.2=[]:=List.eq_nil_of_length_eq_zero (by omega)
      refine .exit<|ks_e<|kl_e<|kb_hit<|ks_n ?_
      refine .keep [eD 0 (dLs ns),(.t 3,.v (.o (.c (.own 860 2 (i))))),eN 4 (i:Nat),eB 5 861 2,(.b 860,.b 148 2 (dR ((ns.take i).map rL))),eU 860,(.b 861,.b 148 2 [[.d (dAs l.1),.d (dAs l.2)]]),eU 861] [(860,130),(861,131)] ⟨kd,kW,kd,kX,kb 130 rfl (.dt rfl (by first|exact dR_take rL hl|exact dR_take1 rL hl|rfl|(simp[dR];done))),kb 131 rfl (.r2 .dt (Cto.nilE 2 (by rw[hn2];rfl))),trivial⟩ ?_
      refine .region<|.c .m<|.c (.bN 2)<|.c (.li 148 1 0 [.tmp 79]) ?_
      refine .c (St1.appB (k':=181) (e:=148) (sz:=1) (by':=48) rfl rfl rfl rfl rfl (by kernel_rfl) rfl rfl rfl rfl (by first|(simp[dR];done)|(simp[dR];omega)) (by first|(simp[dR];done)|(simp[dR];omega)) rfl rfl rfl) ?_
      refine .c .a<|.nil<|kb_n<|ks_n<|.region<|.c .m<|.c .pl<|.c .a<|.nil ?_
      refine kl_k [(110,181)] ⟨i+1,rfl,by omega,rfl⟩ ⟨kd,kW,kd,kb 181 rfl (.dt rfl (by first|exact dR_take rL hl|exact dR_take1 rL hl|rfl|(simp[dR];done))),trivial⟩
    ·skip
     refine .seq<|.r<|.c .m<|.c .m<|.c .m<|.c (.xL 148 2 48) ?_
     refine .c (.fP 1 0 false)<|.c (.l1 1)<|.c (.ln 61 2 32)<|.c .ls<|.nn ?_
     refine .cD rfl (fun h55=>?_) (fun h55=>?_)
     ·skip
      obtain⟨x,hx,hxs⟩:=at_sm hld (show j<l.2.length by omega)
      refine .skip<|ks_n<|.seq<|.block<|.r<|.c .m<|.c .m<|.c (.xL 148 2 48) ?_
      refine .c (.fP 1 0 false)<|.c (.l1 1)<|.c .m<|.c (.xL 61 2 32) ?_
      refine .c (.lN 2)<|.c (.al 109 [.slice none 0 0,.int .i64 0])<|.c (.sT 2 true)<|.nn ?_
      refine ACode.drawK (by kernel_rfl) (by kernel_rfl) ?_
      refine .c (.fB 1 0 false)<|.c (.b1 1) ?_
      refine .c (St1.lit0 (k':=168) (e:=3) (sz:=1) (b:=true) rfl rfl rfl rfl (by kernel_rfl) rfl rfl) ?_
      refine .c (.fB 0 0 false)<|.c (.b1 1) ?_
      refine .c (St1.appD (rows:=[]) (e:=3) (sz:=0) (by':=8) rfl rfl rfl rfl rfl (by kernel_rfl) rfl rfl rfl rfl rfl (by simp;omega) rfl) ?_
      refine .c (.fB 1 0 false)<|.c (.b1 1)<|.c (.bu [(0,.tmp 71),(1,.tmp 73)] [(0,1),(1,1)] [.slice none 0 0,.int .i64 0])<|.c (.li 61 1 0 [.tmp 74]) ?_
      refine .c (St1.appB (k':=176) (e:=61) (sz:=1) (by':=32) rfl rfl rfl rfl rfl (by kernel_rfl) rfl rfl rfl rfl (by first|(simp[dR];done)|(simp[dR];omega)) (by first|(simp[dR];done)|(simp[dR];omega)) rfl rfl rfl) ?_
      refine .c (.fB 1 0 false)<|.c (.sT 1 false) ?_
      refine .nil ⟨by kernel_rfl,?_⟩
      refine kb_n<|ks_n<|.region<|.c .m<|.c .pl<|.c .a<|.nil ?_
      refine kl_k [(130,130),(131,131),(132,176)] (.inr ⟨j+1,rfl,by omega,by omega,rfl⟩) ⟨kd,kW,kd,kX,kd,kb 130 rfl (.dt rfl (by first|exact dR_take rL hl|exact dR_take1 rL hl|rfl|(simp[dR];done))),kb 176 rfl (.dt rfl (by first|exact dR_take rA hx|exact dR_take1 rA hx|rfl|(simp[dR];done))),kb 131 rfl (.r2 .dt .ow),trivial⟩
     ·skip
      obtain rfl:j=l.2.length:=by omega
      refine .exit<|ks_e<|kl_e<|kb_hit<|ks_n ?_
      refine .keep [eD 0 (dLs ns),(.t 3,.v (.o (.c (.own 860 2 (i))))),eN 4 (i:Nat),eB 5 861 2,(.b 860,.b 148 2 (dR ((ns.take i).map rL))),eU 860,(.b 861,.b 148 2 [[.d (dAs l.1),.d (dAs l.2)]]),eU 861] [(860,130),(861,131)] ⟨kd,kW,kd,kX,kb 130 rfl (.dt rfl (by first|exact dR_take rL hl|exact dR_take1 rL hl|rfl|(simp[dR];done))),kb 131 rfl (.r2 .dt (.fz rfl (by first|rfl|(rw[List.take_length];done)) (by first|rfl|(simp;done)|(simp;omega)) (by omega))),trivial⟩ ?_
      refine .region<|.c .m<|.c (.bN 2)<|.c (.li 148 1 0 [.tmp 79]) ?_
      refine .c (St1.appB (k':=181) (e:=148) (sz:=1) (by':=48) rfl rfl rfl rfl rfl (by kernel_rfl) rfl rfl rfl rfl (by first|(simp[dR];done)|(simp[dR];omega)) (by first|(simp[dR];done)|(simp[dR];omega)) rfl rfl rfl) ?_
      refine .c .a<|.nil<|kb_n<|ks_n<|.region<|.c .m<|.c .pl<|.c .a<|.nil ?_
      refine kl_k [(110,181)] ⟨i+1,rfl,by omega,rfl⟩ ⟨kd,kW,kd,kb 181 rfl (.dt rfl (by first|exact dR_take rL hl|exact dR_take1 rL hl|rfl|(simp[dR];done))),trivial⟩
  ·skip
   refine .seq<|.r<|.c .m<|.c .m<|.c .m<|.c (.xL 148 2 48) ?_
   refine .c (.fP 0 0 false)<|.c (.l1 1)<|.c (.ln 61 2 32)<|.c .ls<|.nn ?_
   refine .cD rfl (fun h25=>?_) (fun h25=>?_)
   ·skip
    obtain⟨x,hx,hxs⟩:=at_sm hlc (show k<l.1.length by omega)
    refine .skip<|ks_n<|.seq<|.block<|.r<|.c .m<|.c .m<|.c (.xL 148 2 48) ?_
    refine .c (.fP 0 0 false)<|.c (.l1 1)<|.c .m<|.c (.xL 61 2 32) ?_
    refine .c (.lN 2)<|.c (.al 107 [.slice none 0 0,.int .i64 0])<|.c (.sT 2 true)<|.nn ?_
    refine ACode.drawK (by kernel_rfl) (by kernel_rfl) ?_
    refine .c (.fB 0 0 false)<|.c (.b1 1) ?_
    refine .c (St1.lit0 (k':=138) (e:=3) (sz:=1) (b:=true) rfl rfl rfl rfl (by kernel_rfl) rfl rfl) ?_
    refine .c (.fB 0 0 false)<|.c (.b1 1) ?_
    refine .c (St1.appD (rows:=[]) (e:=3) (sz:=0) (by':=8) rfl rfl rfl rfl rfl (by kernel_rfl) rfl rfl rfl rfl rfl (by simp;omega) rfl) ?_
    refine .c (.fB 1 0 false)<|.c (.b1 1)<|.c (.bu [(0,.tmp 41),(1,.tmp 43)] [(0,1),(1,1)] [.slice none 0 0,.int .i64 0])<|.c (.li 61 1 0 [.tmp 44]) ?_
    refine .c (St1.appB (k':=146) (e:=61) (sz:=1) (by':=32) rfl rfl rfl rfl rfl (by kernel_rfl) rfl rfl rfl rfl (by first|(simp[dR];done)|(simp[dR];omega)) (by first|(simp[dR];done)|(simp[dR];omega)) rfl rfl rfl) ?_
    refine .c (.fB 0 0 false)<|.c (.sT 1 false) ?_
    refine .nil ⟨by kernel_rfl,?_⟩
    refine kb_n<|ks_n<|.region<|.c .m<|.c .pl<|.c .a<|.nil ?_
    refine kl_k [(120,120),(121,121),(122,146)] (.inr ⟨k+1,rfl,by omega,by omega,rfl⟩) ⟨kd,kW,kd,kX,kd,kb 120 rfl (.dt rfl (by first|exact dR_take rL hl|exact dR_take1 rL hl|rfl|(simp[dR];done))),kb 146 rfl (.dt rfl (by first|exact dR_take rA hx|exact dR_take1 rA hx|rfl|(simp[dR];done))),kb 121 rfl (.r2 .ow .dt),trivial⟩
   ·skip
    obtain rfl:k=l.1.length:=by omega
    refine .exit<|ks_e<|kl_e<|kb_hit<|ks_n<|.seq<|.r<|.c .a<|.nn<|.block ?_
    refine .loopK (fun m σ=>(∃j:Nat,m=l.2.length -j∧(j=0)∧σ=[eD 0 (dLs ns),(.t 3,.v (.o (.c (.own 130 2 (i))))),eN 4 (i:Nat),eB 5 131 2,eN 8 (j:Nat),(.b 130,.b 148 2 (dR ((ns.take i).map rL))),eU 130,(.b 131,.b 148 2 [[.d (dAs l.1),nl]]),eU 131])∨(∃j:Nat,m=l.2.length -j∧(1≤j)∧(j≤l.2.length)∧σ=[eD 0 (dLs ns),(.t 3,.v (.o (.c (.own 130 2 (i))))),eN 4 (i:Nat),eB 5 131 2,eN 8 (j:Nat),(.b 130,.b 148 2 (dR ((ns.take i).map rL))),eU 130,(.b 132,.b 61 2 (dR ((l.2.take j).map rA))),eU 132,(.b 131,.b 148 2 [[.d (dAs l.1),.own 132 2 (j)]]),eU 131])) [(130,120),(131,121)] (.inl ⟨0,rfl,rfl,rfl⟩) ⟨kd,kW,kd,kX,kd,kb 120 rfl (.dt rfl (by first|exact dR_take rL hl|exact dR_take1 rL hl|rfl|(simp[dR];done))),kb 121 rfl (.r2 (.fz rfl (by first|rfl|(rw[List.take_length];done)) (by first|rfl|(simp;done)|(simp;omega)) (by omega)) .dt),trivial⟩ ?_
    rintro m σ (⟨j,hm0,rfl,rfl⟩|⟨j,hm0,hj1,hj2,rfl⟩)
    ·skip
     refine .seq<|.r<|.c .m<|.c .m<|.c .m<|.c (.xL 148 2 48) ?_
     refine .c (.fP 1 0 false)<|.c (.l1 1)<|.c (.ln 61 2 32)<|.c .ls<|.nn ?_
     refine .cD rfl (fun h55=>?_) (fun h55=>?_)
     ·skip
      obtain⟨x,hx,hxs⟩:=at_sm hld (show 0<l.2.length by omega)
      refine .skip<|ks_n<|.seq<|.block<|.r<|.c .m<|.c .m<|.c (.xL 148 2 48) ?_
      refine .c (.fP 1 0 false)<|.c (.l1 1)<|.c .m<|.c (.xL 61 2 32) ?_
      refine .c (.lN 2)<|.c (.al 109 [.slice none 0 0,.int .i64 0])<|.c (.sT 2 true)<|.nn ?_
      refine ACode.drawK (by kernel_rfl) (by kernel_rfl) ?_
      refine .c (.fB 1 0 false)<|.c (.b1 1) ?_
      refine .c (St1.lit0 (k':=168) (e:=3) (sz:=1) (b:=true) rfl rfl rfl rfl (by kernel_rfl) rfl rfl) ?_
      refine .c (.fB 0 0 false)<|.c (.b1 1) ?_
      refine .c (St1.appD (rows:=[]) (e:=3) (sz:=0) (by':=8) rfl rfl rfl rfl rfl (by kernel_rfl) rfl rfl rfl rfl rfl (by simp;omega) rfl) ?_
      refine .c (.fB 1 0 false)<|.c (.b1 1)<|.c (.bu [(0,.tmp 71),(1,.tmp 73)] [(0,1),(1,1)] [.slice none 0 0,.int .i64 0])<|.c (.li 61 1 0 [.tmp 74]) ?_
      refine .c (St1.appN (k':=176) (e:=61) (sz:=1) (by':=32) rfl rfl rfl rfl rfl (by kernel_rfl) rfl rfl rfl (by simp) (by first|(simp[dR];done)|(simp[dR];omega)) rfl rfl) ?_
      refine .c (.fB 1 0 false)<|.c (.sT 1 false) ?_
      refine .nil ⟨by kernel_rfl,?_⟩
      refine kb_n<|ks_n<|.region<|.c .m<|.c .pl<|.c .a<|.nil ?_
      refine kl_k [(130,130),(131,131),(132,176)] (.inr ⟨1,rfl,by omega,by omega,rfl⟩) ⟨kd,kW,kd,kX,kd,kb 130 rfl (.dt rfl (by first|exact dR_take rL hl|exact dR_take1 rL hl|rfl|(simp[dR];done))),kb 176 rfl (.dt rfl (by first|exact dR_take rA hx|exact dR_take1 rA hx|rfl|(simp[dR];done))),kb 131 rfl (.r2 .dt .ow),trivial⟩
     ·skip
      have hn2:l.2=[]:=List.eq_nil_of_length_eq_zero (by omega)
      refine .exit<|ks_e<|kl_e<|kb_hit<|ks_n ?_
      refine .keep [eD 0 (dLs ns),(.t 3,.v (.o (.c (.own 860 2 (i))))),eN 4 (i:Nat),eB 5 861 2,(.b 860,.b 148 2 (dR ((ns.take i).map rL))),eU 860,(.b 861,.b 148 2 [[.d (dAs l.1),.d (dAs l.2)]]),eU 861] [(860,130),(861,131)] ⟨kd,kW,kd,kX,kb 130 rfl (.dt rfl (by first|exact dR_take rL hl|exact dR_take1 rL hl|rfl|(simp[dR];done))),kb 131 rfl (.r2 .dt (Cto.nilE 2 (by rw[hn2];rfl))),trivial⟩ ?_
      refine .region<|.c .m<|.c (.bN 2)<|.c (.li 148 1 0 [.tmp 79]) ?_
      refine .c (St1.appB (k':=181) (e:=148) (sz:=1) (by':=48) rfl rfl rfl rfl rfl (by kernel_rfl) rfl rfl rfl rfl (by first|(simp[dR];done)|(simp[dR];omega)) (by first|(simp[dR];done)|(simp[dR];omega)) rfl rfl rfl) ?_
      refine .c .a<|.nil<|kb_n<|ks_n<|.region<|.c .m<|.c .pl<|.c .a<|.nil ?_
      refine kl_k [(110,181)] ⟨i+1,rfl,by omega,rfl⟩ ⟨kd,kW,kd,kb 181 rfl (.dt rfl (by first|exact dR_take rL hl|exact dR_take1 rL hl|rfl|(simp[dR];done))),trivial⟩
    ·skip
     refine .seq<|.r<|.c .m<|.c .m<|.c .m<|.c (.xL 148 2 48) ?_
     refine .c (.fP 1 0 false)<|.c (.l1 1)<|.c (.ln 61 2 32)<|.c .ls<|.nn ?_
     refine .cD rfl (fun h55=>?_) (fun h55=>?_)
     ·skip
      obtain⟨x,hx,hxs⟩:=at_sm hld (show j<l.2.length by omega)
      refine .skip<|ks_n<|.seq<|.block<|.r<|.c .m<|.c .m<|.c (.xL 148 2 48) ?_
      refine .c (.fP 1 0 false)<|.c (.l1 1)<|.c .m<|.c (.xL 61 2 32) ?_
      refine .c (.lN 2)<|.c (.al 109 [.slice none 0 0,.int .i64 0])<|.c (.sT 2 true)<|.nn ?_
      refine ACode.drawK (by kernel_rfl) (by kernel_rfl) ?_
      refine .c (.fB 1 0 false)<|.c (.b1 1) ?_
      refine .c (St1.lit0 (k':=168) (e:=3) (sz:=1) (b:=true) rfl rfl rfl rfl (by kernel_rfl) rfl rfl) ?_
      refine .c (.fB 0 0 false)<|.c (.b1 1) ?_
      refine .c (St1.appD (rows:=[]) (e:=3) (sz:=0) (by':=8) rfl rfl rfl rfl rfl (by kernel_rfl) rfl rfl rfl rfl rfl (by simp;omega) rfl) ?_
      refine .c (.fB 1 0 false)<|.c (.b1 1)<|.c (.bu [(0,.tmp 71),(1,.tmp 73)] [(0,1),(1,1)] [.slice none 0 0,.int .i64 0])<|.c (.li 61 1 0 [.tmp 74]) ?_
      refine .c (St1.appB (k':=176) (e:=61) (sz:=1) (by':=32) rfl rfl rfl rfl rfl (by kernel_rfl) rfl rfl rfl rfl (by first|(simp[dR];done)|(simp[dR];omega)) (by first|(simp[dR];done)|(simp[dR];omega)) rfl rfl rfl) ?_
      refine .c (.fB 1 0 false)<|.c (.sT 1 false) ?_
      refine .nil ⟨by kernel_rfl,?_⟩
      refine kb_n<|ks_n<|.region<|.c .m<|.c .pl<|.c .a<|.nil ?_
      refine kl_k [(130,130),(131,131),(132,176)] (.inr ⟨j+1,rfl,by omega,by omega,rfl⟩) ⟨kd,kW,kd,kX,kd,kb 130 rfl (.dt rfl (by first|exact dR_take rL hl|exact dR_take1 rL hl|rfl|(simp[dR];done))),kb 176 rfl (.dt rfl (by first|exact dR_take rA hx|exact dR_take1 rA hx|rfl|(simp[dR];done))),kb 131 rfl (.r2 .dt .ow),trivial⟩
     ·skip
      obtain rfl:j=l.2.length:=by omega
      refine .exit<|ks_e<|kl_e<|kb_hit<|ks_n ?_
      refine .keep [eD 0 (dLs ns),(.t 3,.v (.o (.c (.own 860 2 (i))))),eN 4 (i:Nat),eB 5 861 2,(.b 860,.b 148 2 (dR ((ns.take i).map rL))),eU 860,(.b 861,.b 148 2 [[.d (dAs l.1),.d (dAs l.2)]]),eU 861] [(860,130),(861,131)] ⟨kd,kW,kd,kX,kb 130 rfl (.dt rfl (by first|exact dR_take rL hl|exact dR_take1 rL hl|rfl|(simp[dR];done))),kb 131 rfl (.r2 .dt (.fz rfl (by first|rfl|(rw[List.take_length];done)) (by first|rfl|(simp;done)|(simp;omega)) (by omega))),trivial⟩ ?_
      refine .region<|.c .m<|.c (.bN 2)<|.c (.li 148 1 0 [.tmp 79]) ?_
      refine .c (St1.appB (k':=181) (e:=148) (sz:=1) (by':=48) rfl rfl rfl rfl rfl (by kernel_rfl) rfl rfl rfl rfl (by first|(simp[dR];done)|(simp[dR];omega)) (by first|(simp[dR];done)|(simp[dR];omega)) rfl rfl rfl) ?_
      refine .c .a<|.nil<|kb_n<|ks_n<|.region<|.c .m<|.c .pl<|.c .a<|.nil ?_
      refine kl_k [(110,181)] ⟨i+1,rfl,by omega,rfl⟩ ⟨kd,kW,kd,kb 181 rfl (.dt rfl (by first|exact dR_take rL hl|exact dR_take1 rL hl|rfl|(simp[dR];done))),trivial⟩
 ·skip
  obtain rfl:i=ns.length:=by omega
  refine .exit<|ks_e<|kl_e<|kb_hit<|ks_n<|.r<|.c .m<|.c .a<|.nn<|.ret ?_
  refine kf_wret [(.t 2,.v (.o (.c (.own 100 2 (ns.length))))),(.b 100,.b 148 2 (dR (ns.map rL))),eU 100] (Wk.keep [(100,110)] rfl rfl ⟨kW,kb 110 rfl (.dt rfl (by rw[List.take_length])),trivial⟩) rfl ?_ (one_box rfl)
  rfl
theorem two_box {σ:St} {k0 k1:Nat} {e0 e1:TypeId} {sz0 sz1:Nat} {rows0 rows1:List (List C)} (h:lk σ (.b k0)= .b e0 sz0 rows0) (h2:lk σ (.b k1)= .b e1 sz1 rows1):∀k e sz rows,lk [(.b k0,.b e0 sz0 rows0),(.u k0,.u),(.b k1,.b e1 sz1 rows1),(.u k1,.u)] (.b k)= .b e sz rows→lk σ (.b k)= .b e sz rows:=fun k e sz rows h1=>by
  have hm:=lk_mem h1 (by simp)
  simp only[List.mem_cons,List.not_mem_nil,or_false]at hm
  rcases hm with hm|hm|hm|hm
  ·cases hm;exact h
  ·cases hm
  ·cases hm;exact h2
  ·cases hm
def okL (k:Nat) (l:Lp):Prop:=l.1≠[]∧l.1.length≤k∧l.2.length≤k∧(∀a∈l.1,a.1.length≤4)∧∀a∈l.2,a.1.length≤4
def okN (k:Nat) (ns:List Lp):Prop:=ns.length≤k∧∀l∈ns,okL k l
theorem okL.mono {k m:Nat} {l:Lp} (h:okL k l) (hm:k≤m):okL m l:=⟨h.1,Nat.le_trans h.2.1 hm,Nat.le_trans h.2.2.1 hm,h.2.2.2⟩
theorem okN.sm {k:Nat} {ns:List Lp} (h:okN k ns) (hk:k≤100):smN ns:=
  ⟨Nat.le_trans h.1 hk,fun l hl=>by
    obtain⟨_,h1,h2,h3,h4⟩:=h.2 l hl
    exact⟨Nat.le_trans h1 hk,Nat.le_trans h2 hk,fun a ha=>Nat.le_trans (h3 a ha) (by omega),fun a ha=>Nat.le_trans (h4 a ha) (by omega)⟩⟩
theorem okN.cons {k:Nat} {l:Lp} {ns:List Lp} (h:okN k (l::ns)):okL k l∧ns.length+1≤k∧∀x∈ns,okL k x:=⟨h.2 l (by simp),by simpa using h.1,fun x hx=>h.2 x (by simp[hx])⟩
def nestG (i:Nat):List Lp→Bool
  |[]=>true
  |l::r=>(sideV i l.1&&sideV i l.2)&&nestG (i+1) r
def nsV (ns:List Lp):Bool:=decide (ns.length≤4)&&nestG 0 ns
theorem nestG_drop {ns:List Lp} {i:Nat} {l:Lp} (h:ns[i]?=some l):nestG i (ns.drop i)=((sideV i l.1&&sideV i l.2)&&nestG (i+1) (ns.drop (i+1))):=by rw[drop_at h];rfl
theorem nsV_at {ns:List Lp} (h:nsV ns=true):ns.length≤4∧∀(i:Nat) l,ns[i]?=some l→sideV i l.1=true∧sideV i l.2=true:=by
  rw[nsV,Bool.and_eq_true,decide_eq_true_eq]at h
  refine⟨h.1,?_⟩
  have key:∀(ms:List Lp) (k:Nat),nestG k ms=true→∀(i:Nat) l,ms[i]?=some l→sideV (k+i) l.1=true∧sideV (k+i) l.2=true:=by
    intro ms
    induction ms with
    |nil=>intro k _ i l h;simp at h
    |cons m ms ih=>
      intro k hk i l hl
      rw[nestG,Bool.and_eq_true,Bool.and_eq_true]at hk
      cases i with
      |zero=>simp at hl;subst hl;exact hk.1
      |succ i=>
        have:=ih (k+1) hk.2 i l (by simpa using hl)
        rwa[show k+1+i=k+(i+1)by omega]at this
  intro i l hl
  have:=key ns 0 h.2 i l hl
  rwa[Nat.zero_add]at this
theorem within_fn (n lo hi:Int):Fn Tryz.prog 61 [] [nat1 n,nat1 lo,nat1 hi] (.o (bo1 (inB n lo hi))) []:=by
  refine Fn.code0 Tryz.func61 rfl rfl rfl rfl ?_
  refine .r<|.c .a<|.r<|.c .m<|.c .m<|.c .le<|.c .m ?_
  refine .cD 10 rfl (fun g10=>?_) (fun g10=>?_)
  · skip
    refine .c (.g .m)<|.c (.g .m)<|.c (.g .le)<|.c .pT<|.c .a<|.nn<|.ret ?_
    refine kf_ret rfl ?_ nobox
    exact leafB (by rw[inB];simp[*])
  · skip
    refine .c .f<|.c .f<|.c .f<|.c .pF<|.c .a<|.nn<|.ret ?_
    refine kf_ret rfl ?_ nobox
    exact leafB (by rw[inB];simp[*])
theorem bnd1_fn (d:Nat) (x:Aff):Fn Tryz.prog 175 [] [ad (rA x),.c (.ptr [dI (d:Nat)])] (.o (bo1 (!bndV d x))) []:=by
 refine Fn.code0 Tryz.func175 rfl rfl rfl rfl ?_
 refine .r<|.c .bp<|.c .a<|.nn<|.seq ?_
 refine ACode.drawK (by kernel_rfl) (by kernel_rfl) ?_
 refine .c (.lN 2) ?_
 refine .c (.cP [.tmp 4] rfl rfl rfl rfl (implAffV_fn x) rfl) ?_
 refine .c .nt<|.c .m ?_
 refine RunK.cases 7 _ rfl (fun g7=>?_) (fun g7=>?_)
 ·try simp only[zs]at g7
  refine .c .f<|.c .f<|.c .f<|.c .f<|.c .pT<|.c .a ?_
  refine .nil ⟨by kernel_rfl,?_⟩
  refine ks_n<|.ret ?_
  refine kf_ret rfl ?_ nobox
  first|exact leafB (by rw[bnd_no (.inl g7)];rfl)|exact leafB (by rw[bndV,g7,Bool.true_and,Bool.eq_iff_iff];simp)
 ·try simp only[zs]at g7
  refine .c (.g (.lN 2)) ?_
  refine .c (.gT rfl rfl rfl (.cP [.tmp 8] rfl rfl rfl rfl (depth_fn x) rfl)) ?_
  refine .c (.g (.l1 1))<|.c (.g .gt)<|.c .pF<|.c .a ?_
  refine .nil ⟨by kernel_rfl,?_⟩
  refine ks_n<|.ret ?_
  refine kf_ret rfl ?_ nobox
  first|exact leafB (by rw[bnd_no (.inl g7)];rfl)|exact leafB (by rw[bndV,g7,Bool.true_and,Bool.eq_iff_iff];simp)
theorem boundsOk_fn (d:Nat) (xs:List Aff) (hx:xs.length≤1099511627776):Fn Tryz.prog 144 [] [vD (dAs xs),nat1 (d:Nat)] (.o (bo1 (sideV d xs))) []:=by
  refine Fn.code0 Tryz.func144 rfl rfl rfl rfl ?_
  refine .r<|.c .bp<|.c .a<|.r<|.c .m<|.c (.ln 61 2 32) ?_
  refine .c (.cP [.tmp 6,.const (.int .i64 (1)),.const (.int .i64 (2))] rfl rfl rfl rfl (within_fn _ 1 2) rfl) ?_
  refine .c .m ?_
  refine AOps.cases 8 _ rfl (fun g8=>?_) (fun g8=>?_)
  · try simp only[zs]at g8
    refine .c (.g .m) ?_
    refine .c (.gT rfl rfl rfl (St1.makeFunc (xs:=[.tmp 3]) rfl rfl rfl rfl rfl rfl rfl))<|.c (.gT rfl rfl rfl (.cP [.tmp 9,.tmp 10] rfl rfl rfl rfl (cnt_aff (f:=175) (cap:=[[dI (d:Nat)]]) (by kernel_rfl) (fun x=> !bndV d x) xs hx (fun x _=>bnd1_fn d x)) rfl)) ?_
    refine .c (.g .nt)<|.c .pT<|.c .a<|.nn<|.ret ?_
    refine kf_ret rfl ?_ nobox
    simp only[inB,decide_eq_true_eq,decide_eq_false_iff_not]at g8
    first|exact leafB (by rw[nany,sideV,decide_eq_true (show 1≤xs.length by omega),decide_eq_true (show xs.length≤2 by omega)];simp)|exact leafB (by rw[sideV];symm;simp;omega)
  · try simp only[zs]at g8
    refine .c .f<|.c .f<|.c .f<|.c .f<|.c .pF<|.c .a<|.nn<|.ret ?_
    refine kf_ret rfl ?_ nobox
    simp only[inB,decide_eq_true_eq,decide_eq_false_iff_not]at g8
    first|exact leafB (by rw[nany,sideV,decide_eq_true (show 1≤xs.length by omega),decide_eq_true (show xs.length≤2 by omega)];simp)|exact leafB (by rw[sideV];symm;simp;omega)
theorem l2Side_fn (d:Nat) (xs:List Aff) (hx:xs.length≤1099511627776):Fn Tryz.prog 166 [] [vD (dAs xs),nat1 (d:Nat)] (.o (bo1 (sideV d xs))) []:=by
 refine Fn.code0 Tryz.func166 rfl rfl rfl rfl ?_
 refine .r<|.c .a<|.nn<|.seq<|.r<|.c .a<|.nn<|.block ?_
 refine .loopK (fun m σ=>(∃i:Nat,m=xs.length -i∧(i≤xs.length)∧(xs.all (bndV d)=(xs.drop i).all (bndV d))∧σ=[eD 0 (dAs xs),eN 1 (d:Nat),eN 5 (i:Nat)])) [] ⟨0,rfl,by omega,by simp,rfl⟩ ⟨kd,kd,kd,trivial⟩ ?_
 rintro m σ ⟨i,hm0,hi,hF,rfl⟩
 refine .seq<|.r<|.c .m<|.c .m<|.c (.ln 61 2 32)<|.c .ls<|.nn ?_
 refine .cD rfl (fun h9=>?_) (fun h9=>?_)
 ·skip
  obtain⟨x,hx1⟩:∃x,xs[i]?=some x:=⟨_,List.getElem?_eq_getElem (by omega)⟩
  refine .skip<|ks_n<|.seq<|.block<|.r<|.c .m<|.c .m<|.c (.xL 61 2 32) ?_
  refine .c (.lN 2) ?_
  refine .c (.cP [.tmp 15] rfl rfl rfl rfl (specAffV_fn x) rfl) ?_
  refine .c .nt<|.c .m ?_
  refine AOps.cases 18 _ rfl (fun g18=>?_) (fun g18=>?_)
  ·try simp only[zs]at g18
   refine .c .f<|.c .f<|.c .f<|.c .f<|.c .f<|.c .f<|.c .f<|.c .pT<|.nn ?_
   refine .k1 ?_
   refine .seq ?_
   have g:bndV d x=false:=bnd_no (by first|exact .inl (by assumption)|exact .inr (by omega))
   refine .region<|.c .a<|.nn<|.ret<|kb_r<|ks_r<|kl_r<|kb_r<|ks_r ?_
   refine kf_ret rfl ?_ nobox
   exact leafB (by rw[sideV,hF,all_drop hx1,g];rfl)
  ·try simp only[zs]at g18
   refine .c (.g .m)<|.c (.g .m)<|.c (.g (.xL 61 2 32)) ?_
   refine .c (.g (.lN 2)) ?_
   refine .c (.gT rfl rfl rfl (.cP [.tmp 22] rfl rfl rfl rfl (l1Depth_fn x) rfl)) ?_
   refine .c (.g .m)<|.c (.g .gt)<|.c .pF<|.nn ?_
   refine ACode.condT rfl (fun h26=>?_) (fun h26=>?_)
   ·try simp only[zs]at h26
    refine .seq ?_
    have g:bndV d x=false:=bnd_no (by first|exact .inl (by assumption)|exact .inr (by omega))
    refine .region<|.c .a<|.nn<|.ret<|kb_r<|ks_r<|kl_r<|kb_r<|ks_r ?_
    refine kf_ret rfl ?_ nobox
    exact leafB (by rw[sideV,hF,all_drop hx1,g];rfl)
   ·try simp only[zs]at h26
    replace h26:¬d<affDepth x:=by omega
    refine .skip<|kb_n<|ks_n<|.region<|.c .m<|.c .pl<|.c .a<|.nil ?_
    refine kl_k [] ⟨i+1,rfl,by omega,by rw[hF,all_drop hx1,bnd_yes g18 h26,Bool.true_and],rfl⟩ ⟨kd,kd,kd,trivial⟩
 ·skip
  have hA:xs.all (bndV d)=true:=by rw[hF,List.drop_of_length_le (by omega)];rfl
  refine .exit<|ks_e<|kl_e<|kb_hit<|ks_n<|.r<|.c .m<|.c (.ln 61 2 32)<|.c .ge<|.c .m ?_
  refine .cD 30 rfl (fun g30=>?_) (fun g30=>?_)
  ·skip
   refine .c (.g .m)<|.c (.g (.ln 61 2 32))<|.c (.g .le)<|.c .pT<|.c .a<|.nn<|.ret ?_
   refine kf_ret rfl ?_ nobox
   exact leafB (side_len hA (by first|(rw[decide_eq_false (show ¬ 1≤xs.length by omega)];rfl)|(rw[decide_eq_true (show 1≤xs.length by omega),Bool.true_and,Bool.eq_iff_iff];simp;omega)))
  ·skip
   refine .c .f<|.c .f<|.c .f<|.c .pF<|.c .a<|.nn<|.ret ?_
   refine kf_ret rfl ?_ nobox
   exact leafB (side_len hA (by first|(rw[decide_eq_false (show ¬ 1≤xs.length by omega)];rfl)|(rw[decide_eq_true (show 1≤xs.length by omega),Bool.true_and,Bool.eq_iff_iff];simp;omega)))
theorem implNestV_fn (ns:List Lp) (hs:smN ns):Fn Tryz.prog 105 [] [vD (dLs ns)] (.o (bo1 (nsV ns))) []:=by
 have hn:=hs.1
 refine Fn.code0 Tryz.func105 rfl rfl rfl rfl ?_
 refine .r<|.c .a<|.nn<|.seq<|.r<|.c .m<|.c (.ln 148 2 48)<|.c .m<|.nn<|.block ?_
 refine .loopK (fun m σ=>(∃i:Nat,m=ns.length -i∧(i≤ns.length)∧(nestG 0 ns=nestG i (ns.drop i))∧σ=[eD 0 (dLs ns),eD 5 (dLs ns),eN 6 (ns.length:Nat),eN 7 (i:Nat)])) [] ⟨0,rfl,by omega,by simp,rfl⟩ ⟨kd,kd,kd,kd,trivial⟩ ?_
 rintro m σ ⟨i,hm0,hi,hF,rfl⟩
 refine .r<|.c .ls<|.nn<|.seq ?_
 refine .cD rfl (fun h8=>?_) (fun h8=>?_)
 ·skip
  obtain⟨x,hx1⟩:∃x,ns[i]?=some x:=⟨_,List.getElem?_eq_getElem (by omega)⟩
  have hq:=hs.2 x (List.mem_of_getElem? hx1)
  refine .skip<|ks_n<|.seq<|.block<|.r<|.c .m<|.c (.xL 148 2 48) ?_
  refine .c (.lN 2)<|.c (.al 104 [.slice none 0 0,.slice none 0 0])<|.c .a<|.c (.sT 2 true)<|.r<|.c (.fB 0 0 false)<|.c (.b1 1)<|.c .m ?_
  refine .c (.cP [.tmp 13,.tmp 14] rfl rfl rfl rfl (boundsOk_fn i _ (Nat.le_trans hq.1 (by omega))) rfl) ?_
  refine .c .nt<|.c .m ?_
  refine AOps.cases 17 _ rfl (fun g17=>?_) (fun g17=>?_)
  ·try simp only[zs]at g17
   refine .c .f<|.c .f<|.c .f<|.c .f<|.c .f<|.c .pT<|.nn ?_
   refine .k1 ?_
   refine .seq ?_
   have g:(sideV i x.1&&sideV i x.2)=false:=by simp[*]
   refine .region<|.c .a<|.nn<|.ret<|kb_r<|ks_r<|kl_r<|kb_r<|ks_r ?_
   refine kf_ret rfl ?_ nobox
   exact leafB (by rw[nsV,hF,nestG_drop hx1,g];simp)
  ·try simp only[zs]at g17
   refine .c (.g (.fB 1 0 false))<|.c (.g (.b1 1))<|.c (.g .m) ?_
   refine .c (.gT rfl rfl rfl (.cP [.tmp 19,.tmp 20] rfl rfl rfl rfl (boundsOk_fn i _ (Nat.le_trans hq.2.1 (by omega))) rfl)) ?_
   refine .c (.g .nt)<|.c .pF<|.nn ?_
   refine ACode.condT rfl (fun h23=>?_) (fun h23=>?_)
   ·try simp only[zs]at h23
    refine .seq ?_
    have g:(sideV i x.1&&sideV i x.2)=false:=by simp[*]
    refine .region<|.c .a<|.nn<|.ret<|kb_r<|ks_r<|kl_r<|kb_r<|ks_r ?_
    refine kf_ret rfl ?_ nobox
    exact leafB (by rw[nsV,hF,nestG_drop hx1,g];simp)
   ·try simp only[zs]at h23
    refine .skip<|kb_n<|ks_n ?_
    have g:(sideV i x.1&&sideV i x.2)=true:=by simp[*]
    refine .region<|.c .pl<|.c .m<|.nil ?_
    refine kl_k [] ⟨i+1,rfl,by omega,by rw[hF,nestG_drop hx1,g,Bool.true_and],rfl⟩ ⟨kd,kd,kd,kd,trivial⟩
 ·skip
  refine .exit<|ks_e<|kl_e<|kb_hit<|ks_n<|.r<|.c .m<|.c (.ln 148 2 48)<|.c .le<|.c .a<|.nn<|.ret ?_
  refine kf_ret rfl ?_ nobox
  exact leafB (by rw[nsV,hF,List.drop_of_length_le (by omega),nestG,Bool.and_true,Bool.eq_iff_iff];simp;omega)
theorem specNestV_fn (ns:List Lp) (hs:smN ns):Fn Tryz.prog 132 [] [vD (dLs ns)] (.o (bo1 (nsV ns))) []:=by
 have hn:=hs.1
 refine Fn.code0 Tryz.func132 rfl rfl rfl rfl ?_
 refine .r<|.c .a<|.nn<|.seq<|.r<|.c .a<|.nn<|.block ?_
 refine .loopK (fun m σ=>(∃i:Nat,m=ns.length -i∧(i≤ns.length)∧(nestG 0 ns=nestG i (ns.drop i))∧σ=[eD 0 (dLs ns),eN 3 (i:Nat)])) [] ⟨0,rfl,by omega,by simp,rfl⟩ ⟨kd,kd,trivial⟩ ?_
 rintro m σ ⟨i,hm0,hi,hF,rfl⟩
 refine .seq<|.r<|.c .m<|.c .m<|.c (.ln 148 2 48)<|.c .ls<|.c .m ?_
 refine .cD 8 rfl (fun g8=>?_) (fun g8=>?_)
 ·skip
  refine .c (.g .m)<|.c (.g (.ln 148 2 48))<|.c (.g .le)<|.c .pT<|.nn ?_
  refine ACode.condT rfl (fun h12=>?_) (fun h12=>?_)
  ·try simp only[zs]at h12
   obtain⟨x,hx1⟩:∃x,ns[i]?=some x:=⟨_,List.getElem?_eq_getElem (by omega)⟩
   have hq:=hs.2 x (List.mem_of_getElem? hx1)
   refine .skip<|ks_n<|.seq<|.block<|.r<|.c .m<|.c .m<|.c (.xL 148 2 48) ?_
   refine .c (.fP 0 0 false)<|.c (.l1 1)<|.c .m ?_
   refine .c (.cP [.tmp 19,.tmp 20] rfl rfl rfl rfl (l2Side_fn i _ (Nat.le_trans hq.1 (by omega))) rfl) ?_
   refine .c .nt<|.c .m ?_
   refine AOps.cases 23 _ rfl (fun g23=>?_) (fun g23=>?_)
   ·try simp only[zs]at g23
    refine .c .f<|.c .f<|.c .f<|.c .f<|.c .f<|.c .f<|.c .f<|.c .f<|.c .pT<|.nn ?_
    refine .k1 ?_
    refine .seq ?_
    have g:(sideV i x.1&&sideV i x.2)=false:=by simp[*]
    refine .region<|.c .a<|.nn<|.ret<|kb_r<|ks_r<|kl_r<|kb_r<|ks_r ?_
    refine kf_ret rfl ?_ nobox
    exact leafB (by rw[nsV,hF,nestG_drop hx1,g];simp)
   ·try simp only[zs]at g23
    refine .c (.g .m)<|.c (.g .m)<|.c (.g (.xL 148 2 48)) ?_
    refine .c (.g (.fP 1 0 false))<|.c (.g (.l1 1))<|.c (.g .m) ?_
    refine .c (.gT rfl rfl rfl (.cP [.tmp 28,.tmp 29] rfl rfl rfl rfl (l2Side_fn i _ (Nat.le_trans hq.2.1 (by omega))) rfl)) ?_
    refine .c (.g .nt)<|.c .pF<|.nn ?_
    refine ACode.condT rfl (fun h32=>?_) (fun h32=>?_)
    ·try simp only[zs]at h32
     refine .seq ?_
     have g:(sideV i x.1&&sideV i x.2)=false:=by simp[*]
     refine .region<|.c .a<|.nn<|.ret<|kb_r<|ks_r<|kl_r<|kb_r<|ks_r ?_
     refine kf_ret rfl ?_ nobox
     exact leafB (by rw[nsV,hF,nestG_drop hx1,g];simp)
    ·try simp only[zs]at h32
     refine .skip<|kb_n<|ks_n ?_
     have g:(sideV i x.1&&sideV i x.2)=true:=by simp[*]
     refine .region<|.c .m<|.c .pl<|.c .a<|.nil ?_
     refine kl_k [] ⟨i+1,rfl,by omega,by rw[hF,nestG_drop hx1,g,Bool.true_and],rfl⟩ ⟨kd,kd,trivial⟩
  ·try simp only[zs]at h12
   refine .exit<|ks_e<|kl_e<|kb_hit<|ks_n<|.r<|.c .m<|.c (.ln 148 2 48)<|.c .le<|.c .a<|.nn<|.ret ?_
   refine kf_ret rfl ?_ nobox
   first|exact leafB (by rw[nsV,hF,List.drop_of_length_le (by omega),nestG,Bool.and_true,Bool.eq_iff_iff];simp;omega)|exact leafB (by rw[nsV,decide_eq_false (show ¬ns.length≤4 by omega)];simp;omega)
 ·skip
  refine .c .f<|.c .f<|.c .f<|.c .pF<|.nn ?_
  refine .k0 ?_
  refine .exit<|ks_e<|kl_e<|kb_hit<|ks_n<|.r<|.c .m<|.c (.ln 148 2 48)<|.c .le<|.c .a<|.nn<|.ret ?_
  refine kf_ret rfl ?_ nobox
  first|exact leafB (by rw[nsV,hF,List.drop_of_length_le (by omega),nestG,Bool.and_true,Bool.eq_iff_iff];simp;omega)|exact leafB (by rw[nsV,decide_eq_false (show ¬ns.length≤4 by omega)];simp;omega)
def mxF (p:List Int) (m:Int):List Aff→Int
  |[]=>m
  |x::l=>mxF p (max m (affEval x p)) l
def mnF (p:List Int) (m:Int):List Aff→Int
  |[]=>m
  |x::l=>mnF p (min m (affEval x p)) l
def loF (p:List Int):List Aff→Int
  |[]=>0
  |x::l=>mxF p (affEval x p) l
def hiF (p:List Int):List Aff→Int
  |[]=>0
  |x::l=>mnF p (affEval x p) l
section
variable {p : List Int} {m : Int} {l : List Aff} {i : Nat} {x : Aff}
theorem mxF_drop (h:l[i]?=some x):mxF p m (l.drop i)=mxF p (max m (affEval x p)) (l.drop (i+1)):=by rw[drop_at h];rfl
theorem mnF_drop (h:l[i]?=some x):mnF p m (l.drop i)=mnF p (min m (affEval x p)) (l.drop (i+1)):=by rw[drop_at h];rfl
theorem loF_one (h:l[0]?=some x):loF p l=mxF p (affEval x p) (l.drop 1):=by
  have:=drop_at h
  rw[List.drop_zero]at this
  rw[this];rfl
theorem hiF_one (h:l[0]?=some x):hiF p l=mnF p (affEval x p) (l.drop 1):=by
  have:=drop_at h
  rw[List.drop_zero]at this
  rw[this];rfl
theorem loF_zero (h:l[0]?=some x):loF p l=mxF p (affEval x p) (l.drop 0):=by
  rw[loF_one h,mxF_drop h,show max (affEval x p) (affEval x p)=affEval x p by omega]
theorem hiF_zero (h:l[0]?=some x):hiF p l=mnF p (affEval x p) (l.drop 0):=by
  rw[hiF_one h,mnF_drop h,show min (affEval x p) (affEval x p)=affEval x p by omega]
theorem mxF_end (h:l.length≤i):mxF p m (l.drop i)=m:=by rw[List.drop_of_length_le h];rfl
theorem mnF_end (h:l.length≤i):mnF p m (l.drop i)=m:=by rw[List.drop_of_length_le h];rfl
theorem mx_le {a b:Int} (h:¬a<b):max a b=a:=by omega
theorem mx_lt {a b:Int} (h:a<b):max a b=b:=by omega
theorem mn_le {a b:Int} (h:¬b<a):min a b=a:=by omega
theorem mn_lt {a b:Int} (h:b<a):min a b=b:=by omega
end
structure okR (l:Lp) (p:List Int):Prop where
  n1:l.1≠[]
  n2:l.2≠[]
  v1:∀a∈l.1,affV a=true
  v2:∀a∈l.2,affV a=true
  b1:l.1.length≤2
  b2:l.2.length≤2
  sm:Small p
  ln:p.length≤4
theorem ne_at {α:Type} {l:List α} (h:l≠[]):∃x,l[0]?=some x:=by
  cases l with
  |nil=>exact absurd rfl h
  |cons x l=>exact⟨x,rfl⟩
theorem side_at {d:Nat} {xs:List Aff} (h:sideV d xs=true):xs≠[]∧xs.length≤2∧∀a∈xs,affV a=true:=by
  rw[sideV,Bool.and_eq_true,Bool.and_eq_true,decide_eq_true_eq,decide_eq_true_eq,List.all_eq_true]at h
  refine⟨fun e=>by rw[e]at h;simp at h,h.2,fun a ha=>?_⟩
  have:=h.1.1 a ha
  rw[bndV,Bool.and_eq_true]at this
  exact this.1
theorem Small.take {p:List Int} (h:Small p) (i:Nat):Small (p.take i):=fun n hn=>h n (List.mem_of_mem_take hn)
theorem okR_of {ns:List Lp} {i:Nat} {l:Lp} {p:List Int} (h:nsV ns=true) (hl:ns[i]?=some l) (hs:Small p) (hp:p.length≤4):okR l p:=by
  obtain⟨h1,h2⟩:=(nsV_at h).2 i l hl
  obtain⟨a1,a2,a3⟩:=side_at h1
  obtain⟨b1,b2,b3⟩:=side_at h2
  exact⟨a1,b1,a3,b3,a2,b2,hs,hp⟩
def inG (p:List Int) (i:Nat):List Lp→Bool
  |[]=>true
  |l::r=>(decide (loF (p.take i) l.1≤p.getD i 0)&&decide (p.getD i 0<hiF (p.take i) l.2))&&inG p (i+1) r
theorem getD_some {α:Type} {l:List α} {i:Nat} {x d:α} (h:l[i]?=some x):l.getD i d=x:=by rw[List.getD,h];rfl
theorem Fn.arg2 {P:Program} {f:FuncId} {hb hb':St} {x:V1} {d1 d2:D} {y:V} (h:d1=d2) (F:Fn P f hb [x,vD d1] y hb'):Fn P f hb [x,vD d2] y hb':=h▸F
abbrev Pts:=List (List Int)
def rIs (p:List Int):List D:=[dIs p]
def dPs (o:Pts):D:=.list 1 (o.map rIs)
def lenR (l:Lp) (p:List Int):Nat:=(hiF p l.2 -loF p l.1).toNat
def fromP (g:Int→Pts):Nat→Int→Pts
  |0,_=>[]
  |k+1,v=>g v++fromP g k (v+1)
def sumW (g:Int→Nat):Nat→Int→Nat
  |0,_=>0
  |k+1,v=>g v+sumW g k (v+1)
def ptsG:List Lp→List Int→Pts
  |[],p=>[p]
  |l::ms,p=>fromP (fun v=>ptsG ms (p++[v])) (lenR l p) (loF p l.1)
def nodesG:List Lp→List Int→Nat
  |[],_=>1
  |l::ms,p=>1+sumW (fun v=>nodesG ms (p++[v])) (lenR l p) (loF p l.1)
theorem nodesG_pos:∀(ms:List Lp) (p:List Int),1≤nodesG ms p
  |[],_=>Nat.le_refl _
  |_::_,_=>by rw[nodesG];omega
/-! ### The program's way -/
def iterW (f:Int→Nat→Pts→Bool×Nat×Pts):Nat→Int→Nat→Pts→Bool×Nat×Pts
  |0,_,s,o=>(true,s,o)
  |k+1,v,s,o=>if (f v s o).1=true then iterW f k (v+1) (f v s o).2.1 (f v s o).2.2 else f v s o
def walkF:List Lp→List Int→Nat→Pts→Bool×Nat×Pts
  |[],p,s,o=>(decide (o.length+1≤120),s,o++[p])
  |l::ms,p,s,o=>iterW (fun v s o=>if 1199≤s then(false,s+1,o)else walkF ms (p++[v]) (s+1) o) (lenR l p) (loF p l.1) s o
def stepW (ms:List Lp) (p:List Int) (v:Int) (s:Nat) (o:Pts):Bool×Nat×Pts:=if 1199≤s then(false,s+1,o)else walkF ms (p++[v]) (s+1) o
theorem walkF_cons (l:Lp) (ms:List Lp) (p:List Int) (s:Nat) (o:Pts):walkF (l::ms) p s o=iterW (stepW ms p) (lenR l p) (loF p l.1) s o:=rfl
structure Stp (r:Bool×Nat×Pts) (s:Nat) (o:Pts) (g:Nat) (q:Pts):Prop where
  ok:r.1=true↔s+g≤1199∧o.length+q.length≤120
  st:r.1=true→r.2.1=s+g∧r.2.2=o++q
  grow:∃z,r.2.2=o++z
  bs:r.2.1≤1200
  bo:r.2.2.length≤121
theorem iterW_stp {f:Int→Nat→Pts→Bool×Nat×Pts} {g:Int→Nat} {q:Int→Pts} (hf:∀v s o,s≤1199→o.length≤120→Stp (f v s o) s o (g v) (q v)):
    ∀(k:Nat) (v:Int) (s:Nat) (o:Pts),s≤1199→o.length≤120→Stp (iterW f k v s o) s o (sumW g k v) (fromP q k v)
  |0,v,s,o,hs,ho=>⟨⟨fun _=>⟨by simpa [sumW]using hs,by simpa [fromP]using ho⟩,fun _=>rfl⟩,fun _=>⟨rfl,by simp[iterW,fromP]⟩,⟨[],by simp[iterW]⟩,by simp[iterW];omega,by simp[iterW];omega⟩
  |k+1,v,s,o,hs,ho=>by
    have h:=hf v s o hs ho
    rw[iterW]
    by_cases hb:(f v s o).1=true
    · rw[if_pos hb]
      obtain⟨h1,h2⟩:=h.ok.1 hb
      obtain⟨h3,h4⟩:=h.st hb
      rw[h3,h4]
      have ih:=iterW_stp hf k (v+1) (s+g v) (o++q v) h1 (by rw[List.length_append];exact h2)
      refine⟨?_,fun e=>?_,?_,ih.bs,ih.bo⟩
      · rw[ih.ok,sumW,fromP,List.length_append,List.length_append]
        omega
      · obtain⟨e1,e2⟩:=ih.st e
        rw[e1,e2,sumW,fromP,List.append_assoc]
        exact⟨by omega,rfl⟩
      · obtain⟨z,hz⟩:=ih.grow
        exact⟨q v++z,by rw[hz,List.append_assoc]⟩
    · rw[if_neg hb]
      refine⟨⟨fun e=>absurd e hb,fun e=>?_⟩,fun e=>absurd e hb,h.grow,h.bs,h.bo⟩
      rw[sumW,fromP,List.length_append]at e
      exact absurd (h.ok.2 ⟨by omega,by omega⟩) hb
theorem walkF_stp:∀(ms:List Lp) (p:List Int) (s:Nat) (o:Pts),s≤1199→o.length≤120→∃g,nodesG ms p=g+1∧Stp (walkF ms p s o) s o g (ptsG ms p)
  |[],p,s,o,hs,ho=>⟨0,rfl,⟨by simp[walkF,ptsG];omega,fun _=>⟨rfl,rfl⟩,⟨[p],rfl⟩,by simp[walkF];omega,by simp[walkF];omega⟩⟩
  |l::ms,p,s,o,hs,ho=>by
    refine⟨_,by rw[nodesG,Nat.add_comm],?_⟩
    rw[walkF_cons,ptsG]
    refine iterW_stp (fun v s o hs ho=>?_) _ _ s o hs ho
    rw[stepW]
    obtain⟨g0,hg0⟩:∃g0,nodesG ms (p++[v])=g0+1:=⟨nodesG ms (p++[v]) -1,by have:=nodesG_pos ms (p++[v]);omega⟩
    by_cases h9:1199≤s
    · rw[if_pos h9]
      refine⟨⟨fun e=>(by cases e),fun e=>?_⟩,fun e=>(by cases e),⟨[],by simp⟩,by show s+1≤1200;omega,by show o.length≤121;omega⟩
      omega
    · rw[if_neg h9]
      obtain⟨g,hg,h⟩:=walkF_stp ms (p++[v]) (s+1) o (by omega) ho
      refine⟨?_,fun e=>?_,h.grow,h.bs,h.bo⟩
      ·rw[h.ok];omega
      · obtain⟨e1,e2⟩:=h.st e
        exact⟨by rw[e1];omega,e2⟩
/-! ### The reference's way -/
def iterN (f:Int→Int→Int) (most:Int):Nat→Int→Int→Int
  |0,_,n=>n
  |k+1,v,n=>if n≤most then iterN f most k (v+1) (f v n)else n
def workF:List Lp→List Int→Int→Int
  |[],_,_=>1
  |l::ms,p,most=>iterN (fun v n=>n+workF ms (p++[v]) (most -n)) most (lenR l p) (loF p l.1) 1
def iterP (f:Int→Pts→Pts):Nat→Int→Pts→Pts
  |0,_,o=>o
  |k+1,v,o=>if o.length≤120 then iterP f k (v+1) (f v o)else o
def ptsF:List Lp→List Int→Pts→Pts
  |[],p,o=>o++[p]
  |l::ms,p,o=>iterP (fun v o=>ptsF ms (p++[v]) o) (lenR l p) (loF p l.1) o
theorem iterN_stop {f:Int→Int→Int} {most:Int}:∀ {k:Nat} {v n:Int},most<n→iterN f most k v n=n
  |0,_,_,_=>rfl
  |k+1,v,n,h=>by rw[iterN,if_neg (by omega)]
theorem iterN_spec {f:Int→Int→Int} {most:Int} {g:Int→Nat} (hf:∀v n,n≤most→(n+g v≤most→f v n=n+g v)∧(most<n+g v→f v n=most+1)):
    ∀(k:Nat) (v n:Int),n≤most→(n+sumW g k v≤most→iterN f most k v n=n+sumW g k v)∧(most<n+sumW g k v→iterN f most k v n=most+1)
  |0,v,n,h=>⟨fun _=>by simp[iterN,sumW],fun e=>by simp[sumW]at e;omega⟩
  |k+1,v,n,h=>by
    obtain⟨h1,h2⟩:=hf v n h
    rw[iterN,if_pos h,sumW]
    by_cases hg:n+g v≤most
    · rw[h1 hg]
      obtain⟨h3,h4⟩:=iterN_spec hf k (v+1) (n+g v) hg
      exact⟨fun e=>by rw[h3 (by omega)];omega,fun e=>h4 (by omega)⟩
    · rw[h2 (by omega),iterN_stop (by omega)]
      exact⟨fun e=>by omega,fun _=>rfl⟩
theorem workF_spec:∀(ms:List Lp) (p:List Int) (most:Int),0≤most→((nodesG ms p:Int)≤most→workF ms p most=nodesG ms p)∧(most<nodesG ms p→workF ms p most=most+1)
  |[],p,most,h=>⟨fun _=>rfl,fun e=>by rw[nodesG]at e;rw[workF];omega⟩
  |l::ms,p,most,h=>by
    rw[workF,nodesG]
    by_cases h1:1≤most
    · have key := iterN_spec (f := fun v n => n + workF ms (p ++ [v]) (most - n)) (most := most) (g := fun v => nodesG ms (p ++ [v])) (fun v n hn => by
        obtain⟨a,b⟩:=workF_spec ms (p++[v]) (most -n) (by omega)
        exact⟨fun e=>by show n+workF ms (p++[v]) (most -n)=_;rw[a (by omega)],fun e=>by show n+workF ms (p++[v]) (most -n)=_;rw[b (by omega)];omega⟩) (lenR l p) (loF p l.1) 1 h1
      exact⟨fun e=>by rw[key.1 (by omega)];omega,fun e=>key.2 (by omega)⟩
    · rw[iterN_stop (by omega)]
      exact⟨fun e=>by omega,fun e=>by omega⟩
theorem iterP_stop {f:Int→Pts→Pts}:∀ {k:Nat} {v:Int} {o:Pts},120<o.length→iterP f k v o=o
  |0,_,_,_=>rfl
  |k+1,v,o,h=>by rw[iterP,if_neg (by omega)]
structure Ptp (r:Pts) (o q:Pts):Prop where
  all:o.length+q.length≤120→r=o++q
  many:120<o.length+q.length→r.length=121
theorem iterP_spec {f:Int→Pts→Pts} {q:Int→Pts} (hf:∀v o,o.length≤120→Ptp (f v o) o (q v)):∀(k:Nat) (v:Int) (o:Pts),o.length≤120→Ptp (iterP f k v o) o (fromP q k v)
  |0,v,o,h=>⟨fun _=>by simp[iterP,fromP],fun e=>by simp[fromP]at e;omega⟩
  |k+1,v,o,h=>by
    have h1:=hf v o h
    rw[iterP,if_pos h,fromP]
    by_cases hg:o.length+(q v).length≤120
    · rw[h1.all hg]
      have h2:=iterP_spec hf k (v+1) (o++q v) (by rw[List.length_append];exact hg)
      exact⟨fun e=>by rw[h2.all (by simp at e ⊢;omega),List.append_assoc],fun e=>h2.many (by simp at e ⊢;omega)⟩
    · have h3:=h1.many (by omega)
      rw[iterP_stop (by omega)]
      exact⟨fun e=>by simp at e;omega,fun _=>h3⟩
theorem ptsF_spec:∀(ms:List Lp) (p:List Int) (o:Pts),o.length≤120→Ptp (ptsF ms p o) o (ptsG ms p)
  |[],p,o,h=>⟨fun _=>rfl,fun e=>by simp[ptsG]at e;simp[ptsF];omega⟩
  |l::ms,p,o,h=>by
    rw[ptsF,ptsG]
    exact iterP_spec (fun v o ho=>ptsF_spec ms (p++[v]) o ho) _ _ _ h
theorem Ptp.len {r o q:Pts} (h:Ptp r o q):r.length≤121:=by
  by_cases hg:o.length+q.length≤120
  ·rw[h.all hg,List.length_append];omega
  ·rw[h.many (by omega)];exact Nat.le_refl _
theorem Ptp.leq {r o q:Pts} (h:Ptp r o q):r.length≤120↔o.length+q.length≤120:=by
  by_cases hg:o.length+q.length≤120
  ·rw[h.all hg,List.length_append]
  ·rw[h.many (by omega)];omega
def okP (ns:List Lp):Bool:=nsV ns&&(decide (nodesG ns []≤1200)&&decide ((ptsG ns []).length≤120))
def npR (ns:List Lp):Pts:=if okP ns=true then ptsG ns []else []
theorem okP_iff {ns:List Lp}:okP ns=true↔nsV ns=true∧nodesG ns []≤1200∧(ptsG ns []).length≤120:=by simp[okP]
/-! ### Coordinates are small -/
def PB (p:List Int):Prop:=∀(i:Nat) x,p[i]?=some x→ -(99 *10^i)≤x∧x≤99 *10^i
theorem PB.nil:PB []:=fun i x h=>by simp at h
theorem PB.getD {p:List Int} (h:PB p) (i:Nat): -(99 *10^i)≤p.getD i 0∧p.getD i 0≤99 *10^i:=by
  rw[List.getD]
  cases e:p[i]? with
  |none=>have:(0:Int)<10^i:=Int.pow_pos (by omega);simp;omega
  |some x=>exact h i x e
theorem mul_bd9 {c z b:Int} (hc: -9≤c∧c≤9) (hz: -b≤z∧z≤b): -(9 *b)≤c *z∧c *z≤9 *b:=by
  have h1:0≤(9 -c) *(b+z):=Int.mul_nonneg (by omega) (by omega)
  have h2:0≤(9+c) *(b -z):=Int.mul_nonneg (by omega) (by omega)
  have h3:0≤(9 -c) *(b -z):=Int.mul_nonneg (by omega) (by omega)
  have h4:0≤(9+c) *(b+z):=Int.mul_nonneg (by omega) (by omega)
  simp only[Int.sub_mul,Int.add_mul,Int.mul_sub,Int.mul_add]at h1 h2 h3 h4
  omega
theorem evalTo_bd9 {x:Aff} (hx:affV x=true) {p:List Int} (hp:PB p):∀k:Nat, -(99 *10^k)+99≤evalTo x.1 p k∧evalTo x.1 p k≤99 *10^k -99
  |0=>by simp[evalTo]
  |k+1=>by
    have h1:=evalTo_bd9 hx hp k
    have h2:=mul_bd9 (affV_getD hx k) (hp.getD k)
    rw[evalTo,Int.pow_succ]
    omega
theorem affEval_bd {x:Aff} (hx:affV x=true) {p:List Int} (hp:PB p): -(99 *10^p.length)≤affEval x p∧affEval x p≤99 *10^p.length:=by
  have h1:=evalTo_bd9 hx hp p.length
  have h2:=affV_const hx
  rw[affEval];omega
theorem mxF_ge (p:List Int):∀(l:List Aff) (m:Int),m≤mxF p m l
  |[],m=>Int.le_refl _
  |x::l,m=>by have:=mxF_ge p l (max m (affEval x p));rw[mxF];omega
theorem mxF_le {p:List Int} {b:Int}:∀(l:List Aff) (m:Int),m≤b→(∀x∈l,affEval x p≤b)→mxF p m l≤b
  |[],m,h,_=>h
  |x::l,m,h,h2=>by
    rw[mxF]
    exact mxF_le l _ (by have:=h2 x (by simp);omega) (fun y hy=>h2 y (by simp[hy]))
theorem mnF_le (p:List Int):∀(l:List Aff) (m:Int),mnF p m l≤m
  |[],m=>Int.le_refl _
  |x::l,m=>by have:=mnF_le p l (min m (affEval x p));rw[mnF];omega
theorem mnF_ge {p:List Int} {b:Int}:∀(l:List Aff) (m:Int),b≤m→(∀x∈l,b≤affEval x p)→b≤mnF p m l
  |[],m,h,_=>h
  |x::l,m,h,h2=>by
    rw[mnF]
    exact mnF_ge l _ (by have:=h2 x (by simp);omega) (fun y hy=>h2 y (by simp[hy]))
theorem loF_bd {p:List Int} (hp:PB p):∀ {l:List Aff},l≠[]→(∀a∈l,affV a=true)→ -(99 *10^p.length)≤loF p l∧loF p l≤99 *10^p.length
  |[],h,_=>absurd rfl h
  |x::l,_,h=>by
    have h1:=affEval_bd (h x (by simp)) hp
    have h2:=mxF_ge p l (affEval x p)
    have h3:=mxF_le (p:=p) l (affEval x p) h1.2 (fun y hy=>(affEval_bd (h y (by simp[hy])) hp).2)
    rw[loF];omega
theorem hiF_bd {p:List Int} (hp:PB p):∀ {l:List Aff},l≠[]→(∀a∈l,affV a=true)→ -(99 *10^p.length)≤hiF p l∧hiF p l≤99 *10^p.length
  |[],h,_=>absurd rfl h
  |x::l,_,h=>by
    have h1:=affEval_bd (h x (by simp)) hp
    have h2:=mnF_le p l (affEval x p)
    have h3:=mnF_ge (p:=p) l (affEval x p) h1.1 (fun y hy=>(affEval_bd (h y (by simp[hy])) hp).1)
    rw[hiF];omega
theorem pow_le4 {k:Nat} (hk:k≤4):(10:Int)^k≤10000:=by
  match k,hk with
  |0,_=>decide
  |1,_=>decide
  |2,_=>decide
  |3,_=>decide
  |4,_=>decide
theorem PB.small {p:List Int} (h:PB p) (hl:p.length≤4):Small p:=by
  intro n hn
  obtain⟨i,hi⟩:=List.mem_iff_getElem?.1 hn
  have h1:=h i n hi
  have h2:=pow_le4 (k:=i) (by have:=(List.getElem?_eq_some_iff.1 hi).1;omega)
  omega
theorem PB.snoc {p:List Int} (h:PB p) {v:Int} (hv: -(99 *10^p.length)≤v∧v≤99 *10^p.length):PB (p++[v]):=by
  intro i x hx
  rw[List.getElem?_append]at hx
  split at hx
  ·exact h i x hx
  · rename_i hi
    have h1:i=p.length:=by
      have:=(List.getElem?_eq_some_iff.1 hx).1
      simp at this;omega
    subst h1
    simp at hx;subst hx;exact hv
end Go.Proofs.YtollooimmfngjaaGreat
namespace Go.Proofs.YtollooimmfngjaaGreat
set_option linter.unusedVariables false
set_option linter.unusedSimpArgs false
end Go.Proofs.YtollooimmfngjaaGreat
namespace Go.Proofs.YtollooimmfngjaaGreat
set_option linter.unusedVariables false
set_option linter.unusedSimpArgs false
open Go.RowKit
theorem mem_fromP {g:Int→Pts} {x:List Int}:∀ {k:Nat} {v:Int},x∈fromP g k v↔∃u,v≤u∧u<v+k∧x∈g u
  |0,v=>by
    simp only[fromP,List.not_mem_nil,false_iff]
    rintro⟨u,h1,h2,_⟩;omega
  |k+1,v=>by
    rw[fromP,List.mem_append,mem_fromP (k:=k)]
    refine⟨fun h=>?_,fun⟨u,h1,h2,h3⟩=>?_⟩
    · rcases h with h|⟨u,h1,h2,h3⟩
      ·exact⟨v,by omega,by omega,h⟩
      ·exact⟨u,by omega,by omega,h3⟩
    · by_cases e:u=v
      ·subst e;exact .inl h3
      ·exact .inr ⟨u,by omega,by omega,h3⟩
theorem take_snocP {x p:List Int} {v:Int}:x.take (p.length+1)=p++[v]↔x.take p.length=p∧x[p.length]?=some v:=by
  refine⟨fun h=>?_,fun⟨h1,h2⟩=>?_⟩
  · have h1 : x.take p.length = p := by
      have:=congrArg (List.take p.length) h
      rw[List.take_take,Nat.min_eq_left (by omega)]at this
      rw[this];simp
    refine⟨h1,?_⟩
    have:=congrArg (·[p.length]?) h
    simpa [List.getElem?_take]using this
  ·rw[List.take_add_one,h1,h2];rfl
theorem mem_ptsG:∀ {ms:List Lp} {p x:List Int},x∈ptsG ms p↔x.length=p.length+ms.length∧x.take p.length=p∧inG x p.length ms=true
  |[],p,x=>by
    simp only[ptsG,List.mem_singleton,inG,List.length_nil,Nat.add_zero,and_true]
    refine⟨fun e=>by subst e;simp,fun⟨h1,h2⟩=>by rw[←h1,List.take_length]at h2;exact h2⟩
  |l::ms,p,x=>by
    rw[ptsG,mem_fromP,inG,Bool.and_eq_true,Bool.and_eq_true,decide_eq_true_eq,decide_eq_true_eq]
    refine⟨fun⟨u,h1,h2,h3⟩=>?_,fun⟨h1,h2,⟨h3,h4⟩,h5⟩=>?_⟩
    · rw[mem_ptsG,snoc_len']at h3
      obtain⟨a,b,c⟩:=h3
      obtain⟨b1,b2⟩:=take_snocP.1 b
      have hg:x.getD p.length 0=u:=getD_some b2
      rw[b1,hg]
      refine⟨by simp at a ⊢;omega,rfl,⟨h1,?_⟩,c⟩
      rw[lenR]at h2;omega
    · rw[h2]at h3 h4
      have hx:x[p.length]?=some (x.getD p.length 0):=by
        rw[List.getD,List.getElem?_eq_getElem (by simp at h1;omega)];rfl
      refine⟨x.getD p.length 0,h3,by rw[lenR];omega,?_⟩
      rw[mem_ptsG,snoc_len']
      exact⟨by simp at h1 ⊢;omega,take_snocP.2 ⟨h2,hx⟩,h5⟩
  where
  snoc_len' {p:List Int} {v:Int}:(p++[v]).length=p.length+1:=by simp
theorem mem_pts {ns:List Lp} {x:List Int}:x∈ptsG ns []↔x.length=ns.length∧inG x 0 ns=true:=by
  rw[mem_ptsG];simp
/-! ### Coordinates -/
theorem inG_at {x:List Int}:∀ {ms:List Lp} {i:Nat},inG x i ms=true→∀(j:Nat) l,ms[j]?=some l→loF (x.take (i+j)) l.1≤x.getD (i+j) 0∧x.getD (i+j) 0<hiF (x.take (i+j)) l.2
  |[],i,h,j,l,hl=>by simp at hl
  |m::ms,i,h,j,l,hl=>by
    rw[inG,Bool.and_eq_true,Bool.and_eq_true,decide_eq_true_eq,decide_eq_true_eq]at h
    cases j with
    |zero=>simp at hl;subst hl;exact h.1
    |succ j=>
      have:=inG_at h.2 j l (by simpa using hl)
      rwa[show i+1+j=i+(j+1)by omega]at this
theorem inG_of {x:List Int}:∀ {ms:List Lp} {i:Nat},(∀(j:Nat) l,ms[j]?=some l→loF (x.take (i+j)) l.1≤x.getD (i+j) 0∧x.getD (i+j) 0<hiF (x.take (i+j)) l.2)→inG x i ms=true
  |[],i,h=>rfl
  |m::ms,i,h=>by
    rw[inG,Bool.and_eq_true,Bool.and_eq_true,decide_eq_true_eq,decide_eq_true_eq]
    refine⟨h 0 m rfl,inG_of fun j l hl=>?_⟩
    have:=h (j+1) l (by simpa using hl)
    rwa[show i+1+j=i+(j+1)by omega]
theorem inG_iff {x:List Int} {ns:List Lp}:inG x 0 ns=true↔∀(j:Nat) l,ns[j]?=some l→loF (x.take j) l.1≤x.getD j 0∧x.getD j 0<hiF (x.take j) l.2:=
  ⟨fun h j l hl=>by have:=inG_at h j l hl;rwa[Nat.zero_add]at this,fun h=>inG_of fun j l hl=>by rw[Nat.zero_add];exact h j l hl⟩
theorem PB_of_in {ns:List Lp} (hv:nsV ns=true) {x:List Int} (hl:x.length=ns.length) (h:inG x 0 ns=true):∀k,k≤ns.length→PB (x.take k)
  |0,_=>by rw[List.take_zero];exact PB.nil
  |k+1,hk=>by
    have ih:=PB_of_in hv hl h k (by omega)
    have hx:x[k]?=some (x.getD k 0):=by rw[List.getD,List.getElem?_eq_getElem (by omega)];rfl
    obtain⟨l,hl2⟩:∃l,ns[k]?=some l:=⟨_,List.getElem?_eq_getElem (by omega)⟩
    have h1:=inG_iff.1 h k l hl2
    have hk4:=(nsV_at hv).1
    have hlen:(x.take k).length=k:=by rw[List.length_take];omega
    have hR:=okR_of hv hl2 (ih.small (by omega)) (by omega)
    have h2:=loF_bd ih hR.n1 hR.v1
    have h3:=hiF_bd ih hR.n2 hR.v2
    rw[hlen]at h2 h3
    rw[List.take_add_one,hx]
    exact ih.snoc (by rw[hlen];omega)
/-! ### Order -/
section
variable {P : Program} {n : Nat} {ops : Array Oper} {o : Oper} {σ : St} {d : Nat} {t t2 e : TypeId} {x : Operand}
theorem St1.eqNilF (e:TypeId) {sz:Nat} {rows:List (List D)} (ho:o.op= .binOp .eql t x (.const (.slice none 0 0)) t2) (hg:o.guard=none) (hd:o.dst=some d) (hn:Nat.blt d n=true) (hx:ev σ x=some (.o (.c (.d (.list sz rows))))) (h0:0<rows.length) (ht:P.underlying t=some (.slice e):=by kernel_rfl):
    St1 P n ops o σ (rd x) [.t d] ((.t d,.v (.o (bo1 false)))::σ):=
  St1.value hg hd hn fun E bx τ a w hR hs=>by
    obtain⟨ad,cap,e1,_,_,_,h4⟩:=(ev_list hx hR hs).slice
    obtain⟨b,off,rfl,_⟩:=h4 h0
    have hv:a.eval (.const (.slice none 0 0))= .slice none 0 0:=rfl
    refine⟨⟨.bool false,?_,.val _ rfl⟩,fun k hk=>by cases hk⟩
    simp only[execOp,ho,e1,hv]
    rw[Sem.run_bind]
    simp[eqGuard,Lib.run_eql_slice_nil w t e _ _ _ 0 0 ht]
theorem St1.eqNilT (e:TypeId) (ho:o.op= .binOp .eql t x (.const (.slice none 0 0)) t2) (hg:o.guard=none) (hd:o.dst=some d) (hn:Nat.blt d n=true) (hx:ev σ x=some (.o (.c (.d (.val (.slice none 0 0)))))) (ht:P.underlying t=some (.slice e):=by kernel_rfl):
    St1 P n ops o σ (rd x) [.t d] ((.t d,.v (.o (bo1 true)))::σ):=
  St1.value hg hd hn fun E bx τ a w hR hs=>by
    have hv:a.eval (.const (.slice none 0 0))= .slice none 0 0:=rfl
    refine⟨⟨.bool true,?_,.val _ rfl⟩,fun k hk=>by cases hk⟩
    simp only[execOp,ho,ev_val hx hR hs,hv]
    rw[Sem.run_bind]
    simp[eqGuard,Lib.run_eql_slice_nil w t e _ _ _ 0 0 ht]
end
theorem dr_nil {B:Nat→Prop} {w:World} {v:Value} (sz:Nat) (h:Dr B w (.val (.slice none 0 0)) v):Dr B w (.list sz []) v:=by
  cases h
  exact Dr.list sz [] none 0 0 0 0 (fun _ _=>undef) rfl (Nat.le_refl _) (by omega) (fun _=>rfl) (fun h=>by simp at h) (fun i r h=>by simp at h) (fun i r j x h=>by simp at h) (fun i r j x h=>by simp at h)
abbrev vN:V1:=vD (.val (.slice none 0 0))
theorem Fn.nilArg {P:Program} {f:FuncId} {hb hb':St} {pre post:List V1} {sz:Nat} {y:V} (F:Fn P f hb (pre++vD (.list sz [])::post) y hb'):Fn P f hb (pre++vN::post) y hb':=by
  intro B bx w vs hh hv
  refine F B bx w vs hh ⟨by simpa using hv.1,fun i x v hx hv'=>?_⟩
  by_cases hi:i=pre.length
  · subst hi
    simp at hx
    subst hx
    exact dr_nil sz (hv.2 pre.length vN v (by simp) hv')
  · refine hv.2 i x v ?_ hv'
    rw[List.getElem?_append]at hx ⊢
    split at hx
    ·rename_i h1;rw[if_pos h1];exact hx
    · rename_i h1
      rw[if_neg h1]
      obtain⟨j,hj⟩:∃j,i -pre.length=j+1:=⟨i -pre.length -1,by omega⟩
      rw[hj]at hx ⊢
      exact hx
theorem iterW_lt {f:Int→Nat→Pts→Bool×Nat×Pts} {hi v:Int} {s:Nat} {o:Pts} (h:v<hi):iterW f (hi -v).toNat v s o=if (f v s o).1=true then iterW f (hi -(v+1)).toNat (v+1) (f v s o).2.1 (f v s o).2.2 else f v s o:=by
  obtain⟨k,hk⟩:∃k,(hi -v).toNat=k+1:=⟨(hi -v).toNat -1,by omega⟩
  rw[hk,iterW,show (hi -(v+1)).toNat=k by omega]
theorem iterW_ge {f:Int→Nat→Pts→Bool×Nat×Pts} {hi v:Int} {s:Nat} {o:Pts} (h:¬v<hi):iterW f (hi -v).toNat v s o=(true,s,o):=by
  rw[show (hi -v).toNat=0 by omega];rfl
theorem iterW_grow {f:Int→Nat→Pts→Bool×Nat×Pts} (hf:∀v s o,∃z,(f v s o).2.2=o++z):∀(k:Nat) (v:Int) (s:Nat) (o:Pts),∃z,(iterW f k v s o).2.2=o++z
  |0,v,s,o=>⟨[],by simp[iterW]⟩
  |k+1,v,s,o=>by
    rw[iterW]
    obtain⟨z,hz⟩:=hf v s o
    split
    · obtain⟨z2,h2⟩:=iterW_grow hf k (v+1) (f v s o).2.1 (f v s o).2.2
      exact⟨z++z2,by rw[h2,hz,List.append_assoc]⟩
    ·exact⟨z,hz⟩
theorem walkF_grow:∀(ms:List Lp) (p:List Int) (s:Nat) (o:Pts),∃z,(walkF ms p s o).2.2=o++z
  |[],p,s,o=>⟨[p],rfl⟩
  |l::ms,p,s,o=>by
    rw[walkF_cons]
    refine iterW_grow (fun v s o=>?_) _ _ _ _
    rw[stepW]
    split
    ·exact⟨[],by simp⟩
    ·exact walkF_grow ms (p++[v]) (s+1) o
theorem stepW_grow (ms:List Lp) (p:List Int) (v:Int) (s:Nat) (o:Pts):∃z,(stepW ms p v s o).2.2=o++z:=by
  rw[stepW]
  split
  ·exact⟨[],by simp⟩
  ·exact walkF_grow ms (p++[v]) (s+1) o
theorem dIs_snoc (p:List Int) (v:Int):dIs (p++[v])= .list 1 (p.map rI++[rI v]):=by rw[dIs,List.map_append];rfl
/-! ### The walking struct -/
def rWk (ns:List Lp) (s:Nat):List D:=[dLs ns,dI (s:Nat),.val (.slice none 0 0)]
def hbN (ns:List Lp) (s:Nat):St:=[(.b 0,.b 158 3 (dR [rWk ns s])),(.u 0,.u)]
def hbO (k:Nat) (ns:List Lp) (s:Nat) (o:Pts):St:=[(.b 0,.b 158 3 [[.d (dLs ns),.d (dI (s:Nat)),.own k 1 o.length]]),(.u 0,.u),(.b k,.b 43 1 (dR (o.map rIs))),(.u k,.u)]
theorem hbN_HB (ns:List Lp) (s:Nat):HB (hbN ns s):=HB.nil.data
theorem hbN_flat (ns:List Lp) (s:Nat):flatS (hbN ns s):=flatS.nil.cons rfl
theorem hbO_HB (k:Nat) (ns:List Lp) (s:Nat) (o:Pts):HB (hbO k ns s o):=HB.cons HB.nil.data (by
  intro r hr c hc l hl
  rw[List.mem_singleton.1 hr]at hc
  have:l=k:=by
    rcases List.mem_cons.1 hc with rfl|hc
    ·cases hl
    · rcases List.mem_cons.1 hc with rfl|hc
      ·cases hl
      · rcases List.mem_cons.1 hc with rfl|hc
        ·simpa [C.refs]using hl
        ·cases hc
  subst this
  rw[lk_cons]
  by_cases e:l=0
  ·subst e;rw[upd_same];exact fun e=>by cases e
  ·rw[upd_other _ _ (by simpa using e),lk_cons,upd_other _ _ (by simp),lk_cons,upd_same];exact fun e=>by cases e)
theorem hbO_flat1 (ns:List Lp) (s:Nat) (o:Pts):flatS (hbO 1 ns s o):=(flatS.nil.cons rfl).cons rfl
theorem hbO_flat3 (ns:List Lp) (s:Nat) (o:Pts):flatS (hbO 1000 ns s o):=(flatS.nil.cons rfl).cons rfl
theorem al_N {ns:List Lp} {s k:Nat} (h:Al (lk (hbN ns s)) k):k=0:=by
  obtain⟨e,sz,rows,h⟩:=h
  have hm:=lk_mem h (by simp)
  simp only[hbN,List.mem_cons,List.not_mem_nil,or_false]at hm
  rcases hm with hm|hm
  ·cases hm;rfl
  ·cases hm
theorem al_O {k0:Nat} {ns:List Lp} {s:Nat} {o:Pts} {k:Nat} (h:Al (lk (hbO k0 ns s o)) k):k=0∨k=k0:=by
  obtain⟨e,sz,rows,h⟩:=h
  have hm:=lk_mem h (by simp)
  simp only[hbO,List.mem_cons,List.not_mem_nil,or_false]at hm
  rcases hm with hm|hm|hm|hm
  ·cases hm;exact .inl rfl
  ·cases hm
  ·cases hm;exact .inr rfl
  ·cases hm
theorem num_NN (ns:List Lp) (s s':Nat):∀k,k<100→Al (lk (hbN ns s')) k→Al (lk (hbN ns s)) k:=fun k _ h=>by rw[al_N h];exact⟨_,_,_,rfl⟩
theorem num_NO (ns:List Lp) (s s':Nat) (o:Pts):∀k,k<100→Al (lk (hbO 1000 ns s' o)) k→Al (lk (hbN ns s)) k:=fun k hk h=>by
  rcases al_O h with rfl|rfl
  ·exact⟨_,_,_,rfl⟩
  ·omega
theorem num_OO (ns:List Lp) (s s':Nat) (o o':Pts):∀k,k<100→Al (lk (hbO 1000 ns s' o')) k→Al (lk (hbO 1 ns s o)) k:=fun k hk h=>by
  rcases al_O h with rfl|rfl
  ·exact⟨_,_,_,rfl⟩
  ·omega
theorem outS_O {inv:Inv} {k:Nat} {ns:List Lp} {s:Nat} {o:Pts}:outS inv (hbO k ns s o)=[(.b (asc inv 0),.b 158 3 [[.d (dLs ns),.d (dI (s:Nat)),.own (asc inv k) 1 o.length]]),(.u (asc inv 0),.u),(.b (asc inv k),.b 43 1 (dR (o.map rIs))),(.u (asc inv k),.u)]:=by
  show [(Res.b (asc inv 0),RC.b _ 3 [[C.d (dLs ns),C.d (dI (s:Nat)),C.own (asc inv k) 1 o.length]]),(.u (asc inv 0),.u),(.b (asc inv k),.b _ 1 (renR (asc inv) (dR (o.map rIs)))),(.u (asc inv k),.u)]=_
  rw[renR_dR]
structure WOk (ns:List Lp) (ms:List Lp) (p:List Int) (x:D) (s:Nat) (o:Pts):Prop where
  nn:o=[]→(walkF ms p s o).2.2=[]→Fn Tryz.prog 106 (hbN ns s) [.c (.box 0 3 0 0),vD x] (.o (bo1 (walkF ms p s o).1)) (hbN ns (walkF ms p s o).2.1)
  no:o=[]→(walkF ms p s o).2.2≠[]→Fn Tryz.prog 106 (hbN ns s) [.c (.box 0 3 0 0),vD x] (.o (bo1 (walkF ms p s o).1)) (hbO 1000 ns (walkF ms p s o).2.1 (walkF ms p s o).2.2)
  oo:o≠[]→Fn Tryz.prog 106 (hbO 1 ns s o) [.c (.box 0 3 0 0),vD x] (.o (bo1 (walkF ms p s o).1)) (hbO 1000 ns (walkF ms p s o).2.1 (walkF ms p s o).2.2)
theorem clone_own {p:List Int} (hp:0<p.length) (hp2:p.length≤4294967296):Fn Tryz.prog 67 [] [vD (dIs p)] (.o (.c (.own 100 1 p.length))) [(.b 100,.b 3 1 (dR (p.map rI))),(.u 100,.u)]:=by
 refine Fn.of_code Tryz.func67 rfl rfl HB.nil rfl rfl HB.nil.data rfl (one_num rfl) ?_
 refine .r<|.c .a<|.nn<|.seq<|.r<|.c .m ?_
 refine .c (.eqNilF 3 rfl rfl rfl rfl rfl (by simp;exact hp)) ?_
 refine .nn ?_
 refine .k0 ?_
 refine .skip<|ks_n<|.r<|.c (St1.lit0 (k':=105) (e:=3) (sz:=1) (b:=true) rfl rfl rfl rfl (by kernel_rfl) rfl rfl) ?_
 refine .c .m ?_
 refine .c (St1.appB (k':=107) (e:=3) (sz:=0) (by':=8) rfl rfl rfl rfl rfl (by kernel_rfl) rfl rfl rfl rfl rfl (by simp;omega) rfl rfl rfl) ?_
 refine .c .a<|.nn<|.ret ?_
 refine kf_wret [(.t 2,.v (.o (.c (.own 100 1 (p.length))))),(.b 100,.b 3 1 (dR (p.map rI))),eU 100] (Wk.keep [(100,107)] rfl rfl ⟨kW,kb 107 rfl (.dt rfl (by first|rfl|(simp[dR];done))),trivial⟩) rfl ?_ (one_box rfl)
 rfl
theorem clone_dat {p:List Int} (hp:0<p.length) (hp2:p.length≤4294967296):Fn Tryz.prog 67 [] [vD (dIs p)] (.o (vD (dIs p))) []:=by
 refine Fn.code0 Tryz.func67 rfl rfl rfl rfl ?_
 refine .r<|.c .a<|.nn<|.seq<|.r<|.c .m ?_
 refine .c (.eqNilF 3 rfl rfl rfl rfl rfl (by simp;exact hp)) ?_
 refine .nn ?_
 refine .k0 ?_
 refine .skip<|ks_n<|.r<|.c (St1.lit0 (k':=105) (e:=3) (sz:=1) (b:=true) rfl rfl rfl rfl (by kernel_rfl) rfl rfl) ?_
 refine .c .m ?_
 refine .c (St1.appB (k':=107) (e:=3) (sz:=0) (by':=8) rfl rfl rfl rfl rfl (by kernel_rfl) rfl rfl rfl rfl rfl (by simp;omega) rfl rfl rfl) ?_
 refine .c .a<|.nn<|.ret ?_
 refine kf_wret [eD 2 (dIs p)] (Wk.keep [] rfl rfl ⟨ks rfl (.c (.fz rfl)),trivial⟩) rfl ?_ nobox
 rfl
theorem clone_nilN  :Fn Tryz.prog 67 [] [vN] (.o vN) []:=by
 refine Fn.code0 Tryz.func67 rfl rfl rfl rfl ?_
 refine .r<|.c .a<|.nn<|.seq<|.r<|.c .m ?_
 refine .c (.eqNilT 3 rfl rfl rfl rfl rfl)<|.nn ?_
 refine .k1 ?_
 refine .r<|.c .a<|.nn<|.ret<|ks_r ?_
 refine kf_ret rfl ?_ nobox
 rfl
theorem clone_nilD  :Fn Tryz.prog 67 [] [vN] (.o (vD (dIs []))) []:=by
 refine Fn.code0 Tryz.func67 rfl rfl rfl rfl ?_
 refine .r<|.c .a<|.nn<|.seq<|.r<|.c .m ?_
 refine .c (.eqNilT 3 rfl rfl rfl rfl rfl)<|.nn ?_
 refine .k1 ?_
 refine .r<|.c .a<|.nn<|.ret<|ks_r ?_
 refine kf_wret [eD 2 (dIs [])] (Wk.keep [] rfl rfl ⟨ks rfl (.c (.nil _)),trivial⟩) rfl ?_ nobox
 rfl
theorem span_fn {l:Lp} {p:List Int} (h:okR l p):Fn Tryz.prog 145 [] [ad (rL l),vD (dIs p)] (.tup [nat1 (loF p l.1),nat1 (hiF p l.2)]) []:=by
 obtain⟨x0,hx0⟩:=ne_at h.n1
 obtain⟨y0,hy0⟩:=ne_at h.n2
 have hb1:=h.b1
 have hb2:=h.b2
 refine Fn.code0 Tryz.func145 rfl rfl rfl rfl ?_
 refine .r<|.c .bp<|.c .a<|.c .a<|.nn<|.seq ?_
 refine ACode.drawK (by kernel_rfl) (by kernel_rfl) ?_
 refine .c (.fP 0 0 false)<|.c (.l1 1) ?_
 refine .c (.xL 61 2 32 (i:=0) rfl rfl rfl rfl rfl (map_at hx0)) ?_
 refine .c (.lN 2)<|.c .m ?_
 refine .c (.cP [.tmp 15,.tmp 16] rfl rfl rfl rfl (eval_fn (h.v1 _ (List.mem_of_getElem? hx0)) h.sm h.ln) rfl) ?_
 refine .c (.fP 1 0 false)<|.c (.l1 1) ?_
 refine .c (.xL 61 2 32 (i:=0) rfl rfl rfl rfl rfl (map_at hy0)) ?_
 refine .c (.lN 2)<|.c .m ?_
 refine .c (.cP [.tmp 21,.tmp 22] rfl rfl rfl rfl (eval_fn (h.v2 _ (List.mem_of_getElem? hy0)) h.sm h.ln) rfl) ?_
 refine .c .a<|.c .a ?_
 refine .nil ⟨by kernel_rfl,?_⟩
 refine ks_n<|.seq<|.r<|.c (.fP 0 0 false)<|.c (.l1 1)<|.c (.ln 61 2 32)<|.c .m<|.nn<|.block ?_
 refine .loopK (fun m σ=>(∃(i:Nat) (c:Int),m=l.1.length -i∧(i≤l.1.length)∧(loF p l.1=mxF p c (l.1.drop i))∧σ=[eD 1 (dIs p),eP 2 (rL l),eN 6 c,eN 7 (affEval y0 p),eD 25 (dAs l.1),eN 26 (l.1.length:Nat),eN 27 (i:Nat)])) [] ⟨0,affEval x0 p,rfl,(by omega),(loF_zero hx0),rfl⟩ ⟨kd,kd,kd,kd,kd,kd,kd,trivial⟩ ?_
 rintro m σ ⟨i,c,hm0,hi,hF,rfl⟩
 refine .r<|.c .ls<|.nn<|.seq ?_
 refine .cD rfl (fun h28=>?_) (fun h28=>?_)
 ·skip
  obtain⟨x,hx1⟩:∃x,l.1[i]?=some x:=⟨_,List.getElem?_eq_getElem (by omega)⟩
  refine .skip<|ks_n<|.seq<|.block<|.r<|.c (.xL 61 2 32) ?_
  refine .c (.lN 2)<|.c (.al 109 [.slice none 0 0,.int .i64 0])<|.c (.sT 2 true)<|.nn<|.region<|.c .m<|.c (.bN 2)<|.c .m ?_
  refine .c (.cP [.tmp 32,.tmp 33] rfl rfl rfl rfl (eval_fn (h.v1 _ (List.mem_of_getElem? hx1)) h.sm h.ln) rfl) ?_
  refine .c (St1.max2 rfl rfl rfl rfl rfl rfl)<|.c .a<|.nil<|kb_n<|ks_n<|.region<|.c .pl<|.c .m<|.nil ?_
  refine kl_k [] ⟨i+1,max c (affEval x p),rfl,by omega,by rw[hF,mxF_drop hx1],rfl⟩ ⟨kd,kd,kd,kd,kd,kd,kd,trivial⟩
 ·skip
  have hlo:V.o (nat1 c)= .o (nat1 (loF p l.1)):=by rw[hF,mxF_end (by omega)]
  refine .exit<|ks_e<|kl_e<|kb_hit<|ks_n<|.seq<|.r<|.c (.fP 1 0 false)<|.c (.l1 1)<|.c (.ln 61 2 32)<|.c .m<|.nn<|.block ?_
  refine .loopK (fun m σ=>(∃(i:Nat) (c:Int),m=l.2.length -i∧(i≤l.2.length)∧(hiF p l.2=mnF p c (l.2.drop i))∧σ=[eD 1 (dIs p),eP 2 (rL l),eN 6 (loF p l.1),eN 7 c,eD 38 (dAs l.2),eN 39 (l.2.length:Nat),eN 40 (i:Nat)])) [] ⟨0,affEval y0 p,rfl,(by omega),(hiF_zero hy0),rfl⟩ ⟨kd,kd,ks rfl (.dt (by first|rfl|exact hlo)),kd,kd,kd,kd,trivial⟩ ?_
  rintro m σ ⟨i,c,hm0,hi,hF,rfl⟩
  refine .r<|.c .ls<|.nn<|.seq ?_
  refine .cD rfl (fun h41=>?_) (fun h41=>?_)
  ·skip
   obtain⟨x,hx1⟩:∃x,l.2[i]?=some x:=⟨_,List.getElem?_eq_getElem (by omega)⟩
   refine .skip<|ks_n<|.seq<|.block<|.r<|.c (.xL 61 2 32) ?_
   refine .c (.lN 2)<|.c (.al 111 [.slice none 0 0,.int .i64 0])<|.c (.sT 2 true)<|.nn<|.region<|.c .m<|.c (.bN 2)<|.c .m ?_
   refine .c (.cP [.tmp 45,.tmp 46] rfl rfl rfl rfl (eval_fn (h.v2 _ (List.mem_of_getElem? hx1)) h.sm h.ln) rfl) ?_
   refine .c (St1.min2 rfl rfl rfl rfl rfl rfl)<|.c .a<|.nil<|kb_n<|ks_n<|.region<|.c .pl<|.c .m<|.nil ?_
   refine kl_k [] ⟨i+1,min c (affEval x p),rfl,by omega,by rw[hF,mnF_drop hx1],rfl⟩ ⟨kd,kd,ks rfl (.dt (by first|rfl|exact hlo)),kd,kd,kd,kd,trivial⟩
  ·skip
   have hhi:c=hiF p l.2:=by rw[hF,mnF_end (by omega)]
   refine .exit<|ks_e<|kl_e<|kb_hit<|ks_n<|.r<|.c .m<|.c .m<|.c .a<|.c .a<|.nn<|.ret ?_
   refine kf_ret rfl ?_ nobox
   rw[hhi];rfl
theorem l2Range_fn {l:Lp} {p:List Int} (h:okR l p):Fn Tryz.prog 126 [] [ad (rL l),vD (dIs p)] (.tup [nat1 (loF p l.1),nat1 (hiF p l.2)]) []:=by
  obtain⟨x0,hx0⟩:=ne_at h.n1
  obtain⟨y0,hy0⟩:=ne_at h.n2
  have hb1:=h.b1
  have hb2:=h.b2
  refine Fn.code0 Tryz.func126 rfl rfl rfl rfl ?_
  refine .r<|.c .bp<|.c .a<|.c .a<|.r<|.c (.fP 0 0 false)<|.c (.l1 1) ?_
  refine .c (.xL 61 2 32 (i:=0) rfl rfl rfl rfl rfl (map_at hx0)) ?_
  refine .c (.lN 2)<|.c .m ?_
  refine .c (.cP [.tmp 15,.tmp 16] rfl rfl rfl rfl (l1Eval_fn (h.v1 _ (List.mem_of_getElem? hx0)) h.sm h.ln) rfl) ?_
  refine .c .a<|.r<|.c (.fP 1 0 false)<|.c (.l1 1) ?_
  refine .c (.xL 61 2 32 (i:=0) rfl rfl rfl rfl rfl (map_at hy0)) ?_
  refine .c (.lN 2)<|.c .m ?_
  refine .c (.cP [.tmp 21,.tmp 22] rfl rfl rfl rfl (l1Eval_fn (h.v2 _ (List.mem_of_getElem? hy0)) h.sm h.ln) rfl) ?_
  refine .c .a<|.nn<|.seq<|.r<|.c .a<|.nn<|.block ?_
  refine .loopK (fun m σ=>(∃(i:Nat) (c:Int),m=l.1.length -i∧(i≤l.1.length)∧(loF p l.1=mxF p c (l.1.drop i))∧σ=[eD 1 (dIs p),eP 2 (rL l),eN 6 c,eN 7 (affEval y0 p),eN 8 (i:Nat)])) [] ⟨1,affEval x0 p,rfl,(by have:=(List.getElem?_eq_some_iff.1 hx0).1;omega),(loF_one hx0),rfl⟩ ⟨kd,kd,ks rfl (.dt (by first|rfl|exact congrArg (fun z=>V.o (nat1 z)) (mx_le h40).symm|exact congrArg (fun z=>V.o (nat1 z)) (mx_lt h40).symm)),kd,kd,trivial⟩ ?_
  rintro m σ ⟨i,c,hm0,hi,hF,rfl⟩
  refine .seq<|.r<|.c .m<|.c (.fP 0 0 false)<|.c (.l1 1)<|.c (.ln 61 2 32)<|.c .ls<|.nn ?_
  refine .cD rfl (fun h28=>?_) (fun h28=>?_)
  · skip
    obtain⟨x,hx1⟩:∃x,l.1[i]?=some x:=⟨_,List.getElem?_eq_getElem (by omega)⟩
    refine .skip<|ks_n<|.seq<|.block<|.r<|.c (.fP 0 0 false)<|.c (.l1 1)<|.c .m<|.c (.xL 61 2 32) ?_
    refine .c (.lN 2)<|.c .m ?_
    refine .c (.cP [.tmp 35,.tmp 36] rfl rfl rfl rfl (l1Eval_fn (h.v1 _ (List.mem_of_getElem? hx1)) h.sm h.ln) rfl) ?_
    refine .c .a<|.r<|.c .m<|.c .m<|.c .gt<|.nn ?_
    refine .cD rfl (fun h40=>?_) (fun h40=>?_)
    · skip
      refine .region<|.c .m<|.c .a<|.nil<|kb_n<|ks_n<|.region<|.c .m<|.c .pl<|.c .a<|.nil ?_
      refine kl_k [] ⟨i+1,max c (affEval x p),rfl,by omega,by rw[hF,mxF_drop hx1],rfl⟩ ⟨kd,kd,ks rfl (.dt (by first|rfl|exact congrArg (fun z=>V.o (nat1 z)) (mx_le h40).symm|exact congrArg (fun z=>V.o (nat1 z)) (mx_lt h40).symm)),kd,kd,trivial⟩
    · skip
      refine .skip<|kb_n<|ks_n<|.region<|.c .m<|.c .pl<|.c .a<|.nil ?_
      refine kl_k [] ⟨i+1,max c (affEval x p),rfl,by omega,by rw[hF,mxF_drop hx1],rfl⟩ ⟨kd,kd,ks rfl (.dt (by first|rfl|exact congrArg (fun z=>V.o (nat1 z)) (mx_le h40).symm|exact congrArg (fun z=>V.o (nat1 z)) (mx_lt h40).symm)),kd,kd,trivial⟩
  · skip
    have hlo:V.o (nat1 c)= .o (nat1 (loF p l.1)):=by rw[hF,mxF_end (by omega)]
    refine .exit<|ks_e<|kl_e<|kb_hit<|ks_n<|.seq<|.r<|.c .a<|.nn<|.block ?_
    refine .loopK (fun m σ=>(∃(i:Nat) (c:Int),m=l.2.length -i∧(i≤l.2.length)∧(hiF p l.2=mnF p c (l.2.drop i))∧σ=[eD 1 (dIs p),eP 2 (rL l),eN 6 (loF p l.1),eN 7 c,eN 10 (i:Nat)])) [] ⟨1,affEval y0 p,rfl,(by have:=(List.getElem?_eq_some_iff.1 hy0).1;omega),(hiF_one hy0),rfl⟩ ⟨kd,kd,ks rfl (.dt (by first|rfl|exact hlo)),ks rfl (.dt (by first|rfl|exact congrArg (fun z=>V.o (nat1 z)) (mn_le h58).symm|exact congrArg (fun z=>V.o (nat1 z)) (mn_lt h58).symm)),kd,trivial⟩ ?_
    rintro m σ ⟨i,c,hm0,hi,hF,rfl⟩
    refine .seq<|.r<|.c .m<|.c (.fP 1 0 false)<|.c (.l1 1)<|.c (.ln 61 2 32)<|.c .ls<|.nn ?_
    refine .cD rfl (fun h46=>?_) (fun h46=>?_)
    · skip
      obtain⟨x,hx1⟩:∃x,l.2[i]?=some x:=⟨_,List.getElem?_eq_getElem (by omega)⟩
      refine .skip<|ks_n<|.seq<|.block<|.r<|.c (.fP 1 0 false)<|.c (.l1 1)<|.c .m<|.c (.xL 61 2 32) ?_
      refine .c (.lN 2)<|.c .m ?_
      refine .c (.cP [.tmp 53,.tmp 54] rfl rfl rfl rfl (l1Eval_fn (h.v2 _ (List.mem_of_getElem? hx1)) h.sm h.ln) rfl) ?_
      refine .c .a<|.r<|.c .m<|.c .m<|.c .ls<|.nn ?_
      refine .cD rfl (fun h58=>?_) (fun h58=>?_)
      · skip
        refine .region<|.c .m<|.c .a<|.nil<|kb_n<|ks_n<|.region<|.c .m<|.c .pl<|.c .a<|.nil ?_
        refine kl_k [] ⟨i+1,min c (affEval x p),rfl,by omega,by rw[hF,mnF_drop hx1],rfl⟩ ⟨kd,kd,ks rfl (.dt (by first|rfl|exact hlo)),ks rfl (.dt (by first|rfl|exact congrArg (fun z=>V.o (nat1 z)) (mn_le h58).symm|exact congrArg (fun z=>V.o (nat1 z)) (mn_lt h58).symm)),kd,trivial⟩
      · skip
        refine .skip<|kb_n<|ks_n<|.region<|.c .m<|.c .pl<|.c .a<|.nil ?_
        refine kl_k [] ⟨i+1,min c (affEval x p),rfl,by omega,by rw[hF,mnF_drop hx1],rfl⟩ ⟨kd,kd,ks rfl (.dt (by first|rfl|exact hlo)),ks rfl (.dt (by first|rfl|exact congrArg (fun z=>V.o (nat1 z)) (mn_le h58).symm|exact congrArg (fun z=>V.o (nat1 z)) (mn_lt h58).symm)),kd,trivial⟩
    · skip
      have hhi:c=hiF p l.2:=by rw[hF,mnF_end (by omega)]
      refine .exit<|ks_e<|kl_e<|kb_hit<|ks_n<|.r<|.c .m<|.c .m<|.c .a<|.c .a<|.nn<|.ret ?_
      refine kf_ret rfl ?_ nobox
      rw[hhi];rfl
theorem iterN_lt {f:Int→Int→Int} {most hi v n:Int} (h:v<hi) (hn:n≤most):iterN f most (hi -v).toNat v n=iterN f most (hi -(v+1)).toNat (v+1) (f v n):=by
  obtain⟨k,hk⟩:∃k,(hi -v).toNat=k+1:=⟨(hi -v).toNat -1,by omega⟩
  rw[hk,iterN,if_pos hn,show (hi -(v+1)).toNat=k by omega]
theorem iterN_ge {f:Int→Int→Int} {most hi v n:Int} (h:¬v<hi):iterN f most (hi -v).toNat v n=n:=by
  rw[show (hi -v).toNat=0 by omega];rfl
theorem iterP_lt {f:Int→Pts→Pts} {hi v:Int} {o:Pts} (h:v<hi) (hn:o.length≤120):iterP f (hi -v).toNat v o=iterP f (hi -(v+1)).toNat (v+1) (f v o):=by
  obtain⟨k,hk⟩:∃k,(hi -v).toNat=k+1:=⟨(hi -v).toNat -1,by omega⟩
  rw[hk,iterP,if_pos hn,show (hi -(v+1)).toNat=k by omega]
theorem iterP_ge {f:Int→Pts→Pts} {hi v:Int} {o:Pts} (h:¬v<hi):iterP f (hi -v).toNat v o=o:=by
  rw[show (hi -v).toNat=0 by omega];rfl
theorem workF_bd (ms:List Lp) (p:List Int) {m:Int} (h:0≤m):1≤workF ms p m∧workF ms p m≤m+1:=by
  obtain⟨h1,h2⟩:=workF_spec ms p m h
  have:=nodesG_pos ms p
  by_cases hc:(nodesG ms p:Int)≤m
  ·rw[h1 hc];omega
  ·rw[h2 (by omega)];omega
theorem Fn.arg2c {P:Program} {f:FuncId} {hb hb':St} {x z:V1} {d1 d2:D} {y:V} (h:d1=d2) (F:Fn P f hb [x,vD d1,z] y hb'):Fn P f hb [x,vD d2,z] y hb':=h▸F
theorem Fn.arg3 {P:Program} {f:FuncId} {hb hb':St} {x z:V1} {d1 d2:D} {y:V} (h:d1=d2) (F:Fn P f hb [x,z,vD d1] y hb'):Fn P f hb [x,z,vD d2] y hb':=h▸F
theorem work_leaf {ns:List Lp} {p:List Int} {most:Int} (hp:p.length=ns.length):Fn Tryz.prog 133 [] [vD (dLs ns),vD (dIs p),nat1 most] (.o (nat1 1)) []:=by
  refine Fn.code0 Tryz.func133 rfl rfl rfl rfl ?_
  refine .r<|.c .a<|.r<|.c .a<|.nn<|.seq<|.r<|.c .m<|.c (.ln 3 1 8)<|.c .m<|.c (.ln 148 2 48)<|.c .eq<|.nn ?_
  refine .cD rfl (fun h15=>?_) (fun h15=>?_)
  · skip
    refine .r<|.c .m<|.c .a<|.nn<|.ret<|ks_r ?_
    refine kf_ret rfl ?_ nobox
    rfl
  · skip
    omega
theorem work_node {ns:List Lp} (hn:ns.length≤4) {l:Lp} {ms:List Lp} {p:List Int} (hl:ns[p.length]?=some l) (hR:okR l p) (hlo: -100000000≤loF p l.1∧loF p l.1≤100000000) (hhi: -100000000≤hiF p l.2∧hiF p l.2≤100000000) {most:Int} (hm:0≤most∧most≤1200) (ih:∀v m,loF p l.1≤v→v<hiF p l.2→0≤m→m≤1200→Fn Tryz.prog 133 [] [vD (dLs ns),vD (dIs (p++[v])),nat1 m] (.o (nat1 (workF ms (p++[v]) m))) []):Fn Tryz.prog 133 [] [vD (dLs ns),vD (dIs p),nat1 most] (.o (nat1 (workF (l::ms) p most))) []:=by
 refine Fn.code0 Tryz.func133 rfl rfl rfl rfl ?_
 refine .r<|.c .a<|.r<|.c .a<|.nn<|.seq<|.r<|.c .m<|.c (.ln 3 1 8)<|.c .m<|.c (.ln 148 2 48)<|.c .eq<|.nn ?_
 refine .cD rfl (fun h15=>?_) (fun h15=>?_)
 ·skip
  have:=(List.getElem?_eq_some_iff.1 hl).1;omega
 ·skip
  refine .skip<|ks_n<|.r<|.c .m<|.c .m<|.c (.ln 3 1 8) ?_
  refine .c (.xL 148 2 48 rfl rfl rfl rfl rfl (map_at hl)) ?_
  refine .c (.lN 2)<|.c .m ?_
  refine .c (.cP [.tmp 22,.tmp 23] rfl rfl rfl rfl (l2Range_fn hR) rfl) ?_
  refine .c .m<|.c .ex<|.c .ex<|.c .a<|.c .a<|.nn<|.seq<|.r<|.c .m<|.c .a<|.nn<|.block ?_
  refine .loopK (fun m σ=>(∃(v n:Int),m=(hiF p l.2 -v).toNat∧(loF p l.1≤v)∧(1≤n∧n≤most+1)∧(iterN (fun v n=>n+workF ms (p++[v]) (most -n)) most (hiF p l.2 -v).toNat v n=workF (l::ms) p most)∧σ=[eD 0 (dLs ns),eD 1 (dIs p),eN 2 most,eN 7 n,eN 9 (hiF p l.2),eN 10 v])) [] ⟨loF p l.1,1,rfl,(by omega),(by omega),rfl,rfl⟩ ⟨kd,kd,kd,kd,kd,kd,trivial⟩ ?_
  rintro m σ ⟨v,n,hm0,h1,h2,hE,rfl⟩
  refine .seq<|.r<|.c .m<|.c .m<|.c .ls<|.c .m ?_
  refine .cD 31 rfl (fun g31=>?_) (fun g31=>?_)
  ·skip
   refine .c (.g .m)<|.c (.g .m)<|.c (.g .le)<|.c .pT<|.nn ?_
   refine ACode.condT rfl (fun h35=>?_) (fun h35=>?_)
   ·try simp only[zs]at h35
    have hw:=workF_bd ms (p++[v]) (m:=most -n) (by omega)
    refine .skip<|ks_n<|.seq<|.block<|.region<|.c .m<|.c .m ?_
    refine .c (St1.lit0 (k':=140) (e:=3) (sz:=1) (b:=true) rfl rfl rfl rfl (by kernel_rfl) rfl rfl) ?_
    refine .c .m ?_
    refine .c (St1.appB (k':=142) (e:=3) (sz:=0) (by':=8) rfl rfl rfl rfl rfl (by kernel_rfl) rfl rfl rfl rfl rfl (by simp;have:=hR.ln;omega) rfl rfl rfl) ?_
    refine .c .m<|.c (.li 3 0 0 [.tmp 43]) ?_
    refine .c (St1.appD (rows:=p.map rI) (e:=3) (sz:=0) (by':=8) rfl rfl rfl rfl rfl (by kernel_rfl) rfl rfl rfl rfl (by simp) (by simp;have:=hR.ln;omega) rfl) ?_
    refine .c .m<|.c .m<|.c .sb ?_
    refine .c (.cP [.tmp 39,.tmp 45,.tmp 48] rfl rfl rfl rfl (Fn.arg2c (dIs_snoc p v) (ih v (most -n) h1 g31 (by omega) (by omega))) rfl) ?_
    refine .c .pl<|.c .a<|.nil<|kb_n<|ks_n<|.region<|.c .m<|.c .pl<|.c .a<|.nil ?_
    refine kl_k [] ⟨v+1,n+workF ms (p++[v]) (most -n),rfl,by omega,by omega,by rw[←hE,iterN_lt g31 (by omega)],rfl⟩ ⟨kd,kd,kd,kd,kd,kd,trivial⟩
   ·try simp only[zs]at h35
    refine .exit<|ks_e<|kl_e<|kb_hit<|ks_n<|.r<|.c .m<|.c .a<|.nn<|.ret ?_
    refine kf_ret rfl ?_ nobox
    first|exact leafI (by rw[←hE,iterN_ge g31])|exact leafI (by rw[←hE,iterN_stop (by omega)])
  ·skip
   refine .c .f<|.c .f<|.c .f<|.c .pF<|.nn ?_
   refine .k0 ?_
   refine .exit<|ks_e<|kl_e<|kb_hit<|ks_n<|.r<|.c .m<|.c .a<|.nn<|.ret ?_
   refine kf_ret rfl ?_ nobox
   first|exact leafI (by rw[←hE,iterN_ge g31])|exact leafI (by rw[←hE,iterN_stop (by omega)])
theorem drop_tail {ns:List Lp} {k:Nat} {l:Lp} {ms:List Lp} (h:ns.drop k=l::ms):ns[k]?=some l∧ns.drop (k+1)=ms:=by
  have h1:ns[k]?=some l:=by
    have:=congrArg (·[0]?) h
    simpa [List.getElem?_drop]using this
  refine⟨h1,?_⟩
  have:=drop_at h1
  rw[h]at this
  exact(List.cons.inj this).2.symm
theorem node_facts {ns:List Lp} (hv:nsV ns=true) {p:List Int} (hp:PB p) (hl4:p.length≤4) {l:Lp} (hl:ns[p.length]?=some l):okR l p∧(-(99 *10^p.length)≤loF p l.1∧loF p l.1≤99 *10^p.length)∧(-(99 *10^p.length)≤hiF p l.2∧hiF p l.2≤99 *10^p.length)∧(10:Int)^p.length≤10000:=by
  have hR:=okR_of hv hl (hp.small hl4) hl4
  exact⟨hR,loF_bd hp hR.n1 hR.v1,hiF_bd hp hR.n2 hR.v2,pow_le4 hl4⟩
theorem snoc_len (p:List Int) (v:Int):(p++[v]).length=p.length+1:=by simp
theorem l2Work_fn {ns:List Lp} (hv:nsV ns=true):∀(ms:List Lp) (p:List Int) (most:Int),ns.drop p.length=ms→p.length≤ns.length→PB p→0≤most→most≤1200→Fn Tryz.prog 133 [] [vD (dLs ns),vD (dIs p),nat1 most] (.o (nat1 (workF ms p most))) []
  |[],p,most,hd,hle,hp,h0,h1=>work_leaf (by have:=congrArg List.length hd;rw[List.length_drop]at this;simp at this;omega)
  |l::ms,p,most,hd,hle,hp,h0,h1=>by
    obtain⟨hl,hd2⟩:=drop_tail hd
    have hlt:=(List.getElem?_eq_some_iff.1 hl).1
    have h4:=(nsV_at hv).1
    obtain⟨hR,hlo,hhi,h10⟩:=node_facts hv hp (by omega) hl
    exact work_node h4 hl hR (by omega) (by omega) ⟨h0,h1⟩ (fun v m a b c d=>l2Work_fn hv ms (p++[v]) m (by rw[snoc_len];exact hd2) (by rw[snoc_len];omega) (hp.snoc (by omega)) c d)
def hbPt (k:Nat) (o:Pts):St:=[(.b k,.b 43 1 (dR (o.map rIs))),(.u k,.u)]
theorem hbIn_one {σ:St} {inv:Inv} {k:Nat} {e:TypeId} {sz:Nat} {rows:List (List D)} (h:lk σ (.b (asc inv k))= .b e sz (dR rows)):hbIn σ inv [(.b k,.b e sz (dR rows)),(.u k,.u)]:=⟨by rw[renR_dR];exact h,trivial⟩
theorem hbPt_HB (k:Nat) (o:Pts):HB (hbPt k o):=HB.nil.data
theorem hbPt_flat (k:Nat) (o:Pts):flatS (hbPt k o):=flatS.nil.cons rfl
theorem pts_leaf {ns:List Lp} {p:List Int} (hp:p.length=ns.length) (hp4:p.length≤4) {o0:Pts} (ho:o0.length≤120):Fn Tryz.prog 84 (hbPt 0 o0) [.c (.own 0 1 o0.length),vD (dLs ns),vD (dIs p)] (.o (.c (.own 1000 1 (o0++[p]).length))) (hbPt 1000 (o0++[p])):=by
  refine Fn.of_code Tryz.func84 rfl rfl (hbPt_HB _ _) rfl rfl (hbPt_HB _ _) rfl (one_num rfl) ?_
  refine .r<|.c .a<|.nn<|.seq<|.r<|.c .m<|.c (.ln 3 1 8)<|.c .m<|.c (.ln 148 2 48)<|.c .eq<|.nn ?_
  refine .cD rfl (fun h14=>?_) (fun h14=>?_)
  · skip
    refine .r<|.c .m ?_
    refine .c (St1.lit0 (k':=116) (e:=3) (sz:=1) (b:=true) rfl rfl rfl rfl (by kernel_rfl) rfl rfl) ?_
    refine .c .m ?_
    refine .c (St1.appD (rows:=[]) (e:=3) (sz:=0) (by':=8) rfl rfl rfl rfl rfl (by kernel_rfl) rfl rfl rfl rfl rfl (by simp;omega) rfl) ?_
    refine .c (.li 43 0 0 [.tmp 18]) ?_
    refine .c (St1.appB (k':=1020) (e:=43) (sz:=0) (by':=24) rfl rfl rfl rfl rfl (by kernel_rfl) rfl rfl rfl rfl (by simp[dR]) (by simp[dR];omega) rfl rfl rfl) ?_
    refine .c .a<|.nn<|.ret<|ks_r ?_
    refine kf_wret [(.t 6,.v (.o (.c (.own 1000 1 ((o0++[p]).length))))),(.b 1000,.b 43 1 (dR ((o0++[p]).map rIs))),eU 1000] (Wk.keep [(1000,1020)] rfl rfl ⟨kW,kb 1020 rfl (.dt rfl (by simp[dR,rIs];rfl)),trivial⟩) rfl ?_ (one_box rfl)
    rfl
  · skip
    omega
theorem pts_node {ns:List Lp} (hn:ns.length≤4) {l:Lp} {ms:List Lp} {p:List Int} (hl:ns[p.length]?=some l) (hR:okR l p) (hlo: -100000000≤loF p l.1∧loF p l.1≤100000000) (hhi: -100000000≤hiF p l.2∧hiF p l.2≤100000000) {o0:Pts} (ho:o0.length≤120) (ih:∀v o,loF p l.1≤v→v<hiF p l.2→o.length≤120→Fn Tryz.prog 84 (hbPt 0 o) [.c (.own 0 1 o.length),vD (dLs ns),vD (dIs (p++[v]))] (.o (.c (.own 1000 1 (ptsF ms (p++[v]) o).length))) (hbPt 1000 (ptsF ms (p++[v]) o))):Fn Tryz.prog 84 (hbPt 0 o0) [.c (.own 0 1 o0.length),vD (dLs ns),vD (dIs p)] (.o (.c (.own 1000 1 (ptsF (l::ms) p o0).length))) (hbPt 1000 (ptsF (l::ms) p o0)):=by
 refine Fn.of_code Tryz.func84 rfl rfl (hbPt_HB _ _) rfl rfl (hbPt_HB _ _) rfl (one_num rfl) ?_
 refine .r<|.c .a<|.nn<|.seq<|.r<|.c .m<|.c (.ln 3 1 8)<|.c .m<|.c (.ln 148 2 48)<|.c .eq<|.nn ?_
 refine .cD rfl (fun h14=>?_) (fun h14=>?_)
 ·skip
  have:=(List.getElem?_eq_some_iff.1 hl).1;omega
 ·skip
  refine .skip<|ks_n<|.r<|.c .m<|.c .m<|.c (.ln 3 1 8) ?_
  refine .c (.xL 148 2 48 rfl rfl rfl rfl rfl (map_at hl)) ?_
  refine .c (.lN 2)<|.c .m ?_
  refine .c (.cP [.tmp 26,.tmp 27] rfl rfl rfl rfl (l2Range_fn hR) rfl) ?_
  refine .c .m<|.c .ex<|.c .ex<|.c .a<|.c .a<|.nn<|.seq<|.r<|.c .m<|.c .a<|.nn<|.block ?_
  refine .loopK (fun m σ=>(∃(v:Int) (o:Pts),m=(hiF p l.2 -v).toNat∧(loF p l.1≤v)∧(o.length≤121)∧(iterP (fun v o=>ptsF ms (p++[v]) o) (hiF p l.2 -v).toNat v o=ptsF (l::ms) p o0)∧σ=[(.t 0,.v (.o (.c (.own 1010 1 (o.length))))),eD 1 (dLs ns),eD 2 (dIs p),eN 8 (hiF p l.2),eN 9 v,(.b 1010,.b 43 1 (dR (o.map rIs))),eU 1010])) [(1010,0)] ⟨loF p l.1,o0,rfl,(by omega),(by omega),rfl,rfl⟩ ⟨kW,kd,kd,kd,kd,kb 0 rfl (.dt rfl),trivial⟩ ?_
  rintro m σ ⟨v,o,hm0,h1,h2,hE,rfl⟩
  refine .seq<|.r<|.c .m<|.c .m<|.c .ls<|.c .m ?_
  refine .cD 35 rfl (fun g35=>?_) (fun g35=>?_)
  ·skip
   refine .c (.g .m)<|.c (.g (.lB 43 1 24))<|.c (.g .le)<|.c .pT<|.nn ?_
   refine ACode.condT rfl (fun h39=>?_) (fun h39=>?_)
   ·try simp only[zs]at h39
    have hw:=ptsF_spec ms (p++[v]) o (by omega)
    refine .skip<|ks_n<|.seq<|.block<|.region<|.c .m<|.c .m ?_
    refine .c (St1.lit0 (k':=144) (e:=3) (sz:=1) (b:=true) rfl rfl rfl rfl (by kernel_rfl) rfl rfl) ?_
    refine .c .m ?_
    refine .c (St1.appB (k':=146) (e:=3) (sz:=0) (by':=8) rfl rfl rfl rfl rfl (by kernel_rfl) rfl rfl rfl rfl rfl (by simp;have:=hR.ln;omega) rfl rfl rfl) ?_
    refine .c .m<|.c (.li 3 0 0 [.tmp 47]) ?_
    refine .c (St1.appD (rows:=p.map rI) (e:=3) (sz:=0) (by':=8) rfl rfl rfl rfl rfl (by kernel_rfl) rfl rfl rfl rfl (by simp) (by simp;have:=hR.ln;omega) rfl) ?_
    refine .c (.cO [.tmp 42,.tmp 43,.tmp 49] [(0,1010),(1000,1050)] rfl rfl rfl rfl (Fn.arg3 (dIs_snoc p v) (ih v o h1 g35 (by omega))) rfl (hbIn_one rfl) (hbPt_flat _ _) (hbPt_flat _ _) (hbPt_HB _ _) outS_one) ?_
    refine .c .a<|.nil<|kb_n<|ks_n<|.region<|.c .m<|.c .pl<|.c .a<|.nil ?_
    refine kl_k [(1010,1050)] ⟨v+1,ptsF ms (p++[v]) o,rfl,by omega,hw.len,by rw[←hE,iterP_lt g35 (by omega)],rfl⟩ ⟨kW,kd,kd,kd,kd,kb 1050 rfl (.dt rfl),trivial⟩
   ·try simp only[zs]at h39
    obtain rfl:o=ptsF (l::ms) p o0:=by rw[←hE,iterP_stop (by omega)]
    refine .exit<|ks_e<|kl_e<|kb_hit<|ks_n<|.r<|.c .m<|.c .a<|.nn<|.ret ?_
    refine kf_wret [(.t 6,.v (.o (.c (.own 1000 1 ((ptsF (l::ms) p o0).length))))),(.b 1000,.b 43 1 (dR ((ptsF (l::ms) p o0).map rIs))),eU 1000] (Wk.keep [(1000,1010)] rfl rfl ⟨kW,kb 1010 rfl (.dt rfl),trivial⟩) rfl ?_ (one_box rfl)
    rfl
  ·skip
   obtain rfl:o=ptsF (l::ms) p o0:=by rw[←hE,iterP_ge g35]
   refine .c .f<|.c .f<|.c .f<|.c .pF<|.nn ?_
   refine .k0 ?_
   refine .exit<|ks_e<|kl_e<|kb_hit<|ks_n<|.r<|.c .m<|.c .a<|.nn<|.ret ?_
   refine kf_wret [(.t 6,.v (.o (.c (.own 1000 1 ((ptsF (l::ms) p o0).length))))),(.b 1000,.b 43 1 (dR ((ptsF (l::ms) p o0).map rIs))),eU 1000] (Wk.keep [(1000,1010)] rfl rfl ⟨kW,kb 1010 rfl (.dt rfl),trivial⟩) rfl ?_ (one_box rfl)
   rfl
theorem l2Points_fn {ns:List Lp} (hv:nsV ns=true):∀(ms:List Lp) (p:List Int) (o:Pts),ns.drop p.length=ms→p.length≤ns.length→PB p→o.length≤120→Fn Tryz.prog 84 (hbPt 0 o) [.c (.own 0 1 o.length),vD (dLs ns),vD (dIs p)] (.o (.c (.own 1000 1 (ptsF ms p o).length))) (hbPt 1000 (ptsF ms p o))
  |[],p,o,hd,hle,hp,ho=>pts_leaf (by have:=congrArg List.length hd;rw[List.length_drop]at this;simp at this;omega) (by have:=(nsV_at hv).1;omega) ho
  |l::ms,p,o,hd,hle,hp,ho=>by
    obtain⟨hl,hd2⟩:=drop_tail hd
    have hlt:=(List.getElem?_eq_some_iff.1 hl).1
    have h4:=(nsV_at hv).1
    obtain⟨hR,hlo,hhi,h10⟩:=node_facts hv hp (by omega) hl
    exact pts_node h4 hl hR (by omega) (by omega) ho (fun v o a b c=>l2Points_fn hv ms (p++[v]) o (by rw[snoc_len];exact hd2) (by rw[snoc_len];omega) (hp.snoc (by omega)) c)
end Go.Proofs.YtollooimmfngjaaGreat
